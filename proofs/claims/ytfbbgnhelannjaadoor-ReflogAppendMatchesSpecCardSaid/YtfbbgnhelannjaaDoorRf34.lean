/-
  Logs: walk of 'Of'.
-/
import Derived.Test.YtfbbgnhelannjaaDoorRf28
namespace Rf
/-- What 'Of' answers. -/
def ofL (l : List E) (n : Nm) : List E := l.filter fun e => decide (e.upd.name = n)
def ofF (l : List E) (n : Nm) : List E × (Int × Int) := if 60 < l.length then ([], (2, -1)) else (ofL l n, (0, 0))
end Rf
namespace Go.Proofs.YtfbbgnhelannjaaDoor
open Go.RowKit Go.V Go.Shelf Go.Lib
set_option linter.unusedVariables false

/-- A log and a fault. -/
def OfPost (w : World) (r : List Rf.E × (Int × Int)) (e : Ending) (w' : World) : Prop := ∃ A c, e = .returned (.tuple #[.slice A r.1.length c, .agg #[.int .i64 r.2.1, .int .i64 r.2.2]]) ∧ r.1.length ≤ c ∧ SA w' (Under w.heap.size) A (esV r.1) ∧ Below w.heap.size w w'
theorem OfPost.mk_ {w w' : World} {r : List Rf.E × (Int × Int)} {A : Option Addr} {c : Nat} {l : List Rf.E} {a b : Int} (h : r = (l, (a, b))) (hc : l.length ≤ c) (hs : SA w' (Under w.heap.size) A (esV l)) (hb : Below w.heap.size w w') : OfPost w r (.returned (.tuple #[.slice A l.length c, .agg #[.int .i64 a, .int .i64 b]])) w' := by
  subst h; exact ⟨A, c, rfl, hc, hs, hb⟩
/-- The fault that is left. -/
structure OfSt (w wr : World) : Prop where
  r2 : Blk wr w.heap.size 30 #[.int .i64 0, .int .i64 0]
  bel : Below w.heap.size w wr
section
variable {w wr w' : World}
theorem OfSt.below (h : OfSt w wr) (hb : Below wr.heap.size wr w') : OfSt w w' := ⟨h.r2.below hb h.r2.lt, h.bel.trans (hb.mono h.bel.size)⟩
theorem OfSt.facts (h : OfSt w wr) : wr.cell? ⟨w.heap.size, 0, none⟩ = some (.int .i64 0) ∧ wr.cell? ⟨w.heap.size, 1, none⟩ = some (.int .i64 0) ∧ wr.frozen? ⟨w.heap.size, 0, none⟩ = false ∧ wr.frozen? ⟨w.heap.size, 1, none⟩ = false ∧ w.heap.size < wr.heap.size :=
  ⟨(h.r2.cell 0).trans rfl, (h.r2.cell 1).trans rfl, h.r2.frozen 0, h.r2.frozen 1, h.r2.lt⟩
theorem OfSt.put (h : OfSt w wr) (u v : Value) : Blk ((wr.setCell ⟨w.heap.size, 0, none⟩ u).setCell ⟨w.heap.size, 1, none⟩ v) w.heap.size 30 #[u, v] ∧ Below w.heap.size w ((wr.setCell ⟨w.heap.size, 0, none⟩ u).setCell ⟨w.heap.size, 1, none⟩ v) :=
  ⟨blk_put2 h.r2 u v, (h.bel.setCell (p := ⟨w.heap.size, 0, none⟩) (Nat.le_refl _) u).setCell (p := ⟨w.heap.size, 1, none⟩) (Nat.le_refl _) v⟩
end
theorem esV_snoc (o : List Rf.E) (x : Rf.E) : esV o ++ [.int .i64 x.time, strV x.upd.name, .int .i64 x.upd.old, .int .i64 x.upd.new] = esV (o ++ [x]) := by simp [esV, eC]
set_option maxRecDepth 100000 in
set_option maxHeartbeats 16000000 in
theorem of_any (w : World) (A : Option Addr) (k : Nat) (l : List Rf.E) (n : List UInt8) (hv : SA w Free A (esV l)) (hl : l.length ≤ 9223372036854775806) :
    Calls Tryd.prog 38 #[.slice A l.length k, strV n] w (OfPost w (Rf.ofF l n)) := by
  obtain ⟨i0, z0, hi0, hz0, hz1, hz2, hzs⟩ := info_parts' info69
  have HV := Lib.hid (fun (w1 : World) (hb : Below w.heap.size w w1) => hv.keep (free_below hb))
  have HPF := Lib.hid (Rf.ofF.eq_1 l n)
  clear hv
  generalize Rf.ofF l n = r at *
  have st0 : OfSt w (w.alloc (.cells #[.int .i64 0, .int .i64 0] 30)) := ⟨Blk.new _ _ _, below_alloc1 _ _⟩
  by_cases h60 : 60 < l.length
  · have H := Lib.hid (HPF.out.trans (if_pos h60))
    have h60' : (60 : Int) < l.length := by omega
    clear HPF h60
    go_enter Tryd.func38, Tryd.ntmps38
    go_wp2_with fail
    exact bodyPost_ret (results_tc30 rfl _ _ w.heap.size (.int .i64 2) (.int .i64 (-1)) (.slice none 0 0) rfl rfl (Blk.new w 30 #[.int .i64 2, .int .i64 (-1)])) rfl (OfPost.mk_ (l := []) H.out (Nat.le_refl _) SA.nil (below_alloc1 _ _))
  · have HP2 := Lib.hid (HPF.out.trans (if_neg h60))
    have h60' : ¬ (60 : Int) < l.length := by omega
    have hl60 : l.length ≤ 60 := by omega
    clear HPF h60
    have hsz0 : (w.alloc (.cells #[.int .i64 0, .int .i64 0] 30)).heap.size = w.heap.size + 1 := by simp
    go_enter Tryd.func38, Tryd.ntmps38
    go_wp2_with fail
    generalize w.alloc (.cells #[.int .i64 0, .int .i64 0] 30) = wl at *
    go_loopw [6, 15] (fun ov iv wr => ∃ (i : Nat) (o : List Rf.E) (A' : Option Addr) (c' : Nat), i ≤ l.length ∧ iv = .int .i64 i ∧ ov = .slice A' o.length c' ∧ o.length ≤ i ∧ Hid (o = Rf.ofL (l.take i) n) ∧ OfSt w wr ∧ w.heap.size + 1 ≤ wr.heap.size ∧ wr.ownsRow (w.heap.size + 1) 69 4 (.slice A' o.length c') o.length (esV o)) (fun _ iv _ => l.length - (intOf iv).toNat)
    case atStart => exact ⟨0, [], none, 0, Nat.zero_le _, rfl, rfl, Nat.le_refl _, Lib.hid rfl, st0, by omega, World.ownsRow_nil _ _ _ _⟩
    case round =>
      obtain ⟨i, o, A', c', hi, rfl, rfl, hol, HO, st, hsz, hown⟩ := hrel
      obtain ⟨wo, rfl⟩ : ∃ wo : World, wo = wr := ⟨_, rfl⟩
      obtain ⟨a1, a2, a3, a4, l1⟩ := st.facts
      by_cases hlt : i < l.length
      · have hlt' : (i : Int) < l.length := by omega
        obtain ⟨b, off, e, hbb, _, d0, d1, d2, d3⟩ := esV_row (HV.out _ st.bel) i hlt
        subst e
        have HT : Hid (l.take (i + 1) = l.take i ++ [l[i]]) := Lib.hid (List.take_succ_eq_append_getElem hlt)
        generalize l[i] = x at *
        have bx1 := Blk.new wo 69 #[.int .i64 x.time, strV x.upd.name, .int .i64 x.upd.old, .int .i64 x.upd.new]
        have sx := st.below (below_alloc1 wo (.cells #[.int .i64 x.time, strV x.upd.name, .int .i64 x.upd.old, .int .i64 x.upd.new] 69))
        have ow1 := hown.alloc (.cells #[.int .i64 x.time, strV x.upd.name, .int .i64 x.upd.old, .int .i64 x.upd.new] 69)
        by_cases hp : x.upd.name = n
        · have HN2 : Hid (o ++ [x] = Rf.ofL (l.take (i + 1)) n) := Lib.hid (by rw [HT.out, HO.out]; unfold Rf.ofL; rw [List.filter_append]; simp [hp])
          have hp1 : (x.upd.name == n) = true := by simpa using hp
          clear HT HO hp
          have hsv1 : SV ((wo.alloc (.cells #[.int .i64 x.time, strV x.upd.name, .int .i64 x.upd.old, .int .i64 x.upd.new] 69)).alloc (.cells #[.int .i64 x.time, strV x.upd.name, .int .i64 x.upd.old, .int .i64 x.upd.new] 69)) (wo.heap.size + 1 + 1) (some ⟨wo.heap.size + 1, 0, none⟩) [.int .i64 x.time, strV x.upd.name, .int .i64 x.upd.old, .int .i64 x.upd.new] := by simpa using SV.lit (wo.alloc (.cells #[.int .i64 x.time, strV x.upd.name, .int .i64 x.upd.old, .int .i64 x.upd.new] 69)) #[.int .i64 x.time, strV x.upd.name, .int .i64 x.upd.old, .int .i64 x.upd.new] 69
          go_wp2_with (first | (at_builtin; refine wpList_appN _ rfl (.tmp 24) (.tmp 26) 54 rfl (w.heap.size + 1) 69 i0 _ 4 40 Tryd.underlying54 hi0 hz0 hz1 hz2 hzs (by decide) A' o.length c' (esV o) rfl (ow1.alloc (.cells #[.int .i64 x.time, strV x.upd.name, .int .i64 x.upd.old, .int .i64 x.upd.new] 69)) _ _ 1 1 [.int .i64 x.time, strV x.upd.name, .int .i64 x.upd.old, .int .i64 x.upd.new] rfl rfl hsv1 (by intro v hv; simp at hv; rcases hv with rfl | rfl | rfl | rfl <;> rfl) ?ha1 ?hb1 ?hc1 ?_))
          case ha1 => unfold maxLen; omega
          case hb1 => omega
          case hc1 => simp; omega
          intro A2 c2 w2 own2 hg2 _
          have hr2 : ∀ b, (Value.slice A' o.length c').ownBlock = some b → w.heap.size + 1 ≤ b := fun b e => (hown.lt b e).1
          have sx2 := sx.below (below_alloc1 _ (.cells #[.int .i64 x.time, strV x.upd.name, .int .i64 x.upd.old, .int .i64 x.upd.new] 69))
          have s2 : OfSt w w2 := ⟨sx2.r2.grown hg2 (fun e => by have := hr2 _ e.symm; omega), sx2.bel.grown hg2 sx2.bel.size (fun b e => by have := hr2 b e; omega)⟩
          have hsz3 : w.heap.size + 1 ≤ w2.heap.size := by have := hg2.size; simp at this; omega
          rw [esV_snoc] at own2
          have hol3 : (o ++ [x]).length = o.length + 1 := by simp
          clear a1 a2 a3 a4 hg2 sx sx2 ow1 bx1 hsv1 d0 d1 d2 d3
          go_wp2_with fail
          go_roundw
          case rel => exact ⟨i + 1, o ++ [x], A2, c2, by omega, by go_num, by rw [hol3], by simp; omega, HN2, s2, hsz3, by rw [hol3]; exact own2⟩
          case measure => simp [intOf]; omega
        · have HN2 : Hid (o = Rf.ofL (l.take (i + 1)) n) := Lib.hid (by rw [HT.out, HO.out]; unfold Rf.ofL; rw [List.filter_append]; simp [hp])
          have hp1 : (x.upd.name == n) = false := by simpa using hp
          clear HT HO hp
          go_wp2_with fail
          go_roundw
          case rel => exact ⟨i + 1, o, A', c', by omega, by go_num, rfl, by omega, HN2, sx, by simp; omega, ow1⟩
          case measure => simp [intOf]; omega
      · obtain rfl : i = l.length := by omega
        have H : Hid (r = (o, (0, 0))) := Lib.hid (by rw [HP2.out, HO.out, List.take_length])
        have hcap : o.length ≤ c' := by
          obtain ⟨A'', c'', e1, hcc, _⟩ := own_form hown
          injection e1 with _ _ e3
          subst e3; exact hcc
        clear HO HP2
        go_wp2_with fail
        obtain ⟨k1, k2⟩ := st.put (.int .i64 0) (.int .i64 0)
        refine bodyPost_ret (results_tc30 rfl _ _ w.heap.size (.int .i64 0) (.int .i64 0) (.slice A' o.length c') rfl rfl k1) rfl ?_
        have hlo : ∀ b, (Value.slice A' o.length c').ownBlock = some b → w.heap.size + 1 ≤ b := fun b hb => (hown.lt b hb).1
        have hne2 : some w.heap.size ≠ (Value.slice A' o.length c').ownBlock := fun e => by have := hlo _ e.symm; omega
        exact OfPost.mk_ H.out hcap (SA.of_own' (own_setCell (own_setCell hown hne2 _) hne2 _) (fun b hb hU => by have := hlo b hb; unfold Under at hU; omega)) k2
end Go.Proofs.YtfbbgnhelannjaaDoor
