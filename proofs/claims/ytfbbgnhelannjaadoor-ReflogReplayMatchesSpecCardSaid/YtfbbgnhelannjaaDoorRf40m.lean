/-
  Logs: walk of 'Of'.
  ReflogNamesIndependent: the law's walk.
  Two variables made in any order: the last step, whatever the row.
  ReflogReplayMatchesSpec: the law's walk.
-/
import Derived.Test.YtfbbgnhelannjaaDoorRf28
import Derived.Test.YtfbbgnhelannjaaDoorRf33
import Derived.Test.YtfbbgnhelannjaaDoorView14
import Derived.Deep.RegionHeld3
import Derived.Test.YtfbbgnhelannjaaDoorRf30
import Derived.Test.YtfbbgnhelannjaaDoorRf31
import Derived.Test.YtfbbgnhelannjaaDoorRf32
namespace Rf
/-- What 'Of' answers. -/
def ofL (l : List E) (n : Nm) : List E := l.filter fun e => decide (e.upd.name = n)
def ofF (l : List E) (n : Nm) : List E × (Int × Int) := if 60 < l.length then ([], (2, -1)) else (ofL l n, (0, 0))
end Rf
namespace Go.Proofs.YtfbbgnhelannjaaDoor
open Go.RowKit Go.V Go.Shelf Go.Lib
set_option linter.unusedVariables false

/-- A log and a fault. -/
def OfPost (w : World) (r : List Rf.E × (Int × Int)) (e : Ending) (w' : World) : Prop := ∃ A c, e = .returned (.tuple #[.slice A r.1.length c, .agg #[.int .i64 r.2.1, .int .i64 r.2.2]]) ∧ r.1.length ≤ c ∧ SA w' (Under w.heap.size) A (esV r.1) ∧ Below w.heap.size w w'
theorem OfPost.mk_ {w w' : World} {r : List Rf.E × (Int × Int)} {A : Option Addr} {c : Nat} {l : List Rf.E} {a b : Int} (h : r = (l, (a, b))) (hc : l.length ≤ c) (hs : SA w' (Under w.heap.size) A (esV l)) (hb : Below w.heap.size w w') : OfPost w r (.returned (.tuple #[.slice A l.length c, .agg #[.int .i64 a, .int .i64 b]])) w' := by
  subst h; exact ⟨A, c, rfl, hc, hs, hb⟩
/-- The fault that is left. -/
structure OfSt (w wr : World) : Prop where
  r2 : Blk wr w.heap.size 30 #[.int .i64 0, .int .i64 0]
  bel : Below w.heap.size w wr
section
variable {w wr w' : World}
theorem OfSt.below (h : OfSt w wr) (hb : Below wr.heap.size wr w') : OfSt w w' := ⟨h.r2.below hb h.r2.lt, h.bel.trans (hb.mono h.bel.size)⟩
theorem OfSt.facts (h : OfSt w wr) : wr.cell? ⟨w.heap.size, 0, none⟩ = some (.int .i64 0) ∧ wr.cell? ⟨w.heap.size, 1, none⟩ = some (.int .i64 0) ∧ wr.frozen? ⟨w.heap.size, 0, none⟩ = false ∧ wr.frozen? ⟨w.heap.size, 1, none⟩ = false ∧ w.heap.size < wr.heap.size :=
  ⟨(h.r2.cell 0).trans rfl, (h.r2.cell 1).trans rfl, h.r2.frozen 0, h.r2.frozen 1, h.r2.lt⟩
theorem OfSt.put (h : OfSt w wr) (u v : Value) : Blk ((wr.setCell ⟨w.heap.size, 0, none⟩ u).setCell ⟨w.heap.size, 1, none⟩ v) w.heap.size 30 #[u, v] ∧ Below w.heap.size w ((wr.setCell ⟨w.heap.size, 0, none⟩ u).setCell ⟨w.heap.size, 1, none⟩ v) :=
  ⟨blk_put2 h.r2 u v, (h.bel.setCell (p := ⟨w.heap.size, 0, none⟩) (Nat.le_refl _) u).setCell (p := ⟨w.heap.size, 1, none⟩) (Nat.le_refl _) v⟩
end
theorem esV_snoc (o : List Rf.E) (x : Rf.E) : esV o ++ [.int .i64 x.time, strV x.upd.name, .int .i64 x.upd.old, .int .i64 x.upd.new] = esV (o ++ [x]) := by simp [esV, eC]
set_option maxRecDepth 100000 in
set_option maxHeartbeats 16000000 in
theorem of_any (w : World) (A : Option Addr) (k : Nat) (l : List Rf.E) (n : List UInt8) (hv : SA w Free A (esV l)) (hl : l.length ≤ 9223372036854775806) :
    Calls Tryd.prog 38 #[.slice A l.length k, strV n] w (OfPost w (Rf.ofF l n)) := by
  obtain ⟨i0, z0, hi0, hz0, hz1, hz2, hzs⟩ := info_parts' info69
  have HV := Lib.hid (fun (w1 : World) (hb : Below w.heap.size w w1) => hv.keep (free_below hb))
  have HPF := Lib.hid (Rf.ofF.eq_1 l n)
  clear hv
  generalize Rf.ofF l n = r at *
  have st0 : OfSt w (w.alloc (.cells #[.int .i64 0, .int .i64 0] 30)) := ⟨Blk.new _ _ _, below_alloc1 _ _⟩
  by_cases h60 : 60 < l.length
  · have H := Lib.hid (HPF.out.trans (if_pos h60))
    have h60' : (60 : Int) < l.length := by omega
    clear HPF h60
    go_enter Tryd.func38, Tryd.ntmps38
    go_wp2_with fail
    exact bodyPost_ret (results_tc30 rfl _ _ w.heap.size (.int .i64 2) (.int .i64 (-1)) (.slice none 0 0) rfl rfl (Blk.new w 30 #[.int .i64 2, .int .i64 (-1)])) rfl (OfPost.mk_ (l := []) H.out (Nat.le_refl _) SA.nil (below_alloc1 _ _))
  · have HP2 := Lib.hid (HPF.out.trans (if_neg h60))
    have h60' : ¬ (60 : Int) < l.length := by omega
    have hl60 : l.length ≤ 60 := by omega
    clear HPF h60
    have hsz0 : (w.alloc (.cells #[.int .i64 0, .int .i64 0] 30)).heap.size = w.heap.size + 1 := by simp
    go_enter Tryd.func38, Tryd.ntmps38
    go_wp2_with fail
    generalize w.alloc (.cells #[.int .i64 0, .int .i64 0] 30) = wl at *
    go_loopw [6, 15] (fun ov iv wr => ∃ (i : Nat) (o : List Rf.E) (A' : Option Addr) (c' : Nat), i ≤ l.length ∧ iv = .int .i64 i ∧ ov = .slice A' o.length c' ∧ o.length ≤ i ∧ Hid (o = Rf.ofL (l.take i) n) ∧ OfSt w wr ∧ w.heap.size + 1 ≤ wr.heap.size ∧ wr.ownsRow (w.heap.size + 1) 69 4 (.slice A' o.length c') o.length (esV o)) (fun _ iv _ => l.length - (intOf iv).toNat)
    case atStart => exact ⟨0, [], none, 0, Nat.zero_le _, rfl, rfl, Nat.le_refl _, Lib.hid rfl, st0, by omega, World.ownsRow_nil _ _ _ _⟩
    case round =>
      obtain ⟨i, o, A', c', hi, rfl, rfl, hol, HO, st, hsz, hown⟩ := hrel
      obtain ⟨wo, rfl⟩ : ∃ wo : World, wo = wr := ⟨_, rfl⟩
      obtain ⟨a1, a2, a3, a4, l1⟩ := st.facts
      by_cases hlt : i < l.length
      · have hlt' : (i : Int) < l.length := by omega
        obtain ⟨b, off, e, hbb, _, d0, d1, d2, d3⟩ := esV_row (HV.out _ st.bel) i hlt
        subst e
        have HT : Hid (l.take (i + 1) = l.take i ++ [l[i]]) := Lib.hid (List.take_succ_eq_append_getElem hlt)
        generalize l[i] = x at *
        have bx1 := Blk.new wo 69 #[.int .i64 x.time, strV x.upd.name, .int .i64 x.upd.old, .int .i64 x.upd.new]
        have sx := st.below (below_alloc1 wo (.cells #[.int .i64 x.time, strV x.upd.name, .int .i64 x.upd.old, .int .i64 x.upd.new] 69))
        have ow1 := hown.alloc (.cells #[.int .i64 x.time, strV x.upd.name, .int .i64 x.upd.old, .int .i64 x.upd.new] 69)
        by_cases hp : x.upd.name = n
        · have HN2 : Hid (o ++ [x] = Rf.ofL (l.take (i + 1)) n) := Lib.hid (by rw [HT.out, HO.out]; unfold Rf.ofL; rw [List.filter_append]; simp [hp])
          have hp1 : (x.upd.name == n) = true := by simpa using hp
          clear HT HO hp
          have hsv1 : SV ((wo.alloc (.cells #[.int .i64 x.time, strV x.upd.name, .int .i64 x.upd.old, .int .i64 x.upd.new] 69)).alloc (.cells #[.int .i64 x.time, strV x.upd.name, .int .i64 x.upd.old, .int .i64 x.upd.new] 69)) (wo.heap.size + 1 + 1) (some ⟨wo.heap.size + 1, 0, none⟩) [.int .i64 x.time, strV x.upd.name, .int .i64 x.upd.old, .int .i64 x.upd.new] := by simpa using SV.lit (wo.alloc (.cells #[.int .i64 x.time, strV x.upd.name, .int .i64 x.upd.old, .int .i64 x.upd.new] 69)) #[.int .i64 x.time, strV x.upd.name, .int .i64 x.upd.old, .int .i64 x.upd.new] 69
          go_wp2_with (first | (at_builtin; refine wpList_appN _ rfl (.tmp 24) (.tmp 26) 54 rfl (w.heap.size + 1) 69 i0 _ 4 40 Tryd.underlying54 hi0 hz0 hz1 hz2 hzs (by decide) A' o.length c' (esV o) rfl (ow1.alloc (.cells #[.int .i64 x.time, strV x.upd.name, .int .i64 x.upd.old, .int .i64 x.upd.new] 69)) _ _ 1 1 [.int .i64 x.time, strV x.upd.name, .int .i64 x.upd.old, .int .i64 x.upd.new] rfl rfl hsv1 (by intro v hv; simp at hv; rcases hv with rfl | rfl | rfl | rfl <;> rfl) ?ha1 ?hb1 ?hc1 ?_))
          case ha1 => unfold maxLen; omega
          case hb1 => omega
          case hc1 => simp; omega
          intro A2 c2 w2 own2 hg2 _
          have hr2 : ∀ b, (Value.slice A' o.length c').ownBlock = some b → w.heap.size + 1 ≤ b := fun b e => (hown.lt b e).1
          have sx2 := sx.below (below_alloc1 _ (.cells #[.int .i64 x.time, strV x.upd.name, .int .i64 x.upd.old, .int .i64 x.upd.new] 69))
          have s2 : OfSt w w2 := ⟨sx2.r2.grown hg2 (fun e => by have := hr2 _ e.symm; omega), sx2.bel.grown hg2 sx2.bel.size (fun b e => by have := hr2 b e; omega)⟩
          have hsz3 : w.heap.size + 1 ≤ w2.heap.size := by have := hg2.size; simp at this; omega
          rw [esV_snoc] at own2
          have hol3 : (o ++ [x]).length = o.length + 1 := by simp
          clear a1 a2 a3 a4 hg2 sx sx2 ow1 bx1 hsv1 d0 d1 d2 d3
          go_wp2_with fail
          go_roundw
          case rel => exact ⟨i + 1, o ++ [x], A2, c2, by omega, by go_num, by rw [hol3], by simp; omega, HN2, s2, hsz3, by rw [hol3]; exact own2⟩
          case measure => simp [intOf]; omega
        · have HN2 : Hid (o = Rf.ofL (l.take (i + 1)) n) := Lib.hid (by rw [HT.out, HO.out]; unfold Rf.ofL; rw [List.filter_append]; simp [hp])
          have hp1 : (x.upd.name == n) = false := by simpa using hp
          clear HT HO hp
          go_wp2_with fail
          go_roundw
          case rel => exact ⟨i + 1, o, A', c', by omega, by go_num, rfl, by omega, HN2, sx, by simp; omega, ow1⟩
          case measure => simp [intOf]; omega
      · obtain rfl : i = l.length := by omega
        have H : Hid (r = (o, (0, 0))) := Lib.hid (by rw [HP2.out, HO.out, List.take_length])
        have hcap : o.length ≤ c' := by
          obtain ⟨A'', c'', e1, hcc, _⟩ := own_form hown
          injection e1 with _ _ e3
          subst e3; exact hcc
        clear HO HP2
        go_wp2_with fail
        obtain ⟨k1, k2⟩ := st.put (.int .i64 0) (.int .i64 0)
        refine bodyPost_ret (results_tc30 rfl _ _ w.heap.size (.int .i64 0) (.int .i64 0) (.slice A' o.length c') rfl rfl k1) rfl ?_
        have hlo : ∀ b, (Value.slice A' o.length c').ownBlock = some b → w.heap.size + 1 ≤ b := fun b hb => (hown.lt b hb).1
        have hne2 : some w.heap.size ≠ (Value.slice A' o.length c').ownBlock := fun e => by have := hlo _ e.symm; omega
        exact OfPost.mk_ H.out hcap (SA.of_own' (own_setCell (own_setCell hown hne2 _) hne2 _) (fun b hb hU => by have := hlo b hb; unfold Under at hU; omega)) k2
end Go.Proofs.YtfbbgnhelannjaaDoor
namespace Rf
theorem rpF_cases (b : List R) (l : List E) : ((rpF b l).2.1 ≠ 0 ∧ (rpF b l).1 = []) ∨ (LOk b l ∧ rpF b l = (stAt b l l.length, (0, 0))) := by
  unfold rpF
  by_cases h1 : (lgF b l).1 ≠ 0
  · left; rw [if_pos h1]; exact ⟨h1, rfl⟩
  · right; rw [if_neg h1]
    exact ⟨(lgF_ok (by simpa using h1)).2, rfl⟩
theorem rpF_ok {b : List R} {l : List E} (h : LOk b l) : rpF b l = (stAt b l l.length, (0, 0)) := by
  unfold rpF; rw [h.f, if_neg (by decide)]
theorem ofF_ok {l : List E} (h : l.length ≤ 60) (n : Nm) : ofF l n = (ofL l n, (0, 0)) := by
  unfold ofF; rw [if_neg (by omega)]
/-- The references of one name. -/
def ownR (s : List R) (n : Nm) : List R := s.filter fun x => decide (x.name = n)
theorem ownR_len (s : List R) (n : Nm) : (ownR s n).length ≤ s.length := List.length_filter_le _ _
end Rf
namespace Go.Proofs.YtfbbgnhelannjaaDoor
open Go.RowKit Go.V Go.Shelf Go.Lib
set_option linter.unusedVariables false

theorem size_alloc_le (w : World) (o : Obj) : w.heap.size ≤ (w.alloc o).heap.size := by simp
theorem rC_one (x : Rf.R) : ∀ u ∈ ([strV x.name, .int .i64 x.tgt] : List Value), u.oneCell' = true := by
  intro v hv; simp at hv; rcases hv with rfl | rfl <;> rfl
structure LnSt (w wr : World) (gx kb : Nat) (A : Option Addr) (n k : Nat) (Ax : Option Addr) (xs : List Rf.R) (cx : Nat) (Al : Option Addr) (pl : List Rf.E) (v : Value) : Prop where
  bx : Blk wr w.heap.size 26 #[.slice A n k]
  bX : Blk wr gx 26 #[.slice Ax xs.length cx]
  bo : Blk wr kb 26 #[v]
  rx : SA wr (From kb) Ax (rsV xs)
  rl : SA wr (From kb) Al (esV pl)
  bel : Below w.heap.size w wr
  ord : w.heap.size < kb ∧ gx < kb
section
variable {w wr w' : World} {gx kb : Nat} {A : Option Addr} {n k : Nat} {Ax : Option Addr} {xs : List Rf.R} {cx : Nat} {Al : Option Addr} {pl : List Rf.E} {v : Value}
theorem LnSt.below (h : LnSt w wr gx kb A n k Ax xs cx Al pl v) (hb : Below wr.heap.size wr w') : LnSt w w' gx kb A n k Ax xs cx Al pl v :=
  ⟨h.bx.below hb h.bx.lt, h.bX.below hb h.bX.lt, h.bo.below hb h.bo.lt, h.rx.keep (Keeps.below hb fun _ _ h => h), h.rl.keep (Keeps.below hb fun _ _ h => h), h.bel.trans (hb.mono h.bel.size), h.ord⟩
theorem LnSt.grown (h : LnSt w wr gx kb A n k Ax xs cx Al pl v) {row : Option Nat} (hg : wr.grownBy w' row) (hr : ∀ b, row = some b → kb + 1 ≤ b) : LnSt w w' gx kb A n k Ax xs cx Al pl v := by
  obtain ⟨o1, o2⟩ := h.ord
  exact ⟨h.bx.grown hg (fun e => by have := hr _ e.symm; omega), h.bX.grown hg (fun e => by have := hr _ e.symm; omega), h.bo.grown hg (fun e => by have := hr _ e.symm; omega),
    h.rx.keep (Keeps.grown hg (fun b e _ => by have := hr b e; unfold From; omega) (fun _ _ h => h)), h.rl.keep (Keeps.grown hg (fun b e _ => by have := hr b e; unfold From; omega) (fun _ _ h => h)), h.bel.grown hg h.bel.size (fun b e => by have := hr b e; omega), h.ord⟩
theorem LnSt.set (h : LnSt w wr gx kb A n k Ax xs cx Al pl v) (v2 : Value) : LnSt w (wr.setCell ⟨kb, 0, none⟩ v2) gx kb A n k Ax xs cx Al pl v2 := by
  obtain ⟨o1, o2⟩ := h.ord
  exact ⟨h.bx.far (p := ⟨kb, 0, none⟩) (by simp only; omega) _, h.bX.far (p := ⟨kb, 0, none⟩) (by simp only; omega) _, by simpa using h.bo.set_ 0 v2,
    h.rx.keep (Keeps.setCell wr _ ⟨kb, 0, none⟩ v2 (Nat.le_refl kb)), h.rl.keep (Keeps.setCell wr _ ⟨kb, 0, none⟩ v2 (Nat.le_refl kb)), h.bel.setCell (p := ⟨kb, 0, none⟩) (show w.heap.size ≤ kb by omega) _, h.ord⟩
theorem LnSt.facts (h : LnSt w wr gx kb A n k Ax xs cx Al pl v) : wr.cell? ⟨w.heap.size, 0, none⟩ = some (.slice A n k) ∧ wr.cell? ⟨kb, 0, none⟩ = some v ∧ wr.frozen? ⟨kb, 0, none⟩ = false ∧ wr.cell? ⟨gx, 0, none⟩ = some (.slice Ax xs.length cx) ∧ w.heap.size < wr.heap.size ∧ kb < wr.heap.size ∧ gx < wr.heap.size :=
  ⟨(h.bx.cell 0).trans rfl, (h.bo.cell 0).trans rfl, h.bo.frozen 0, (h.bX.cell 0).trans rfl, h.bx.lt, h.bo.lt, h.bX.lt⟩
end
set_option maxRecDepth 100000 in
set_option maxHeartbeats 64000000 in
theorem law12_any (w : World) (hm : Mx w) (A : Option Addr) (k : Nat) (s : List Rf.R) (hv : SA w Free A (rsV s)) (hl : s.length * 24 ≤ 140737488351232) (hk : s.length ≤ k)
    (A2 : Option Addr) (k2 : Nat) (l : List Rf.E) (hv2 : SA w Free A2 (esV l)) (hl2 : l.length * 40 ≤ 140737488351232) (n : List UInt8) :
    Calls Tryd.prog 12 #[.agg #[.slice A s.length k], .slice A2 l.length k2, strV n] w fun e w' => e = .returned (.bool true) ∧ Below w.heap.size w w' := by
  obtain ⟨i0, hi0, hz0, hz1, hz2⟩ := info_parts info51
  have hM := Lib.hid hm
  have HMX := Lib.hid hm.fun_
  have V0 := Lib.hid hv
  have V2 := Lib.hid hv2
  have HV := Lib.hid (fun (w1 : World) (hb : Below w.heap.size w w1) => hv.keep (free_below hb))
  have HRC := Lib.hid (Rf.rpF_cases s l)
  have HOF := Lib.hid (fun h => Rf.ofF_ok (l := l) h n)
  have H32 := Lib.hid (fun (w1 : World) (hm : Mx w1) (hv : SA w1 Free A (rsV s)) (hv2 : SA w1 Free A2 (esV l)) => replay_any w1 hm A k s hv (by omega) hk A2 k2 l hv2)
  have H38 := Lib.hid (fun (w1 : World) (hv2 : SA w1 Free A2 (esV l)) => of_any w1 A2 k2 l n hv2 (by omega))
  have HNI := Lib.hid (fun (h : Rf.LOk s l) => Rf.names_indep h n)
  clear hm hv hv2
  generalize hr : Rf.rpF s l = r at *
  generalize hq : Rf.ofF l n = q at *
  clear hr hq
  have HB0 := Lib.hid (Below.refl w.heap.size w)
  go_enter Tryd.func12, Tryd.ntmps12
  have bx := Blk.new w 26 #[.slice A s.length k]
  have HBa1 := Lib.hid (HB0.out.alloc HB0.out.size (.cells #[.slice A s.length k] 26))
  replace hM := Lib.hid (hM.out.below (below_alloc1 w (.cells #[.slice A s.length k] 26)))
  replace V0 := Lib.hid (V0.out.keep (Keeps.alloc w _ (.cells #[.slice A s.length k] 26)))
  replace V2 := Lib.hid (V2.out.keep (Keeps.alloc w _ (.cells #[.slice A s.length k] 26)))
  go_wp2_with fail
  go_at_call 31
  refine (logExample_any _ hM.out).mono ?_
  rintro e w1 ⟨rfl, hb1'⟩
  have HBm1 := Lib.hid (HBa1.out.trans (hb1'.mono HBa1.out.size))
  replace bx := bx.below hb1' bx.lt
  replace hM := Lib.hid (hM.out.below hb1')
  replace V0 := Lib.hid (V0.out.keep (free_below hb1'))
  replace V2 := Lib.hid (V2.out.keep (free_below hb1'))
  have bx_l : w.heap.size < w1.heap.size := bx.lt
  have bx_l1 : w.heap.size < w1.heap.size + 1 := Nat.lt_succ_of_lt bx_l
  have bx_l2 : w.heap.size < w1.heap.size + 1 + 1 := Nat.lt_succ_of_lt bx_l1
  have bx_0 : w1.cell? ⟨w.heap.size, 0, none⟩ = some (.slice A s.length k) := (bx.cell 0).trans rfl
  clear hb1'
  obtain ⟨xs, c1, i1⟩ := r
  go_wp2_with fail
  go_at_call 32
  refine (H32.out _ hM.out V0.out V2.out).mono ?_
  rintro e w2 ⟨Ax, cx, rfl, hcx, hsx, hb2'⟩
  have HBm2 := Lib.hid (HBm1.out.trans (hb2'.mono HBm1.out.size))
  replace bx := bx.below hb2' bx.lt
  replace hM := Lib.hid (hM.out.below hb2')
  replace V0 := Lib.hid (V0.out.keep (free_below hb2'))
  replace V2 := Lib.hid (V2.out.keep (free_below hb2'))
  clear bx_l bx_l1 bx_l2 bx_0
  have bx_l : w.heap.size < w2.heap.size := bx.lt
  have bx_l1 : w.heap.size < w2.heap.size + 1 := Nat.lt_succ_of_lt bx_l
  have bx_l2 : w.heap.size < w2.heap.size + 1 + 1 := Nat.lt_succ_of_lt bx_l1
  have bx_0 : w2.cell? ⟨w.heap.size, 0, none⟩ = some (.slice A s.length k) := (bx.cell 0).trans rfl
  have Vx := Lib.hid (hsx.mono (X' := Free) (fun _ h => h.elim))
  clear hsx
  clear hb2'
  simp only at *
  replace bx := bx.alloc (.cells #[.slice Ax xs.length cx] 26)
  have x := Blk.new w2 26 #[.slice Ax xs.length cx]
  have HBa2 := Lib.hid (HBm2.out.alloc HBm2.out.size (.cells #[.slice Ax xs.length cx] 26))
  replace hM := Lib.hid (hM.out.below (below_alloc1 w2 (.cells #[.slice Ax xs.length cx] 26)))
  replace V0 := Lib.hid (V0.out.keep (Keeps.alloc w2 _ (.cells #[.slice Ax xs.length cx] 26)))
  replace V2 := Lib.hid (V2.out.keep (Keeps.alloc w2 _ (.cells #[.slice Ax xs.length cx] 26)))
  replace Vx := Lib.hid (Vx.out.keep (Keeps.alloc w2 _ (.cells #[.slice Ax xs.length cx] 26)))
  replace bx := bx.alloc (.cells #[.int .i64 c1, .int .i64 i1] 30)
  replace x := x.alloc (.cells #[.int .i64 c1, .int .i64 i1] 30)
  have f : Blk ((w2.alloc (.cells #[.slice Ax xs.length cx] 26)).alloc (.cells #[.int .i64 c1, .int .i64 i1] 30)) (w2.heap.size + 1) 30 #[.int .i64 c1, .int .i64 i1] := by simpa using Blk.new (w2.alloc (.cells #[.slice Ax xs.length cx] 26)) 30 #[.int .i64 c1, .int .i64 i1]
  have HBa3 := Lib.hid (HBa2.out.alloc HBa2.out.size (.cells #[.int .i64 c1, .int .i64 i1] 30))
  replace hM := Lib.hid (hM.out.below (below_alloc1 (w2.alloc (.cells #[.slice Ax xs.length cx] 26)) (.cells #[.int .i64 c1, .int .i64 i1] 30)))
  replace V0 := Lib.hid (V0.out.keep (Keeps.alloc (w2.alloc (.cells #[.slice Ax xs.length cx] 26)) _ (.cells #[.int .i64 c1, .int .i64 i1] 30)))
  replace V2 := Lib.hid (V2.out.keep (Keeps.alloc (w2.alloc (.cells #[.slice Ax xs.length cx] 26)) _ (.cells #[.int .i64 c1, .int .i64 i1] 30)))
  replace Vx := Lib.hid (Vx.out.keep (Keeps.alloc (w2.alloc (.cells #[.slice Ax xs.length cx] 26)) _ (.cells #[.int .i64 c1, .int .i64 i1] 30)))
  obtain ⟨pl, c2, i2⟩ := q
  go_wp2_with fail
  go_at_call 38
  refine (H38.out _ V2.out).mono ?_
  rintro e w3 ⟨Al, cl, rfl, hcl, hsl, hb3'⟩
  have HBm3 := Lib.hid (HBa3.out.trans (hb3'.mono HBa3.out.size))
  replace bx := bx.below hb3' bx.lt
  replace x := x.below hb3' x.lt
  replace f := f.below hb3' f.lt
  replace hM := Lib.hid (hM.out.below hb3')
  replace V0 := Lib.hid (V0.out.keep (free_below hb3'))
  replace V2 := Lib.hid (V2.out.keep (free_below hb3'))
  replace Vx := Lib.hid (Vx.out.keep (free_below hb3'))
  clear bx_l bx_l1 bx_l2 bx_0
  have bx_l : w.heap.size < w3.heap.size := bx.lt
  have bx_l1 : w.heap.size < w3.heap.size + 1 := Nat.lt_succ_of_lt bx_l
  have bx_l2 : w.heap.size < w3.heap.size + 1 + 1 := Nat.lt_succ_of_lt bx_l1
  have bx_0 : w3.cell? ⟨w.heap.size, 0, none⟩ = some (.slice A s.length k) := (bx.cell 0).trans rfl
  have x_l : w2.heap.size < w3.heap.size := x.lt
  have x_l1 : w2.heap.size < w3.heap.size + 1 := Nat.lt_succ_of_lt x_l
  have x_l2 : w2.heap.size < w3.heap.size + 1 + 1 := Nat.lt_succ_of_lt x_l1
  have x_0 : w3.cell? ⟨w2.heap.size, 0, none⟩ = some (.slice Ax xs.length cx) := (x.cell 0).trans rfl
  have f_l : w2.heap.size + 1 < w3.heap.size := f.lt
  have f_l1 : w2.heap.size + 1 < w3.heap.size + 1 := Nat.lt_succ_of_lt f_l
  have f_l2 : w2.heap.size + 1 < w3.heap.size + 1 + 1 := Nat.lt_succ_of_lt f_l1
  have f_0 : w3.cell? ⟨w2.heap.size + 1, 0, none⟩ = some (.int .i64 c1) := (f.cell 0).trans rfl
  have f_1 : w3.cell? ⟨w2.heap.size + 1, 1, none⟩ = some (.int .i64 i1) := (f.cell 1).trans rfl
  have Vl := Lib.hid (hsl.mono (X' := Free) (fun _ h => h.elim))
  clear hsl
  clear hb3'
  simp only at *
  have hw3 : w.heap.size < w3.heap.size := bx_l
  have hw4 : w2.heap.size < w3.heap.size := x_l
  replace bx := bx.alloc (.cells #[.int .i64 c2, .int .i64 i2] 30)
  replace x := x.alloc (.cells #[.int .i64 c2, .int .i64 i2] 30)
  replace f := f.alloc (.cells #[.int .i64 c2, .int .i64 i2] 30)
  have g := Blk.new w3 30 #[.int .i64 c2, .int .i64 i2]
  have HBa4 := Lib.hid (HBm3.out.alloc HBm3.out.size (.cells #[.int .i64 c2, .int .i64 i2] 30))
  replace hM := Lib.hid (hM.out.below (below_alloc1 w3 (.cells #[.int .i64 c2, .int .i64 i2] 30)))
  replace V0 := Lib.hid (V0.out.keep (Keeps.alloc w3 _ (.cells #[.int .i64 c2, .int .i64 i2] 30)))
  replace V2 := Lib.hid (V2.out.keep (Keeps.alloc w3 _ (.cells #[.int .i64 c2, .int .i64 i2] 30)))
  replace Vx := Lib.hid (Vx.out.keep (Keeps.alloc w3 _ (.cells #[.int .i64 c2, .int .i64 i2] 30)))
  replace Vl := Lib.hid (Vl.out.keep (Keeps.alloc w3 _ (.cells #[.int .i64 c2, .int .i64 i2] 30)))
  rcases HRC.out with ⟨hc, hx⟩ | ⟨hok, he⟩
  · have hx1 : (c1 == 0) = false := by simpa using hc
    have hx2 : (c1 != 0) = true := by simpa using hc
    subst hx
    clear HRC HOF H32 H38 HNI hc
    go_wp2_with fail
    go_ret
    exact ⟨by simp, HBa4.out⟩
  · injection he with e1 e2
    injection e2 with e2 e3
    subst e2
    subst e3
    have hof := HOF.out hok.len
    injection hof with e4 e5
    injection e5 with e5 e6
    subst e5
    subst e6
    have HE1 := Lib.hid e1
    have HE4 := Lib.hid e4
    have HNI2 := Lib.hid (HNI.out hok)
    have hsl30 := hok.base.len
    have hxl : xs.length ≤ 31 := by rw [e1]; have := (hok.stOk l.length).len; omega
    clear e1 e4 HOF HRC HNI hok H32 H38
    have st0 : LnSt w ((w3.alloc (.cells #[.int .i64 0, .int .i64 0] 30)).alloc (.cells #[.slice none 0 0] 26)) w2.heap.size (w3.heap.size + 1) A s.length k Ax xs cx Al pl (.slice none 0 0) := ⟨bx.alloc _, x.alloc _, by simpa using Blk.new (w3.alloc (.cells #[.int .i64 0, .int .i64 0] 30)) 26 #[.slice none 0 0], Vx.out.keep (Keeps.below (below_alloc1 _ _) (fun b hb hX => by unfold From at hX; simp at hb; omega)), Vl.out.keep (Keeps.below (below_alloc1 _ _) (fun b hb hX => by unfold From at hX; simp at hb; omega)), HBa4.out.alloc HBa4.out.size _, by omega, by omega⟩
    have hown0 := World.ownsRow_nil ((w3.alloc (.cells #[.int .i64 0, .int .i64 0] 30)).alloc (.cells #[.slice none 0 0] 26)) (w3.heap.size + 1 + 1) 51 2
    go_wp2_with fail
    clear bx_l bx_l1 bx_l2 bx_0 x_l x_l1 x_l2 x_0 f_l f_l1 f_l2 f_0 f_1
    clear bx f g x V0 Vl Vx hM V2 HBm1 HBm2 HBm3 HBa1 HBa2 HBa3 HBa4 HB0 hw3 hw4
    obtain ⟨kb, hkb⟩ : ∃ kb, kb = w3.heap.size + 1 := ⟨_, rfl⟩
    obtain ⟨gx, hgx⟩ : ∃ gx, gx = w2.heap.size := ⟨_, rfl⟩
    simp only [← hkb, ← hgx] at *
    go_loopw [12] (fun iv wr => ∃ (i : Nat) (o : List Rf.R) (A' : Option Addr) (c' : Nat), i ≤ s.length ∧ iv = .int .i64 i ∧ o.length ≤ i ∧ Hid (o = Rf.ownR (s.take i) n) ∧ LnSt w wr gx kb A s.length k Ax xs cx Al pl (.slice A' o.length c') ∧ wr.ownsRow (kb + 1) 51 2 (.slice A' o.length c') o.length (rsV o)) (fun iv _ => s.length - (intOf iv).toNat)
    case atStart => exact ⟨0, [], none, 0, Nat.zero_le _, rfl, Nat.le_refl _, Lib.hid rfl, st0, hown0⟩
    case round =>
      obtain ⟨i, o, A', c', hi, rfl, hol, HO, st, hown⟩ := hrel
      obtain ⟨wo, rfl⟩ : ∃ wo : World, wo = wr := ⟨_, rfl⟩
      obtain ⟨a0, a1, a2, a3, l0, l1, l2⟩ := st.facts
      by_cases hlt : i < s.length
      · have hlt' : (i : Int) < s.length := by omega
        obtain ⟨b, off, e, hbb, _, d0, d1⟩ := rsV_row (HV.out _ st.bel) i hlt
        subst e
        have HT : Hid (s.take (i + 1) = s.take i ++ [Rf.it s i]) := Lib.hid (by rw [List.take_succ_eq_append_getElem hlt, Rf.it_eq s i hlt])
        generalize Rf.it s i = x at *
        by_cases hp : x.name = n
        · have HN2 : Hid (o ++ [x] = Rf.ownR (s.take (i + 1)) n) := Lib.hid (by rw [HT.out, HO.out]; unfold Rf.ownR; rw [List.filter_append]; simp [hp])
          have hp1 : (x.name == n) = true := by simpa using hp
          clear HT HO hp
          have h63 : o.length + 1 ≤ maxLen := by unfold maxLen; omega
          have hby : (o.length + 1) * 24 ≤ 140737488355328 := by omega
          have hub : ∀ b, (Value.slice A' o.length c').ownBlock = some b → kb + 1 ≤ b := fun b e => (hown.lt b e).1
          go_wp2_with fail
          go_region_law
            (first
              | (refine step_appNo _ rfl (.tmp 63) (.tmp 69) 24 rfl (kb + 1) 51 i0 _ 2 24 Tryd.underlying24 hi0 hz0 hz1 hz2 rfl (by decide) A' o.length c' (rsV o) rfl (hown.alloc _).drew wo.heap.size 1 [strV x.name, .int .i64 x.tgt] rfl rfl (fun j v hj => cells_new wo #[strV x.name, .int .i64 x.tgt] 51 j v hj) (rC_one x) h63 hby (Nat.le_trans (Nat.succ_le_of_lt l1) (size_alloc_le _ _)) ?_; intro ge ce wz hown4 hg4 hob4; have s4 := (st.below (below_drew' (below_alloc1 wo (.cells #[strV x.name, .int .i64 x.tgt] 51)))).grown hg4 hub; obtain ⟨r0, r1, r2, r3, m0, m1, m2⟩ := s4.facts))
          all_goals
            have hne2 : some kb ≠ (Value.slice (some ⟨ge, 0, none⟩) (o.length + 1) ce).ownBlock := fun e => by have := (hown4.lt _ e.symm).1; omega
            have s5 := s4.set (.slice (some ⟨ge, 0, none⟩) (o.length + 1) ce)
            have own5 := own_setCell (p := ⟨kb, 0, none⟩) hown4 hne2 (.slice (some ⟨ge, 0, none⟩) (o.length + 1) ce)
            have eo5 : rsV o ++ [strV x.name, .int .i64 x.tgt] = rsV (o ++ [x]) := rsV_snoc o x
            rw [eo5] at own5
            have hol3 : (o ++ [x]).length = o.length + 1 := by simp
            clear hown4 hg4 hob4 s4 eo5
            go_wp2_with fail
            go_roundw
            case rel => exact ⟨i + 1, o ++ [x], _, ce, by omega, by go_num, by simp; omega, HN2, by rw [hol3]; exact s5, by rw [hol3]; exact own5⟩
            case measure => simp [intOf]; omega
        · have HN2 : Hid (o = Rf.ownR (s.take (i + 1)) n) := Lib.hid (by rw [HT.out, HO.out]; unfold Rf.ownR; rw [List.filter_append]; simp [hp])
          have hp1 : (x.name == n) = false := by simpa using hp
          clear HT HO hp
          go_wp2_with fail
          go_roundw
          case rel => exact ⟨i + 1, o, A', c', by omega, by go_num, by omega, HN2, st, hown⟩
          case measure => simp [intOf]; omega
      · obtain rfl : i = s.length := by omega
        have hO : o = Rf.ownR s n := by rw [HO.out, List.take_length]
        clear HO
        have hcap : o.length ≤ c' := by
          obtain ⟨A'', c'', e1, hcc, _⟩ := own_form hown
          injection e1 with _ _ e3
          subst e3; exact hcc
        have HRP : Hid (Calls Tryd.prog 32 #[.agg #[.slice A' o.length c'], .slice Al pl.length cl] wo (UpPost wo (Rf.stAt o pl pl.length, (0, 0)))) := Lib.hid (by
          have h := replay_any wo (HMX.out _ st.bel) A' c' o (SA.of_own' hown (fun _ _ h => h)) (by omega) hcap Al cl pl (st.rl.mono (fun _ h => h.elim))
          rw [Rf.rpF_ok (by rw [hO, HE4.out]; exact HNI2.out.1)] at h
          exact h)
        have HTE : Hid (Rf.tgtOf (Rf.stAt o pl pl.length) n = Rf.tgtOf xs n) := Lib.hid (by rw [hO, HE4.out, HE1.out]; exact HNI2.out.2)
        have hyl : (Rf.stAt o pl pl.length).length ≤ 30 := by
          have h := (HNI2.out.1.stOk (Rf.ofL l n).length).len
          rw [hO, HE4.out]; exact h
        clear hO HNI2 HE1 HE4
        generalize Rf.stAt o pl pl.length = ys at *
        go_wp2_with fail
        go_at_call 32
        refine HRP.out.mono ?_
        rintro e w8 ⟨Ay, cy, rfl, hcy, hsy, hb8⟩
        simp only at hcy hsy
        have st8 := st.below hb8
        have st9 := st8.below (below_alloc2 w8 (.cells #[.slice Ay ys.length cy] 26) (.cells #[.int .i64 0, .int .i64 0] 30))
        have hy9 : SA ((w8.alloc (.cells #[.slice Ay ys.length cy] 26)).alloc (.cells #[.int .i64 0, .int .i64 0] 30)) Free Ay (rsV ys) := (hsy.mono (X' := Free) fun _ h => h.elim).keep ((Keeps.alloc _ _ _).trans (Keeps.alloc _ _ _))
        have by9 : Blk ((w8.alloc (.cells #[.slice Ay ys.length cy] 26)).alloc (.cells #[.int .i64 0, .int .i64 0] 30)) w8.heap.size 26 #[.slice Ay ys.length cy] := (Blk.new _ _ _).alloc _
        have bh9 := blk_new1 w8 (.cells #[.slice Ay ys.length cy] 26) 30 #[.int .i64 0, .int .i64 0]
        clear HRP st hb8 hown a0 a1 a2 a3 l0 l1 l2 hsy st8
        go_wp2_with fail
        generalize (w8.alloc (.cells #[.slice Ay ys.length cy] 26)).alloc (.cells #[.int .i64 0, .int .i64 0] 30) = wz at *
        have HK : Hid (∀ w6 : World, Below wz.heap.size wz w6 → w6.cell? ⟨gx, 0, none⟩ = some (.slice Ax xs.length cx) ∧ w6.cell? ⟨w8.heap.size, 0, none⟩ = some (.slice Ay ys.length cy) ∧ w6.cell? ⟨w8.heap.size + 1, 0, none⟩ = some (.int .i64 0)) := Lib.hid fun w6 h6 => ⟨(h6.cell (p := ⟨_, _, none⟩) st9.bX.lt).trans ((st9.bX.cell 0).trans rfl), (h6.cell (p := ⟨_, _, none⟩) by9.lt).trans ((by9.cell 0).trans rfl), (h6.cell (p := ⟨_, _, none⟩) bh9.lt).trans ((bh9.cell 0).trans rfl)⟩
        have hk0 : Below wz.heap.size wz wz.drew := below_drew' (Below.refl _ _)
        have HTX := Lib.hid (fun (w6 : World) (h6 : Below wz.heap.size wz w6) => refTarget_any w6 Ax cx xs n ((st9.rx.mono (X' := Free) fun _ h => h.elim).keep (free_below h6)) (by omega))
        have HTY := Lib.hid (fun (w6 : World) (h6 : Below wz.heap.size wz w6) => by
          have h := refTarget_any w6 Ay cy ys n (hy9.keep (free_below h6)) (by omega)
          rw [HTE.out] at h
          exact h)
        have hbz := Lib.hid st9.bel
        generalize Rf.tgtOf xs n = tg at *
        have htt : (tg == tg) = true := by simp
        clear st9 hy9 by9 bh9 HTE
        go_region_held3 (fun w6 => w6.cell? ⟨gx, 0, none⟩ = some (.slice Ax xs.length cx) ∧ w6.cell? ⟨w8.heap.size, 0, none⟩ = some (.slice Ay ys.length cy) ∧ w6.cell? ⟨w8.heap.size + 1, 0, none⟩ = some (.int .i64 0))
          (first | exact HK.out _ hk0 | exact HK.out _ hk1 | exact HK.out _ hk2)
          (first | (go_at_call 30; (with_reducible refine (HTX.out _ hk0).mono ?_); rintro e v1 ⟨rfl, hv1⟩; have hk1 : Below wz.heap.size wz v1 := hk0.trans (hv1.mono hk0.size)) | (go_at_call 30; (with_reducible refine (HTY.out _ hk1).mono ?_); rintro e v2 ⟨rfl, hv2⟩; have hk2 : Below wz.heap.size wz v2 := hk1.trans (hv2.mono hk1.size)))
        have hbf := hbz.out.trans (hk2.mono hbz.out.size)
        go_wp2_with fail
        go_ret
        exact ⟨by simp, hbf⟩
end Go.Proofs.YtfbbgnhelannjaaDoor
namespace Go.Proofs.YtfbbgnhelannjaaDoor
open Go.RowKit Go.V Go.Shelf Go.Lib
set_option linter.unusedVariables false

section
variable {w0 w9 : World} {rl : List Rf.R} {c i : Int} {A : Option Addr} {k n : Nat}
theorem rs_ne {g : Nat} {t : TypeId} {cs : Array Value} (hs : SA w9 Free A (rsV rl)) (hb : Blk w9 g t cs) (hn : ∀ (j : Nat) v, cs[j]? = some v → ∀ l, v ≠ strV l) {X : Nat → Prop} (hX : SA w9 X A (rsV rl)) : SA w9 (fun b => b = g ∨ X b) A (rsV rl) := by
  rcases rl with _ | ⟨x, rl⟩
  · exact .inl rfl
  · rcases hX with h | ⟨b, off, e, h1, h2, h3⟩
    · cases h
    · refine .inr ⟨b, off, e, h1, ?_, h3⟩
      rintro (rfl | h)
      · have h4 := h3 0 _ rfl
        rw [Nat.add_zero, hb.cell off] at h4
        exact hn _ _ h4 _ rfl
      · exact h2 h
theorem ne_slice (a : Option Addr) (n k : Nat) : ∀ (j : Nat) v, (#[Value.slice a n k] : Array Value)[j]? = some v → ∀ l, v ≠ strV l := by
  rintro (_ | j) v h l
  · simp at h; subst h; simp [strV]
  · simp at h
theorem ne_ints (a b : Int) : ∀ (j : Nat) v, (#[Value.int .i64 a, Value.int .i64 b] : Array Value)[j]? = some v → ∀ l, v ≠ strV l := by
  rintro (_ | _ | j) v h l
  · simp at h; subst h; simp [strV]
  · simp at h; subst h; simp [strV]
  · simp at h
theorem TwoOut.aa2 (hq : Below w0.heap.size w0 w9) (hk : rl.length ≤ k) (hs : SA w9 Free A (rsV rl)) : TwoOut w0 rl c i (.pointer (some ⟨w9.heap.size, 0, none⟩)) (.pointer (some ⟨w9.heap.size + 1, 0, none⟩)) ((w9.alloc (.cells #[.slice A rl.length k] 26)).alloc (.cells #[.int .i64 c, .int .i64 i] 30)) :=
  TwoOut.aa (n := 0) hq hk (hs.mono fun _ h => absurd h (Nat.not_lt_zero _))
theorem TwoOut.ab2 (hq : Below w0.heap.size w0 w9) (hk : rl.length ≤ k) (hs : SA w9 Free A (rsV rl)) : TwoOut w0 rl c i (.pointer (some ⟨w9.heap.size + 1, 0, none⟩)) (.pointer (some ⟨w9.heap.size, 0, none⟩)) ((w9.alloc (.cells #[.int .i64 c, .int .i64 i] 30)).alloc (.cells #[.slice A rl.length k] 26)) :=
  TwoOut.ab (n := 0) hq hk (hs.mono fun _ h => absurd h (Nat.not_lt_zero _))
theorem TwoOut.ba2 {g : Nat} (hq : Below w0.heap.size w0 w9) (hk : rl.length ≤ k) (hs : SA w9 Free A (rsV rl)) (hb : Blk w9 g 26 #[.slice none 0 0]) (h0 : w0.heap.size ≤ g) :
    TwoOut w0 rl c i (.pointer (some ⟨g, 0, none⟩)) (.pointer (some ⟨w9.heap.size, 0, none⟩)) ((w9.setCell ⟨g, 0, none⟩ (.slice A rl.length k)).alloc (.cells #[.int .i64 c, .int .i64 i] 30)) := by
  have hs2 := rs_ne hs hb (ne_slice _ _ _) hs
  have hz : (w9.setCell ⟨g, 0, none⟩ (.slice A rl.length k)).heap.size = w9.heap.size := by simp [World.setCell]
  have hb2 : Below w0.heap.size w0 (w9.setCell ⟨g, 0, none⟩ (.slice A rl.length k)) := hq.setCell h0 _
  refine ⟨g, w9.heap.size, A, k, rfl, rfl, ?_, by rw [← hz]; exact Blk.new _ _ _, ((hs2.keep (Keeps.setCell w9 _ ⟨g, 0, none⟩ (.slice A rl.length k) (.inl rfl))).mono (X' := Free) fun _ h => h.elim).keep (Keeps.alloc _ _ _), hk, hb2.alloc hb2.size _⟩
  exact Blk.alloc (by simpa using hb.set_ 0 (.slice A rl.length k)) _
theorem TwoOut.bb2 {g : Nat} (hq : Below w0.heap.size w0 w9) (hk : rl.length ≤ k) (hs : SA w9 Free A (rsV rl)) (hb : Blk w9 g 30 #[.int .i64 0, .int .i64 0]) (h0 : w0.heap.size ≤ g) :
    TwoOut w0 rl c i (.pointer (some ⟨w9.heap.size, 0, none⟩)) (.pointer (some ⟨g, 0, none⟩)) (((w9.setCell ⟨g, 0, none⟩ (.int .i64 c)).setCell ⟨g, 1, none⟩ (.int .i64 i)).alloc (.cells #[.slice A rl.length k] 26)) := by
  have hs2 := rs_ne hs hb (ne_ints _ _) hs
  have hz : ((w9.setCell ⟨g, 0, none⟩ (.int .i64 c)).setCell ⟨g, 1, none⟩ (.int .i64 i)).heap.size = w9.heap.size := by simp [World.setCell]
  have hb2 : Below w0.heap.size w0 ((w9.setCell ⟨g, 0, none⟩ (.int .i64 c)).setCell ⟨g, 1, none⟩ (.int .i64 i)) := (hq.setCell (p := ⟨g, 0, none⟩) h0 _).setCell (p := ⟨g, 1, none⟩) h0 _
  exact ⟨w9.heap.size, g, A, k, rfl, rfl, by rw [← hz]; exact Blk.new _ _ _, (blk_put2 hb _ _).alloc _, ((hs2.keep ((Keeps.setCell w9 _ ⟨g, 0, none⟩ (.int .i64 c) (.inl rfl)).trans (Keeps.setCell _ _ ⟨g, 1, none⟩ (.int .i64 i) (.inl rfl)))).mono (X' := Free) fun _ h => h.elim).keep (Keeps.alloc _ _ _), hk, hb2.alloc hb2.size _⟩
theorem TwoOut.ca2 {g g' : Nat} (hq : Below w0.heap.size w0 w9) (hk : rl.length ≤ k) (hs : SA w9 Free A (rsV rl)) (hb : Blk w9 g 26 #[.slice none 0 0]) (hb' : Blk w9 g' 30 #[.int .i64 0, .int .i64 0]) (hne : g ≠ g') (h0 : w0.heap.size ≤ g) (h0' : w0.heap.size ≤ g') :
    TwoOut w0 rl c i (.pointer (some ⟨g, 0, none⟩)) (.pointer (some ⟨g', 0, none⟩)) (((w9.setCell ⟨g, 0, none⟩ (.slice A rl.length k)).setCell ⟨g', 0, none⟩ (.int .i64 c)).setCell ⟨g', 1, none⟩ (.int .i64 i)) := by
  have hs2 := rs_ne hs hb (ne_slice _ _ _) (rs_ne hs hb' (ne_ints _ _) hs)
  obtain ⟨k1, k2, k3⟩ := put12 hb hb' hne (.slice A rl.length k) (.int .i64 c) (.int .i64 i)
  exact ⟨g, g', A, k, rfl, rfl, k1, k2, (hs2.keep (((Keeps.setCell w9 _ ⟨g, 0, none⟩ (.slice A rl.length k) (.inl rfl)).trans (Keeps.setCell _ _ ⟨g', 0, none⟩ (.int .i64 c) (.inr (.inl rfl)))).trans (Keeps.setCell _ _ ⟨g', 1, none⟩ (.int .i64 i) (.inr (.inl rfl))))).mono (X' := Free) fun _ h => h.elim, hk, k3 _ _ h0 h0' hq⟩
end
end Go.Proofs.YtfbbgnhelannjaaDoor
namespace Rf
theorem rp_bad {b : List R} {l : List E} (h : (lgF b l).1 ≠ 0) (t n : Int) : rpF b l = ([], lgF b l) ∧ atF b l t = ([], lgF b l) ∧ exF b l t = (([], []), lgF b l) ∧ rrF b l n = ([], lgF b l) :=
  ⟨if_pos h, if_pos h, if_pos h, if_pos h⟩
theorem rp_ok {b : List R} {l : List E} (h : LOk b l) (n : Int) : rpF b l = (stAt b l l.length, (0, 0)) ∧ rrF b l n = (stAt b l n.toNat, (0, 0)) := by
  unfold rpF rrF
  rw [h.f, if_neg (by decide), if_neg (by decide)]; exact ⟨rfl, rfl⟩
theorem rp_out {b : List R} {l : List E} (h : LOk b l) {t : Int} (ht : t < 0 ∨ 100000 < t) : atF b l t = ([], (3, -3)) ∧ exF b l t = (([], []), (3, -3)) := by
  exact ⟨by unfold atF; rw [h.f, if_neg (by decide), if_pos ht], by unfold exF; rw [h.f, if_neg (by decide), if_pos ht]⟩
theorem rp_in {b : List R} {l : List E} (h : LOk b l) {t : Int} (ht : ¬ (t < 0 ∨ 100000 < t)) : atF b l t = (stAt b l (ear l (t + 1)), (0, 0)) ∧ exF b l t = ((stAt b l (ear l t), l.drop (ear l t)), (0, 0)) := by
  exact ⟨by unfold atF; rw [h.f, if_neg (by decide), if_neg ht, ear_unt h.tm], by unfold exF; rw [h.f, if_neg (by decide), if_neg ht, ear_unt h.tm]⟩
end Rf
namespace Go.Proofs.YtfbbgnhelannjaaDoor
open Go.RowKit Go.V Go.Shelf Go.Lib
set_option linter.unusedVariables false

set_option maxRecDepth 100000 in
set_option maxHeartbeats 64000000 in
theorem law10_any (w : World) (hm : Mx w) (A : Option Addr) (k : Nat) (s : List Rf.R) (hv : SA w Free A (rsV s)) (hl : s.length * 24 ≤ 140737488351232) (hk : s.length ≤ k)
    (A2 : Option Addr) (k2 : Nat) (l : List Rf.E) (hv2 : SA w Free A2 (esV l)) (hl2 : l.length * 40 ≤ 140737488351232) (hk2 : l.length ≤ k2) (t : Int) :
    Calls Tryd.prog 10 #[.agg #[.slice A s.length k], .slice A2 l.length k2, .int .i64 t] w fun e w' => e = .returned (.bool true) ∧ Below w.heap.size w w' := by
  have hM := Lib.hid hm
  have V0 := Lib.hid hv
  have V2 := Lib.hid hv2
  have H32 := Lib.hid (fun (w1 : World) (hm : Mx w1) (hv : SA w1 Free A (rsV s)) (hv2 : SA w1 Free A2 (esV l)) => replay_any w1 hm A k s hv (by omega) hk A2 k2 l hv2)
  have H33 := Lib.hid (fun (w1 : World) (hm : Mx w1) (hv : SA w1 Free A (rsV s)) (hv2 : SA w1 Free A2 (esV l)) => at_any w1 hm A k s hv (by omega) hk A2 k2 l hv2 t)
  have H34 := Lib.hid (fun (w1 : World) (hm : Mx w1) (hv : SA w1 Free A (rsV s)) (hv2 : SA w1 Free A2 (esV l)) => expire_any w1 hm A k s hv (by omega) hk A2 k2 l hv2 hk2 t)
  have H35 := Lib.hid (fun (n : Int) (w1 : World) (hv : SA w1 Free A (rsV s)) (hv2 : SA w1 Free A2 (esV l)) => replayRefs_any w1 A k s hv (by omega) hk A2 k2 l hv2 n)
  have H36 := Lib.hid (fun (u : Int) (w1 : World) (hv2 : SA w1 Free A2 (esV l)) => earlier_any w1 A2 k2 l u hv2 (by omega))
  clear hm hv hv2
  have HBAD := Lib.hid (fun (h : (Rf.lgF s l).1 ≠ 0) => Rf.rp_bad h t (l.length : Int))
  have HOK1 := Lib.hid (fun (h : Rf.LOk s l) => Rf.rp_ok h (l.length : Int))
  have HOUT := Lib.hid (fun (h : Rf.LOk s l) => Rf.rp_out h (t := t))
  have HIN := Lib.hid (fun (h : Rf.LOk s l) => Rf.rp_in h (t := t))
  have HLG := Lib.hid (Rf.lgF_ok (b := s) (l := l))
  generalize Rf.rpF s l = r1 at *
  generalize Rf.atF s l t = r2 at *
  generalize Rf.exF s l t = r3 at *
  generalize hr4 : Rf.rrF s l (l.length : Int) = r4 at *
  have H35a := Lib.hid (H35.out (l.length : Int))
  rw [hr4] at H35a
  clear hr4
  have HB0 := Lib.hid (Below.refl w.heap.size w)
  go_enter Tryd.func10, Tryd.ntmps10
  have bx := Blk.new w 26 #[.slice A s.length k]
  have HBa1 := Lib.hid (HB0.out.alloc HB0.out.size (.cells #[.slice A s.length k] 26))
  replace hM := Lib.hid (hM.out.below (below_alloc1 w (.cells #[.slice A s.length k] 26)))
  replace V0 := Lib.hid (V0.out.keep (Keeps.alloc w _ (.cells #[.slice A s.length k] 26)))
  replace V2 := Lib.hid (V2.out.keep (Keeps.alloc w _ (.cells #[.slice A s.length k] 26)))
  go_wp2_with fail
  go_at_call 31
  with_reducible refine (logExample_any _ hM.out).mono ?_
  rintro e w1 ⟨rfl, hb1'⟩
  have HBm1 := Lib.hid (HBa1.out.trans (hb1'.mono HBa1.out.size))
  replace bx := bx.below hb1' bx.lt
  replace hM := Lib.hid (hM.out.below hb1')
  replace V0 := Lib.hid (V0.out.keep (free_below hb1'))
  replace V2 := Lib.hid (V2.out.keep (free_below hb1'))
  have bx_l : w.heap.size < w1.heap.size := bx.lt
  have bx_l1 : w.heap.size < w1.heap.size + 1 := Nat.lt_succ_of_lt bx_l
  have bx_l2 : w.heap.size < w1.heap.size + 1 + 1 := Nat.lt_succ_of_lt bx_l1
  have bx_0 : w1.cell? ⟨w.heap.size, 0, none⟩ = some (.slice A s.length k) := (bx.cell 0).trans rfl
  clear hb1'
  obtain ⟨xs, c1, i1⟩ := r1
  go_wp2_with fail
  go_at_call 32
  with_reducible refine (H32.out _ hM.out V0.out V2.out).mono ?_
  rintro e w2 ⟨Ax, cx, rfl, hcx, hsx, hb2'⟩
  have HBm2 := Lib.hid (HBm1.out.trans (hb2'.mono HBm1.out.size))
  replace bx := bx.below hb2' bx.lt
  replace hM := Lib.hid (hM.out.below hb2')
  replace V0 := Lib.hid (V0.out.keep (free_below hb2'))
  replace V2 := Lib.hid (V2.out.keep (free_below hb2'))
  clear bx_l bx_l1 bx_l2 bx_0
  have bx_l : w.heap.size < w2.heap.size := bx.lt
  have bx_l1 : w.heap.size < w2.heap.size + 1 := Nat.lt_succ_of_lt bx_l
  have bx_l2 : w.heap.size < w2.heap.size + 1 + 1 := Nat.lt_succ_of_lt bx_l1
  have bx_0 : w2.cell? ⟨w.heap.size, 0, none⟩ = some (.slice A s.length k) := (bx.cell 0).trans rfl
  have Vx := Lib.hid (hsx.mono (X' := Free) (fun _ h => h.elim))
  clear hsx
  clear hb2'
  simp only at *
  replace bx := bx.alloc (.cells #[.slice Ax xs.length cx] 26)
  have x := Blk.new w2 26 #[.slice Ax xs.length cx]
  have HBa2 := Lib.hid (HBm2.out.alloc HBm2.out.size (.cells #[.slice Ax xs.length cx] 26))
  replace hM := Lib.hid (hM.out.below (below_alloc1 w2 (.cells #[.slice Ax xs.length cx] 26)))
  replace V0 := Lib.hid (V0.out.keep (Keeps.alloc w2 _ (.cells #[.slice Ax xs.length cx] 26)))
  replace V2 := Lib.hid (V2.out.keep (Keeps.alloc w2 _ (.cells #[.slice Ax xs.length cx] 26)))
  replace Vx := Lib.hid (Vx.out.keep (Keeps.alloc w2 _ (.cells #[.slice Ax xs.length cx] 26)))
  replace bx := bx.alloc (.cells #[.int .i64 c1, .int .i64 i1] 30)
  replace x := x.alloc (.cells #[.int .i64 c1, .int .i64 i1] 30)
  have f : Blk ((w2.alloc (.cells #[.slice Ax xs.length cx] 26)).alloc (.cells #[.int .i64 c1, .int .i64 i1] 30)) (w2.heap.size + 1) 30 #[.int .i64 c1, .int .i64 i1] := by simpa using Blk.new (w2.alloc (.cells #[.slice Ax xs.length cx] 26)) 30 #[.int .i64 c1, .int .i64 i1]
  have HBa3 := Lib.hid (HBa2.out.alloc HBa2.out.size (.cells #[.int .i64 c1, .int .i64 i1] 30))
  replace hM := Lib.hid (hM.out.below (below_alloc1 (w2.alloc (.cells #[.slice Ax xs.length cx] 26)) (.cells #[.int .i64 c1, .int .i64 i1] 30)))
  replace V0 := Lib.hid (V0.out.keep (Keeps.alloc (w2.alloc (.cells #[.slice Ax xs.length cx] 26)) _ (.cells #[.int .i64 c1, .int .i64 i1] 30)))
  replace V2 := Lib.hid (V2.out.keep (Keeps.alloc (w2.alloc (.cells #[.slice Ax xs.length cx] 26)) _ (.cells #[.int .i64 c1, .int .i64 i1] 30)))
  replace Vx := Lib.hid (Vx.out.keep (Keeps.alloc (w2.alloc (.cells #[.slice Ax xs.length cx] 26)) _ (.cells #[.int .i64 c1, .int .i64 i1] 30)))
  obtain ⟨ts, c2, i2⟩ := r2
  go_wp2_with fail
  go_at_call 33
  with_reducible refine (H33.out _ hM.out V0.out V2.out).mono ?_
  rintro e w3 ⟨At, ct, rfl, hct, hst, hb3'⟩
  have HBm3 := Lib.hid (HBa3.out.trans (hb3'.mono HBa3.out.size))
  replace bx := bx.below hb3' bx.lt
  replace x := x.below hb3' x.lt
  replace f := f.below hb3' f.lt
  replace hM := Lib.hid (hM.out.below hb3')
  replace V0 := Lib.hid (V0.out.keep (free_below hb3'))
  replace V2 := Lib.hid (V2.out.keep (free_below hb3'))
  replace Vx := Lib.hid (Vx.out.keep (free_below hb3'))
  clear bx_l bx_l1 bx_l2 bx_0
  have bx_l : w.heap.size < w3.heap.size := bx.lt
  have bx_l1 : w.heap.size < w3.heap.size + 1 := Nat.lt_succ_of_lt bx_l
  have bx_l2 : w.heap.size < w3.heap.size + 1 + 1 := Nat.lt_succ_of_lt bx_l1
  have bx_0 : w3.cell? ⟨w.heap.size, 0, none⟩ = some (.slice A s.length k) := (bx.cell 0).trans rfl
  have x_l : w2.heap.size < w3.heap.size := x.lt
  have x_l1 : w2.heap.size < w3.heap.size + 1 := Nat.lt_succ_of_lt x_l
  have x_l2 : w2.heap.size < w3.heap.size + 1 + 1 := Nat.lt_succ_of_lt x_l1
  have x_0 : w3.cell? ⟨w2.heap.size, 0, none⟩ = some (.slice Ax xs.length cx) := (x.cell 0).trans rfl
  have f_l : w2.heap.size + 1 < w3.heap.size := f.lt
  have f_l1 : w2.heap.size + 1 < w3.heap.size + 1 := Nat.lt_succ_of_lt f_l
  have f_l2 : w2.heap.size + 1 < w3.heap.size + 1 + 1 := Nat.lt_succ_of_lt f_l1
  have f_0 : w3.cell? ⟨w2.heap.size + 1, 0, none⟩ = some (.int .i64 c1) := (f.cell 0).trans rfl
  have f_1 : w3.cell? ⟨w2.heap.size + 1, 1, none⟩ = some (.int .i64 i1) := (f.cell 1).trans rfl
  have Vt := Lib.hid (hst.mono (X' := Free) (fun _ h => h.elim))
  clear hst
  clear hb3'
  simp only at *
  replace bx := bx.alloc (.cells #[.slice At ts.length ct] 26)
  replace x := x.alloc (.cells #[.slice At ts.length ct] 26)
  replace f := f.alloc (.cells #[.slice At ts.length ct] 26)
  have bt := Blk.new w3 26 #[.slice At ts.length ct]
  have HBa4 := Lib.hid (HBm3.out.alloc HBm3.out.size (.cells #[.slice At ts.length ct] 26))
  replace hM := Lib.hid (hM.out.below (below_alloc1 w3 (.cells #[.slice At ts.length ct] 26)))
  replace V0 := Lib.hid (V0.out.keep (Keeps.alloc w3 _ (.cells #[.slice At ts.length ct] 26)))
  replace V2 := Lib.hid (V2.out.keep (Keeps.alloc w3 _ (.cells #[.slice At ts.length ct] 26)))
  replace Vx := Lib.hid (Vx.out.keep (Keeps.alloc w3 _ (.cells #[.slice At ts.length ct] 26)))
  replace Vt := Lib.hid (Vt.out.keep (Keeps.alloc w3 _ (.cells #[.slice At ts.length ct] 26)))
  replace bx := bx.alloc (.cells #[.int .i64 c2, .int .i64 i2] 30)
  replace x := x.alloc (.cells #[.int .i64 c2, .int .i64 i2] 30)
  replace f := f.alloc (.cells #[.int .i64 c2, .int .i64 i2] 30)
  replace bt := bt.alloc (.cells #[.int .i64 c2, .int .i64 i2] 30)
  have g : Blk ((w3.alloc (.cells #[.slice At ts.length ct] 26)).alloc (.cells #[.int .i64 c2, .int .i64 i2] 30)) (w3.heap.size + 1) 30 #[.int .i64 c2, .int .i64 i2] := by simpa using Blk.new (w3.alloc (.cells #[.slice At ts.length ct] 26)) 30 #[.int .i64 c2, .int .i64 i2]
  have HBa5 := Lib.hid (HBa4.out.alloc HBa4.out.size (.cells #[.int .i64 c2, .int .i64 i2] 30))
  replace hM := Lib.hid (hM.out.below (below_alloc1 (w3.alloc (.cells #[.slice At ts.length ct] 26)) (.cells #[.int .i64 c2, .int .i64 i2] 30)))
  replace V0 := Lib.hid (V0.out.keep (Keeps.alloc (w3.alloc (.cells #[.slice At ts.length ct] 26)) _ (.cells #[.int .i64 c2, .int .i64 i2] 30)))
  replace V2 := Lib.hid (V2.out.keep (Keeps.alloc (w3.alloc (.cells #[.slice At ts.length ct] 26)) _ (.cells #[.int .i64 c2, .int .i64 i2] 30)))
  replace Vx := Lib.hid (Vx.out.keep (Keeps.alloc (w3.alloc (.cells #[.slice At ts.length ct] 26)) _ (.cells #[.int .i64 c2, .int .i64 i2] 30)))
  replace Vt := Lib.hid (Vt.out.keep (Keeps.alloc (w3.alloc (.cells #[.slice At ts.length ct] 26)) _ (.cells #[.int .i64 c2, .int .i64 i2] 30)))
  obtain ⟨⟨us, ul⟩, c3, i3⟩ := r3
  go_wp2_with fail
  go_at_call 34
  with_reducible refine (H34.out _ hM.out V0.out V2.out).mono ?_
  rintro e w4 ⟨Au, cu, Aw, cw, rfl, hcu, hcw, hsu, hsw, hb4'⟩
  have HBm4 := Lib.hid (HBa5.out.trans (hb4'.mono HBa5.out.size))
  replace bx := bx.below hb4' bx.lt
  replace x := x.below hb4' x.lt
  replace f := f.below hb4' f.lt
  replace bt := bt.below hb4' bt.lt
  replace g := g.below hb4' g.lt
  replace hM := Lib.hid (hM.out.below hb4')
  replace V0 := Lib.hid (V0.out.keep (free_below hb4'))
  replace V2 := Lib.hid (V2.out.keep (free_below hb4'))
  replace Vx := Lib.hid (Vx.out.keep (free_below hb4'))
  replace Vt := Lib.hid (Vt.out.keep (free_below hb4'))
  clear bx_l bx_l1 bx_l2 bx_0 x_l x_l1 x_l2 x_0 f_l f_l1 f_l2 f_0 f_1
  have bx_l : w.heap.size < w4.heap.size := bx.lt
  have bx_l1 : w.heap.size < w4.heap.size + 1 := Nat.lt_succ_of_lt bx_l
  have bx_l2 : w.heap.size < w4.heap.size + 1 + 1 := Nat.lt_succ_of_lt bx_l1
  have bx_0 : w4.cell? ⟨w.heap.size, 0, none⟩ = some (.slice A s.length k) := (bx.cell 0).trans rfl
  have x_l : w2.heap.size < w4.heap.size := x.lt
  have x_l1 : w2.heap.size < w4.heap.size + 1 := Nat.lt_succ_of_lt x_l
  have x_l2 : w2.heap.size < w4.heap.size + 1 + 1 := Nat.lt_succ_of_lt x_l1
  have x_0 : w4.cell? ⟨w2.heap.size, 0, none⟩ = some (.slice Ax xs.length cx) := (x.cell 0).trans rfl
  have f_l : w2.heap.size + 1 < w4.heap.size := f.lt
  have f_l1 : w2.heap.size + 1 < w4.heap.size + 1 := Nat.lt_succ_of_lt f_l
  have f_l2 : w2.heap.size + 1 < w4.heap.size + 1 + 1 := Nat.lt_succ_of_lt f_l1
  have f_0 : w4.cell? ⟨w2.heap.size + 1, 0, none⟩ = some (.int .i64 c1) := (f.cell 0).trans rfl
  have f_1 : w4.cell? ⟨w2.heap.size + 1, 1, none⟩ = some (.int .i64 i1) := (f.cell 1).trans rfl
  have bt_l : w3.heap.size < w4.heap.size := bt.lt
  have bt_l1 : w3.heap.size < w4.heap.size + 1 := Nat.lt_succ_of_lt bt_l
  have bt_l2 : w3.heap.size < w4.heap.size + 1 + 1 := Nat.lt_succ_of_lt bt_l1
  have bt_0 : w4.cell? ⟨w3.heap.size, 0, none⟩ = some (.slice At ts.length ct) := (bt.cell 0).trans rfl
  have g_l : w3.heap.size + 1 < w4.heap.size := g.lt
  have g_l1 : w3.heap.size + 1 < w4.heap.size + 1 := Nat.lt_succ_of_lt g_l
  have g_l2 : w3.heap.size + 1 < w4.heap.size + 1 + 1 := Nat.lt_succ_of_lt g_l1
  have g_0 : w4.cell? ⟨w3.heap.size + 1, 0, none⟩ = some (.int .i64 c2) := (g.cell 0).trans rfl
  have g_1 : w4.cell? ⟨w3.heap.size + 1, 1, none⟩ = some (.int .i64 i2) := (g.cell 1).trans rfl
  have Vu := Lib.hid (hsu.mono (X' := Free) (fun _ h => h.elim))
  clear hsu
  have Vw := Lib.hid (hsw.mono (X' := Free) (fun _ h => h.elim))
  clear hsw
  clear hb4'
  simp only at *
  replace bx := bx.alloc (.cells #[.slice Au us.length cu] 26)
  replace x := x.alloc (.cells #[.slice Au us.length cu] 26)
  replace f := f.alloc (.cells #[.slice Au us.length cu] 26)
  replace bt := bt.alloc (.cells #[.slice Au us.length cu] 26)
  replace g := g.alloc (.cells #[.slice Au us.length cu] 26)
  have bu := Blk.new w4 26 #[.slice Au us.length cu]
  have HBa6 := Lib.hid (HBm4.out.alloc HBm4.out.size (.cells #[.slice Au us.length cu] 26))
  replace hM := Lib.hid (hM.out.below (below_alloc1 w4 (.cells #[.slice Au us.length cu] 26)))
  replace V0 := Lib.hid (V0.out.keep (Keeps.alloc w4 _ (.cells #[.slice Au us.length cu] 26)))
  replace V2 := Lib.hid (V2.out.keep (Keeps.alloc w4 _ (.cells #[.slice Au us.length cu] 26)))
  replace Vx := Lib.hid (Vx.out.keep (Keeps.alloc w4 _ (.cells #[.slice Au us.length cu] 26)))
  replace Vt := Lib.hid (Vt.out.keep (Keeps.alloc w4 _ (.cells #[.slice Au us.length cu] 26)))
  replace Vu := Lib.hid (Vu.out.keep (Keeps.alloc w4 _ (.cells #[.slice Au us.length cu] 26)))
  replace Vw := Lib.hid (Vw.out.keep (Keeps.alloc w4 _ (.cells #[.slice Au us.length cu] 26)))
  replace bx := bx.alloc (.cells #[.int .i64 c3, .int .i64 i3] 30)
  replace x := x.alloc (.cells #[.int .i64 c3, .int .i64 i3] 30)
  replace f := f.alloc (.cells #[.int .i64 c3, .int .i64 i3] 30)
  replace bt := bt.alloc (.cells #[.int .i64 c3, .int .i64 i3] 30)
  replace g := g.alloc (.cells #[.int .i64 c3, .int .i64 i3] 30)
  replace bu := bu.alloc (.cells #[.int .i64 c3, .int .i64 i3] 30)
  have h : Blk ((w4.alloc (.cells #[.slice Au us.length cu] 26)).alloc (.cells #[.int .i64 c3, .int .i64 i3] 30)) (w4.heap.size + 1) 30 #[.int .i64 c3, .int .i64 i3] := by simpa using Blk.new (w4.alloc (.cells #[.slice Au us.length cu] 26)) 30 #[.int .i64 c3, .int .i64 i3]
  have HBa7 := Lib.hid (HBa6.out.alloc HBa6.out.size (.cells #[.int .i64 c3, .int .i64 i3] 30))
  replace hM := Lib.hid (hM.out.below (below_alloc1 (w4.alloc (.cells #[.slice Au us.length cu] 26)) (.cells #[.int .i64 c3, .int .i64 i3] 30)))
  replace V0 := Lib.hid (V0.out.keep (Keeps.alloc (w4.alloc (.cells #[.slice Au us.length cu] 26)) _ (.cells #[.int .i64 c3, .int .i64 i3] 30)))
  replace V2 := Lib.hid (V2.out.keep (Keeps.alloc (w4.alloc (.cells #[.slice Au us.length cu] 26)) _ (.cells #[.int .i64 c3, .int .i64 i3] 30)))
  replace Vx := Lib.hid (Vx.out.keep (Keeps.alloc (w4.alloc (.cells #[.slice Au us.length cu] 26)) _ (.cells #[.int .i64 c3, .int .i64 i3] 30)))
  replace Vt := Lib.hid (Vt.out.keep (Keeps.alloc (w4.alloc (.cells #[.slice Au us.length cu] 26)) _ (.cells #[.int .i64 c3, .int .i64 i3] 30)))
  replace Vu := Lib.hid (Vu.out.keep (Keeps.alloc (w4.alloc (.cells #[.slice Au us.length cu] 26)) _ (.cells #[.int .i64 c3, .int .i64 i3] 30)))
  replace Vw := Lib.hid (Vw.out.keep (Keeps.alloc (w4.alloc (.cells #[.slice Au us.length cu] 26)) _ (.cells #[.int .i64 c3, .int .i64 i3] 30)))
  obtain ⟨ys, c4, i4⟩ := r4
  go_wp2_with fail
  go_at_call 35
  with_reducible refine (H35a.out _ V0.out V2.out).mono ?_
  rintro e w5 ⟨Ay, cy, rfl, hcy, hsy, hb5'⟩
  have HBm5 := Lib.hid (HBa7.out.trans (hb5'.mono HBa7.out.size))
  replace bx := bx.below hb5' bx.lt
  replace x := x.below hb5' x.lt
  replace f := f.below hb5' f.lt
  replace bt := bt.below hb5' bt.lt
  replace g := g.below hb5' g.lt
  replace bu := bu.below hb5' bu.lt
  replace h := h.below hb5' h.lt
  replace hM := Lib.hid (hM.out.below hb5')
  replace V0 := Lib.hid (V0.out.keep (free_below hb5'))
  replace V2 := Lib.hid (V2.out.keep (free_below hb5'))
  replace Vx := Lib.hid (Vx.out.keep (free_below hb5'))
  replace Vt := Lib.hid (Vt.out.keep (free_below hb5'))
  replace Vu := Lib.hid (Vu.out.keep (free_below hb5'))
  replace Vw := Lib.hid (Vw.out.keep (free_below hb5'))
  clear bx_l bx_l1 bx_l2 bx_0 x_l x_l1 x_l2 x_0 f_l f_l1 f_l2 f_0 f_1 bt_l bt_l1 bt_l2 bt_0 g_l g_l1 g_l2 g_0 g_1
  have bx_l : w.heap.size < w5.heap.size := bx.lt
  have bx_l1 : w.heap.size < w5.heap.size + 1 := Nat.lt_succ_of_lt bx_l
  have bx_l2 : w.heap.size < w5.heap.size + 1 + 1 := Nat.lt_succ_of_lt bx_l1
  have bx_0 : w5.cell? ⟨w.heap.size, 0, none⟩ = some (.slice A s.length k) := (bx.cell 0).trans rfl
  have x_l : w2.heap.size < w5.heap.size := x.lt
  have x_l1 : w2.heap.size < w5.heap.size + 1 := Nat.lt_succ_of_lt x_l
  have x_l2 : w2.heap.size < w5.heap.size + 1 + 1 := Nat.lt_succ_of_lt x_l1
  have x_0 : w5.cell? ⟨w2.heap.size, 0, none⟩ = some (.slice Ax xs.length cx) := (x.cell 0).trans rfl
  have f_l : w2.heap.size + 1 < w5.heap.size := f.lt
  have f_l1 : w2.heap.size + 1 < w5.heap.size + 1 := Nat.lt_succ_of_lt f_l
  have f_l2 : w2.heap.size + 1 < w5.heap.size + 1 + 1 := Nat.lt_succ_of_lt f_l1
  have f_0 : w5.cell? ⟨w2.heap.size + 1, 0, none⟩ = some (.int .i64 c1) := (f.cell 0).trans rfl
  have f_1 : w5.cell? ⟨w2.heap.size + 1, 1, none⟩ = some (.int .i64 i1) := (f.cell 1).trans rfl
  have bt_l : w3.heap.size < w5.heap.size := bt.lt
  have bt_l1 : w3.heap.size < w5.heap.size + 1 := Nat.lt_succ_of_lt bt_l
  have bt_l2 : w3.heap.size < w5.heap.size + 1 + 1 := Nat.lt_succ_of_lt bt_l1
  have bt_0 : w5.cell? ⟨w3.heap.size, 0, none⟩ = some (.slice At ts.length ct) := (bt.cell 0).trans rfl
  have g_l : w3.heap.size + 1 < w5.heap.size := g.lt
  have g_l1 : w3.heap.size + 1 < w5.heap.size + 1 := Nat.lt_succ_of_lt g_l
  have g_l2 : w3.heap.size + 1 < w5.heap.size + 1 + 1 := Nat.lt_succ_of_lt g_l1
  have g_0 : w5.cell? ⟨w3.heap.size + 1, 0, none⟩ = some (.int .i64 c2) := (g.cell 0).trans rfl
  have g_1 : w5.cell? ⟨w3.heap.size + 1, 1, none⟩ = some (.int .i64 i2) := (g.cell 1).trans rfl
  have bu_l : w4.heap.size < w5.heap.size := bu.lt
  have bu_l1 : w4.heap.size < w5.heap.size + 1 := Nat.lt_succ_of_lt bu_l
  have bu_l2 : w4.heap.size < w5.heap.size + 1 + 1 := Nat.lt_succ_of_lt bu_l1
  have bu_0 : w5.cell? ⟨w4.heap.size, 0, none⟩ = some (.slice Au us.length cu) := (bu.cell 0).trans rfl
  have h_l : w4.heap.size + 1 < w5.heap.size := h.lt
  have h_l1 : w4.heap.size + 1 < w5.heap.size + 1 := Nat.lt_succ_of_lt h_l
  have h_l2 : w4.heap.size + 1 < w5.heap.size + 1 + 1 := Nat.lt_succ_of_lt h_l1
  have h_0 : w5.cell? ⟨w4.heap.size + 1, 0, none⟩ = some (.int .i64 c3) := (h.cell 0).trans rfl
  have h_1 : w5.cell? ⟨w4.heap.size + 1, 1, none⟩ = some (.int .i64 i3) := (h.cell 1).trans rfl
  clear hb5'
  have Vy := Lib.hid hsy
  clear hsy
  have ng : w3.heap.size + 1 < w5.heap.size := g_l
  have nh : w4.heap.size + 1 < w5.heap.size := h_l
  simp only at *
  replace bx := bx.alloc (.cells #[.slice Ay ys.length cy] 26)
  replace x := x.alloc (.cells #[.slice Ay ys.length cy] 26)
  replace f := f.alloc (.cells #[.slice Ay ys.length cy] 26)
  replace bt := bt.alloc (.cells #[.slice Ay ys.length cy] 26)
  replace g := g.alloc (.cells #[.slice Ay ys.length cy] 26)
  replace bu := bu.alloc (.cells #[.slice Ay ys.length cy] 26)
  replace h := h.alloc (.cells #[.slice Ay ys.length cy] 26)
  have by_ := Blk.new w5 26 #[.slice Ay ys.length cy]
  have HBa8 := Lib.hid (HBm5.out.alloc HBm5.out.size (.cells #[.slice Ay ys.length cy] 26))
  replace hM := Lib.hid (hM.out.below (below_alloc1 w5 (.cells #[.slice Ay ys.length cy] 26)))
  replace V0 := Lib.hid (V0.out.keep (Keeps.alloc w5 _ (.cells #[.slice Ay ys.length cy] 26)))
  replace V2 := Lib.hid (V2.out.keep (Keeps.alloc w5 _ (.cells #[.slice Ay ys.length cy] 26)))
  replace Vx := Lib.hid (Vx.out.keep (Keeps.alloc w5 _ (.cells #[.slice Ay ys.length cy] 26)))
  replace Vt := Lib.hid (Vt.out.keep (Keeps.alloc w5 _ (.cells #[.slice Ay ys.length cy] 26)))
  replace Vu := Lib.hid (Vu.out.keep (Keeps.alloc w5 _ (.cells #[.slice Ay ys.length cy] 26)))
  replace Vw := Lib.hid (Vw.out.keep (Keeps.alloc w5 _ (.cells #[.slice Ay ys.length cy] 26)))
  replace Vy := Lib.hid (Vy.out.keep (Keeps.alloc w5 _ (.cells #[.slice Ay ys.length cy] 26)))
  replace bx := bx.alloc (.cells #[.int .i64 c4, .int .i64 i4] 30)
  replace x := x.alloc (.cells #[.int .i64 c4, .int .i64 i4] 30)
  replace f := f.alloc (.cells #[.int .i64 c4, .int .i64 i4] 30)
  replace bt := bt.alloc (.cells #[.int .i64 c4, .int .i64 i4] 30)
  replace g := g.alloc (.cells #[.int .i64 c4, .int .i64 i4] 30)
  replace bu := bu.alloc (.cells #[.int .i64 c4, .int .i64 i4] 30)
  replace h := h.alloc (.cells #[.int .i64 c4, .int .i64 i4] 30)
  replace by_ := by_.alloc (.cells #[.int .i64 c4, .int .i64 i4] 30)
  have bw : Blk ((w5.alloc (.cells #[.slice Ay ys.length cy] 26)).alloc (.cells #[.int .i64 c4, .int .i64 i4] 30)) (w5.heap.size + 1) 30 #[.int .i64 c4, .int .i64 i4] := by simpa using Blk.new (w5.alloc (.cells #[.slice Ay ys.length cy] 26)) 30 #[.int .i64 c4, .int .i64 i4]
  have HBa9 := Lib.hid (HBa8.out.alloc HBa8.out.size (.cells #[.int .i64 c4, .int .i64 i4] 30))
  replace hM := Lib.hid (hM.out.below (below_alloc1 (w5.alloc (.cells #[.slice Ay ys.length cy] 26)) (.cells #[.int .i64 c4, .int .i64 i4] 30)))
  replace V0 := Lib.hid (V0.out.keep (Keeps.alloc (w5.alloc (.cells #[.slice Ay ys.length cy] 26)) _ (.cells #[.int .i64 c4, .int .i64 i4] 30)))
  replace V2 := Lib.hid (V2.out.keep (Keeps.alloc (w5.alloc (.cells #[.slice Ay ys.length cy] 26)) _ (.cells #[.int .i64 c4, .int .i64 i4] 30)))
  replace Vx := Lib.hid (Vx.out.keep (Keeps.alloc (w5.alloc (.cells #[.slice Ay ys.length cy] 26)) _ (.cells #[.int .i64 c4, .int .i64 i4] 30)))
  replace Vt := Lib.hid (Vt.out.keep (Keeps.alloc (w5.alloc (.cells #[.slice Ay ys.length cy] 26)) _ (.cells #[.int .i64 c4, .int .i64 i4] 30)))
  replace Vu := Lib.hid (Vu.out.keep (Keeps.alloc (w5.alloc (.cells #[.slice Ay ys.length cy] 26)) _ (.cells #[.int .i64 c4, .int .i64 i4] 30)))
  replace Vw := Lib.hid (Vw.out.keep (Keeps.alloc (w5.alloc (.cells #[.slice Ay ys.length cy] 26)) _ (.cells #[.int .i64 c4, .int .i64 i4] 30)))
  replace Vy := Lib.hid (Vy.out.keep (Keeps.alloc (w5.alloc (.cells #[.slice Ay ys.length cy] 26)) _ (.cells #[.int .i64 c4, .int .i64 i4] 30)))
  by_cases hbad : (Rf.lgF s l).1 ≠ 0
  · obtain ⟨e1, e2, e3, e4⟩ := HBAD.out hbad
    clear H32 H33 H34 H35 H36 HOK1 HOUT HIN HBAD HLG H35a
    generalize Rf.lgF s l = q at *
    obtain ⟨cd, ix⟩ := q
    simp only at hbad
    injection e1 with e1 f1
    injection f1 with f1 g1
    subst e1
    subst f1
    subst g1
    injection e2 with e2 f2
    injection f2 with f2 g2
    subst e2
    replace f2 := f2.symm
    subst f2
    replace g2 := g2.symm
    subst g2
    injection e3 with e3 f3
    injection f3 with f3 g3
    injection e3 with e3 e5
    subst e3
    subst e5
    replace f3 := f3.symm
    subst f3
    replace g3 := g3.symm
    subst g3
    injection e4 with e4 f4
    injection f4 with f4 g4
    subst e4
    replace f4 := f4.symm
    subst f4
    replace g4 := g4.symm
    subst g4
    have hx1 : (c1 == 0) = false := by simpa using hbad
    have hx2 : (c1 != 0) = true := by simpa using hbad
    have hcc : (c1 == c1) = true := by simp
    have hii : (i1 == i1) = true := by simp
    clear hbad
    go_wp2_with fail
    go_ret
    exact ⟨by simp, HBa9.out⟩
  · have hok := (HLG.out (Classical.not_not.1 hbad)).2
    obtain ⟨e1, e4⟩ := HOK1.out hok
    injection e1 with e1 f1
    injection f1 with f1 g1
    subst f1
    subst g1
    injection e4 with e4 f4
    injection f4 with f4 g4
    subst f4
    subst g4
    simp only [Int.toNat_natCast] at e4
    rw [← e1] at e4
    replace e4 := e4.symm
    subst e4
    have hxl : xs.length ≤ 30 := by rw [e1]; exact (hok.stOk _).len
    have hl60 := hok.len
    clear e1 H32 H33 H34 HOK1 HBAD HLG H35a hbad
    go_wp2_with fail
    go_at_call 22
    refine (refStores_any _ Ax Ay cx cy _ _ Vx.out Vy.out (by omega) (by omega)).mono ?_
    rintro e w7 ⟨rfl, hb7'⟩
    have HBm7 := Lib.hid (HBa9.out.trans (hb7'.mono HBa9.out.size))
    replace bx := bx.below hb7' bx.lt
    replace x := x.below hb7' x.lt
    replace f := f.below hb7' f.lt
    replace bt := bt.below hb7' bt.lt
    replace g := g.below hb7' g.lt
    replace bu := bu.below hb7' bu.lt
    replace h := h.below hb7' h.lt
    replace by_ := by_.below hb7' by_.lt
    replace bw := bw.below hb7' bw.lt
    replace hM := Lib.hid (hM.out.below hb7')
    replace V0 := Lib.hid (V0.out.keep (free_below hb7'))
    replace V2 := Lib.hid (V2.out.keep (free_below hb7'))
    replace Vx := Lib.hid (Vx.out.keep (free_below hb7'))
    replace Vt := Lib.hid (Vt.out.keep (free_below hb7'))
    replace Vu := Lib.hid (Vu.out.keep (free_below hb7'))
    replace Vw := Lib.hid (Vw.out.keep (free_below hb7'))
    replace Vy := Lib.hid (Vy.out.keep (free_below hb7'))
    clear bx_l bx_l1 bx_l2 bx_0 x_l x_l1 x_l2 x_0 f_l f_l1 f_l2 f_0 f_1 bt_l bt_l1 bt_l2 bt_0 g_l g_l1 g_l2 g_0 g_1 bu_l bu_l1 bu_l2 bu_0 h_l h_l1 h_l2 h_0 h_1
    have bx_l : w.heap.size < w7.heap.size := bx.lt
    have bx_l1 : w.heap.size < w7.heap.size + 1 := Nat.lt_succ_of_lt bx_l
    have bx_l2 : w.heap.size < w7.heap.size + 1 + 1 := Nat.lt_succ_of_lt bx_l1
    have bx_0 : w7.cell? ⟨w.heap.size, 0, none⟩ = some (.slice A s.length k) := (bx.cell 0).trans rfl
    have x_l : w2.heap.size < w7.heap.size := x.lt
    have x_l1 : w2.heap.size < w7.heap.size + 1 := Nat.lt_succ_of_lt x_l
    have x_l2 : w2.heap.size < w7.heap.size + 1 + 1 := Nat.lt_succ_of_lt x_l1
    have x_0 : w7.cell? ⟨w2.heap.size, 0, none⟩ = some (.slice Ax xs.length cx) := (x.cell 0).trans rfl
    have f_l : w2.heap.size + 1 < w7.heap.size := f.lt
    have f_l1 : w2.heap.size + 1 < w7.heap.size + 1 := Nat.lt_succ_of_lt f_l
    have f_l2 : w2.heap.size + 1 < w7.heap.size + 1 + 1 := Nat.lt_succ_of_lt f_l1
    have f_0 : w7.cell? ⟨w2.heap.size + 1, 0, none⟩ = some (.int .i64 0) := (f.cell 0).trans rfl
    have f_1 : w7.cell? ⟨w2.heap.size + 1, 1, none⟩ = some (.int .i64 0) := (f.cell 1).trans rfl
    have bt_l : w3.heap.size < w7.heap.size := bt.lt
    have bt_l1 : w3.heap.size < w7.heap.size + 1 := Nat.lt_succ_of_lt bt_l
    have bt_l2 : w3.heap.size < w7.heap.size + 1 + 1 := Nat.lt_succ_of_lt bt_l1
    have bt_0 : w7.cell? ⟨w3.heap.size, 0, none⟩ = some (.slice At ts.length ct) := (bt.cell 0).trans rfl
    have g_l : w3.heap.size + 1 < w7.heap.size := g.lt
    have g_l1 : w3.heap.size + 1 < w7.heap.size + 1 := Nat.lt_succ_of_lt g_l
    have g_l2 : w3.heap.size + 1 < w7.heap.size + 1 + 1 := Nat.lt_succ_of_lt g_l1
    have g_0 : w7.cell? ⟨w3.heap.size + 1, 0, none⟩ = some (.int .i64 c2) := (g.cell 0).trans rfl
    have g_1 : w7.cell? ⟨w3.heap.size + 1, 1, none⟩ = some (.int .i64 i2) := (g.cell 1).trans rfl
    have bu_l : w4.heap.size < w7.heap.size := bu.lt
    have bu_l1 : w4.heap.size < w7.heap.size + 1 := Nat.lt_succ_of_lt bu_l
    have bu_l2 : w4.heap.size < w7.heap.size + 1 + 1 := Nat.lt_succ_of_lt bu_l1
    have bu_0 : w7.cell? ⟨w4.heap.size, 0, none⟩ = some (.slice Au us.length cu) := (bu.cell 0).trans rfl
    have h_l : w4.heap.size + 1 < w7.heap.size := h.lt
    have h_l1 : w4.heap.size + 1 < w7.heap.size + 1 := Nat.lt_succ_of_lt h_l
    have h_l2 : w4.heap.size + 1 < w7.heap.size + 1 + 1 := Nat.lt_succ_of_lt h_l1
    have h_0 : w7.cell? ⟨w4.heap.size + 1, 0, none⟩ = some (.int .i64 c3) := (h.cell 0).trans rfl
    have h_1 : w7.cell? ⟨w4.heap.size + 1, 1, none⟩ = some (.int .i64 i3) := (h.cell 1).trans rfl
    have by__l : w5.heap.size < w7.heap.size := by_.lt
    have by__l1 : w5.heap.size < w7.heap.size + 1 := Nat.lt_succ_of_lt by__l
    have by__l2 : w5.heap.size < w7.heap.size + 1 + 1 := Nat.lt_succ_of_lt by__l1
    have by__0 : w7.cell? ⟨w5.heap.size, 0, none⟩ = some (.slice Ay xs.length cy) := (by_.cell 0).trans rfl
    have bw_l : w5.heap.size + 1 < w7.heap.size := bw.lt
    have bw_l1 : w5.heap.size + 1 < w7.heap.size + 1 := Nat.lt_succ_of_lt bw_l
    have bw_l2 : w5.heap.size + 1 < w7.heap.size + 1 + 1 := Nat.lt_succ_of_lt bw_l1
    have bw_0 : w7.cell? ⟨w5.heap.size + 1, 0, none⟩ = some (.int .i64 0) := (bw.cell 0).trans rfl
    have bw_1 : w7.cell? ⟨w5.heap.size + 1, 1, none⟩ = some (.int .i64 0) := (bw.cell 1).trans rfl
    clear hb7'
    by_cases ht : t < 0 ∨ 100000 < t
    · obtain ⟨e2, e3⟩ := HOUT.out hok ht
      injection e2 with e2 f2
      injection f2 with f2 g2
      subst e2
      subst f2
      subst g2
      injection e3 with e3 f3
      injection f3 with f3 g3
      injection e3 with e3 e5
      subst e3
      subst e5
      subst f3
      subst g3
      have hb : (decide (0 ≤ t) && decide (t ≤ 100000)) = false := by
        rw [Bool.and_eq_false_iff]
        rcases ht with h | h
        · left; simp; omega
        · right; simp; omega
      clear ht H35 H36 HOUT HIN hok
      go_wp2_with fail
      go_at_call 26
      refine (in_any _ _ _ _).mono ?_
      rintro e w9 ⟨rfl, hw9⟩
      have hw9 := hw9.symm
      subst hw9
      rw [hb]
      go_wp2_with fail
      go_at_call 21
      refine (fault_b _ _ _).mono ?_
      rintro e w8 ⟨rfl, hb8'⟩
      have HBm8 := Lib.hid (HBm7.out.trans (hb8'.mono HBm7.out.size))
      replace bx := bx.below hb8' bx.lt
      replace x := x.below hb8' x.lt
      replace f := f.below hb8' f.lt
      replace bt := bt.below hb8' bt.lt
      replace g := g.below hb8' g.lt
      replace bu := bu.below hb8' bu.lt
      replace h := h.below hb8' h.lt
      replace by_ := by_.below hb8' by_.lt
      replace bw := bw.below hb8' bw.lt
      replace hM := Lib.hid (hM.out.below hb8')
      replace V0 := Lib.hid (V0.out.keep (free_below hb8'))
      replace V2 := Lib.hid (V2.out.keep (free_below hb8'))
      replace Vx := Lib.hid (Vx.out.keep (free_below hb8'))
      replace Vt := Lib.hid (Vt.out.keep (free_below hb8'))
      replace Vu := Lib.hid (Vu.out.keep (free_below hb8'))
      replace Vw := Lib.hid (Vw.out.keep (free_below hb8'))
      replace Vy := Lib.hid (Vy.out.keep (free_below hb8'))
      clear bx_l bx_l1 bx_l2 bx_0 x_l x_l1 x_l2 x_0 f_l f_l1 f_l2 f_0 f_1 bt_l bt_l1 bt_l2 bt_0 g_l g_l1 g_l2 g_0 g_1 bu_l bu_l1 bu_l2 bu_0 h_l h_l1 h_l2 h_0 h_1 by__l by__l1 by__l2 by__0 bw_l bw_l1 bw_l2 bw_0 bw_1
      have bx_l : w.heap.size < w8.heap.size := bx.lt
      have bx_l1 : w.heap.size < w8.heap.size + 1 := Nat.lt_succ_of_lt bx_l
      have bx_l2 : w.heap.size < w8.heap.size + 1 + 1 := Nat.lt_succ_of_lt bx_l1
      have bx_0 : w8.cell? ⟨w.heap.size, 0, none⟩ = some (.slice A s.length k) := (bx.cell 0).trans rfl
      have x_l : w2.heap.size < w8.heap.size := x.lt
      have x_l1 : w2.heap.size < w8.heap.size + 1 := Nat.lt_succ_of_lt x_l
      have x_l2 : w2.heap.size < w8.heap.size + 1 + 1 := Nat.lt_succ_of_lt x_l1
      have x_0 : w8.cell? ⟨w2.heap.size, 0, none⟩ = some (.slice Ax xs.length cx) := (x.cell 0).trans rfl
      have f_l : w2.heap.size + 1 < w8.heap.size := f.lt
      have f_l1 : w2.heap.size + 1 < w8.heap.size + 1 := Nat.lt_succ_of_lt f_l
      have f_l2 : w2.heap.size + 1 < w8.heap.size + 1 + 1 := Nat.lt_succ_of_lt f_l1
      have f_0 : w8.cell? ⟨w2.heap.size + 1, 0, none⟩ = some (.int .i64 0) := (f.cell 0).trans rfl
      have f_1 : w8.cell? ⟨w2.heap.size + 1, 1, none⟩ = some (.int .i64 0) := (f.cell 1).trans rfl
      have bt_l : w3.heap.size < w8.heap.size := bt.lt
      have bt_l1 : w3.heap.size < w8.heap.size + 1 := Nat.lt_succ_of_lt bt_l
      have bt_l2 : w3.heap.size < w8.heap.size + 1 + 1 := Nat.lt_succ_of_lt bt_l1
      have bt_0 : w8.cell? ⟨w3.heap.size, 0, none⟩ = some (.slice At 0 ct) := (bt.cell 0).trans rfl
      have g_l : w3.heap.size + 1 < w8.heap.size := g.lt
      have g_l1 : w3.heap.size + 1 < w8.heap.size + 1 := Nat.lt_succ_of_lt g_l
      have g_l2 : w3.heap.size + 1 < w8.heap.size + 1 + 1 := Nat.lt_succ_of_lt g_l1
      have g_0 : w8.cell? ⟨w3.heap.size + 1, 0, none⟩ = some (.int .i64 3) := (g.cell 0).trans rfl
      have g_1 : w8.cell? ⟨w3.heap.size + 1, 1, none⟩ = some (.int .i64 (-3)) := (g.cell 1).trans rfl
      have bu_l : w4.heap.size < w8.heap.size := bu.lt
      have bu_l1 : w4.heap.size < w8.heap.size + 1 := Nat.lt_succ_of_lt bu_l
      have bu_l2 : w4.heap.size < w8.heap.size + 1 + 1 := Nat.lt_succ_of_lt bu_l1
      have bu_0 : w8.cell? ⟨w4.heap.size, 0, none⟩ = some (.slice Au 0 cu) := (bu.cell 0).trans rfl
      have h_l : w4.heap.size + 1 < w8.heap.size := h.lt
      have h_l1 : w4.heap.size + 1 < w8.heap.size + 1 := Nat.lt_succ_of_lt h_l
      have h_l2 : w4.heap.size + 1 < w8.heap.size + 1 + 1 := Nat.lt_succ_of_lt h_l1
      have h_0 : w8.cell? ⟨w4.heap.size + 1, 0, none⟩ = some (.int .i64 3) := (h.cell 0).trans rfl
      have h_1 : w8.cell? ⟨w4.heap.size + 1, 1, none⟩ = some (.int .i64 (-3)) := (h.cell 1).trans rfl
      have by__l : w5.heap.size < w8.heap.size := by_.lt
      have by__l1 : w5.heap.size < w8.heap.size + 1 := Nat.lt_succ_of_lt by__l
      have by__l2 : w5.heap.size < w8.heap.size + 1 + 1 := Nat.lt_succ_of_lt by__l1
      have by__0 : w8.cell? ⟨w5.heap.size, 0, none⟩ = some (.slice Ay xs.length cy) := (by_.cell 0).trans rfl
      have bw_l : w5.heap.size + 1 < w8.heap.size := bw.lt
      have bw_l1 : w5.heap.size + 1 < w8.heap.size + 1 := Nat.lt_succ_of_lt bw_l
      have bw_l2 : w5.heap.size + 1 < w8.heap.size + 1 + 1 := Nat.lt_succ_of_lt bw_l1
      have bw_0 : w8.cell? ⟨w5.heap.size + 1, 0, none⟩ = some (.int .i64 0) := (bw.cell 0).trans rfl
      have bw_f0 : w8.frozen? ⟨w5.heap.size + 1, 0, none⟩ = false := bw.frozen 0
      have bw_1 : w8.cell? ⟨w5.heap.size + 1, 1, none⟩ = some (.int .i64 0) := (bw.cell 1).trans rfl
      have bw_f1 : w8.frozen? ⟨w5.heap.size + 1, 1, none⟩ = false := bw.frozen 1
      have neaw3 : ¬ (w3.heap.size = w5.heap.size + 1) := by omega
      have nebw3 : ¬ (w5.heap.size + 1 = w3.heap.size) := by omega
      have neaw3p : ¬ (w3.heap.size + 1 = w5.heap.size + 1) := by omega
      have nebw3p : ¬ (w5.heap.size + 1 = w3.heap.size + 1) := by omega
      have neaw4 : ¬ (w4.heap.size = w5.heap.size + 1) := by omega
      have nebw4 : ¬ (w5.heap.size + 1 = w4.heap.size) := by omega
      have neaw4p : ¬ (w4.heap.size + 1 = w5.heap.size + 1) := by omega
      have nebw4p : ¬ (w5.heap.size + 1 = w4.heap.size + 1) := by omega
      have necw3 : ¬ (w3.heap.size = w5.heap.size) := by omega
      have nedw3 : ¬ (w5.heap.size = w3.heap.size) := by omega
      have necw4 : ¬ (w4.heap.size = w5.heap.size) := by omega
      have nedw4 : ¬ (w5.heap.size = w4.heap.size) := by omega
      clear hb8'
      go_wp2_with fail
      go_ret
      exact ⟨by simp, (HBm8.out.setCell (p := ⟨w5.heap.size + 1, 0, none⟩) (by have := HBm5.out.size; simp only; omega) _).setCell (p := ⟨w5.heap.size + 1, 1, none⟩) (by have := HBm5.out.size; simp only; omega) _⟩
    · obtain ⟨e2, e3⟩ := HIN.out hok ht
      injection e2 with e2 f2
      injection f2 with f2 g2
      subst f2
      subst g2
      injection e3 with e3 f3
      injection f3 with f3 g3
      injection e3 with e3 e5
      subst f3
      subst g3
      have hb : (decide (0 ≤ t) && decide (t ≤ 100000)) = true := by rw [Bool.and_eq_true]; exact ⟨by simp; omega, by simp; omega⟩
      have hadd : IntKind.i64.wrap (t + 1) = t + 1 := IntWalk.i64_in _ (by omega)
      have htl : ts.length ≤ 30 := by rw [e2]; exact (hok.stOk _).len
      have hul : us.length ≤ 30 := by rw [e3]; exact (hok.stOk _).len
      have hel := Rf.ear_le l t
      have HR1 : Hid (Rf.rrF s l ((Rf.ear l (t + 1) : Nat) : Int) = (ts, (0, 0))) := Lib.hid (by rw [(Rf.rp_ok hok _).2, e2]; simp)
      have HR2 : Hid (Rf.rrF s l ((Rf.ear l t : Nat) : Int) = (us, (0, 0))) := Lib.hid (by rw [(Rf.rp_ok hok _).2, e3]; simp)
      have H35b := Lib.hid (H35.out ((Rf.ear l (t + 1) : Nat) : Int))
      have H35c := Lib.hid (H35.out ((Rf.ear l t : Nat) : Int))
      rw [HR1.out] at H35b
      rw [HR2.out] at H35c
      have H36b := Lib.hid (H36.out (t + 1))
      have H36c := Lib.hid (H36.out t)
      clear ht H35 H36 HOUT HIN hok HR1 HR2 e2 e3
      generalize Rf.ear l (t + 1) = n1 at *
      generalize Rf.ear l t = n2 at *
      have hull : ul.length = l.length - n2 := by rw [e5]; simp
      have hsf : ∀ W, (Instr.slice 54 (.slice A2 l.length k2) (some (.int .i64 (n2 : Int))) none none).run Tryd.prog W = .ok (.slice (if k2 = n2 then A2 else A2.map (·.add (n2 * 4))) (l.length - n2) (k2 - n2)) W := fun W => slice_from54 W A2 l.length k2 n2 hel hk2
      have HVD := Lib.hid (fun (w1 : World) (hv2 : SA w1 Free A2 (esV l)) => show SA w1 Free (if k2 = n2 then A2 else A2.map (·.add (n2 * 4))) (esV ul) from by rw [e5, esV_drop]; exact hv2.drop _ _ (fun h => .inl (by rw [Fl.len eC_len]; omega)))
      clear e5
      generalize (if k2 = n2 then A2 else A2.map (·.add (n2 * 4))) = Ad at *
      go_wp2_with fail
      go_at_call 26
      refine (in_any _ _ _ _).mono ?_
      rintro e w9 ⟨rfl, hw9⟩
      have hw9 := hw9.symm
      subst hw9
      rw [hb]
      go_wp2_with fail
      obtain ⟨wq, rfl⟩ : ∃ wq : World, wq = w7 := ⟨_, rfl⟩
      have hbq := Lib.hid HBm7.out
      have HK : Hid (∀ w6 : World, Below wq.heap.size wq w6 → w6.cell? ⟨w.heap.size, 0, none⟩ = some (.slice A s.length k)) := Lib.hid fun w6 h6 => (h6.cell (p := ⟨_, _, none⟩) bx.lt).trans ((bx.cell 0).trans rfl)
      have HE2 := Lib.hid (fun (wd : World) (hb : Below wq.heap.size wq wd) => H36b.out wd (V2.out.keep (free_below hb)))
      have HA2 := Lib.hid (fun (wd : World) (hb : Below wq.heap.size wq wd) => H35b.out wd (V0.out.keep (free_below hb)) (V2.out.keep (free_below hb)))
      clear bx_l bx_l1 bx_l2 bx_0 x_l x_l1 x_l2 x_0 f_l f_l1 f_l2 f_0 f_1 bt_l bt_l1 bt_l2 bt_0 g_l g_l1 g_l2 g_0 g_1 bu_l bu_l1 bu_l2 bu_0 h_l h_l1 h_l2 h_0 h_1 by__l by__l1 by__l2 by__0 bw_l bw_l1 bw_l2 bw_0 bw_1
      go_cut [16, 17] (fun p q wx => TwoOut wq ts 0 0 p q wx)
      case first =>
        refine wp_region_noPanic ?_
        refine wp_region_held_drew (S := (fun w6 : World => w6.cell? ⟨w.heap.size, 0, none⟩ = some (.slice A s.length k))) (by kernel_rfl) ?_ (fun hST => ?_)
        · exact HK.out _ (below_drew' (Below.refl _ _))
        have hq : Below wq.heap.size wq wq.drew := below_drew' (Below.refl _ _)
        generalize wq.drew = WT at *
        refine wpAnyH_take (i := 0) (v := .agg #[.slice A s.length k]) rfl (by kernel_rfl) (by kernel_rfl) (by kernel_rfl) (fun _ _ _ h => h) (Or.inl ⟨by kernel_rfl, ?qT1⟩) (by assumption) ?rqT1
        case qT1 => (intro w hSw; (try dsimp only at hSw); go_simp)
        try simp only [Act.put, List.setIfInBounds_toArray]
        refine wpAnyH_take (i := 1) (v := .slice A2 l.length k2) rfl (by kernel_rfl) (by kernel_rfl) (by kernel_rfl) (fun _ _ _ h => h) (Or.inl ⟨by kernel_rfl, ?qT2⟩) (by assumption) ?rqT2
        case qT2 => (intro w hSw; (try dsimp only at hSw); go_simp)
        try simp only [Act.put, List.setIfInBounds_toArray]
        refine wpAnyH_take (i := 2) (v := .slice A2 l.length k2) rfl (by kernel_rfl) (by kernel_rfl) (by kernel_rfl) (fun _ _ _ h => h) (Or.inl ⟨by kernel_rfl, ?qT3⟩) (by assumption) ?rqT3
        case qT3 => (intro w hSw; (try dsimp only at hSw); go_simp)
        try simp only [Act.put, List.setIfInBounds_toArray]
        refine wpAnyH_take (i := 3) (v := .int .i64 t) rfl (by kernel_rfl) (by kernel_rfl) (by kernel_rfl) (fun _ _ _ h => h) (Or.inl ⟨by kernel_rfl, ?qT4⟩) (by assumption) ?rqT4
        case qT4 => (intro w hSw; (try dsimp only at hSw); go_simp)
        try simp only [Act.put, List.setIfInBounds_toArray]
        refine wpAnyH_take (i := 4) (v := .int .i64 (t + 1)) rfl (by kernel_rfl) (by kernel_rfl) (by kernel_rfl) (fun _ _ _ h => h) (Or.inl ⟨by kernel_rfl, ?qT5⟩) (by assumption) ?rqT5
        case qT5 => (intro w hSw; (try dsimp only at hSw); go_simp)
        try simp only [Act.put, List.setIfInBounds_toArray]
        refine wpAnyH_ready (rs := [5, 10, 11]) (by kernel_rfl) (by simp) ?_
        refine AllReadyH.cons rfl (fun K hK => ?sT6) (AllReadyH.cons rfl (fun K hK => ?sT7) (AllReadyH.cons rfl (fun K hK => ?sT8) (AllReadyH.nil)))
        case sT6 =>
          go_simp
          go_at_call 36
          refine (HE2.out _ hq).mono ?_
          rintro e WT9 ⟨rfl, hwe⟩
          replace hwe := hwe.symm
          subst hwe
          try go_wp2_with fail
          refine hK.out _ _ ?_ (fun hSS9 => ?_)
          · exact HK.out _ hq
          clear hK K
          try simp only [Act.put, List.setIfInBounds_toArray]
          refine wpAnyH_ready (rs := [6, 10, 11]) (by kernel_rfl) (by simp) ?_
          refine AllReadyH.cons rfl (fun K hK => ?sT10) (AllReadyH.cons rfl (fun K hK => ?sT11) (AllReadyH.cons rfl (fun K hK => ?sT12) (AllReadyH.nil)))
          case sT10 =>
            go_simp
            go_at_call 35
            refine (HA2.out _ hq).mono ?_
            rintro e WT13 ⟨Aa, ca, rfl, hca, hsa, hb9⟩
            try go_wp2_with fail
            refine hK.out _ _ ?_ (fun hSS13 => ?_)
            · exact HK.out _ (hq.trans (hb9.mono hq.size))
            clear hK K
            try simp only [Act.put, List.setIfInBounds_toArray]
            replace hq := hq.trans (hb9.mono hq.size)
            clear hb9
            refine wpAnyH_take (i := 7) (v := .tuple #[.agg #[.slice Aa ts.length ca], .agg #[.int .i64 0, .int .i64 0]]) rfl (by kernel_rfl) (by kernel_rfl) (by kernel_rfl) (fun _ _ _ h => h) (Or.inl ⟨by kernel_rfl, ?qT14⟩) (by assumption) ?rqT14
            case qT14 => (intro w hSw; (try dsimp only at hSw); go_simp)
            try simp only [Act.put, List.setIfInBounds_toArray]
            refine wpAnyH_take (i := 8) (v := .agg #[.slice Aa ts.length ca]) rfl (by kernel_rfl) (by kernel_rfl) (by kernel_rfl) (fun _ _ _ h => h) (Or.inl ⟨by kernel_rfl, ?qT15⟩) (by assumption) ?rqT15
            case qT15 => (intro w hSw; (try dsimp only at hSw); go_simp)
            try simp only [Act.put, List.setIfInBounds_toArray]
            refine wpAnyH_take (i := 9) (v := .agg #[.int .i64 0, .int .i64 0]) rfl (by kernel_rfl) (by kernel_rfl) (by kernel_rfl) (fun _ _ _ h => h) (Or.inl ⟨by kernel_rfl, ?qT16⟩) (by assumption) ?rqT16
            case qT16 => (intro w hSw; (try dsimp only at hSw); go_simp)
            try simp only [Act.put, List.setIfInBounds_toArray]
            refine wpAnyH_ready (rs := [10, 11]) (by kernel_rfl) (by simp) ?_
            refine AllReadyH.cons rfl (fun K hK => ?sT17) (AllReadyH.cons rfl (fun K hK => ?sT18) (AllReadyH.nil))
            case sT17 =>
              go_simp
              refine hK.out _ _ ?_ (fun hSS19 => ?_)
              · exact HK.out _ (hq.alloc hq.size (.cells #[.slice none 0 0] 26))
              clear hK K
              try simp only [Act.put, List.setIfInBounds_toArray]
              have g0A := hq.size
              replace hq := hq.alloc hq.size (.cells #[.slice none 0 0] 26)
              have bA := Blk.new WT13 26 #[.slice none 0 0]
              replace hsa := hsa.keep (Keeps.alloc WT13 _ (.cells #[.slice none 0 0] 26))
              generalize WT13.alloc (.cells #[.slice none 0 0] 26) = WT19 at *
              refine wpAnyH_ready (rs := [11]) (by kernel_rfl) (by simp) ?_
              refine AllReadyH.cons rfl (fun K hK => ?sT20) (AllReadyH.nil)
              case sT20 =>
                go_simp
                refine hK.out _ _ ?_ (fun hSS21 => ?_)
                · exact HK.out _ (hq.alloc hq.size (.cells #[.int .i64 0, .int .i64 0] 30))
                clear hK K
                try simp only [Act.put, List.setIfInBounds_toArray]
                have g0B := hq.size
                replace hq := hq.alloc hq.size (.cells #[.int .i64 0, .int .i64 0] 30)
                have neAB := bA.lt
                replace bA := bA.alloc (.cells #[.int .i64 0, .int .i64 0] 30)
                have bB := Blk.new WT19 30 #[.int .i64 0, .int .i64 0]
                replace hsa := hsa.keep (Keeps.alloc WT19 _ (.cells #[.int .i64 0, .int .i64 0] 30))
                generalize WT19.alloc (.cells #[.int .i64 0, .int .i64 0] 30) = WT21 at *
                refine wpAnyH_ready (rs := [12]) (by kernel_rfl) (by simp) ?_
                refine AllReadyH.cons rfl (fun K hK => ?sT22) AllReadyH.nil
                have bAl := bA.lt
                have bAf0 := bA.frozen 0
                have bAc0 := (bA.cell 0).trans rfl
                have bBl := bB.lt
                have bBf0 := bB.frozen 0
                have bBc0 := (bB.cell 0).trans rfl
                have bBf1 := bB.frozen 1
                have bBc1 := (bB.cell 1).trans rfl
                go_simp
                refine hK.out _ _ ?_ (fun hSS22 => ?_)
                · exact HK.out _ (hq.setCell g0A _)
                clear hK K
                try simp only [Act.put, List.setIfInBounds_toArray]
                refine wpAnyH_ready (rs := [13]) (by kernel_rfl) (by simp) ?_
                refine AllReadyH.cons rfl (fun K hK => ?sT23) AllReadyH.nil
                go_simp
                refine hK.out _ _ ?_ (fun hSS23 => ?_)
                · exact HK.out _ (((hq.setCell g0A _).setCell g0B _).setCell g0B _)
                clear hK K
                try simp only [Act.put, List.setIfInBounds_toArray]
                refine wpAnyH_done (by kernel_rfl) ?_ _
                refine NoPanic.normal ?_
                try go_wp2_with fail
                go_meet
                exact TwoOut.ca2 hq hca hsa bA bB (by omega) g0A g0B
            case sT18 =>
              go_simp
              refine hK.out _ _ ?_ (fun hSS24 => ?_)
              · exact HK.out _ (hq.alloc hq.size (.cells #[.int .i64 0, .int .i64 0] 30))
              clear hK K
              try simp only [Act.put, List.setIfInBounds_toArray]
              have g0B := hq.size
              replace hq := hq.alloc hq.size (.cells #[.int .i64 0, .int .i64 0] 30)
              have bB := Blk.new WT13 30 #[.int .i64 0, .int .i64 0]
              replace hsa := hsa.keep (Keeps.alloc WT13 _ (.cells #[.int .i64 0, .int .i64 0] 30))
              generalize WT13.alloc (.cells #[.int .i64 0, .int .i64 0] 30) = WT24 at *
              refine wpAnyH_ready (rs := [10]) (by kernel_rfl) (by simp) ?_
              refine AllReadyH.cons rfl (fun K hK => ?sT25) (AllReadyH.nil)
              case sT25 =>
                go_simp
                refine hK.out _ _ ?_ (fun hSS26 => ?_)
                · exact HK.out _ (hq.alloc hq.size (.cells #[.slice none 0 0] 26))
                clear hK K
                try simp only [Act.put, List.setIfInBounds_toArray]
                have g0A := hq.size
                replace hq := hq.alloc hq.size (.cells #[.slice none 0 0] 26)
                have neBA := bB.lt
                replace bB := bB.alloc (.cells #[.slice none 0 0] 26)
                have bA := Blk.new WT24 26 #[.slice none 0 0]
                replace hsa := hsa.keep (Keeps.alloc WT24 _ (.cells #[.slice none 0 0] 26))
                generalize WT24.alloc (.cells #[.slice none 0 0] 26) = WT26 at *
                refine wpAnyH_ready (rs := [12]) (by kernel_rfl) (by simp) ?_
                refine AllReadyH.cons rfl (fun K hK => ?sT27) AllReadyH.nil
                have bAl := bA.lt
                have bAf0 := bA.frozen 0
                have bAc0 := (bA.cell 0).trans rfl
                have bBl := bB.lt
                have bBf0 := bB.frozen 0
                have bBc0 := (bB.cell 0).trans rfl
                have bBf1 := bB.frozen 1
                have bBc1 := (bB.cell 1).trans rfl
                go_simp
                refine hK.out _ _ ?_ (fun hSS27 => ?_)
                · exact HK.out _ (hq.setCell g0A _)
                clear hK K
                try simp only [Act.put, List.setIfInBounds_toArray]
                refine wpAnyH_ready (rs := [13]) (by kernel_rfl) (by simp) ?_
                refine AllReadyH.cons rfl (fun K hK => ?sT28) AllReadyH.nil
                go_simp
                refine hK.out _ _ ?_ (fun hSS28 => ?_)
                · exact HK.out _ (((hq.setCell g0A _).setCell g0B _).setCell g0B _)
                clear hK K
                try simp only [Act.put, List.setIfInBounds_toArray]
                refine wpAnyH_done (by kernel_rfl) ?_ _
                refine NoPanic.normal ?_
                try go_wp2_with fail
                go_meet
                exact TwoOut.ca2 hq hca hsa bA bB (by omega) g0A g0B
          case sT11 =>
            go_simp
            refine hK.out _ _ ?_ (fun hSS29 => ?_)
            · exact HK.out _ (hq.alloc hq.size (.cells #[.slice none 0 0] 26))
            clear hK K
            try simp only [Act.put, List.setIfInBounds_toArray]
            have g0A := hq.size
            replace hq := hq.alloc hq.size (.cells #[.slice none 0 0] 26)
            have bA := Blk.new WT 26 #[.slice none 0 0]
            generalize WT.alloc (.cells #[.slice none 0 0] 26) = WT29 at *
            refine wpAnyH_ready (rs := [6, 11]) (by kernel_rfl) (by simp) ?_
            refine AllReadyH.cons rfl (fun K hK => ?sT30) (AllReadyH.cons rfl (fun K hK => ?sT31) (AllReadyH.nil))
            case sT30 =>
              go_simp
              go_at_call 35
              refine (HA2.out _ hq).mono ?_
              rintro e WT32 ⟨Aa, ca, rfl, hca, hsa, hb9⟩
              try go_wp2_with fail
              refine hK.out _ _ ?_ (fun hSS32 => ?_)
              · exact HK.out _ (hq.trans (hb9.mono hq.size))
              clear hK K
              try simp only [Act.put, List.setIfInBounds_toArray]
              replace hq := hq.trans (hb9.mono hq.size)
              replace bA := bA.below hb9 bA.lt
              clear hb9
              refine wpAnyH_take (i := 7) (v := .tuple #[.agg #[.slice Aa ts.length ca], .agg #[.int .i64 0, .int .i64 0]]) rfl (by kernel_rfl) (by kernel_rfl) (by kernel_rfl) (fun _ _ _ h => h) (Or.inl ⟨by kernel_rfl, ?qT33⟩) (by assumption) ?rqT33
              case qT33 => (intro w hSw; (try dsimp only at hSw); go_simp)
              try simp only [Act.put, List.setIfInBounds_toArray]
              refine wpAnyH_take (i := 8) (v := .agg #[.slice Aa ts.length ca]) rfl (by kernel_rfl) (by kernel_rfl) (by kernel_rfl) (fun _ _ _ h => h) (Or.inl ⟨by kernel_rfl, ?qT34⟩) (by assumption) ?rqT34
              case qT34 => (intro w hSw; (try dsimp only at hSw); go_simp)
              try simp only [Act.put, List.setIfInBounds_toArray]
              refine wpAnyH_take (i := 9) (v := .agg #[.int .i64 0, .int .i64 0]) rfl (by kernel_rfl) (by kernel_rfl) (by kernel_rfl) (fun _ _ _ h => h) (Or.inl ⟨by kernel_rfl, ?qT35⟩) (by assumption) ?rqT35
              case qT35 => (intro w hSw; (try dsimp only at hSw); go_simp)
              try simp only [Act.put, List.setIfInBounds_toArray]
              refine wpAnyH_ready (rs := [11]) (by kernel_rfl) (by simp) ?_
              refine AllReadyH.cons rfl (fun K hK => ?sT36) (AllReadyH.nil)
              case sT36 =>
                go_simp
                refine hK.out _ _ ?_ (fun hSS37 => ?_)
                · exact HK.out _ (hq.alloc hq.size (.cells #[.int .i64 0, .int .i64 0] 30))
                clear hK K
                try simp only [Act.put, List.setIfInBounds_toArray]
                have g0B := hq.size
                replace hq := hq.alloc hq.size (.cells #[.int .i64 0, .int .i64 0] 30)
                have neAB := bA.lt
                replace bA := bA.alloc (.cells #[.int .i64 0, .int .i64 0] 30)
                have bB := Blk.new WT32 30 #[.int .i64 0, .int .i64 0]
                replace hsa := hsa.keep (Keeps.alloc WT32 _ (.cells #[.int .i64 0, .int .i64 0] 30))
                generalize WT32.alloc (.cells #[.int .i64 0, .int .i64 0] 30) = WT37 at *
                refine wpAnyH_ready (rs := [12]) (by kernel_rfl) (by simp) ?_
                refine AllReadyH.cons rfl (fun K hK => ?sT38) AllReadyH.nil
                have bAl := bA.lt
                have bAf0 := bA.frozen 0
                have bAc0 := (bA.cell 0).trans rfl
                have bBl := bB.lt
                have bBf0 := bB.frozen 0
                have bBc0 := (bB.cell 0).trans rfl
                have bBf1 := bB.frozen 1
                have bBc1 := (bB.cell 1).trans rfl
                go_simp
                refine hK.out _ _ ?_ (fun hSS38 => ?_)
                · exact HK.out _ (hq.setCell g0A _)
                clear hK K
                try simp only [Act.put, List.setIfInBounds_toArray]
                refine wpAnyH_ready (rs := [13]) (by kernel_rfl) (by simp) ?_
                refine AllReadyH.cons rfl (fun K hK => ?sT39) AllReadyH.nil
                go_simp
                refine hK.out _ _ ?_ (fun hSS39 => ?_)
                · exact HK.out _ (((hq.setCell g0A _).setCell g0B _).setCell g0B _)
                clear hK K
                try simp only [Act.put, List.setIfInBounds_toArray]
                refine wpAnyH_done (by kernel_rfl) ?_ _
                refine NoPanic.normal ?_
                try go_wp2_with fail
                go_meet
                exact TwoOut.ca2 hq hca hsa bA bB (by omega) g0A g0B
            case sT31 =>
              go_simp
              refine hK.out _ _ ?_ (fun hSS40 => ?_)
              · exact HK.out _ (hq.alloc hq.size (.cells #[.int .i64 0, .int .i64 0] 30))
              clear hK K
              try simp only [Act.put, List.setIfInBounds_toArray]
              have g0B := hq.size
              replace hq := hq.alloc hq.size (.cells #[.int .i64 0, .int .i64 0] 30)
              have neAB := bA.lt
              replace bA := bA.alloc (.cells #[.int .i64 0, .int .i64 0] 30)
              have bB := Blk.new WT29 30 #[.int .i64 0, .int .i64 0]
              generalize WT29.alloc (.cells #[.int .i64 0, .int .i64 0] 30) = WT40 at *
              refine wpAnyH_ready (rs := [6]) (by kernel_rfl) (by simp) ?_
              refine AllReadyH.cons rfl (fun K hK => ?sT41) (AllReadyH.nil)
              case sT41 =>
                go_simp
                go_at_call 35
                refine (HA2.out _ hq).mono ?_
                rintro e WT42 ⟨Aa, ca, rfl, hca, hsa, hb9⟩
                try go_wp2_with fail
                refine hK.out _ _ ?_ (fun hSS42 => ?_)
                · exact HK.out _ (hq.trans (hb9.mono hq.size))
                clear hK K
                try simp only [Act.put, List.setIfInBounds_toArray]
                replace hq := hq.trans (hb9.mono hq.size)
                replace bA := bA.below hb9 bA.lt
                replace bB := bB.below hb9 bB.lt
                clear hb9
                refine wpAnyH_take (i := 7) (v := .tuple #[.agg #[.slice Aa ts.length ca], .agg #[.int .i64 0, .int .i64 0]]) rfl (by kernel_rfl) (by kernel_rfl) (by kernel_rfl) (fun _ _ _ h => h) (Or.inl ⟨by kernel_rfl, ?qT43⟩) (by assumption) ?rqT43
                case qT43 => (intro w hSw; (try dsimp only at hSw); go_simp)
                try simp only [Act.put, List.setIfInBounds_toArray]
                refine wpAnyH_take (i := 8) (v := .agg #[.slice Aa ts.length ca]) rfl (by kernel_rfl) (by kernel_rfl) (by kernel_rfl) (fun _ _ _ h => h) (Or.inl ⟨by kernel_rfl, ?qT44⟩) (by assumption) ?rqT44
                case qT44 => (intro w hSw; (try dsimp only at hSw); go_simp)
                try simp only [Act.put, List.setIfInBounds_toArray]
                refine wpAnyH_take (i := 9) (v := .agg #[.int .i64 0, .int .i64 0]) rfl (by kernel_rfl) (by kernel_rfl) (by kernel_rfl) (fun _ _ _ h => h) (Or.inl ⟨by kernel_rfl, ?qT45⟩) (by assumption) ?rqT45
                case qT45 => (intro w hSw; (try dsimp only at hSw); go_simp)
                try simp only [Act.put, List.setIfInBounds_toArray]
                refine wpAnyH_ready (rs := [12]) (by kernel_rfl) (by simp) ?_
                refine AllReadyH.cons rfl (fun K hK => ?sT46) AllReadyH.nil
                have bAl := bA.lt
                have bAf0 := bA.frozen 0
                have bAc0 := (bA.cell 0).trans rfl
                have bBl := bB.lt
                have bBf0 := bB.frozen 0
                have bBc0 := (bB.cell 0).trans rfl
                have bBf1 := bB.frozen 1
                have bBc1 := (bB.cell 1).trans rfl
                go_simp
                refine hK.out _ _ ?_ (fun hSS46 => ?_)
                · exact HK.out _ (hq.setCell g0A _)
                clear hK K
                try simp only [Act.put, List.setIfInBounds_toArray]
                refine wpAnyH_ready (rs := [13]) (by kernel_rfl) (by simp) ?_
                refine AllReadyH.cons rfl (fun K hK => ?sT47) AllReadyH.nil
                go_simp
                refine hK.out _ _ ?_ (fun hSS47 => ?_)
                · exact HK.out _ (((hq.setCell g0A _).setCell g0B _).setCell g0B _)
                clear hK K
                try simp only [Act.put, List.setIfInBounds_toArray]
                refine wpAnyH_done (by kernel_rfl) ?_ _
                refine NoPanic.normal ?_
                try go_wp2_with fail
                go_meet
                exact TwoOut.ca2 hq hca hsa bA bB (by omega) g0A g0B
          case sT12 =>
            go_simp
            refine hK.out _ _ ?_ (fun hSS48 => ?_)
            · exact HK.out _ (hq.alloc hq.size (.cells #[.int .i64 0, .int .i64 0] 30))
            clear hK K
            try simp only [Act.put, List.setIfInBounds_toArray]
            have g0B := hq.size
            replace hq := hq.alloc hq.size (.cells #[.int .i64 0, .int .i64 0] 30)
            have bB := Blk.new WT 30 #[.int .i64 0, .int .i64 0]
            generalize WT.alloc (.cells #[.int .i64 0, .int .i64 0] 30) = WT48 at *
            refine wpAnyH_ready (rs := [6, 10]) (by kernel_rfl) (by simp) ?_
            refine AllReadyH.cons rfl (fun K hK => ?sT49) (AllReadyH.cons rfl (fun K hK => ?sT50) (AllReadyH.nil))
            case sT49 =>
              go_simp
              go_at_call 35
              refine (HA2.out _ hq).mono ?_
              rintro e WT51 ⟨Aa, ca, rfl, hca, hsa, hb9⟩
              try go_wp2_with fail
              refine hK.out _ _ ?_ (fun hSS51 => ?_)
              · exact HK.out _ (hq.trans (hb9.mono hq.size))
              clear hK K
              try simp only [Act.put, List.setIfInBounds_toArray]
              replace hq := hq.trans (hb9.mono hq.size)
              replace bB := bB.below hb9 bB.lt
              clear hb9
              refine wpAnyH_take (i := 7) (v := .tuple #[.agg #[.slice Aa ts.length ca], .agg #[.int .i64 0, .int .i64 0]]) rfl (by kernel_rfl) (by kernel_rfl) (by kernel_rfl) (fun _ _ _ h => h) (Or.inl ⟨by kernel_rfl, ?qT52⟩) (by assumption) ?rqT52
              case qT52 => (intro w hSw; (try dsimp only at hSw); go_simp)
              try simp only [Act.put, List.setIfInBounds_toArray]
              refine wpAnyH_take (i := 8) (v := .agg #[.slice Aa ts.length ca]) rfl (by kernel_rfl) (by kernel_rfl) (by kernel_rfl) (fun _ _ _ h => h) (Or.inl ⟨by kernel_rfl, ?qT53⟩) (by assumption) ?rqT53
              case qT53 => (intro w hSw; (try dsimp only at hSw); go_simp)
              try simp only [Act.put, List.setIfInBounds_toArray]
              refine wpAnyH_take (i := 9) (v := .agg #[.int .i64 0, .int .i64 0]) rfl (by kernel_rfl) (by kernel_rfl) (by kernel_rfl) (fun _ _ _ h => h) (Or.inl ⟨by kernel_rfl, ?qT54⟩) (by assumption) ?rqT54
              case qT54 => (intro w hSw; (try dsimp only at hSw); go_simp)
              try simp only [Act.put, List.setIfInBounds_toArray]
              refine wpAnyH_ready (rs := [10]) (by kernel_rfl) (by simp) ?_
              refine AllReadyH.cons rfl (fun K hK => ?sT55) (AllReadyH.nil)
              case sT55 =>
                go_simp
                refine hK.out _ _ ?_ (fun hSS56 => ?_)
                · exact HK.out _ (hq.alloc hq.size (.cells #[.slice none 0 0] 26))
                clear hK K
                try simp only [Act.put, List.setIfInBounds_toArray]
                have g0A := hq.size
                replace hq := hq.alloc hq.size (.cells #[.slice none 0 0] 26)
                have neBA := bB.lt
                replace bB := bB.alloc (.cells #[.slice none 0 0] 26)
                have bA := Blk.new WT51 26 #[.slice none 0 0]
                replace hsa := hsa.keep (Keeps.alloc WT51 _ (.cells #[.slice none 0 0] 26))
                generalize WT51.alloc (.cells #[.slice none 0 0] 26) = WT56 at *
                refine wpAnyH_ready (rs := [12]) (by kernel_rfl) (by simp) ?_
                refine AllReadyH.cons rfl (fun K hK => ?sT57) AllReadyH.nil
                have bAl := bA.lt
                have bAf0 := bA.frozen 0
                have bAc0 := (bA.cell 0).trans rfl
                have bBl := bB.lt
                have bBf0 := bB.frozen 0
                have bBc0 := (bB.cell 0).trans rfl
                have bBf1 := bB.frozen 1
                have bBc1 := (bB.cell 1).trans rfl
                go_simp
                refine hK.out _ _ ?_ (fun hSS57 => ?_)
                · exact HK.out _ (hq.setCell g0A _)
                clear hK K
                try simp only [Act.put, List.setIfInBounds_toArray]
                refine wpAnyH_ready (rs := [13]) (by kernel_rfl) (by simp) ?_
                refine AllReadyH.cons rfl (fun K hK => ?sT58) AllReadyH.nil
                go_simp
                refine hK.out _ _ ?_ (fun hSS58 => ?_)
                · exact HK.out _ (((hq.setCell g0A _).setCell g0B _).setCell g0B _)
                clear hK K
                try simp only [Act.put, List.setIfInBounds_toArray]
                refine wpAnyH_done (by kernel_rfl) ?_ _
                refine NoPanic.normal ?_
                try go_wp2_with fail
                go_meet
                exact TwoOut.ca2 hq hca hsa bA bB (by omega) g0A g0B
            case sT50 =>
              go_simp
              refine hK.out _ _ ?_ (fun hSS59 => ?_)
              · exact HK.out _ (hq.alloc hq.size (.cells #[.slice none 0 0] 26))
              clear hK K
              try simp only [Act.put, List.setIfInBounds_toArray]
              have g0A := hq.size
              replace hq := hq.alloc hq.size (.cells #[.slice none 0 0] 26)
              have neBA := bB.lt
              replace bB := bB.alloc (.cells #[.slice none 0 0] 26)
              have bA := Blk.new WT48 26 #[.slice none 0 0]
              generalize WT48.alloc (.cells #[.slice none 0 0] 26) = WT59 at *
              refine wpAnyH_ready (rs := [6]) (by kernel_rfl) (by simp) ?_
              refine AllReadyH.cons rfl (fun K hK => ?sT60) (AllReadyH.nil)
              case sT60 =>
                go_simp
                go_at_call 35
                refine (HA2.out _ hq).mono ?_
                rintro e WT61 ⟨Aa, ca, rfl, hca, hsa, hb9⟩
                try go_wp2_with fail
                refine hK.out _ _ ?_ (fun hSS61 => ?_)
                · exact HK.out _ (hq.trans (hb9.mono hq.size))
                clear hK K
                try simp only [Act.put, List.setIfInBounds_toArray]
                replace hq := hq.trans (hb9.mono hq.size)
                replace bA := bA.below hb9 bA.lt
                replace bB := bB.below hb9 bB.lt
                clear hb9
                refine wpAnyH_take (i := 7) (v := .tuple #[.agg #[.slice Aa ts.length ca], .agg #[.int .i64 0, .int .i64 0]]) rfl (by kernel_rfl) (by kernel_rfl) (by kernel_rfl) (fun _ _ _ h => h) (Or.inl ⟨by kernel_rfl, ?qT62⟩) (by assumption) ?rqT62
                case qT62 => (intro w hSw; (try dsimp only at hSw); go_simp)
                try simp only [Act.put, List.setIfInBounds_toArray]
                refine wpAnyH_take (i := 8) (v := .agg #[.slice Aa ts.length ca]) rfl (by kernel_rfl) (by kernel_rfl) (by kernel_rfl) (fun _ _ _ h => h) (Or.inl ⟨by kernel_rfl, ?qT63⟩) (by assumption) ?rqT63
                case qT63 => (intro w hSw; (try dsimp only at hSw); go_simp)
                try simp only [Act.put, List.setIfInBounds_toArray]
                refine wpAnyH_take (i := 9) (v := .agg #[.int .i64 0, .int .i64 0]) rfl (by kernel_rfl) (by kernel_rfl) (by kernel_rfl) (fun _ _ _ h => h) (Or.inl ⟨by kernel_rfl, ?qT64⟩) (by assumption) ?rqT64
                case qT64 => (intro w hSw; (try dsimp only at hSw); go_simp)
                try simp only [Act.put, List.setIfInBounds_toArray]
                refine wpAnyH_ready (rs := [12]) (by kernel_rfl) (by simp) ?_
                refine AllReadyH.cons rfl (fun K hK => ?sT65) AllReadyH.nil
                have bAl := bA.lt
                have bAf0 := bA.frozen 0
                have bAc0 := (bA.cell 0).trans rfl
                have bBl := bB.lt
                have bBf0 := bB.frozen 0
                have bBc0 := (bB.cell 0).trans rfl
                have bBf1 := bB.frozen 1
                have bBc1 := (bB.cell 1).trans rfl
                go_simp
                refine hK.out _ _ ?_ (fun hSS65 => ?_)
                · exact HK.out _ (hq.setCell g0A _)
                clear hK K
                try simp only [Act.put, List.setIfInBounds_toArray]
                refine wpAnyH_ready (rs := [13]) (by kernel_rfl) (by simp) ?_
                refine AllReadyH.cons rfl (fun K hK => ?sT66) AllReadyH.nil
                go_simp
                refine hK.out _ _ ?_ (fun hSS66 => ?_)
                · exact HK.out _ (((hq.setCell g0A _).setCell g0B _).setCell g0B _)
                clear hK K
                try simp only [Act.put, List.setIfInBounds_toArray]
                refine wpAnyH_done (by kernel_rfl) ?_ _
                refine NoPanic.normal ?_
                try go_wp2_with fail
                go_meet
                exact TwoOut.ca2 hq hca hsa bA bB (by omega) g0A g0B
        case sT7 =>
          go_simp
          refine hK.out _ _ ?_ (fun hSS67 => ?_)
          · exact HK.out _ (hq.alloc hq.size (.cells #[.slice none 0 0] 26))
          clear hK K
          try simp only [Act.put, List.setIfInBounds_toArray]
          have g0A := hq.size
          replace hq := hq.alloc hq.size (.cells #[.slice none 0 0] 26)
          have bA := Blk.new WT 26 #[.slice none 0 0]
          generalize WT.alloc (.cells #[.slice none 0 0] 26) = WT67 at *
          refine wpAnyH_ready (rs := [5, 11]) (by kernel_rfl) (by simp) ?_
          refine AllReadyH.cons rfl (fun K hK => ?sT68) (AllReadyH.cons rfl (fun K hK => ?sT69) (AllReadyH.nil))
          case sT68 =>
            go_simp
            go_at_call 36
            refine (HE2.out _ hq).mono ?_
            rintro e WT70 ⟨rfl, hwe⟩
            replace hwe := hwe.symm
            subst hwe
            try go_wp2_with fail
            refine hK.out _ _ ?_ (fun hSS70 => ?_)
            · exact HK.out _ hq
            clear hK K
            try simp only [Act.put, List.setIfInBounds_toArray]
            refine wpAnyH_ready (rs := [6, 11]) (by kernel_rfl) (by simp) ?_
            refine AllReadyH.cons rfl (fun K hK => ?sT71) (AllReadyH.cons rfl (fun K hK => ?sT72) (AllReadyH.nil))
            case sT71 =>
              go_simp
              go_at_call 35
              refine (HA2.out _ hq).mono ?_
              rintro e WT73 ⟨Aa, ca, rfl, hca, hsa, hb9⟩
              try go_wp2_with fail
              refine hK.out _ _ ?_ (fun hSS73 => ?_)
              · exact HK.out _ (hq.trans (hb9.mono hq.size))
              clear hK K
              try simp only [Act.put, List.setIfInBounds_toArray]
              replace hq := hq.trans (hb9.mono hq.size)
              replace bA := bA.below hb9 bA.lt
              clear hb9
              refine wpAnyH_take (i := 7) (v := .tuple #[.agg #[.slice Aa ts.length ca], .agg #[.int .i64 0, .int .i64 0]]) rfl (by kernel_rfl) (by kernel_rfl) (by kernel_rfl) (fun _ _ _ h => h) (Or.inl ⟨by kernel_rfl, ?qT74⟩) (by assumption) ?rqT74
              case qT74 => (intro w hSw; (try dsimp only at hSw); go_simp)
              try simp only [Act.put, List.setIfInBounds_toArray]
              refine wpAnyH_take (i := 8) (v := .agg #[.slice Aa ts.length ca]) rfl (by kernel_rfl) (by kernel_rfl) (by kernel_rfl) (fun _ _ _ h => h) (Or.inl ⟨by kernel_rfl, ?qT75⟩) (by assumption) ?rqT75
              case qT75 => (intro w hSw; (try dsimp only at hSw); go_simp)
              try simp only [Act.put, List.setIfInBounds_toArray]
              refine wpAnyH_take (i := 9) (v := .agg #[.int .i64 0, .int .i64 0]) rfl (by kernel_rfl) (by kernel_rfl) (by kernel_rfl) (fun _ _ _ h => h) (Or.inl ⟨by kernel_rfl, ?qT76⟩) (by assumption) ?rqT76
              case qT76 => (intro w hSw; (try dsimp only at hSw); go_simp)
              try simp only [Act.put, List.setIfInBounds_toArray]
              refine wpAnyH_ready (rs := [11]) (by kernel_rfl) (by simp) ?_
              refine AllReadyH.cons rfl (fun K hK => ?sT77) (AllReadyH.nil)
              case sT77 =>
                go_simp
                refine hK.out _ _ ?_ (fun hSS78 => ?_)
                · exact HK.out _ (hq.alloc hq.size (.cells #[.int .i64 0, .int .i64 0] 30))
                clear hK K
                try simp only [Act.put, List.setIfInBounds_toArray]
                have g0B := hq.size
                replace hq := hq.alloc hq.size (.cells #[.int .i64 0, .int .i64 0] 30)
                have neAB := bA.lt
                replace bA := bA.alloc (.cells #[.int .i64 0, .int .i64 0] 30)
                have bB := Blk.new WT73 30 #[.int .i64 0, .int .i64 0]
                replace hsa := hsa.keep (Keeps.alloc WT73 _ (.cells #[.int .i64 0, .int .i64 0] 30))
                generalize WT73.alloc (.cells #[.int .i64 0, .int .i64 0] 30) = WT78 at *
                refine wpAnyH_ready (rs := [12]) (by kernel_rfl) (by simp) ?_
                refine AllReadyH.cons rfl (fun K hK => ?sT79) AllReadyH.nil
                have bAl := bA.lt
                have bAf0 := bA.frozen 0
                have bAc0 := (bA.cell 0).trans rfl
                have bBl := bB.lt
                have bBf0 := bB.frozen 0
                have bBc0 := (bB.cell 0).trans rfl
                have bBf1 := bB.frozen 1
                have bBc1 := (bB.cell 1).trans rfl
                go_simp
                refine hK.out _ _ ?_ (fun hSS79 => ?_)
                · exact HK.out _ (hq.setCell g0A _)
                clear hK K
                try simp only [Act.put, List.setIfInBounds_toArray]
                refine wpAnyH_ready (rs := [13]) (by kernel_rfl) (by simp) ?_
                refine AllReadyH.cons rfl (fun K hK => ?sT80) AllReadyH.nil
                go_simp
                refine hK.out _ _ ?_ (fun hSS80 => ?_)
                · exact HK.out _ (((hq.setCell g0A _).setCell g0B _).setCell g0B _)
                clear hK K
                try simp only [Act.put, List.setIfInBounds_toArray]
                refine wpAnyH_done (by kernel_rfl) ?_ _
                refine NoPanic.normal ?_
                try go_wp2_with fail
                go_meet
                exact TwoOut.ca2 hq hca hsa bA bB (by omega) g0A g0B
            case sT72 =>
              go_simp
              refine hK.out _ _ ?_ (fun hSS81 => ?_)
              · exact HK.out _ (hq.alloc hq.size (.cells #[.int .i64 0, .int .i64 0] 30))
              clear hK K
              try simp only [Act.put, List.setIfInBounds_toArray]
              have g0B := hq.size
              replace hq := hq.alloc hq.size (.cells #[.int .i64 0, .int .i64 0] 30)
              have neAB := bA.lt
              replace bA := bA.alloc (.cells #[.int .i64 0, .int .i64 0] 30)
              have bB := Blk.new WT67 30 #[.int .i64 0, .int .i64 0]
              generalize WT67.alloc (.cells #[.int .i64 0, .int .i64 0] 30) = WT81 at *
              refine wpAnyH_ready (rs := [6]) (by kernel_rfl) (by simp) ?_
              refine AllReadyH.cons rfl (fun K hK => ?sT82) (AllReadyH.nil)
              case sT82 =>
                go_simp
                go_at_call 35
                refine (HA2.out _ hq).mono ?_
                rintro e WT83 ⟨Aa, ca, rfl, hca, hsa, hb9⟩
                try go_wp2_with fail
                refine hK.out _ _ ?_ (fun hSS83 => ?_)
                · exact HK.out _ (hq.trans (hb9.mono hq.size))
                clear hK K
                try simp only [Act.put, List.setIfInBounds_toArray]
                replace hq := hq.trans (hb9.mono hq.size)
                replace bA := bA.below hb9 bA.lt
                replace bB := bB.below hb9 bB.lt
                clear hb9
                refine wpAnyH_take (i := 7) (v := .tuple #[.agg #[.slice Aa ts.length ca], .agg #[.int .i64 0, .int .i64 0]]) rfl (by kernel_rfl) (by kernel_rfl) (by kernel_rfl) (fun _ _ _ h => h) (Or.inl ⟨by kernel_rfl, ?qT84⟩) (by assumption) ?rqT84
                case qT84 => (intro w hSw; (try dsimp only at hSw); go_simp)
                try simp only [Act.put, List.setIfInBounds_toArray]
                refine wpAnyH_take (i := 8) (v := .agg #[.slice Aa ts.length ca]) rfl (by kernel_rfl) (by kernel_rfl) (by kernel_rfl) (fun _ _ _ h => h) (Or.inl ⟨by kernel_rfl, ?qT85⟩) (by assumption) ?rqT85
                case qT85 => (intro w hSw; (try dsimp only at hSw); go_simp)
                try simp only [Act.put, List.setIfInBounds_toArray]
                refine wpAnyH_take (i := 9) (v := .agg #[.int .i64 0, .int .i64 0]) rfl (by kernel_rfl) (by kernel_rfl) (by kernel_rfl) (fun _ _ _ h => h) (Or.inl ⟨by kernel_rfl, ?qT86⟩) (by assumption) ?rqT86
                case qT86 => (intro w hSw; (try dsimp only at hSw); go_simp)
                try simp only [Act.put, List.setIfInBounds_toArray]
                refine wpAnyH_ready (rs := [12]) (by kernel_rfl) (by simp) ?_
                refine AllReadyH.cons rfl (fun K hK => ?sT87) AllReadyH.nil
                have bAl := bA.lt
                have bAf0 := bA.frozen 0
                have bAc0 := (bA.cell 0).trans rfl
                have bBl := bB.lt
                have bBf0 := bB.frozen 0
                have bBc0 := (bB.cell 0).trans rfl
                have bBf1 := bB.frozen 1
                have bBc1 := (bB.cell 1).trans rfl
                go_simp
                refine hK.out _ _ ?_ (fun hSS87 => ?_)
                · exact HK.out _ (hq.setCell g0A _)
                clear hK K
                try simp only [Act.put, List.setIfInBounds_toArray]
                refine wpAnyH_ready (rs := [13]) (by kernel_rfl) (by simp) ?_
                refine AllReadyH.cons rfl (fun K hK => ?sT88) AllReadyH.nil
                go_simp
                refine hK.out _ _ ?_ (fun hSS88 => ?_)
                · exact HK.out _ (((hq.setCell g0A _).setCell g0B _).setCell g0B _)
                clear hK K
                try simp only [Act.put, List.setIfInBounds_toArray]
                refine wpAnyH_done (by kernel_rfl) ?_ _
                refine NoPanic.normal ?_
                try go_wp2_with fail
                go_meet
                exact TwoOut.ca2 hq hca hsa bA bB (by omega) g0A g0B
          case sT69 =>
            go_simp
            refine hK.out _ _ ?_ (fun hSS89 => ?_)
            · exact HK.out _ (hq.alloc hq.size (.cells #[.int .i64 0, .int .i64 0] 30))
            clear hK K
            try simp only [Act.put, List.setIfInBounds_toArray]
            have g0B := hq.size
            replace hq := hq.alloc hq.size (.cells #[.int .i64 0, .int .i64 0] 30)
            have neAB := bA.lt
            replace bA := bA.alloc (.cells #[.int .i64 0, .int .i64 0] 30)
            have bB := Blk.new WT67 30 #[.int .i64 0, .int .i64 0]
            generalize WT67.alloc (.cells #[.int .i64 0, .int .i64 0] 30) = WT89 at *
            refine wpAnyH_ready (rs := [5]) (by kernel_rfl) (by simp) ?_
            refine AllReadyH.cons rfl (fun K hK => ?sT90) (AllReadyH.nil)
            case sT90 =>
              go_simp
              go_at_call 36
              refine (HE2.out _ hq).mono ?_
              rintro e WT91 ⟨rfl, hwe⟩
              replace hwe := hwe.symm
              subst hwe
              try go_wp2_with fail
              refine hK.out _ _ ?_ (fun hSS91 => ?_)
              · exact HK.out _ hq
              clear hK K
              try simp only [Act.put, List.setIfInBounds_toArray]
              refine wpAnyH_ready (rs := [6]) (by kernel_rfl) (by simp) ?_
              refine AllReadyH.cons rfl (fun K hK => ?sT92) (AllReadyH.nil)
              case sT92 =>
                go_simp
                go_at_call 35
                refine (HA2.out _ hq).mono ?_
                rintro e WT93 ⟨Aa, ca, rfl, hca, hsa, hb9⟩
                try go_wp2_with fail
                refine hK.out _ _ ?_ (fun hSS93 => ?_)
                · exact HK.out _ (hq.trans (hb9.mono hq.size))
                clear hK K
                try simp only [Act.put, List.setIfInBounds_toArray]
                replace hq := hq.trans (hb9.mono hq.size)
                replace bA := bA.below hb9 bA.lt
                replace bB := bB.below hb9 bB.lt
                clear hb9
                refine wpAnyH_take (i := 7) (v := .tuple #[.agg #[.slice Aa ts.length ca], .agg #[.int .i64 0, .int .i64 0]]) rfl (by kernel_rfl) (by kernel_rfl) (by kernel_rfl) (fun _ _ _ h => h) (Or.inl ⟨by kernel_rfl, ?qT94⟩) (by assumption) ?rqT94
                case qT94 => (intro w hSw; (try dsimp only at hSw); go_simp)
                try simp only [Act.put, List.setIfInBounds_toArray]
                refine wpAnyH_take (i := 8) (v := .agg #[.slice Aa ts.length ca]) rfl (by kernel_rfl) (by kernel_rfl) (by kernel_rfl) (fun _ _ _ h => h) (Or.inl ⟨by kernel_rfl, ?qT95⟩) (by assumption) ?rqT95
                case qT95 => (intro w hSw; (try dsimp only at hSw); go_simp)
                try simp only [Act.put, List.setIfInBounds_toArray]
                refine wpAnyH_take (i := 9) (v := .agg #[.int .i64 0, .int .i64 0]) rfl (by kernel_rfl) (by kernel_rfl) (by kernel_rfl) (fun _ _ _ h => h) (Or.inl ⟨by kernel_rfl, ?qT96⟩) (by assumption) ?rqT96
                case qT96 => (intro w hSw; (try dsimp only at hSw); go_simp)
                try simp only [Act.put, List.setIfInBounds_toArray]
                refine wpAnyH_ready (rs := [12]) (by kernel_rfl) (by simp) ?_
                refine AllReadyH.cons rfl (fun K hK => ?sT97) AllReadyH.nil
                have bAl := bA.lt
                have bAf0 := bA.frozen 0
                have bAc0 := (bA.cell 0).trans rfl
                have bBl := bB.lt
                have bBf0 := bB.frozen 0
                have bBc0 := (bB.cell 0).trans rfl
                have bBf1 := bB.frozen 1
                have bBc1 := (bB.cell 1).trans rfl
                go_simp
                refine hK.out _ _ ?_ (fun hSS97 => ?_)
                · exact HK.out _ (hq.setCell g0A _)
                clear hK K
                try simp only [Act.put, List.setIfInBounds_toArray]
                refine wpAnyH_ready (rs := [13]) (by kernel_rfl) (by simp) ?_
                refine AllReadyH.cons rfl (fun K hK => ?sT98) AllReadyH.nil
                go_simp
                refine hK.out _ _ ?_ (fun hSS98 => ?_)
                · exact HK.out _ (((hq.setCell g0A _).setCell g0B _).setCell g0B _)
                clear hK K
                try simp only [Act.put, List.setIfInBounds_toArray]
                refine wpAnyH_done (by kernel_rfl) ?_ _
                refine NoPanic.normal ?_
                try go_wp2_with fail
                go_meet
                exact TwoOut.ca2 hq hca hsa bA bB (by omega) g0A g0B
        case sT8 =>
          go_simp
          refine hK.out _ _ ?_ (fun hSS99 => ?_)
          · exact HK.out _ (hq.alloc hq.size (.cells #[.int .i64 0, .int .i64 0] 30))
          clear hK K
          try simp only [Act.put, List.setIfInBounds_toArray]
          have g0B := hq.size
          replace hq := hq.alloc hq.size (.cells #[.int .i64 0, .int .i64 0] 30)
          have bB := Blk.new WT 30 #[.int .i64 0, .int .i64 0]
          generalize WT.alloc (.cells #[.int .i64 0, .int .i64 0] 30) = WT99 at *
          refine wpAnyH_ready (rs := [5, 10]) (by kernel_rfl) (by simp) ?_
          refine AllReadyH.cons rfl (fun K hK => ?sT100) (AllReadyH.cons rfl (fun K hK => ?sT101) (AllReadyH.nil))
          case sT100 =>
            go_simp
            go_at_call 36
            refine (HE2.out _ hq).mono ?_
            rintro e WT102 ⟨rfl, hwe⟩
            replace hwe := hwe.symm
            subst hwe
            try go_wp2_with fail
            refine hK.out _ _ ?_ (fun hSS102 => ?_)
            · exact HK.out _ hq
            clear hK K
            try simp only [Act.put, List.setIfInBounds_toArray]
            refine wpAnyH_ready (rs := [6, 10]) (by kernel_rfl) (by simp) ?_
            refine AllReadyH.cons rfl (fun K hK => ?sT103) (AllReadyH.cons rfl (fun K hK => ?sT104) (AllReadyH.nil))
            case sT103 =>
              go_simp
              go_at_call 35
              refine (HA2.out _ hq).mono ?_
              rintro e WT105 ⟨Aa, ca, rfl, hca, hsa, hb9⟩
              try go_wp2_with fail
              refine hK.out _ _ ?_ (fun hSS105 => ?_)
              · exact HK.out _ (hq.trans (hb9.mono hq.size))
              clear hK K
              try simp only [Act.put, List.setIfInBounds_toArray]
              replace hq := hq.trans (hb9.mono hq.size)
              replace bB := bB.below hb9 bB.lt
              clear hb9
              refine wpAnyH_take (i := 7) (v := .tuple #[.agg #[.slice Aa ts.length ca], .agg #[.int .i64 0, .int .i64 0]]) rfl (by kernel_rfl) (by kernel_rfl) (by kernel_rfl) (fun _ _ _ h => h) (Or.inl ⟨by kernel_rfl, ?qT106⟩) (by assumption) ?rqT106
              case qT106 => (intro w hSw; (try dsimp only at hSw); go_simp)
              try simp only [Act.put, List.setIfInBounds_toArray]
              refine wpAnyH_take (i := 8) (v := .agg #[.slice Aa ts.length ca]) rfl (by kernel_rfl) (by kernel_rfl) (by kernel_rfl) (fun _ _ _ h => h) (Or.inl ⟨by kernel_rfl, ?qT107⟩) (by assumption) ?rqT107
              case qT107 => (intro w hSw; (try dsimp only at hSw); go_simp)
              try simp only [Act.put, List.setIfInBounds_toArray]
              refine wpAnyH_take (i := 9) (v := .agg #[.int .i64 0, .int .i64 0]) rfl (by kernel_rfl) (by kernel_rfl) (by kernel_rfl) (fun _ _ _ h => h) (Or.inl ⟨by kernel_rfl, ?qT108⟩) (by assumption) ?rqT108
              case qT108 => (intro w hSw; (try dsimp only at hSw); go_simp)
              try simp only [Act.put, List.setIfInBounds_toArray]
              refine wpAnyH_ready (rs := [10]) (by kernel_rfl) (by simp) ?_
              refine AllReadyH.cons rfl (fun K hK => ?sT109) (AllReadyH.nil)
              case sT109 =>
                go_simp
                refine hK.out _ _ ?_ (fun hSS110 => ?_)
                · exact HK.out _ (hq.alloc hq.size (.cells #[.slice none 0 0] 26))
                clear hK K
                try simp only [Act.put, List.setIfInBounds_toArray]
                have g0A := hq.size
                replace hq := hq.alloc hq.size (.cells #[.slice none 0 0] 26)
                have neBA := bB.lt
                replace bB := bB.alloc (.cells #[.slice none 0 0] 26)
                have bA := Blk.new WT105 26 #[.slice none 0 0]
                replace hsa := hsa.keep (Keeps.alloc WT105 _ (.cells #[.slice none 0 0] 26))
                generalize WT105.alloc (.cells #[.slice none 0 0] 26) = WT110 at *
                refine wpAnyH_ready (rs := [12]) (by kernel_rfl) (by simp) ?_
                refine AllReadyH.cons rfl (fun K hK => ?sT111) AllReadyH.nil
                have bAl := bA.lt
                have bAf0 := bA.frozen 0
                have bAc0 := (bA.cell 0).trans rfl
                have bBl := bB.lt
                have bBf0 := bB.frozen 0
                have bBc0 := (bB.cell 0).trans rfl
                have bBf1 := bB.frozen 1
                have bBc1 := (bB.cell 1).trans rfl
                go_simp
                refine hK.out _ _ ?_ (fun hSS111 => ?_)
                · exact HK.out _ (hq.setCell g0A _)
                clear hK K
                try simp only [Act.put, List.setIfInBounds_toArray]
                refine wpAnyH_ready (rs := [13]) (by kernel_rfl) (by simp) ?_
                refine AllReadyH.cons rfl (fun K hK => ?sT112) AllReadyH.nil
                go_simp
                refine hK.out _ _ ?_ (fun hSS112 => ?_)
                · exact HK.out _ (((hq.setCell g0A _).setCell g0B _).setCell g0B _)
                clear hK K
                try simp only [Act.put, List.setIfInBounds_toArray]
                refine wpAnyH_done (by kernel_rfl) ?_ _
                refine NoPanic.normal ?_
                try go_wp2_with fail
                go_meet
                exact TwoOut.ca2 hq hca hsa bA bB (by omega) g0A g0B
            case sT104 =>
              go_simp
              refine hK.out _ _ ?_ (fun hSS113 => ?_)
              · exact HK.out _ (hq.alloc hq.size (.cells #[.slice none 0 0] 26))
              clear hK K
              try simp only [Act.put, List.setIfInBounds_toArray]
              have g0A := hq.size
              replace hq := hq.alloc hq.size (.cells #[.slice none 0 0] 26)
              have neBA := bB.lt
              replace bB := bB.alloc (.cells #[.slice none 0 0] 26)
              have bA := Blk.new WT99 26 #[.slice none 0 0]
              generalize WT99.alloc (.cells #[.slice none 0 0] 26) = WT113 at *
              refine wpAnyH_ready (rs := [6]) (by kernel_rfl) (by simp) ?_
              refine AllReadyH.cons rfl (fun K hK => ?sT114) (AllReadyH.nil)
              case sT114 =>
                go_simp
                go_at_call 35
                refine (HA2.out _ hq).mono ?_
                rintro e WT115 ⟨Aa, ca, rfl, hca, hsa, hb9⟩
                try go_wp2_with fail
                refine hK.out _ _ ?_ (fun hSS115 => ?_)
                · exact HK.out _ (hq.trans (hb9.mono hq.size))
                clear hK K
                try simp only [Act.put, List.setIfInBounds_toArray]
                replace hq := hq.trans (hb9.mono hq.size)
                replace bA := bA.below hb9 bA.lt
                replace bB := bB.below hb9 bB.lt
                clear hb9
                refine wpAnyH_take (i := 7) (v := .tuple #[.agg #[.slice Aa ts.length ca], .agg #[.int .i64 0, .int .i64 0]]) rfl (by kernel_rfl) (by kernel_rfl) (by kernel_rfl) (fun _ _ _ h => h) (Or.inl ⟨by kernel_rfl, ?qT116⟩) (by assumption) ?rqT116
                case qT116 => (intro w hSw; (try dsimp only at hSw); go_simp)
                try simp only [Act.put, List.setIfInBounds_toArray]
                refine wpAnyH_take (i := 8) (v := .agg #[.slice Aa ts.length ca]) rfl (by kernel_rfl) (by kernel_rfl) (by kernel_rfl) (fun _ _ _ h => h) (Or.inl ⟨by kernel_rfl, ?qT117⟩) (by assumption) ?rqT117
                case qT117 => (intro w hSw; (try dsimp only at hSw); go_simp)
                try simp only [Act.put, List.setIfInBounds_toArray]
                refine wpAnyH_take (i := 9) (v := .agg #[.int .i64 0, .int .i64 0]) rfl (by kernel_rfl) (by kernel_rfl) (by kernel_rfl) (fun _ _ _ h => h) (Or.inl ⟨by kernel_rfl, ?qT118⟩) (by assumption) ?rqT118
                case qT118 => (intro w hSw; (try dsimp only at hSw); go_simp)
                try simp only [Act.put, List.setIfInBounds_toArray]
                refine wpAnyH_ready (rs := [12]) (by kernel_rfl) (by simp) ?_
                refine AllReadyH.cons rfl (fun K hK => ?sT119) AllReadyH.nil
                have bAl := bA.lt
                have bAf0 := bA.frozen 0
                have bAc0 := (bA.cell 0).trans rfl
                have bBl := bB.lt
                have bBf0 := bB.frozen 0
                have bBc0 := (bB.cell 0).trans rfl
                have bBf1 := bB.frozen 1
                have bBc1 := (bB.cell 1).trans rfl
                go_simp
                refine hK.out _ _ ?_ (fun hSS119 => ?_)
                · exact HK.out _ (hq.setCell g0A _)
                clear hK K
                try simp only [Act.put, List.setIfInBounds_toArray]
                refine wpAnyH_ready (rs := [13]) (by kernel_rfl) (by simp) ?_
                refine AllReadyH.cons rfl (fun K hK => ?sT120) AllReadyH.nil
                go_simp
                refine hK.out _ _ ?_ (fun hSS120 => ?_)
                · exact HK.out _ (((hq.setCell g0A _).setCell g0B _).setCell g0B _)
                clear hK K
                try simp only [Act.put, List.setIfInBounds_toArray]
                refine wpAnyH_done (by kernel_rfl) ?_ _
                refine NoPanic.normal ?_
                try go_wp2_with fail
                go_meet
                exact TwoOut.ca2 hq hca hsa bA bB (by omega) g0A g0B
          case sT101 =>
            go_simp
            refine hK.out _ _ ?_ (fun hSS121 => ?_)
            · exact HK.out _ (hq.alloc hq.size (.cells #[.slice none 0 0] 26))
            clear hK K
            try simp only [Act.put, List.setIfInBounds_toArray]
            have g0A := hq.size
            replace hq := hq.alloc hq.size (.cells #[.slice none 0 0] 26)
            have neBA := bB.lt
            replace bB := bB.alloc (.cells #[.slice none 0 0] 26)
            have bA := Blk.new WT99 26 #[.slice none 0 0]
            generalize WT99.alloc (.cells #[.slice none 0 0] 26) = WT121 at *
            refine wpAnyH_ready (rs := [5]) (by kernel_rfl) (by simp) ?_
            refine AllReadyH.cons rfl (fun K hK => ?sT122) (AllReadyH.nil)
            case sT122 =>
              go_simp
              go_at_call 36
              refine (HE2.out _ hq).mono ?_
              rintro e WT123 ⟨rfl, hwe⟩
              replace hwe := hwe.symm
              subst hwe
              try go_wp2_with fail
              refine hK.out _ _ ?_ (fun hSS123 => ?_)
              · exact HK.out _ hq
              clear hK K
              try simp only [Act.put, List.setIfInBounds_toArray]
              refine wpAnyH_ready (rs := [6]) (by kernel_rfl) (by simp) ?_
              refine AllReadyH.cons rfl (fun K hK => ?sT124) (AllReadyH.nil)
              case sT124 =>
                go_simp
                go_at_call 35
                refine (HA2.out _ hq).mono ?_
                rintro e WT125 ⟨Aa, ca, rfl, hca, hsa, hb9⟩
                try go_wp2_with fail
                refine hK.out _ _ ?_ (fun hSS125 => ?_)
                · exact HK.out _ (hq.trans (hb9.mono hq.size))
                clear hK K
                try simp only [Act.put, List.setIfInBounds_toArray]
                replace hq := hq.trans (hb9.mono hq.size)
                replace bA := bA.below hb9 bA.lt
                replace bB := bB.below hb9 bB.lt
                clear hb9
                refine wpAnyH_take (i := 7) (v := .tuple #[.agg #[.slice Aa ts.length ca], .agg #[.int .i64 0, .int .i64 0]]) rfl (by kernel_rfl) (by kernel_rfl) (by kernel_rfl) (fun _ _ _ h => h) (Or.inl ⟨by kernel_rfl, ?qT126⟩) (by assumption) ?rqT126
                case qT126 => (intro w hSw; (try dsimp only at hSw); go_simp)
                try simp only [Act.put, List.setIfInBounds_toArray]
                refine wpAnyH_take (i := 8) (v := .agg #[.slice Aa ts.length ca]) rfl (by kernel_rfl) (by kernel_rfl) (by kernel_rfl) (fun _ _ _ h => h) (Or.inl ⟨by kernel_rfl, ?qT127⟩) (by assumption) ?rqT127
                case qT127 => (intro w hSw; (try dsimp only at hSw); go_simp)
                try simp only [Act.put, List.setIfInBounds_toArray]
                refine wpAnyH_take (i := 9) (v := .agg #[.int .i64 0, .int .i64 0]) rfl (by kernel_rfl) (by kernel_rfl) (by kernel_rfl) (fun _ _ _ h => h) (Or.inl ⟨by kernel_rfl, ?qT128⟩) (by assumption) ?rqT128
                case qT128 => (intro w hSw; (try dsimp only at hSw); go_simp)
                try simp only [Act.put, List.setIfInBounds_toArray]
                refine wpAnyH_ready (rs := [12]) (by kernel_rfl) (by simp) ?_
                refine AllReadyH.cons rfl (fun K hK => ?sT129) AllReadyH.nil
                have bAl := bA.lt
                have bAf0 := bA.frozen 0
                have bAc0 := (bA.cell 0).trans rfl
                have bBl := bB.lt
                have bBf0 := bB.frozen 0
                have bBc0 := (bB.cell 0).trans rfl
                have bBf1 := bB.frozen 1
                have bBc1 := (bB.cell 1).trans rfl
                go_simp
                refine hK.out _ _ ?_ (fun hSS129 => ?_)
                · exact HK.out _ (hq.setCell g0A _)
                clear hK K
                try simp only [Act.put, List.setIfInBounds_toArray]
                refine wpAnyH_ready (rs := [13]) (by kernel_rfl) (by simp) ?_
                refine AllReadyH.cons rfl (fun K hK => ?sT130) AllReadyH.nil
                go_simp
                refine hK.out _ _ ?_ (fun hSS130 => ?_)
                · exact HK.out _ (((hq.setCell g0A _).setCell g0B _).setCell g0B _)
                clear hK K
                try simp only [Act.put, List.setIfInBounds_toArray]
                refine wpAnyH_done (by kernel_rfl) ?_ _
                refine NoPanic.normal ?_
                try go_wp2_with fail
                go_meet
                exact TwoOut.ca2 hq hca hsa bA bB (by omega) g0A g0B
      case rest =>
        obtain ⟨gr, gt, Az, kz, rfl, rfl, bc, bd, hsz, hkz, hbd⟩ := hcut
        obtain ⟨wb, rfl⟩ : ∃ wb : World, wb = wc := ⟨_, rfl⟩
        clear HK HE2 HA2 H35b H36b
        have Vz := Lib.hid hsz
        clear hsz
        have HBm9 := Lib.hid (HBm7.out.trans (hbd.mono HBm7.out.size))
        replace bx := bx.below hbd bx.lt
        replace x := x.below hbd x.lt
        replace f := f.below hbd f.lt
        replace bt := bt.below hbd bt.lt
        replace g := g.below hbd g.lt
        replace bu := bu.below hbd bu.lt
        replace h := h.below hbd h.lt
        replace by_ := by_.below hbd by_.lt
        replace bw := bw.below hbd bw.lt
        replace hM := Lib.hid (hM.out.below hbd)
        replace V0 := Lib.hid (V0.out.keep (free_below hbd))
        replace V2 := Lib.hid (V2.out.keep (free_below hbd))
        replace Vx := Lib.hid (Vx.out.keep (free_below hbd))
        replace Vt := Lib.hid (Vt.out.keep (free_below hbd))
        replace Vu := Lib.hid (Vu.out.keep (free_below hbd))
        replace Vw := Lib.hid (Vw.out.keep (free_below hbd))
        replace Vy := Lib.hid (Vy.out.keep (free_below hbd))
        have bx_l : w.heap.size < wb.heap.size := bx.lt
        have bx_l1 : w.heap.size < wb.heap.size + 1 := Nat.lt_succ_of_lt bx_l
        have bx_l2 : w.heap.size < wb.heap.size + 1 + 1 := Nat.lt_succ_of_lt bx_l1
        have bx_0 : wb.cell? ⟨w.heap.size, 0, none⟩ = some (.slice A s.length k) := (bx.cell 0).trans rfl
        have x_l : w2.heap.size < wb.heap.size := x.lt
        have x_l1 : w2.heap.size < wb.heap.size + 1 := Nat.lt_succ_of_lt x_l
        have x_l2 : w2.heap.size < wb.heap.size + 1 + 1 := Nat.lt_succ_of_lt x_l1
        have x_0 : wb.cell? ⟨w2.heap.size, 0, none⟩ = some (.slice Ax xs.length cx) := (x.cell 0).trans rfl
        have f_l : w2.heap.size + 1 < wb.heap.size := f.lt
        have f_l1 : w2.heap.size + 1 < wb.heap.size + 1 := Nat.lt_succ_of_lt f_l
        have f_l2 : w2.heap.size + 1 < wb.heap.size + 1 + 1 := Nat.lt_succ_of_lt f_l1
        have f_0 : wb.cell? ⟨w2.heap.size + 1, 0, none⟩ = some (.int .i64 0) := (f.cell 0).trans rfl
        have f_1 : wb.cell? ⟨w2.heap.size + 1, 1, none⟩ = some (.int .i64 0) := (f.cell 1).trans rfl
        have bt_l : w3.heap.size < wb.heap.size := bt.lt
        have bt_l1 : w3.heap.size < wb.heap.size + 1 := Nat.lt_succ_of_lt bt_l
        have bt_l2 : w3.heap.size < wb.heap.size + 1 + 1 := Nat.lt_succ_of_lt bt_l1
        have bt_0 : wb.cell? ⟨w3.heap.size, 0, none⟩ = some (.slice At ts.length ct) := (bt.cell 0).trans rfl
        have g_l : w3.heap.size + 1 < wb.heap.size := g.lt
        have g_l1 : w3.heap.size + 1 < wb.heap.size + 1 := Nat.lt_succ_of_lt g_l
        have g_l2 : w3.heap.size + 1 < wb.heap.size + 1 + 1 := Nat.lt_succ_of_lt g_l1
        have g_0 : wb.cell? ⟨w3.heap.size + 1, 0, none⟩ = some (.int .i64 0) := (g.cell 0).trans rfl
        have g_1 : wb.cell? ⟨w3.heap.size + 1, 1, none⟩ = some (.int .i64 0) := (g.cell 1).trans rfl
        have bu_l : w4.heap.size < wb.heap.size := bu.lt
        have bu_l1 : w4.heap.size < wb.heap.size + 1 := Nat.lt_succ_of_lt bu_l
        have bu_l2 : w4.heap.size < wb.heap.size + 1 + 1 := Nat.lt_succ_of_lt bu_l1
        have bu_0 : wb.cell? ⟨w4.heap.size, 0, none⟩ = some (.slice Au us.length cu) := (bu.cell 0).trans rfl
        have h_l : w4.heap.size + 1 < wb.heap.size := h.lt
        have h_l1 : w4.heap.size + 1 < wb.heap.size + 1 := Nat.lt_succ_of_lt h_l
        have h_l2 : w4.heap.size + 1 < wb.heap.size + 1 + 1 := Nat.lt_succ_of_lt h_l1
        have h_0 : wb.cell? ⟨w4.heap.size + 1, 0, none⟩ = some (.int .i64 0) := (h.cell 0).trans rfl
        have h_1 : wb.cell? ⟨w4.heap.size + 1, 1, none⟩ = some (.int .i64 0) := (h.cell 1).trans rfl
        have by__l : w5.heap.size < wb.heap.size := by_.lt
        have by__l1 : w5.heap.size < wb.heap.size + 1 := Nat.lt_succ_of_lt by__l
        have by__l2 : w5.heap.size < wb.heap.size + 1 + 1 := Nat.lt_succ_of_lt by__l1
        have by__0 : wb.cell? ⟨w5.heap.size, 0, none⟩ = some (.slice Ay xs.length cy) := (by_.cell 0).trans rfl
        have bw_l : w5.heap.size + 1 < wb.heap.size := bw.lt
        have bw_l1 : w5.heap.size + 1 < wb.heap.size + 1 := Nat.lt_succ_of_lt bw_l
        have bw_l2 : w5.heap.size + 1 < wb.heap.size + 1 + 1 := Nat.lt_succ_of_lt bw_l1
        have bw_0 : wb.cell? ⟨w5.heap.size + 1, 0, none⟩ = some (.int .i64 0) := (bw.cell 0).trans rfl
        have bw_1 : wb.cell? ⟨w5.heap.size + 1, 1, none⟩ = some (.int .i64 0) := (bw.cell 1).trans rfl
        clear hbd hbq
        clear bx_l bx_l1 bx_l2 bx_0 x_l x_l1 x_l2 x_0 f_l f_l1 f_l2 f_0 f_1 bt_l bt_l1 bt_l2 bt_0 g_l g_l1 g_l2 g_0 g_1 bu_l bu_l1 bu_l2 bu_0 h_l h_l1 h_l2 h_0 h_1 by__l by__l1 by__l2 by__0 bw_l bw_l1 bw_l2 bw_0 bw_1
        have bx_l : w.heap.size < wb.heap.size := bx.lt
        have bx_l1 : w.heap.size < wb.heap.size + 1 := Nat.lt_succ_of_lt bx_l
        have bx_l2 : w.heap.size < wb.heap.size + 1 + 1 := Nat.lt_succ_of_lt bx_l1
        have bx_0 : wb.cell? ⟨w.heap.size, 0, none⟩ = some (.slice A s.length k) := (bx.cell 0).trans rfl
        have x_l : w2.heap.size < wb.heap.size := x.lt
        have x_l1 : w2.heap.size < wb.heap.size + 1 := Nat.lt_succ_of_lt x_l
        have x_l2 : w2.heap.size < wb.heap.size + 1 + 1 := Nat.lt_succ_of_lt x_l1
        have x_0 : wb.cell? ⟨w2.heap.size, 0, none⟩ = some (.slice Ax xs.length cx) := (x.cell 0).trans rfl
        have f_l : w2.heap.size + 1 < wb.heap.size := f.lt
        have f_l1 : w2.heap.size + 1 < wb.heap.size + 1 := Nat.lt_succ_of_lt f_l
        have f_l2 : w2.heap.size + 1 < wb.heap.size + 1 + 1 := Nat.lt_succ_of_lt f_l1
        have f_0 : wb.cell? ⟨w2.heap.size + 1, 0, none⟩ = some (.int .i64 0) := (f.cell 0).trans rfl
        have f_1 : wb.cell? ⟨w2.heap.size + 1, 1, none⟩ = some (.int .i64 0) := (f.cell 1).trans rfl
        have bt_l : w3.heap.size < wb.heap.size := bt.lt
        have bt_l1 : w3.heap.size < wb.heap.size + 1 := Nat.lt_succ_of_lt bt_l
        have bt_l2 : w3.heap.size < wb.heap.size + 1 + 1 := Nat.lt_succ_of_lt bt_l1
        have bt_0 : wb.cell? ⟨w3.heap.size, 0, none⟩ = some (.slice At ts.length ct) := (bt.cell 0).trans rfl
        have g_l : w3.heap.size + 1 < wb.heap.size := g.lt
        have g_l1 : w3.heap.size + 1 < wb.heap.size + 1 := Nat.lt_succ_of_lt g_l
        have g_l2 : w3.heap.size + 1 < wb.heap.size + 1 + 1 := Nat.lt_succ_of_lt g_l1
        have g_0 : wb.cell? ⟨w3.heap.size + 1, 0, none⟩ = some (.int .i64 0) := (g.cell 0).trans rfl
        have g_1 : wb.cell? ⟨w3.heap.size + 1, 1, none⟩ = some (.int .i64 0) := (g.cell 1).trans rfl
        have bu_l : w4.heap.size < wb.heap.size := bu.lt
        have bu_l1 : w4.heap.size < wb.heap.size + 1 := Nat.lt_succ_of_lt bu_l
        have bu_l2 : w4.heap.size < wb.heap.size + 1 + 1 := Nat.lt_succ_of_lt bu_l1
        have bu_0 : wb.cell? ⟨w4.heap.size, 0, none⟩ = some (.slice Au us.length cu) := (bu.cell 0).trans rfl
        have h_l : w4.heap.size + 1 < wb.heap.size := h.lt
        have h_l1 : w4.heap.size + 1 < wb.heap.size + 1 := Nat.lt_succ_of_lt h_l
        have h_l2 : w4.heap.size + 1 < wb.heap.size + 1 + 1 := Nat.lt_succ_of_lt h_l1
        have h_0 : wb.cell? ⟨w4.heap.size + 1, 0, none⟩ = some (.int .i64 0) := (h.cell 0).trans rfl
        have h_1 : wb.cell? ⟨w4.heap.size + 1, 1, none⟩ = some (.int .i64 0) := (h.cell 1).trans rfl
        have by__l : w5.heap.size < wb.heap.size := by_.lt
        have by__l1 : w5.heap.size < wb.heap.size + 1 := Nat.lt_succ_of_lt by__l
        have by__l2 : w5.heap.size < wb.heap.size + 1 + 1 := Nat.lt_succ_of_lt by__l1
        have by__0 : wb.cell? ⟨w5.heap.size, 0, none⟩ = some (.slice Ay xs.length cy) := (by_.cell 0).trans rfl
        have bw_l : w5.heap.size + 1 < wb.heap.size := bw.lt
        have bw_l1 : w5.heap.size + 1 < wb.heap.size + 1 := Nat.lt_succ_of_lt bw_l
        have bw_l2 : w5.heap.size + 1 < wb.heap.size + 1 + 1 := Nat.lt_succ_of_lt bw_l1
        have bw_0 : wb.cell? ⟨w5.heap.size + 1, 0, none⟩ = some (.int .i64 0) := (bw.cell 0).trans rfl
        have bw_1 : wb.cell? ⟨w5.heap.size + 1, 1, none⟩ = some (.int .i64 0) := (bw.cell 1).trans rfl
        have bc_l : gr < wb.heap.size := bc.lt
        have bc_l1 : gr < wb.heap.size + 1 := Nat.lt_succ_of_lt bc_l
        have bc_l2 : gr < wb.heap.size + 1 + 1 := Nat.lt_succ_of_lt bc_l1
        have bc_0 : wb.cell? ⟨gr, 0, none⟩ = some (.slice Az ts.length kz) := (bc.cell 0).trans rfl
        have bd_l : gt < wb.heap.size := bd.lt
        have bd_l1 : gt < wb.heap.size + 1 := Nat.lt_succ_of_lt bd_l
        have bd_l2 : gt < wb.heap.size + 1 + 1 := Nat.lt_succ_of_lt bd_l1
        have bd_0 : wb.cell? ⟨gt, 0, none⟩ = some (.int .i64 0) := (bd.cell 0).trans rfl
        have bd_1 : wb.cell? ⟨gt, 1, none⟩ = some (.int .i64 0) := (bd.cell 1).trans rfl
        go_wp2_with fail
        go_at_call 36
        refine (H36c.out _ V2.out).mono ?_
        rintro e w8 ⟨rfl, hw8⟩
        have hw8 := hw8.symm
        subst hw8
        go_wp2_with fail
        go_at_call 35
        with_reducible refine (H35c.out _ V0.out V2.out).mono ?_
        rintro e w10 ⟨Ap, cp, rfl, hcp, hsp, hb10'⟩
        have HBm10 := Lib.hid (HBm9.out.trans (hb10'.mono HBm9.out.size))
        replace bx := bx.below hb10' bx.lt
        replace x := x.below hb10' x.lt
        replace f := f.below hb10' f.lt
        replace bt := bt.below hb10' bt.lt
        replace g := g.below hb10' g.lt
        replace bu := bu.below hb10' bu.lt
        replace h := h.below hb10' h.lt
        replace by_ := by_.below hb10' by_.lt
        replace bw := bw.below hb10' bw.lt
        replace bc := bc.below hb10' bc.lt
        replace bd := bd.below hb10' bd.lt
        replace hM := Lib.hid (hM.out.below hb10')
        replace V0 := Lib.hid (V0.out.keep (free_below hb10'))
        replace V2 := Lib.hid (V2.out.keep (free_below hb10'))
        replace Vx := Lib.hid (Vx.out.keep (free_below hb10'))
        replace Vt := Lib.hid (Vt.out.keep (free_below hb10'))
        replace Vu := Lib.hid (Vu.out.keep (free_below hb10'))
        replace Vw := Lib.hid (Vw.out.keep (free_below hb10'))
        replace Vy := Lib.hid (Vy.out.keep (free_below hb10'))
        replace Vz := Lib.hid (Vz.out.keep (free_below hb10'))
        clear bx_l bx_l1 bx_l2 bx_0 x_l x_l1 x_l2 x_0 f_l f_l1 f_l2 f_0 f_1 bt_l bt_l1 bt_l2 bt_0 g_l g_l1 g_l2 g_0 g_1 bu_l bu_l1 bu_l2 bu_0 h_l h_l1 h_l2 h_0 h_1 by__l by__l1 by__l2 by__0 bw_l bw_l1 bw_l2 bw_0 bw_1 bc_l bc_l1 bc_l2 bc_0 bd_l bd_l1 bd_l2 bd_0 bd_1
        have bx_l : w.heap.size < w10.heap.size := bx.lt
        have bx_l1 : w.heap.size < w10.heap.size + 1 := Nat.lt_succ_of_lt bx_l
        have bx_l2 : w.heap.size < w10.heap.size + 1 + 1 := Nat.lt_succ_of_lt bx_l1
        have bx_0 : w10.cell? ⟨w.heap.size, 0, none⟩ = some (.slice A s.length k) := (bx.cell 0).trans rfl
        have x_l : w2.heap.size < w10.heap.size := x.lt
        have x_l1 : w2.heap.size < w10.heap.size + 1 := Nat.lt_succ_of_lt x_l
        have x_l2 : w2.heap.size < w10.heap.size + 1 + 1 := Nat.lt_succ_of_lt x_l1
        have x_0 : w10.cell? ⟨w2.heap.size, 0, none⟩ = some (.slice Ax xs.length cx) := (x.cell 0).trans rfl
        have f_l : w2.heap.size + 1 < w10.heap.size := f.lt
        have f_l1 : w2.heap.size + 1 < w10.heap.size + 1 := Nat.lt_succ_of_lt f_l
        have f_l2 : w2.heap.size + 1 < w10.heap.size + 1 + 1 := Nat.lt_succ_of_lt f_l1
        have f_0 : w10.cell? ⟨w2.heap.size + 1, 0, none⟩ = some (.int .i64 0) := (f.cell 0).trans rfl
        have f_1 : w10.cell? ⟨w2.heap.size + 1, 1, none⟩ = some (.int .i64 0) := (f.cell 1).trans rfl
        have bt_l : w3.heap.size < w10.heap.size := bt.lt
        have bt_l1 : w3.heap.size < w10.heap.size + 1 := Nat.lt_succ_of_lt bt_l
        have bt_l2 : w3.heap.size < w10.heap.size + 1 + 1 := Nat.lt_succ_of_lt bt_l1
        have bt_0 : w10.cell? ⟨w3.heap.size, 0, none⟩ = some (.slice At ts.length ct) := (bt.cell 0).trans rfl
        have g_l : w3.heap.size + 1 < w10.heap.size := g.lt
        have g_l1 : w3.heap.size + 1 < w10.heap.size + 1 := Nat.lt_succ_of_lt g_l
        have g_l2 : w3.heap.size + 1 < w10.heap.size + 1 + 1 := Nat.lt_succ_of_lt g_l1
        have g_0 : w10.cell? ⟨w3.heap.size + 1, 0, none⟩ = some (.int .i64 0) := (g.cell 0).trans rfl
        have g_1 : w10.cell? ⟨w3.heap.size + 1, 1, none⟩ = some (.int .i64 0) := (g.cell 1).trans rfl
        have bu_l : w4.heap.size < w10.heap.size := bu.lt
        have bu_l1 : w4.heap.size < w10.heap.size + 1 := Nat.lt_succ_of_lt bu_l
        have bu_l2 : w4.heap.size < w10.heap.size + 1 + 1 := Nat.lt_succ_of_lt bu_l1
        have bu_0 : w10.cell? ⟨w4.heap.size, 0, none⟩ = some (.slice Au us.length cu) := (bu.cell 0).trans rfl
        have h_l : w4.heap.size + 1 < w10.heap.size := h.lt
        have h_l1 : w4.heap.size + 1 < w10.heap.size + 1 := Nat.lt_succ_of_lt h_l
        have h_l2 : w4.heap.size + 1 < w10.heap.size + 1 + 1 := Nat.lt_succ_of_lt h_l1
        have h_0 : w10.cell? ⟨w4.heap.size + 1, 0, none⟩ = some (.int .i64 0) := (h.cell 0).trans rfl
        have h_1 : w10.cell? ⟨w4.heap.size + 1, 1, none⟩ = some (.int .i64 0) := (h.cell 1).trans rfl
        have by__l : w5.heap.size < w10.heap.size := by_.lt
        have by__l1 : w5.heap.size < w10.heap.size + 1 := Nat.lt_succ_of_lt by__l
        have by__l2 : w5.heap.size < w10.heap.size + 1 + 1 := Nat.lt_succ_of_lt by__l1
        have by__0 : w10.cell? ⟨w5.heap.size, 0, none⟩ = some (.slice Ay xs.length cy) := (by_.cell 0).trans rfl
        have bw_l : w5.heap.size + 1 < w10.heap.size := bw.lt
        have bw_l1 : w5.heap.size + 1 < w10.heap.size + 1 := Nat.lt_succ_of_lt bw_l
        have bw_l2 : w5.heap.size + 1 < w10.heap.size + 1 + 1 := Nat.lt_succ_of_lt bw_l1
        have bw_0 : w10.cell? ⟨w5.heap.size + 1, 0, none⟩ = some (.int .i64 0) := (bw.cell 0).trans rfl
        have bw_1 : w10.cell? ⟨w5.heap.size + 1, 1, none⟩ = some (.int .i64 0) := (bw.cell 1).trans rfl
        have bc_l : gr < w10.heap.size := bc.lt
        have bc_l1 : gr < w10.heap.size + 1 := Nat.lt_succ_of_lt bc_l
        have bc_l2 : gr < w10.heap.size + 1 + 1 := Nat.lt_succ_of_lt bc_l1
        have bc_0 : w10.cell? ⟨gr, 0, none⟩ = some (.slice Az ts.length kz) := (bc.cell 0).trans rfl
        have bd_l : gt < w10.heap.size := bd.lt
        have bd_l1 : gt < w10.heap.size + 1 := Nat.lt_succ_of_lt bd_l
        have bd_l2 : gt < w10.heap.size + 1 + 1 := Nat.lt_succ_of_lt bd_l1
        have bd_0 : w10.cell? ⟨gt, 0, none⟩ = some (.int .i64 0) := (bd.cell 0).trans rfl
        have bd_1 : w10.cell? ⟨gt, 1, none⟩ = some (.int .i64 0) := (bd.cell 1).trans rfl
        clear hb10'
        have Vp := Lib.hid hsp
        clear hsp H35c H36c
        simp only at *
        replace bx := bx.alloc (.cells #[.slice Ap us.length cp] 26)
        replace x := x.alloc (.cells #[.slice Ap us.length cp] 26)
        replace f := f.alloc (.cells #[.slice Ap us.length cp] 26)
        replace bt := bt.alloc (.cells #[.slice Ap us.length cp] 26)
        replace g := g.alloc (.cells #[.slice Ap us.length cp] 26)
        replace bu := bu.alloc (.cells #[.slice Ap us.length cp] 26)
        replace h := h.alloc (.cells #[.slice Ap us.length cp] 26)
        replace by_ := by_.alloc (.cells #[.slice Ap us.length cp] 26)
        replace bw := bw.alloc (.cells #[.slice Ap us.length cp] 26)
        replace bc := bc.alloc (.cells #[.slice Ap us.length cp] 26)
        replace bd := bd.alloc (.cells #[.slice Ap us.length cp] 26)
        have bp := Blk.new w10 26 #[.slice Ap us.length cp]
        have HBa10 := Lib.hid (HBm10.out.alloc HBm10.out.size (.cells #[.slice Ap us.length cp] 26))
        replace hM := Lib.hid (hM.out.below (below_alloc1 w10 (.cells #[.slice Ap us.length cp] 26)))
        replace V0 := Lib.hid (V0.out.keep (Keeps.alloc w10 _ (.cells #[.slice Ap us.length cp] 26)))
        replace V2 := Lib.hid (V2.out.keep (Keeps.alloc w10 _ (.cells #[.slice Ap us.length cp] 26)))
        replace Vx := Lib.hid (Vx.out.keep (Keeps.alloc w10 _ (.cells #[.slice Ap us.length cp] 26)))
        replace Vt := Lib.hid (Vt.out.keep (Keeps.alloc w10 _ (.cells #[.slice Ap us.length cp] 26)))
        replace Vu := Lib.hid (Vu.out.keep (Keeps.alloc w10 _ (.cells #[.slice Ap us.length cp] 26)))
        replace Vw := Lib.hid (Vw.out.keep (Keeps.alloc w10 _ (.cells #[.slice Ap us.length cp] 26)))
        replace Vy := Lib.hid (Vy.out.keep (Keeps.alloc w10 _ (.cells #[.slice Ap us.length cp] 26)))
        replace Vz := Lib.hid (Vz.out.keep (Keeps.alloc w10 _ (.cells #[.slice Ap us.length cp] 26)))
        replace Vp := Lib.hid (Vp.out.keep (Keeps.alloc w10 _ (.cells #[.slice Ap us.length cp] 26)))
        replace bx := bx.alloc (.cells #[.int .i64 0, .int .i64 0] 30)
        replace x := x.alloc (.cells #[.int .i64 0, .int .i64 0] 30)
        replace f := f.alloc (.cells #[.int .i64 0, .int .i64 0] 30)
        replace bt := bt.alloc (.cells #[.int .i64 0, .int .i64 0] 30)
        replace g := g.alloc (.cells #[.int .i64 0, .int .i64 0] 30)
        replace bu := bu.alloc (.cells #[.int .i64 0, .int .i64 0] 30)
        replace h := h.alloc (.cells #[.int .i64 0, .int .i64 0] 30)
        replace by_ := by_.alloc (.cells #[.int .i64 0, .int .i64 0] 30)
        replace bw := bw.alloc (.cells #[.int .i64 0, .int .i64 0] 30)
        replace bc := bc.alloc (.cells #[.int .i64 0, .int .i64 0] 30)
        replace bd := bd.alloc (.cells #[.int .i64 0, .int .i64 0] 30)
        replace bp := bp.alloc (.cells #[.int .i64 0, .int .i64 0] 30)
        have bq : Blk ((w10.alloc (.cells #[.slice Ap us.length cp] 26)).alloc (.cells #[.int .i64 0, .int .i64 0] 30)) (w10.heap.size + 1) 30 #[.int .i64 0, .int .i64 0] := by simpa using Blk.new (w10.alloc (.cells #[.slice Ap us.length cp] 26)) 30 #[.int .i64 0, .int .i64 0]
        have HBa11 := Lib.hid (HBa10.out.alloc HBa10.out.size (.cells #[.int .i64 0, .int .i64 0] 30))
        replace hM := Lib.hid (hM.out.below (below_alloc1 (w10.alloc (.cells #[.slice Ap us.length cp] 26)) (.cells #[.int .i64 0, .int .i64 0] 30)))
        replace V0 := Lib.hid (V0.out.keep (Keeps.alloc (w10.alloc (.cells #[.slice Ap us.length cp] 26)) _ (.cells #[.int .i64 0, .int .i64 0] 30)))
        replace V2 := Lib.hid (V2.out.keep (Keeps.alloc (w10.alloc (.cells #[.slice Ap us.length cp] 26)) _ (.cells #[.int .i64 0, .int .i64 0] 30)))
        replace Vx := Lib.hid (Vx.out.keep (Keeps.alloc (w10.alloc (.cells #[.slice Ap us.length cp] 26)) _ (.cells #[.int .i64 0, .int .i64 0] 30)))
        replace Vt := Lib.hid (Vt.out.keep (Keeps.alloc (w10.alloc (.cells #[.slice Ap us.length cp] 26)) _ (.cells #[.int .i64 0, .int .i64 0] 30)))
        replace Vu := Lib.hid (Vu.out.keep (Keeps.alloc (w10.alloc (.cells #[.slice Ap us.length cp] 26)) _ (.cells #[.int .i64 0, .int .i64 0] 30)))
        replace Vw := Lib.hid (Vw.out.keep (Keeps.alloc (w10.alloc (.cells #[.slice Ap us.length cp] 26)) _ (.cells #[.int .i64 0, .int .i64 0] 30)))
        replace Vy := Lib.hid (Vy.out.keep (Keeps.alloc (w10.alloc (.cells #[.slice Ap us.length cp] 26)) _ (.cells #[.int .i64 0, .int .i64 0] 30)))
        replace Vz := Lib.hid (Vz.out.keep (Keeps.alloc (w10.alloc (.cells #[.slice Ap us.length cp] 26)) _ (.cells #[.int .i64 0, .int .i64 0] 30)))
        replace Vp := Lib.hid (Vp.out.keep (Keeps.alloc (w10.alloc (.cells #[.slice Ap us.length cp] 26)) _ (.cells #[.int .i64 0, .int .i64 0] 30)))
        go_wp2_with fail
        go_at_call 22
        with_reducible refine (refStores_any _ At Az ct kz ts ts Vt.out Vz.out (by omega) (by omega)).mono ?_
        rintro e w11 ⟨rfl, hb11'⟩
        have HBm11 := Lib.hid (HBa11.out.trans (hb11'.mono HBa11.out.size))
        replace bx := bx.below hb11' bx.lt
        replace x := x.below hb11' x.lt
        replace f := f.below hb11' f.lt
        replace bt := bt.below hb11' bt.lt
        replace g := g.below hb11' g.lt
        replace bu := bu.below hb11' bu.lt
        replace h := h.below hb11' h.lt
        replace by_ := by_.below hb11' by_.lt
        replace bw := bw.below hb11' bw.lt
        replace bc := bc.below hb11' bc.lt
        replace bd := bd.below hb11' bd.lt
        replace bp := bp.below hb11' bp.lt
        replace bq := bq.below hb11' bq.lt
        replace hM := Lib.hid (hM.out.below hb11')
        replace V0 := Lib.hid (V0.out.keep (free_below hb11'))
        replace V2 := Lib.hid (V2.out.keep (free_below hb11'))
        replace Vx := Lib.hid (Vx.out.keep (free_below hb11'))
        replace Vt := Lib.hid (Vt.out.keep (free_below hb11'))
        replace Vu := Lib.hid (Vu.out.keep (free_below hb11'))
        replace Vw := Lib.hid (Vw.out.keep (free_below hb11'))
        replace Vy := Lib.hid (Vy.out.keep (free_below hb11'))
        replace Vz := Lib.hid (Vz.out.keep (free_below hb11'))
        replace Vp := Lib.hid (Vp.out.keep (free_below hb11'))
        clear bx_l bx_l1 bx_l2 bx_0 x_l x_l1 x_l2 x_0 f_l f_l1 f_l2 f_0 f_1 bt_l bt_l1 bt_l2 bt_0 g_l g_l1 g_l2 g_0 g_1 bu_l bu_l1 bu_l2 bu_0 h_l h_l1 h_l2 h_0 h_1 by__l by__l1 by__l2 by__0 bw_l bw_l1 bw_l2 bw_0 bw_1 bc_l bc_l1 bc_l2 bc_0 bd_l bd_l1 bd_l2 bd_0 bd_1
        have bx_l : w.heap.size < w11.heap.size := bx.lt
        have bx_l1 : w.heap.size < w11.heap.size + 1 := Nat.lt_succ_of_lt bx_l
        have bx_l2 : w.heap.size < w11.heap.size + 1 + 1 := Nat.lt_succ_of_lt bx_l1
        have bx_0 : w11.cell? ⟨w.heap.size, 0, none⟩ = some (.slice A s.length k) := (bx.cell 0).trans rfl
        have x_l : w2.heap.size < w11.heap.size := x.lt
        have x_l1 : w2.heap.size < w11.heap.size + 1 := Nat.lt_succ_of_lt x_l
        have x_l2 : w2.heap.size < w11.heap.size + 1 + 1 := Nat.lt_succ_of_lt x_l1
        have x_0 : w11.cell? ⟨w2.heap.size, 0, none⟩ = some (.slice Ax xs.length cx) := (x.cell 0).trans rfl
        have f_l : w2.heap.size + 1 < w11.heap.size := f.lt
        have f_l1 : w2.heap.size + 1 < w11.heap.size + 1 := Nat.lt_succ_of_lt f_l
        have f_l2 : w2.heap.size + 1 < w11.heap.size + 1 + 1 := Nat.lt_succ_of_lt f_l1
        have f_0 : w11.cell? ⟨w2.heap.size + 1, 0, none⟩ = some (.int .i64 0) := (f.cell 0).trans rfl
        have f_1 : w11.cell? ⟨w2.heap.size + 1, 1, none⟩ = some (.int .i64 0) := (f.cell 1).trans rfl
        have bt_l : w3.heap.size < w11.heap.size := bt.lt
        have bt_l1 : w3.heap.size < w11.heap.size + 1 := Nat.lt_succ_of_lt bt_l
        have bt_l2 : w3.heap.size < w11.heap.size + 1 + 1 := Nat.lt_succ_of_lt bt_l1
        have bt_0 : w11.cell? ⟨w3.heap.size, 0, none⟩ = some (.slice At ts.length ct) := (bt.cell 0).trans rfl
        have g_l : w3.heap.size + 1 < w11.heap.size := g.lt
        have g_l1 : w3.heap.size + 1 < w11.heap.size + 1 := Nat.lt_succ_of_lt g_l
        have g_l2 : w3.heap.size + 1 < w11.heap.size + 1 + 1 := Nat.lt_succ_of_lt g_l1
        have g_0 : w11.cell? ⟨w3.heap.size + 1, 0, none⟩ = some (.int .i64 0) := (g.cell 0).trans rfl
        have g_1 : w11.cell? ⟨w3.heap.size + 1, 1, none⟩ = some (.int .i64 0) := (g.cell 1).trans rfl
        have bu_l : w4.heap.size < w11.heap.size := bu.lt
        have bu_l1 : w4.heap.size < w11.heap.size + 1 := Nat.lt_succ_of_lt bu_l
        have bu_l2 : w4.heap.size < w11.heap.size + 1 + 1 := Nat.lt_succ_of_lt bu_l1
        have bu_0 : w11.cell? ⟨w4.heap.size, 0, none⟩ = some (.slice Au us.length cu) := (bu.cell 0).trans rfl
        have h_l : w4.heap.size + 1 < w11.heap.size := h.lt
        have h_l1 : w4.heap.size + 1 < w11.heap.size + 1 := Nat.lt_succ_of_lt h_l
        have h_l2 : w4.heap.size + 1 < w11.heap.size + 1 + 1 := Nat.lt_succ_of_lt h_l1
        have h_0 : w11.cell? ⟨w4.heap.size + 1, 0, none⟩ = some (.int .i64 0) := (h.cell 0).trans rfl
        have h_1 : w11.cell? ⟨w4.heap.size + 1, 1, none⟩ = some (.int .i64 0) := (h.cell 1).trans rfl
        have by__l : w5.heap.size < w11.heap.size := by_.lt
        have by__l1 : w5.heap.size < w11.heap.size + 1 := Nat.lt_succ_of_lt by__l
        have by__l2 : w5.heap.size < w11.heap.size + 1 + 1 := Nat.lt_succ_of_lt by__l1
        have by__0 : w11.cell? ⟨w5.heap.size, 0, none⟩ = some (.slice Ay xs.length cy) := (by_.cell 0).trans rfl
        have bw_l : w5.heap.size + 1 < w11.heap.size := bw.lt
        have bw_l1 : w5.heap.size + 1 < w11.heap.size + 1 := Nat.lt_succ_of_lt bw_l
        have bw_l2 : w5.heap.size + 1 < w11.heap.size + 1 + 1 := Nat.lt_succ_of_lt bw_l1
        have bw_0 : w11.cell? ⟨w5.heap.size + 1, 0, none⟩ = some (.int .i64 0) := (bw.cell 0).trans rfl
        have bw_1 : w11.cell? ⟨w5.heap.size + 1, 1, none⟩ = some (.int .i64 0) := (bw.cell 1).trans rfl
        have bc_l : gr < w11.heap.size := bc.lt
        have bc_l1 : gr < w11.heap.size + 1 := Nat.lt_succ_of_lt bc_l
        have bc_l2 : gr < w11.heap.size + 1 + 1 := Nat.lt_succ_of_lt bc_l1
        have bc_0 : w11.cell? ⟨gr, 0, none⟩ = some (.slice Az ts.length kz) := (bc.cell 0).trans rfl
        have bd_l : gt < w11.heap.size := bd.lt
        have bd_l1 : gt < w11.heap.size + 1 := Nat.lt_succ_of_lt bd_l
        have bd_l2 : gt < w11.heap.size + 1 + 1 := Nat.lt_succ_of_lt bd_l1
        have bd_0 : w11.cell? ⟨gt, 0, none⟩ = some (.int .i64 0) := (bd.cell 0).trans rfl
        have bd_1 : w11.cell? ⟨gt, 1, none⟩ = some (.int .i64 0) := (bd.cell 1).trans rfl
        have bp_l : w10.heap.size < w11.heap.size := bp.lt
        have bp_l1 : w10.heap.size < w11.heap.size + 1 := Nat.lt_succ_of_lt bp_l
        have bp_l2 : w10.heap.size < w11.heap.size + 1 + 1 := Nat.lt_succ_of_lt bp_l1
        have bp_0 : w11.cell? ⟨w10.heap.size, 0, none⟩ = some (.slice Ap us.length cp) := (bp.cell 0).trans rfl
        have bq_l : w10.heap.size + 1 < w11.heap.size := bq.lt
        have bq_l1 : w10.heap.size + 1 < w11.heap.size + 1 := Nat.lt_succ_of_lt bq_l
        have bq_l2 : w10.heap.size + 1 < w11.heap.size + 1 + 1 := Nat.lt_succ_of_lt bq_l1
        have bq_0 : w11.cell? ⟨w10.heap.size + 1, 0, none⟩ = some (.int .i64 0) := (bq.cell 0).trans rfl
        have bq_1 : w11.cell? ⟨w10.heap.size + 1, 1, none⟩ = some (.int .i64 0) := (bq.cell 1).trans rfl
        clear hb11'
        go_wp2_with fail
        go_at_call 22
        with_reducible refine (refStores_any _ Au Ap cu cp us us Vu.out Vp.out (by omega) (by omega)).mono ?_
        rintro e w12 ⟨rfl, hb12'⟩
        have HBm12 := Lib.hid (HBm11.out.trans (hb12'.mono HBm11.out.size))
        replace bx := bx.below hb12' bx.lt
        replace x := x.below hb12' x.lt
        replace f := f.below hb12' f.lt
        replace bt := bt.below hb12' bt.lt
        replace g := g.below hb12' g.lt
        replace bu := bu.below hb12' bu.lt
        replace h := h.below hb12' h.lt
        replace by_ := by_.below hb12' by_.lt
        replace bw := bw.below hb12' bw.lt
        replace bc := bc.below hb12' bc.lt
        replace bd := bd.below hb12' bd.lt
        replace bp := bp.below hb12' bp.lt
        replace bq := bq.below hb12' bq.lt
        replace hM := Lib.hid (hM.out.below hb12')
        replace V0 := Lib.hid (V0.out.keep (free_below hb12'))
        replace V2 := Lib.hid (V2.out.keep (free_below hb12'))
        replace Vx := Lib.hid (Vx.out.keep (free_below hb12'))
        replace Vt := Lib.hid (Vt.out.keep (free_below hb12'))
        replace Vu := Lib.hid (Vu.out.keep (free_below hb12'))
        replace Vw := Lib.hid (Vw.out.keep (free_below hb12'))
        replace Vy := Lib.hid (Vy.out.keep (free_below hb12'))
        replace Vz := Lib.hid (Vz.out.keep (free_below hb12'))
        replace Vp := Lib.hid (Vp.out.keep (free_below hb12'))
        clear bx_l bx_l1 bx_l2 bx_0 x_l x_l1 x_l2 x_0 f_l f_l1 f_l2 f_0 f_1 bt_l bt_l1 bt_l2 bt_0 g_l g_l1 g_l2 g_0 g_1 bu_l bu_l1 bu_l2 bu_0 h_l h_l1 h_l2 h_0 h_1 by__l by__l1 by__l2 by__0 bw_l bw_l1 bw_l2 bw_0 bw_1 bc_l bc_l1 bc_l2 bc_0 bd_l bd_l1 bd_l2 bd_0 bd_1 bp_l bp_l1 bp_l2 bp_0 bq_l bq_l1 bq_l2 bq_0 bq_1
        have bx_l : w.heap.size < w12.heap.size := bx.lt
        have bx_l1 : w.heap.size < w12.heap.size + 1 := Nat.lt_succ_of_lt bx_l
        have bx_l2 : w.heap.size < w12.heap.size + 1 + 1 := Nat.lt_succ_of_lt bx_l1
        have bx_0 : w12.cell? ⟨w.heap.size, 0, none⟩ = some (.slice A s.length k) := (bx.cell 0).trans rfl
        have x_l : w2.heap.size < w12.heap.size := x.lt
        have x_l1 : w2.heap.size < w12.heap.size + 1 := Nat.lt_succ_of_lt x_l
        have x_l2 : w2.heap.size < w12.heap.size + 1 + 1 := Nat.lt_succ_of_lt x_l1
        have x_0 : w12.cell? ⟨w2.heap.size, 0, none⟩ = some (.slice Ax xs.length cx) := (x.cell 0).trans rfl
        have f_l : w2.heap.size + 1 < w12.heap.size := f.lt
        have f_l1 : w2.heap.size + 1 < w12.heap.size + 1 := Nat.lt_succ_of_lt f_l
        have f_l2 : w2.heap.size + 1 < w12.heap.size + 1 + 1 := Nat.lt_succ_of_lt f_l1
        have f_0 : w12.cell? ⟨w2.heap.size + 1, 0, none⟩ = some (.int .i64 0) := (f.cell 0).trans rfl
        have f_1 : w12.cell? ⟨w2.heap.size + 1, 1, none⟩ = some (.int .i64 0) := (f.cell 1).trans rfl
        have bt_l : w3.heap.size < w12.heap.size := bt.lt
        have bt_l1 : w3.heap.size < w12.heap.size + 1 := Nat.lt_succ_of_lt bt_l
        have bt_l2 : w3.heap.size < w12.heap.size + 1 + 1 := Nat.lt_succ_of_lt bt_l1
        have bt_0 : w12.cell? ⟨w3.heap.size, 0, none⟩ = some (.slice At ts.length ct) := (bt.cell 0).trans rfl
        have g_l : w3.heap.size + 1 < w12.heap.size := g.lt
        have g_l1 : w3.heap.size + 1 < w12.heap.size + 1 := Nat.lt_succ_of_lt g_l
        have g_l2 : w3.heap.size + 1 < w12.heap.size + 1 + 1 := Nat.lt_succ_of_lt g_l1
        have g_0 : w12.cell? ⟨w3.heap.size + 1, 0, none⟩ = some (.int .i64 0) := (g.cell 0).trans rfl
        have g_1 : w12.cell? ⟨w3.heap.size + 1, 1, none⟩ = some (.int .i64 0) := (g.cell 1).trans rfl
        have bu_l : w4.heap.size < w12.heap.size := bu.lt
        have bu_l1 : w4.heap.size < w12.heap.size + 1 := Nat.lt_succ_of_lt bu_l
        have bu_l2 : w4.heap.size < w12.heap.size + 1 + 1 := Nat.lt_succ_of_lt bu_l1
        have bu_0 : w12.cell? ⟨w4.heap.size, 0, none⟩ = some (.slice Au us.length cu) := (bu.cell 0).trans rfl
        have h_l : w4.heap.size + 1 < w12.heap.size := h.lt
        have h_l1 : w4.heap.size + 1 < w12.heap.size + 1 := Nat.lt_succ_of_lt h_l
        have h_l2 : w4.heap.size + 1 < w12.heap.size + 1 + 1 := Nat.lt_succ_of_lt h_l1
        have h_0 : w12.cell? ⟨w4.heap.size + 1, 0, none⟩ = some (.int .i64 0) := (h.cell 0).trans rfl
        have h_1 : w12.cell? ⟨w4.heap.size + 1, 1, none⟩ = some (.int .i64 0) := (h.cell 1).trans rfl
        have by__l : w5.heap.size < w12.heap.size := by_.lt
        have by__l1 : w5.heap.size < w12.heap.size + 1 := Nat.lt_succ_of_lt by__l
        have by__l2 : w5.heap.size < w12.heap.size + 1 + 1 := Nat.lt_succ_of_lt by__l1
        have by__0 : w12.cell? ⟨w5.heap.size, 0, none⟩ = some (.slice Ay xs.length cy) := (by_.cell 0).trans rfl
        have bw_l : w5.heap.size + 1 < w12.heap.size := bw.lt
        have bw_l1 : w5.heap.size + 1 < w12.heap.size + 1 := Nat.lt_succ_of_lt bw_l
        have bw_l2 : w5.heap.size + 1 < w12.heap.size + 1 + 1 := Nat.lt_succ_of_lt bw_l1
        have bw_0 : w12.cell? ⟨w5.heap.size + 1, 0, none⟩ = some (.int .i64 0) := (bw.cell 0).trans rfl
        have bw_1 : w12.cell? ⟨w5.heap.size + 1, 1, none⟩ = some (.int .i64 0) := (bw.cell 1).trans rfl
        have bc_l : gr < w12.heap.size := bc.lt
        have bc_l1 : gr < w12.heap.size + 1 := Nat.lt_succ_of_lt bc_l
        have bc_l2 : gr < w12.heap.size + 1 + 1 := Nat.lt_succ_of_lt bc_l1
        have bc_0 : w12.cell? ⟨gr, 0, none⟩ = some (.slice Az ts.length kz) := (bc.cell 0).trans rfl
        have bd_l : gt < w12.heap.size := bd.lt
        have bd_l1 : gt < w12.heap.size + 1 := Nat.lt_succ_of_lt bd_l
        have bd_l2 : gt < w12.heap.size + 1 + 1 := Nat.lt_succ_of_lt bd_l1
        have bd_0 : w12.cell? ⟨gt, 0, none⟩ = some (.int .i64 0) := (bd.cell 0).trans rfl
        have bd_1 : w12.cell? ⟨gt, 1, none⟩ = some (.int .i64 0) := (bd.cell 1).trans rfl
        have bp_l : w10.heap.size < w12.heap.size := bp.lt
        have bp_l1 : w10.heap.size < w12.heap.size + 1 := Nat.lt_succ_of_lt bp_l
        have bp_l2 : w10.heap.size < w12.heap.size + 1 + 1 := Nat.lt_succ_of_lt bp_l1
        have bp_0 : w12.cell? ⟨w10.heap.size, 0, none⟩ = some (.slice Ap us.length cp) := (bp.cell 0).trans rfl
        have bq_l : w10.heap.size + 1 < w12.heap.size := bq.lt
        have bq_l1 : w10.heap.size + 1 < w12.heap.size + 1 := Nat.lt_succ_of_lt bq_l
        have bq_l2 : w10.heap.size + 1 < w12.heap.size + 1 + 1 := Nat.lt_succ_of_lt bq_l1
        have bq_0 : w12.cell? ⟨w10.heap.size + 1, 0, none⟩ = some (.int .i64 0) := (bq.cell 0).trans rfl
        have bq_1 : w12.cell? ⟨w10.heap.size + 1, 1, none⟩ = some (.int .i64 0) := (bq.cell 1).trans rfl
        clear hb12'
        have HLG2 := Lib.hid (logs_any _ Aw Ad cw (k2 - n2) ul ul Vw.out (HVD.out _ V2.out) (by omega) (by omega))
        rw [hull] at *
        go_wp2_with fail
        go_at_call 37
        with_reducible refine (HLG2.out).mono ?_
        rintro e w13 ⟨rfl, hb13'⟩
        have HBm13 := Lib.hid (HBm12.out.trans (hb13'.mono HBm12.out.size))
        replace bx := bx.below hb13' bx.lt
        replace x := x.below hb13' x.lt
        replace f := f.below hb13' f.lt
        replace bt := bt.below hb13' bt.lt
        replace g := g.below hb13' g.lt
        replace bu := bu.below hb13' bu.lt
        replace h := h.below hb13' h.lt
        replace by_ := by_.below hb13' by_.lt
        replace bw := bw.below hb13' bw.lt
        replace bc := bc.below hb13' bc.lt
        replace bd := bd.below hb13' bd.lt
        replace bp := bp.below hb13' bp.lt
        replace bq := bq.below hb13' bq.lt
        replace hM := Lib.hid (hM.out.below hb13')
        replace V0 := Lib.hid (V0.out.keep (free_below hb13'))
        replace V2 := Lib.hid (V2.out.keep (free_below hb13'))
        replace Vx := Lib.hid (Vx.out.keep (free_below hb13'))
        replace Vt := Lib.hid (Vt.out.keep (free_below hb13'))
        replace Vu := Lib.hid (Vu.out.keep (free_below hb13'))
        replace Vw := Lib.hid (Vw.out.keep (free_below hb13'))
        replace Vy := Lib.hid (Vy.out.keep (free_below hb13'))
        replace Vz := Lib.hid (Vz.out.keep (free_below hb13'))
        replace Vp := Lib.hid (Vp.out.keep (free_below hb13'))
        clear bx_l bx_l1 bx_l2 bx_0 x_l x_l1 x_l2 x_0 f_l f_l1 f_l2 f_0 f_1 bt_l bt_l1 bt_l2 bt_0 g_l g_l1 g_l2 g_0 g_1 bu_l bu_l1 bu_l2 bu_0 h_l h_l1 h_l2 h_0 h_1 by__l by__l1 by__l2 by__0 bw_l bw_l1 bw_l2 bw_0 bw_1 bc_l bc_l1 bc_l2 bc_0 bd_l bd_l1 bd_l2 bd_0 bd_1 bp_l bp_l1 bp_l2 bp_0 bq_l bq_l1 bq_l2 bq_0 bq_1
        have bx_l : w.heap.size < w13.heap.size := bx.lt
        have bx_l1 : w.heap.size < w13.heap.size + 1 := Nat.lt_succ_of_lt bx_l
        have bx_l2 : w.heap.size < w13.heap.size + 1 + 1 := Nat.lt_succ_of_lt bx_l1
        have bx_0 : w13.cell? ⟨w.heap.size, 0, none⟩ = some (.slice A s.length k) := (bx.cell 0).trans rfl
        have x_l : w2.heap.size < w13.heap.size := x.lt
        have x_l1 : w2.heap.size < w13.heap.size + 1 := Nat.lt_succ_of_lt x_l
        have x_l2 : w2.heap.size < w13.heap.size + 1 + 1 := Nat.lt_succ_of_lt x_l1
        have x_0 : w13.cell? ⟨w2.heap.size, 0, none⟩ = some (.slice Ax xs.length cx) := (x.cell 0).trans rfl
        have f_l : w2.heap.size + 1 < w13.heap.size := f.lt
        have f_l1 : w2.heap.size + 1 < w13.heap.size + 1 := Nat.lt_succ_of_lt f_l
        have f_l2 : w2.heap.size + 1 < w13.heap.size + 1 + 1 := Nat.lt_succ_of_lt f_l1
        have f_0 : w13.cell? ⟨w2.heap.size + 1, 0, none⟩ = some (.int .i64 0) := (f.cell 0).trans rfl
        have f_1 : w13.cell? ⟨w2.heap.size + 1, 1, none⟩ = some (.int .i64 0) := (f.cell 1).trans rfl
        have bt_l : w3.heap.size < w13.heap.size := bt.lt
        have bt_l1 : w3.heap.size < w13.heap.size + 1 := Nat.lt_succ_of_lt bt_l
        have bt_l2 : w3.heap.size < w13.heap.size + 1 + 1 := Nat.lt_succ_of_lt bt_l1
        have bt_0 : w13.cell? ⟨w3.heap.size, 0, none⟩ = some (.slice At ts.length ct) := (bt.cell 0).trans rfl
        have g_l : w3.heap.size + 1 < w13.heap.size := g.lt
        have g_l1 : w3.heap.size + 1 < w13.heap.size + 1 := Nat.lt_succ_of_lt g_l
        have g_l2 : w3.heap.size + 1 < w13.heap.size + 1 + 1 := Nat.lt_succ_of_lt g_l1
        have g_0 : w13.cell? ⟨w3.heap.size + 1, 0, none⟩ = some (.int .i64 0) := (g.cell 0).trans rfl
        have g_1 : w13.cell? ⟨w3.heap.size + 1, 1, none⟩ = some (.int .i64 0) := (g.cell 1).trans rfl
        have bu_l : w4.heap.size < w13.heap.size := bu.lt
        have bu_l1 : w4.heap.size < w13.heap.size + 1 := Nat.lt_succ_of_lt bu_l
        have bu_l2 : w4.heap.size < w13.heap.size + 1 + 1 := Nat.lt_succ_of_lt bu_l1
        have bu_0 : w13.cell? ⟨w4.heap.size, 0, none⟩ = some (.slice Au us.length cu) := (bu.cell 0).trans rfl
        have h_l : w4.heap.size + 1 < w13.heap.size := h.lt
        have h_l1 : w4.heap.size + 1 < w13.heap.size + 1 := Nat.lt_succ_of_lt h_l
        have h_l2 : w4.heap.size + 1 < w13.heap.size + 1 + 1 := Nat.lt_succ_of_lt h_l1
        have h_0 : w13.cell? ⟨w4.heap.size + 1, 0, none⟩ = some (.int .i64 0) := (h.cell 0).trans rfl
        have h_1 : w13.cell? ⟨w4.heap.size + 1, 1, none⟩ = some (.int .i64 0) := (h.cell 1).trans rfl
        have by__l : w5.heap.size < w13.heap.size := by_.lt
        have by__l1 : w5.heap.size < w13.heap.size + 1 := Nat.lt_succ_of_lt by__l
        have by__l2 : w5.heap.size < w13.heap.size + 1 + 1 := Nat.lt_succ_of_lt by__l1
        have by__0 : w13.cell? ⟨w5.heap.size, 0, none⟩ = some (.slice Ay xs.length cy) := (by_.cell 0).trans rfl
        have bw_l : w5.heap.size + 1 < w13.heap.size := bw.lt
        have bw_l1 : w5.heap.size + 1 < w13.heap.size + 1 := Nat.lt_succ_of_lt bw_l
        have bw_l2 : w5.heap.size + 1 < w13.heap.size + 1 + 1 := Nat.lt_succ_of_lt bw_l1
        have bw_0 : w13.cell? ⟨w5.heap.size + 1, 0, none⟩ = some (.int .i64 0) := (bw.cell 0).trans rfl
        have bw_1 : w13.cell? ⟨w5.heap.size + 1, 1, none⟩ = some (.int .i64 0) := (bw.cell 1).trans rfl
        have bc_l : gr < w13.heap.size := bc.lt
        have bc_l1 : gr < w13.heap.size + 1 := Nat.lt_succ_of_lt bc_l
        have bc_l2 : gr < w13.heap.size + 1 + 1 := Nat.lt_succ_of_lt bc_l1
        have bc_0 : w13.cell? ⟨gr, 0, none⟩ = some (.slice Az ts.length kz) := (bc.cell 0).trans rfl
        have bd_l : gt < w13.heap.size := bd.lt
        have bd_l1 : gt < w13.heap.size + 1 := Nat.lt_succ_of_lt bd_l
        have bd_l2 : gt < w13.heap.size + 1 + 1 := Nat.lt_succ_of_lt bd_l1
        have bd_0 : w13.cell? ⟨gt, 0, none⟩ = some (.int .i64 0) := (bd.cell 0).trans rfl
        have bd_1 : w13.cell? ⟨gt, 1, none⟩ = some (.int .i64 0) := (bd.cell 1).trans rfl
        have bp_l : w10.heap.size < w13.heap.size := bp.lt
        have bp_l1 : w10.heap.size < w13.heap.size + 1 := Nat.lt_succ_of_lt bp_l
        have bp_l2 : w10.heap.size < w13.heap.size + 1 + 1 := Nat.lt_succ_of_lt bp_l1
        have bp_0 : w13.cell? ⟨w10.heap.size, 0, none⟩ = some (.slice Ap us.length cp) := (bp.cell 0).trans rfl
        have bq_l : w10.heap.size + 1 < w13.heap.size := bq.lt
        have bq_l1 : w10.heap.size + 1 < w13.heap.size + 1 := Nat.lt_succ_of_lt bq_l
        have bq_l2 : w10.heap.size + 1 < w13.heap.size + 1 + 1 := Nat.lt_succ_of_lt bq_l1
        have bq_0 : w13.cell? ⟨w10.heap.size + 1, 0, none⟩ = some (.int .i64 0) := (bq.cell 0).trans rfl
        have bq_1 : w13.cell? ⟨w10.heap.size + 1, 1, none⟩ = some (.int .i64 0) := (bq.cell 1).trans rfl
        clear hb13'
        go_wp2_with fail
        go_ret
        exact ⟨by simp, HBm13.out⟩
end Go.Proofs.YtfbbgnhelannjaaDoor
