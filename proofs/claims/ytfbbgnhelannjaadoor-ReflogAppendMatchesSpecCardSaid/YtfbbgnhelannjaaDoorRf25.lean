/-
  References: walk of 'Get'.
-/
import Derived.Test.YtfbbgnhelannjaaDoorRf23
namespace Rf
/-- What 'Get' answers. -/
def getF (s : List R) (n : Nm) : Int × (Int × Int) := if (rfF s).1 ≠ 0 then (0, rfF s) else if nameOk n = false then (0, (12, -1)) else if fnd s n = false then (0, (6, -1)) else ((it s (lb s n)).tgt, (0, 0))
/-- The references whose names begin so. -/
def pre (s : List R) (p : Nm) : List R := s.filter fun x => Go.Lib.hasPrefix x.name p
/-- What 'List' answers. -/
def lsF (s : List R) (p : Nm) : List R × (Int × Int) := if (rfF s).1 ≠ 0 then ([], rfF s) else (pre s p, (0, 0))
end Rf
namespace Go.Proofs.YtfbbgnhelannjaaDoor
open Go.RowKit Go.V Go.Shelf Go.Lib
set_option linter.unusedVariables false

theorem results_tc30 {fn : Func} {s a : Tmp} (h : fn.results = #[.tmp s, .cell a 30]) (tmps : Array Value) (w : World) (g : Nat) (x y v : Value) (hv : tmps.getD s undef = v) (ha : tmps.getD a undef = .pointer (some ⟨g, 0, none⟩)) (hb : Blk w g 30 #[x, y]) :
    (results fn tmps).run Tryd.prog w = .ok (.tuple #[v, .agg #[x, y]]) w := by
  have h0 := hb.cell 0
  have h1 := hb.cell 1
  simp only [List.getElem?_toArray, List.getElem?_cons_zero, List.getElem?_cons_succ] at h0 h1
  have ha' : tmps[a]?.getD undef = .pointer (some ⟨g, 0, none⟩) := by simpa using ha
  have hv' : tmps[s]?.getD undef = v := by simpa using hv
  simp [results, h, go_sem, ha', hv', h0, h1]
/-- A box and a fault that is left. -/
structure GtSt (w wr : World) (A : Option Addr) (n k : Nat) : Prop where
  bx : Blk wr w.heap.size 26 #[.slice A n k]
  r2 : Blk wr (w.heap.size + 1) 30 #[.int .i64 0, .int .i64 0]
  bel : Below w.heap.size w wr
section
variable {w wr w' : World} {A : Option Addr} {n k : Nat}
theorem GtSt.below (h : GtSt w wr A n k) (hb : Below wr.heap.size wr w') : GtSt w w' A n k :=
  ⟨h.bx.below hb h.bx.lt, h.r2.below hb h.r2.lt, h.bel.trans (hb.mono h.bel.size)⟩
theorem GtSt.facts (h : GtSt w wr A n k) : wr.cell? ⟨w.heap.size, 0, none⟩ = some (.slice A n k) ∧
    wr.cell? ⟨w.heap.size + 1, 0, none⟩ = some (.int .i64 0) ∧ wr.cell? ⟨w.heap.size + 1, 1, none⟩ = some (.int .i64 0) ∧ wr.frozen? ⟨w.heap.size + 1, 0, none⟩ = false ∧ wr.frozen? ⟨w.heap.size + 1, 1, none⟩ = false ∧
    w.heap.size < wr.heap.size ∧ w.heap.size + 1 < wr.heap.size :=
  ⟨(h.bx.cell 0).trans rfl, (h.r2.cell 0).trans rfl, (h.r2.cell 1).trans rfl, h.r2.frozen 0, h.r2.frozen 1, h.bx.lt, h.r2.lt⟩
theorem GtSt.put (h : GtSt w wr A n k) (u v : Value) : Blk ((wr.setCell ⟨w.heap.size + 1, 0, none⟩ u).setCell ⟨w.heap.size + 1, 1, none⟩ v) (w.heap.size + 1) 30 #[u, v] ∧ Below w.heap.size w ((wr.setCell ⟨w.heap.size + 1, 0, none⟩ u).setCell ⟨w.heap.size + 1, 1, none⟩ v) :=
  ⟨blk_put2 h.r2 u v, (h.bel.setCell (p := ⟨w.heap.size + 1, 0, none⟩) (Nat.le_succ _) u).setCell (p := ⟨w.heap.size + 1, 1, none⟩) (Nat.le_succ _) v⟩
end
/-- A target and a fault. -/
def GtPost (w : World) (r : Int × (Int × Int)) (e : Ending) (w' : World) : Prop := e = .returned (.tuple #[.int .i64 r.1, .agg #[.int .i64 r.2.1, .int .i64 r.2.2]]) ∧ Below w.heap.size w w'
theorem GtPost.mk_ {w w' : World} {r : Int × (Int × Int)} {a b c : Int} (h : r = (a, (b, c))) (hb : Below w.heap.size w w') : GtPost w r (.returned (.tuple #[.int .i64 a, .agg #[.int .i64 b, .int .i64 c]])) w' := by
  subst h; exact ⟨rfl, hb⟩
set_option maxRecDepth 100000 in
set_option maxHeartbeats 16000000 in
theorem get_any (w : World) (hm : Mx w) (A : Option Addr) (k : Nat) (s : List Rf.R) (n : List UInt8) (hv : SA w Free A (rsV s)) (hl64 : s.length ≤ 9223372036854775807) (hk : s.length ≤ k) :
    Calls Tryd.prog 27 #[.agg #[.slice A s.length k], strV n] w (GtPost w (Rf.getF s n)) := by
  have HV := Lib.hid (fun (w1 : World) (hb : Below w.heap.size w w1) => hv.keep (free_below hb))
  have HM := Lib.hid hm.fun_
  have HPF := Lib.hid (Rf.getF.eq_1 s n)
  have HC := Lib.hid (fun (w1 : World) (hb : Below w.heap.size w w1) => validate_any w1 (HM.out _ hb) A k s (HV.out _ hb) hl64 hk)
  clear hv hm
  generalize hr : Rf.getF s n = r at *
  clear hr
  have st0 : GtSt w ((w.alloc (.cells #[.slice A s.length k] 26)).alloc (.cells #[.int .i64 0, .int .i64 0] 30)) A s.length k :=
    ⟨(Blk.new _ _ _).alloc _, blk_new1 _ _ _ _, below_alloc2 _ _ _⟩
  go_enter Tryd.func27, Tryd.ntmps27
  go_wp2_with fail
  go_at_call 29
  refine (HC.out _ st0.bel).mono ?_
  rintro e w1 ⟨rfl, hb1⟩
  have st1 := st0.below hb1
  obtain ⟨p0, p1, p2, p3, p4, l0, l1⟩ := st1.facts
  clear hb1 HC st0
  by_cases hbad : (Rf.rfF s).1 ≠ 0
  · have H := Lib.hid (show r = (0, Rf.rfF s) from by rw [HPF.out, if_pos hbad])
    have hb1 : ((Rf.rfF s).1 == 0) = false := by simpa using hbad
    have hb2 : ((Rf.rfF s).1 != 0) = true := by simpa using hbad
    clear hbad HPF HV
    generalize Rf.rfF s = q at *
    obtain ⟨cd, ix⟩ := q
    simp only at hb1 hb2
    go_wp2_with fail
    go_region
    all_goals
      go_wp2_with fail
      obtain ⟨k1, k2⟩ := st1.put (.int .i64 cd) (.int .i64 ix)
      refine bodyPost_ret (results_tc30 rfl _ _ (w.heap.size + 1) (.int .i64 cd) (.int .i64 ix) (.int .i64 0) rfl rfl ((k1.alloc _).drewN 1)) rfl ?_
      exact GtPost.mk_ H.out (below_drewN' (k2.alloc (by simp [World.setCell]; omega) _) 1)
  · obtain ⟨hz, hok⟩ := Rf.rfF_ok (by simpa using hbad)
    have HP2 := Lib.hid (HPF.out.trans (if_neg hbad))
    rw [hz]
    have st2 := st1.below (below_alloc1 w1 (.cells #[.int .i64 0, .int .i64 0] 30))
    clear hz hbad p0 p1 p2 p3 p4 l0 l1 HPF
    obtain ⟨p0, p1, p2, p3, p4, l0, l1⟩ := st2.facts
    have hsl := hok.len
    have HN := Lib.hid (name_any _ (HM.out _ st2.bel) n)
    have HFI := Lib.hid (fun (w' : World) (hb : Below w.heap.size w w') => find_any w' A k s n (HV.out _ hb) (by omega) hok.srt)
    clear hok st1
    go_wp2_with fail
    go_at_call 16
    refine HN.out.mono ?_
    rintro e w3 ⟨rfl, hb3⟩
    have st3 := st2.below hb3
    clear hb3 HN p0 p1 p2 p3 p4 l0 l1 st2
    obtain ⟨p0, p1, p2, p3, p4, l0, l1⟩ := st3.facts
    cases hn : Rf.nameOk n with
    | false =>
      have H := Lib.hid (HP2.out.trans (if_pos hn))
      clear HP2 hn HFI
      go_wp2_with fail
      obtain ⟨k1, k2⟩ := st3.put (.int .i64 12) (.int .i64 (-1))
      exact bodyPost_ret (results_tc30 rfl _ _ (w.heap.size + 1) (.int .i64 12) (.int .i64 (-1)) (.int .i64 0) rfl rfl k1) rfl (GtPost.mk_ H.out k2)
    | true =>
      have HP3 := Lib.hid (HP2.out.trans (if_neg (by rw [hn]; decide)))
      clear HP2 hn
      go_wp2_with fail
      go_at_call 48
      refine (HFI.out _ st3.bel).mono ?_
      rintro e w4 ⟨rfl, hb4⟩
      have st4 := st3.below hb4
      clear hb4 HFI p0 p1 p2 p3 p4 l0 l1 st3
      obtain ⟨p0, p1, p2, p3, p4, l0, l1⟩ := st4.facts
      cases hf : Rf.fnd s n with
      | false =>
        have H := Lib.hid (HP3.out.trans (if_pos hf))
        clear HP3 hf
        go_wp2_with fail
        obtain ⟨k1, k2⟩ := st4.put (.int .i64 6) (.int .i64 (-1))
        exact bodyPost_ret (results_tc30 rfl _ _ (w.heap.size + 1) (.int .i64 6) (.int .i64 (-1)) (.int .i64 0) rfl rfl k1) rfl (GtPost.mk_ H.out k2)
      | true =>
        have H := Lib.hid (HP3.out.trans (if_neg (by rw [hf]; decide)))
        have hlt : Rf.lb s n < s.length := by unfold Rf.fnd at hf; rw [Bool.and_eq_true] at hf; simpa using hf.1
        obtain ⟨b, off, e, hb, _, d0, d1⟩ := rsV_row (HV.out _ st4.bel) _ hlt
        subst e
        clear HP3 hf
        generalize Rf.it s (Rf.lb s n) = x at *
        generalize Rf.lb s n = i at *
        have hlt' : (i : Int) < s.length := by omega
        go_wp2_with fail
        obtain ⟨k1, k2⟩ := st4.put (.int .i64 0) (.int .i64 0)
        exact bodyPost_ret (results_tc30 rfl _ _ (w.heap.size + 1) (.int .i64 0) (.int .i64 0) (.int .i64 x.tgt) rfl rfl k1) rfl (GtPost.mk_ H.out k2)
/-- A row and a fault. -/
def LsPost (w : World) (r : List Rf.R × (Int × Int)) (e : Ending) (w' : World) : Prop := ∃ A c, e = .returned (.tuple #[.slice A r.1.length c, .agg #[.int .i64 r.2.1, .int .i64 r.2.2]]) ∧ r.1.length ≤ c ∧ SA w' (Under w.heap.size) A (rsV r.1) ∧ Below w.heap.size w w'
theorem LsPost.mk_ {w w' : World} {r : List Rf.R × (Int × Int)} {A : Option Addr} {c : Nat} {l : List Rf.R} {a b : Int} (h : r = (l, (a, b))) (hc : l.length ≤ c) (hs : SA w' (Under w.heap.size) A (rsV l)) (hb : Below w.heap.size w w') : LsPost w r (.returned (.tuple #[.slice A l.length c, .agg #[.int .i64 a, .int .i64 b]])) w' := by
  subst h; exact ⟨A, c, rfl, hc, hs, hb⟩
set_option maxRecDepth 100000 in
set_option maxHeartbeats 16000000 in
theorem list_any (w : World) (hm : Mx w) (A : Option Addr) (k : Nat) (s : List Rf.R) (n : List UInt8) (hv : SA w Free A (rsV s)) (hl64 : s.length ≤ 9223372036854775807) (hk : s.length ≤ k) :
    Calls Tryd.prog 28 #[.agg #[.slice A s.length k], strV n] w (LsPost w (Rf.lsF s n)) := by
  obtain ⟨i0, hi0, hz0, hz1, hz2⟩ := info_parts info51
  have HV := Lib.hid (fun (w1 : World) (hb : Below w.heap.size w w1) => hv.keep (free_below hb))
  have HM := Lib.hid hm.fun_
  have HPF := Lib.hid (Rf.lsF.eq_1 s n)
  have HC := Lib.hid (fun (w1 : World) (hb : Below w.heap.size w w1) => validate_any w1 (HM.out _ hb) A k s (HV.out _ hb) hl64 hk)
  clear hv hm
  generalize hr : Rf.lsF s n = r at *
  clear hr
  have st0 : GtSt w ((w.alloc (.cells #[.slice A s.length k] 26)).alloc (.cells #[.int .i64 0, .int .i64 0] 30)) A s.length k :=
    ⟨(Blk.new _ _ _).alloc _, blk_new1 _ _ _ _, below_alloc2 _ _ _⟩
  have hsz0 : ((w.alloc (.cells #[.slice A s.length k] 26)).alloc (.cells #[.int .i64 0, .int .i64 0] 30)).heap.size = w.heap.size + 2 := by simp
  go_enter Tryd.func28, Tryd.ntmps28
  go_wp2_with fail
  go_at_call 29
  refine (HC.out _ st0.bel).mono ?_
  rintro e w1 ⟨rfl, hb1⟩
  have st1 := st0.below hb1
  have hsz1 : w.heap.size + 2 ≤ w1.heap.size := by have := hb1.size; omega
  obtain ⟨p0, p1, p2, p3, p4, l0, l1⟩ := st1.facts
  clear hb1 HC st0 hsz0
  by_cases hbad : (Rf.rfF s).1 ≠ 0
  · have H := Lib.hid (show r = ([], Rf.rfF s) from by rw [HPF.out, if_pos hbad])
    have hb1 : ((Rf.rfF s).1 == 0) = false := by simpa using hbad
    have hb2 : ((Rf.rfF s).1 != 0) = true := by simpa using hbad
    clear hbad HPF HV
    generalize Rf.rfF s = q at *
    obtain ⟨cd, ix⟩ := q
    simp only at hb1 hb2
    go_wp2_with fail
    go_region
    all_goals
      go_wp2_with fail
      obtain ⟨k1, k2⟩ := st1.put (.int .i64 cd) (.int .i64 ix)
      refine bodyPost_ret (results_tc30 rfl _ _ (w.heap.size + 1) (.int .i64 cd) (.int .i64 ix) _ rfl rfl ((k1.alloc _).drewN 1)) rfl ?_
      exact LsPost.mk_ (l := []) H.out (Nat.le_refl _) SA.nil (below_drewN' (k2.alloc (by simp [World.setCell]; omega) _) 1)
  · obtain ⟨hz, hok⟩ := Rf.rfF_ok (by simpa using hbad)
    have HP2 := Lib.hid (HPF.out.trans (if_neg hbad))
    rw [hz]
    have st2 := st1.below (below_alloc1 w1 (.cells #[.int .i64 0, .int .i64 0] 30))
    have hsz2 : (w1.alloc (.cells #[.int .i64 0, .int .i64 0] 30)).heap.size = w1.heap.size + 1 := by simp
    clear hz hbad p0 p1 p2 p3 p4 l0 l1 HPF
    obtain ⟨p0, p1, p2, p3, p4, l0, l1⟩ := st2.facts
    have hsl := hok.len
    clear hok st1
    go_wp2_with fail
    generalize w1.alloc (.cells #[.int .i64 0, .int .i64 0] 30) = wl at *
    go_loopw [7, 19] (fun ov iv wr => ∃ (i : Nat) (o : List Rf.R) (A' : Option Addr) (c' : Nat), i ≤ s.length ∧ iv = .int .i64 i ∧ ov = .slice A' o.length c' ∧ o.length ≤ i ∧ Hid (o = Rf.pre (s.take i) n) ∧ GtSt w wr A s.length k ∧ w.heap.size + 2 ≤ wr.heap.size ∧ wr.ownsRow (w.heap.size + 2) 51 2 (.slice A' o.length c') o.length (rsV o)) (fun _ iv _ => s.length - (intOf iv).toNat)
    case atStart => exact ⟨0, [], none, 0, Nat.zero_le _, rfl, rfl, Nat.le_refl _, Lib.hid rfl, st2, by omega, World.ownsRow_nil _ _ _ _⟩
    case round =>
      obtain ⟨i, o, A', c', hi, rfl, rfl, hol, HO, st, hsz, hown⟩ := hrel
      obtain ⟨wo, rfl⟩ : ∃ wo : World, wo = wr := ⟨_, rfl⟩
      obtain ⟨a0, a1, a2, a3, a4, l0, l1⟩ := st.facts
      by_cases hlt : i < s.length
      · have hlt' : (i : Int) < s.length := by omega
        obtain ⟨b, off, e, hbb, _, d0, d1⟩ := rsV_row (HV.out _ st.bel) i hlt
        subst e
        have HT : Hid (s.take (i + 1) = s.take i ++ [Rf.it s i]) := Lib.hid (by rw [List.take_succ_eq_append_getElem hlt, Rf.it_eq s i hlt])
        generalize Rf.it s i = x at *
        have bx1 := Blk.new wo 51 #[strV x.name, .int .i64 x.tgt]
        have sx := st.below (below_alloc1 wo (.cells #[strV x.name, .int .i64 x.tgt] 51))
        have ow1 := hown.alloc (.cells #[strV x.name, .int .i64 x.tgt] 51)
        have HPX := Lib.hid (hasPrefix_any x.name n (wo.alloc (.cells #[strV x.name, .int .i64 x.tgt] 51)))
        cases hp : Lib.hasPrefix x.name n with
        | false =>
          have HN2 : Hid (o = Rf.pre (s.take (i + 1)) n) := Lib.hid (by rw [HT.out, HO.out]; unfold Rf.pre; rw [List.filter_append]; simp [hp])
          rw [hp] at HPX
          clear HT HO hp
          go_wp2_with fail
          go_at_call 49
          refine HPX.out.mono ?_
          rintro e w9 ⟨rfl, hw9⟩
          have hw9 := hw9.symm
          subst hw9
          go_wp2_with fail
          go_roundw
          case rel => exact ⟨i + 1, o, A', c', by omega, by go_num, rfl, by omega, HN2, sx, by simp; omega, ow1⟩
          case measure => simp [intOf]; omega
        | true =>
          have HN2 : Hid (o ++ [x] = Rf.pre (s.take (i + 1)) n) := Lib.hid (by rw [HT.out, HO.out]; unfold Rf.pre; rw [List.filter_append]; simp [hp])
          rw [hp] at HPX
          clear HT HO hp
          have hsv1 : SV ((wo.alloc (.cells #[strV x.name, .int .i64 x.tgt] 51)).alloc (.cells #[strV x.name, .int .i64 x.tgt] 51)) (wo.heap.size + 1 + 1) (some ⟨wo.heap.size + 1, 0, none⟩) [strV x.name, .int .i64 x.tgt] := by simpa using SV.lit (wo.alloc (.cells #[strV x.name, .int .i64 x.tgt] 51)) #[strV x.name, .int .i64 x.tgt] 51
          go_wp2_with fail
          go_at_call 49
          refine HPX.out.mono ?_
          rintro e w9 ⟨rfl, hw9⟩
          have hw9 := hw9.symm
          subst hw9
          go_wp2_with (first | (at_builtin; refine wpList_appN _ rfl (.tmp 27) (.tmp 29) 24 rfl (w.heap.size + 2) 51 i0 _ 2 24 Tryd.underlying24 hi0 hz0 hz1 hz2 rfl (by decide) A' o.length c' (rsV o) rfl (ow1.alloc (.cells #[strV x.name, .int .i64 x.tgt] 51)) _ _ 1 1 [strV x.name, .int .i64 x.tgt] rfl rfl hsv1 (by intro v hv; simp at hv; rcases hv with rfl | rfl <;> rfl) ?ha1 ?hb1 ?hc1 ?_))
          case ha1 => unfold maxLen; omega
          case hb1 => omega
          case hc1 => simp; omega
          intro A2 c2 w2 own2 hg2 _
          have hr2 : ∀ b, (Value.slice A' o.length c').ownBlock = some b → w.heap.size + 2 ≤ b := fun b e => (hown.lt b e).1
          have sx2 := sx.below (below_alloc1 _ (.cells #[strV x.name, .int .i64 x.tgt] 51))
          have s2 : GtSt w w2 (some ⟨b, off, none⟩) s.length k := ⟨sx2.bx.grown hg2 (fun e => by have := hr2 _ e.symm; omega), sx2.r2.grown hg2 (fun e => by have := hr2 _ e.symm; omega), sx2.bel.grown hg2 sx2.bel.size (fun b e => by have := hr2 b e; omega)⟩
          have hsz3 : w.heap.size + 2 ≤ w2.heap.size := by have := hg2.size; simp at this; omega
          have eo3 : rsV o ++ [strV x.name, .int .i64 x.tgt] = rsV (o ++ [x]) := by simp [rsV, rC]
          rw [eo3] at own2
          have hol3 : (o ++ [x]).length = o.length + 1 := by simp
          clear a0 a1 a2 a3 a4 hg2 sx sx2 ow1 bx1 hsv1 eo3 d0 d1
          go_wp2_with fail
          go_roundw
          case rel => exact ⟨i + 1, o ++ [x], A2, c2, by omega, by go_num, by rw [hol3], by simp; omega, HN2, s2, hsz3, by rw [hol3]; exact own2⟩
          case measure => simp [intOf]; omega
      · obtain rfl : i = s.length := by omega
        have H : Hid (r = (o, (0, 0))) := Lib.hid (by rw [HP2.out, HO.out, List.take_length])
        have hcap : o.length ≤ c' := by
          obtain ⟨A'', c'', e1, hcc, _⟩ := own_form hown
          injection e1 with _ _ e3
          subst e3; exact hcc
        clear HO HP2
        go_wp2_with fail
        obtain ⟨k1, k2⟩ := st.put (.int .i64 0) (.int .i64 0)
        refine bodyPost_ret (results_tc30 rfl _ _ (w.heap.size + 1) (.int .i64 0) (.int .i64 0) _ rfl rfl k1) rfl ?_
        have hlo : ∀ b, (Value.slice A' o.length c').ownBlock = some b → w.heap.size + 2 ≤ b := fun b hb => (hown.lt b hb).1
        have hne2 : some (w.heap.size + 1) ≠ (Value.slice A' o.length c').ownBlock := fun e => by have := hlo _ e.symm; omega
        exact LsPost.mk_ H.out hcap (SA.of_own' (own_setCell (own_setCell hown hne2 _) hne2 _) (fun b hb hU => by have := hlo b hb; unfold Under at hU; omega)) k2
end Go.Proofs.YtfbbgnhelannjaaDoor
