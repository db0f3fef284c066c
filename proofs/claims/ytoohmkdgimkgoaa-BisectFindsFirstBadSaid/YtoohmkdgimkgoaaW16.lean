/-
  Histories: walks of mergebase's 'check', 'IsAncestor' and 'Bases'.
-/
import Derived.Test.YtoohmkdgimkgoaaW15
namespace Go.Proofs.Ytoohmkdgimkgoaa
open Go.RowKit Go.V
set_option linter.unusedVariables false

def mcheck (l : List Hs.Cm) (a b : Int) : Int × Int :=
  if (Hs.validate l).1 ≠ 0 then Hs.validate l else if ¬ (0 ≤ a ∧ a < l.length) then (6, 0) else if ¬ (0 ≤ b ∧ b < l.length) then (6, 1) else (0, 0)
theorem mcheck_cases (l : List Hs.Cm) (a b : Int) : (mcheck l a b).1 ≠ 0 ∨ (Hs.Ok l ∧ mcheck l a b = (0, 0) ∧ ∃ m n : Nat, a = m ∧ b = n ∧ m < l.length ∧ n < l.length) := by
  unfold mcheck
  by_cases h : (Hs.validate l).1 = 0
  · rw [if_neg (by simpa using h)]
    by_cases ha : 0 ≤ a ∧ a < l.length
    · rw [if_neg (by simpa using ha)]
      by_cases hb : 0 ≤ b ∧ b < l.length
      · rw [if_neg (by simpa using hb)]
        exact .inr ⟨(Hs.validate_ok l h).2, rfl, a.toNat, b.toNat, by omega, by omega, by omega, by omega⟩
      · rw [if_pos hb]; exact .inl (by decide)
    · rw [if_pos ha]; exact .inl (by decide)
  · rw [if_pos h]; exact .inl h

set_option maxRecDepth 100000 in
set_option maxHeartbeats 4000000 in
theorem mcheck_any (w : World) (A : Option Addr) (k : Nat) (l : List Hs.Cm) (a b : Int) (hv : CV w A l) (hl : l.length ≤ 9223372036854775807) :
    Calls Try.prog 54 #[.slice A l.length k, .int .i64 a, .int .i64 b] w (FaultPost w (mcheck l a b)) := by
  have HC := Lib.hid (fun w1 h => validate_any w1 A k l h hl)
  have ix0 : ∀ W, (Instr.index 81 (.agg #[.int .i64 a, .int .i64 b]) (.int .i64 0)).run Try.prog W = .ok (.int .i64 a) W := fun _ => by kernel_rfl
  have ix1 : ∀ W, (Instr.index 81 (.agg #[.int .i64 a, .int .i64 b]) (.int .i64 1)).run Try.prog W = .ok (.int .i64 b) W := fun _ => by kernel_rfl
  go_enter Try.func54, Try.ntmps54
  go_wp2_with fail
  go_at_call 20
  refine (HC.out _ (hv.alloc _)).mono ?_
  rintro e w1 ⟨rfl, hb1⟩
  have hblk := (Blk.new w 26 #[.int .i64 0, .int .i64 0]).below hb1 (by simp)
  have hbel := (below_alloc1 w (.cells #[.int .i64 0, .int .i64 0] 26)).trans (hb1.mono (by simp))
  have hsz := hbel.size
  have hlt := hblk.lt
  have hc0 := hblk.cell 0
  have hc1 := hblk.cell 1
  have hf0 := hblk.frozen 0
  have hf1 := hblk.frozen 1
  simp only [List.getElem?_toArray, List.getElem?_cons_zero, List.getElem?_cons_succ] at hc0 hc1
  clear hb1 HC
  by_cases hbad : (Hs.validate l).1 = 0
  · have hok := (Hs.validate_ok l hbad).2
    have hl60 := hok.len
    rw [Hs.validate_of_ok hok]
    by_cases ha : 0 ≤ a ∧ a < l.length
    · by_cases hb : 0 ≤ b ∧ b < l.length
      · have H := Lib.hid (show mcheck l a b = (0, 0) from by unfold mcheck; rw [if_neg (by simpa using hbad), if_neg (by simpa using ha), if_neg (by simpa using hb)])
        have HN := Lib.hid (show (decide (0 ≤ a) && decide (a < (l.length : Int))) = true from by rw [decide_eq_true ha.1, decide_eq_true ha.2]; rfl)
        have HM := Lib.hid (show (decide (0 ≤ b) && decide (b < (l.length : Int))) = true from by rw [decide_eq_true hb.1, decide_eq_true hb.2]; rfl)
        clear hbad ha hb
        go_wp2_with fail
        refine wp_loop_rounds 3 ?_
        rw [rounds_succ]
        go_wp2_with (go_at_call 49; refine (is_any _ _ _ _ _ (by omega)).mono ?_; rintro e w' ⟨rfl, rfl⟩; rw [HN.out])
        rw [rounds_succ]
        go_wp2_with (go_at_call 49; refine (is_any _ _ _ _ _ (by omega)).mono ?_; rintro e w' ⟨rfl, rfl⟩; rw [HM.out])
        rw [rounds_succ]
        go_wp2_with fail
        refine bodyPost_ret (results_c rfl _ _ w.heap.size (.int .i64 0) (.int .i64 0) rfl ((blk_put26 hblk _ _).alloc _)) rfl (FaultPost.mk_ H.out ?_)
        exact ((hbel.setCell (by simp) _).setCell (by simp) _).alloc (by simp; omega) _
      · have H := Lib.hid (show mcheck l a b = (6, 1) from by unfold mcheck; rw [if_neg (by simpa using hbad), if_neg (by simpa using ha), if_pos hb])
        have HN := Lib.hid (show (decide (0 ≤ a) && decide (a < (l.length : Int))) = true from by rw [decide_eq_true ha.1, decide_eq_true ha.2]; rfl)
        have HM := Lib.hid (show (decide (0 ≤ b) && decide (b < (l.length : Int))) = false from by
          rw [Bool.and_eq_false_iff]; simp only [decide_eq_false_iff_not]; omega)
        clear hbad ha hb
        go_wp2_with fail
        refine wp_loop_rounds 2 ?_
        rw [rounds_succ]
        go_wp2_with (go_at_call 49; refine (is_any _ _ _ _ _ (by omega)).mono ?_; rintro e w' ⟨rfl, rfl⟩; rw [HN.out])
        rw [rounds_succ]
        go_wp2_with (go_at_call 49; refine (is_any _ _ _ _ _ (by omega)).mono ?_; rintro e w' ⟨rfl, rfl⟩; rw [HM.out])
        refine bodyPost_ret (results_c rfl _ _ w.heap.size (.int .i64 6) (.int .i64 1) rfl ((blk_put26 hblk _ _).alloc _)) rfl (FaultPost.mk_ H.out ?_)
        exact ((hbel.setCell (by simp) _).setCell (by simp) _).alloc (by simp; omega) _
    · have H := Lib.hid (show mcheck l a b = (6, 0) from by unfold mcheck; rw [if_neg (by simpa using hbad), if_pos ha])
      have HN := Lib.hid (show (decide (0 ≤ a) && decide (a < (l.length : Int))) = false from by
        rw [Bool.and_eq_false_iff]; simp only [decide_eq_false_iff_not]; omega)
      clear hbad ha
      go_wp2_with fail
      refine wp_loop_rounds 1 ?_
      rw [rounds_succ]
      go_wp2_with (go_at_call 49; refine (is_any _ _ _ _ _ (by omega)).mono ?_; rintro e w' ⟨rfl, rfl⟩; rw [HN.out])
      refine bodyPost_ret (results_c rfl _ _ w.heap.size (.int .i64 6) (.int .i64 0) rfl ((blk_put26 hblk _ _).alloc _)) rfl (FaultPost.mk_ H.out ?_)
      exact ((hbel.setCell (by simp) _).setCell (by simp) _).alloc (by simp; omega) _
  · have H := Lib.hid (show mcheck l a b = Hs.validate l from by unfold mcheck; rw [if_pos hbad])
    have h1 : ((Hs.validate l).1 == 0) = false := by simpa using hbad
    have h2 : ((Hs.validate l).1 != 0) = true := by simpa using hbad
    clear hbad
    generalize Hs.validate l = r at *
    obtain ⟨c, i⟩ := r
    simp only at h1 h2
    go_wp2_with fail
    refine bodyPost_ret (results_c rfl _ _ w.heap.size (.int .i64 c) (.int .i64 i) rfl ((blk_put26 hblk _ _).alloc _)) rfl (FaultPost.mk_ H.out ?_)
    exact ((hbel.setCell (by simp) _).setCell (by simp) _).alloc (by simp; omega) _

/-- A bool and a fault. -/
def B1Res (w : World) (r : Bool × (Int × Int)) (e : Ending) (w' : World) : Prop :=
  e = .returned (.tuple #[.bool r.1, .agg #[.int .i64 r.2.1, .int .i64 r.2.2]]) ∧ Below w.heap.size w w'
def isRes (l : List Hs.Cm) (a b : Int) : Bool × (Int × Int) := if (mcheck l a b).1 ≠ 0 then (false, mcheck l a b) else (Hs.reach l b.toNat a.toNat, (0, 0))

set_option maxRecDepth 100000 in
set_option maxHeartbeats 4000000 in
theorem isAncestor_any (w : World) (A : Option Addr) (k : Nat) (l : List Hs.Cm) (a b : Int) (hv : CV w A l) (hl : l.length ≤ 9223372036854775807) :
    Calls Try.prog 27 #[.slice A l.length k, .int .i64 a, .int .i64 b] w (B1Res w (isRes l a b)) := by
  have HC := Lib.hid (fun w1 h => mcheck_any w1 A k l a b h hl)
  have HR := Lib.hid (show isRes l a b = if (mcheck l a b).1 ≠ 0 then (false, mcheck l a b) else (Hs.reach l b.toNat a.toNat, (0, 0)) from rfl)
  have HM := Lib.hid (mcheck_cases l a b)
  go_enter Try.func27, Try.ntmps27
  go_wp2_with fail
  go_at_call 54
  refine (HC.out _ (hv.alloc _)).mono ?_
  rintro e w1 ⟨rfl, hb1⟩
  have hblk := (Blk.new w 26 #[.int .i64 0, .int .i64 0]).below hb1 (by simp)
  have hbel := (below_alloc1 w (.cells #[.int .i64 0, .int .i64 0] 26)).trans (hb1.mono (by simp))
  have hsz := hbel.size
  have hlt := hblk.lt
  have hc0 := hblk.cell 0
  have hc1 := hblk.cell 1
  have hf0 := hblk.frozen 0
  have hf1 := hblk.frozen 1
  simp only [List.getElem?_toArray, List.getElem?_cons_zero, List.getElem?_cons_succ] at hc0 hc1
  clear hb1 HC
  rcases HM.out with hbad | ⟨hok, he, m, n, rfl, rfl, hm, hn⟩
  · have H := Lib.hid (show isRes l a b = (false, mcheck l a b) from by rw [HR.out, if_pos hbad])
    have h1 : ((mcheck l a b).1 == 0) = false := by simpa using hbad
    have h2 : ((mcheck l a b).1 != 0) = true := by simpa using hbad
    clear hbad HM HR
    generalize mcheck l a b = r at *
    obtain ⟨c, i⟩ := r
    simp only at h1 h2
    go_wp2_with fail
    go_region
    all_goals
      go_wp2_with fail
      refine bodyPost_ret (results_tc rfl _ _ w.heap.size (.int .i64 c) (.int .i64 i) rfl (((blk_put26 hblk _ _).alloc _).drewN 1)) rfl ?_
      rw [H.out]
      exact ⟨rfl, below_drewN (((hbel.setCell (by simp) _).setCell (by simp) _).alloc (by simp; omega) _) 1⟩
  · have H := Lib.hid (show isRes l m n = (Hs.reach l n m, (0, 0)) from by rw [HR.out, he]; simp)
    rw [he]
    clear HM HR he
    have hbel1 := (hbel.alloc hsz (.cells #[.int .i64 0, .int .i64 0] 26)).alloc (by simp; omega) (.cells #[.int .i64 (n : Int)] 3)
    have hcv := hv.below hbel1
    have hlit := lit_ints (w1.alloc (.cells #[.int .i64 0, .int .i64 0] 26)) [(n : Int)] 3 _ rfl
    have hmi : (m : Int) < l.length := by omega
    rw [World.size_alloc] at hlit
    have HCALL := Lib.hid (of_single _ A _ k l n hcv hok hn hlit)
    clear hcv hlit
    go_wp2_with fail
    go_at_call 50
    refine HCALL.out.mono ?_
    rintro e w2 ⟨g, rfl, hg, hrow, hb2⟩
    have hbel2 := hbel1.trans (hb2.mono hbel1.size)
    have hblk2 := ((hblk.alloc (.cells #[.int .i64 0, .int .i64 0] 26)).alloc (.cells #[.int .i64 (n : Int)] 3)).below hb2 (by simp; omega)
    have d0 := hblk2.cell 0
    have d1 := hblk2.cell 1
    have e0 := hblk2.frozen 0
    have e1 := hblk2.frozen 1
    have hlt2 := hblk2.lt
    simp only [List.getElem?_toArray, List.getElem?_cons_zero, List.getElem?_cons_succ] at d0 d1
    have hcm := blk_tabB hrow m hm
    clear hbel1 hb2 HCALL
    go_wp2_with fail
    refine bodyPost_ret (results_tc rfl _ _ w.heap.size (.int .i64 0) (.int .i64 0) rfl (blk_put26 hblk2 _ _)) rfl ?_
    rw [H.out]
    exact ⟨rfl, (hbel2.setCell (by simp) _).setCell (by simp) _⟩

def basesRes (l : List Hs.Cm) (a b : Int) : List Int × (Int × Int) := if (mcheck l a b).1 ≠ 0 then ([], mcheck l a b) else (Hs.ints (Hs.best l [a.toNat, b.toNat]), (0, 0))

set_option maxRecDepth 100000 in
set_option maxHeartbeats 4000000 in
theorem bases_any (w : World) (A : Option Addr) (k : Nat) (l : List Hs.Cm) (a b : Int) (hv : CV w A l) (hl : l.length ≤ 9223372036854775807) :
    Calls Try.prog 28 #[.slice A l.length k, .int .i64 a, .int .i64 b] w (IRes w (basesRes l a b)) := by
  have HC := Lib.hid (fun w1 h => mcheck_any w1 A k l a b h hl)
  have HR := Lib.hid (show basesRes l a b = if (mcheck l a b).1 ≠ 0 then ([], mcheck l a b) else (Hs.ints (Hs.best l [a.toNat, b.toNat]), (0, 0)) from rfl)
  have HM := Lib.hid (mcheck_cases l a b)
  go_enter Try.func28, Try.ntmps28
  go_wp2_with fail
  go_at_call 54
  refine (HC.out _ (hv.alloc _)).mono ?_
  rintro e w1 ⟨rfl, hb1⟩
  have hblk := (Blk.new w 26 #[.int .i64 0, .int .i64 0]).below hb1 (by simp)
  have hbel := (below_alloc1 w (.cells #[.int .i64 0, .int .i64 0] 26)).trans (hb1.mono (by simp))
  have hsz := hbel.size
  have hlt := hblk.lt
  have hc0 := hblk.cell 0
  have hc1 := hblk.cell 1
  have hf0 := hblk.frozen 0
  have hf1 := hblk.frozen 1
  simp only [List.getElem?_toArray, List.getElem?_cons_zero, List.getElem?_cons_succ] at hc0 hc1
  clear hb1 HC
  rcases HM.out with hbad | ⟨hok, he, m, n, rfl, rfl, hm, hn⟩
  · have H := Lib.hid (show basesRes l a b = ([], mcheck l a b) from by rw [HR.out, if_pos hbad])
    have h1 : ((mcheck l a b).1 == 0) = false := by simpa using hbad
    have h2 : ((mcheck l a b).1 != 0) = true := by simpa using hbad
    clear hbad HM HR
    generalize mcheck l a b = r at *
    obtain ⟨c, i⟩ := r
    simp only at h1 h2
    go_wp2_with fail
    go_region
    all_goals
      go_wp2_with fail
      refine bodyPost_ret (results_tc rfl _ _ w.heap.size (.int .i64 c) (.int .i64 i) rfl (((blk_put26 hblk _ _).alloc _).drewN 1)) rfl ?_
      rw [H.out]
      exact IRes.of_none ⟨rfl, below_drewN (((hbel.setCell (by simp) _).setCell (by simp) _).alloc (by simp; omega) _) 1⟩
  · have H := Lib.hid (show basesRes l m n = (Hs.ints (Hs.best l [m, n]), (0, 0)) from by rw [HR.out, he]; simp)
    rw [he]
    clear HM HR he
    have hbel1 := (hbel.alloc hsz (.cells #[.int .i64 0, .int .i64 0] 26)).alloc (by simp; omega) (.cells #[.int .i64 (m : Int), .int .i64 (n : Int)] 3)
    have hcv := hv.below hbel1
    have hlit := lit_ints (w1.alloc (.cells #[.int .i64 0, .int .i64 0] 26)) [(m : Int), (n : Int)] 3 _ rfl
    rw [World.size_alloc] at hlit
    have HCALL := Lib.hid (best_any _ A _ k 2 l [m, n] hcv hok hlit (by simp; omega) (by simp))
    clear hcv hlit
    go_wp2_with fail
    go_at_call 55
    refine HCALL.out.mono ?_
    generalize Hs.ints (Hs.best l [m, n]) = xs at *
    rintro e w2 ⟨A2, c2, rfl, hc2, hv2, hfr2, hb2⟩
    have hbel2 := hbel1.trans (hb2.mono hbel1.size)
    have hblk2 := ((hblk.alloc (.cells #[.int .i64 0, .int .i64 0] 26)).alloc (.cells #[.int .i64 (m : Int), .int .i64 (n : Int)] 3)).below hb2 (by simp; omega)
    have d0 := hblk2.cell 0
    have d1 := hblk2.cell 1
    have e0 := hblk2.frozen 0
    have e1 := hblk2.frozen 1
    have hlt2 := hblk2.lt
    simp only [List.getElem?_toArray, List.getElem?_cons_zero, List.getElem?_cons_succ] at d0 d1
    have HFR := Lib.hid hfr2
    clear hbel1 hb2 HCALL hfr2
    go_wp2_with fail
    refine bodyPost_ret (results_tc rfl _ _ w.heap.size (.int .i64 0) (.int .i64 0) rfl (blk_put26 hblk2 _ _)) rfl ?_
    rw [H.out]
    exact ⟨A2, c2, rfl, hc2, (hv2.setLow HFR.out (by simp; omega) _).setLow HFR.out (by simp; omega) _, (hbel2.setCell (by simp) _).setCell (by simp) _⟩
end Go.Proofs.Ytoohmkdgimkgoaa
