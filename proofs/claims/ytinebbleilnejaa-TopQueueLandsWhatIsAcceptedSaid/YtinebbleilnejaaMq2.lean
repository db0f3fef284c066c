/-
  The merge queue: walk of batchbisect.Validate.
-/
import Derived.Test.YtinebbleilnejaaMq1
namespace Mq
/-- Valid sets of culprits. -/
def VOk (n : Int) (cu : List (List Int)) : Prop := (0 ≤ n ∧ n ≤ 16) ∧ cu.length ≤ 8 ∧ ∀ (i : Nat) (h : i < cu.length), cu[i].length ≠ 0 ∧ LOk n cu[i]
end Mq
namespace Go.Proofs.Ytinebbleilnejaa
open Go.RowKit Go.V
set_option linter.unusedVariables false
/-- What Validate tells. -/
def VaPost (w : World) (n : Int) (cu : List (List Int)) (e : Ending) (w' : World) : Prop :=
  (∃ c ix : Int, e = .returned (.agg #[.int .i64 c, .int .i64 ix]) ∧ (c = 0 ∧ ix = 0 ∧ Mq.VOk n cu ∨ c ≠ 0 ∧ ¬ Mq.VOk n cu)) ∧ Below w.heap.size w w'
set_option maxRecDepth 100000 in
set_option maxHeartbeats 8000000 in
theorem validate_any (w : World) (A : Option Addr) (k : Nat) (cu : List (List Int)) (n : Int) (hv : CuV w A cu) (hl : cu.length ≤ 9223372036854775807) :
    Calls Try.prog 11 #[.int .i64 n, .slice A cu.length k] w (VaPost w n cu) := by
  have HV := Lib.hid (fun (w1 : World) (hb : Below w.heap.size w w1) (i : Nat) (hi : i < cu.length) => (hv.below hb).row i hi)
  have b0 := Blk.new w 26 #[.int .i64 0, .int .i64 0]
  have hb0 := below_alloc1 w (.cells #[.int .i64 0, .int .i64 0] 26)
  clear hv
  have HBAD := Lib.hid (fun (W : World) (c ix : Int) (hc : c ≠ 0) (hn : ¬ Mq.VOk n cu) (hb : Below w.heap.size w W) => (show VaPost w n cu (.returned (.agg #[.int .i64 c, .int .i64 ix])) W from ⟨⟨c, ix, rfl, .inr ⟨hc, hn⟩⟩, hb⟩))
  by_cases hn0 : n < 0
  · have HN := Lib.hid (show ¬ Mq.VOk n cu from fun h => by have := h.1.1; omega)
    go_enter Try.func11, Try.ntmps11
    go_wp2_with fail
    exact bodyPost_ret (results_c rfl _ _ w.heap.size (.int .i64 3) (.int .i64 (-1)) rfl (Blk.new _ _ _)) rfl (HBAD.out _ 3 (-1) (by omega) HN.out (below_alloc1 _ _))
  · by_cases hn1 : 16 < n
    · have HN := Lib.hid (show ¬ Mq.VOk n cu from fun h => by have := h.1.2; omega)
      go_enter Try.func11, Try.ntmps11
      go_wp2_with fail
      exact bodyPost_ret (results_c rfl _ _ w.heap.size (.int .i64 3) (.int .i64 (-1)) rfl (Blk.new _ _ _)) rfl (HBAD.out _ 3 (-1) (by omega) HN.out (below_alloc1 _ _))
    · by_cases h8 : 8 < cu.length
      · have h8' : (8 : Int) < cu.length := by omega
        have HN := Lib.hid (show ¬ Mq.VOk n cu from fun h => by have := h.2.1; omega)
        go_enter Try.func11, Try.ntmps11
        go_wp2_with fail
        exact bodyPost_ret (results_c rfl _ _ w.heap.size (.int .i64 2) (.int .i64 (-1)) rfl (Blk.new _ _ _)) rfl (HBAD.out _ 2 (-1) (by omega) HN.out (below_alloc1 _ _))
      · have h8' : ¬ (8 : Int) < cu.length := by omega
        go_enter Try.func11, Try.ntmps11
        go_wp2_with fail
        go_loopw [21] (fun iv wr => ∃ i : Nat, i ≤ cu.length ∧ iv = .int .i64 i ∧ w.alloc (.cells #[.int .i64 0, .int .i64 0] 26) = wr ∧ Hid (∀ (j : Nat) (h : j < cu.length), j < i → cu[j].length ≠ 0 ∧ Mq.LOk n cu[j])) (fun iv _ => cu.length - (intOf iv).toNat)
        case atStart => exact ⟨0, Nat.zero_le _, rfl, rfl, Lib.hid (fun j _ h => by omega)⟩
        case round =>
          obtain ⟨i, hi, rfl, rfl, H⟩ := hrel
          have q0 := (b0.cell 0).trans rfl
          have q1 := (b0.cell 1).trans rfl
          have f0 := b0.frozen 0
          have f1 := b0.frozen 1
          have l1 := b0.lt
          generalize (w.alloc (.cells #[.int .i64 0, .int .i64 0] 26)) = wq at *
          by_cases hlt : i < cu.length
          · have hlt' : (i : Int) < cu.length := by omega
            obtain ⟨b, off, Ap, kp, e, hb, d0, hnl, hiv⟩ := HV.out _ hb0 i hlt
            subst e
            have HN : Hid (cu[i].length ≠ 0 ∧ Mq.LOk n cu[i] → ∀ (j : Nat) (h : j < cu.length), j < i + 1 → cu[j].length ≠ 0 ∧ Mq.LOk n cu[j]) := Lib.hid (fun hq j h hj => by
              by_cases e : j = i
              · subst e; exact hq
              · exact H.out j h (by omega))
            have HB : Hid (¬ (cu[i].length ≠ 0 ∧ Mq.LOk n cu[i]) → ¬ Mq.VOk n cu) := Lib.hid (fun hq hok => hq (hok.2.2 i hlt))
            generalize cu[i] = s at *
            have HLI := Lib.hid (list_any wq Ap kp s n hiv hnl)
            clear hiv H HV
            go_wp2_with fail
            go_at_call 16
            with_reducible refine HLI.out.mono ?_
            rintro e w' ⟨⟨c, rfl, hc⟩, hw⟩
            subst hw
            have HC := Lib.hid hc
            clear hc HLI
            by_cases hs0 : s.length = 0
            · have HB2 := Lib.hid (HB.out (fun h => h.1 hs0))
              have hs1 : (s.length : Int) = 0 := by omega
              clear HN HB HC
              go_wp2_with fail
              exact bodyPost_ret (results_c rfl _ _ w.heap.size (.int .i64 9) (.int .i64 (i : Int)) rfl (blk_put26 b0 _ _)) rfl (HBAD.out _ 9 _ (by omega) HB2.out (below_put26 hb0 (Nat.le_refl _) _ _))
            · have hs1 : ¬ (s.length : Int) = 0 := by omega
              have hs2 : ((s.length : Int) == 0) = false := by simpa using hs1
              by_cases hc0 : c = 0
              · have HN2 := Lib.hid (HN.out ⟨hs0, HC.out.elim (fun h => h.2) (fun h => absurd hc0 h.1)⟩)
                subst hc0
                clear HN HB HC
                go_wp2_with fail
                go_roundw
                case rel => exact ⟨i + 1, by omega, by go_num, (by first | exact rfl | trivial), HN2⟩
                case measure => simp [intOf]; omega
              · have HB2 := Lib.hid (HB.out (fun h => HC.out.elim (fun h2 => hc0 h2.1) (fun h2 => h2.2 h.2)))
                have hc1 : (c != 0) = true := by simpa using hc0
                have HF := Lib.hid (fun (W : World) (hb : Below w.heap.size w W) => HBAD.out W c (i : Int) hc0 HB2.out hb)
                clear HN HB HC hc0
                go_wp2_with fail
                exact bodyPost_ret (results_c rfl _ _ w.heap.size (.int .i64 c) (.int .i64 (i : Int)) rfl (blk_put26 b0 _ _)) rfl (HF.out _ (below_put26 hb0 (Nat.le_refl _) _ _))
          · obtain rfl : i = cu.length := by omega
            have HG := Lib.hid (show Mq.VOk n cu from ⟨⟨by omega, by omega⟩, by omega, fun j h => H.out j h h⟩)
            go_wp2_with fail
            exact bodyPost_ret (results_c rfl _ _ w.heap.size (.int .i64 0) (.int .i64 0) rfl (blk_put26 b0 _ _)) rfl ⟨⟨0, 0, rfl, .inl ⟨rfl, rfl, HG.out⟩⟩, below_put26 hb0 (Nat.le_refl _) _ _⟩
end Go.Proofs.Ytinebbleilnejaa
