/-
  Digests: walks of next, pair, is, Pair, DigestPair.
-/
import Derived.Test.YtoohmkdgimkgoaaDg1
import Derived.Test.YtoohmkdgimkgoaaW2
import Derived.RegionTactic
import Derived.BigRegion
import Derived.BigQuiet
namespace Go.Proofs.Ytoohmkdgimkgoaa
open Go.RowKit Go.V
set_option linter.unusedVariables false

set_option maxHeartbeats 4000000 in
theorem next_any (w : World) (a c f : Nat) (ha : a < 2305843009213693951) (hc : c ≤ 2305843009213693951) (hf : f < 4611686018427387904) :
    Calls Try.prog 64 #[.agg #[.int .i64 a, .int .i64 c], .int .i64 f] w fun e w' => e = .returned (.int .i64 (((a * f % Dg.M + c) % Dg.M : Nat) : Int)) ∧ Below w.heap.size w w' := by
  have hr : (a * f % Dg.M + c) % Dg.M = (a * f % Dg.M + c) % 2305843009213693951 := rfl
  have hlt : a * f % Dg.M < 2305843009213693951 := Nat.mod_lt _ (by decide)
  have HM := Lib.hid (fun w1 => mul_any w1 a f ha hf)
  generalize (a * f % Dg.M + c) % Dg.M = r at *
  generalize a * f % Dg.M = q at *
  have HR := Lib.hid hr
  clear hr
  go_enter Try.func64, Try.ntmps64
  go_wp2_with fail
  go_quiet ((go_at_call 69; exact (HM.out _).mono fun e w2 h => ⟨h.1, _, h.2.symm⟩))
  go_wp2_with fail
  go_ret
  have := HR.out
  exact ⟨congrArg (fun z => Ending.returned (.int .i64 z)) (by omega), below_drewN (below_alloc1 _ _) _⟩
theorem pair_any (w : World) (a b : Nat) (ha : a < 2305843009213693951) (hb : b < 2305843009213693951) :
    Calls Try.prog 66 #[.int .i64 a, .int .i64 b] w fun e w' => e = .returned (.int .i64 ((Dg.pairD a b : Nat) : Int)) ∧ Below w.heap.size w w' := by
  have hlt : (b * 31 % Dg.M + 7) % Dg.M ≤ 2305843009213693951 := Nat.le_of_lt (Nat.mod_lt _ (by decide))
  have h1 := fun w1 => next_any w1 b 7 31 hb (by decide) (by decide)
  have h2 := fun w1 => next_any w1 a ((b * 31 % Dg.M + 7) % Dg.M) 1000003 ha hlt (by decide)
  rw [Dg.pair_prog] at h2
  generalize (b * 31 % Dg.M + 7) % Dg.M = q at *
  generalize Dg.pairD a b = r at *
  have H1 := Lib.hid h1
  have H2 := Lib.hid h2
  clear h1 h2 hlt
  go_enter Try.func66, Try.ntmps66
  go_wp2_with fail
  go_at_call 64
  refine (H1.out _).mono ?_
  rintro e w1 ⟨rfl, hb1⟩
  go_wp2_with fail
  go_at_call 64
  refine (H2.out _).mono ?_
  rintro e w2 ⟨rfl, hb2⟩
  go_wp2_with fail
  go_ret
  exact ⟨rfl, hb1.trans (hb2.mono hb1.size)⟩
theorem isd_any (w : World) (a : Nat) (ha : a < 2305843009213693951) :
    Calls Try.prog 65 #[.int .i64 a] w fun e w' => e = .returned (.bool true) ∧ w = w' := by
  have h1 : (a : Int) < 2305843009213693951 := by omega
  have h2 : decide ((a : Int) < 2305843009213693951) = true := by simpa using h1
  go_enter Try.func65, Try.ntmps65
  go_wp2_with fail
  go_ret
  exact ⟨rfl, rfl⟩
theorem pairf_any (w : World) (a b : Nat) (ha : a < 2305843009213693951) (hb : b < 2305843009213693951) :
    Calls Try.prog 60 #[.int .i64 a, .int .i64 b] w fun e w' => e = .returned (.tuple #[.int .i64 ((Dg.pairD a b : Nat) : Int), .agg #[.int .i64 0, .int .i64 0]]) ∧ Below w.heap.size w w' := by
  have HP := Lib.hid (fun w1 => pair_any w1 a b ha hb)
  have HA := Lib.hid (fun w1 => isd_any w1 a ha)
  have HB := Lib.hid (fun w1 => isd_any w1 b hb)
  generalize Dg.pairD a b = r at *
  have ix0 : ∀ W, (Instr.index 81 (.agg #[.int .i64 a, .int .i64 b]) (.int .i64 0)).run Try.prog W = .ok (.int .i64 a) W := fun _ => by kernel_rfl
  have ix1 : ∀ W, (Instr.index 81 (.agg #[.int .i64 a, .int .i64 b]) (.int .i64 1)).run Try.prog W = .ok (.int .i64 b) W := fun _ => by kernel_rfl
  go_enter Try.func60, Try.ntmps60
  go_wp2_with fail
  go_loop [11] (fun v => v = .int .i64 0 ∨ v = .int .i64 1 ∨ v = .int .i64 2) (fun v => 2 - (intOf v).toNat)
  case atStart => exact .inl rfl
  case round =>
    rcases hrel with rfl | rfl | rfl
    · go_wp2_with fail
      go_at_call 65
      refine (HA.out _).mono ?_
      rintro e w' ⟨rfl, rfl⟩
      go_wp2_with fail
      go_round
      case rel => exact .inr (.inl rfl)
      case measure => decide
    · go_wp2_with fail
      go_at_call 65
      refine (HB.out _).mono ?_
      rintro e w' ⟨rfl, rfl⟩
      go_wp2_with fail
      go_round
      case rel => exact .inr (.inr rfl)
      case measure => decide
    · go_wp2_with fail
      go_at_call 66
      refine (HP.out _).mono ?_
      rintro e w2 ⟨rfl, hb2⟩
      have hblk := (Blk.new w 26 #[.int .i64 0, .int .i64 0]).below hb2 (by simp)
      have hbel := (below_alloc1 w (.cells #[.int .i64 0, .int .i64 0] 26)).trans (hb2.mono (by simp))
      have d0 := hblk.cell 0
      have d1 := hblk.cell 1
      have e0 := hblk.frozen 0
      have e1 := hblk.frozen 1
      have hlt := hblk.lt
      simp only [List.getElem?_toArray, List.getElem?_cons_zero, List.getElem?_cons_succ] at d0 d1
      go_wp2_with fail
      refine bodyPost_ret (results_tc rfl _ _ w.heap.size (.int .i64 0) (.int .i64 0) rfl (blk_put26 hblk _ _)) rfl ?_
      exact ⟨rfl, (hbel.setCell (by simp) _).setCell (by simp) _⟩
theorem dpair_any (w : World) (a b : Nat) (ha : a < 2305843009213693951) (hb : b < 2305843009213693951) :
    Calls Try.prog 61 #[.int .i64 a, .int .i64 b] w fun e w' => e = .returned (.int .i64 ((Dg.pairD a b : Nat) : Int)) ∧ w = w' := by
  have h1 := fun w1 => times_any w1 a 1000003 ha (by decide)
  have h2 := fun w1 => times_any w1 b 31 hb (by decide)
  have hl1 : a * 1000003 % Dg.M < 2305843009213693951 := Nat.mod_lt _ (by decide)
  have hl2 : b * 31 % Dg.M < 2305843009213693951 := Nat.mod_lt _ (by decide)
  have hr := Dg.pair_ref a b
  generalize a * 1000003 % Dg.M = p at *
  generalize b * 31 % Dg.M = q at *
  generalize Dg.pairD a b = r at *
  have hr' : ((p + q) % 2305843009213693951 + 7) % 2305843009213693951 = r := hr
  have HR := Lib.hid hr'
  have H1 := Lib.hid h1
  have H2 := Lib.hid h2
  clear h1 h2 hr hr'
  go_enter Try.func61, Try.ntmps61
  go_wp2_with fail
  go_at_call 67
  refine (H1.out _).mono ?_
  rintro e w1 ⟨rfl, rfl⟩
  go_wp2_with fail
  go_at_call 67
  refine (H2.out _).mono ?_
  rintro e w1 ⟨rfl, rfl⟩
  go_wp2_with fail
  go_ret
  have := HR.out
  exact ⟨congrArg (fun z => Ending.returned (.int .i64 z)) (by omega), rfl⟩
end Go.Proofs.Ytoohmkdgimkgoaa
