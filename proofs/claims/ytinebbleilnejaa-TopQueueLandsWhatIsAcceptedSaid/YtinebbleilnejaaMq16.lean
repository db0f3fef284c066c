/-
  The merge queue: walk of speculate.Decide at the example.
-/
import Derived.Test.YtinebbleilnejaaMq5
namespace Go.Proofs.Ytinebbleilnejaa
open Go.RowKit Go.V
set_option linter.unusedVariables false
theorem f38e (w : World) : Calls Try.prog 38 #[.slice none 0 0, .slice none 0 0] w fun e w' => e = .returned (.bool true) ∧ w = w' := by
  go_enter Try.func38, Try.ntmps38
  go_wp2_with fail
  go_loopw [13] (fun iv wr => iv = .int .i64 0 ∧ w = wr) (fun _ _ => 0)
  case atStart => exact ⟨rfl, rfl⟩
  case round =>
    obtain ⟨rfl, rfl⟩ := hrel
    go_wp2_with fail
    go_ret
    exact ⟨rfl, rfl⟩
theorem f23e (w : World) : Calls Try.prog 23 #[.agg #[.int .i64 0, .slice none 0 0], .agg #[.int .i64 0, .slice none 0 0]] w fun e w' => e = .returned (.bool true) ∧ Below w.heap.size w w' := by
  have hb : Below w.heap.size w ((w.alloc (.cells #[.int .i64 0, .slice none 0 0] 47)).alloc (.cells #[.int .i64 0, .slice none 0 0] 47)) := (below_alloc1 w _).alloc (by simp) _
  have HC := Lib.hid (f38e ((w.alloc (.cells #[.int .i64 0, .slice none 0 0] 47)).alloc (.cells #[.int .i64 0, .slice none 0 0] 47)))
  go_enter Try.func23, Try.ntmps23
  go_wp2_with (first | (go_at_call 38; with_reducible refine HC.out.mono ?_; rintro e w' ⟨rfl, rfl⟩) | (with_reducible refine HC.out.mono ?_; rintro e w' ⟨rfl, rfl⟩))
  go_ret
  exact ⟨rfl, hb⟩
theorem f35e (w : World) : Calls Try.prog 35 #[.int .i64 1, .agg #[.int .i64 0, .slice none 0 0]] w fun e w' => e = .returned (.int .i64 0) ∧ w.alloc (.cells #[.int .i64 0, .slice none 0 0] 47) = w' := by
  go_enter Try.func35, Try.ntmps35
  go_wp2_with fail
  go_loopw [19] (fun iv wr => iv = .int .i64 0 ∧ w.alloc (.cells #[.int .i64 0, .slice none 0 0] 47) = wr) (fun _ _ => 0)
  case atStart => exact ⟨rfl, rfl⟩
  case round =>
    obtain ⟨rfl, rfl⟩ := hrel
    go_wp2_with fail
    go_ret
    exact ⟨rfl, rfl⟩
theorem f21n (w : World) (A : Option Addr) (c : Nat) (fv : Value) : Calls Try.prog 21 #[.slice A 0 c, fv] w fun e w' => e = .returned (.int .i64 (-1)) ∧ w = w' := by
  go_enter Try.func21, Try.ntmps21
  go_wp2_with fail
  go_loopw [8] (fun iv wr => iv = .int .i64 0 ∧ w = wr) (fun _ _ => 0)
  case atStart => exact ⟨rfl, rfl⟩
  case round =>
    obtain ⟨rfl, rfl⟩ := hrel
    go_wp2_with fail
    go_ret
    exact ⟨rfl, rfl⟩
theorem f36n (w : World) (A : Option Addr) (c : Nat) (fv : Value) : Calls Try.prog 36 #[.slice A 0 c, fv] w fun e w' => e = .returned (.bool false) ∧ w = w' := by
  have HC := Lib.hid (f21n w A c fv)
  go_enter Try.func36, Try.ntmps36
  go_wp2_with fail
  go_at_call 21
  with_reducible refine HC.out.mono ?_
  rintro e w' ⟨rfl, rfl⟩
  go_wp2_with fail
  go_ret
  exact ⟨rfl, rfl⟩
theorem f22e (w : World) (a : Nat) (h0 : w.cell? ⟨a, 0, none⟩ = some (.int .i64 0)) (h1 : w.cell? ⟨a, 1, none⟩ = some (.slice none 0 0)) (ha : a < w.heap.size) :
    Calls Try.prog 22 #[.agg #[.int .i64 0, .slice none 0 0, .bool true], .pointer (some ⟨a, 0, none⟩)] w fun e w' => e = .returned (.bool true) ∧ Below w.heap.size w w' := by
  have hb := below_alloc1 w (.cells #[.int .i64 0, .slice none 0 0, .bool true] 49)
  have HC := Lib.hid (f23e (w.alloc (.cells #[.int .i64 0, .slice none 0 0, .bool true] 49)))
  go_enter Try.func22, Try.ntmps22
  go_wp2_with fail
  go_at_call 23
  with_reducible refine HC.out.mono ?_
  rintro e w' ⟨rfl, hb2⟩
  go_wp2_with fail
  go_ret
  exact ⟨rfl, hb.trans (hb2.mono hb.size)⟩
theorem f21e (w : World) (a g : Nat) (fv : Value) (hfv : fv = .func (.func 22) #[] #[.pointer (some ⟨a, 0, none⟩)]) (h0 : w.cell? ⟨a, 0, none⟩ = some (.int .i64 0)) (h1 : w.cell? ⟨a, 1, none⟩ = some (.slice none 0 0)) (ha : a < w.heap.size)
    (d0 : w.cell? ⟨g, 0, none⟩ = some (.int .i64 0)) (d1 : w.cell? ⟨g, 1, none⟩ = some (.slice none 0 0)) (d2 : w.cell? ⟨g, 2, none⟩ = some (.bool true)) :
    Calls Try.prog 21 #[.slice (some ⟨g, 0, none⟩) 1 1, fv] w fun e w' => e = .returned (.int .i64 0) ∧ Below w.heap.size w w' := by
  have HC := Lib.hid (f22e w a h0 h1 ha)
  subst hfv
  clear h0 h1
  go_enter Try.func21, Try.ntmps21
  go_wp2_with fail
  go_loopw [8] (fun iv wr => iv = .int .i64 0 ∧ w = wr) (fun _ _ => 0)
  case atStart => exact ⟨rfl, rfl⟩
  case round =>
    obtain ⟨rfl, rfl⟩ := hrel
    go_wp2_with (first | (go_at_call 22; with_reducible refine HC.out.mono ?_; rintro e w' ⟨rfl, hb2⟩))
    go_ret
    exact ⟨rfl, hb2⟩
set_option maxRecDepth 100000 in
set_option maxHeartbeats 4000000 in
theorem f20e (w : World) (g : Nat) (hg : g < w.heap.size) (d0 : w.cell? ⟨g, 0, none⟩ = some (.int .i64 0)) (d1 : w.cell? ⟨g, 1, none⟩ = some (.slice none 0 0)) (d2 : w.cell? ⟨g, 2, none⟩ = some (.bool true)) :
    Calls Try.prog 20 #[.int .i64 1, .slice (some ⟨g, 0, none⟩) 1 1] w fun e w' => e = .returned (.agg #[.int .i64 0, .int .i64 0]) ∧ Below w.heap.size w w' := by
  have hb0 := below_alloc1 w (.cells #[.int .i64 0, .int .i64 0] 26)
  have b0 := Blk.new w 26 #[.int .i64 0, .int .i64 0]
  have e0 := (hb0.cell (p := ⟨g, 0, none⟩) hg).trans d0
  have e1 := (hb0.cell (p := ⟨g, 1, none⟩) hg).trans d1
  have e2 := (hb0.cell (p := ⟨g, 2, none⟩) hg).trans d2
  have HC := Lib.hid (fun (W : World) => f35e W)
  have HN := Lib.hid (fun (W : World) A c fv => f36n W A c fv)
  go_enter Try.func20, Try.ntmps20
  go_wp2_with fail
  go_loopw [21] (fun iv wr => ∃ i : Nat, i ≤ 1 ∧ iv = .int .i64 i ∧ Blk wr w.heap.size 26 #[.int .i64 0, .int .i64 0] ∧ Below w.heap.size w wr) (fun iv _ => 1 - (intOf iv).toNat)
  case atStart => exact ⟨0, by omega, rfl, b0, hb0⟩
  case round =>
    obtain ⟨i, hi, rfl, bF, hb⟩ := hrel
    obtain ⟨wo, rfl⟩ : ∃ wo : World, wo = wr := ⟨_, rfl⟩
    by_cases hlt : i = 0
    · obtain rfl := hlt
      clear e0 e1 e2 b0 hb0
      have c0 := (hb.cell (p := ⟨g, 0, none⟩) hg).trans d0
      have c1 := (hb.cell (p := ⟨g, 1, none⟩) hg).trans d1
      have c2 := (hb.cell (p := ⟨g, 2, none⟩) hg).trans d2
      have hal := below_alloc1 wo (.cells #[.int .i64 0, .slice none 0 0, .bool true] 49)
      clear d0 d1 d2
      go_wp2_with fail
      go_at_call 35
      with_reducible refine (HC.out _).mono ?_
      rintro e w1 ⟨rfl, rfl⟩
      go_wp2_with fail
      go_at_call 36
      with_reducible refine (HN.out _ _ _ _).mono ?_
      rintro e w2 ⟨rfl, rfl⟩
      have hb2 := (hb.trans (hal.mono hb.size)).alloc (by have := (hb.trans (hal.mono hb.size)).size; exact this) (.cells #[.int .i64 0, .slice none 0 0] 47)
      go_wp2_with fail
      go_roundw
      case rel => exact ⟨1, by omega, rfl, (bF.alloc _).alloc _, hb2⟩
      case measure => simp [intOf]
    · obtain rfl : i = 1 := by omega
      have q0 := (bF.cell 0).trans rfl
      have q1 := (bF.cell 1).trans rfl
      have f0 := bF.frozen 0
      have f1 := bF.frozen 1
      have l1 := bF.lt
      go_wp2_with fail
      refine bodyPost_ret (results_c rfl _ _ w.heap.size (.int .i64 0) (.int .i64 0) rfl (blk_put26 bF _ _)) rfl ?_
      exact ⟨rfl, below_put26 hb (Nat.le_refl _) _ _⟩
end Go.Proofs.Ytinebbleilnejaa
