/-
  Histories: walks of the comparisons of the reference, 'Has', and 'children'.
-/
import Derived.Test.YtebohncdhhikkaaW2
import Derived.RegionTactic
import Derived.BigRegion
namespace Go.Proofs.Ytebohncdhhikkaa
open Go.RowKit Go.V
set_option linter.unusedVariables false

set_option maxHeartbeats 1600000 in
/-- 'Bools' of two readings of one list. -/
theorem bools_any (w : World) (A1 A2 : Option Addr) (c1 c2 : Nat) (l : List Bool) (h1 : BV w A1 l) (h2 : BV w A2 l) (hl : l.length ≤ 9223372036854775807) :
    Calls Try.prog 15 #[.slice A1 l.length c1, .slice A2 l.length c2] w fun e w' => e = .returned (.bool true) ∧ ∃ n, w' = w.drewN n := by
  go_enter Try.func15, Try.ntmps15
  go_wp2_with fail
  go_loopw [5] (fun k wr => ∃ i : Nat, i ≤ l.length ∧ k = .int .i64 i ∧ ∃ n, wr = w.drewN n) (fun k _ => l.length - (intOf k).toNat)
  case atStart => exact ⟨0, Nat.zero_le _, rfl, 0, rfl⟩
  case round =>
    obtain ⟨i, hi, rfl, n, rfl⟩ := hrel
    by_cases hlt : i < l.length
    · obtain ⟨b1, o1, rfl, _, x1⟩ := h1.at_ i hlt
      obtain ⟨b2, o2, rfl, _, x2⟩ := h2.at_ i hlt
      have hlt' : (i : Int) < l.length := by omega
      generalize l[i] = o at *
      go_wp2_with fail
      go_quiet (fail)
      go_wp2
      go_roundw
      case rel => exact ⟨i + 1, by omega, by go_num, _, rfl⟩
      case measure => simp [intOf]; omega
    · obtain rfl : i = l.length := by omega
      go_wp2
      go_ret
      exact ⟨rfl, _, rfl⟩

set_option maxHeartbeats 1600000 in
theorem ints_any (w : World) (A1 A2 : Option Addr) (c1 c2 : Nat) (l : List Int) (h1 : IV w A1 l) (h2 : IV w A2 l) (hl : l.length ≤ 9223372036854775807) :
    Calls Try.prog 13 #[.slice A1 l.length c1, .slice A2 l.length c2] w fun e w' => e = .returned (.bool true) ∧ ∃ n, w' = w.drewN n := by
  go_enter Try.func13, Try.ntmps13
  go_wp2_with fail
  go_loopw [5] (fun k wr => ∃ i : Nat, i ≤ l.length ∧ k = .int .i64 i ∧ ∃ n, wr = w.drewN n) (fun k _ => l.length - (intOf k).toNat)
  case atStart => exact ⟨0, Nat.zero_le _, rfl, 0, rfl⟩
  case round =>
    obtain ⟨i, hi, rfl, n, rfl⟩ := hrel
    by_cases hlt : i < l.length
    · obtain ⟨b1, o1, rfl, _, x1⟩ := h1.at_ i hlt
      obtain ⟨b2, o2, rfl, _, x2⟩ := h2.at_ i hlt
      have hlt' : (i : Int) < l.length := by omega
      generalize l[i] = o at *
      go_wp2_with fail
      go_quiet (fail)
      go_wp2
      go_roundw
      case rel => exact ⟨i + 1, by omega, by go_num, _, rfl⟩
      case measure => simp [intOf]; omega
    · obtain rfl : i = l.length := by omega
      go_wp2
      go_ret
      exact ⟨rfl, _, rfl⟩

end Go.Proofs.Ytebohncdhhikkaa
