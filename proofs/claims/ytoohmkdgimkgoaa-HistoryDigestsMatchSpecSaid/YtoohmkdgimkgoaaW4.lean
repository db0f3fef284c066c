/-
  Histories: walks of the comparisons of the reference, 'Has', and 'children'.
-/
import Derived.Test.YtoohmkdgimkgoaaW2
import Derived.Test.YtoohmkdgimkgoaaPure2
import Derived.RegionTactic
import Derived.BigRegion
namespace Go.Proofs.Ytoohmkdgimkgoaa
open Go.RowKit Go.V
set_option linter.unusedVariables false

set_option maxHeartbeats 1600000 in
/-- 'Bools' of two readings of one list. -/
theorem bools_any (w : World) (A1 A2 : Option Addr) (c1 c2 : Nat) (l : List Bool) (h1 : BV w A1 l) (h2 : BV w A2 l) (hl : l.length ≤ 9223372036854775807) :
    Calls Try.prog 23 #[.slice A1 l.length c1, .slice A2 l.length c2] w fun e w' => e = .returned (.bool true) ∧ ∃ n, w' = w.drewN n := by
  go_enter Try.func23, Try.ntmps23
  go_wp2_with fail
  go_loopw [5] (fun k wr => ∃ i : Nat, i ≤ l.length ∧ k = .int .i64 i ∧ ∃ n, wr = w.drewN n) (fun k _ => l.length - (intOf k).toNat)
  case atStart => exact ⟨0, Nat.zero_le _, rfl, 0, rfl⟩
  case round =>
    obtain ⟨i, hi, rfl, n, rfl⟩ := hrel
    by_cases hlt : i < l.length
    · obtain ⟨b1, o1, rfl, _, x1⟩ := h1.at_ i hlt
      obtain ⟨b2, o2, rfl, _, x2⟩ := h2.at_ i hlt
      have hlt' : (i : Int) < l.length := by omega
      generalize l[i] = o at *
      go_wp2_with fail
      go_quiet (fail)
      go_wp2
      go_roundw
      case rel => exact ⟨i + 1, by omega, by go_num, _, rfl⟩
      case measure => simp [intOf]; omega
    · obtain rfl : i = l.length := by omega
      go_wp2
      go_ret
      exact ⟨rfl, _, rfl⟩

set_option maxHeartbeats 1600000 in
theorem ints_any (w : World) (A1 A2 : Option Addr) (c1 c2 : Nat) (l : List Int) (h1 : IV w A1 l) (h2 : IV w A2 l) (hl : l.length ≤ 9223372036854775807) :
    Calls Try.prog 31 #[.slice A1 l.length c1, .slice A2 l.length c2] w fun e w' => e = .returned (.bool true) ∧ ∃ n, w' = w.drewN n := by
  go_enter Try.func31, Try.ntmps31
  go_wp2_with fail
  go_loopw [5] (fun k wr => ∃ i : Nat, i ≤ l.length ∧ k = .int .i64 i ∧ ∃ n, wr = w.drewN n) (fun k _ => l.length - (intOf k).toNat)
  case atStart => exact ⟨0, Nat.zero_le _, rfl, 0, rfl⟩
  case round =>
    obtain ⟨i, hi, rfl, n, rfl⟩ := hrel
    by_cases hlt : i < l.length
    · obtain ⟨b1, o1, rfl, _, x1⟩ := h1.at_ i hlt
      obtain ⟨b2, o2, rfl, _, x2⟩ := h2.at_ i hlt
      have hlt' : (i : Int) < l.length := by omega
      generalize l[i] = o at *
      go_wp2_with fail
      go_quiet (fail)
      go_wp2
      go_roundw
      case rel => exact ⟨i + 1, by omega, by go_num, _, rfl⟩
      case measure => simp [intOf]; omega
    · obtain rfl : i = l.length := by omega
      go_wp2
      go_ret
      exact ⟨rfl, _, rfl⟩

set_option maxHeartbeats 1600000 in
theorem has_any (w : World) (A : Option Addr) (c : Nat) (l : List Int) (n : Int) (h1 : IV w A l) (hl : l.length ≤ 9223372036854775807) :
    Calls Try.prog 45 #[.slice A l.length c, .int .i64 n] w fun e w' => e = .returned (.bool (decide (n ∈ l))) ∧ w = w' := by
  go_enter Try.func45, Try.ntmps45
  go_wp2_with fail
  go_loop [5] (fun k => ∃ i : Nat, i ≤ l.length ∧ k = .int .i64 i ∧ Hid (n ∉ l.take i)) (fun k => l.length - (intOf k).toNat)
  case atStart => exact ⟨0, Nat.zero_le _, rfl, Lib.hid (by simp)⟩
  case round =>
    obtain ⟨i, hi, rfl, HN⟩ := hrel
    by_cases hlt : i < l.length
    · obtain ⟨b1, o1, rfl, _, x1⟩ := h1.at_ i hlt
      have hlt' : (i : Int) < l.length := by omega
      by_cases he : l[i] = n
      · have H := Lib.hid (show n ∈ l from he ▸ List.getElem_mem hlt)
        have he' : (l[i] == n) = true := by simpa using he
        clear he
        generalize l[i] = o at *
        go_wp2
        go_ret
        exact ⟨by rw [decide_eq_true H.out]; rfl, rfl⟩
      · have H := Lib.hid (show n ∉ l.take (i + 1) from by
          rw [List.take_succ_eq_append_getElem hlt]
          intro hm
          rcases List.mem_append.1 hm with hm | hm
          · exact HN.out hm
          · simp at hm; exact he hm.symm)
        have he' : (l[i] == n) = false := by simpa using he
        clear he
        generalize l[i] = o at *
        go_wp2
        go_round
        case rel => exact ⟨i + 1, by omega, by go_num, H⟩
        case measure => simp [intOf]; omega
    · obtain rfl : i = l.length := by omega
      have H := HN.out
      rw [List.take_length] at H
      have H' := Lib.hid H
      clear H
      go_wp2
      go_ret
      exact ⟨by rw [decide_eq_false H'.out]; rfl, rfl⟩
end Go.Proofs.Ytoohmkdgimkgoaa
