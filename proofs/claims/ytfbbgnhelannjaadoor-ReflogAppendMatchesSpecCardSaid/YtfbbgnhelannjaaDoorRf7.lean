/-
  References: walks of the reference's 'Strings', 'RefConflict'.
-/
import Derived.Test.YtfbbgnhelannjaaDoorRf6
namespace Go.Proofs.YtfbbgnhelannjaaDoor
open Go.RowKit Go.V Go.Shelf Go.Lib
set_option linter.unusedVariables false

/-- Equality of two lists up to i. -/
theorem eq_upto {α : Type} {a b : List α} (hl : a.length = b.length) (h : ∀ j, j < a.length → a[j]? = b[j]?) : a = b :=
  List.ext_getElem? fun j => by
    by_cases hj : j < a.length
    · exact h j hj
    · rw [List.getElem?_eq_none (by omega), List.getElem?_eq_none (by omega)]
set_option maxHeartbeats 1600000 in
theorem strings_any (w : World) (A1 A2 : Option Addr) (c1 c2 : Nat) (l1 l2 : List (List UInt8)) (h1 : SA w Free A1 (ssV l1)) (h2 : SA w Free A2 (ssV l2)) (hl1 : l1.length ≤ 9223372036854775807) (hl2 : l2.length ≤ 9223372036854775807) :
    Calls Tryd.prog 47 #[.slice A1 l1.length c1, .slice A2 l2.length c2] w fun e w' => e = .returned (.bool (decide (l1 = l2))) ∧ ∃ n, w' = w.drewN n := by
  by_cases hlen : l1.length = l2.length
  · have hlen' : ((l1.length : Int) != l2.length) = false := by simp [hlen]
    have HL := Lib.hid hlen
    clear hlen
    go_enter Tryd.func47, Tryd.ntmps47
    go_wp2_with fail
    go_loopw [5] (fun k wr => ∃ i : Nat, i ≤ l1.length ∧ k = .int .i64 i ∧ Hid (∀ j, j < i → l1[j]? = l2[j]?) ∧ ∃ n, wr = w.drewN n) (fun k _ => l1.length - (intOf k).toNat)
    case atStart => exact ⟨0, Nat.zero_le _, rfl, Lib.hid (fun j hj => by omega), 0, rfl⟩
    case round =>
      obtain ⟨i, hi, rfl, H, n, rfl⟩ := hrel
      by_cases hlt : i < l1.length
      · have hlt2 : i < l2.length := by rw [← HL.out]; exact hlt
        obtain ⟨b1, o1, rfl, _, _, x1⟩ := ssV_row h1 i hlt
        obtain ⟨b2, o2, rfl, _, _, x2⟩ := ssV_row h2 i hlt2
        have hlt' : (i : Int) < l1.length := by omega
        have hlt2' : (i : Int) < l2.length := by omega
        by_cases he : l1[i] = l2[i]
        · have H' : Hid (∀ j, j < i + 1 → l1[j]? = l2[j]?) := Lib.hid fun j hj => by
            by_cases e : j = i
            · subst e; rw [List.getElem?_eq_getElem hlt, List.getElem?_eq_getElem hlt2, he]
            · exact H.out j (by omega)
          have he' : (l1[i] != l2[i]) = false := by simp [he]
          have he2 : (l1[i] == l2[i]) = true := by simp [he]
          clear he
          generalize l1[i] = u1 at *
          generalize l2[i] = u2 at *
          go_wp2_with fail
          go_quiet (fail)
          go_wp2
          go_roundw
          case rel => exact ⟨i + 1, by omega, by go_num, H', _, rfl⟩
          case measure => simp [intOf]; omega
        · have HN : Hid (decide (l1 = l2) = false) := Lib.hid (decide_eq_false fun e => he (by subst e; rfl))
          have he' : (l1[i] != l2[i]) = true := by simpa using he
          have he2 : (l1[i] == l2[i]) = false := by simpa using he
          clear he
          generalize l1[i] = u1 at *
          generalize l2[i] = u2 at *
          go_wp2_with fail
          go_quiet (fail)
          go_wp2
          go_ret
          exact ⟨by rw [HN.out]; rfl, n + nq, by simp [World.drewN_drewN]⟩
      · obtain rfl : i = l1.length := by omega
        have HY : Hid (decide (l1 = l2) = true) := Lib.hid (decide_eq_true (eq_upto HL.out H.out))
        go_wp2
        go_ret
        exact ⟨by rw [HY.out]; rfl, _, rfl⟩
  · have hlen' : ((l1.length : Int) != l2.length) = true := by simp; omega
    have HN : Hid (decide (l1 = l2) = false) := Lib.hid (decide_eq_false fun e => hlen (by rw [e]))
    clear hlen
    go_enter Tryd.func47, Tryd.ntmps47
    go_wp2_with fail
    go_ret
    exact ⟨by rw [HN.out]; rfl, 0, rfl⟩
end Go.Proofs.YtfbbgnhelannjaaDoor
