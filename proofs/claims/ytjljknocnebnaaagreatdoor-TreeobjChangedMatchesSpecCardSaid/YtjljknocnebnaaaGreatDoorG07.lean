/-
  File trees: walks of 'Letter', 'Related', 'Clash', of 'lines.Validate', 'lines.Second'.
  File trees: walk of 'ValidPath'.
  File trees: walks of 'Validate', 'Second'.
  File trees: walks of 'Second', 'Strings', 'Trees', 'terminated', 'LinesBlob'.
  File trees: walk of 'At'.
-/
import Derived.Test.YtjljknocnebnaaaGreatDoorG06
import Derived.Test.YtjljknocnebnaaaGreatDoorG02
import Derived.Test.YtjljknocnebnaaaGreatDoorG04
import Derived.Deep.RegionHeld3
import Derived.Deep.DeepCutAuto
import Derived.Test.YtjljknocnebnaaaGreatDoorG03
import Derived.Test.YtjljknocnebnaaaGreatDoorG05
namespace Go.Proofs.YtjljknocnebnaaaGreatDoor
open Go.RowKit Go.V Go.Shelf
set_option linter.unusedVariables false

set_option maxHeartbeats 4000000 in
theorem letter_any (w : World) (c : UInt8) : Calls Tryz.prog 58 #[.int .u8 (c.toNat : Int)] w fun e w' => e = .returned (.bool (Tr.letter c)) ∧ w' = w := by
  have HL0 := Tr.letter.eq_1 c
  generalize Tr.letter c = q at *
  generalize c.toNat = n at *
  have HL := Lib.hid HL0
  clear HL0
  by_cases h0 : 97 ≤ n
  · by_cases h1 : n ≤ 122
    · have g97 : (97 : Int) ≤ n := by omega
      have g65 : (65 : Int) ≤ n := by omega
      have g48 : (48 : Int) ≤ n := by omega
      have g122 : (n : Int) ≤ 122 := by omega
      have g90 : ¬ (n : Int) ≤ 90 := by omega
      have g57 : ¬ (n : Int) ≤ 57 := by omega
      have g46 : ((n : Int) == 46) = false := by simp; omega
      have g95 : ((n : Int) == 95) = false := by simp; omega
      have g45 : ((n : Int) == 45) = false := by simp; omega
      have k97 : 97 ≤ n := by omega
      have k65 : 65 ≤ n := by omega
      have k48 : 48 ≤ n := by omega
      have k122 : n ≤ 122 := by omega
      have k90 : ¬ n ≤ 90 := by omega
      have k57 : ¬ n ≤ 57 := by omega
      have k46 : ¬ n = 46 := by omega
      have k95 : ¬ n = 95 := by omega
      have k45 : ¬ n = 45 := by omega
      have H : Hid (q = true) := Lib.hid (by rw [HL.out]; simp [k97, k122, k65, k90, k48, k57, k46, k95, k45])
      clear HL k97 k122 k65 k90 k48 k57 k46 k95 k45
      go_enter Tryz.func58, Tryz.ntmps58
      go_wp2_with fail
      go_ret
      exact ⟨by rw [H.out]; rfl, rfl⟩
    · have g97 : (97 : Int) ≤ n := by omega
      have g65 : (65 : Int) ≤ n := by omega
      have g48 : (48 : Int) ≤ n := by omega
      have g122 : ¬ (n : Int) ≤ 122 := by omega
      have g90 : ¬ (n : Int) ≤ 90 := by omega
      have g57 : ¬ (n : Int) ≤ 57 := by omega
      have g46 : ((n : Int) == 46) = false := by simp; omega
      have g95 : ((n : Int) == 95) = false := by simp; omega
      have g45 : ((n : Int) == 45) = false := by simp; omega
      have k97 : 97 ≤ n := by omega
      have k65 : 65 ≤ n := by omega
      have k48 : 48 ≤ n := by omega
      have k122 : ¬ n ≤ 122 := by omega
      have k90 : ¬ n ≤ 90 := by omega
      have k57 : ¬ n ≤ 57 := by omega
      have k46 : ¬ n = 46 := by omega
      have k95 : ¬ n = 95 := by omega
      have k45 : ¬ n = 45 := by omega
      have H : Hid (q = false) := Lib.hid (by rw [HL.out]; simp [k97, k122, k65, k90, k48, k57, k46, k95, k45])
      clear HL k97 k122 k65 k90 k48 k57 k46 k95 k45
      go_enter Tryz.func58, Tryz.ntmps58
      go_wp2_with fail
      go_ret
      exact ⟨by rw [H.out]; rfl, rfl⟩
  · by_cases h50 : 65 ≤ n
    · by_cases h51 : n ≤ 90
      · have g97 : ¬ (97 : Int) ≤ n := by omega
        have g65 : (65 : Int) ≤ n := by omega
        have g48 : (48 : Int) ≤ n := by omega
        have g122 : (n : Int) ≤ 122 := by omega
        have g90 : (n : Int) ≤ 90 := by omega
        have g57 : ¬ (n : Int) ≤ 57 := by omega
        have g46 : ((n : Int) == 46) = false := by simp; omega
        have g95 : ((n : Int) == 95) = false := by simp; omega
        have g45 : ((n : Int) == 45) = false := by simp; omega
        have k97 : ¬ 97 ≤ n := by omega
        have k65 : 65 ≤ n := by omega
        have k48 : 48 ≤ n := by omega
        have k122 : n ≤ 122 := by omega
        have k90 : n ≤ 90 := by omega
        have k57 : ¬ n ≤ 57 := by omega
        have k46 : ¬ n = 46 := by omega
        have k95 : ¬ n = 95 := by omega
        have k45 : ¬ n = 45 := by omega
        have H : Hid (q = true) := Lib.hid (by rw [HL.out]; simp [k97, k122, k65, k90, k48, k57, k46, k95, k45])
        clear HL k97 k122 k65 k90 k48 k57 k46 k95 k45
        go_enter Tryz.func58, Tryz.ntmps58
        go_wp2_with fail
        go_ret
        exact ⟨by rw [H.out]; rfl, rfl⟩
      · by_cases h76 : n = 95
        · have g97 : ¬ (97 : Int) ≤ n := by omega
          have g65 : (65 : Int) ≤ n := by omega
          have g48 : (48 : Int) ≤ n := by omega
          have g122 : (n : Int) ≤ 122 := by omega
          have g90 : ¬ (n : Int) ≤ 90 := by omega
          have g57 : ¬ (n : Int) ≤ 57 := by omega
          have g46 : ((n : Int) == 46) = false := by simp; omega
          have g95 : ((n : Int) == 95) = true := by simp; omega
          have g45 : ((n : Int) == 45) = false := by simp; omega
          have k97 : ¬ 97 ≤ n := by omega
          have k65 : 65 ≤ n := by omega
          have k48 : 48 ≤ n := by omega
          have k122 : n ≤ 122 := by omega
          have k90 : ¬ n ≤ 90 := by omega
          have k57 : ¬ n ≤ 57 := by omega
          have k46 : ¬ n = 46 := by omega
          have k95 : n = 95 := by omega
          have k45 : ¬ n = 45 := by omega
          have H : Hid (q = true) := Lib.hid (by rw [HL.out]; simp [k95])
          clear HL k97 k122 k65 k90 k48 k57 k46 k95 k45
          go_enter Tryz.func58, Tryz.ntmps58
          go_wp2_with fail
          go_ret
          exact ⟨by rw [H.out]; rfl, rfl⟩
        · by_cases h101 : n < 95
          · have g97 : ¬ (97 : Int) ≤ n := by omega
            have g65 : (65 : Int) ≤ n := by omega
            have g48 : (48 : Int) ≤ n := by omega
            have g122 : (n : Int) ≤ 122 := by omega
            have g90 : ¬ (n : Int) ≤ 90 := by omega
            have g57 : ¬ (n : Int) ≤ 57 := by omega
            have g46 : ((n : Int) == 46) = false := by simp; omega
            have g95 : ((n : Int) == 95) = false := by simp; omega
            have g45 : ((n : Int) == 45) = false := by simp; omega
            have k97 : ¬ 97 ≤ n := by omega
            have k65 : 65 ≤ n := by omega
            have k48 : 48 ≤ n := by omega
            have k122 : n ≤ 122 := by omega
            have k90 : ¬ n ≤ 90 := by omega
            have k57 : ¬ n ≤ 57 := by omega
            have k46 : ¬ n = 46 := by omega
            have k95 : ¬ n = 95 := by omega
            have k45 : ¬ n = 45 := by omega
            have H : Hid (q = false) := Lib.hid (by rw [HL.out]; simp [k97, k122, k65, k90, k48, k57, k46, k95, k45])
            clear HL k97 k122 k65 k90 k48 k57 k46 k95 k45
            go_enter Tryz.func58, Tryz.ntmps58
            go_wp2_with fail
            go_ret
            exact ⟨by rw [H.out]; rfl, rfl⟩
          · have g97 : ¬ (97 : Int) ≤ n := by omega
            have g65 : (65 : Int) ≤ n := by omega
            have g48 : (48 : Int) ≤ n := by omega
            have g122 : (n : Int) ≤ 122 := by omega
            have g90 : ¬ (n : Int) ≤ 90 := by omega
            have g57 : ¬ (n : Int) ≤ 57 := by omega
            have g46 : ((n : Int) == 46) = false := by simp; omega
            have g95 : ((n : Int) == 95) = false := by simp; omega
            have g45 : ((n : Int) == 45) = false := by simp; omega
            have k97 : ¬ 97 ≤ n := by omega
            have k65 : 65 ≤ n := by omega
            have k48 : 48 ≤ n := by omega
            have k122 : n ≤ 122 := by omega
            have k90 : ¬ n ≤ 90 := by omega
            have k57 : ¬ n ≤ 57 := by omega
            have k46 : ¬ n = 46 := by omega
            have k95 : ¬ n = 95 := by omega
            have k45 : ¬ n = 45 := by omega
            have H : Hid (q = false) := Lib.hid (by rw [HL.out]; simp [k97, k122, k65, k90, k48, k57, k46, k95, k45])
            clear HL k97 k122 k65 k90 k48 k57 k46 k95 k45
            go_enter Tryz.func58, Tryz.ntmps58
            go_wp2_with fail
            go_ret
            exact ⟨by rw [H.out]; rfl, rfl⟩
    · by_cases h150 : 48 ≤ n
      · by_cases h151 : n ≤ 57
        · have g97 : ¬ (97 : Int) ≤ n := by omega
          have g65 : ¬ (65 : Int) ≤ n := by omega
          have g48 : (48 : Int) ≤ n := by omega
          have g122 : (n : Int) ≤ 122 := by omega
          have g90 : (n : Int) ≤ 90 := by omega
          have g57 : (n : Int) ≤ 57 := by omega
          have g46 : ((n : Int) == 46) = false := by simp; omega
          have g95 : ((n : Int) == 95) = false := by simp; omega
          have g45 : ((n : Int) == 45) = false := by simp; omega
          have k97 : ¬ 97 ≤ n := by omega
          have k65 : ¬ 65 ≤ n := by omega
          have k48 : 48 ≤ n := by omega
          have k122 : n ≤ 122 := by omega
          have k90 : n ≤ 90 := by omega
          have k57 : n ≤ 57 := by omega
          have k46 : ¬ n = 46 := by omega
          have k95 : ¬ n = 95 := by omega
          have k45 : ¬ n = 45 := by omega
          have H : Hid (q = true) := Lib.hid (by rw [HL.out]; simp [k97, k122, k65, k90, k48, k57, k46, k95, k45])
          clear HL k97 k122 k65 k90 k48 k57 k46 k95 k45
          go_enter Tryz.func58, Tryz.ntmps58
          go_wp2_with fail
          go_ret
          exact ⟨by rw [H.out]; rfl, rfl⟩
        · have g97 : ¬ (97 : Int) ≤ n := by omega
          have g65 : ¬ (65 : Int) ≤ n := by omega
          have g48 : (48 : Int) ≤ n := by omega
          have g122 : (n : Int) ≤ 122 := by omega
          have g90 : (n : Int) ≤ 90 := by omega
          have g57 : ¬ (n : Int) ≤ 57 := by omega
          have g46 : ((n : Int) == 46) = false := by simp; omega
          have g95 : ((n : Int) == 95) = false := by simp; omega
          have g45 : ((n : Int) == 45) = false := by simp; omega
          have k97 : ¬ 97 ≤ n := by omega
          have k65 : ¬ 65 ≤ n := by omega
          have k48 : 48 ≤ n := by omega
          have k122 : n ≤ 122 := by omega
          have k90 : n ≤ 90 := by omega
          have k57 : ¬ n ≤ 57 := by omega
          have k46 : ¬ n = 46 := by omega
          have k95 : ¬ n = 95 := by omega
          have k45 : ¬ n = 45 := by omega
          have H : Hid (q = false) := Lib.hid (by rw [HL.out]; simp [k97, k122, k65, k90, k48, k57, k46, k95, k45])
          clear HL k97 k122 k65 k90 k48 k57 k46 k95 k45
          go_enter Tryz.func58, Tryz.ntmps58
          go_wp2_with fail
          go_ret
          exact ⟨by rw [H.out]; rfl, rfl⟩
      · by_cases h200 : n = 46
        · have g97 : ¬ (97 : Int) ≤ n := by omega
          have g65 : ¬ (65 : Int) ≤ n := by omega
          have g48 : ¬ (48 : Int) ≤ n := by omega
          have g122 : (n : Int) ≤ 122 := by omega
          have g90 : (n : Int) ≤ 90 := by omega
          have g57 : (n : Int) ≤ 57 := by omega
          have g46 : ((n : Int) == 46) = true := by simp; omega
          have g95 : ((n : Int) == 95) = false := by simp; omega
          have g45 : ((n : Int) == 45) = false := by simp; omega
          have k97 : ¬ 97 ≤ n := by omega
          have k65 : ¬ 65 ≤ n := by omega
          have k48 : ¬ 48 ≤ n := by omega
          have k122 : n ≤ 122 := by omega
          have k90 : n ≤ 90 := by omega
          have k57 : n ≤ 57 := by omega
          have k46 : n = 46 := by omega
          have k95 : ¬ n = 95 := by omega
          have k45 : ¬ n = 45 := by omega
          have H : Hid (q = true) := Lib.hid (by rw [HL.out]; simp [k46])
          clear HL k97 k122 k65 k90 k48 k57 k46 k95 k45
          go_enter Tryz.func58, Tryz.ntmps58
          go_wp2_with fail
          go_ret
          exact ⟨by rw [H.out]; rfl, rfl⟩
        · by_cases h225 : n = 45
          · have g97 : ¬ (97 : Int) ≤ n := by omega
            have g65 : ¬ (65 : Int) ≤ n := by omega
            have g48 : ¬ (48 : Int) ≤ n := by omega
            have g122 : (n : Int) ≤ 122 := by omega
            have g90 : (n : Int) ≤ 90 := by omega
            have g57 : (n : Int) ≤ 57 := by omega
            have g46 : ((n : Int) == 46) = false := by simp; omega
            have g95 : ((n : Int) == 95) = false := by simp; omega
            have g45 : ((n : Int) == 45) = true := by simp; omega
            have k97 : ¬ 97 ≤ n := by omega
            have k65 : ¬ 65 ≤ n := by omega
            have k48 : ¬ 48 ≤ n := by omega
            have k122 : n ≤ 122 := by omega
            have k90 : n ≤ 90 := by omega
            have k57 : n ≤ 57 := by omega
            have k46 : ¬ n = 46 := by omega
            have k95 : ¬ n = 95 := by omega
            have k45 : n = 45 := by omega
            have H : Hid (q = true) := Lib.hid (by rw [HL.out]; simp [k45])
            clear HL k97 k122 k65 k90 k48 k57 k46 k95 k45
            go_enter Tryz.func58, Tryz.ntmps58
            go_wp2_with fail
            go_ret
            exact ⟨by rw [H.out]; rfl, rfl⟩
          · by_cases h250 : n < 45
            · have g97 : ¬ (97 : Int) ≤ n := by omega
              have g65 : ¬ (65 : Int) ≤ n := by omega
              have g48 : ¬ (48 : Int) ≤ n := by omega
              have g122 : (n : Int) ≤ 122 := by omega
              have g90 : (n : Int) ≤ 90 := by omega
              have g57 : (n : Int) ≤ 57 := by omega
              have g46 : ((n : Int) == 46) = false := by simp; omega
              have g95 : ((n : Int) == 95) = false := by simp; omega
              have g45 : ((n : Int) == 45) = false := by simp; omega
              have k97 : ¬ 97 ≤ n := by omega
              have k65 : ¬ 65 ≤ n := by omega
              have k48 : ¬ 48 ≤ n := by omega
              have k122 : n ≤ 122 := by omega
              have k90 : n ≤ 90 := by omega
              have k57 : n ≤ 57 := by omega
              have k46 : ¬ n = 46 := by omega
              have k95 : ¬ n = 95 := by omega
              have k45 : ¬ n = 45 := by omega
              have H : Hid (q = false) := Lib.hid (by rw [HL.out]; simp [k97, k122, k65, k90, k48, k57, k46, k95, k45])
              clear HL k97 k122 k65 k90 k48 k57 k46 k95 k45
              go_enter Tryz.func58, Tryz.ntmps58
              go_wp2_with fail
              go_ret
              exact ⟨by rw [H.out]; rfl, rfl⟩
            · have g97 : ¬ (97 : Int) ≤ n := by omega
              have g65 : ¬ (65 : Int) ≤ n := by omega
              have g48 : ¬ (48 : Int) ≤ n := by omega
              have g122 : (n : Int) ≤ 122 := by omega
              have g90 : (n : Int) ≤ 90 := by omega
              have g57 : (n : Int) ≤ 57 := by omega
              have g46 : ((n : Int) == 46) = false := by simp; omega
              have g95 : ((n : Int) == 95) = false := by simp; omega
              have g45 : ((n : Int) == 45) = false := by simp; omega
              have k97 : ¬ 97 ≤ n := by omega
              have k65 : ¬ 65 ≤ n := by omega
              have k48 : ¬ 48 ≤ n := by omega
              have k122 : n ≤ 122 := by omega
              have k90 : n ≤ 90 := by omega
              have k57 : n ≤ 57 := by omega
              have k46 : ¬ n = 46 := by omega
              have k95 : ¬ n = 95 := by omega
              have k45 : ¬ n = 45 := by omega
              have H : Hid (q = false) := Lib.hid (by rw [HL.out]; simp [k97, k122, k65, k90, k48, k57, k46, k95, k45])
              clear HL k97 k122 k65 k90 k48 k57 k46 k95 k45
              go_enter Tryz.func58, Tryz.ntmps58
              go_wp2_with fail
              go_ret
              exact ⟨by rw [H.out]; rfl, rfl⟩
theorem str_add (a b : List UInt8) : (⟨a.toArray⟩ : ByteArray) ++ ⟨b.toArray⟩ = ⟨(a ++ b).toArray⟩ := by
  apply ByteArray.ext
  simp
theorem hasPrefix_any (a b : List UInt8) (w : World) : Calls Tryz.prog 78 #[strV a, strV b] w fun e w' => e = .returned (.bool (Lib.hasPrefix a b)) ∧ w' = w := Tryz.strings_HasPrefix ⟨a.toArray⟩ ⟨b.toArray⟩ w
set_option maxHeartbeats 4000000 in
theorem related_any (w : World) (a b : List UInt8) (ha : a.length ≤ 1000000000) (hb : b.length ≤ 1000000000) : Calls Tryz.prog 59 #[strV a, strV b] w fun e w' => e = .returned (.bool (Tr.rel a b)) ∧ w' = w := by
  have H1 := Lib.hid (hasPrefix_any a (b ++ [47]) w)
  have H2 := Lib.hid (hasPrefix_any b (a ++ [47]) w)
  have e1 : (⟨a.toArray⟩ : ByteArray) ++ ⟨#[47]⟩ = ⟨(a ++ [47]).toArray⟩ := str_add a [47]
  have e2 : (⟨b.toArray⟩ : ByteArray) ++ ⟨#[47]⟩ = ⟨(b ++ [47]).toArray⟩ := str_add b [47]
  have s1 : (⟨a.toArray⟩ : ByteArray).size = a.length := by simp [ByteArray.size]
  have s2 : (⟨b.toArray⟩ : ByteArray).size = b.length := by simp [ByteArray.size]
  have HQ := Lib.hid (Tr.rel.eq_1 a b)
  generalize Tr.rel a b = q at *
  by_cases hab : a = b
  · have HQ2 : Hid (q = true) := Lib.hid (by rw [HQ.out, decide_eq_true hab]; rfl)
    have hb1 : (a == b) = true := by simpa using hab
    clear HQ H1 H2
    subst hab
    go_enter Tryz.func59, Tryz.ntmps59
    go_wp2_with fail
    go_ret
    exact ⟨by rw [HQ2.out]; rfl, rfl⟩
  have hb1 : (a == b) = false := by simpa using hab
  cases h : Lib.hasPrefix a (b ++ [47]) with
  | true =>
    rw [h] at H1
    have HQ2 : Hid (q = true) := Lib.hid (by rw [HQ.out, h]; simp)
    clear h HQ H2
    go_enter Tryz.func59, Tryz.ntmps59
    go_wp2_with (first | (go_at_call 78; with_reducible refine H1.out.mono ?_; rintro e w' ⟨rfl, rfl⟩))
    go_ret
    exact ⟨by rw [HQ2.out]; rfl, rfl⟩
  | false =>
    rw [h] at H1
    have HQ2 : Hid (q = Lib.hasPrefix b (a ++ [47])) := Lib.hid (by rw [HQ.out, h, decide_eq_false hab]; rfl)
    clear h HQ
    generalize Lib.hasPrefix b (a ++ [47]) = q2 at *
    go_enter Tryz.func59, Tryz.ntmps59
    go_wp2_with (first | (go_at_call 78; with_reducible refine H1.out.mono ?_; rintro e w' ⟨rfl, rfl⟩) | (go_at_call 78; with_reducible refine H2.out.mono ?_; rintro e w' ⟨rfl, rfl⟩))
    go_ret
    exact ⟨by rw [HQ2.out]; rfl, rfl⟩
theorem any_take {α : Type} {p : α → Bool} {s : List α} {i : Nat} (h : (s.take i).any p = false) (hi : i < s.length) (hp : p s[i] = false) : (s.take (i + 1)).any p = false := by
  rw [List.take_succ_eq_append_getElem hi, List.any_append, h]; simp [hp]
set_option maxHeartbeats 4000000 in
theorem clash_any (w : World) (A : Option Addr) (k : Nat) (t : List Tr.F) (p : List UInt8) (hv : VfV w Free A t) (hl : t.length ≤ 1000000) (hs : ∀ i, i < t.length → (Tr.it t i).path.length ≤ 1000000000) (hp : p.length ≤ 1000000000) :
    Calls Tryz.prog 34 #[.slice A t.length k, strV p, .int .i64 (-1)] w fun e w' => e = .returned (.bool (Tr.clash t p)) ∧ Below w.heap.size w w' := by
  have HROW := Lib.hid (fun (w' : World) (hb : Below w.heap.size w w') i hi => (hv.keep (free_below hb)).row i hi)
  have HS := Lib.hid hs
  have HC := Lib.hid (Tr.clash.eq_1 t p)
  generalize hq : Tr.clash t p = q at *
  clear hq hv hs
  go_enter Tryz.func34, Tryz.ntmps34
  go_wp2_with fail
  go_loopw [11] (fun iv wr => ∃ i : Nat, i ≤ t.length ∧ iv = .int .i64 i ∧ Hid ((t.take i).any (fun f => Tr.rel f.path p) = false) ∧ Below w.heap.size w wr) (fun iv _ => t.length - (intOf iv).toNat)
  case atStart => exact ⟨0, Nat.zero_le _, rfl, Lib.hid (by simp), Below.refl _ _⟩
  case round =>
    obtain ⟨i, hi, rfl, H, hbw⟩ := hrel
    by_cases hlt2 : i < t.length
    · have hlt' : (i : Int) < t.length := by omega
      obtain ⟨b, off, A', k', e, hb, _, d0, d1, _⟩ := HROW.out _ hbw i hlt2
      subst e
      have hpl := HS.out i hlt2
      have HN : Hid (Tr.rel (Tr.it t i).path p = false → (t.take (i + 1)).any (fun f => Tr.rel f.path p) = false) := Lib.hid fun h => any_take H.out hlt2 (by rw [Tr.it_eq t i hlt2]; exact h)
      have HY : Hid (Tr.rel (Tr.it t i).path p = true → q = true) := Lib.hid fun h => by
        rw [HC.out, List.any_eq_true]; exact ⟨t[i], List.getElem_mem hlt2, by rw [Tr.it_eq t i hlt2]; exact h⟩
      generalize Tr.it t i = x at *
      have HR := Lib.hid (related_any (wr.alloc (.cells #[strV x.path, .slice A' x.lines.length k'] 38)) x.path p hpl hp)
      have hal := hbw.trans ((below_alloc1 wr (.cells #[strV x.path, .slice A' x.lines.length k'] 38)).mono hbw.size)
      have hne : ((i : Int) != -1) = true := by simp
      cases hc : Tr.rel x.path p with
      | false =>
        rw [hc] at HR
        have HN2 := Lib.hid (HN.out hc)
        clear hc HN HY
        go_wp2_with (first | (go_at_call 59; with_reducible refine HR.out.mono ?_; rintro e w' ⟨rfl, rfl⟩))
        go_roundw
        case rel => exact ⟨i + 1, by omega, by go_num, HN2, hal⟩
        case measure => simp [intOf]; omega
      | true =>
        rw [hc] at HR
        have HY2 := Lib.hid (HY.out hc)
        clear hc HN HY
        go_wp2_with (first | (go_at_call 59; with_reducible refine HR.out.mono ?_; rintro e w' ⟨rfl, rfl⟩))
        go_ret
        exact ⟨by rw [HY2.out]; rfl, hal⟩
    · obtain rfl : i = t.length := by omega
      have H2 := Lib.hid (show q = false from by rw [HC.out]; have := H.out; rwa [List.take_length] at this)
      go_wp2_with fail
      go_ret
      exact ⟨by rw [H2.out]; rfl, hbw⟩
theorem indexByte_iff : ∀ l : List UInt8, decide (0 ≤ Lib.indexByte l 10) = decide ((10 : UInt8) ∈ l)
  | [] => by simp [Lib.indexByte]
  | b :: l => by
    have ih := indexByte_iff l
    have hge : -1 ≤ Lib.indexByte l 10 := by
      clear ih; induction l with
      | nil => simp [Lib.indexByte]
      | cons c l ih => unfold Lib.indexByte; split <;> (try split) <;> omega
    unfold Lib.indexByte
    by_cases h : b = 10
    · simp [h]
    · have h2 : ¬ (10 : UInt8) = b := fun e => h e.symm
      rw [decide_eq_decide] at ih
      simp only [List.mem_cons, h2, false_or, decide_eq_decide]
      rw [← ih]
      simp only [beq_iff_eq, h, if_false]
      split <;> omega
theorem indexByte_any (l : List UInt8) (w : World) : Calls Tryz.prog 79 #[strV l, .int .u8 10] w fun e w' => e = .returned (.int .i64 (Lib.indexByte l 10)) ∧ w' = w := Tryz.strings_IndexByte ⟨l.toArray⟩ 10 w
set_option maxHeartbeats 4000000 in
theorem lnValidate_any (w : World) (A : Option Addr) (k : Nat) (l : List (List UInt8)) (hv : SA w Free A (ssV l)) (hl : l.length ≤ 9223372036854775807) :
    Calls Tryz.prog 60 #[.slice A l.length k] w (FaultPost w (Tr.lnF l)) := by
  have HV := Lib.hid (fun (w' : World) (hb : Below w.heap.size w w') i hi => ssV_row (hv.keep (free_below hb)) i hi)
  have HLF := Lib.hid (Tr.lnF.eq_1 l)
  generalize hr : Tr.lnF l = r at *
  clear hr hv
  have b0 := Blk.new w 28 #[.int .i64 0, .int .i64 0]
  have hb0 := below_alloc1 w (.cells #[.int .i64 0, .int .i64 0] 28)
  by_cases h120 : 120 < l.length
  · have H := Lib.hid (HLF.out.trans (if_pos h120))
    have h120' : (120 : Int) < l.length := by omega
    clear HLF h120
    go_enter Tryz.func60, Tryz.ntmps60
    go_wp2_with fail
    refine bodyPost_ret (results_c rfl _ _ w.heap.size (.int .i64 2) (.int .i64 (-1)) rfl (Blk.new w 28 #[.int .i64 2, .int .i64 (-1)])) rfl (FaultPost.mk_ H.out (below_alloc1 _ _))
  · have H := Lib.hid (HLF.out.trans (if_neg h120))
    have h120' : ¬ (120 : Int) < l.length := by omega
    clear HLF h120
    go_enter Tryz.func60, Tryz.ntmps60
    go_wp2_with fail
    go_loopw [11] (fun iv wr => ∃ i : Nat, i ≤ l.length ∧ iv = .int .i64 i ∧ Hid (r = Tr.lnFrom (l.drop i) i) ∧ Blk wr w.heap.size 28 #[.int .i64 0, .int .i64 0] ∧ Below w.heap.size w wr) (fun iv _ => l.length - (intOf iv).toNat)
    case atStart => exact ⟨0, Nat.zero_le _, rfl, Lib.hid (by rw [H.out, List.drop_zero]), b0, hb0⟩
    case round =>
      obtain ⟨i, hi, rfl, HI, br, hbw⟩ := hrel
      obtain ⟨wo, rfl⟩ : ∃ wo : World, wo = wr := ⟨_, rfl⟩
      have f0 := br.frozen 0
      have f1 := br.frozen 1
      have c0 := (br.cell 0).trans rfl
      have c1 := (br.cell 1).trans rfl
      have hlt := br.lt
      by_cases hlt2 : i < l.length
      · have hlt' : (i : Int) < l.length := by omega
        obtain ⟨b, off, e, hb, _, d0⟩ := HV.out _ hbw i hlt2
        subst e
        rw [List.drop_eq_getElem_cons hlt2, Tr.lnFrom] at HI
        generalize l[i] = x at *
        have sx : (⟨x.toArray⟩ : ByteArray).size = x.length := by simp [ByteArray.size]
        by_cases h80 : 80 < x.length
        · have H2 := Lib.hid (HI.out.trans (if_pos h80))
          have h80' : (80 : Int) < x.length := by omega
          clear HI h80
          go_wp2_with fail
          refine bodyPost_ret (results_c rfl _ _ w.heap.size (.int .i64 2) (.int .i64 i) rfl (blk_put2 br (.int .i64 2) (.int .i64 i))) rfl (FaultPost.mk_ H2.out ?_)
          exact (hbw.setCell (p := ⟨w.heap.size, 0, none⟩) (Nat.le_refl _) _).setCell (p := ⟨w.heap.size, 1, none⟩) (Nat.le_refl _) _
        · have HI2 := Lib.hid (HI.out.trans (if_neg h80))
          have h80' : ¬ (80 : Int) < x.length := by omega
          have HX := Lib.hid (indexByte_any x wo)
          have hix := indexByte_iff x
          by_cases hm : (10 : UInt8) ∈ x
          · have H2 := Lib.hid (HI2.out.trans (if_pos hm))
            rw [decide_eq_true hm] at hix
            have hge : 0 ≤ Lib.indexByte x 10 := by simpa using hix
            clear HI HI2 h80 hm hix
            generalize Lib.indexByte x 10 = ix at *
            go_wp2_with (first | (go_at_call 79; with_reducible refine HX.out.mono ?_; rintro e w' ⟨rfl, rfl⟩))
            refine bodyPost_ret (results_c rfl _ _ w.heap.size (.int .i64 5) (.int .i64 i) rfl (blk_put2 br (.int .i64 5) (.int .i64 i))) rfl (FaultPost.mk_ H2.out ?_)
            exact (hbw.setCell (p := ⟨w.heap.size, 0, none⟩) (Nat.le_refl _) _).setCell (p := ⟨w.heap.size, 1, none⟩) (Nat.le_refl _) _
          · have H2 := Lib.hid (HI2.out.trans (if_neg hm))
            rw [decide_eq_false hm] at hix
            have hge : ¬ 0 ≤ Lib.indexByte x 10 := by simpa using hix
            clear HI HI2 h80 hm hix
            generalize Lib.indexByte x 10 = ix at *
            go_wp2_with (first | (go_at_call 79; with_reducible refine HX.out.mono ?_; rintro e w' ⟨rfl, rfl⟩))
            go_roundw
            case rel => exact ⟨i + 1, by omega, by go_num, H2, br, hbw⟩
            case measure => simp [intOf]; omega
      · obtain rfl : i = l.length := by omega
        have H2 : Hid (r = (0, 0)) := Lib.hid (by rw [HI.out, List.drop_length]; rfl)
        clear HI
        go_wp2_with fail
        refine bodyPost_ret (results_c rfl _ _ w.heap.size (.int .i64 0) (.int .i64 0) rfl (blk_put2 br (.int .i64 0) (.int .i64 0))) rfl (FaultPost.mk_ H2.out ?_)
        exact (hbw.setCell (p := ⟨w.heap.size, 0, none⟩) (Nat.le_refl _) _).setCell (p := ⟨w.heap.size, 1, none⟩) (Nat.le_refl _) _
def secF (r : Int × Int) (i : Int) : Int × Int := if r.1 ≠ 0 then (r.1, i) else (0, 0)
theorem lnF_zero {l : List (List UInt8)} (h : (Tr.lnF l).1 = 0) : Tr.lnF l = (0, 0) := (Tr.lnF_ok h).1
set_option maxHeartbeats 4000000 in
theorem lnSecond_any (w : World) (A : Option Addr) (k : Nat) (l : List (List UInt8)) (i : Int) (hv : SA w Free A (ssV l)) (hl : l.length ≤ 9223372036854775807) :
    Calls Tryz.prog 35 #[.slice A l.length k, .int .i64 i] w (FaultPost w (secF (Tr.lnF l) i)) := by
  have HC := Lib.hid (fun (w1 : World) (hb : Below w.heap.size w w1) => lnValidate_any w1 A k l (hv.keep (free_below hb)) hl)
  have HZ := Lib.hid (lnF_zero (l := l))
  have HS := Lib.hid (secF.eq_1 (Tr.lnF l) i)
  generalize hr : secF (Tr.lnF l) i = r at *
  clear hr hv
  have b0 := Blk.new w 28 #[.int .i64 0, .int .i64 0]
  have hb0 := below_alloc1 w (.cells #[.int .i64 0, .int .i64 0] 28)
  go_enter Tryz.func35, Tryz.ntmps35
  go_wp2_with fail
  go_at_call 60
  refine (HC.out _ hb0).mono ?_
  rintro e w1 ⟨rfl, hb1⟩
  have br := b0.below hb1 b0.lt
  have hbw := hb0.trans (hb1.mono hb0.size)
  clear HC b0 hb0 hb1
  have f0 := br.frozen 0
  have f1 := br.frozen 1
  have c0 := (br.cell 0).trans rfl
  have c1 := (br.cell 1).trans rfl
  have hlt := br.lt
  by_cases hbad : (Tr.lnF l).1 ≠ 0
  · have H := Lib.hid (HS.out.trans (if_pos hbad))
    have hx1 : ((Tr.lnF l).1 == 0) = false := by simpa using hbad
    have hx2 : ((Tr.lnF l).1 != 0) = true := by simpa using hbad
    clear HS HZ hbad
    generalize Tr.lnF l = q at *
    obtain ⟨cd, ix⟩ := q
    simp only at hx1 hx2
    go_wp2_with fail
    refine bodyPost_ret (results_c rfl _ _ w.heap.size (.int .i64 cd) (.int .i64 i) rfl ((blk_put2 br (.int .i64 cd) (.int .i64 i)).alloc _)) rfl (FaultPost.mk_ H.out ?_)
    exact ((hbw.setCell (p := ⟨w.heap.size, 0, none⟩) (Nat.le_refl _) _).setCell (p := ⟨w.heap.size, 1, none⟩) (Nat.le_refl _) _).alloc (by simp [World.setCell]; omega) _
  · have hz := Classical.not_not.1 hbad
    have H := Lib.hid (HS.out.trans (if_neg hbad))
    rw [HZ.out hz]
    clear HS HZ hbad hz
    go_wp2_with fail
    refine bodyPost_ret (results_c rfl _ _ w.heap.size (.int .i64 0) (.int .i64 0) rfl ((blk_put2 br (.int .i64 0) (.int .i64 0)).alloc _)) rfl (FaultPost.mk_ H.out ?_)
    exact ((hbw.setCell (p := ⟨w.heap.size, 0, none⟩) (Nat.le_refl _) _).setCell (p := ⟨w.heap.size, 1, none⟩) (Nat.le_refl _) _).alloc (by simp [World.setCell]; omega) _
end Go.Proofs.YtjljknocnebnaaaGreatDoor
namespace Go.Proofs.YtjljknocnebnaaaGreatDoor
open Go.RowKit Go.V Go.Shelf Go.Lib
set_option linter.unusedVariables false
attribute [local go_sem] Oper.semAt_some

/-- The library's own variable at block 2 holds a number. -/
def Mx (w : World) : Prop := ∃ m, w.cell? ⟨2, 0, none⟩ = some (.int .i64 m)
theorem Mx.pos {w : World} (h : Mx w) : 2 < w.heap.size := by obtain ⟨m, hm⟩ := h; exact World.block_lt_of_cell? w _ hm
theorem Mx.below {w w' : World} (h : Mx w) (hb : Below w.heap.size w w') : Mx w' := by
  have hp := h.pos
  obtain ⟨m, hm⟩ := h; exact ⟨m, (hb.cell (p := ⟨2, 0, none⟩) hp).trans hm⟩
theorem Mx.fun_ {w : World} (h : Mx w) : ∀ w', Below w.heap.size w w' → Mx w' := fun w' hb => h.below hb
theorem results_c4 {fn : Func} {a : Tmp} (h : fn.results = #[.cell a 4]) (tmps : Array Value) (w : World) (g : Nat) (x : Value) (ha : tmps.getD a undef = .pointer (some ⟨g, 0, none⟩)) (hb : w.cell? ⟨g, 0, none⟩ = some x) :
    (results fn tmps).run Tryz.prog w = .ok x w := by
  have ha' : tmps[a]?.getD undef = .pointer (some ⟨g, 0, none⟩) := by simpa using ha
  simp [results, h, go_sem, ha', hb]
/-- All parts so far are right; one is not. -/
def GoodIn (ys : List Cx) : Prop := ∀ x ∈ ys, Tr.part x.1 = true
def BadIn (ys : List Cx) : Prop := ∃ x ∈ ys, Tr.part x.1 = false
theorem part_iff (l : List UInt8) : Tr.part l = (!(l == []) && !(l == [46]) && !(l == [46, 46]) && l.all Tr.letter) := by
  unfold Tr.part
  have e : ∀ m : List UInt8, decide (l ≠ m) = !(l == m) := fun m => by by_cases h : l = m <;> simp [h]
  rw [e, e, e]
theorem all_snoc {l : List UInt8} {i : Nat} (h : (l.take i).all Tr.letter = true) (hi : i < l.length) (hx : Tr.letter l[i] = true) : (l.take (i + 1)).all Tr.letter = true := by
  rw [List.take_succ_eq_append_getElem hi, List.all_append, h]; simp [hx]
set_option maxRecDepth 100000 in
set_option maxHeartbeats 16000000 in
theorem validPath_any (w : World) (hm : Mx w) (l : List UInt8) : Calls Tryz.prog 33 #[strV l] w fun e w' => e = .returned (.bool (Tr.pathOk l)) ∧ Below w.heap.size w w' := by
  by_cases hlen : l.length ≤ 60
  · have HQ := Lib.hid (show Tr.pathOk l = (Rf.comps l).all Tr.part from by unfold Tr.pathOk; rw [decide_eq_true hlen]; rfl)
    have hl' : ¬ (60 : Int) < l.length := by omega
    have hsz : (⟨l.toArray⟩ : ByteArray).size = l.length := by simp [ByteArray.size]
    generalize Tr.pathOk l = q at *
    refine (callsIn_wide (n := 5)).1 ?_
    refine callsIn_of_wp_marks Tryz.func33 rfl trivial ?_ rfl
    simp only [Tryz.ntmps33, List.size_toArray, List.length_cons, List.length_nil, Nat.reduceAdd, Nat.reduceSub, Array.replicate_succ, Array.replicate_zero, List.push_toArray, List.append_toArray, List.nil_append, List.cons_append]
    gi_wp2_with (refine ⟨trivial, ?_⟩; gi_at_call 57; refine (SplitSeq_in _ (by omega) _ _).mono ?_; rintro e w' ⟨rfl, rfl⟩)
    have hsz0 : (w.alloc (.cells #[.bool false] 4)).heap.size = w.heap.size + 1 := by simp
    have hszS : (splW (w.alloc (.cells #[.bool false] 4)) l).heap.size = w.heap.size + 4 := by simp [splW]
    have bS : Below w.heap.size w (splW (w.alloc (.cells #[.bool false] 4)) l) := (below_alloc3 _ _ _ _).mono (by simp) |> (below_alloc1 w (.cells #[.bool false] 4)).trans
    have rS : Blk (splW (w.alloc (.cells #[.bool false] 4)) l) w.heap.size 4 #[.bool false] := ((((Blk.new w 4 #[.bool false]).alloc _).alloc _).alloc _ : _)
    refine wpIn_rangeFunc_B (F := Fence.wide) rfl (by omega : 1 ≤ 5) (gf := 90) (lb := splC (w.alloc (.cells #[.bool false] 4))) rfl trivial (enters_of Tryz.func90 (by kernel_rfl) rfl)
      (split_in (5 - 1) (by omega) (w.alloc (.cells #[.bool false] 4)) l hlen) (by rw [hszS, hsz0]; omega) (fun h1 h2 => Below.trans h1 h2)
      (fun W k o o' hk ho h1 h2 => belowK_b (w := splW (w.alloc (.cells #[.bool false] 4)) l) (by rw [hszS, hsz0]; omega) W k o o' hk ho h1 h2) (fun _ => rfl)
      (fun pre W => GoodIn pre ∧ Below w.heap.size w W ∧ Blk W w.heap.size 4 #[.bool false] ∧ w.heap.size + 4 ≤ W.heap.size)
      (fun c pre W => BadIn pre ∧ c = .ret ∧ Below w.heap.size w W ∧ Blk W w.heap.size 4 #[.bool false])
      (fun s W W' row hs hg hr => ⟨hs.1, hs.2.1.grown hg hs.2.1.size (fun k e => by have := (hr k e).1; omega), hs.2.2.1.grown hg (fun e => by have := (hr _ e.symm).1; omega), Nat.le_trans hs.2.2.2 hg.size⟩)
      (fun c s W W' row hs hg hr => ⟨hs.1, hs.2.1, hs.2.2.1.grown hg hs.2.2.1.size (fun k e => by have := (hr k e).1; omega), hs.2.2.2.grown hg (fun e => by have := (hr _ e.symm).1; omega)⟩)
      (fun s W v hs => ⟨hs.1, hs.2.1.setCell (by simp) v, hs.2.2.1.far (by simp) v, by simpa [World.setCell] using hs.2.2.2⟩)
      (fun c s W v hs => ⟨hs.1, hs.2.1, hs.2.2.1.setCell (by simp) v, hs.2.2.2.far (by simp) v⟩)
      ⟨(fun x hx => by cases hx), bS, rS, by rw [hszS]; omega⟩
      (fun x : Cx => { tmps := #[strV l, undef, .pointer (some { block := w.heap.size, off := 0 }), strV x.1, undef, strV l, .int .i64 l.length, .bool false, strV l, .func (Fn.func 90) #[] (splC (w.alloc (Obj.cells #[Value.bool false] 4))), strV x.1, undef, undef, undef, undef, undef, undef, undef, undef, undef, undef, undef, undef, undef, undef, undef, undef, undef, undef, undef, undef, undef], defers := [] })
      ?assign ?body ?done ?stop
    case assign =>
      intro lr x W K hK
      gi_wp2
      exact hK
    case body =>
      rintro lr pre ⟨x, hx60⟩ W ⟨hall, hbW, hrb, hz4⟩ hplt
      have hsW := hbW.size
      have q0 : W.cell? ⟨w.heap.size, 0, none⟩ = some (.bool false) := (hrb.cell 0).trans rfl
      have qf := hrb.frozen 0
      have ql := hrb.lt
      have HP := Lib.hid (part_iff x)
      have sx : (⟨x.toArray⟩ : ByteArray).size = x.length := by simp [ByteArray.size]
      have HEXIT : Hid (Tr.part x = false → BadIn (pre ++ [(⟨x, hx60⟩ : Cx)])) := Lib.hid fun h => ⟨⟨x, hx60⟩, by simp, h⟩
      have HON : Hid (Tr.part x = true → GoodIn (pre ++ [(⟨x, hx60⟩ : Cx)])) := Lib.hid fun h y hy => by
        rcases List.mem_append.1 hy with hy | hy
        · exact hall y hy
        · rw [List.mem_singleton.1 hy]; exact h
      generalize hys : pre ++ [(⟨x, hx60⟩ : Cx)] = ys at *
      clear hall hys
      have HSTOP := Lib.hid (fun (h : Tr.part x = false) => show KeepsOthers W (W.setCell ⟨w.heap.size, 0, none⟩ (.bool false)) ∧ BadIn ys ∧ Below w.heap.size w (W.setCell ⟨w.heap.size, 0, none⟩ (.bool false)) ∧ Blk (W.setCell ⟨w.heap.size, 0, none⟩ (.bool false)) w.heap.size 4 #[.bool false] from
        ⟨KeepsOthers.setCell _ _ _, HEXIT.out h, hbW.setCell (by simp) _, by simpa using hrb.set_ 0 (.bool false)⟩)
      have HGO := Lib.hid (fun (h : Tr.part x = true) => show KeepsOthers W W ∧ KpS (w.heap.size + 1 + 3) W W ∧ GoodIn ys ∧ Below w.heap.size w W ∧ Blk W w.heap.size 4 #[.bool false] ∧ w.heap.size + 4 ≤ W.heap.size from
        ⟨KeepsOthers.refl _, Below.refl _ _, HON.out h, hbW, hrb, hz4⟩)
      clear HEXIT HON
      by_cases h0 : x = []
      · have HS := Lib.hid (HSTOP.out (by rw [HP.out, h0]; rfl))
        clear HSTOP HGO HP
        subst h0
        gi_wp2_with fail
        obtain ⟨a1, a2, a4, a5⟩ := HS.out
        exact ⟨a1, a2, rfl, a4, a5⟩
      have e0 : (x == []) = false := by simpa using h0
      by_cases h1 : x = [46]
      · have HS := Lib.hid (HSTOP.out (by rw [HP.out, h1]; rfl))
        clear HSTOP HGO HP
        subst h1
        gi_wp2_with fail
        obtain ⟨a1, a2, a4, a5⟩ := HS.out
        exact ⟨a1, a2, rfl, a4, a5⟩
      have e1 : (x == [46]) = false := by simpa using h1
      by_cases h2 : x = [46, 46]
      · have HS := Lib.hid (HSTOP.out (by rw [HP.out, h2]; rfl))
        clear HSTOP HGO HP
        subst h2
        gi_wp2_with fail
        obtain ⟨a1, a2, a4, a5⟩ := HS.out
        exact ⟨a1, a2, rfl, a4, a5⟩
      have e2 : (x == [46, 46]) = false := by simpa using h2
      have HP2 : Hid (Tr.part x = x.all Tr.letter) := Lib.hid (by rw [HP.out, e0, e1, e2]; simp)
      clear HP h0 h1 h2
      gi_wp2_with fail
      gi_loopw [23] (fun iv wr => ∃ i : Nat, i ≤ x.length ∧ iv = .int .i64 i ∧ Hid ((x.take i).all Tr.letter = true) ∧ wr = W) (fun iv _ => x.length - (intOf iv).toNat)
      case atStart => exact ⟨0, Nat.zero_le _, rfl, Lib.hid rfl, rfl⟩
      case round =>
        obtain ⟨i, hi, rfl, H, rfl⟩ := hrel
        by_cases hlt : i < x.length
        · have hlt' : (i : Int) < x.length := by omega
          have HN : Hid (Tr.letter x[i] = true → (x.take (i + 1)).all Tr.letter = true) := Lib.hid fun h => all_snoc H.out hlt h
          have HB : Hid (Tr.letter x[i] = false → Tr.part x = false) := Lib.hid fun h => by
            rw [HP2.out, List.all_eq_false]; exact ⟨x[i], List.getElem_mem hlt, by simp [h]⟩
          have hget : i < (⟨x.toArray⟩ : ByteArray).size := by rw [sx]; exact hlt
          have HLT0 := letter_any wr x[i]
          cases hc : Tr.letter x[i] with
          | true =>
            rw [hc] at HLT0
            have HLT : Hid (Calls Tryz.prog 58 #[.int .u8 (((⟨x.toArray⟩ : ByteArray)[i]'hget).toNat : Int)] wr fun e w' => e = .returned (.bool true) ∧ w' = wr) := Lib.hid HLT0
            clear HLT0
            have HN2 := Lib.hid (HN.out hc)
            clear HN HB hc HP2 H
            gi_wp2_with (refine ⟨trivial, ?_⟩; gi_at_call 58; with_reducible refine (CallsIn.inRound lr (callsIn_wide.2 HLT.out)).mono ?_; rintro e w' ⟨rfl, hw'⟩; have hw' := hw'.symm; subst hw')
            go_roundw
            case rel => exact ⟨i + 1, by omega, by go_num, HN2, by first | rfl | trivial⟩
            case measure => simp [intOf]; omega
          | false =>
            rw [hc] at HLT0
            have HLT : Hid (Calls Tryz.prog 58 #[.int .u8 (((⟨x.toArray⟩ : ByteArray)[i]'hget).toNat : Int)] wr fun e w' => e = .returned (.bool false) ∧ w' = wr) := Lib.hid HLT0
            clear HLT0
            have HS := Lib.hid (HSTOP.out (HB.out hc))
            clear HN HB hc HP2 H HSTOP HGO
            gi_wp2_with (refine ⟨trivial, ?_⟩; gi_at_call 58; with_reducible refine (CallsIn.inRound lr (callsIn_wide.2 HLT.out)).mono ?_; rintro e w' ⟨rfl, hw'⟩; have hw' := hw'.symm; subst hw')
            obtain ⟨a1, a2, a4, a5⟩ := HS.out
            exact ⟨a1, a2, rfl, a4, a5⟩
        · obtain rfl : i = x.length := by omega
          have HS := Lib.hid (HGO.out (by rw [HP2.out]; have := H.out; rwa [List.take_length] at this))
          clear H HP2 HSTOP HGO
          gi_wp2_with fail
          obtain ⟨a1, a2, a3, a4, a5, a6⟩ := HS.out
          exact ⟨a1, Below.refl _ _, a3, a4, a5, a6⟩
    case done =>
      rintro D ys W hD hS ⟨hall, hbW, hrb, hz4⟩ hK
      have hq : Hid (q = true) := Lib.hid (by
        rw [HQ.out, List.all_eq_true]; intro x hx
        rw [← hS] at hx
        obtain ⟨y, hy, rfl⟩ := List.mem_map.1 hx
        exact hall y hy)
      have q0 : W.cell? ⟨w.heap.size, 0, none⟩ = some (.bool false) := (hrb.cell 0).trans rfl
      have hf := hrb.frozen 0
      have hlt := hrb.lt
      gi_wp2
      have hne : D ≠ w.heap.size := by omega
      refine ⟨by simp, .inl ⟨_, _, rfl, run_takeDeferred ((heap_setCell_ne W w.heap.size D (.bool true) hne).trans hK), ?_⟩⟩
      have hg := grownBy_putObj' (W.setCell ⟨w.heap.size, 0, none⟩ (.bool true)) D (.deferred none)
      have hr2 := (hrb.set_ 0 (.bool true)).grown hg (fun e => hne (by injection e with e; exact e.symm))
      have hb2 := (hbW.setCell (p := ⟨w.heap.size, 0, none⟩) (Nat.le_refl _) (.bool true)).grown hg (by simpa [World.setCell] using hbW.size) (fun k e => by injection e with e; omega)
      exact ⟨_, results_c4 rfl _ _ w.heap.size (.bool true) rfl ((hr2.cell 0).trans rfl), by rw [hq.out], hb2⟩
    case stop =>
      rintro D c pre W hD ⟨r, hr⟩ ⟨hex, rfl, hbW, hrb⟩ hK
      have hq : Hid (q = false) := Lib.hid (by
        obtain ⟨x, hx, hc⟩ := hex
        rw [HQ.out, List.all_eq_false]; exact ⟨x.1, by rw [hr]; exact List.mem_append_left _ (List.mem_map.2 ⟨x, hx, rfl⟩), by simp [hc]⟩)
      have hne : D ≠ w.heap.size := by omega
      gi_wp2
      refine ⟨by simp, .inl ⟨_, _, rfl, run_takeDeferred hK, ?_⟩⟩
      have hg := grownBy_putObj' W D (.deferred none)
      have hr2 := hrb.grown hg (fun e => hne (by injection e with e; exact e.symm))
      have hb2 := hbW.grown hg hbW.size (fun k e => by injection e with e; omega)
      exact ⟨_, results_c4 rfl _ _ w.heap.size (.bool false) rfl ((hr2.cell 0).trans rfl), by rw [hq.out], hb2⟩
  · have HQ : Hid (Tr.pathOk l = false) := Lib.hid (by unfold Tr.pathOk; rw [decide_eq_false hlen]; rfl)
    have hl' : (60 : Int) < l.length := by omega
    have hsz : (⟨l.toArray⟩ : ByteArray).size = l.length := by simp [ByteArray.size]
    generalize Tr.pathOk l = q at *
    clear hlen
    go_enter Tryz.func33, Tryz.ntmps33
    go_wp2
    refine bodyPost_ret (results_c4 rfl _ _ w.heap.size (.bool false) rfl ?_) rfl ⟨by rw [HQ.out], ?_⟩
    · simp
    · exact below_alloc1 _ _
end Go.Proofs.YtjljknocnebnaaaGreatDoor
namespace Go.Proofs.YtjljknocnebnaaaGreatDoor
open Go.RowKit Go.V Go.Shelf
set_option linter.unusedVariables false

theorem less_eq : ∀ a b : List UInt8, Op.bytesLess a b = decide (a < b)
  | a, [] => by cases a <;> simp [Op.bytesLess]
  | [], y :: b => by simp [Op.bytesLess]
  | x :: a, y :: b => by
    rw [Op.bytesLess, less_eq a b, Bool.eq_iff_iff]
    simp [List.cons_lt_cons_iff]
theorem nlt_tri (a b : List UInt8) : a < b ∨ a = b ∨ b < a := by
  by_cases h : a < b
  · exact .inl h
  · by_cases k : b < a
    · exact .inr (.inr k)
    · exact .inr (.inl (List.le_antisymm (List.not_lt.1 k) (List.not_lt.1 h)))
theorem leq_true {a b : List UInt8} (h : ¬ a < b) : (Op.bytesLess b a || b == a) = true := by
  rw [less_eq, Bool.or_eq_true, decide_eq_true_iff, beq_iff_eq]
  rcases nlt_tri a b with k | k | k
  · exact absurd k h
  · exact .inr k.symm
  · exact .inl k
theorem leq_false {a b : List UInt8} (h : a < b) : (Op.bytesLess b a || b == a) = false := by
  rw [less_eq, Bool.or_eq_false_iff, decide_eq_false_iff_not, beq_eq_false_iff_ne]
  exact ⟨fun k => List.lt_irrefl a (List.lt_trans h k), fun k => List.lt_irrefl a (by rw [k] at h; exact h)⟩
theorem below_drewN' {B : Nat} {a w : World} (h : Below B a w) (n : Nat) : Below B a (w.drewN n) := below_drewN h n
theorem slice_to25 (W : World) (A : Option Addr) (n k m : Nat) (h : m ≤ k) : (Instr.slice 39 (.slice A n k) none (some (.int .i64 (m : Int))) none).run Tryz.prog W = .ok (.slice A m k) W := by
  have hu := Tryz.underlying39
  have h1 : (m : Int) ≤ k := by omega
  by_cases hk : k = 0
  · subst hk
    obtain rfl : m = 0 := by omega
    simp [Instr.slice, Instr.sliceBounds, Instr.sliceBound, go_sem]
  · have h2 : ¬ k = 0 := hk
    rcases A with _ | ⟨b, off, _⟩ <;> simp [Instr.slice, Instr.sliceBounds, Instr.sliceBound, go_sem] <;> (intro hh; omega)
theorem VfV.take {w : World} {X : Nat → Prop} {A : Option Addr} {t : List Tr.F} (h : VfV w X A t) (i : Nat) : VfV w X A (t.take i) := by
  obtain ⟨vs, h1, h2⟩ := h
  exact ⟨vs.take (i * 2), h1.take _, (RowsR.take FlR.len h2 i).1⟩
/-- The box of the tree and the result. -/
structure TvSt (w wr : World) (A : Option Addr) (n k : Nat) : Prop where
  bx : Blk wr w.heap.size 41 #[.slice A n k]
  r : Blk wr (w.heap.size + 1) 28 #[.int .i64 0, .int .i64 0]
  bel : Below w.heap.size w wr
section
variable {w wr w' : World} {A : Option Addr} {n k : Nat}
theorem TvSt.below (h : TvSt w wr A n k) (hb : Below wr.heap.size wr w') : TvSt w w' A n k :=
  ⟨h.bx.below hb h.bx.lt, h.r.below hb h.r.lt, h.bel.trans (hb.mono h.bel.size)⟩
theorem TvSt.facts (h : TvSt w wr A n k) : wr.cell? ⟨w.heap.size, 0, none⟩ = some (.slice A n k) ∧ wr.cell? ⟨w.heap.size + 1, 0, none⟩ = some (.int .i64 0) ∧ wr.cell? ⟨w.heap.size + 1, 1, none⟩ = some (.int .i64 0) ∧
    wr.frozen? ⟨w.heap.size + 1, 0, none⟩ = false ∧ wr.frozen? ⟨w.heap.size + 1, 1, none⟩ = false ∧ w.heap.size < wr.heap.size ∧ w.heap.size + 1 < wr.heap.size :=
  ⟨(h.bx.cell 0).trans rfl, (h.r.cell 0).trans rfl, (h.r.cell 1).trans rfl, h.r.frozen 0, h.r.frozen 1, h.bx.lt, h.r.lt⟩
theorem TvSt.put (h : TvSt w wr A n k) (u v : Value) : Blk ((wr.setCell ⟨w.heap.size + 1, 0, none⟩ u).setCell ⟨w.heap.size + 1, 1, none⟩ v) (w.heap.size + 1) 28 #[u, v] ∧ Below w.heap.size w ((wr.setCell ⟨w.heap.size + 1, 0, none⟩ u).setCell ⟨w.heap.size + 1, 1, none⟩ v) :=
  ⟨blk_put2 h.r u v, (h.bel.setCell (p := ⟨w.heap.size + 1, 0, none⟩) (by simp only; omega) u).setCell (p := ⟨w.heap.size + 1, 1, none⟩) (by simp only; omega) v⟩
end
set_option maxRecDepth 100000 in
set_option maxHeartbeats 16000000 in
theorem tvalidate_any (w : World) (hm : Mx w) (A : Option Addr) (k : Nat) (t : List Tr.F) (hv : VfV w Free A t) (hl : t.length ≤ 9223372036854775807) (hk : t.length ≤ k) :
    Calls Tryz.prog 20 #[.agg #[.slice A t.length k]] w (FaultPost w (Tr.vlF t)) := by
  have HV := Lib.hid (fun (w' : World) (hb : Below w.heap.size w w') => hv.keep (free_below hb))
  have HM := Lib.hid hm.fun_
  have HLF := Lib.hid (Tr.vlF.eq_1 t)
  generalize hr : Tr.vlF t = r at *
  clear hr hv hm
  have st0 : TvSt w ((w.alloc (.cells #[.slice A t.length k] 41)).alloc (.cells #[.int .i64 0, .int .i64 0] 28)) A t.length k := ⟨(Blk.new _ _ _).alloc _, blk_new1 _ _ _ _, below_alloc2 _ _ _⟩
  by_cases h24 : 24 < t.length
  · have H := Lib.hid (HLF.out.trans (if_pos h24))
    have h24' : (24 : Int) < t.length := by omega
    clear HLF h24
    go_enter Tryz.func20, Tryz.ntmps20
    go_wp2_with fail
    refine bodyPost_ret (results_c rfl _ _ (w.heap.size + 1) (.int .i64 2) (.int .i64 (-1)) rfl (blk_new1 w (.cells #[.slice A t.length k] 41) 28 #[.int .i64 2, .int .i64 (-1)])) rfl (FaultPost.mk_ H.out (below_alloc2 _ _ _))
  · have H := Lib.hid (HLF.out.trans (if_neg h24))
    have h24' : ¬ (24 : Int) < t.length := by omega
    clear HLF
    go_enter Tryz.func20, Tryz.ntmps20
    go_wp2_with fail
    go_loopw [14] (fun iv wr => ∃ i : Nat, i ≤ t.length ∧ iv = .int .i64 i ∧ Hid (r = Tr.vlFrom t i) ∧ Hid (∀ j, j < i → Tr.pathOk (Tr.it t j).path = true) ∧ TvSt w wr A t.length k) (fun iv _ => t.length - (intOf iv).toNat)
    case atStart => exact ⟨0, Nat.zero_le _, rfl, H, Lib.hid (fun j hj => by omega), st0⟩
    case round =>
      obtain ⟨i, hi, rfl, HI, HJ, st⟩ := hrel
      obtain ⟨wo, rfl⟩ : ∃ wo : World, wo = wr := ⟨_, rfl⟩
      by_cases hlt2 : i < t.length
      · have hlt' : (i : Int) < t.length := by omega
        obtain ⟨b, off, A', k', e, hb, _, d0, d1, dl⟩ := (HV.out _ st.bel).row i hlt2
        subst e
        have HC := Lib.hid (Tr.flC.eq_1 t i)
        have HIB := Lib.hid (fun h => HI.out.trans (Tr.vlFrom_bad t i hlt2 h))
        have HIN := Lib.hid (fun h => HI.out.trans (Tr.vlFrom_next t i hlt2 h))
        have HPRE := Lib.hid (fun (h0 : 0 < i) (w1 : World) (hb1 : Below w.heap.size w w1) => by
          obtain ⟨b2, off2, A2, k2, e2, hb2, _, c0, _, _⟩ := (HV.out _ hb1).row (i - 1) (by omega)
          simp at e2; obtain ⟨rfl, rfl⟩ := e2
          exact (⟨hb2, c0⟩ : b < w1.heap.size ∧ w1.cell? ⟨b, off + (i - 1) * 2, none⟩ = some (strV (Tr.it t (i - 1)).path)))
        clear HI
        have hal := below_alloc1 wo (.cells #[strV (Tr.it t i).path, .slice A' (Tr.it t i).lines.length k'] 38)
        have st1 := st.below hal
        have bf := Blk.new wo 38 #[strV (Tr.it t i).path, .slice A' (Tr.it t i).lines.length k']
        have HVP := Lib.hid (validPath_any (wo.alloc (.cells #[strV (Tr.it t i).path, .slice A' (Tr.it t i).lines.length k'] 38)) (HM.out _ st1.bel) (Tr.it t i).path)
        have HCL := Lib.hid (fun (w1 : World) (hb1 : Below w.heap.size w w1) (hp : (Tr.it t i).path.length ≤ 60) => by
          have := clash_any w1 (some ⟨b, off, none⟩) k (t.take i) (Tr.it t i).path ((HV.out _ hb1).take i) (by simp; omega) (fun j hj => by
            have hj' : j < i := by simp at hj; omega
            rw [← Tr.it_eq (t.take i) j hj, List.getElem_take, Tr.it_eq t j (by omega)]
            have := Tr.pathOk_len (HJ.out j hj'); omega) (by omega)
          rwa [List.length_take, Nat.min_eq_left (by omega)] at this)
        have HSEC := Lib.hid (fun (w1 : World) (hb1 : Below wo.heap.size wo w1) => lnSecond_any w1 A' k' (Tr.it t i).lines (i : Int) (dl.ls.keep (free_below hb1)) (by have := dl.ll; omega))
        have hs1 : ∀ W, (Instr.slice 39 (.slice (some ⟨b, off, none⟩) t.length k) none (some (.int .i64 (i : Int))) none).run Tryz.prog W = .ok (.slice (some ⟨b, off, none⟩) i k) W := fun W => slice_to25 W _ _ _ i (by omega)
        have hlz : Hid ((Tr.lnF (Tr.it t i).lines).1 = 0 → Tr.lnF (Tr.it t i).lines = (0, 0)) := Lib.hid lnF_zero
        have HPL := Lib.hid (fun h => Tr.pathOk_len (l := (Tr.it t i).path) h)
        have HJN : Hid (Tr.pathOk (Tr.it t i).path = true → ∀ j, j < i + 1 → Tr.pathOk (Tr.it t j).path = true) := Lib.hid fun h j hj => by
          by_cases e : j = i
          · subst e; exact h
          · exact HJ.out j (by omega)
        clear HJ dl
        generalize hfc : Tr.flC t i = fc at *
        clear hfc
        generalize hpv : (Tr.it t (i - 1)).path = pv at *
        clear hpv
        generalize Tr.clash (t.take i) (Tr.it t i).path = cl at *
        generalize Tr.it t i = x at *
        obtain ⟨p0, p1, p2, p3, p4, l0, l1⟩ := st1.facts
        have b0 := (bf.cell 0).trans rfl
        have b1 := (bf.cell 1).trans rfl
        have bl := bf.lt
        go_wp2_with fail
        go_at_call 33
        with_reducible refine HVP.out.mono ?_
        rintro e w1 ⟨rfl, hb1⟩
        have st2 := st1.below hb1
        have bf2 := bf.below hb1 bf.lt
        have hbo := hal.trans (hb1.mono hal.size)
        clear st1 bf hb1 HVP p0 p1 p2 p3 p4 l0 l1 b0 b1 bl hal
        obtain ⟨p0, p1, p2, p3, p4, l0, l1⟩ := st2.facts
        have b0 := (bf2.cell 0).trans rfl
        have b1 := (bf2.cell 1).trans rfl
        have bl := bf2.lt
        cases hpo : Tr.pathOk x.path with
        | false =>
          have H2 : Hid (r = (12, (i : Int))) := Lib.hid (by
            have e := HC.out; rw [if_pos hpo] at e
            have := HIB.out (by rw [e]; decide)
            rw [e] at this; exact this)
          clear HC HIB HIN HCL HSEC hlz HPL HJN hpo
          go_wp2_with fail
          obtain ⟨k1, k2⟩ := st2.put (.int .i64 12) (.int .i64 i)
          exact bodyPost_ret (results_c rfl _ _ (w.heap.size + 1) (.int .i64 12) (.int .i64 i) rfl k1) rfl (FaultPost.mk_ H2.out k2)
        | true =>
          have HC2 := Lib.hid (HC.out.trans (if_neg (by rw [hpo]; decide)))
          have hpl := HPL.out hpo
          have HJN2 := Lib.hid (HJN.out hpo)
          clear HC HPL HJN hpo
          have HKB := Lib.hid (fun (w6 : World) (h6 : Below w1.heap.size w1 w6) => show w6.cell? ⟨w.heap.size, 0, none⟩ = some (.slice (some ⟨b, off, none⟩) t.length k) ∧ w6.cell? ⟨wo.heap.size, 0, none⟩ = some (strV x.path) ∧ w6.cell? ⟨wo.heap.size, 1, none⟩ = some (.slice A' x.lines.length k') from
            ⟨(h6.cell (p := ⟨_, _, none⟩) l0).trans p0, (h6.cell (p := ⟨_, _, none⟩) bl).trans b0, (h6.cell (p := ⟨_, _, none⟩) bl).trans b1⟩)
          by_cases hbad : 0 < i ∧ ¬ pv < x.path
          · obtain ⟨hi0, hnl⟩ := hbad
            have H2 : Hid (r = (5, (i : Int))) := Lib.hid (by
              have e := HC2.out; rw [if_pos ⟨hi0, hnl⟩] at e
              have := HIB.out (by rw [e]; decide)
              rw [e] at this; exact this)
            obtain ⟨c0, c1⟩ := HPRE.out hi0 _ st2.bel
            have hi0' : (0 : Int) < i := by omega
            have hg1 : decide ((0 : Int) < i) = true := by simp; omega
            have hg2 : decide (0 < i) = true := by simp; omega
            have hsub : IntKind.i64.wrap ((i : Int) - 1) = ((i - 1 : Nat) : Int) := by rw [IntWalk.i64_in _ (by omega)]; omega
            have hj : ((i - 1 : Nat) : Int) < t.length := by omega
            have hle := leq_true hnl
            clear HC2 HIB HIN HCL HSEC hlz HJN2 HPRE hnl hi0 HKB
            generalize i - 1 = j at *
            go_wp2_with fail
            go_quiet (fail)
            go_wp2_with fail
            obtain ⟨k1, k2⟩ := (st2.below (below_drewN' (Below.refl _ _) nq)).put (.int .i64 5) (.int .i64 i)
            exact bodyPost_ret (results_c rfl _ _ (w.heap.size + 1) (.int .i64 5) (.int .i64 i) rfl k1) rfl (FaultPost.mk_ H2.out k2)
          · have HC3 := Lib.hid (HC2.out.trans (if_neg hbad))
            clear HC2
            go_wp2_with fail
            go_cut [26] (fun v wx => v = .bool false ∧ ∃ n, wx = w1.drewN n)
            case first =>
              by_cases hi0 : 0 < i
              · obtain ⟨c0, c1⟩ := HPRE.out hi0 _ st2.bel
                have hlt9 : pv < x.path := Classical.byContradiction fun h => hbad ⟨hi0, h⟩
                have hi0' : (0 : Int) < i := by omega
                have hg1 : decide ((0 : Int) < i) = true := by simp; omega
                have hg2 : decide (0 < i) = true := by simp; omega
                have hsub : IntKind.i64.wrap ((i : Int) - 1) = ((i - 1 : Nat) : Int) := by rw [IntWalk.i64_in _ (by omega)]; omega
                have hj : ((i - 1 : Nat) : Int) < t.length := by omega
                have hle := leq_false hlt9
                clear HC3 HIB HIN HCL HSEC hlz HJN2 HPRE hlt9 hi0 HKB hbad
                generalize i - 1 = j at *
                go_quiet (fail)
                go_wp2_with fail
                go_meet
                exact ⟨rfl, _, rfl⟩
              · have hi0' : ¬ (0 : Int) < i := by omega
                have hg1 : decide ((0 : Int) < i) = false := by simp; omega
                have hg2 : decide (0 < i) = false := by simp; omega
                clear HC3 HIB HIN HCL HSEC hlz HJN2 HPRE hi0 HKB hbad
                go_quiet (fail)
                go_wp2_with fail
                go_meet
                exact ⟨rfl, _, rfl⟩
            case rest =>
              obtain ⟨rfl, n2, rfl⟩ := hcut
              have hbz := below_drewN' (Below.refl w1.heap.size w1) n2
              have HK := Lib.hid (fun (w6 : World) (h6 : Below (w1.drewN n2).heap.size (w1.drewN n2) w6) => HKB.out w6 (hbz.trans (h6.mono hbz.size)))
              have st3 := st2.below hbz
              have bf3 := bf2.below hbz bf2.lt
              have hbo3 := hbo.trans (hbz.mono hbo.size)
              clear st2 bf2 hbo hbz HKB HPRE hbad p0 p1 p2 p3 p4 l0 l1 b0 b1 bl
              generalize w1.drewN n2 = wq at *
              have hk0 : Below wq.heap.size wq wq.drew := below_drew' (Below.refl _ _)
              have bl := bf3.lt
              have l0 := st3.bx.lt
              go_wp2_with fail
              go_region_held3 (fun w6 => w6.cell? ⟨w.heap.size, 0, none⟩ = some (.slice (some ⟨b, off, none⟩) t.length k) ∧ w6.cell? ⟨wo.heap.size, 0, none⟩ = some (strV x.path) ∧ w6.cell? ⟨wo.heap.size, 1, none⟩ = some (.slice A' x.lines.length k'))
                (first | exact HK.out _ hk0 | exact HK.out _ hk1)
                (first | (go_at_call 34; (with_reducible refine (HCL.out _ (st3.bel.trans (hk0.mono st3.bel.size)) hpl).mono ?_); rintro e v1 ⟨rfl, hv1⟩; have hk1 : Below wq.heap.size wq v1 := hk0.trans (hv1.mono hk0.size)))
              have st4 := st3.below hk1
              have bf4 := bf3.below hk1 bf3.lt
              have hbo4 := hbo3.trans (hk1.mono hbo3.size)
              clear st3 bf3 hbo3 hk0 hk1 hv1 bl l0 HK HCL
              obtain ⟨p0, p1, p2, p3, p4, l0, l1⟩ := st4.facts
              have b0 := (bf4.cell 0).trans rfl
              have b1 := (bf4.cell 1).trans rfl
              have bl := bf4.lt
              cases cl with
              | true =>
                have H2 : Hid (r = (7, (i : Int))) := Lib.hid (by
                  have e := HC3.out; rw [if_pos rfl] at e
                  have := HIB.out (by rw [e]; decide)
                  rw [e] at this; exact this)
                clear HC3 HIB HIN HSEC hlz HJN2
                go_wp2_with fail
                obtain ⟨k1, k2⟩ := st4.put (.int .i64 7) (.int .i64 i)
                exact bodyPost_ret (results_c rfl _ _ (w.heap.size + 1) (.int .i64 7) (.int .i64 i) rfl k1) rfl (FaultPost.mk_ H2.out k2)
              | false =>
                have HC4 := Lib.hid (HC3.out.trans (if_neg (by decide)))
                clear HC3
                have HS2 := Lib.hid (HSEC.out _ hbo4)
                clear HSEC
                go_wp2_with fail
                go_at_call 35
                with_reducible refine HS2.out.mono ?_
                rintro e w5 ⟨rfl, hb5⟩
                have st5 := st4.below hb5
                clear st4 bf4 hbo4 p0 p1 p2 p3 p4 l0 l1 b0 b1 bl HS2
                obtain ⟨p0, p1, p2, p3, p4, l0, l1⟩ := st5.facts
                by_cases hln : (Tr.lnF x.lines).1 ≠ 0
                · have H2 : Hid (r = ((Tr.lnF x.lines).1, (i : Int))) := Lib.hid (by
                    have e := HC4.out
                    have := HIB.out (by rw [e]; exact hln)
                    rw [e] at this; exact this)
                  have hsf : secF (Tr.lnF x.lines) (i : Int) = ((Tr.lnF x.lines).1, (i : Int)) := if_pos hln
                  have hx1 : ((Tr.lnF x.lines).1 == 0) = false := by simpa using hln
                  have hx2 : ((Tr.lnF x.lines).1 != 0) = true := by simpa using hln
                  rw [hsf]
                  clear HC4 HIB HIN hlz HJN2 hsf hln
                  generalize (Tr.lnF x.lines).1 = cd at *
                  go_wp2_with fail
                  obtain ⟨k1, k2⟩ := st5.put (.int .i64 cd) (.int .i64 i)
                  exact bodyPost_ret (results_c rfl _ _ (w.heap.size + 1) (.int .i64 cd) (.int .i64 i) rfl (k1.alloc _)) rfl (FaultPost.mk_ H2.out (k2.alloc (by simp [World.setCell]; omega) _))
                · have hz := Classical.not_not.1 hln
                  have H2 := Lib.hid (HIN.out (by rw [HC4.out, hz]))
                  have hsf : secF (Tr.lnF x.lines) (i : Int) = (0, 0) := if_neg hln
                  rw [hsf]
                  have st6 := st5.below (below_alloc1 w5 (.cells #[.int .i64 0, .int .i64 0] 28))
                  clear HC4 HIB HIN hlz hsf hln hz
                  go_wp2_with fail
                  go_roundw
                  case rel => exact ⟨i + 1, by omega, by go_num, H2, HJN2, st6⟩
                  case measure => simp [intOf]; omega
      · obtain rfl : i = t.length := by omega
        have H2 : Hid (r = (0, 0)) := Lib.hid (by rw [HI.out, Tr.vlFrom_end t _ (Nat.le_refl _)])
        obtain ⟨p0, p1, p2, p3, p4, l0, l1⟩ := st.facts
        clear HI
        go_wp2_with fail
        obtain ⟨k1, k2⟩ := st.put (.int .i64 0) (.int .i64 0)
        exact bodyPost_ret (results_c rfl _ _ (w.heap.size + 1) (.int .i64 0) (.int .i64 0) rfl k1) rfl (FaultPost.mk_ H2.out k2)
end Go.Proofs.YtjljknocnebnaaaGreatDoor
namespace Go.Proofs.YtjljknocnebnaaaGreatDoor
open Go.RowKit Go.V Go.Shelf
set_option linter.unusedVariables false

set_option maxHeartbeats 4000000 in
theorem tsecond_any (w : World) (hm : Mx w) (A : Option Addr) (k : Nat) (t : List Tr.F) (i : Int) (hv : VfV w Free A t) (hl : t.length ≤ 9223372036854775807) (hk : t.length ≤ k) :
    Calls Tryz.prog 22 #[.agg #[.slice A t.length k], .int .i64 i] w (FaultPost w (secF (Tr.vlF t) i)) := by
  have HC := Lib.hid (fun (w1 : World) (hb : Below w.heap.size w w1) => tvalidate_any w1 (hm.below hb) A k t (hv.keep (free_below hb)) hl hk)
  have HZ := Lib.hid (fun (h : (Tr.vlF t).1 = 0) => (Tr.vlF_ok h).1)
  have HS := Lib.hid (secF.eq_1 (Tr.vlF t) i)
  generalize hr : secF (Tr.vlF t) i = r at *
  clear hr hv hm
  have st0 : TvSt w ((w.alloc (.cells #[.slice A t.length k] 41)).alloc (.cells #[.int .i64 0, .int .i64 0] 28)) A t.length k := ⟨(Blk.new _ _ _).alloc _, blk_new1 _ _ _ _, below_alloc2 _ _ _⟩
  go_enter Tryz.func22, Tryz.ntmps22
  go_wp2_with fail
  go_at_call 20
  with_reducible refine (HC.out _ st0.bel).mono ?_
  rintro e w1 ⟨rfl, hb1⟩
  have st := st0.below hb1
  clear HC st0 hb1
  obtain ⟨p0, p1, p2, p3, p4, l0, l1⟩ := st.facts
  by_cases hbad : (Tr.vlF t).1 ≠ 0
  · have H := Lib.hid (HS.out.trans (if_pos hbad))
    have hx1 : ((Tr.vlF t).1 == 0) = false := by simpa using hbad
    have hx2 : ((Tr.vlF t).1 != 0) = true := by simpa using hbad
    clear HS HZ hbad
    generalize Tr.vlF t = q at *
    obtain ⟨cd, ix⟩ := q
    simp only at hx1 hx2
    go_wp2_with fail
    obtain ⟨k1, k2⟩ := st.put (.int .i64 cd) (.int .i64 i)
    exact bodyPost_ret (results_c rfl _ _ (w.heap.size + 1) (.int .i64 cd) (.int .i64 i) rfl (k1.alloc _)) rfl (FaultPost.mk_ H.out (k2.alloc (by simp [World.setCell]; omega) _))
  · have hz := Classical.not_not.1 hbad
    have H := Lib.hid (HS.out.trans (if_neg hbad))
    rw [HZ.out hz]
    clear HS HZ hbad hz
    go_wp2_with fail
    obtain ⟨k1, k2⟩ := st.put (.int .i64 0) (.int .i64 0)
    exact bodyPost_ret (results_c rfl _ _ (w.heap.size + 1) (.int .i64 0) (.int .i64 0) rfl (k1.alloc _)) rfl (FaultPost.mk_ H.out (k2.alloc (by simp [World.setCell]; omega) _))
/-- Equality of two lists up to i. -/
theorem eq_uptoS {α : Type} {a b : List α} (hl : a.length = b.length) (h : ∀ j, j < a.length → a[j]? = b[j]?) : a = b :=
  List.ext_getElem? fun j => by
    by_cases hj : j < a.length
    · exact h j hj
    · rw [List.getElem?_eq_none (by omega), List.getElem?_eq_none (by omega)]
set_option maxHeartbeats 1600000 in
theorem strings_any (w : World) (A1 A2 : Option Addr) (c1 c2 : Nat) (l1 l2 : List (List UInt8)) (h1 : SA w Free A1 (ssV l1)) (h2 : SA w Free A2 (ssV l2)) (hl1 : l1.length ≤ 9223372036854775807) (hl2 : l2.length ≤ 9223372036854775807) :
    Calls Tryz.prog 7 #[.slice A1 l1.length c1, .slice A2 l2.length c2] w fun e w' => e = .returned (.bool (decide (l1 = l2))) ∧ ∃ n, w' = w.drewN n := by
  by_cases hlen : l1.length = l2.length
  · have hlen' : ((l1.length : Int) != l2.length) = false := by simp [hlen]
    have HL := Lib.hid hlen
    clear hlen
    go_enter Tryz.func7, Tryz.ntmps7
    go_wp2_with fail
    go_loopw [5] (fun k wr => ∃ i : Nat, i ≤ l1.length ∧ k = .int .i64 i ∧ Hid (∀ j, j < i → l1[j]? = l2[j]?) ∧ ∃ n, wr = w.drewN n) (fun k _ => l1.length - (intOf k).toNat)
    case atStart => exact ⟨0, Nat.zero_le _, rfl, Lib.hid (fun j hj => by omega), 0, rfl⟩
    case round =>
      obtain ⟨i, hi, rfl, H, n, rfl⟩ := hrel
      by_cases hlt : i < l1.length
      · have hlt2 : i < l2.length := by rw [← HL.out]; exact hlt
        obtain ⟨b1, o1, rfl, _, _, x1⟩ := ssV_row h1 i hlt
        obtain ⟨b2, o2, rfl, _, _, x2⟩ := ssV_row h2 i hlt2
        have hlt' : (i : Int) < l1.length := by omega
        have hlt2' : (i : Int) < l2.length := by omega
        by_cases he : l1[i] = l2[i]
        · have H' : Hid (∀ j, j < i + 1 → l1[j]? = l2[j]?) := Lib.hid fun j hj => by
            by_cases e : j = i
            · subst e; rw [List.getElem?_eq_getElem hlt, List.getElem?_eq_getElem hlt2, he]
            · exact H.out j (by omega)
          have he' : (l1[i] != l2[i]) = false := by simp [he]
          have he2 : (l1[i] == l2[i]) = true := by simp [he]
          clear he
          generalize l1[i] = u1 at *
          generalize l2[i] = u2 at *
          go_wp2_with fail
          go_quiet (fail)
          go_wp2
          go_roundw
          case rel => exact ⟨i + 1, by omega, by go_num, H', _, rfl⟩
          case measure => simp [intOf]; omega
        · have HN : Hid (decide (l1 = l2) = false) := Lib.hid (decide_eq_false fun e => he (by subst e; rfl))
          have he' : (l1[i] != l2[i]) = true := by simpa using he
          have he2 : (l1[i] == l2[i]) = false := by simpa using he
          clear he
          generalize l1[i] = u1 at *
          generalize l2[i] = u2 at *
          go_wp2_with fail
          go_quiet (fail)
          go_wp2
          go_ret
          exact ⟨by rw [HN.out]; rfl, n + nq, by simp [World.drewN_drewN]⟩
      · obtain rfl : i = l1.length := by omega
        have HY : Hid (decide (l1 = l2) = true) := Lib.hid (decide_eq_true (eq_uptoS HL.out H.out))
        go_wp2
        go_ret
        exact ⟨by rw [HY.out]; rfl, _, rfl⟩
  · have hlen' : ((l1.length : Int) != l2.length) = true := by simp; omega
    have HN : Hid (decide (l1 = l2) = false) := Lib.hid (decide_eq_false fun e => hlen (by rw [e]))
    clear hlen
    go_enter Tryz.func7, Tryz.ntmps7
    go_wp2_with fail
    go_ret
    exact ⟨by rw [HN.out]; rfl, 0, rfl⟩

end Go.Proofs.YtjljknocnebnaaaGreatDoor
namespace Tr
/-- The place of a digest, the first one, or -1. -/
def AtIs (s : List Ob.S) (d : Int) (r : Int) : Prop := (r = -1 ∧ ∀ j, j < s.length → (Ob.it s j).dig ≠ d) ∨ ∃ i : Nat, r = (i : Int) ∧ i < s.length ∧ (Ob.it s i).dig = d ∧ ∀ j, j < i → (Ob.it s j).dig ≠ d
end Tr
namespace Go.Proofs.YtjljknocnebnaaaGreatDoor
open Go.RowKit Go.V Go.Shelf
set_option linter.unusedVariables false

set_option maxRecDepth 100000 in
set_option maxHeartbeats 4000000 in
theorem at2_any (w : World) (A : Option Addr) (k : Nat) (s : List Ob.S) (d : Int) (hv : StV w Free A s) (hl : s.length ≤ 1000000000) :
    Calls Tryz.prog 17 #[.agg #[.slice A s.length k], .int .i64 d] w fun e w' => (∃ r, e = .returned (.int .i64 r) ∧ Tr.AtIs s d r) ∧ Below w.heap.size w w' := by
  have hbel : Below w.heap.size w (w.alloc (.cells #[.slice A s.length k] 24)) := below_alloc1 _ _
  have q1 := Blk.new w 24 #[.slice A s.length k]
  have p1 := (q1.cell 0).trans rfl
  have l1 := q1.lt
  have HV := Lib.hid hbel
  have HG := Lib.hid (fun i hi => (hv.keep (free_below hbel)).row i hi)
  clear hv q1 hbel
  go_enter Tryz.func17, Tryz.ntmps17
  go_wp2_with fail
  generalize hW : w.alloc (.cells #[.slice A s.length k] 24) = W at *
  go_loopw [5] (fun kv wr => ∃ i : Nat, i ≤ s.length ∧ kv = .int .i64 i ∧ Hid (∀ j, j < i → (Ob.it s j).dig ≠ d) ∧ wr = W) (fun kv _ => s.length - (intOf kv).toNat)
  case atStart => exact ⟨0, Nat.zero_le _, rfl, Lib.hid (fun j hj => by omega), rfl⟩
  case round =>
    obtain ⟨i, hi, rfl, H, rfl⟩ := hrel
    by_cases hlt : i < s.length
    · have hlt' : (i : Int) < s.length := by omega
      obtain ⟨b, off, Al, kl, Ad, kd, rfl, hb, _, c0, _, _, _, hI, _⟩ := HG.out i hlt
      have HY := Lib.hid (fun (e : (Ob.it s i).dig = d) => (show Tr.AtIs s d (i : Int) from .inr ⟨i, rfl, hlt, e, H.out⟩))
      have HN := Lib.hid (fun (e : (Ob.it s i).dig ≠ d) => (show ∀ j, j < i + 1 → (Ob.it s j).dig ≠ d from fun j hj => by
        by_cases h : j = i
        · subst h; exact e
        · exact H.out j (by omega)))
      clear H
      generalize (Ob.it s i).dig = x at *
      by_cases he : x = d
      · have hx : (x == d) = true := by simpa using he
        have H2 := Lib.hid (HY.out he)
        clear he HY HN
        go_wp2_with fail
        go_ret
        exact ⟨⟨_, rfl, H2.out⟩, HV.out⟩
      · have hx : (x == d) = false := by simpa using he
        have H2 := Lib.hid (HN.out he)
        clear he HY HN
        go_wp2_with fail
        go_roundw
        case rel => refine ⟨i + 1, by omega, by go_num, H2, trivial⟩
        case measure => simp [intOf]; omega
    · obtain rfl : i = s.length := by omega
      go_wp2_with fail
      go_ret
      exact ⟨⟨_, rfl, .inl ⟨rfl, H.out⟩⟩, HV.out⟩
end Go.Proofs.YtjljknocnebnaaaGreatDoor
