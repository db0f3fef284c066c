/-
  File trees: walks of 'Letter', 'Related', 'Clash', of 'lines.Validate', 'lines.Second'.
-/
import Derived.Test.YtjfckjonfpkphaaDoorTrV
import Derived.Test.YtjfckjonfpkphaaDoorShelf
namespace Go.Proofs.YtjfckjonfpkphaaDoor
open Go.RowKit Go.V Go.Shelf
set_option linter.unusedVariables false

set_option maxHeartbeats 4000000 in
theorem letter_any (w : World) (c : UInt8) : Calls Tryd.prog 22 #[.int .u8 (c.toNat : Int)] w fun e w' => e = .returned (.bool (Tr.letter c)) ∧ w' = w := by
  have HL0 := Tr.letter.eq_1 c
  generalize Tr.letter c = q at *
  generalize c.toNat = n at *
  have HL := Lib.hid HL0
  clear HL0
  by_cases h0 : 97 ≤ n
  · by_cases h1 : n ≤ 122
    · have g97 : (97 : Int) ≤ n := by omega
      have g65 : (65 : Int) ≤ n := by omega
      have g48 : (48 : Int) ≤ n := by omega
      have g122 : (n : Int) ≤ 122 := by omega
      have g90 : ¬ (n : Int) ≤ 90 := by omega
      have g57 : ¬ (n : Int) ≤ 57 := by omega
      have g46 : ((n : Int) == 46) = false := by simp; omega
      have g95 : ((n : Int) == 95) = false := by simp; omega
      have g45 : ((n : Int) == 45) = false := by simp; omega
      have k97 : 97 ≤ n := by omega
      have k65 : 65 ≤ n := by omega
      have k48 : 48 ≤ n := by omega
      have k122 : n ≤ 122 := by omega
      have k90 : ¬ n ≤ 90 := by omega
      have k57 : ¬ n ≤ 57 := by omega
      have k46 : ¬ n = 46 := by omega
      have k95 : ¬ n = 95 := by omega
      have k45 : ¬ n = 45 := by omega
      have H : Hid (q = true) := Lib.hid (by rw [HL.out]; simp [k97, k122, k65, k90, k48, k57, k46, k95, k45])
      clear HL k97 k122 k65 k90 k48 k57 k46 k95 k45
      go_enter Tryd.func22, Tryd.ntmps22
      go_wp2_with fail
      go_ret
      exact ⟨by rw [H.out]; rfl, rfl⟩
    · have g97 : (97 : Int) ≤ n := by omega
      have g65 : (65 : Int) ≤ n := by omega
      have g48 : (48 : Int) ≤ n := by omega
      have g122 : ¬ (n : Int) ≤ 122 := by omega
      have g90 : ¬ (n : Int) ≤ 90 := by omega
      have g57 : ¬ (n : Int) ≤ 57 := by omega
      have g46 : ((n : Int) == 46) = false := by simp; omega
      have g95 : ((n : Int) == 95) = false := by simp; omega
      have g45 : ((n : Int) == 45) = false := by simp; omega
      have k97 : 97 ≤ n := by omega
      have k65 : 65 ≤ n := by omega
      have k48 : 48 ≤ n := by omega
      have k122 : ¬ n ≤ 122 := by omega
      have k90 : ¬ n ≤ 90 := by omega
      have k57 : ¬ n ≤ 57 := by omega
      have k46 : ¬ n = 46 := by omega
      have k95 : ¬ n = 95 := by omega
      have k45 : ¬ n = 45 := by omega
      have H : Hid (q = false) := Lib.hid (by rw [HL.out]; simp [k97, k122, k65, k90, k48, k57, k46, k95, k45])
      clear HL k97 k122 k65 k90 k48 k57 k46 k95 k45
      go_enter Tryd.func22, Tryd.ntmps22
      go_wp2_with fail
      go_ret
      exact ⟨by rw [H.out]; rfl, rfl⟩
  · by_cases h50 : 65 ≤ n
    · by_cases h51 : n ≤ 90
      · have g97 : ¬ (97 : Int) ≤ n := by omega
        have g65 : (65 : Int) ≤ n := by omega
        have g48 : (48 : Int) ≤ n := by omega
        have g122 : (n : Int) ≤ 122 := by omega
        have g90 : (n : Int) ≤ 90 := by omega
        have g57 : ¬ (n : Int) ≤ 57 := by omega
        have g46 : ((n : Int) == 46) = false := by simp; omega
        have g95 : ((n : Int) == 95) = false := by simp; omega
        have g45 : ((n : Int) == 45) = false := by simp; omega
        have k97 : ¬ 97 ≤ n := by omega
        have k65 : 65 ≤ n := by omega
        have k48 : 48 ≤ n := by omega
        have k122 : n ≤ 122 := by omega
        have k90 : n ≤ 90 := by omega
        have k57 : ¬ n ≤ 57 := by omega
        have k46 : ¬ n = 46 := by omega
        have k95 : ¬ n = 95 := by omega
        have k45 : ¬ n = 45 := by omega
        have H : Hid (q = true) := Lib.hid (by rw [HL.out]; simp [k97, k122, k65, k90, k48, k57, k46, k95, k45])
        clear HL k97 k122 k65 k90 k48 k57 k46 k95 k45
        go_enter Tryd.func22, Tryd.ntmps22
        go_wp2_with fail
        go_ret
        exact ⟨by rw [H.out]; rfl, rfl⟩
      · by_cases h76 : n = 95
        · have g97 : ¬ (97 : Int) ≤ n := by omega
          have g65 : (65 : Int) ≤ n := by omega
          have g48 : (48 : Int) ≤ n := by omega
          have g122 : (n : Int) ≤ 122 := by omega
          have g90 : ¬ (n : Int) ≤ 90 := by omega
          have g57 : ¬ (n : Int) ≤ 57 := by omega
          have g46 : ((n : Int) == 46) = false := by simp; omega
          have g95 : ((n : Int) == 95) = true := by simp; omega
          have g45 : ((n : Int) == 45) = false := by simp; omega
          have k97 : ¬ 97 ≤ n := by omega
          have k65 : 65 ≤ n := by omega
          have k48 : 48 ≤ n := by omega
          have k122 : n ≤ 122 := by omega
          have k90 : ¬ n ≤ 90 := by omega
          have k57 : ¬ n ≤ 57 := by omega
          have k46 : ¬ n = 46 := by omega
          have k95 : n = 95 := by omega
          have k45 : ¬ n = 45 := by omega
          have H : Hid (q = true) := Lib.hid (by rw [HL.out]; simp [k97, k122, k65, k90, k48, k57, k46, k95, k45])
          clear HL k97 k122 k65 k90 k48 k57 k46 k95 k45
          go_enter Tryd.func22, Tryd.ntmps22
          go_wp2_with fail
          go_ret
          exact ⟨by rw [H.out]; rfl, rfl⟩
        · by_cases h101 : n < 95
          · have g97 : ¬ (97 : Int) ≤ n := by omega
            have g65 : (65 : Int) ≤ n := by omega
            have g48 : (48 : Int) ≤ n := by omega
            have g122 : (n : Int) ≤ 122 := by omega
            have g90 : ¬ (n : Int) ≤ 90 := by omega
            have g57 : ¬ (n : Int) ≤ 57 := by omega
            have g46 : ((n : Int) == 46) = false := by simp; omega
            have g95 : ((n : Int) == 95) = false := by simp; omega
            have g45 : ((n : Int) == 45) = false := by simp; omega
            have k97 : ¬ 97 ≤ n := by omega
            have k65 : 65 ≤ n := by omega
            have k48 : 48 ≤ n := by omega
            have k122 : n ≤ 122 := by omega
            have k90 : ¬ n ≤ 90 := by omega
            have k57 : ¬ n ≤ 57 := by omega
            have k46 : ¬ n = 46 := by omega
            have k95 : ¬ n = 95 := by omega
            have k45 : ¬ n = 45 := by omega
            have H : Hid (q = false) := Lib.hid (by rw [HL.out]; simp [k97, k122, k65, k90, k48, k57, k46, k95, k45])
            clear HL k97 k122 k65 k90 k48 k57 k46 k95 k45
            go_enter Tryd.func22, Tryd.ntmps22
            go_wp2_with fail
            go_ret
            exact ⟨by rw [H.out]; rfl, rfl⟩
          · have g97 : ¬ (97 : Int) ≤ n := by omega
            have g65 : (65 : Int) ≤ n := by omega
            have g48 : (48 : Int) ≤ n := by omega
            have g122 : (n : Int) ≤ 122 := by omega
            have g90 : ¬ (n : Int) ≤ 90 := by omega
            have g57 : ¬ (n : Int) ≤ 57 := by omega
            have g46 : ((n : Int) == 46) = false := by simp; omega
            have g95 : ((n : Int) == 95) = false := by simp; omega
            have g45 : ((n : Int) == 45) = false := by simp; omega
            have k97 : ¬ 97 ≤ n := by omega
            have k65 : 65 ≤ n := by omega
            have k48 : 48 ≤ n := by omega
            have k122 : n ≤ 122 := by omega
            have k90 : ¬ n ≤ 90 := by omega
            have k57 : ¬ n ≤ 57 := by omega
            have k46 : ¬ n = 46 := by omega
            have k95 : ¬ n = 95 := by omega
            have k45 : ¬ n = 45 := by omega
            have H : Hid (q = false) := Lib.hid (by rw [HL.out]; simp [k97, k122, k65, k90, k48, k57, k46, k95, k45])
            clear HL k97 k122 k65 k90 k48 k57 k46 k95 k45
            go_enter Tryd.func22, Tryd.ntmps22
            go_wp2_with fail
            go_ret
            exact ⟨by rw [H.out]; rfl, rfl⟩
    · by_cases h150 : 48 ≤ n
      · by_cases h151 : n ≤ 57
        · have g97 : ¬ (97 : Int) ≤ n := by omega
          have g65 : ¬ (65 : Int) ≤ n := by omega
          have g48 : (48 : Int) ≤ n := by omega
          have g122 : (n : Int) ≤ 122 := by omega
          have g90 : (n : Int) ≤ 90 := by omega
          have g57 : (n : Int) ≤ 57 := by omega
          have g46 : ((n : Int) == 46) = false := by simp; omega
          have g95 : ((n : Int) == 95) = false := by simp; omega
          have g45 : ((n : Int) == 45) = false := by simp; omega
          have k97 : ¬ 97 ≤ n := by omega
          have k65 : ¬ 65 ≤ n := by omega
          have k48 : 48 ≤ n := by omega
          have k122 : n ≤ 122 := by omega
          have k90 : n ≤ 90 := by omega
          have k57 : n ≤ 57 := by omega
          have k46 : ¬ n = 46 := by omega
          have k95 : ¬ n = 95 := by omega
          have k45 : ¬ n = 45 := by omega
          have H : Hid (q = true) := Lib.hid (by rw [HL.out]; simp [k97, k122, k65, k90, k48, k57, k46, k95, k45])
          clear HL k97 k122 k65 k90 k48 k57 k46 k95 k45
          go_enter Tryd.func22, Tryd.ntmps22
          go_wp2_with fail
          go_ret
          exact ⟨by rw [H.out]; rfl, rfl⟩
        · have g97 : ¬ (97 : Int) ≤ n := by omega
          have g65 : ¬ (65 : Int) ≤ n := by omega
          have g48 : (48 : Int) ≤ n := by omega
          have g122 : (n : Int) ≤ 122 := by omega
          have g90 : (n : Int) ≤ 90 := by omega
          have g57 : ¬ (n : Int) ≤ 57 := by omega
          have g46 : ((n : Int) == 46) = false := by simp; omega
          have g95 : ((n : Int) == 95) = false := by simp; omega
          have g45 : ((n : Int) == 45) = false := by simp; omega
          have k97 : ¬ 97 ≤ n := by omega
          have k65 : ¬ 65 ≤ n := by omega
          have k48 : 48 ≤ n := by omega
          have k122 : n ≤ 122 := by omega
          have k90 : n ≤ 90 := by omega
          have k57 : ¬ n ≤ 57 := by omega
          have k46 : ¬ n = 46 := by omega
          have k95 : ¬ n = 95 := by omega
          have k45 : ¬ n = 45 := by omega
          have H : Hid (q = false) := Lib.hid (by rw [HL.out]; simp [k97, k122, k65, k90, k48, k57, k46, k95, k45])
          clear HL k97 k122 k65 k90 k48 k57 k46 k95 k45
          go_enter Tryd.func22, Tryd.ntmps22
          go_wp2_with fail
          go_ret
          exact ⟨by rw [H.out]; rfl, rfl⟩
      · by_cases h200 : n = 46
        · have g97 : ¬ (97 : Int) ≤ n := by omega
          have g65 : ¬ (65 : Int) ≤ n := by omega
          have g48 : ¬ (48 : Int) ≤ n := by omega
          have g122 : (n : Int) ≤ 122 := by omega
          have g90 : (n : Int) ≤ 90 := by omega
          have g57 : (n : Int) ≤ 57 := by omega
          have g46 : ((n : Int) == 46) = true := by simp; omega
          have g95 : ((n : Int) == 95) = false := by simp; omega
          have g45 : ((n : Int) == 45) = false := by simp; omega
          have k97 : ¬ 97 ≤ n := by omega
          have k65 : ¬ 65 ≤ n := by omega
          have k48 : ¬ 48 ≤ n := by omega
          have k122 : n ≤ 122 := by omega
          have k90 : n ≤ 90 := by omega
          have k57 : n ≤ 57 := by omega
          have k46 : n = 46 := by omega
          have k95 : ¬ n = 95 := by omega
          have k45 : ¬ n = 45 := by omega
          have H : Hid (q = true) := Lib.hid (by rw [HL.out]; simp [k97, k122, k65, k90, k48, k57, k46, k95, k45])
          clear HL k97 k122 k65 k90 k48 k57 k46 k95 k45
          go_enter Tryd.func22, Tryd.ntmps22
          go_wp2_with fail
          go_ret
          exact ⟨by rw [H.out]; rfl, rfl⟩
        · by_cases h225 : n = 45
          · have g97 : ¬ (97 : Int) ≤ n := by omega
            have g65 : ¬ (65 : Int) ≤ n := by omega
            have g48 : ¬ (48 : Int) ≤ n := by omega
            have g122 : (n : Int) ≤ 122 := by omega
            have g90 : (n : Int) ≤ 90 := by omega
            have g57 : (n : Int) ≤ 57 := by omega
            have g46 : ((n : Int) == 46) = false := by simp; omega
            have g95 : ((n : Int) == 95) = false := by simp; omega
            have g45 : ((n : Int) == 45) = true := by simp; omega
            have k97 : ¬ 97 ≤ n := by omega
            have k65 : ¬ 65 ≤ n := by omega
            have k48 : ¬ 48 ≤ n := by omega
            have k122 : n ≤ 122 := by omega
            have k90 : n ≤ 90 := by omega
            have k57 : n ≤ 57 := by omega
            have k46 : ¬ n = 46 := by omega
            have k95 : ¬ n = 95 := by omega
            have k45 : n = 45 := by omega
            have H : Hid (q = true) := Lib.hid (by rw [HL.out]; simp [k97, k122, k65, k90, k48, k57, k46, k95, k45])
            clear HL k97 k122 k65 k90 k48 k57 k46 k95 k45
            go_enter Tryd.func22, Tryd.ntmps22
            go_wp2_with fail
            go_ret
            exact ⟨by rw [H.out]; rfl, rfl⟩
          · by_cases h250 : n < 45
            · have g97 : ¬ (97 : Int) ≤ n := by omega
              have g65 : ¬ (65 : Int) ≤ n := by omega
              have g48 : ¬ (48 : Int) ≤ n := by omega
              have g122 : (n : Int) ≤ 122 := by omega
              have g90 : (n : Int) ≤ 90 := by omega
              have g57 : (n : Int) ≤ 57 := by omega
              have g46 : ((n : Int) == 46) = false := by simp; omega
              have g95 : ((n : Int) == 95) = false := by simp; omega
              have g45 : ((n : Int) == 45) = false := by simp; omega
              have k97 : ¬ 97 ≤ n := by omega
              have k65 : ¬ 65 ≤ n := by omega
              have k48 : ¬ 48 ≤ n := by omega
              have k122 : n ≤ 122 := by omega
              have k90 : n ≤ 90 := by omega
              have k57 : n ≤ 57 := by omega
              have k46 : ¬ n = 46 := by omega
              have k95 : ¬ n = 95 := by omega
              have k45 : ¬ n = 45 := by omega
              have H : Hid (q = false) := Lib.hid (by rw [HL.out]; simp [k97, k122, k65, k90, k48, k57, k46, k95, k45])
              clear HL k97 k122 k65 k90 k48 k57 k46 k95 k45
              go_enter Tryd.func22, Tryd.ntmps22
              go_wp2_with fail
              go_ret
              exact ⟨by rw [H.out]; rfl, rfl⟩
            · have g97 : ¬ (97 : Int) ≤ n := by omega
              have g65 : ¬ (65 : Int) ≤ n := by omega
              have g48 : ¬ (48 : Int) ≤ n := by omega
              have g122 : (n : Int) ≤ 122 := by omega
              have g90 : (n : Int) ≤ 90 := by omega
              have g57 : (n : Int) ≤ 57 := by omega
              have g46 : ((n : Int) == 46) = false := by simp; omega
              have g95 : ((n : Int) == 95) = false := by simp; omega
              have g45 : ((n : Int) == 45) = false := by simp; omega
              have k97 : ¬ 97 ≤ n := by omega
              have k65 : ¬ 65 ≤ n := by omega
              have k48 : ¬ 48 ≤ n := by omega
              have k122 : n ≤ 122 := by omega
              have k90 : n ≤ 90 := by omega
              have k57 : n ≤ 57 := by omega
              have k46 : ¬ n = 46 := by omega
              have k95 : ¬ n = 95 := by omega
              have k45 : ¬ n = 45 := by omega
              have H : Hid (q = false) := Lib.hid (by rw [HL.out]; simp [k97, k122, k65, k90, k48, k57, k46, k95, k45])
              clear HL k97 k122 k65 k90 k48 k57 k46 k95 k45
              go_enter Tryd.func22, Tryd.ntmps22
              go_wp2_with fail
              go_ret
              exact ⟨by rw [H.out]; rfl, rfl⟩
theorem str_add (a b : List UInt8) : (⟨a.toArray⟩ : ByteArray) ++ ⟨b.toArray⟩ = ⟨(a ++ b).toArray⟩ := by
  apply ByteArray.ext
  simp
theorem hasPrefix_any (a b : List UInt8) (w : World) : Calls Tryd.prog 34 #[strV a, strV b] w fun e w' => e = .returned (.bool (Lib.hasPrefix a b)) ∧ w' = w := Tryd.strings_HasPrefix ⟨a.toArray⟩ ⟨b.toArray⟩ w
set_option maxHeartbeats 4000000 in
theorem related_any (w : World) (a b : List UInt8) (ha : a.length ≤ 1000000000) (hb : b.length ≤ 1000000000) : Calls Tryd.prog 23 #[strV a, strV b] w fun e w' => e = .returned (.bool (Tr.rel a b)) ∧ w' = w := by
  have H1 := Lib.hid (hasPrefix_any a (b ++ [47]) w)
  have H2 := Lib.hid (hasPrefix_any b (a ++ [47]) w)
  have e1 : (⟨a.toArray⟩ : ByteArray) ++ ⟨#[47]⟩ = ⟨(a ++ [47]).toArray⟩ := str_add a [47]
  have e2 : (⟨b.toArray⟩ : ByteArray) ++ ⟨#[47]⟩ = ⟨(b ++ [47]).toArray⟩ := str_add b [47]
  have s1 : (⟨a.toArray⟩ : ByteArray).size = a.length := by simp [ByteArray.size]
  have s2 : (⟨b.toArray⟩ : ByteArray).size = b.length := by simp [ByteArray.size]
  have HQ := Lib.hid (Tr.rel.eq_1 a b)
  generalize Tr.rel a b = q at *
  by_cases hab : a = b
  · have HQ2 : Hid (q = true) := Lib.hid (by rw [HQ.out, decide_eq_true hab]; rfl)
    have hb1 : (a == b) = true := by simpa using hab
    clear HQ H1 H2
    subst hab
    go_enter Tryd.func23, Tryd.ntmps23
    go_wp2_with fail
    go_ret
    exact ⟨by rw [HQ2.out]; rfl, rfl⟩
  have hb1 : (a == b) = false := by simpa using hab
  cases h : Lib.hasPrefix a (b ++ [47]) with
  | true =>
    rw [h] at H1
    have HQ2 : Hid (q = true) := Lib.hid (by rw [HQ.out, h]; simp)
    clear h HQ H2
    go_enter Tryd.func23, Tryd.ntmps23
    go_wp2_with (first | (go_at_call 34; with_reducible refine H1.out.mono ?_; rintro e w' ⟨rfl, rfl⟩))
    go_ret
    exact ⟨by rw [HQ2.out]; rfl, rfl⟩
  | false =>
    rw [h] at H1
    have HQ2 : Hid (q = Lib.hasPrefix b (a ++ [47])) := Lib.hid (by rw [HQ.out, h, decide_eq_false hab]; rfl)
    clear h HQ
    generalize Lib.hasPrefix b (a ++ [47]) = q2 at *
    go_enter Tryd.func23, Tryd.ntmps23
    go_wp2_with (first | (go_at_call 34; with_reducible refine H1.out.mono ?_; rintro e w' ⟨rfl, rfl⟩) | (go_at_call 34; with_reducible refine H2.out.mono ?_; rintro e w' ⟨rfl, rfl⟩))
    go_ret
    exact ⟨by rw [HQ2.out]; rfl, rfl⟩
theorem any_take {α : Type} {p : α → Bool} {s : List α} {i : Nat} (h : (s.take i).any p = false) (hi : i < s.length) (hp : p s[i] = false) : (s.take (i + 1)).any p = false := by
  rw [List.take_succ_eq_append_getElem hi, List.any_append, h]; simp [hp]
set_option maxHeartbeats 4000000 in
theorem clash_any (w : World) (A : Option Addr) (k : Nat) (t : List Tr.F) (p : List UInt8) (hv : VfV w Free A t) (hl : t.length ≤ 1000000) (hs : ∀ i, i < t.length → (Tr.it t i).path.length ≤ 1000000000) (hp : p.length ≤ 1000000000) :
    Calls Tryd.prog 11 #[.slice A t.length k, strV p, .int .i64 (-1)] w fun e w' => e = .returned (.bool (Tr.clash t p)) ∧ Below w.heap.size w w' := by
  have HROW := Lib.hid (fun (w' : World) (hb : Below w.heap.size w w') i hi => (hv.keep (free_below hb)).row i hi)
  have HS := Lib.hid hs
  have HC := Lib.hid (Tr.clash.eq_1 t p)
  generalize hq : Tr.clash t p = q at *
  clear hq hv hs
  go_enter Tryd.func11, Tryd.ntmps11
  go_wp2_with fail
  go_loopw [11] (fun iv wr => ∃ i : Nat, i ≤ t.length ∧ iv = .int .i64 i ∧ Hid ((t.take i).any (fun f => Tr.rel f.path p) = false) ∧ Below w.heap.size w wr) (fun iv _ => t.length - (intOf iv).toNat)
  case atStart => exact ⟨0, Nat.zero_le _, rfl, Lib.hid (by simp), Below.refl _ _⟩
  case round =>
    obtain ⟨i, hi, rfl, H, hbw⟩ := hrel
    by_cases hlt2 : i < t.length
    · have hlt' : (i : Int) < t.length := by omega
      obtain ⟨b, off, A', k', e, hb, _, d0, d1, _⟩ := HROW.out _ hbw i hlt2
      subst e
      have hpl := HS.out i hlt2
      have HN : Hid (Tr.rel (Tr.it t i).path p = false → (t.take (i + 1)).any (fun f => Tr.rel f.path p) = false) := Lib.hid fun h => any_take H.out hlt2 (by rw [Tr.it_eq t i hlt2]; exact h)
      have HY : Hid (Tr.rel (Tr.it t i).path p = true → q = true) := Lib.hid fun h => by
        rw [HC.out, List.any_eq_true]; exact ⟨t[i], List.getElem_mem hlt2, by rw [Tr.it_eq t i hlt2]; exact h⟩
      generalize Tr.it t i = x at *
      have HR := Lib.hid (related_any (wr.alloc (.cells #[strV x.path, .slice A' x.lines.length k'] 36)) x.path p hpl hp)
      have hal := hbw.trans ((below_alloc1 wr (.cells #[strV x.path, .slice A' x.lines.length k'] 36)).mono hbw.size)
      have hne : ((i : Int) != -1) = true := by simp
      cases hc : Tr.rel x.path p with
      | false =>
        rw [hc] at HR
        have HN2 := Lib.hid (HN.out hc)
        clear hc HN HY
        go_wp2_with (first | (go_at_call 23; with_reducible refine HR.out.mono ?_; rintro e w' ⟨rfl, rfl⟩))
        go_roundw
        case rel => exact ⟨i + 1, by omega, by go_num, HN2, hal⟩
        case measure => simp [intOf]; omega
      | true =>
        rw [hc] at HR
        have HY2 := Lib.hid (HY.out hc)
        clear hc HN HY
        go_wp2_with (first | (go_at_call 23; with_reducible refine HR.out.mono ?_; rintro e w' ⟨rfl, rfl⟩))
        go_ret
        exact ⟨by rw [HY2.out]; rfl, hal⟩
    · obtain rfl : i = t.length := by omega
      have H2 := Lib.hid (show q = false from by rw [HC.out]; have := H.out; rwa [List.take_length] at this)
      go_wp2_with fail
      go_ret
      exact ⟨by rw [H2.out]; rfl, hbw⟩
theorem indexByte_iff : ∀ l : List UInt8, decide (0 ≤ Lib.indexByte l 10) = decide ((10 : UInt8) ∈ l)
  | [] => by simp [Lib.indexByte]
  | b :: l => by
    have ih := indexByte_iff l
    have hge : -1 ≤ Lib.indexByte l 10 := by
      clear ih; induction l with
      | nil => simp [Lib.indexByte]
      | cons c l ih => unfold Lib.indexByte; split <;> (try split) <;> omega
    unfold Lib.indexByte
    by_cases h : b = 10
    · simp [h]
    · have h2 : ¬ (10 : UInt8) = b := fun e => h e.symm
      rw [decide_eq_decide] at ih
      simp only [List.mem_cons, h2, false_or, decide_eq_decide]
      rw [← ih]
      simp only [beq_iff_eq, h, if_false]
      split <;> omega
theorem indexByte_any (l : List UInt8) (w : World) : Calls Tryd.prog 35 #[strV l, .int .u8 10] w fun e w' => e = .returned (.int .i64 (Lib.indexByte l 10)) ∧ w' = w := Tryd.strings_IndexByte ⟨l.toArray⟩ 10 w
set_option maxHeartbeats 4000000 in
theorem lnValidate_any (w : World) (A : Option Addr) (k : Nat) (l : List (List UInt8)) (hv : SA w Free A (ssV l)) (hl : l.length ≤ 9223372036854775807) :
    Calls Tryd.prog 24 #[.slice A l.length k] w (FaultPost w (Tr.lnF l)) := by
  have HV := Lib.hid (fun (w' : World) (hb : Below w.heap.size w w') i hi => ssV_row (hv.keep (free_below hb)) i hi)
  have HLF := Lib.hid (Tr.lnF.eq_1 l)
  generalize hr : Tr.lnF l = r at *
  clear hr hv
  have b0 := Blk.new w 29 #[.int .i64 0, .int .i64 0]
  have hb0 := below_alloc1 w (.cells #[.int .i64 0, .int .i64 0] 29)
  by_cases h120 : 120 < l.length
  · have H := Lib.hid (HLF.out.trans (if_pos h120))
    have h120' : (120 : Int) < l.length := by omega
    clear HLF h120
    go_enter Tryd.func24, Tryd.ntmps24
    go_wp2_with fail
    refine bodyPost_ret (results_c rfl _ _ w.heap.size (.int .i64 2) (.int .i64 (-1)) rfl (Blk.new w 29 #[.int .i64 2, .int .i64 (-1)])) rfl (FaultPost.mk_ H.out (below_alloc1 _ _))
  · have H := Lib.hid (HLF.out.trans (if_neg h120))
    have h120' : ¬ (120 : Int) < l.length := by omega
    clear HLF h120
    go_enter Tryd.func24, Tryd.ntmps24
    go_wp2_with fail
    go_loopw [11] (fun iv wr => ∃ i : Nat, i ≤ l.length ∧ iv = .int .i64 i ∧ Hid (r = Tr.lnFrom (l.drop i) i) ∧ Blk wr w.heap.size 29 #[.int .i64 0, .int .i64 0] ∧ Below w.heap.size w wr) (fun iv _ => l.length - (intOf iv).toNat)
    case atStart => exact ⟨0, Nat.zero_le _, rfl, Lib.hid (by rw [H.out, List.drop_zero]), b0, hb0⟩
    case round =>
      obtain ⟨i, hi, rfl, HI, br, hbw⟩ := hrel
      obtain ⟨wo, rfl⟩ : ∃ wo : World, wo = wr := ⟨_, rfl⟩
      have f0 := br.frozen 0
      have f1 := br.frozen 1
      have c0 := (br.cell 0).trans rfl
      have c1 := (br.cell 1).trans rfl
      have hlt := br.lt
      by_cases hlt2 : i < l.length
      · have hlt' : (i : Int) < l.length := by omega
        obtain ⟨b, off, e, hb, _, d0⟩ := HV.out _ hbw i hlt2
        subst e
        rw [List.drop_eq_getElem_cons hlt2, Tr.lnFrom] at HI
        generalize l[i] = x at *
        have sx : (⟨x.toArray⟩ : ByteArray).size = x.length := by simp [ByteArray.size]
        by_cases h80 : 80 < x.length
        · have H2 := Lib.hid (HI.out.trans (if_pos h80))
          have h80' : (80 : Int) < x.length := by omega
          clear HI h80
          go_wp2_with fail
          refine bodyPost_ret (results_c rfl _ _ w.heap.size (.int .i64 2) (.int .i64 i) rfl (blk_put2 br (.int .i64 2) (.int .i64 i))) rfl (FaultPost.mk_ H2.out ?_)
          exact (hbw.setCell (p := ⟨w.heap.size, 0, none⟩) (Nat.le_refl _) _).setCell (p := ⟨w.heap.size, 1, none⟩) (Nat.le_refl _) _
        · have HI2 := Lib.hid (HI.out.trans (if_neg h80))
          have h80' : ¬ (80 : Int) < x.length := by omega
          have HX := Lib.hid (indexByte_any x wo)
          have hix := indexByte_iff x
          by_cases hm : (10 : UInt8) ∈ x
          · have H2 := Lib.hid (HI2.out.trans (if_pos hm))
            rw [decide_eq_true hm] at hix
            have hge : 0 ≤ Lib.indexByte x 10 := by simpa using hix
            clear HI HI2 h80 hm hix
            generalize Lib.indexByte x 10 = ix at *
            go_wp2_with (first | (go_at_call 35; with_reducible refine HX.out.mono ?_; rintro e w' ⟨rfl, rfl⟩))
            refine bodyPost_ret (results_c rfl _ _ w.heap.size (.int .i64 5) (.int .i64 i) rfl (blk_put2 br (.int .i64 5) (.int .i64 i))) rfl (FaultPost.mk_ H2.out ?_)
            exact (hbw.setCell (p := ⟨w.heap.size, 0, none⟩) (Nat.le_refl _) _).setCell (p := ⟨w.heap.size, 1, none⟩) (Nat.le_refl _) _
          · have H2 := Lib.hid (HI2.out.trans (if_neg hm))
            rw [decide_eq_false hm] at hix
            have hge : ¬ 0 ≤ Lib.indexByte x 10 := by simpa using hix
            clear HI HI2 h80 hm hix
            generalize Lib.indexByte x 10 = ix at *
            go_wp2_with (first | (go_at_call 35; with_reducible refine HX.out.mono ?_; rintro e w' ⟨rfl, rfl⟩))
            go_roundw
            case rel => exact ⟨i + 1, by omega, by go_num, H2, br, hbw⟩
            case measure => simp [intOf]; omega
      · obtain rfl : i = l.length := by omega
        have H2 : Hid (r = (0, 0)) := Lib.hid (by rw [HI.out, List.drop_length]; rfl)
        clear HI
        go_wp2_with fail
        refine bodyPost_ret (results_c rfl _ _ w.heap.size (.int .i64 0) (.int .i64 0) rfl (blk_put2 br (.int .i64 0) (.int .i64 0))) rfl (FaultPost.mk_ H2.out ?_)
        exact (hbw.setCell (p := ⟨w.heap.size, 0, none⟩) (Nat.le_refl _) _).setCell (p := ⟨w.heap.size, 1, none⟩) (Nat.le_refl _) _
def secF (r : Int × Int) (i : Int) : Int × Int := if r.1 ≠ 0 then (r.1, i) else (0, 0)
theorem lnF_zero {l : List (List UInt8)} (h : (Tr.lnF l).1 = 0) : Tr.lnF l = (0, 0) := (Tr.lnF_ok h).1
set_option maxHeartbeats 4000000 in
theorem lnSecond_any (w : World) (A : Option Addr) (k : Nat) (l : List (List UInt8)) (i : Int) (hv : SA w Free A (ssV l)) (hl : l.length ≤ 9223372036854775807) :
    Calls Tryd.prog 12 #[.slice A l.length k, .int .i64 i] w (FaultPost w (secF (Tr.lnF l) i)) := by
  have HC := Lib.hid (fun (w1 : World) (hb : Below w.heap.size w w1) => lnValidate_any w1 A k l (hv.keep (free_below hb)) hl)
  have HZ := Lib.hid (lnF_zero (l := l))
  have HS := Lib.hid (secF.eq_1 (Tr.lnF l) i)
  generalize hr : secF (Tr.lnF l) i = r at *
  clear hr hv
  have b0 := Blk.new w 29 #[.int .i64 0, .int .i64 0]
  have hb0 := below_alloc1 w (.cells #[.int .i64 0, .int .i64 0] 29)
  go_enter Tryd.func12, Tryd.ntmps12
  go_wp2_with fail
  go_at_call 24
  refine (HC.out _ hb0).mono ?_
  rintro e w1 ⟨rfl, hb1⟩
  have br := b0.below hb1 b0.lt
  have hbw := hb0.trans (hb1.mono hb0.size)
  clear HC b0 hb0 hb1
  have f0 := br.frozen 0
  have f1 := br.frozen 1
  have c0 := (br.cell 0).trans rfl
  have c1 := (br.cell 1).trans rfl
  have hlt := br.lt
  by_cases hbad : (Tr.lnF l).1 ≠ 0
  · have H := Lib.hid (HS.out.trans (if_pos hbad))
    have hx1 : ((Tr.lnF l).1 == 0) = false := by simpa using hbad
    have hx2 : ((Tr.lnF l).1 != 0) = true := by simpa using hbad
    clear HS HZ hbad
    generalize Tr.lnF l = q at *
    obtain ⟨cd, ix⟩ := q
    simp only at hx1 hx2
    go_wp2_with fail
    refine bodyPost_ret (results_c rfl _ _ w.heap.size (.int .i64 cd) (.int .i64 i) rfl ((blk_put2 br (.int .i64 cd) (.int .i64 i)).alloc _)) rfl (FaultPost.mk_ H.out ?_)
    exact ((hbw.setCell (p := ⟨w.heap.size, 0, none⟩) (Nat.le_refl _) _).setCell (p := ⟨w.heap.size, 1, none⟩) (Nat.le_refl _) _).alloc (by simp [World.setCell]; omega) _
  · have hz := Classical.not_not.1 hbad
    have H := Lib.hid (HS.out.trans (if_neg hbad))
    rw [HZ.out hz]
    clear HS HZ hbad hz
    go_wp2_with fail
    refine bodyPost_ret (results_c rfl _ _ w.heap.size (.int .i64 0) (.int .i64 0) rfl ((blk_put2 br (.int .i64 0) (.int .i64 0)).alloc _)) rfl (FaultPost.mk_ H.out ?_)
    exact ((hbw.setCell (p := ⟨w.heap.size, 0, none⟩) (Nat.le_refl _) _).setCell (p := ⟨w.heap.size, 1, none⟩) (Nat.le_refl _) _).alloc (by simp [World.setCell]; omega) _
end Go.Proofs.YtjfckjonfpkphaaDoor
