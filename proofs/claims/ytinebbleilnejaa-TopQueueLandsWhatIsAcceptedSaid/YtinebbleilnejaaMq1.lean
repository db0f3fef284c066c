/-
  The merge queue: walks of slices.Index, slices.Contains, Has, EqualInts, list.
-/
import Derived.Test.YtinebbleilnejaaMqV
namespace Mq
/-- A strictly increasing list of changes below n. -/
def LOk (n : Int) (l : List Int) : Prop := ∀ (i : Nat) (h : i < l.length), 0 ≤ l[i] ∧ l[i] < n ∧ (0 < i → l[i - 1] < l[i])
end Mq
namespace Go.Proofs.Ytinebbleilnejaa
open Go.RowKit Go.V
set_option linter.unusedVariables false
theorem not_in_take {l : List Int} {x : Int} {i : Nat} (h : ∀ (j : Nat) (h : j < l.length), j < i → l[j] ≠ x) (hi : i = l.length) : l.contains x = false := by
  subst hi
  rw [Bool.eq_false_iff]
  intro hc
  rw [List.contains_iff_mem] at hc
  obtain ⟨j, hj, e⟩ := List.getElem_of_mem hc
  exact h j hj hj e
set_option maxHeartbeats 4000000 in
theorem index_any (w : World) (A : Option Addr) (k : Nat) (l : List Int) (x : Int) (hv : IV w A l) (hl : l.length ≤ 9223372036854775807) :
    Calls Try.prog 34 #[.slice A l.length k, .int .i64 x] w fun e w' => (∃ r : Int, e = .returned (.int .i64 r) ∧ decide (0 ≤ r) = l.contains x) ∧ w = w' := by
  have HV := Lib.hid hv
  clear hv
  go_enter Try.func34, Try.ntmps34
  go_wp2_with fail
  go_loopw [8] (fun iv wr => ∃ i : Nat, i ≤ l.length ∧ iv = .int .i64 i ∧ w = wr ∧ Hid (∀ (j : Nat) (h : j < l.length), j < i → l[j] ≠ x)) (fun iv _ => l.length - (intOf iv).toNat)
  case atStart => exact ⟨0, Nat.zero_le _, rfl, rfl, Lib.hid (fun j _ h => by omega)⟩
  case round =>
    obtain ⟨i, hi, rfl, rfl, H⟩ := hrel
    by_cases hlt : i < l.length
    · have hlt' : (i : Int) < l.length := by omega
      obtain ⟨b, off, e, hb, d0⟩ := HV.out.at_ i hlt
      subst e
      have HN : Hid (x ≠ l[i] → ∀ (j : Nat) (h : j < l.length), j < i + 1 → l[j] ≠ x) := Lib.hid (fun hq j h hj => by
        by_cases e : j = i
        · subst e; exact fun e => hq e.symm
        · exact H.out j h (by omega))
      have HY : Hid (x = l[i] → l.contains x = true) := Lib.hid (fun hq => by rw [List.contains_iff_mem, hq]; exact List.getElem_mem hlt)
      generalize l[i] = y at *
      by_cases hxy : x = y
      · have hb2 : (x == y) = true := by simp [hxy]
        have HY2 := Lib.hid (HY.out hxy)
        clear hxy HY HN
        go_wp2_with fail
        go_ret
        exact ⟨⟨_, rfl, by rw [HY2.out]; exact decide_eq_true (by omega)⟩, rfl⟩
      · have hb2 : (x == y) = false := by simp [hxy]
        have HN2 := Lib.hid (HN.out hxy)
        clear hxy HY HN
        go_wp2_with fail
        go_roundw
        case rel => exact ⟨i + 1, by omega, by go_num, (by first | exact rfl | trivial), HN2⟩
        case measure => simp [intOf]; omega
    · obtain rfl : i = l.length := by omega
      have HF := Lib.hid (not_in_take H.out rfl)
      go_wp2_with fail
      go_ret
      exact ⟨⟨_, rfl, by rw [HF.out]; rfl⟩, rfl⟩
theorem contains_any (w : World) (A : Option Addr) (k : Nat) (l : List Int) (x : Int) (hv : IV w A l) (hl : l.length ≤ 9223372036854775807) :
    Calls Try.prog 19 #[.slice A l.length k, .int .i64 x] w fun e w' => e = .returned (.bool (l.contains x)) ∧ w = w' := by
  have HI := Lib.hid (index_any w A k l x hv hl)
  clear hv
  generalize l.contains x = q at *
  go_enter Try.func19, Try.ntmps19
  go_wp2_with fail
  go_at_call 34
  with_reducible refine HI.out.mono ?_
  rintro e w' ⟨⟨r, rfl, hr⟩, rfl⟩
  subst hr
  go_wp2_with fail
  go_ret
  exact ⟨rfl, rfl⟩
set_option maxHeartbeats 4000000 in
theorem has_any (w : World) (A : Option Addr) (k : Nat) (l : List Int) (x : Int) (hv : IV w A l) (hl : l.length ≤ 9223372036854775807) :
    Calls Try.prog 8 #[.slice A l.length k, .int .i64 x] w fun e w' => e = .returned (.bool (l.contains x)) ∧ w = w' := by
  have HV := Lib.hid hv
  clear hv
  go_enter Try.func8, Try.ntmps8
  go_wp2_with fail
  go_loopw [5] (fun iv wr => ∃ i : Nat, i ≤ l.length ∧ iv = .int .i64 i ∧ w = wr ∧ Hid (∀ (j : Nat) (h : j < l.length), j < i → l[j] ≠ x)) (fun iv _ => l.length - (intOf iv).toNat)
  case atStart => exact ⟨0, Nat.zero_le _, rfl, rfl, Lib.hid (fun j _ h => by omega)⟩
  case round =>
    obtain ⟨i, hi, rfl, rfl, H⟩ := hrel
    by_cases hlt : i < l.length
    · have hlt' : (i : Int) < l.length := by omega
      obtain ⟨b, off, e, hb, d0⟩ := HV.out.at_ i hlt
      subst e
      have HN : Hid (l[i] ≠ x → ∀ (j : Nat) (h : j < l.length), j < i + 1 → l[j] ≠ x) := Lib.hid (fun hq j h hj => by
        by_cases e : j = i
        · subst e; exact hq
        · exact H.out j h (by omega))
      have HY : Hid (l[i] = x → l.contains x = true) := Lib.hid (fun hq => by rw [List.contains_iff_mem, ← hq]; exact List.getElem_mem hlt)
      generalize l[i] = y at *
      by_cases hxy : y = x
      · have hb2 : (y == x) = true := by simp [hxy]
        have HY2 := Lib.hid (HY.out hxy)
        clear hxy HY HN
        go_wp2_with fail
        go_ret
        exact ⟨by rw [HY2.out]; rfl, rfl⟩
      · have hb2 : (y == x) = false := by simp [hxy]
        have HN2 := Lib.hid (HN.out hxy)
        clear hxy HY HN
        go_wp2_with fail
        go_roundw
        case rel => exact ⟨i + 1, by omega, by go_num, (by first | exact rfl | trivial), HN2⟩
        case measure => simp [intOf]; omega
    · obtain rfl : i = l.length := by omega
      have HF := Lib.hid (not_in_take H.out rfl)
      go_wp2_with fail
      go_ret
      exact ⟨by rw [HF.out]; rfl, rfl⟩
set_option maxHeartbeats 1600000 in
theorem ints_any (w : World) (A1 A2 : Option Addr) (c1 c2 : Nat) (l : List Int) (h1 : IV w A1 l) (h2 : IV w A2 l) (hl : l.length ≤ 9223372036854775807) :
    Calls Try.prog 7 #[.slice A1 l.length c1, .slice A2 l.length c2] w fun e w' => e = .returned (.bool true) ∧ ∃ n, w' = w.drewN n := by
  go_enter Try.func7, Try.ntmps7
  go_wp2_with fail
  go_loopw [5] (fun k wr => ∃ i : Nat, i ≤ l.length ∧ k = .int .i64 i ∧ ∃ n, wr = w.drewN n) (fun k _ => l.length - (intOf k).toNat)
  case atStart => exact ⟨0, Nat.zero_le _, rfl, 0, rfl⟩
  case round =>
    obtain ⟨i, hi, rfl, n, rfl⟩ := hrel
    by_cases hlt : i < l.length
    · obtain ⟨b1, o1, rfl, _, x1⟩ := h1.at_ i hlt
      obtain ⟨b2, o2, rfl, _, x2⟩ := h2.at_ i hlt
      have hlt' : (i : Int) < l.length := by omega
      generalize l[i] = o at *
      go_wp2_with fail
      go_quiet (fail)
      go_wp2
      go_roundw
      case rel => exact ⟨i + 1, by omega, by go_num, _, rfl⟩
      case measure => simp [intOf]; omega
    · obtain rfl : i = l.length := by omega
      go_wp2
      go_ret
      exact ⟨rfl, _, rfl⟩
set_option maxHeartbeats 8000000 in
theorem list_any (w : World) (A : Option Addr) (k : Nat) (l : List Int) (n : Int) (hv : IV w A l) (hl : l.length ≤ 9223372036854775807) :
    Calls Try.prog 16 #[.int .i64 n, .slice A l.length k] w fun e w' => (∃ c : Int, e = .returned (.int .i64 c) ∧ (c = 0 ∧ Mq.LOk n l ∨ c ≠ 0 ∧ ¬ Mq.LOk n l)) ∧ w = w' := by
  have HV := Lib.hid hv
  clear hv
  go_enter Try.func16, Try.ntmps16
  go_wp2_with fail
  go_loopw [9] (fun iv wr => ∃ i : Nat, i ≤ l.length ∧ iv = .int .i64 i ∧ w = wr ∧ Hid (∀ (j : Nat) (h : j < l.length), j < i → 0 ≤ l[j] ∧ l[j] < n ∧ (0 < j → l[j - 1] < l[j]))) (fun iv _ => l.length - (intOf iv).toNat)
  case atStart => exact ⟨0, Nat.zero_le _, rfl, rfl, Lib.hid (fun j _ h => by omega)⟩
  case round =>
    obtain ⟨i, hi, rfl, rfl, H⟩ := hrel
    by_cases hlt : i < l.length
    · have hlt' : (i : Int) < l.length := by omega
      obtain ⟨b, off, e, hb, d0⟩ := HV.out.at_ i hlt
      subst e
      have HN : Hid (0 ≤ l[i] ∧ l[i] < n ∧ (0 < i → l[i - 1] < l[i]) → ∀ (j : Nat) (h : j < l.length), j < i + 1 → 0 ≤ l[j] ∧ l[j] < n ∧ (0 < j → l[j - 1] < l[j])) := Lib.hid (fun hq j h hj => by
        by_cases e : j = i
        · subst e; exact hq
        · exact H.out j h (by omega))
      have HB : Hid (¬ (0 ≤ l[i] ∧ l[i] < n ∧ (0 < i → l[i - 1] < l[i])) → ¬ Mq.LOk n l) := Lib.hid (fun hq hok => hq (hok i hlt))
      by_cases hi0 : i = 0
      · obtain rfl := hi0
        simp only [Nat.add_zero] at d0
        have HN0 : Hid (0 ≤ l[0] ∧ l[0] < n → ∀ (j : Nat) (h : j < l.length), j < 0 + 1 → 0 ≤ l[j] ∧ l[j] < n ∧ (0 < j → l[j - 1] < l[j])) := Lib.hid (fun h => HN.out ⟨h.1, h.2, fun h => absurd h (by omega)⟩)
        have HB0 : Hid (¬ (0 ≤ l[0] ∧ l[0] < n) → ¬ Mq.LOk n l) := Lib.hid (fun h => HB.out fun hh => h ⟨hh.1, hh.2.1⟩)
        clear HN HB
        generalize l[0] = x at *
        by_cases hx0 : x < 0
        · have HB2 := Lib.hid (HB0.out (by omega))
          clear HN0 HB0
          go_wp2_with fail
          go_ret
          exact ⟨⟨_, rfl, .inr ⟨by omega, HB2.out⟩⟩, rfl⟩
        · by_cases hxn : n ≤ x
          · have HB2 := Lib.hid (HB0.out (by omega))
            clear HN0 HB0
            go_wp2_with fail
            go_ret
            exact ⟨⟨_, rfl, .inr ⟨by omega, HB2.out⟩⟩, rfl⟩
          · have HN2 := Lib.hid (HN0.out (by omega))
            clear HN0 HB0
            go_wp2_with fail
            go_roundw
            case rel => exact ⟨1, by omega, rfl, (by first | exact rfl | trivial), HN2⟩
            case measure => simp [intOf]; omega
      · have hp : (0 : Int) < i := by omega
        have hpn : 0 < i := by omega
        have hpd : decide (0 < i) = true := decide_eq_true hpn
        obtain ⟨b', off', e', hb', p0⟩ := HV.out.at_ (i - 1) (by omega)
        injection e' with e'
        injection e' with e3 e4 _
        subst e3
        subst e4
        have hsub : IntKind.i64.wrap ((i : Int) - 1) = ((i - 1 : Nat) : Int) := by rw [IntWalk.i64_in _ (by omega)]; omega
        have hlt2 : ((i - 1 : Nat) : Int) < l.length := by omega
        have HN0 : Hid (0 ≤ l[i] ∧ l[i] < n ∧ l[i - 1] < l[i] → ∀ (j : Nat) (h : j < l.length), j < i + 1 → 0 ≤ l[j] ∧ l[j] < n ∧ (0 < j → l[j - 1] < l[j])) := Lib.hid (fun h => HN.out ⟨h.1, h.2.1, fun _ => h.2.2⟩)
        have HB0 : Hid (¬ (0 ≤ l[i] ∧ l[i] < n ∧ l[i - 1] < l[i]) → ¬ Mq.LOk n l) := Lib.hid (fun h => HB.out fun hh => h ⟨hh.1, hh.2.1, hh.2.2 hpn⟩)
        clear HN HB
        generalize l[i] = x at *
        generalize l[i - 1] = y at *
        generalize i - 1 = im at *
        by_cases hx0 : x < 0
        · have HB2 := Lib.hid (HB0.out (by omega))
          clear HN0 HB0
          go_wp2_with fail
          go_ret
          exact ⟨⟨_, rfl, .inr ⟨by omega, HB2.out⟩⟩, rfl⟩
        · by_cases hxn : n ≤ x
          · have HB2 := Lib.hid (HB0.out (by omega))
            clear HN0 HB0
            go_wp2_with fail
            go_ret
            exact ⟨⟨_, rfl, .inr ⟨by omega, HB2.out⟩⟩, rfl⟩
          · by_cases hxy : x ≤ y
            · have HB2 := Lib.hid (HB0.out (by omega))
              clear HN0 HB0
              go_wp2_with fail
              go_ret
              exact ⟨⟨_, rfl, .inr ⟨by omega, HB2.out⟩⟩, rfl⟩
            · have HN2 := Lib.hid (HN0.out (by omega))
              clear HN0 HB0
              go_wp2_with fail
              go_roundw
              case rel => exact ⟨i + 1, by omega, by go_num, (by first | exact rfl | trivial), HN2⟩
              case measure => simp [intOf]; omega
    · obtain rfl : i = l.length := by omega
      go_wp2_with fail
      go_ret
      exact ⟨⟨_, rfl, .inl ⟨rfl, fun j h => H.out j h h⟩⟩, rfl⟩
end Go.Proofs.Ytinebbleilnejaa
