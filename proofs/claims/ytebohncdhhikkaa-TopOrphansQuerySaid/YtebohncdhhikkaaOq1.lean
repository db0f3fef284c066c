/-
  Markers: walks of small functions: ranges, comparisons.
-/
import Derived.Test.YtebohncdhhikkaaW4
import Derived.Test.YtebohncdhhikkaaView9
namespace Oq
def cmpI (a b : Int) : Int := if a < b then -1 else if b < a then 1 else 0
def slC : List Int → List Int → Int
  | [], [] => 0
  | [], _ :: _ => -1
  | _ :: _, [] => 1
  | a :: l, b :: m => if cmpI a b ≠ 0 then cmpI a b else slC l m
def orI : List Int → Int
  | [] => 0
  | a :: l => if a ≠ 0 then a else orI l
end Oq
namespace Go.Proofs.Ytebohncdhhikkaa
open Go.RowKit Go.V
set_option linter.unusedVariables false

theorem inRange_any (w : World) (n : Int) : Calls Try.prog 43 #[.int .i64 n] w fun e w' => e = .returned (.bool (decide (0 ≤ n) && decide (n ≤ 59))) ∧ w' = w := by
  by_cases h : 0 ≤ n
  · have hd : decide (0 ≤ n) = true := decide_eq_true h
    go_enter Try.func43, Try.ntmps43
    go_wp2_with fail
    go_ret
    exact ⟨by simp [h], rfl⟩
  · have hd : decide (0 ≤ n) = false := decide_eq_false h
    go_enter Try.func43, Try.ntmps43
    go_wp2_with fail
    go_ret
    exact ⟨by simp, rfl⟩
theorem chk1_any (w : World) (n : Int) : Calls Try.prog 45 #[.int .i64 n] w fun e w' => e = .returned (.bool (!(decide (0 ≤ n) && decide (n ≤ 59)))) ∧ w' = w := by
  generalize hq : (decide (0 ≤ n) && decide (n ≤ 59)) = q
  have HI := Lib.hid (inRange_any w n)
  rw [hq] at HI
  go_enter Try.func45, Try.ntmps45
  go_wp2_with (first | (go_at_call 43; with_reducible refine HI.out.mono ?_; rintro e w' ⟨rfl, rfl⟩))
  go_ret
  exact ⟨rfl, rfl⟩
/-- Every number is in the range. -/
def AllIn (l : List Int) : Prop := ∀ (i : Nat) (h : i < l.length), 0 ≤ l[i] ∧ l[i] ≤ 59
set_option maxHeartbeats 4000000 in
theorem indexFunc_any (w : World) (A : Option Addr) (k : Nat) (l : List Int) (fv : Value) (hfv : fv = .func (.func 45) #[] #[]) (hv : IV w A l) (hl : l.length ≤ 9223372036854775807) :
    Calls Try.prog 52 #[.slice A l.length k, fv] w fun e w' => (∃ r : Int, e = .returned (.int .i64 r) ∧ (r = -1 ∧ AllIn l ∨ 0 ≤ r)) ∧ w' = w := by
  have HV := Lib.hid hv
  clear hv
  subst hfv
  go_enter Try.func52, Try.ntmps52
  go_wp2_with fail
  go_loopw [8] (fun iv wr => ∃ i : Nat, i ≤ l.length ∧ iv = .int .i64 i ∧ wr = w ∧ Hid (∀ (j : Nat) (h : j < l.length), j < i → 0 ≤ l[j] ∧ l[j] ≤ 59)) (fun iv _ => l.length - (intOf iv).toNat)
  case atStart => exact ⟨0, Nat.zero_le _, rfl, rfl, Lib.hid (fun j _ h => by omega)⟩
  case round =>
    obtain ⟨i, hi, rfl, rfl, H⟩ := hrel
    by_cases hlt : i < l.length
    · have hlt' : (i : Int) < l.length := by omega
      obtain ⟨b, off, e, hb, d0⟩ := HV.out.at_ i hlt
      subst e
      have HC := Lib.hid (chk1_any wr l[i])
      have HN : Hid ((decide (0 ≤ l[i]) && decide (l[i] ≤ 59)) = true → ∀ (j : Nat) (h : j < l.length), j < i + 1 → 0 ≤ l[j] ∧ l[j] ≤ 59) := Lib.hid (fun hq j h hj => by
        by_cases e : j = i
        · subst e; simpa using hq
        · exact H.out j h (by omega))
      generalize l[i] = x at *
      generalize (decide (0 ≤ x) && decide (x ≤ 59)) = q at *
      cases q with
      | true =>
        have HN2 := Lib.hid (HN.out rfl)
        go_wp2_with (first | (go_at_call 45; with_reducible refine HC.out.mono ?_; rintro e w' ⟨rfl, rfl⟩))
        go_roundw
        case rel => exact ⟨i + 1, by omega, by go_num, (by first | exact rfl | trivial), HN2⟩
        case measure => simp [intOf]; omega
      | false =>
        go_wp2_with (first | (go_at_call 45; with_reducible refine HC.out.mono ?_; rintro e w' ⟨rfl, rfl⟩))
        go_ret
        exact ⟨⟨_, rfl, .inr (by omega)⟩, rfl⟩
    · obtain rfl : i = l.length := by omega
      go_wp2_with fail
      go_ret
      exact ⟨⟨_, rfl, .inl ⟨rfl, fun j h => H.out j h h⟩⟩, rfl⟩
theorem containsFunc_any (w : World) (A : Option Addr) (k : Nat) (l : List Int) (fv : Value) (hfv : fv = .func (.func 45) #[] #[]) (hv : IV w A l) (hl : l.length ≤ 9223372036854775807) :
    Calls Try.prog 44 #[.slice A l.length k, fv] w fun e w' => (∃ b : Bool, e = .returned (.bool b) ∧ (b = false → AllIn l)) ∧ w' = w := by
  have HI := Lib.hid (indexFunc_any w A k l fv hfv hv hl)
  clear hv
  subst hfv
  go_enter Try.func44, Try.ntmps44
  go_wp2_with fail
  go_at_call 52
  with_reducible refine HI.out.mono ?_
  rintro e w' ⟨⟨r, rfl, hr⟩, rfl⟩
  go_wp2_with fail
  go_ret
  refine ⟨⟨_, rfl, fun h => ?_⟩, rfl⟩
  rcases hr with ⟨_, h2⟩ | h2
  · exact h2
  · simp at h; omega
theorem isNaN_any (w : World) (n : Int) : Calls Try.prog 53 #[.int .i64 n] w fun e w' => e = .returned (.bool false) ∧ w' = w := by
  have h : (n != n) = false := by simp
  go_enter Try.func53, Try.ntmps53
  go_wp2_with fail
  go_ret
  exact ⟨rfl, rfl⟩
theorem cmp_any (w : World) (a b : Int) : Calls Try.prog 47 #[.int .i64 a, .int .i64 b] w fun e w' => e = .returned (.int .i64 (Oq.cmpI a b)) ∧ w' = w := by
  have HA := Lib.hid (isNaN_any w a)
  have HB := Lib.hid (isNaN_any w b)
  by_cases h1 : a < b
  · have H : Hid (Oq.cmpI a b = -1) := Lib.hid (if_pos h1)
    go_enter Try.func47, Try.ntmps47
    go_wp2_with (first | (go_at_call 53; with_reducible refine HA.out.mono ?_; rintro e w' ⟨rfl, rfl⟩) | (go_at_call 53; with_reducible refine HB.out.mono ?_; rintro e w' ⟨rfl, rfl⟩))
    go_ret
    exact ⟨by rw [H.out]; rfl, rfl⟩
  · by_cases h2 : b < a
    · have H : Hid (Oq.cmpI a b = 1) := Lib.hid (by unfold Oq.cmpI; rw [if_neg h1, if_pos h2])
      go_enter Try.func47, Try.ntmps47
      go_wp2_with (first | (go_at_call 53; with_reducible refine HA.out.mono ?_; rintro e w' ⟨rfl, rfl⟩) | (go_at_call 53; with_reducible refine HB.out.mono ?_; rintro e w' ⟨rfl, rfl⟩))
      go_ret
      exact ⟨by rw [H.out]; rfl, rfl⟩
    · have H : Hid (Oq.cmpI a b = 0) := Lib.hid (by unfold Oq.cmpI; rw [if_neg h1, if_neg h2])
      go_enter Try.func47, Try.ntmps47
      go_wp2_with (first | (go_at_call 53; with_reducible refine HA.out.mono ?_; rintro e w' ⟨rfl, rfl⟩) | (go_at_call 53; with_reducible refine HB.out.mono ?_; rintro e w' ⟨rfl, rfl⟩))
      go_ret
      exact ⟨by rw [H.out]; rfl, rfl⟩
set_option maxHeartbeats 4000000 in
theorem or_any (w : World) (A : Option Addr) (k : Nat) (l : List Int) (hv : IV w A l) (hl : l.length ≤ 9223372036854775807) :
    Calls Try.prog 46 #[.slice A l.length k] w fun e w' => e = .returned (.int .i64 (Oq.orI l)) ∧ w' = w := by
  have HV := Lib.hid hv
  generalize hr : Oq.orI l = r
  have HR := Lib.hid hr.symm
  clear hr
  clear hv
  go_enter Try.func46, Try.ntmps46
  go_wp2_with fail
  go_loopw [8] (fun iv wr => ∃ i : Nat, i ≤ l.length ∧ iv = .int .i64 i ∧ wr = w ∧ Hid (r = Oq.orI (l.drop i))) (fun iv _ => l.length - (intOf iv).toNat)
  case atStart => exact ⟨0, Nat.zero_le _, rfl, rfl, Lib.hid (by rw [HR.out, List.drop_zero])⟩
  case round =>
    obtain ⟨i, hi, rfl, rfl, H⟩ := hrel
    by_cases hlt : i < l.length
    · have hlt' : (i : Int) < l.length := by omega
      obtain ⟨b, off, e, hb, d0⟩ := HV.out.at_ i hlt
      subst e
      rw [List.drop_eq_getElem_cons hlt, Oq.orI] at H
      generalize l[i] = x at *
      by_cases hx : x = 0
      · have H2 := Lib.hid (H.out.trans (if_neg (not_not_intro hx)))
        subst hx
        clear H
        go_wp2_with fail
        go_roundw
        case rel => exact ⟨i + 1, by omega, by go_num, (by first | exact rfl | trivial), H2⟩
        case measure => simp [intOf]; omega
      · have H2 := Lib.hid (H.out.trans (if_pos hx))
        have hx1 : (x == 0) = false := by simpa using hx
        have hx2 : (x != 0) = true := by simpa using hx
        clear H hx
        go_wp2_with fail
        go_ret
        exact ⟨by rw [H2.out]; rfl, rfl⟩
    · obtain rfl : i = l.length := by omega
      have H2 : Hid (r = 0) := Lib.hid (by rw [H.out, List.drop_length]; rfl)
      go_wp2_with fail
      go_ret
      exact ⟨by rw [H2.out]; rfl, rfl⟩
set_option maxHeartbeats 4000000 in
theorem slCompare_any (w : World) (A1 A2 : Option Addr) (k1 k2 : Nat) (l m : List Int) (hv1 : IV w A1 l) (hv2 : IV w A2 m) (hl : l.length ≤ 9223372036854775807) (hm : m.length ≤ 9223372036854775807) :
    Calls Try.prog 48 #[.slice A1 l.length k1, .slice A2 m.length k2] w fun e w' => e = .returned (.int .i64 (Oq.slC l m)) ∧ w' = w := by
  have HV := Lib.hid (And.intro hv1 hv2)
  have HC := Lib.hid (fun a b => cmp_any w a b)
  generalize hr : Oq.slC l m = r
  have HR := Lib.hid hr.symm
  clear hr hv1 hv2
  go_enter Try.func48, Try.ntmps48
  go_wp2_with fail
  go_loopw [11] (fun iv wr => ∃ i : Nat, i ≤ l.length ∧ i ≤ m.length ∧ iv = .int .i64 i ∧ wr = w ∧ Hid (r = Oq.slC (l.drop i) (m.drop i))) (fun iv _ => l.length - (intOf iv).toNat)
  case atStart => exact ⟨0, Nat.zero_le _, Nat.zero_le _, rfl, rfl, Lib.hid (by rw [HR.out, List.drop_zero, List.drop_zero])⟩
  case round =>
    obtain ⟨i, hi, him, rfl, rfl, H⟩ := hrel
    by_cases hlt : i < l.length
    · have hlt' : (i : Int) < l.length := by omega
      obtain ⟨b, off, e, hb, d0⟩ := HV.out.1.at_ i hlt
      subst e
      by_cases hlm : i < m.length
      · have hlm' : (i : Int) < m.length := by omega
        have hlm2 : ¬ (m.length : Int) ≤ i := by omega
        obtain ⟨b2, off2, e2, hb2, d2⟩ := HV.out.2.at_ i hlm
        subst e2
        rw [List.drop_eq_getElem_cons hlt, List.drop_eq_getElem_cons hlm, Oq.slC] at H
        generalize l[i] = x at *
        generalize m[i] = y at *
        have HC2 := Lib.hid (HC.out x y)
        generalize Oq.cmpI x y = c at *
        by_cases hx : c = 0
        · have H2 := Lib.hid (H.out.trans (if_neg (not_not_intro hx)))
          subst hx
          clear H
          go_wp2_with (first | (go_at_call 47; with_reducible refine HC2.out.mono ?_; rintro e w' ⟨rfl, rfl⟩))
          go_roundw
          case rel => exact ⟨i + 1, by omega, by omega, by go_num, (by first | exact rfl | trivial), H2⟩
          case measure => simp [intOf]; omega
        · have H2 := Lib.hid (H.out.trans (if_pos hx))
          have hx1 : (c == 0) = false := by simpa using hx
          have hx2 : (c != 0) = true := by simpa using hx
          clear H hx
          go_wp2_with (first | (go_at_call 47; with_reducible refine HC2.out.mono ?_; rintro e w' ⟨rfl, rfl⟩))
          go_ret
          exact ⟨by rw [H2.out]; rfl, rfl⟩
      · obtain rfl : i = m.length := by omega
        have hlm2 : (m.length : Int) ≤ m.length := by omega
        rw [List.drop_eq_getElem_cons hlt, List.drop_length] at H
        have H2 : Hid (r = 1) := Lib.hid (by rw [H.out]; rfl)
        clear H
        generalize l[m.length] = x at *
        go_wp2_with fail
        go_ret
        exact ⟨by rw [H2.out]; rfl, rfl⟩
    · obtain rfl : i = l.length := by omega
      rw [List.drop_length] at H
      by_cases hlm : l.length < m.length
      · have hlm' : (l.length : Int) < m.length := by omega
        rw [List.drop_eq_getElem_cons hlm] at H
        have H2 : Hid (r = -1) := Lib.hid (by rw [H.out]; rfl)
        clear H
        go_wp2_with fail
        go_ret
        exact ⟨by rw [H2.out]; rfl, rfl⟩
      · have hlm' : ¬ (l.length : Int) < m.length := by omega
        rw [List.drop_of_length_le (by omega)] at H
        have H2 : Hid (r = 0) := Lib.hid (by rw [H.out]; rfl)
        clear H
        go_wp2_with fail
        go_ret
        exact ⟨by rw [H2.out]; rfl, rfl⟩
end Go.Proofs.Ytebohncdhhikkaa
