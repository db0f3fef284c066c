/-
  Digests: the arithmetic modulo 2^61 - 1.
-/
import Derived.Test.YtoohmkdgimkgoaaHView
namespace Dg
def M : Nat := 2305843009213693951
/-- One step of multiplying by doubling keeps 'o + a * b' modulo M. -/
theorem step_odd (o a b : Nat) (hb : b % 2 = 1) : ((o + a) % M + (2 * a % M) * (b / 2)) % M = (o + a * b) % M := by
  have h : a * b = a + 2 * a * (b / 2) := by
    have := Nat.div_add_mod b 2
    rw [hb] at this
    conv => lhs; rw [← this]
    rw [Nat.mul_add, Nat.mul_one, Nat.add_comm, ← Nat.mul_assoc, Nat.mul_comm a 2]
  rw [h, Nat.add_mod ((o + a) % M), Nat.mod_mod, Nat.mul_mod (2 * a % M), Nat.mod_mod, ← Nat.mul_mod, ← Nat.add_mod, Nat.add_assoc]
theorem step_even (o a b : Nat) (hb : b % 2 = 0) : (o + (2 * a % M) * (b / 2)) % M = (o + a * b) % M := by
  have h : a * b = 2 * a * (b / 2) := by
    have := Nat.div_add_mod b 2
    rw [hb] at this
    conv => lhs; rw [← this]
    rw [Nat.add_zero, ← Nat.mul_assoc, Nat.mul_comm a 2]
  rw [h, Nat.add_mod o, Nat.mul_mod (2 * a % M), Nat.mod_mod, ← Nat.mul_mod, ← Nat.add_mod]
/-- The digest of two digests. -/
def pairD (a b : Nat) : Nat := (a * 1000003 + b * 31 + 7) % M
theorem pair_prog (a b : Nat) : (a * 1000003 % M + (b * 31 % M + 7) % M) % M = pairD a b := by
  unfold pairD
  rw [← Nat.add_mod, Nat.add_mod (a * 1000003), Nat.add_mod (b * 31 % M), Nat.mod_mod, ← Nat.add_mod (b * 31), ← Nat.add_mod, ← Nat.add_assoc] <;> rfl
theorem pair_ref (a b : Nat) : ((a * 1000003 % M + b * 31 % M) % M + 7) % M = pairD a b := by
  unfold pairD
  rw [← Nat.add_mod, Nat.add_mod _ 7, Nat.mod_mod, ← Nat.add_mod _ 7]
/-- The digest of bytes. -/
def ofD (l : List Nat) : Nat := l.foldl (fun h b => (h * 257 % M + (b + 1)) % M) 1
end Dg
namespace Go.Proofs.Ytoohmkdgimkgoaa
open Go.RowKit Go.V
set_option linter.unusedVariables false

theorem bits_odd (a : Nat) (ha : a < 9223372036854775808) : bits .and .i64 (a : Int) 1 = ((a % 2 : Nat) : Int) := by
  have h1 : (BitVec.ofInt 64 (a : Int)).toNat = a := by
    rw [BitVec.ofInt_natCast, BitVec.toNat_ofNat]; exact Nat.mod_eq_of_lt (by omega)
  show IntKind.i64.wrap ((BitVec.ofInt 64 (a : Int) &&& BitVec.ofInt 64 1).toNat : Int) = _
  have h2 : (BitVec.ofInt 64 1).toNat = 1 := by decide
  rw [BitVec.toNat_and, h1, h2, Nat.and_one_is_mod]
  have : a % 2 < 2 := Nat.mod_lt _ (by decide)
  rw [IntKind.wrap_i64]
  omega

set_option maxHeartbeats 4000000 in
theorem mul_any (w : World) (a b : Nat) (ha : a < 2305843009213693951) (hb : b < 4611686018427387904) :
    Calls Try.prog 69 #[.int .i64 a, .int .i64 b] w fun e w' => e = .returned (.int .i64 ((a * b % Dg.M : Nat) : Int)) ∧ w = w' := by
  have hfin : (0 + a * b) % Dg.M = a * b % Dg.M := by rw [Nat.zero_add]
  generalize a * b % Dg.M = r at *
  have HF := Lib.hid hfin
  clear hfin
  go_enter Try.func69, Try.ntmps69
  go_wp2_with fail
  go_loop [0, 1, 5] (fun av bv ov => ∃ x y o : Nat, x < 2305843009213693951 ∧ o < 2305843009213693951 ∧ y < 4611686018427387904 ∧ av = .int .i64 x ∧ bv = .int .i64 y ∧ ov = .int .i64 o ∧ Hid ((o + x * y) % Dg.M = (0 + a * b) % Dg.M)) (fun _ bv _ => (intOf bv).toNat)
  case atStart => exact ⟨a, b, 0, ha, by omega, hb, rfl, rfl, rfl, rfl⟩
  case round =>
    obtain ⟨x, y, o, hx, ho, hy, rfl, rfl, rfl, H⟩ := hrel
    by_cases h0 : y = 0
    · subst h0
      have hr : o = r := by
        have := H.out.trans HF.out
        rw [Nat.mul_zero, Nat.add_zero, Nat.mod_eq_of_lt (by unfold Dg.M; exact ho)] at this
        exact this
      subst hr
      go_wp2_with fail
      go_ret
      exact ⟨rfl, rfl⟩
    · have hpos : (0 : Int) < y := by omega
      have hM : Dg.M = 2305843009213693951 := rfl
      rcases Nat.mod_two_eq_zero_or_one y with h1 | h1
      · have hb0 : (bits .and .i64 (y : Int) 1 == 1) = false := by rw [bits_odd y (by omega), h1]; rfl
        have hs := Lib.hid ((Dg.step_even o x y h1).trans H.out)
        go_wp2_with fail
        go_round
        case rel => exact ⟨2 * x % 2305843009213693951, y / 2, o, Nat.mod_lt _ (by decide), ho, by omega, by go_num, by go_num, rfl, hs⟩
        case measure => simp [intOf]; omega
      · have hb0 : (bits .and .i64 (y : Int) 1 == 1) = true := by rw [bits_odd y (by omega), h1]; rfl
        have hs := Lib.hid ((Dg.step_odd o x y h1).trans H.out)
        go_wp2_with fail
        go_round
        case rel => exact ⟨2 * x % 2305843009213693951, y / 2, (o + x) % 2305843009213693951, Nat.mod_lt _ (by decide), Nat.mod_lt _ (by decide), by omega, by go_num, by go_num, by go_num, hs⟩
        case measure => simp [intOf]; omega
theorem double_any (w : World) (n : Nat) (hn : n < 2305843009213693951) :
    Calls Try.prog 70 #[.int .i64 n] w fun e w' => e = .returned (.int .i64 ((2 * n % Dg.M : Nat) : Int)) ∧ w = w' := by
  have hr : 2 * n % Dg.M = 2 * n % 2305843009213693951 := rfl
  generalize 2 * n % Dg.M = r at *
  have HR := Lib.hid hr
  clear hr
  by_cases h : (2305843009213693951 : Int) ≤ (n : Int) + n
  · go_enter Try.func70, Try.ntmps70
    go_wp2_with fail
    go_ret
    have := HR.out
    exact ⟨congrArg (fun z => Ending.returned (.int .i64 z)) (by omega), rfl⟩
  · go_enter Try.func70, Try.ntmps70
    go_wp2_with fail
    go_ret
    have := HR.out
    exact ⟨congrArg (fun z => Ending.returned (.int .i64 z)) (by omega), rfl⟩

set_option maxHeartbeats 4000000 in
theorem times_any (w : World) (a b : Nat) (ha : a < 2305843009213693951) (hb : b < 4611686018427387904) :
    Calls Try.prog 67 #[.int .i64 a, .int .i64 b] w fun e w' => e = .returned (.int .i64 ((a * b % Dg.M : Nat) : Int)) ∧ w = w' := by
  have hfin : (0 + a * b) % Dg.M = a * b % Dg.M := by rw [Nat.zero_add]
  generalize a * b % Dg.M = r at *
  have HF := Lib.hid hfin
  clear hfin
  go_enter Try.func67, Try.ntmps67
  go_wp2_with fail
  go_loop [0, 1, 5] (fun av bv ov => ∃ x y o : Nat, x < 2305843009213693951 ∧ o < 2305843009213693951 ∧ y < 4611686018427387904 ∧ av = .int .i64 x ∧ bv = .int .i64 y ∧ ov = .int .i64 o ∧ Hid ((o + x * y) % Dg.M = (0 + a * b) % Dg.M)) (fun _ bv _ => (intOf bv).toNat)
  case atStart => exact ⟨a, b, 0, ha, by omega, hb, rfl, rfl, rfl, rfl⟩
  case round =>
    obtain ⟨x, y, o, hx, ho, hy, rfl, rfl, rfl, H⟩ := hrel
    by_cases h0 : y = 0
    · subst h0
      have hr : o = r := by
        have := H.out.trans HF.out
        rw [Nat.mul_zero, Nat.add_zero, Nat.mod_eq_of_lt (by unfold Dg.M; exact ho)] at this
        exact this
      subst hr
      go_wp2_with fail
      go_ret
      exact ⟨rfl, rfl⟩
    · have hpos : (0 : Int) < y := by omega
      have hM : Dg.M = 2305843009213693951 := rfl
      have HD := Lib.hid (double_any w x hx)
      rw [hM] at HD
      rcases Nat.mod_two_eq_zero_or_one y with h1 | h1
      · have hb0 : ((y : Int) % 2 == 1) = false := by simp; omega
        have hs := Lib.hid ((Dg.step_even o x y h1).trans H.out)
        go_wp2_with fail
        go_at_call 70
        refine HD.out.mono ?_
        rintro e w' ⟨rfl, rfl⟩
        go_wp2_with fail
        go_round
        case rel => exact ⟨2 * x % 2305843009213693951, y / 2, o, Nat.mod_lt _ (by decide), ho, by omega, by go_num, by go_num, rfl, hs⟩
        case measure => simp [intOf]; omega
      · have hb0 : ((y : Int) % 2 == 1) = true := by simp; omega
        have hs := Lib.hid ((Dg.step_odd o x y h1).trans H.out)
        go_wp2_with fail
        go_at_call 70
        refine HD.out.mono ?_
        rintro e w' ⟨rfl, rfl⟩
        go_wp2_with fail
        go_round
        case rel => exact ⟨2 * x % 2305843009213693951, y / 2, (o + x) % 2305843009213693951, Nat.mod_lt _ (by decide), Nat.mod_lt _ (by decide), by omega, by go_num, by go_num, by go_num, hs⟩
        case measure => simp [intOf]; omega
end Go.Proofs.Ytoohmkdgimkgoaa
