/-
  Packs: walk of 'number'.
-/
import Derived.Test.YtiilhnfdlpgllaaPk14
import Derived.WalkArith
namespace Ob
/-- The number of eight bytes, as an int holds it. -/
def numN (l : List UInt8) : Nat := l.foldl (fun n b => n * 256 + b.toNat) 0
def i64 (n : Nat) : Int := if n < 9223372036854775808 then n else (n : Int) - 18446744073709551616
def numI (l : List UInt8) : Int := i64 (numN (l.take 8))
theorem numN_lt : ∀ (l : List UInt8) (i : Nat), numN (l.take i) < 256 ^ i
  | l, 0 => by simp [numN]
  | l, i + 1 => by
    have h := numN_lt l i
    by_cases hi : i < l.length
    · have hb := l[i].toNat_lt
      have e : numN (l.take (i + 1)) = numN (l.take i) * 256 + l[i].toNat := by unfold numN; rw [List.take_succ_eq_append_getElem hi, List.foldl_append]; rfl
      rw [e, Nat.pow_succ]; omega
    · rw [List.take_of_length_le (by omega : l.length ≤ i + 1), ← List.take_of_length_le (by omega : l.length ≤ i), Nat.pow_succ]
      omega
theorem numN_succ (l : List UInt8) (i : Nat) (hi : i < l.length) : numN (l.take (i + 1)) = numN (l.take i) * 256 + l[i].toNat := by unfold numN; rw [List.take_succ_eq_append_getElem hi, List.foldl_append]; rfl
end Ob
namespace Go.Proofs.Ytiilhnfdlpgllaa
open Go.RowKit Go.V
set_option linter.unusedVariables false

theorem bits_or8 (x : Int) (b : Nat) (h1 : -9223372036854775808 ≤ x) (h2 : x < 9223372036854775808) (h8 : x % 256 = 0) (hb : b < 256) : bits .or .i64 x (b : Int) = x + b := by
  show IntKind.i64.wrap ((BitVec.ofInt 64 x ||| BitVec.ofInt 64 (b : Int)).toNat : Int) = _
  have e1 : (BitVec.ofInt 64 (b : Int)).toNat = b := by
    rw [BitVec.ofInt_natCast, BitVec.toNat_ofNat]; exact Nat.mod_eq_of_lt (by omega)
  have e2 : (BitVec.ofInt 64 x).toNat = (x % 18446744073709551616).toNat := by rw [BitVec.toNat_ofInt]; rfl
  rw [BitVec.toNat_or, e1, e2]
  obtain ⟨q, hq⟩ : ∃ q : Nat, (x % 18446744073709551616).toNat = 2 ^ 8 * q := ⟨(x % 18446744073709551616).toNat / 256, by omega⟩
  rw [hq, ← Nat.two_pow_add_eq_or_of_lt (by omega : b < 2 ^ 8), IntKind.wrap_i64]
  omega
set_option maxHeartbeats 4000000 in
theorem number_any (w : World) (A : Option Addr) (n k : Nat) (l : List UInt8) (hv : SV w w.heap.size A (bytesV l)) (hln : l.length = n) (h8 : 8 ≤ n) :
    Calls Try.prog 64 #[.slice A n k] w fun e w' => e = .returned (.int .i64 (Ob.numI l)) ∧ w = w' := by
  go_enter Try.func64, Try.ntmps64
  go_wp2_with fail
  go_loop [3, 5] (fun nv iv => ∃ i : Nat, i ≤ 8 ∧ nv = .int .i64 (Ob.i64 (Ob.numN (l.take i))) ∧ iv = .int .i64 i) (fun _ iv => 8 - (intOf iv).toNat)
  case atStart => exact ⟨0, by omega, rfl, rfl⟩
  case round =>
    obtain ⟨i, hi, rfl, rfl⟩ := hrel
    by_cases hi8 : i < 8
    · have hil : i < l.length := by omega
      have hil' : (i : Int) < n := by omega
      have hi8' : (i : Int) < 8 := by omega
      have hi0 : (0 : Int) ≤ i := by omega
      obtain ⟨b, off, e, hb, hc⟩ := hv.byte i hil
      subst e
      have hlt := Ob.numN_lt l i
      have hp : 256 ^ i ≤ 256 ^ 7 := Nat.pow_le_pow_right (by omega) (by omega)
      have hs := Ob.numN_succ l i hil
      have hb1 : l[i].toNat < 256 := l[i].toNat_lt
      generalize Ob.numN (l.take i) = m at *
      generalize hme : Ob.numN (l.take (i + 1)) = m2 at *
      have HE := Lib.hid hme
      clear hme
      generalize l[i].toNat = x at *
      have hm : m < 72057594037927936 := by omega
      have hi64 : Ob.i64 m = m := by unfold Ob.i64; rw [if_pos (by omega)]
      rw [hi64]
      by_cases h55 : m < 36028797018963968
      · have ho : bits .or .i64 ((m : Int) * 256) (x : Int) = (m : Int) * 256 + x := bits_or8 _ _ (by omega) (by omega) (by omega) hb1
        have hm2 : Ob.i64 m2 = (m : Int) * 256 + x := by unfold Ob.i64; rw [if_pos (by omega)]; omega
        have HM := Lib.hid hm2
        clear hm2 hs hlt hp hi64
        go_wp2_with fail
        go_round
        case rel => exact ⟨i + 1, by omega, by rw [HE.out, HM.out], by go_num⟩
        case measure => simp [intOf]; omega
      · have hw : IntKind.i64.wrap ((m : Int) * 256) = (m : Int) * 256 - 18446744073709551616 := by rw [IntKind.wrap_i64]; omega
        have ho : bits .or .i64 ((m : Int) * 256 - 18446744073709551616) (x : Int) = (m : Int) * 256 - 18446744073709551616 + x := bits_or8 _ _ (by omega) (by omega) (by omega) hb1
        have hm2 : Ob.i64 m2 = (m : Int) * 256 - 18446744073709551616 + x := by unfold Ob.i64; rw [if_neg (by omega)]; omega
        have HM := Lib.hid hm2
        clear hm2 hs hlt hp hi64
        go_wp2_with fail
        go_round
        case rel => exact ⟨i + 1, by omega, by rw [HE.out, HM.out], by go_num⟩
        case measure => simp [intOf]; omega
    · obtain rfl : i = 8 := by omega
      go_wp2_with fail
      go_ret
      exact ⟨rfl, rfl⟩
end Go.Proofs.Ytiilhnfdlpgllaa
