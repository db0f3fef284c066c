/-
  Digests: walks of Of and DigestOf.
-/
import Derived.Test.YtoohmkdgimkgoaaDg2
namespace Dg
def ofTo (l : List UInt8) (i : Nat) : Nat := (l.take i).foldl (fun h b => (h * 257 % M + (b.toNat + 1)) % M) 1
theorem ofTo_zero (l : List UInt8) : ofTo l 0 = 1 := by simp [ofTo]
theorem ofTo_succ (l : List UInt8) (i : Nat) (h : i < l.length) : ofTo l (i + 1) = (ofTo l i * 257 % M + (l[i].toNat + 1)) % M := by
  unfold ofTo; rw [List.take_succ_eq_append_getElem h, List.foldl_append]; rfl
theorem ofTo_lt (l : List UInt8) : ∀ i, i ≤ l.length → ofTo l i < 2305843009213693951
  | 0, _ => by rw [ofTo_zero]; decide
  | i + 1, h => by rw [ofTo_succ l i (by omega)]; exact Nat.mod_lt _ (by decide)
def ofL (l : List UInt8) : Nat := ofTo l l.length
end Dg
namespace Go.Proofs.Ytoohmkdgimkgoaa
open Go.RowKit Go.V
set_option linter.unusedVariables false

set_option maxHeartbeats 4000000 in
theorem digestOf_any (w : World) (A : Option Addr) (k : Nat) (l : List UInt8) (hv : SV w w.heap.size A (bytesV l)) (hl : l.length ≤ 9223372036854775807) :
    Calls Try.prog 62 #[.slice A l.length k] w fun e w' => e = .returned (.int .i64 ((Dg.ofL l : Nat) : Int)) ∧ ∃ n, w' = w.drewN n := by
  go_enter Try.func62, Try.ntmps62
  go_wp2_with fail
  go_loopw [3, 4] (fun hv iv wr => ∃ i n : Nat, i ≤ l.length ∧ hv = .int .i64 ((Dg.ofTo l i : Nat) : Int) ∧ iv = .int .i64 i ∧ wr = w.drewN n) (fun _ iv _ => l.length - (intOf iv).toNat)
  case atStart => exact ⟨0, 0, Nat.zero_le _, by rw [Dg.ofTo_zero]; rfl, rfl, rfl⟩
  case round =>
    obtain ⟨i, n, hi, rfl, rfl, rfl⟩ := hrel
    by_cases hil : i < l.length
    · have hil' : (i : Int) < l.length := by omega
      obtain ⟨b, off, e, hb, hc⟩ := hv.byte i hil
      subst e
      have hs := Dg.ofTo_succ l i hil
      have hlt := Dg.ofTo_lt l i hi
      have hb1 : l[i].toNat < 256 := l[i].toNat_lt
      have hml : Dg.ofTo l i * 257 % Dg.M < 2305843009213693951 := Nat.mod_lt _ (by decide)
      have HT := Lib.hid (fun w1 => times_any w1 (Dg.ofTo l i) 257 hlt (by decide))
      generalize hgr : Dg.ofTo l (i + 1) = r at *
      have HGR := Lib.hid hgr
      clear hgr
      generalize Dg.ofTo l i * 257 % Dg.M = q at *
      generalize Dg.ofTo l i = h at *
      generalize l[i].toNat = x at *
      have hs' : (q + (x + 1)) % 2305843009213693951 = r := hs.symm
      have HS := Lib.hid hs'
      clear hs hs'
      go_wp2_with fail
      go_quiet ((go_at_call 67; exact (HT.out _).mono fun e w2 h => ⟨h.1, _, h.2.symm⟩))
      go_wp2_with fail
      go_roundw
      case rel =>
        have := HS.out
        exact ⟨i + 1, _, by omega, by rw [HGR.out]; exact congrArg (fun z => Value.int .i64 z) (by omega), by go_num, rfl⟩
      case measure => simp [intOf]; omega
    · obtain rfl : i = l.length := by omega
      go_wp2_with fail
      go_ret
      exact ⟨rfl, _, rfl⟩

set_option maxHeartbeats 4000000 in
theorem of_bytes (w : World) (A : Option Addr) (k : Nat) (l : List UInt8) (hv : SV w w.heap.size A (bytesV l)) (hl : l.length ≤ 4096) :
    Calls Try.prog 59 #[.slice A l.length k] w fun e w' => e = .returned (.tuple #[.int .i64 ((Dg.ofL l : Nat) : Int), .agg #[.int .i64 0, .int .i64 0]]) ∧ Below w.heap.size w w' := by
  have hl' : (l.length : Int) ≤ 4096 := by omega
  go_enter Try.func59, Try.ntmps59
  go_wp2_with fail
  go_loopw [4, 13] (fun hv iv wr => ∃ i : Nat, i ≤ l.length ∧ hv = .int .i64 ((Dg.ofTo l i : Nat) : Int) ∧ iv = .int .i64 i ∧ Blk wr w.heap.size 26 #[.int .i64 0, .int .i64 0] ∧ Below w.heap.size w wr) (fun _ iv _ => l.length - (intOf iv).toNat)
  case atStart => exact ⟨0, Nat.zero_le _, by rw [Dg.ofTo_zero]; rfl, rfl, Blk.new _ _ _, below_alloc1 _ _⟩
  case round =>
    obtain ⟨i, hi, rfl, rfl, hblk, hbel⟩ := hrel
    obtain ⟨wo, rfl⟩ : ∃ wo : World, wo = wr := ⟨_, rfl⟩
    by_cases hil : i < l.length
    · have hil' : (i : Int) < l.length := by omega
      obtain ⟨b, off, e, hb, hc0⟩ := hv.byte i hil
      subst e
      have hc := (hbel.cell (p := ⟨b, off + i, none⟩) hb).trans hc0
      have hs := Dg.ofTo_succ l i hil
      have hlt := Dg.ofTo_lt l i hi
      have hb1 : l[i].toNat < 256 := l[i].toNat_lt
      have HT := Lib.hid (fun w1 => next_any w1 (Dg.ofTo l i) (l[i].toNat + 1) 257 hlt (by omega) (by decide))
      rw [← hs] at HT
      generalize hgr : Dg.ofTo l (i + 1) = r at *
      have HGR := Lib.hid hgr
      clear hgr
      generalize Dg.ofTo l i = h at *
      generalize l[i].toNat = x at *
      clear hs hc0
      go_wp2_with fail
      go_at_call 64
      refine (HT.out _).mono ?_
      rintro e w2 ⟨rfl, hb2⟩
      have hblk2 := hblk.below hb2 hblk.lt
      have hbel2 := hbel.trans (hb2.mono hbel.size)
      clear hblk hbel hb2 hc
      go_wp2_with fail
      go_roundw
      case rel => exact ⟨i + 1, by omega, by rw [HGR.out], by go_num, hblk2, hbel2⟩
      case measure => simp [intOf]; omega
    · obtain rfl : i = l.length := by omega
      have d0 := hblk.cell 0
      have d1 := hblk.cell 1
      have e0 := hblk.frozen 0
      have e1 := hblk.frozen 1
      have hlt := hblk.lt
      simp only [List.getElem?_toArray, List.getElem?_cons_zero, List.getElem?_cons_succ] at d0 d1
      go_wp2_with fail
      refine bodyPost_ret (results_tc rfl _ _ w.heap.size (.int .i64 0) (.int .i64 0) rfl (blk_put26 hblk _ _)) rfl ?_
      exact ⟨rfl, (hbel.setCell (by simp) _).setCell (by simp) _⟩
end Go.Proofs.Ytoohmkdgimkgoaa
