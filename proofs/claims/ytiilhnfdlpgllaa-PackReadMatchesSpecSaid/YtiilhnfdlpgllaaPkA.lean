/-
  Packs and objects: small words for the contracts; faults; digests of bytes.
-/
import Derived.Test.YtiilhnfdlpgllaaChecked
import Derived.Test.YtiilhnfdlpgllaaView5
import Derived.Test.YtiilhnfdlpgllaaView9
import Derived.WalkKit
import Derived.WalkLawsBesides
import Derived.WalkSpells
import Derived.Deep.QuietTactic
import Derived.BigQuiet
import Derived.RegionTactic
import Derived.BigRegion
import Derived.Deep.RegionLaw
import Derived.Deep.RegionHeld3
import Derived.Lib.Hide
import Derived.KernelRfl
namespace Dg
def M : Nat := 2305843009213693951
/-- One step of multiplying by doubling keeps 'o + a * b' modulo M. -/
theorem step_odd (o a b : Nat) (hb : b % 2 = 1) : ((o + a) % M + (2 * a % M) * (b / 2)) % M = (o + a * b) % M := by
  have h : a * b = a + 2 * a * (b / 2) := by
    have := Nat.div_add_mod b 2
    rw [hb] at this
    conv => lhs; rw [← this]
    rw [Nat.mul_add, Nat.mul_one, Nat.add_comm, ← Nat.mul_assoc, Nat.mul_comm a 2]
  rw [h, Nat.add_mod ((o + a) % M), Nat.mod_mod, Nat.mul_mod (2 * a % M), Nat.mod_mod, ← Nat.mul_mod, ← Nat.add_mod, Nat.add_assoc]
theorem step_even (o a b : Nat) (hb : b % 2 = 0) : (o + (2 * a % M) * (b / 2)) % M = (o + a * b) % M := by
  have h : a * b = 2 * a * (b / 2) := by
    have := Nat.div_add_mod b 2
    rw [hb] at this
    conv => lhs; rw [← this]
    rw [Nat.add_zero, ← Nat.mul_assoc, Nat.mul_comm a 2]
  rw [h, Nat.add_mod o, Nat.mul_mod (2 * a % M), Nat.mod_mod, ← Nat.mul_mod, ← Nat.add_mod]
/-- The digest of two digests. -/
def pairD (a b : Nat) : Nat := (a * 1000003 + b * 31 + 7) % M
theorem pair_prog (a b : Nat) : (a * 1000003 % M + (b * 31 % M + 7) % M) % M = pairD a b := by
  unfold pairD
  rw [← Nat.add_mod, Nat.add_mod (a * 1000003), Nat.add_mod (b * 31 % M), Nat.mod_mod, ← Nat.add_mod (b * 31), ← Nat.add_mod, ← Nat.add_assoc] <;> rfl
theorem pair_ref (a b : Nat) : ((a * 1000003 % M + b * 31 % M) % M + 7) % M = pairD a b := by
  unfold pairD
  rw [← Nat.add_mod, Nat.add_mod _ 7, Nat.mod_mod, ← Nat.add_mod _ 7]
/-- The digest of bytes. -/
def ofD (l : List Nat) : Nat := l.foldl (fun h b => (h * 257 % M + (b + 1)) % M) 1
end Dg
namespace Dg
def ofTo (l : List UInt8) (i : Nat) : Nat := (l.take i).foldl (fun h b => (h * 257 % M + (b.toNat + 1)) % M) 1
theorem ofTo_zero (l : List UInt8) : ofTo l 0 = 1 := by simp [ofTo]
theorem ofTo_succ (l : List UInt8) (i : Nat) (h : i < l.length) : ofTo l (i + 1) = (ofTo l i * 257 % M + (l[i].toNat + 1)) % M := by
  unfold ofTo; rw [List.take_succ_eq_append_getElem h, List.foldl_append]; rfl
theorem ofTo_lt (l : List UInt8) : ∀ i, i ≤ l.length → ofTo l i < 2305843009213693951
  | 0, _ => by rw [ofTo_zero]; decide
  | i + 1, h => by rw [ofTo_succ l i (by omega)]; exact Nat.mod_lt _ (by decide)
def ofL (l : List UInt8) : Nat := ofTo l l.length
end Dg
namespace Go.Proofs.Ytiilhnfdlpgllaa
open Go.RowKit Go.V
set_option linter.unusedVariables false
theorem below_alloc1 (w : World) (o : Obj) : Below w.heap.size w (w.alloc o) := (Below.refl _ _).alloc (Nat.le_refl _) _
theorem ret_int {k : IntKind} {a b : Int} (h : a = b) : Ending.returned (.int k a) = .returned (.int k b) := by rw [h]
/-! ### faults -/
theorem results_c {fn : Func} {a : Tmp} (h : fn.results = #[.cell a 28]) (tmps : Array Value) (w : World) (g : Nat) (x y : Value) (ha : tmps.getD a undef = .pointer (some ⟨g, 0, none⟩)) (hb : Blk w g 28 #[x, y]) :
    (results fn tmps).run Try.prog w = .ok (.agg #[x, y]) w := by
  have h0 := hb.cell 0
  have h1 := hb.cell 1
  simp only [List.getElem?_toArray, List.getElem?_cons_zero, List.getElem?_cons_succ] at h0 h1
  have ha' : tmps[a]?.getD undef = .pointer (some ⟨g, 0, none⟩) := by simpa using ha
  simp [results, h, go_sem, ha', h0, h1]
/-- One result in a slot, the fault in a cell. -/
theorem results_tc {fn : Func} {s a : Tmp} (h : fn.results = #[.tmp s, .cell a 28]) (tmps : Array Value) (w : World) (g : Nat) (x y : Value) (ha : tmps.getD a undef = .pointer (some ⟨g, 0, none⟩)) (hb : Blk w g 28 #[x, y]) :
    (results fn tmps).run Try.prog w = .ok (.tuple #[tmps.getD s undef, .agg #[x, y]]) w := by
  have h0 := hb.cell 0
  have h1 := hb.cell 1
  simp only [List.getElem?_toArray, List.getElem?_cons_zero, List.getElem?_cons_succ] at h0 h1
  have ha' : tmps[a]?.getD undef = .pointer (some ⟨g, 0, none⟩) := by simpa using ha
  simp [results, h, go_sem, ha', h0, h1]
theorem load28 (w : World) (g : Nat) (x y : Value) (h : Blk w g 28 #[x, y]) : (Instr.loadAt 28 (.pointer (some ⟨g, 0, none⟩))).run Try.prog w = .ok (.agg #[x, y]) w := by
  have h0 := h.cell 0
  have h1 := h.cell 1
  simp only [List.getElem?_toArray, List.getElem?_cons_zero, List.getElem?_cons_succ] at h0 h1
  simp [go_sem, h0, h1]
theorem fault_any (w : World) (c i : Int) : Calls Try.prog 18 #[.int .i64 c, .int .i64 i] w fun e w' => e = .returned (.agg #[.int .i64 c, .int .i64 i]) ∧ w.alloc (.cells #[.int .i64 c, .int .i64 i] 28) = w' := by
  go_enter Try.func18, Try.ntmps18
  go_wp2
  refine bodyPost_ret (v := .agg #[.int .i64 c, .int .i64 i]) (by simp [results, Try.results18, go_sem]) rfl ⟨rfl, ?_⟩
  rfl
theorem in_any (w : World) (n l h : Int) : Calls Try.prog 19 #[.int .i64 n, .int .i64 l, .int .i64 h] w fun e w' => e = .returned (.bool (decide (l ≤ n) && decide (n ≤ h))) ∧ w = w' := by
  by_cases h1 : l ≤ n
  · go_enter Try.func19, Try.ntmps19
    go_wp2
    go_ret
    exact ⟨by simp [h1], rfl⟩
  · have h1' : decide (l ≤ n) = false := by simpa using h1
    go_enter Try.func19, Try.ntmps19
    go_wp2
    go_ret
    exact ⟨by simp, rfl⟩
theorem in_yes (w : World) (n l h : Int) (hh : l ≤ n ∧ n ≤ h) : Calls Try.prog 19 #[.int .i64 n, .int .i64 l, .int .i64 h] w fun e w' => e = .returned (.bool true) ∧ w = w' :=
  (in_any w n l h).mono fun e w' ⟨he, hw⟩ => ⟨by rw [he, decide_eq_true hh.1, decide_eq_true hh.2]; rfl, hw⟩
theorem in_no (w : World) (n l h : Int) (hh : ¬ (l ≤ n ∧ n ≤ h)) : Calls Try.prog 19 #[.int .i64 n, .int .i64 l, .int .i64 h] w fun e w' => e = .returned (.bool false) ∧ w = w' :=
  (in_any w n l h).mono fun e w' ⟨he, hw⟩ => ⟨by
    rw [he]
    have : (decide (l ≤ n) && decide (n ≤ h)) = false := by
      rw [Bool.and_eq_false_iff]; simp only [decide_eq_false_iff_not]; omega
    rw [this], hw⟩
/-- A fault and nothing that lay has turned. -/
def FaultPost (w : World) (r : Int × Int) (e : Ending) (w' : World) : Prop := e = .returned (.agg #[.int .i64 r.1, .int .i64 r.2]) ∧ Below w.heap.size w w'
theorem FaultPost.mk_ {w w' : World} {r : Int × Int} {a b : Int} (h : r = (a, b)) (hb : Below w.heap.size w w') : FaultPost w r (.returned (.agg #[.int .i64 a, .int .i64 b])) w' := by
  subst h; exact ⟨rfl, hb⟩
theorem bits_odd (a : Nat) (ha : a < 9223372036854775808) : bits .and .i64 (a : Int) 1 = ((a % 2 : Nat) : Int) := by
  have h1 : (BitVec.ofInt 64 (a : Int)).toNat = a := by
    rw [BitVec.ofInt_natCast, BitVec.toNat_ofNat]; exact Nat.mod_eq_of_lt (by omega)
  show IntKind.i64.wrap ((BitVec.ofInt 64 (a : Int) &&& BitVec.ofInt 64 1).toNat : Int) = _
  have h2 : (BitVec.ofInt 64 1).toNat = 1 := by decide
  rw [BitVec.toNat_and, h1, h2, Nat.and_one_is_mod]
  have : a % 2 < 2 := Nat.mod_lt _ (by decide)
  rw [IntKind.wrap_i64]
  omega

set_option maxHeartbeats 4000000 in
theorem mul_any (w : World) (a b : Nat) (ha : a < 2305843009213693951) (hb : b < 4611686018427387904) :
    Calls Try.prog 65 #[.int .i64 a, .int .i64 b] w fun e w' => e = .returned (.int .i64 ((a * b % Dg.M : Nat) : Int)) ∧ w = w' := by
  have hfin : (0 + a * b) % Dg.M = a * b % Dg.M := by rw [Nat.zero_add]
  generalize a * b % Dg.M = r at *
  have HF := Lib.hid hfin
  clear hfin
  go_enter Try.func65, Try.ntmps65
  go_wp2_with fail
  go_loop [0, 1, 5] (fun av bv ov => ∃ x y o : Nat, x < 2305843009213693951 ∧ o < 2305843009213693951 ∧ y < 4611686018427387904 ∧ av = .int .i64 x ∧ bv = .int .i64 y ∧ ov = .int .i64 o ∧ Hid ((o + x * y) % Dg.M = (0 + a * b) % Dg.M)) (fun _ bv _ => (intOf bv).toNat)
  case atStart => exact ⟨a, b, 0, ha, by omega, hb, rfl, rfl, rfl, rfl⟩
  case round =>
    obtain ⟨x, y, o, hx, ho, hy, rfl, rfl, rfl, H⟩ := hrel
    by_cases h0 : y = 0
    · subst h0
      have hr : o = r := by
        have := H.out.trans HF.out
        rw [Nat.mul_zero, Nat.add_zero, Nat.mod_eq_of_lt (by unfold Dg.M; exact ho)] at this
        exact this
      subst hr
      go_wp2_with fail
      go_ret
      exact ⟨rfl, rfl⟩
    · have hpos : (0 : Int) < y := by omega
      have hM : Dg.M = 2305843009213693951 := rfl
      rcases Nat.mod_two_eq_zero_or_one y with h1 | h1
      · have hb0 : (bits .and .i64 (y : Int) 1 == 1) = false := by rw [bits_odd y (by omega), h1]; rfl
        have hs := Lib.hid ((Dg.step_even o x y h1).trans H.out)
        go_wp2_with fail
        go_round
        case rel => exact ⟨2 * x % 2305843009213693951, y / 2, o, Nat.mod_lt _ (by decide), ho, by omega, by go_num, by go_num, rfl, hs⟩
        case measure => simp [intOf]; omega
      · have hb0 : (bits .and .i64 (y : Int) 1 == 1) = true := by rw [bits_odd y (by omega), h1]; rfl
        have hs := Lib.hid ((Dg.step_odd o x y h1).trans H.out)
        go_wp2_with fail
        go_round
        case rel => exact ⟨2 * x % 2305843009213693951, y / 2, (o + x) % 2305843009213693951, Nat.mod_lt _ (by decide), Nat.mod_lt _ (by decide), by omega, by go_num, by go_num, by go_num, hs⟩
        case measure => simp [intOf]; omega
theorem double_any (w : World) (n : Nat) (hn : n < 2305843009213693951) :
    Calls Try.prog 63 #[.int .i64 n] w fun e w' => e = .returned (.int .i64 ((2 * n % Dg.M : Nat) : Int)) ∧ w = w' := by
  have hr : 2 * n % Dg.M = 2 * n % 2305843009213693951 := rfl
  generalize 2 * n % Dg.M = r at *
  have HR := Lib.hid hr
  clear hr
  by_cases h : (2305843009213693951 : Int) ≤ (n : Int) + n
  · go_enter Try.func63, Try.ntmps63
    go_wp2_with fail
    go_ret
    have := HR.out
    exact ⟨congrArg (fun z => Ending.returned (.int .i64 z)) (by omega), rfl⟩
  · go_enter Try.func63, Try.ntmps63
    go_wp2_with fail
    go_ret
    have := HR.out
    exact ⟨congrArg (fun z => Ending.returned (.int .i64 z)) (by omega), rfl⟩

set_option maxHeartbeats 4000000 in
theorem times_any (w : World) (a b : Nat) (ha : a < 2305843009213693951) (hb : b < 4611686018427387904) :
    Calls Try.prog 53 #[.int .i64 a, .int .i64 b] w fun e w' => e = .returned (.int .i64 ((a * b % Dg.M : Nat) : Int)) ∧ w = w' := by
  have hfin : (0 + a * b) % Dg.M = a * b % Dg.M := by rw [Nat.zero_add]
  generalize a * b % Dg.M = r at *
  have HF := Lib.hid hfin
  clear hfin
  go_enter Try.func53, Try.ntmps53
  go_wp2_with fail
  go_loop [0, 1, 5] (fun av bv ov => ∃ x y o : Nat, x < 2305843009213693951 ∧ o < 2305843009213693951 ∧ y < 4611686018427387904 ∧ av = .int .i64 x ∧ bv = .int .i64 y ∧ ov = .int .i64 o ∧ Hid ((o + x * y) % Dg.M = (0 + a * b) % Dg.M)) (fun _ bv _ => (intOf bv).toNat)
  case atStart => exact ⟨a, b, 0, ha, by omega, hb, rfl, rfl, rfl, rfl⟩
  case round =>
    obtain ⟨x, y, o, hx, ho, hy, rfl, rfl, rfl, H⟩ := hrel
    by_cases h0 : y = 0
    · subst h0
      have hr : o = r := by
        have := H.out.trans HF.out
        rw [Nat.mul_zero, Nat.add_zero, Nat.mod_eq_of_lt (by unfold Dg.M; exact ho)] at this
        exact this
      subst hr
      go_wp2_with fail
      go_ret
      exact ⟨rfl, rfl⟩
    · have hpos : (0 : Int) < y := by omega
      have hM : Dg.M = 2305843009213693951 := rfl
      have HD := Lib.hid (double_any w x hx)
      rw [hM] at HD
      rcases Nat.mod_two_eq_zero_or_one y with h1 | h1
      · have hb0 : ((y : Int) % 2 == 1) = false := by simp; omega
        have hs := Lib.hid ((Dg.step_even o x y h1).trans H.out)
        go_wp2_with fail
        go_at_call 63
        refine HD.out.mono ?_
        rintro e w' ⟨rfl, rfl⟩
        go_wp2_with fail
        go_round
        case rel => exact ⟨2 * x % 2305843009213693951, y / 2, o, Nat.mod_lt _ (by decide), ho, by omega, by go_num, by go_num, rfl, hs⟩
        case measure => simp [intOf]; omega
      · have hb0 : ((y : Int) % 2 == 1) = true := by simp; omega
        have hs := Lib.hid ((Dg.step_odd o x y h1).trans H.out)
        go_wp2_with fail
        go_at_call 63
        refine HD.out.mono ?_
        rintro e w' ⟨rfl, rfl⟩
        go_wp2_with fail
        go_round
        case rel => exact ⟨2 * x % 2305843009213693951, y / 2, (o + x) % 2305843009213693951, Nat.mod_lt _ (by decide), Nat.mod_lt _ (by decide), by omega, by go_num, by go_num, by go_num, hs⟩
        case measure => simp [intOf]; omega

set_option maxHeartbeats 4000000 in
theorem next_any (w : World) (a c f : Nat) (ha : a < 2305843009213693951) (hc : c ≤ 2305843009213693951) (hf : f < 4611686018427387904) :
    Calls Try.prog 58 #[.agg #[.int .i64 a, .int .i64 c], .int .i64 f] w fun e w' => e = .returned (.int .i64 (((a * f % Dg.M + c) % Dg.M : Nat) : Int)) ∧ Below w.heap.size w w' := by
  have hr : (a * f % Dg.M + c) % Dg.M = (a * f % Dg.M + c) % 2305843009213693951 := rfl
  have hlt : a * f % Dg.M < 2305843009213693951 := Nat.mod_lt _ (by decide)
  have HM := Lib.hid (fun w1 => mul_any w1 a f ha hf)
  generalize (a * f % Dg.M + c) % Dg.M = r at *
  generalize a * f % Dg.M = q at *
  have HR := Lib.hid hr
  clear hr
  go_enter Try.func58, Try.ntmps58
  go_wp2_with fail
  go_quiet ((go_at_call 65; exact (HM.out _).mono fun e w2 h => ⟨h.1, _, h.2.symm⟩))
  go_wp2_with fail
  go_ret
  have := HR.out
  exact ⟨congrArg (fun z => Ending.returned (.int .i64 z)) (by omega), below_drewN (below_alloc1 _ _) _⟩
set_option maxHeartbeats 4000000 in
theorem digestOf_any (w : World) (A : Option Addr) (k : Nat) (l : List UInt8) (hv : SV w w.heap.size A (bytesV l)) (hl : l.length ≤ 9223372036854775807) :
    Calls Try.prog 41 #[.slice A l.length k] w fun e w' => e = .returned (.int .i64 ((Dg.ofL l : Nat) : Int)) ∧ ∃ n, w' = w.drewN n := by
  go_enter Try.func41, Try.ntmps41
  go_wp2_with fail
  go_loopw [3, 4] (fun hv iv wr => ∃ i n : Nat, i ≤ l.length ∧ hv = .int .i64 ((Dg.ofTo l i : Nat) : Int) ∧ iv = .int .i64 i ∧ wr = w.drewN n) (fun _ iv _ => l.length - (intOf iv).toNat)
  case atStart => exact ⟨0, 0, Nat.zero_le _, by rw [Dg.ofTo_zero]; rfl, rfl, rfl⟩
  case round =>
    obtain ⟨i, n, hi, rfl, rfl, rfl⟩ := hrel
    by_cases hil : i < l.length
    · have hil' : (i : Int) < l.length := by omega
      obtain ⟨b, off, e, hb, hc⟩ := hv.byte i hil
      subst e
      have hs := Dg.ofTo_succ l i hil
      have hlt := Dg.ofTo_lt l i hi
      have hb1 : l[i].toNat < 256 := l[i].toNat_lt
      have hml : Dg.ofTo l i * 257 % Dg.M < 2305843009213693951 := Nat.mod_lt _ (by decide)
      have HT := Lib.hid (fun w1 => times_any w1 (Dg.ofTo l i) 257 hlt (by decide))
      generalize hgr : Dg.ofTo l (i + 1) = r at *
      have HGR := Lib.hid hgr
      clear hgr
      generalize Dg.ofTo l i * 257 % Dg.M = q at *
      generalize Dg.ofTo l i = h at *
      generalize l[i].toNat = x at *
      have hs' : (q + (x + 1)) % 2305843009213693951 = r := hs.symm
      have HS := Lib.hid hs'
      clear hs hs'
      go_wp2_with fail
      go_quiet ((go_at_call 53; exact (HT.out _).mono fun e w2 h => ⟨h.1, _, h.2.symm⟩))
      go_wp2_with fail
      go_roundw
      case rel =>
        have := HS.out
        exact ⟨i + 1, _, by omega, by rw [HGR.out]; exact congrArg (fun z => Value.int .i64 z) (by omega), by go_num, rfl⟩
      case measure => simp [intOf]; omega
    · obtain rfl : i = l.length := by omega
      go_wp2_with fail
      go_ret
      exact ⟨rfl, _, rfl⟩

set_option maxHeartbeats 4000000 in
theorem of_bytes (w : World) (A : Option Addr) (k : Nat) (l : List UInt8) (hv : SV w w.heap.size A (bytesV l)) (hl : l.length ≤ 4096) :
    Calls Try.prog 46 #[.slice A l.length k] w fun e w' => e = .returned (.tuple #[.int .i64 ((Dg.ofL l : Nat) : Int), .agg #[.int .i64 0, .int .i64 0]]) ∧ Below w.heap.size w w' := by
  have hl' : (l.length : Int) ≤ 4096 := by omega
  go_enter Try.func46, Try.ntmps46
  go_wp2_with fail
  go_loopw [4, 13] (fun hv iv wr => ∃ i : Nat, i ≤ l.length ∧ hv = .int .i64 ((Dg.ofTo l i : Nat) : Int) ∧ iv = .int .i64 i ∧ Blk wr w.heap.size 28 #[.int .i64 0, .int .i64 0] ∧ Below w.heap.size w wr) (fun _ iv _ => l.length - (intOf iv).toNat)
  case atStart => exact ⟨0, Nat.zero_le _, by rw [Dg.ofTo_zero]; rfl, rfl, Blk.new _ _ _, below_alloc1 _ _⟩
  case round =>
    obtain ⟨i, hi, rfl, rfl, hblk, hbel⟩ := hrel
    obtain ⟨wo, rfl⟩ : ∃ wo : World, wo = wr := ⟨_, rfl⟩
    by_cases hil : i < l.length
    · have hil' : (i : Int) < l.length := by omega
      obtain ⟨b, off, e, hb, hc0⟩ := hv.byte i hil
      subst e
      have hc := (hbel.cell (p := ⟨b, off + i, none⟩) hb).trans hc0
      have hs := Dg.ofTo_succ l i hil
      have hlt := Dg.ofTo_lt l i hi
      have hb1 : l[i].toNat < 256 := l[i].toNat_lt
      have HT := Lib.hid (fun w1 => next_any w1 (Dg.ofTo l i) (l[i].toNat + 1) 257 hlt (by omega) (by decide))
      rw [← hs] at HT
      generalize hgr : Dg.ofTo l (i + 1) = r at *
      have HGR := Lib.hid hgr
      clear hgr
      generalize Dg.ofTo l i = h at *
      generalize l[i].toNat = x at *
      clear hs hc0
      go_wp2_with fail
      go_at_call 58
      refine (HT.out _).mono ?_
      rintro e w2 ⟨rfl, hb2⟩
      have hblk2 := hblk.below hb2 hblk.lt
      have hbel2 := hbel.trans (hb2.mono hbel.size)
      clear hblk hbel hb2 hc
      go_wp2_with fail
      go_roundw
      case rel => exact ⟨i + 1, by omega, by rw [HGR.out], by go_num, hblk2, hbel2⟩
      case measure => simp [intOf]; omega
    · obtain rfl : i = l.length := by omega
      have d0 := hblk.cell 0
      have d1 := hblk.cell 1
      have e0 := hblk.frozen 0
      have e1 := hblk.frozen 1
      have hlt := hblk.lt
      simp only [List.getElem?_toArray, List.getElem?_cons_zero, List.getElem?_cons_succ] at d0 d1
      go_wp2_with fail
      refine bodyPost_ret (results_tc rfl _ _ w.heap.size (.int .i64 0) (.int .i64 0) rfl (blk_put2 hblk _ _)) rfl ?_
      exact ⟨rfl, (hbel.setCell (by simp) _).setCell (by simp) _⟩
end Go.Proofs.Ytiilhnfdlpgllaa
