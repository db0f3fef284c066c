/-
  Packs and objects: small words for the contracts; faults; digests of bytes.
  Objects and stores, the plain law. No program in sight.
  Objects and stores: what their values and slices read as.
  Objects: walks of 'check' and of the reference's 'ObjectFault'.
  Objects: walks of 'Big' and 'Wide'.
  Objects: walk of 'Bytes'.
  Objects: walk of 'Digest'.
-/
import Derived.Test.YtipjejnncnndeaaGreatDoorChecked
import Derived.Test.YtipjejnncnndeaaGreatDoorG01
import Derived.WalkKit
import Derived.WalkLawsBesides
import Derived.WalkSpells
import Derived.Deep.QuietTactic
import Derived.BigQuiet
import Derived.RegionTactic
import Derived.BigRegion
import Derived.Deep.RegionLaw
import Derived.Deep.RegionHeld3
import Derived.Lib.Hide
import Derived.KernelRfl
namespace Dg
def M : Nat := 2305843009213693951
/-- One step of multiplying by doubling keeps 'o + a * b' modulo M. -/
theorem step_odd (o a b : Nat) (hb : b % 2 = 1) : ((o + a) % M + (2 * a % M) * (b / 2)) % M = (o + a * b) % M := by
  have h : a * b = a + 2 * a * (b / 2) := by
    have := Nat.div_add_mod b 2
    rw [hb] at this
    conv => lhs; rw [← this]
    rw [Nat.mul_add, Nat.mul_one, Nat.add_comm, ← Nat.mul_assoc, Nat.mul_comm a 2]
  rw [h, Nat.add_mod ((o + a) % M), Nat.mod_mod, Nat.mul_mod (2 * a % M), Nat.mod_mod, ← Nat.mul_mod, ← Nat.add_mod, Nat.add_assoc]
theorem step_even (o a b : Nat) (hb : b % 2 = 0) : (o + (2 * a % M) * (b / 2)) % M = (o + a * b) % M := by
  have h : a * b = 2 * a * (b / 2) := by
    have := Nat.div_add_mod b 2
    rw [hb] at this
    conv => lhs; rw [← this]
    rw [Nat.add_zero, ← Nat.mul_assoc, Nat.mul_comm a 2]
  rw [h, Nat.add_mod o, Nat.mul_mod (2 * a % M), Nat.mod_mod, ← Nat.mul_mod, ← Nat.add_mod]
/-- The digest of two digests. -/
def pairD (a b : Nat) : Nat := (a * 1000003 + b * 31 + 7) % M
/-- The digest of bytes. -/
def ofD (l : List Nat) : Nat := l.foldl (fun h b => (h * 257 % M + (b + 1)) % M) 1
end Dg
namespace Dg
def ofTo (l : List UInt8) (i : Nat) : Nat := (l.take i).foldl (fun h b => (h * 257 % M + (b.toNat + 1)) % M) 1
theorem ofTo_zero (l : List UInt8) : ofTo l 0 = 1 := by simp [ofTo]
theorem ofTo_succ (l : List UInt8) (i : Nat) (h : i < l.length) : ofTo l (i + 1) = (ofTo l i * 257 % M + (l[i].toNat + 1)) % M := by
  unfold ofTo; rw [List.take_succ_eq_append_getElem h, List.foldl_append]; rfl
theorem ofTo_lt (l : List UInt8) : ∀ i, i ≤ l.length → ofTo l i < 2305843009213693951
  | 0, _ => by rw [ofTo_zero]; decide
  | i + 1, h => by rw [ofTo_succ l i (by omega)]; exact Nat.mod_lt _ (by decide)
def ofL (l : List UInt8) : Nat := ofTo l l.length
end Dg
namespace Go.Proofs.YtipjejnncnndeaaGreatDoor
open Go.RowKit Go.V
set_option linter.unusedVariables false
theorem below_alloc1 (w : World) (o : Obj) : Below w.heap.size w (w.alloc o) := (Below.refl _ _).alloc (Nat.le_refl _) _
theorem ret_int {k : IntKind} {a b : Int} (h : a = b) : Ending.returned (.int k a) = .returned (.int k b) := by rw [h]
/-! ### faults -/
theorem results_c {fn : Func} {a : Tmp} (h : fn.results = #[.cell a 33]) (tmps : Array Value) (w : World) (g : Nat) (x y : Value) (ha : tmps.getD a undef = .pointer (some ⟨g, 0, none⟩)) (hb : Blk w g 33 #[x, y]) :
    (results fn tmps).run Tryz.prog w = .ok (.agg #[x, y]) w := by
  have h0 := hb.cell 0
  have h1 := hb.cell 1
  simp only [List.getElem?_toArray, List.getElem?_cons_zero, List.getElem?_cons_succ] at h0 h1
  have ha' : tmps[a]?.getD undef = .pointer (some ⟨g, 0, none⟩) := by simpa using ha
  simp [results, h, go_sem, ha', h0, h1]
/-- One result in a slot, the fault in a cell. -/
theorem results_tc {fn : Func} {s a : Tmp} (h : fn.results = #[.tmp s, .cell a 33]) (tmps : Array Value) (w : World) (g : Nat) (x y : Value) (ha : tmps.getD a undef = .pointer (some ⟨g, 0, none⟩)) (hb : Blk w g 33 #[x, y]) :
    (results fn tmps).run Tryz.prog w = .ok (.tuple #[tmps.getD s undef, .agg #[x, y]]) w := by
  have h0 := hb.cell 0
  have h1 := hb.cell 1
  simp only [List.getElem?_toArray, List.getElem?_cons_zero, List.getElem?_cons_succ] at h0 h1
  have ha' : tmps[a]?.getD undef = .pointer (some ⟨g, 0, none⟩) := by simpa using ha
  simp [results, h, go_sem, ha', h0, h1]
theorem load28 (w : World) (g : Nat) (x y : Value) (h : Blk w g 33 #[x, y]) : (Instr.loadAt 33 (.pointer (some ⟨g, 0, none⟩))).run Tryz.prog w = .ok (.agg #[x, y]) w := by
  have h0 := h.cell 0
  have h1 := h.cell 1
  simp only [List.getElem?_toArray, List.getElem?_cons_zero, List.getElem?_cons_succ] at h0 h1
  simp [go_sem, h0, h1]
/-- A fault and nothing that lay has turned. -/
def FaultPost (w : World) (r : Int × Int) (e : Ending) (w' : World) : Prop := e = .returned (.agg #[.int .i64 r.1, .int .i64 r.2]) ∧ Below w.heap.size w w'
theorem FaultPost.mk_ {w w' : World} {r : Int × Int} {a b : Int} (h : r = (a, b)) (hb : Below w.heap.size w w') : FaultPost w r (.returned (.agg #[.int .i64 a, .int .i64 b])) w' := by
  subst h; exact ⟨rfl, hb⟩
theorem bits_odd (a : Nat) (ha : a < 9223372036854775808) : bits .and .i64 (a : Int) 1 = ((a % 2 : Nat) : Int) := by
  have h1 : (BitVec.ofInt 64 (a : Int)).toNat = a := by
    rw [BitVec.ofInt_natCast, BitVec.toNat_ofNat]; exact Nat.mod_eq_of_lt (by omega)
  show IntKind.i64.wrap ((BitVec.ofInt 64 (a : Int) &&& BitVec.ofInt 64 1).toNat : Int) = _
  have h2 : (BitVec.ofInt 64 1).toNat = 1 := by decide
  rw [BitVec.toNat_and, h1, h2, Nat.and_one_is_mod]
  have : a % 2 < 2 := Nat.mod_lt _ (by decide)
  rw [IntKind.wrap_i64]
  omega

set_option maxHeartbeats 4000000 in
theorem mul_any (w : World) (a b : Nat) (ha : a < 2305843009213693951) (hb : b < 4611686018427387904) :
    Calls Tryz.prog 80 #[.int .i64 a, .int .i64 b] w fun e w' => e = .returned (.int .i64 ((a * b % Dg.M : Nat) : Int)) ∧ w = w' := by
  have hfin : (0 + a * b) % Dg.M = a * b % Dg.M := by rw [Nat.zero_add]
  generalize a * b % Dg.M = r at *
  have HF := Lib.hid hfin
  clear hfin
  go_enter Tryz.func80, Tryz.ntmps80
  go_wp2_with fail
  go_loop [0, 1, 5] (fun av bv ov => ∃ x y o : Nat, x < 2305843009213693951 ∧ o < 2305843009213693951 ∧ y < 4611686018427387904 ∧ av = .int .i64 x ∧ bv = .int .i64 y ∧ ov = .int .i64 o ∧ Hid ((o + x * y) % Dg.M = (0 + a * b) % Dg.M)) (fun _ bv _ => (intOf bv).toNat)
  case atStart => exact ⟨a, b, 0, ha, by omega, hb, rfl, rfl, rfl, rfl⟩
  case round =>
    obtain ⟨x, y, o, hx, ho, hy, rfl, rfl, rfl, H⟩ := hrel
    by_cases h0 : y = 0
    · subst h0
      have hr : o = r := by
        have := H.out.trans HF.out
        rw [Nat.mul_zero, Nat.add_zero, Nat.mod_eq_of_lt (by unfold Dg.M; exact ho)] at this
        exact this
      subst hr
      go_wp2_with fail
      go_ret
      exact ⟨rfl, rfl⟩
    · have hpos : (0 : Int) < y := by omega
      have hM : Dg.M = 2305843009213693951 := rfl
      rcases Nat.mod_two_eq_zero_or_one y with h1 | h1
      · have hb0 : (bits .and .i64 (y : Int) 1 == 1) = false := by rw [bits_odd y (by omega), h1]; rfl
        have hs := Lib.hid ((Dg.step_even o x y h1).trans H.out)
        go_wp2_with fail
        go_round
        case rel => exact ⟨2 * x % 2305843009213693951, y / 2, o, Nat.mod_lt _ (by decide), ho, by omega, by go_num, by go_num, rfl, hs⟩
        case measure => simp [intOf]; omega
      · have hb0 : (bits .and .i64 (y : Int) 1 == 1) = true := by rw [bits_odd y (by omega), h1]; rfl
        have hs := Lib.hid ((Dg.step_odd o x y h1).trans H.out)
        go_wp2_with fail
        go_round
        case rel => exact ⟨2 * x % 2305843009213693951, y / 2, (o + x) % 2305843009213693951, Nat.mod_lt _ (by decide), Nat.mod_lt _ (by decide), by omega, by go_num, by go_num, by go_num, hs⟩
        case measure => simp [intOf]; omega
set_option maxHeartbeats 4000000 in
theorem next_any (w : World) (a c f : Nat) (ha : a < 2305843009213693951) (hc : c ≤ 2305843009213693951) (hf : f < 4611686018427387904) :
    Calls Tryz.prog 51 #[.agg #[.int .i64 a, .int .i64 c], .int .i64 f] w fun e w' => e = .returned (.int .i64 (((a * f % Dg.M + c) % Dg.M : Nat) : Int)) ∧ Below w.heap.size w w' := by
  have hr : (a * f % Dg.M + c) % Dg.M = (a * f % Dg.M + c) % 2305843009213693951 := rfl
  have hlt : a * f % Dg.M < 2305843009213693951 := Nat.mod_lt _ (by decide)
  have HM := Lib.hid (fun w1 => mul_any w1 a f ha hf)
  generalize (a * f % Dg.M + c) % Dg.M = r at *
  generalize a * f % Dg.M = q at *
  have HR := Lib.hid hr
  clear hr
  go_enter Tryz.func51, Tryz.ntmps51
  go_wp2_with fail
  go_quiet ((go_at_call 80; exact (HM.out _).mono fun e w2 h => ⟨h.1, _, h.2.symm⟩))
  go_wp2_with fail
  go_ret
  have := HR.out
  exact ⟨congrArg (fun z => Ending.returned (.int .i64 z)) (by omega), Go.V.below_drewN (below_alloc1 _ _) _⟩
set_option maxHeartbeats 4000000 in
theorem of_bytes (w : World) (A : Option Addr) (k : Nat) (l : List UInt8) (hv : SV w w.heap.size A (bytesV l)) (hl : l.length ≤ 4096) :
    Calls Tryz.prog 31 #[.slice A l.length k] w fun e w' => e = .returned (.tuple #[.int .i64 ((Dg.ofL l : Nat) : Int), .agg #[.int .i64 0, .int .i64 0]]) ∧ Below w.heap.size w w' := by
  have hl' : (l.length : Int) ≤ 4096 := by omega
  go_enter Tryz.func31, Tryz.ntmps31
  go_wp2_with fail
  go_loopw [4, 13] (fun hv iv wr => ∃ i : Nat, i ≤ l.length ∧ hv = .int .i64 ((Dg.ofTo l i : Nat) : Int) ∧ iv = .int .i64 i ∧ Blk wr w.heap.size 33 #[.int .i64 0, .int .i64 0] ∧ Below w.heap.size w wr) (fun _ iv _ => l.length - (intOf iv).toNat)
  case atStart => exact ⟨0, Nat.zero_le _, by rw [Dg.ofTo_zero]; rfl, rfl, Blk.new _ _ _, below_alloc1 _ _⟩
  case round =>
    obtain ⟨i, hi, rfl, rfl, hblk, hbel⟩ := hrel
    obtain ⟨wo, rfl⟩ : ∃ wo : World, wo = wr := ⟨_, rfl⟩
    by_cases hil : i < l.length
    · have hil' : (i : Int) < l.length := by omega
      obtain ⟨b, off, e, hb, hc0⟩ := hv.byte i hil
      subst e
      have hc := (hbel.cell (p := ⟨b, off + i, none⟩) hb).trans hc0
      have hs := Dg.ofTo_succ l i hil
      have hlt := Dg.ofTo_lt l i hi
      have hb1 : l[i].toNat < 256 := l[i].toNat_lt
      have HT := Lib.hid (fun w1 => next_any w1 (Dg.ofTo l i) (l[i].toNat + 1) 257 hlt (by omega) (by decide))
      rw [← hs] at HT
      generalize hgr : Dg.ofTo l (i + 1) = r at *
      have HGR := Lib.hid hgr
      clear hgr
      generalize Dg.ofTo l i = h at *
      generalize l[i].toNat = x at *
      clear hs hc0
      go_wp2_with fail
      go_at_call 51
      refine (HT.out _).mono ?_
      rintro e w2 ⟨rfl, hb2⟩
      have hblk2 := hblk.below hb2 hblk.lt
      have hbel2 := hbel.trans (hb2.mono hbel.size)
      clear hblk hbel hb2 hc
      go_wp2_with fail
      go_roundw
      case rel => exact ⟨i + 1, by omega, by rw [HGR.out], by go_num, hblk2, hbel2⟩
      case measure => simp [intOf]; omega
    · obtain rfl : i = l.length := by omega
      have d0 := hblk.cell 0
      have d1 := hblk.cell 1
      have e0 := hblk.frozen 0
      have e1 := hblk.frozen 1
      have hlt := hblk.lt
      simp only [List.getElem?_toArray, List.getElem?_cons_zero, List.getElem?_cons_succ] at d0 d1
      go_wp2_with fail
      refine bodyPost_ret (results_tc rfl _ _ w.heap.size (.int .i64 0) (.int .i64 0) rfl (blk_put2 hblk _ _)) rfl ?_
      exact ⟨rfl, (hbel.setCell (by simp) _).setCell (by simp) _⟩
end Go.Proofs.YtipjejnncnndeaaGreatDoor
namespace Ob
structure O where
  kind : Int
  links : List Int
  data : List UInt8
instance : Inhabited O := ⟨⟨0, [], []⟩⟩
structure S where
  dig : Int
  ob : O
instance : Inhabited S := ⟨⟨0, default⟩⟩
def lnFrom (ls : List Int) (i : Nat) : Int × Int := if h : i < ls.length then if ls[i] < 0 ∨ 2305843009213693951 ≤ ls[i] then (3, (i : Int)) else lnFrom ls (i + 1) else (0, 0)
termination_by ls.length - i
theorem lnFrom_end (ls : List Int) (i : Nat) (h : ls.length ≤ i) : lnFrom ls i = (0, 0) := by rw [lnFrom, dif_neg (by omega)]
theorem lnFrom_bad (ls : List Int) (i : Nat) (h : i < ls.length) (hc : ls[i] < 0 ∨ 2305843009213693951 ≤ ls[i]) : lnFrom ls i = (3, (i : Int)) := by rw [lnFrom, dif_pos h, if_pos hc]
theorem lnFrom_next (ls : List Int) (i : Nat) (h : i < ls.length) (hc : ¬ (ls[i] < 0 ∨ 2305843009213693951 ≤ ls[i])) : lnFrom ls i = lnFrom ls (i + 1) := by rw [lnFrom, dif_pos h, if_neg hc]
theorem lnFrom_ok (ls : List Int) : ∀ n i, ls.length - i ≤ n → (lnFrom ls i).1 = 0 → lnFrom ls i = (0, 0) ∧ ∀ j (h : j < ls.length), i ≤ j → 0 ≤ ls[j] ∧ ls[j] < 2305843009213693951
  | n, i, hn, h => by
    by_cases hi : i < ls.length
    · by_cases hc : ls[i] < 0 ∨ 2305843009213693951 ≤ ls[i]
      · rw [lnFrom_bad ls i hi hc] at h; cases h
      · obtain _ | n := n
        · omega
        · rw [lnFrom_next ls i hi hc] at h ⊢
          obtain ⟨h1, h2⟩ := lnFrom_ok ls n (i + 1) (by omega) h
          refine ⟨h1, fun j hj hij => ?_⟩
          by_cases e : j = i
          · subst e; omega
          · exact h2 j hj (by omega)
    · rw [lnFrom_end ls i (by omega)]; exact ⟨rfl, fun j hj hij => by omega⟩
theorem lnFrom_all (ls : List Int) (h : ∀ j (h : j < ls.length), 0 ≤ ls[j] ∧ ls[j] < 2305843009213693951) : ∀ n i, ls.length - i ≤ n → lnFrom ls i = (0, 0)
  | n, i, hn => by
    by_cases hi : i < ls.length
    · obtain _ | n := n
      · omega
      · rw [lnFrom_next ls i hi (by have := h i hi; omega)]; exact lnFrom_all ls h n (i + 1) (by omega)
    · exact lnFrom_end ls i (by omega)
/-- The fault of an object. -/
def obF (o : O) : Int × Int :=
  if o.kind < 1 ∨ 3 < o.kind then (4, 0) else if 30 < o.links.length then (2, 0) else if 1000 < o.data.length then (10, 0)
  else if o.kind = 1 ∧ 0 < o.links.length then (5, 0) else lnFrom o.links 0
structure Ok (o : O) : Prop where
  lo : 1 ≤ o.kind
  hi : o.kind ≤ 3
  ln : o.links.length ≤ 30
  dn : o.data.length ≤ 1000
  bl : o.kind = 1 → o.links = []
  all : ∀ j (h : j < o.links.length), 0 ≤ o.links[j] ∧ o.links[j] < 2305843009213693951
theorem obF_ok {o : O} (h : (obF o).1 = 0) : obF o = (0, 0) ∧ Ok o := by
  unfold obF at h ⊢
  split at h
  · cases h
  · rename_i h1
    rw [if_neg h1]
    split at h
    · cases h
    · rename_i h2
      rw [if_neg h2]
      split at h
      · cases h
      · rename_i h3
        rw [if_neg h3]
        split at h
        · cases h
        · rename_i h4
          rw [if_neg h4]
          obtain ⟨h5, h6⟩ := lnFrom_ok _ _ 0 (Nat.le_refl _) h
          refine ⟨h5, by omega, by omega, by omega, by omega, fun hk => List.eq_nil_of_length_eq_zero ?_, fun j hj => h6 j hj (Nat.zero_le _)⟩
          have := fun hh => h4 ⟨hk, hh⟩
          omega
theorem Ok.f {o : O} (h : Ok o) : obF o = (0, 0) := by
  obtain ⟨h1, h2, h3, h4, h5, h6⟩ := h
  unfold obF
  rw [if_neg (by omega), if_neg (by omega), if_neg (by omega), if_neg (by rintro ⟨a, b⟩; rw [h5 a] at b; simp at b)]
  exact lnFrom_all _ h6 _ 0 (Nat.le_refl _)
/-- A number as eight bytes. -/
def wide (n : Nat) : List UInt8 := (List.range 8).map fun j => UInt8.ofNat (n / 256 ^ (7 - j))
@[simp] theorem wide_length (n : Nat) : (wide n).length = 8 := by simp [wide]
def lnB (ls : List Int) (i : Nat) : List UInt8 := (ls.take i).flatMap fun n => wide n.toNat
@[simp] theorem lnB_zero (ls : List Int) : lnB ls 0 = [] := rfl
theorem lnB_succ (ls : List Int) (i : Nat) (h : i < ls.length) : lnB ls (i + 1) = lnB ls i ++ wide ls[i].toNat := by
  unfold lnB; rw [List.take_succ_eq_append_getElem h, List.flatMap_append]; simp
@[simp] theorem lnB_length (ls : List Int) : ∀ i, i ≤ ls.length → (lnB ls i).length = 8 * i
  | 0, _ => rfl
  | i + 1, h => by rw [lnB_succ ls i (by omega), List.length_append, lnB_length ls i (by omega), wide_length]; omega
/-- The bytes that are digested for an object. -/
def bytes (o : O) : List UInt8 := [UInt8.ofNat o.kind.toNat, UInt8.ofNat o.links.length] ++ lnB o.links o.links.length ++ o.data
theorem bytes_length (o : O) : (bytes o).length = 2 + 8 * o.links.length + o.data.length := by simp [bytes]; omega
def dig (o : O) : Nat := Dg.ofL (bytes o)
theorem dig_lt (o : O) : dig o < 2305843009213693951 := Dg.ofTo_lt _ _ (Nat.le_refl _)
/-! ### stores -/
def it (s : List S) (i : Nat) : S := s[i]?.getD default
theorem it_eq (s : List S) (i : Nat) (h : i < s.length) : s[i] = it s i := by unfold it; rw [List.getElem?_eq_getElem h]; rfl
def code (s : List S) (i : Nat) : Int :=
  if (obF (it s i).ob).1 ≠ 0 then (obF (it s i).ob).1 else if ((dig (it s i).ob : Nat) : Int) ≠ (it s i).dig then 18
  else if 0 < i ∧ (it s i).dig ≤ (it s (i - 1)).dig then 5 else 0
def stFrom (s : List S) (i : Nat) : Int × Int := if i < s.length then if code s i ≠ 0 then (code s i, (i : Int)) else stFrom s (i + 1) else (0, 0)
termination_by s.length - i
theorem stFrom_end (s : List S) (i : Nat) (h : s.length ≤ i) : stFrom s i = (0, 0) := by rw [stFrom, if_neg (by omega)]
theorem stFrom_bad (s : List S) (i : Nat) (h : i < s.length) (hc : code s i ≠ 0) : stFrom s i = (code s i, (i : Int)) := by rw [stFrom, if_pos h, if_pos hc]
theorem stFrom_next (s : List S) (i : Nat) (h : i < s.length) (hc : code s i = 0) : stFrom s i = stFrom s (i + 1) := by rw [stFrom, if_pos h, if_neg (by omega)]
def stF (s : List S) : Int × Int := if 40 < s.length then (2, 0) else stFrom s 0
/-- A valid store. -/
structure StOk (s : List S) : Prop where
  len : s.length ≤ 40
  ok : ∀ i, i < s.length → Ok (it s i).ob
  eq : ∀ i, i < s.length → (it s i).dig = ((dig (it s i).ob : Nat) : Int)
  lt : ∀ i, i + 1 < s.length → (it s i).dig < (it s (i + 1)).dig
theorem code_zero {s : List S} {i : Nat} (h : code s i = 0) : Ok (it s i).ob ∧ (it s i).dig = ((dig (it s i).ob : Nat) : Int) ∧ (0 < i → (it s (i - 1)).dig < (it s i).dig) := by
  unfold code at h
  split at h
  · rename_i h1; exact absurd h h1
  · rename_i h1
    split at h
    · cases h
    · rename_i h2
      split at h
      · cases h
      · rename_i h3
        refine ⟨(obF_ok (by simpa using h1)).2, by omega, fun hi => ?_⟩
        have := fun hh => h3 ⟨hi, hh⟩
        omega
theorem stFrom_ok (s : List S) : ∀ n i, s.length - i ≤ n → (stFrom s i).1 = 0 → stFrom s i = (0, 0) ∧ ∀ j, j < s.length → i ≤ j → code s j = 0
  | n, i, hn, h => by
    by_cases hi : i < s.length
    · by_cases hc : code s i = 0
      · obtain _ | n := n
        · omega
        · rw [stFrom_next s i hi hc] at h ⊢
          obtain ⟨h1, h2⟩ := stFrom_ok s n (i + 1) (by omega) h
          refine ⟨h1, fun j hj hij => ?_⟩
          by_cases e : j = i
          · subst e; exact hc
          · exact h2 j hj (by omega)
      · rw [stFrom_bad s i hi hc] at h; exact absurd h hc
    · rw [stFrom_end s i (by omega)]; exact ⟨rfl, fun j hj hij => by omega⟩
theorem stF_ok {s : List S} (h : (stF s).1 = 0) : stF s = (0, 0) ∧ StOk s := by
  unfold stF at h ⊢
  split at h
  · cases h
  · rename_i hl
    rw [if_neg hl]
    obtain ⟨h1, h2⟩ := stFrom_ok s _ 0 (Nat.le_refl _) h
    refine ⟨h1, by omega, fun i hi => (code_zero (h2 i hi (Nat.zero_le _))).1, fun i hi => (code_zero (h2 i hi (Nat.zero_le _))).2.1, fun i hi => ?_⟩
    have := (code_zero (h2 (i + 1) hi (Nat.zero_le _))).2.2 (by omega)
    simpa using this
theorem StOk.code {s : List S} (h : StOk s) (i : Nat) (hi : i < s.length) : Ob.code s i = 0 := by
  unfold Ob.code
  rw [(h.ok i hi).f, if_neg (by simp), if_neg (by rw [h.eq i hi]; simp), if_neg]
  rintro ⟨h0, h1⟩
  have := h.lt (i - 1) (by omega)
  rw [show i - 1 + 1 = i by omega] at this
  omega
theorem stFrom_all (s : List S) (h : ∀ i, i < s.length → code s i = 0) : ∀ n i, s.length - i ≤ n → stFrom s i = (0, 0)
  | n, i, hn => by
    by_cases hi : i < s.length
    · obtain _ | n := n
      · omega
      · rw [stFrom_next s i hi (h i hi)]; exact stFrom_all s h n (i + 1) (by omega)
    · exact stFrom_end s i (by omega)
theorem StOk.f {s : List S} (h : StOk s) : stF s = (0, 0) := by
  have := h.len
  unfold stF; rw [if_neg (by omega)]; exact stFrom_all s h.code _ 0 (Nat.le_refl _)
theorem StOk.mono_ {s : List S} (h : StOk s) : ∀ d i, i + d < s.length → 0 < d → (it s i).dig < (it s (i + d)).dig
  | 0, _, _, hd => by omega
  | 1, i, hi, _ => h.lt i hi
  | d + 2, i, hi, _ => Int.lt_trans (h.mono_ (d + 1) i (by omega) (by omega)) (h.lt (i + (d + 1)) hi)
theorem StOk.mono {s : List S} (h : StOk s) {i j : Nat} (hij : i < j) (hj : j < s.length) : (it s i).dig < (it s j).dig := by
  have := h.mono_ (j - i) i (by omega) (by omega)
  rwa [show i + (j - i) = j by omega] at this
end Ob
namespace Go.Proofs.YtipjejnncnndeaaGreatDoor
open Go.RowKit Go.V
set_option linter.unusedVariables false

/-- The slices of an object read as its links and its data. -/
structure ObA (w : World) (X : Nat → Prop) (o : Ob.O) (Al : Option Addr) (kl : Nat) (Ad : Option Addr) (kd : Nat) : Prop where
  kind : I64 o.kind
  all : ∀ (i : Nat) (h : i < o.links.length), I64 o.links[i]
  lk : o.links.length ≤ kl
  dk : o.data.length ≤ kd
  ll : o.links.length ≤ 140737488351232
  dl : o.data.length ≤ 140737488351232
  ls : SA w X Al (intsV o.links)
  ds : SA w X Ad (bytesV o.data)
/-- The value of an object. -/
abbrev obV (o : Ob.O) (Al : Option Addr) (kl : Nat) (Ad : Option Addr) (kd : Nat) : Value := .agg #[.int .i64 o.kind, .slice Al o.links.length kl, .slice Ad o.data.length kd]
/-- One stored object as four cells. -/
def StR (w : World) (X : Nat → Prop) (s : Ob.S) (cs : List Value) : Prop :=
  ∃ Al kl Ad kd, cs = [.int .i64 s.dig, .int .i64 s.ob.kind, .slice Al s.ob.links.length kl, .slice Ad s.ob.data.length kd] ∧ I64 s.dig ∧ ObA w X s.ob Al kl Ad kd
section
variable {w w' : World} {X X' : Nat → Prop}
theorem ObA.keep {o : Ob.O} {Al : Option Addr} {kl : Nat} {Ad : Option Addr} {kd : Nat} (h : ObA w X o Al kl Ad kd) (k : Keeps w X w' X') : ObA w' X' o Al kl Ad kd :=
  ⟨h.kind, h.all, h.lk, h.dk, h.ll, h.dl, h.ls.keep k, h.ds.keep k⟩
theorem StR.len (s : Ob.S) (cs : List Value) (h : StR w X s cs) : cs.length = 4 := by obtain ⟨_, _, _, _, rfl, _⟩ := h; rfl
theorem StR.keep (k : Keeps w X w' X') (s : Ob.S) (cs : List Value) (h : StR w X s cs) : StR w' X' s cs := by
  obtain ⟨Al, kl, Ad, kd, e, h1, h2⟩ := h; exact ⟨Al, kl, Ad, kd, e, h1, h2.keep k⟩
/-- The slice at A holds the stored objects. -/
def StV (w : World) (X : Nat → Prop) (A : Option Addr) (s : List Ob.S) : Prop := ∃ vs, SA w X A vs ∧ RowsR (StR w X) s vs
theorem StV.keep {A : Option Addr} {s : List Ob.S} (h : StV w X A s) (k : Keeps w X w' X') : StV w' X' A s := by
  obtain ⟨vs, h1, h2⟩ := h; exact ⟨vs, h1.keep k, h2.mono (StR.keep k)⟩
theorem StV.row {A : Option Addr} {s : List Ob.S} (h : StV w X A s) (i : Nat) (hi : i < s.length) : ∃ b off Al kl Ad kd, A = some ⟨b, off, none⟩ ∧ b < w.heap.size ∧ ¬ X b ∧
    w.cell? ⟨b, off + i * 4, none⟩ = some (.int .i64 (Ob.it s i).dig) ∧ w.cell? ⟨b, off + i * 4 + 1, none⟩ = some (.int .i64 (Ob.it s i).ob.kind) ∧
    w.cell? ⟨b, off + i * 4 + 2, none⟩ = some (.slice Al (Ob.it s i).ob.links.length kl) ∧ w.cell? ⟨b, off + i * 4 + 3, none⟩ = some (.slice Ad (Ob.it s i).ob.data.length kd) ∧
    I64 (Ob.it s i).dig ∧ ObA w X (Ob.it s i).ob Al kl Ad kd := by
  obtain ⟨us, h1, h2⟩ := h
  obtain ⟨b, off, cs, e, hb, hx, ⟨Al, kl, Ad, kd, rfl, k1, k2⟩, hc⟩ := SA.row StR.len (by omega) h1 h2 i hi
  rw [← Ob.it_eq s i hi]
  exact ⟨b, off, Al, kl, Ad, kd, e, hb, hx, hc 0 _ rfl, hc 1 _ rfl, hc 2 _ rfl, hc 3 _ rfl, k1, k2⟩
end
theorem free_below {w w' : World} (hb : Below w.heap.size w w') : Keeps w Free w' Free := Keeps.below hb (fun _ _ h => h)
theorem below_drew' {B : Nat} {a w : World} (h : Below B a w) : Below B a w.drew := Go.V.below_drewN h 1
theorem gen_world {C : World → Prop} {w : World} (F : World → Prop) (hF : F w) (h : ∀ wz, F wz → C wz) : C w := h w hF
end Go.Proofs.YtipjejnncnndeaaGreatDoor
namespace Go.Proofs.YtipjejnncnndeaaGreatDoor
open Go.RowKit Go.V
set_option linter.unusedVariables false

theorem blk_new1 (w : World) (o : Obj) (t : TypeId) (cs : Array Value) : Blk ((w.alloc o).alloc (.cells cs t)) (w.heap.size + 1) t cs := by
  have := Blk.new (w.alloc o) t cs; rwa [World.size_alloc] at this
theorem below_alloc2 (w : World) (o o' : Obj) : Below w.heap.size w ((w.alloc o).alloc o') := (below_alloc1 w o).alloc (by simp) _
theorem below_alloc3 (w : World) (o o' o'' : Obj) : Below w.heap.size w (((w.alloc o).alloc o').alloc o'') := (below_alloc2 w o o').alloc (by simp; omega) _
set_option maxRecDepth 100000 in
set_option maxHeartbeats 8000000 in
theorem check_any (w : World) (o : Ob.O) (Al : Option Addr) (kl : Nat) (Ad : Option Addr) (kd : Nat) (ho : ObA w Free o Al kl Ad kd) :
    Calls Tryz.prog 30 #[obV o Al kl Ad kd] w (FaultPost w (Ob.obF o)) := by
  obtain ⟨hk, hall, hlk, hdk, hll, hdl, hls, hds⟩ := ho
  have hls1 := hls.keep (Keeps.alloc w Free (.cells #[.int .i64 o.kind, .slice Al o.links.length kl, .slice Ad o.data.length kd] 48))
  have hls2 := hls1.keep (Keeps.alloc _ Free (.cells #[.int .i64 0, .int .i64 0] 33))
  have HF := Lib.hid (Ob.obF.eq_1 o)
  unfold I64 at hk
  clear hls hls1 hds
  by_cases h1 : o.kind < 1 ∨ 3 < o.kind
  · have H := Lib.hid (show Ob.obF o = (4, 0) from by rw [HF.out, if_pos h1])
    skip
    clear HF hls2
    generalize Ob.obF o = r at *
    obtain ⟨kk, ls, da⟩ := o
    simp only at *
    by_cases h1a : kk < 1
    · have h1b : decide (kk < 1) = true := by simpa using h1a
      go_enter Tryz.func30, Tryz.ntmps30
      go_wp2_with fail
      refine bodyPost_ret (results_c rfl _ _ (w.heap.size + 1) (.int .i64 4) (.int .i64 0) rfl (blk_new1 _ _ _ _)) rfl (FaultPost.mk_ H.out ?_)
      exact below_alloc2 _ _ _
    · have h1b : decide (kk < 1) = false := by simpa using h1a
      have h1c : decide (3 < kk) = true := by simp; omega
      go_enter Tryz.func30, Tryz.ntmps30
      go_wp2_with fail
      refine bodyPost_ret (results_c rfl _ _ (w.heap.size + 1) (.int .i64 4) (.int .i64 0) rfl (blk_new1 _ _ _ _)) rfl (FaultPost.mk_ H.out ?_)
      exact below_alloc2 _ _ _
  · have h1b : decide (o.kind < 1) = false := by simp; omega
    have h1c : decide (3 < o.kind) = false := by simp; omega
    skip
    by_cases h2 : 30 < o.links.length
    · have H := Lib.hid (show Ob.obF o = (2, 0) from by rw [HF.out, if_neg h1, if_pos h2])
      have h2' : (30 : Int) < o.links.length := by omega
      clear HF hls2
      generalize Ob.obF o = r at *
      obtain ⟨kk, ls, da⟩ := o
      simp only at *
      go_enter Tryz.func30, Tryz.ntmps30
      go_wp2_with fail
      refine bodyPost_ret (results_c rfl _ _ (w.heap.size + 1) (.int .i64 2) (.int .i64 0) rfl (blk_new1 _ _ _ _)) rfl (FaultPost.mk_ H.out ?_)
      exact below_alloc2 _ _ _
    · have h2' : (o.links.length : Int) ≤ 30 := by omega
      by_cases h3 : 1000 < o.data.length
      · have H := Lib.hid (show Ob.obF o = (10, 0) from by rw [HF.out, if_neg h1, if_neg h2, if_pos h3])
        have h3' : (1000 : Int) < o.data.length := by omega
        clear HF hls2
        generalize Ob.obF o = r at *
        obtain ⟨kk, ls, da⟩ := o
        simp only at *
        go_enter Tryz.func30, Tryz.ntmps30
        go_wp2_with fail
        refine bodyPost_ret (results_c rfl _ _ (w.heap.size + 1) (.int .i64 10) (.int .i64 0) rfl (blk_new1 _ _ _ _)) rfl (FaultPost.mk_ H.out ?_)
        exact below_alloc2 _ _ _
      · have h3' : (o.data.length : Int) ≤ 1000 := by omega
        by_cases h4 : o.kind = 1 ∧ 0 < o.links.length
        · have H := Lib.hid (show Ob.obF o = (5, 0) from by rw [HF.out, if_neg h1, if_neg h2, if_neg h3, if_pos h4])
          obtain ⟨h4a, h4b⟩ := h4
          have h4c : (0 : Int) < o.links.length := by omega
          have h4d : ((o.links.length : Int) != 0) = true := bne_iff_ne.2 (by omega)
          clear HF hls2 h1 h1b h1c
          generalize Ob.obF o = r at *
          obtain ⟨kk, ls, da⟩ := o
          simp only at *
          subst h4a
          go_enter Tryz.func30, Tryz.ntmps30
          go_wp2_with fail
          refine bodyPost_ret (results_c rfl _ _ (w.heap.size + 1) (.int .i64 5) (.int .i64 0) rfl (blk_new1 _ _ _ _)) rfl (FaultPost.mk_ H.out ?_)
          exact below_alloc2 _ _ _
        · have H0 := Lib.hid (show Ob.obF o = Ob.lnFrom o.links 0 from by rw [HF.out, if_neg h1, if_neg h2, if_neg h3, if_neg h4])
          have HK : (o.kind == 1) = false ∨ (o.kind = 1 ∧ o.links = []) := by
            by_cases hk1 : o.kind = 1
            · exact .inr ⟨hk1, List.eq_nil_of_length_eq_zero (Nat.eq_zero_of_not_pos fun h => h4 ⟨hk1, h⟩)⟩
            · exact .inl (by simpa using hk1)
          clear HF h4 h1
          generalize Ob.obF o = r at *
          obtain ⟨kk, ls, da⟩ := o
          simp only at *
          rcases HK with hk1 | ⟨hk1, hnil⟩
          · go_enter Tryz.func30, Tryz.ntmps30
            go_wp2_with fail
            go_loop [41] (fun v => ∃ j : Nat, j ≤ ls.length ∧ v = .int .i64 j ∧ Hid (Ob.lnFrom ls 0 = Ob.lnFrom ls j)) (fun v => ls.length - (intOf v).toNat)
            case atStart => exact ⟨0, Nat.zero_le _, rfl, Lib.hid rfl⟩
            case round =>
              obtain ⟨j, hj, rfl, HJ⟩ := hrel
              by_cases hlt : j < ls.length
              · have hlt' : (j : Int) < ls.length := by omega
                obtain ⟨b, off, e, hb, hc⟩ := hls2.sv.int j hlt
                subst e
                have hjb := hall j hlt
                unfold I64 at hjb
                by_cases hr : ls[j] < 0 ∨ 2305843009213693951 ≤ ls[j]
                · have H := Lib.hid (show r = (3, (j : Int)) from by rw [H0.out, HJ.out, Ob.lnFrom_bad ls j hlt hr])
                  skip
                  generalize ls[j] = x at *
                  by_cases hr0 : x < 0
                  · have hr1 : decide (x < 0) = true := by simpa using hr0
                    clear hr
                    go_wp2_with fail
                    refine bodyPost_ret (results_c rfl _ _ (w.heap.size + 1) (.int .i64 3) (.int .i64 j) rfl (blk_new1 _ _ _ _)) rfl (FaultPost.mk_ H.out ?_)
                    exact below_alloc2 _ _ _
                  · have hr1 : decide (x < 0) = false := by simpa using hr0
                    have hr2 : decide (2305843009213693951 ≤ x) = true := by simp; omega
                    clear hr
                    go_wp2_with fail
                    refine bodyPost_ret (results_c rfl _ _ (w.heap.size + 1) (.int .i64 3) (.int .i64 j) rfl (blk_new1 _ _ _ _)) rfl (FaultPost.mk_ H.out ?_)
                    exact below_alloc2 _ _ _
                · have HJ2 := Lib.hid (HJ.out.trans (Ob.lnFrom_next ls j hlt hr))
                  have hr1 : decide (ls[j] < 0) = false := by simp; omega
                  have hr2 : decide (2305843009213693951 ≤ ls[j]) = false := by simp; omega
                  skip
                  generalize ls[j] = x at *
                  go_wp2_with fail
                  go_round
                  case rel => exact ⟨j + 1, by omega, by go_num, HJ2⟩
                  case measure => simp [intOf]; omega
              · obtain rfl : j = ls.length := by omega
                have H := Lib.hid (show r = (0, 0) from by rw [H0.out, HJ.out, Ob.lnFrom_end ls _ (Nat.le_refl _)])
                go_wp2_with fail
                refine bodyPost_ret (results_c rfl _ _ (w.heap.size + 1) (.int .i64 0) (.int .i64 0) rfl (blk_new1 _ _ _ _)) rfl (FaultPost.mk_ H.out ?_)
                exact below_alloc2 _ _ _
          · subst hk1 hnil
            have H := Lib.hid (show r = (0, 0) from by rw [H0.out, Ob.lnFrom_end [] 0 (Nat.le_refl _)])
            go_enter Tryz.func30, Tryz.ntmps30
            go_wp2_with fail
            refine wp_loop_rounds 1 ?_
            rw [rounds_succ]
            go_wp2_with fail
            refine bodyPost_ret (results_c rfl _ _ (w.heap.size + 1) (.int .i64 0) (.int .i64 0) rfl (blk_new1 _ _ _ _)) rfl (FaultPost.mk_ H.out ?_)
            exact below_alloc2 _ _ _
end Go.Proofs.YtipjejnncnndeaaGreatDoor
namespace Go.Proofs.YtipjejnncnndeaaGreatDoor
open Go.RowKit Go.V
set_option linter.unusedVariables false

theorem info5 : (Tryz.prog.info? 5).map (fun i => (i.zero, i.size, i.bytes)) = some (some (.int .u8 0), 1, 1) := by kernel_rfl
/-- Bytes in a row of the call's own. -/
def BtPost (w : World) (l : List UInt8) (e : Ending) (w' : World) : Prop := ∃ A c, e = .returned (.slice A l.length c) ∧ l.length ≤ c ∧ c ≤ maxLen ∧ w'.ownsRow w.heap.size 5 1 (.slice A l.length c) l.length (bytesV l) ∧ Below w.heap.size w w'
theorem wide_get (n j : Nat) (h : j < 8) : (Ob.wide n)[j]? = some (UInt8.ofNat (n / 256 ^ (7 - j))) := by
  unfold Ob.wide; simp [h]
theorem wide_take (n j : Nat) (h : j < 8) : (Ob.wide n).take (j + 1) = (Ob.wide n).take j ++ [UInt8.ofNat (n / 256 ^ (7 - j))] := by
  have h8 : j < (Ob.wide n).length := by simpa using h
  rw [List.take_succ_eq_append_getElem h8]
  have := wide_get n j h
  rw [List.getElem?_eq_getElem h8] at this
  injection this with this
  rw [this]
theorem pow_eq (j : Nat) (h : j < 8) : 256 ^ (7 - j) = 2 ^ (56 - 8 * j) := by
  rw [show (256 : Nat) = 2 ^ 8 by rfl, ← Nat.pow_mul]; congr 1; omega
theorem u8_int (m : Nat) : ((UInt8.ofNat m).toNat : Int) = (m : Int) % 256 := by simp
set_option maxRecDepth 100000 in
set_option maxHeartbeats 8000000 in
theorem big_any (w : World) (n : Nat) (hn : n < 2305843009213693951) : Calls Tryz.prog 36 #[.int .i64 n] w (BtPost w (Ob.wide n)) := by
  obtain ⟨i0, hi0, hz0, hz1, hz2⟩ := info_parts info5
  go_enter Tryz.func36, Tryz.ntmps36
  go_wp2_with fail
  go_loopw [3, 4] (fun vv sv wr => ∃ (j : Nat) (A : Option Addr) (c : Nat), j ≤ 8 ∧ vv = .slice A j c ∧ sv = .int .i64 (56 - 8 * (j : Int)) ∧ wr.ownsRow w.heap.size 5 1 (.slice A j c) j (bytesV ((Ob.wide n).take j)) ∧ Below w.heap.size w wr) (fun _ sv _ => (intOf sv + 8).toNat)
  case atStart => exact ⟨0, none, 0, by omega, rfl, rfl, World.ownsRow_nil _ _ _ _, Below.refl _ _⟩
  case round =>
    obtain ⟨j, A, c, hj, rfl, rfl, hown, hbel⟩ := hrel
    obtain ⟨wo, rfl⟩ : ∃ wo : World, wo = wr := ⟨_, rfl⟩
    have hsz := hbel.size
    by_cases hj8 : j < 8
    · have h1 : (0 : Int) ≤ 56 - 8 * (j : Int) := by omega
      have hval : (n : Int) / 2 ^ (56 - 8 * j) % 256 = ((UInt8.ofNat (n / 256 ^ (7 - j))).toNat : Int) := by
        rw [u8_int, pow_eq j hj8, Int.natCast_ediv, Int.natCast_pow]; rfl
      have ht := wide_take n j hj8
      have HT := Lib.hid (congrArg bytesV ht)
      have HV := Lib.hid hval
      have hown1 := hown.alloc (.cells #[.int .u8 ((n : Int) / 2 ^ (56 - 8 * j) % 256)] 5)
      have hb1 := hbel.alloc hsz (.cells #[.int .u8 ((n : Int) / 2 ^ (56 - 8 * j) % 256)] 5)
      have hsv : SV (wo.alloc (.cells #[.int .u8 ((n : Int) / 2 ^ (56 - 8 * j) % 256)] 5)) (wo.heap.size + 1) (some ⟨wo.heap.size, 0, none⟩) [.int .u8 ((n : Int) / 2 ^ (56 - 8 * j) % 256)] := by
        have := SV.lit wo #[.int .u8 ((n : Int) / 2 ^ (56 - 8 * j) % 256)] 5
        simpa using this
      clear ht hval hown hbel
      go_wp2_with (first | (at_builtin; refine wpList_appNo _ rfl (.tmp 9) (.tmp 14) 46 rfl w.heap.size 5 i0 _ 1 1 Tryz.underlying46 hi0 hz0 hz1 hz2 rfl (by decide) A j c _ rfl hown1 _ (some ⟨wo.heap.size, 0, none⟩) 1 1 _ rfl rfl hsv (by intro u hu; simp at hu; subst hu; rfl) ?ha ?hb ?hc ?_))
      case ha => simp [maxLen]; omega
      case hb => omega
      case hc => simp; omega
      intro A' c' w' hown' hg hc' _
      have hb2 := hb1.grown hg (by simp; omega) (fun k hk => (hown1.lt k hk).1)
      rw [HV.out] at hown'
      have hown2 : w'.ownsRow w.heap.size 5 1 (.slice A' (j + 1) c') (j + 1) (bytesV ((Ob.wide n).take (j + 1))) := by
        rw [HT.out]; unfold bytesV at hown' ⊢; rw [List.map_append]; exact hown'
      clear hown' hown1 hg hsv hb1
      go_wp2_with fail
      go_roundw
      case rel => exact ⟨j + 1, A', c', by omega, rfl, by go_num, hown2, hb2⟩
      case measure => simp [intOf]; omega
    · obtain rfl : j = 8 := by omega
      go_wp2_with fail
      go_ret
      obtain ⟨A', c', e, h8, hm⟩ := own_form hown
      injection e with _ _ e2
      subst e2
      rw [List.take_of_length_le (by simp)] at hown
      exact ⟨A, c, by simp, by simpa using h8, hm, by simpa using hown, hbel⟩
/-- Bytes that lie in new blocks. -/
def BvPost (w : World) (l : List UInt8) (e : Ending) (w' : World) : Prop := ∃ A c, e = .returned (.slice A l.length c) ∧ l.length ≤ c ∧ SA w' (Under w.heap.size) A (bytesV l) ∧ Below w.heap.size w w'
def bytesA (l : List UInt8) : Array Value := (l.map fun b => Value.int .u8 b.toNat).toArray
theorem blk_byte_set {w : World} {g : Nat} {t : TypeId} {l : List UInt8} (h : Blk w g t (bytesA l)) (i : Nat) (x : UInt8) : Blk (w.setCell ⟨g, i, none⟩ (.int .u8 x.toNat)) g t (bytesA (l.set i x)) := by
  have := h.set_ i (.int .u8 x.toNat)
  have e : (bytesA l).setIfInBounds i (.int .u8 x.toNat) = bytesA (l.set i x) := by
    unfold bytesA; rw [List.setIfInBounds_toArray, List.map_set]
  rwa [e] at this
def wideTo (n k : Nat) : List UInt8 := List.replicate (8 - k) 0 ++ (Ob.wide n).drop (8 - k)
theorem wideTo_set (n k : Nat) (h : k < 8) : (wideTo n k).set (7 - k) (UInt8.ofNat (n / 256 ^ k)) = wideTo n (k + 1) := by
  match k, h with
  | 0, _ => rfl
  | 1, _ => rfl
  | 2, _ => rfl
  | 3, _ => rfl
  | 4, _ => rfl
  | 5, _ => rfl
  | 6, _ => rfl
  | 7, _ => rfl
end Go.Proofs.YtipjejnncnndeaaGreatDoor
namespace Go.Proofs.YtipjejnncnndeaaGreatDoor
open Go.RowKit Go.V
set_option linter.unusedVariables false

theorem bytesV_app (a b : List UInt8) : bytesV (a ++ b) = bytesV a ++ bytesV b := List.map_append
@[simp] theorem bytesV_len (a : List UInt8) : (bytesV a).length = a.length := List.length_map _
theorem own_more {w : World} {base base' : Nat} {e : TypeId} {size n : Nat} {v : Value} {xs : List Value} (h : w.ownsRow base e size v n xs) (hb : base' ≤ base) : w.ownsRow base' e size v n xs := by
  obtain ⟨h1, h2⟩ := h
  rcases h2 with h2 | ⟨g, cap, cur, e, hlo, rest⟩
  · exact ⟨h1, .inl h2⟩
  · exact ⟨h1, .inr ⟨g, cap, cur, e, Nat.le_trans hb hlo, rest⟩⟩
def hd2 (o : Ob.O) : List UInt8 := [UInt8.ofNat o.kind.toNat, UInt8.ofNat o.links.length]
theorem bytes_eq (o : Ob.O) : Ob.bytes o = hd2 o ++ Ob.lnB o.links o.links.length ++ o.data := rfl
theorem hd2_cells {o : Ob.O} (ho : Ob.Ok o) : bytesV (hd2 o) = [.int .u8 o.kind, .int .u8 (o.links.length : Int)] := by
  have h1 := ho.lo
  have h2 := ho.hi
  have h3 := ho.ln
  obtain ⟨k, hk⟩ := Int.eq_ofNat_of_zero_le (show 0 ≤ o.kind by omega)
  simp only [hd2, bytesV, List.map_cons, List.map_nil, u8_int]
  rw [hk, Int.toNat_natCast]
  have e1 : (k : Int) % 256 = k := by omega
  have e2 : (o.links.length : Int) % 256 = o.links.length := by omega
  rw [e1, e2]
/-- The state of the loop of 'Bytes'. -/
structure BySt (w wr : World) (o : Ob.O) (Al : Option Addr) (kl : Nat) (Ad : Option Addr) (kd : Nat) (j : Nat) (A : Option Addr) (c : Nat) : Prop where
  own : wr.ownsRow (w.heap.size + 1) 5 1 (.slice A (2 + 8 * j) c) (2 + 8 * j) (bytesV (hd2 o ++ Ob.lnB o.links j))
  box : Blk wr w.heap.size 48 #[.int .i64 o.kind, .slice Al o.links.length kl, .slice Ad o.data.length kd]
  bel : Below w.heap.size w wr
set_option maxRecDepth 100000 in
set_option maxHeartbeats 8000000 in
theorem bytes_any (w : World) (o : Ob.O) (Al : Option Addr) (kl : Nat) (Ad : Option Addr) (kd : Nat) (ho : ObA w Free o Al kl Ad kd) (hok : Ob.Ok o) :
    Calls Tryz.prog 32 #[obV o Al kl Ad kd] w (BtPost w (Ob.bytes o)) := by
  obtain ⟨i0, hi0, hz0, hz1, hz2⟩ := info_parts info5
  have HL := Lib.hid (fun (w' : World) (hb : Below w.heap.size w w') => (ho.ls.keep (free_below hb)).sv)
  have HD := Lib.hid (fun (w' : World) (hb : Below w.heap.size w w') => (ho.ds.keep (free_below hb)).sv)
  have HALL := Lib.hid hok.all
  have hk1 := hok.lo
  have hk2 := hok.hi
  have hl30 := hok.ln
  have hl30' : (o.links.length : Int) ≤ 30 := by omega
  have hd1000 := hok.dn
  have HE := Lib.hid (bytes_eq o)
  have HBL := Lib.hid (Ob.bytes_length o)
  have HH := hd2_cells hok
  have st0 : BySt w ((w.alloc (.cells #[.int .i64 o.kind, .slice Al o.links.length kl, .slice Ad o.data.length kd] 48)).alloc (.cells #[.int .u8 o.kind, .int .u8 (o.links.length : Int)] 5)) o Al kl Ad kd 0 (some ⟨w.heap.size + 1, 0, none⟩) 2 := by
    refine ⟨?_, (Blk.new _ _ _).alloc _, below_alloc2 _ _ _⟩
    have := World.ownsRow_lit (base := w.heap.size + 1) (size := 1) (e := 5) (w.alloc (.cells #[.int .i64 o.kind, .slice Al o.links.length kl, .slice Ad o.data.length kd] 48)) #[.int .u8 o.kind, .int .u8 (o.links.length : Int)] 2 (by simp) (by simp [maxLen]) rfl
    rw [Ob.lnB_zero, List.append_nil, HH]
    simpa using this
  clear ho hok HH
  obtain ⟨kk, ls, da⟩ := o
  simp only at *
  have hkm : kk % 256 = kk := by omega
  go_enter Tryz.func32, Tryz.ntmps32
  go_wp2_with fail
  go_loopw [3, 17] (fun vv jv wr => ∃ (j : Nat) (A : Option Addr) (c : Nat), j ≤ ls.length ∧ vv = .slice A (2 + 8 * j) c ∧ jv = .int .i64 j ∧ BySt w wr ⟨kk, ls, da⟩ Al kl Ad kd j A c) (fun _ jv _ => ls.length - (intOf jv).toNat)
  case atStart => exact ⟨0, _, 2, Nat.zero_le _, rfl, rfl, st0⟩
  case round =>
    obtain ⟨j, A, c, hj, rfl, rfl, st⟩ := hrel
    obtain ⟨wo, rfl⟩ : ∃ wo : World, wo = wr := ⟨_, rfl⟩
    have hsz := st.bel.size
    have hbl := st.box.lt
    by_cases hlt : j < ls.length
    · have hlt' : (j : Int) < ls.length := by omega
      obtain ⟨b, off, e, hb, hc⟩ := (HL.out _ st.bel).int j hlt
      subst e
      obtain ⟨hr0, hr1⟩ := HALL.out j hlt
      obtain ⟨m, hm⟩ := Int.eq_ofNat_of_zero_le hr0
      have hs := Ob.lnB_succ ls j hlt
      rw [hm] at hc
      rw [hm, Int.toNat_natCast] at hs
      have HS := Lib.hid hs
      have hmb : m < 2305843009213693951 := by omega
      clear hm hs hr0 hr1
      go_wp2_with fail
      go_at_call 36
      refine (big_any wo m hmb).mono ?_
      rintro e w2 ⟨A2, c2, rfl, hc2, _, hown2, hb2⟩
      have hbw := st.bel.trans (hb2.mono hsz)
      have hown := st.own.kept (only_of_below hb2 none) (by cases hv : (Value.slice A (2 + 8 * j) c).ownBlock <;> simp)
      have hbox := st.box.below hb2 hbl
      have hz2' := hb2.size
      have hsv2 := SV.of_own hown2
      simp only [Ob.wide_length]
      rw [Ob.wide_length] at hc2
      clear st hown2 hb2
      go_wp2_with (first | (at_builtin; refine wpList_appNo _ rfl (.tmp 21) (.tmp 23) 46 rfl (w.heap.size + 1) 5 i0 _ 1 1 Tryz.underlying46 hi0 hz0 hz1 hz2 rfl (by decide) A (2 + 8 * j) c _ rfl hown _ A2 8 c2 _ rfl (by simp) hsv2 (bytesV_one _) ?ha ?hb ?hc ?_))
      case ha => simp [maxLen]; omega
      case hb => omega
      case hc => omega
      intro A' c' w' hown' hg hc' _
      have hbw' := hbw.grown hg hbw.size (fun k hk => by have := (hown.lt k hk).1; omega)
      have hbox' := hbox.grown hg (own_blk_ne hown hbox (by decide))
      have st2 : BySt w w' ⟨kk, ls, da⟩ _ kl Ad kd (j + 1) A' c' := ⟨by rw [show 2 + 8 * (j + 1) = 2 + 8 * j + 8 by omega]; simp only [HS.out, bytesV_app] at hown' ⊢; exact hown', hbox', hbw'⟩
      clear hown' hown hg hsv2 hbw hbox
      go_wp2_with fail
      go_roundw
      case rel => exact ⟨j + 1, A', c', by omega, rfl, by go_num, st2⟩
      case measure => simp [intOf]; omega
    · obtain rfl : j = ls.length := by omega
      have hbx := st.box.cell 2
      simp only [List.getElem?_toArray, List.getElem?_cons_zero, List.getElem?_cons_succ] at hbx
      have hdv := HD.out _ st.bel
      have hown := st.own
      have hbel := st.bel
      clear st st0
      go_wp2_with (first | (at_builtin; refine wpList_appNo _ rfl (.tmp 26) (.tmp 28) 46 rfl (w.heap.size + 1) 5 i0 _ 1 1 Tryz.underlying46 hi0 hz0 hz1 hz2 rfl (by decide) A (2 + 8 * ls.length) c _ rfl hown _ Ad da.length kd _ rfl (by simp) hdv (bytesV_one _) ?hd ?he ?hf ?_))
      case hd => simp [maxLen]; omega
      case he => omega
      case hf => omega
      intro A' c' w' hown' hg hc' _
      have hbw' := hbel.grown hg hbel.size (fun k hk => by have := (hown.lt k hk).1; omega)
      have hown2 : w'.ownsRow (w.heap.size + 1) 5 1 (.slice A' (2 + 8 * ls.length + da.length) c') (2 + 8 * ls.length + da.length) (bytesV (Ob.bytes ⟨kk, ls, da⟩)) := by
        rw [HE.out]; simp only [bytesV_app, List.append_assoc] at hown' ⊢; exact hown'
      have hm : c' ≤ maxLen := by
        obtain ⟨_, _, e, _, hm⟩ := own_form hown'
        injection e with _ _ e2
        rw [e2]; exact hm
      have hbn : (Ob.bytes ⟨kk, ls, da⟩).length = 2 + 8 * ls.length + da.length := HBL.out
      clear hown hg
      go_wp2_with fail
      go_ret
      refine ⟨A', c', ret_eq (by rw [hbn]; rfl), by rw [hbn]; exact hc', hm, ?_, hbw'⟩
      rw [hbn]
      exact own_more hown2 (by omega)
end Go.Proofs.YtipjejnncnndeaaGreatDoor
namespace Go.Proofs.YtipjejnncnndeaaGreatDoor
open Go.RowKit Go.V
set_option linter.unusedVariables false

/-- A number, a fault, and nothing that lay has turned. -/
def NumPost (w : World) (n : Int) (r : Int × Int) (e : Ending) (w' : World) : Prop := e = .returned (.tuple #[.int .i64 n, .agg #[.int .i64 r.1, .int .i64 r.2]]) ∧ Below w.heap.size w w'
set_option maxRecDepth 100000 in
set_option maxHeartbeats 8000000 in
theorem digest_bad (w : World) (o : Ob.O) (Al : Option Addr) (kl : Nat) (Ad : Option Addr) (kd : Nat) (ho : ObA w Free o Al kl Ad kd) (hbad : (Ob.obF o).1 ≠ 0) :
    Calls Tryz.prog 18 #[obV o Al kl Ad kd] w (NumPost w 0 (Ob.obF o)) := by
  have HC := Lib.hid (fun (w' : World) (hb : Below w.heap.size w w') => check_any w' o Al kl Ad kd (ho.keep (free_below hb)))
  have hb1 : ((Ob.obF o).1 == 0) = false := by simpa using hbad
  have hb2 : ((Ob.obF o).1 != 0) = true := by simpa using hbad
  clear ho hbad
  generalize Ob.obF o = r at *
  obtain ⟨cd, ix⟩ := r
  obtain ⟨kk, ls, da⟩ := o
  simp only at *
  go_enter Tryz.func18, Tryz.ntmps18
  go_wp2_with fail
  go_at_call 30
  refine (HC.out _ (below_alloc2 _ _ _)).mono ?_
  rintro e w1 ⟨rfl, hbel⟩
  have hblk := (blk_new1 w (.cells #[.int .i64 kk, .slice Al ls.length kl, .slice Ad da.length kd] 48) 33 #[.int .i64 0, .int .i64 0]).below hbel (by simp)
  have hbw := (below_alloc2 w (.cells #[.int .i64 kk, .slice Al ls.length kl, .slice Ad da.length kd] 48) (.cells #[.int .i64 0, .int .i64 0] 33)).trans (hbel.mono (by simp; omega))
  have hsz := hbw.size
  have hlt := hblk.lt
  have hc0 := hblk.cell 0
  have hc1 := hblk.cell 1
  have hf0 := hblk.frozen 0
  have hf1 := hblk.frozen 1
  simp only [List.getElem?_toArray, List.getElem?_cons_zero, List.getElem?_cons_succ] at hc0 hc1
  clear hbel HC
  go_wp2_with fail
  go_region
  all_goals
    go_wp2_with fail
    refine bodyPost_ret (results_tc rfl _ _ (w.heap.size + 1) (.int .i64 cd) (.int .i64 ix) rfl (((blk_put2 hblk _ _).alloc _).drewN 1)) rfl ⟨rfl, ?_⟩
    exact Go.V.below_drewN (((hbw.setCell (by simp) _).setCell (by simp) _).alloc (by simp; omega) _) 1
set_option maxRecDepth 100000 in
set_option maxHeartbeats 8000000 in
theorem digest_ok (w : World) (o : Ob.O) (Al : Option Addr) (kl : Nat) (Ad : Option Addr) (kd : Nat) (ho : ObA w Free o Al kl Ad kd) (hok : Ob.Ok o) :
    Calls Tryz.prog 18 #[obV o Al kl Ad kd] w (NumPost w ((Ob.dig o : Nat) : Int) (0, 0)) := by
  have HC := Lib.hid (fun (w' : World) (hb : Below w.heap.size w w') => check_any w' o Al kl Ad kd (ho.keep (free_below hb)))
  have HB := Lib.hid (fun (w' : World) (hb : Below w.heap.size w w') => bytes_any w' o Al kl Ad kd (ho.keep (free_below hb)) hok)
  have HF := Lib.hid hok.f
  have hbl : (Ob.bytes o).length ≤ 4096 := by
    have h1 := hok.ln
    have h2 := hok.dn
    rw [Ob.bytes_length]; omega
  have HO := Lib.hid (fun (w' : World) A k h => of_bytes w' A k (Ob.bytes o) h hbl)
  have HD := Lib.hid (show Ob.dig o = Dg.ofL (Ob.bytes o) from rfl)
  clear ho hok hbl
  generalize Ob.dig o = dg at *
  generalize Ob.bytes o = by_ at *
  obtain ⟨kk, ls, da⟩ := o
  try simp only at *
  go_enter Tryz.func18, Tryz.ntmps18
  go_wp2_with fail
  go_at_call 30
  refine (HC.out _ (below_alloc2 _ _ _)).mono ?_
  rw [HF.out]
  rintro e w1 ⟨rfl, hbel⟩
  have hblk := (blk_new1 w (.cells #[.int .i64 kk, .slice Al ls.length kl, .slice Ad da.length kd] 48) 33 #[.int .i64 0, .int .i64 0]).below hbel (by simp)
  have hbox := ((Blk.new w 48 #[.int .i64 kk, .slice Al ls.length kl, .slice Ad da.length kd]).alloc (.cells #[.int .i64 0, .int .i64 0] 33)).below hbel (by simp; omega)
  have hbw := (below_alloc2 w (.cells #[.int .i64 kk, .slice Al ls.length kl, .slice Ad da.length kd] 48) (.cells #[.int .i64 0, .int .i64 0] 33)).trans (hbel.mono (by simp; omega))
  have hsz := hbw.size
  have hlt := hblk.lt
  have hlx := hbox.lt
  have p0 := hbox.cell 0
  have p1 := hbox.cell 1
  have p2 := hbox.cell 2
  simp only [List.getElem?_toArray, List.getElem?_cons_zero, List.getElem?_cons_succ] at p0 p1 p2
  have hbw2 := hbw.alloc hsz (.cells #[.int .i64 0, .int .i64 0] 33)
  have hblk2 := hblk.alloc (.cells #[.int .i64 0, .int .i64 0] 33)
  clear hbel HC
  go_wp2_with fail
  go_at_call 32
  refine (HB.out _ hbw2).mono ?_
  rintro e w2 ⟨A2, c2, rfl, hc2, _, hown2, hb2⟩
  have hbw3 := hbw2.trans (hb2.mono hbw2.size)
  have hblk3 := hblk2.below hb2 hblk2.lt
  have hsv := SV.of_own hown2
  clear hown2 hb2 hblk2 hbw2 hbw hblk
  go_wp2_with fail
  go_at_call 31
  refine (HO.out _ _ _ hsv).mono ?_
  rintro e w3 ⟨rfl, hb3⟩
  rw [← HD.out]
  have hbw4 := hbw3.trans (hb3.mono hbw3.size)
  have hblk4 := hblk3.below hb3 hblk3.lt
  have hlt := hblk4.lt
  have hf0 := hblk4.frozen 0
  have hf1 := hblk4.frozen 1
  have hc0 := hblk4.cell 0
  have hc1 := hblk4.cell 1
  simp only [List.getElem?_toArray, List.getElem?_cons_zero, List.getElem?_cons_succ] at hc0 hc1
  clear hb3 hblk3 hsv
  go_wp2_with fail
  refine bodyPost_ret (results_tc rfl _ _ (w.heap.size + 1) (.int .i64 0) (.int .i64 0) rfl (blk_put2 hblk4 _ _)) rfl ⟨rfl, ?_⟩
  exact (hbw4.setCell (by simp) _).setCell (by simp) _
end Go.Proofs.YtipjejnncnndeaaGreatDoor
