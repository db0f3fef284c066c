/-
  Objects: walks of 'Big' and 'Wide'.
-/
import Derived.Test.YtiilhnfdlpgllaaPk1
namespace Go.Proofs.Ytiilhnfdlpgllaa
open Go.RowKit Go.V
set_option linter.unusedVariables false

theorem info5 : (Try.prog.info? 5).map (fun i => (i.zero, i.size, i.bytes)) = some (some (.int .u8 0), 1, 1) := by kernel_rfl
/-- Bytes in a row of the call's own. -/
def BtPost (w : World) (l : List UInt8) (e : Ending) (w' : World) : Prop := ∃ A c, e = .returned (.slice A l.length c) ∧ l.length ≤ c ∧ c ≤ maxLen ∧ w'.ownsRow w.heap.size 5 1 (.slice A l.length c) l.length (bytesV l) ∧ Below w.heap.size w w'
theorem wide_get (n j : Nat) (h : j < 8) : (Ob.wide n)[j]? = some (UInt8.ofNat (n / 256 ^ (7 - j))) := by
  unfold Ob.wide; simp [h]
theorem wide_take (n j : Nat) (h : j < 8) : (Ob.wide n).take (j + 1) = (Ob.wide n).take j ++ [UInt8.ofNat (n / 256 ^ (7 - j))] := by
  have h8 : j < (Ob.wide n).length := by simpa using h
  rw [List.take_succ_eq_append_getElem h8]
  have := wide_get n j h
  rw [List.getElem?_eq_getElem h8] at this
  injection this with this
  rw [this]
theorem pow_eq (j : Nat) (h : j < 8) : 256 ^ (7 - j) = 2 ^ (56 - 8 * j) := by
  rw [show (256 : Nat) = 2 ^ 8 by rfl, ← Nat.pow_mul]; congr 1; omega
theorem u8_int (m : Nat) : ((UInt8.ofNat m).toNat : Int) = (m : Int) % 256 := by simp
set_option maxRecDepth 100000 in
set_option maxHeartbeats 8000000 in
theorem big_any (w : World) (n : Nat) (hn : n < 2305843009213693951) : Calls Try.prog 52 #[.int .i64 n] w (BtPost w (Ob.wide n)) := by
  obtain ⟨i0, hi0, hz0, hz1, hz2⟩ := info_parts info5
  go_enter Try.func52, Try.ntmps52
  go_wp2_with fail
  go_loopw [3, 4] (fun vv sv wr => ∃ (j : Nat) (A : Option Addr) (c : Nat), j ≤ 8 ∧ vv = .slice A j c ∧ sv = .int .i64 (56 - 8 * (j : Int)) ∧ wr.ownsRow w.heap.size 5 1 (.slice A j c) j (bytesV ((Ob.wide n).take j)) ∧ Below w.heap.size w wr) (fun _ sv _ => (intOf sv + 8).toNat)
  case atStart => exact ⟨0, none, 0, by omega, rfl, rfl, World.ownsRow_nil _ _ _ _, Below.refl _ _⟩
  case round =>
    obtain ⟨j, A, c, hj, rfl, rfl, hown, hbel⟩ := hrel
    obtain ⟨wo, rfl⟩ : ∃ wo : World, wo = wr := ⟨_, rfl⟩
    have hsz := hbel.size
    by_cases hj8 : j < 8
    · have h1 : (0 : Int) ≤ 56 - 8 * (j : Int) := by omega
      have hval : (n : Int) / 2 ^ (56 - 8 * j) % 256 = ((UInt8.ofNat (n / 256 ^ (7 - j))).toNat : Int) := by
        rw [u8_int, pow_eq j hj8, Int.natCast_ediv, Int.natCast_pow]; rfl
      have ht := wide_take n j hj8
      have HT := Lib.hid (congrArg bytesV ht)
      have HV := Lib.hid hval
      have hown1 := hown.alloc (.cells #[.int .u8 ((n : Int) / 2 ^ (56 - 8 * j) % 256)] 5)
      have hb1 := hbel.alloc hsz (.cells #[.int .u8 ((n : Int) / 2 ^ (56 - 8 * j) % 256)] 5)
      have hsv : SV (wo.alloc (.cells #[.int .u8 ((n : Int) / 2 ^ (56 - 8 * j) % 256)] 5)) (wo.heap.size + 1) (some ⟨wo.heap.size, 0, none⟩) [.int .u8 ((n : Int) / 2 ^ (56 - 8 * j) % 256)] := by
        have := SV.lit wo #[.int .u8 ((n : Int) / 2 ^ (56 - 8 * j) % 256)] 5
        simpa using this
      clear ht hval hown hbel
      go_wp2_with (first | (at_builtin; refine wpList_appNo _ rfl (.tmp 9) (.tmp 14) 26 rfl w.heap.size 5 i0 _ 1 1 Try.underlying26 hi0 hz0 hz1 hz2 rfl (by decide) A j c _ rfl hown1 _ (some ⟨wo.heap.size, 0, none⟩) 1 1 _ rfl rfl hsv (by intro u hu; simp at hu; subst hu; rfl) ?ha ?hb ?hc ?_))
      case ha => simp [maxLen]; omega
      case hb => omega
      case hc => simp; omega
      intro A' c' w' hown' hg hc' _
      have hb2 := hb1.grown hg (by simp; omega) (fun k hk => (hown1.lt k hk).1)
      rw [HV.out] at hown'
      have hown2 : w'.ownsRow w.heap.size 5 1 (.slice A' (j + 1) c') (j + 1) (bytesV ((Ob.wide n).take (j + 1))) := by
        rw [HT.out]; unfold bytesV at hown' ⊢; rw [List.map_append]; exact hown'
      clear hown' hown1 hg hsv hb1
      go_wp2_with fail
      go_roundw
      case rel => exact ⟨j + 1, A', c', by omega, rfl, by go_num, hown2, hb2⟩
      case measure => simp [intOf]; omega
    · obtain rfl : j = 8 := by omega
      go_wp2_with fail
      go_ret
      obtain ⟨A', c', e, h8, hm⟩ := own_form hown
      injection e with _ _ e2
      subst e2
      rw [List.take_of_length_le (by simp)] at hown
      exact ⟨A, c, by simp, by simpa using h8, hm, by simpa using hown, hbel⟩
/-- Bytes that lie in new blocks. -/
def BvPost (w : World) (l : List UInt8) (e : Ending) (w' : World) : Prop := ∃ A c, e = .returned (.slice A l.length c) ∧ l.length ≤ c ∧ SA w' (Under w.heap.size) A (bytesV l) ∧ Below w.heap.size w w'
def bytesA (l : List UInt8) : Array Value := (l.map fun b => Value.int .u8 b.toNat).toArray
theorem blk_byte_set {w : World} {g : Nat} {t : TypeId} {l : List UInt8} (h : Blk w g t (bytesA l)) (i : Nat) (x : UInt8) : Blk (w.setCell ⟨g, i, none⟩ (.int .u8 x.toNat)) g t (bytesA (l.set i x)) := by
  have := h.set_ i (.int .u8 x.toNat)
  have e : (bytesA l).setIfInBounds i (.int .u8 x.toNat) = bytesA (l.set i x) := by
    unfold bytesA; rw [List.setIfInBounds_toArray, List.map_set]
  rwa [e] at this
def wideTo (n k : Nat) : List UInt8 := List.replicate (8 - k) 0 ++ (Ob.wide n).drop (8 - k)
theorem wideTo_set (n k : Nat) (h : k < 8) : (wideTo n k).set (7 - k) (UInt8.ofNat (n / 256 ^ k)) = wideTo n (k + 1) := by
  match k, h with
  | 0, _ => rfl
  | 1, _ => rfl
  | 2, _ => rfl
  | 3, _ => rfl
  | 4, _ => rfl
  | 5, _ => rfl
  | 6, _ => rfl
  | 7, _ => rfl
set_option maxRecDepth 100000 in
set_option maxHeartbeats 8000000 in
theorem wide_any (w : World) (n : Nat) (hn : n < 2305843009213693951) : Calls Try.prog 40 #[.int .i64 n] w (BvPost w (Ob.wide n)) := by
  have hmk : ∀ W : World, (Instr.makeSlice 26 (.int .i64 8) (.int .i64 8)).run Try.prog W = .ok (.slice (some ⟨W.heap.size, 0, none⟩) 8 8) (W.alloc (.cells (bytesA (wideTo n 0)) 5)) := fun W =>
    by have := run_make_row' (P := Try.prog) 26 5 (.int .u8 0) 1 Try.underlying26 info5 rfl .i64 .i64 8 (by omega) (by omega) W; rw [made_eq] at this; exact this
  go_enter Try.func40, Try.ntmps40
  go_wp2_with fail
  go_loopw [0, 4] (fun nv sv wr => ∃ j : Nat, j ≤ 8 ∧ nv = .int .i64 ((n / 256 ^ j : Nat) : Int) ∧ sv = .int .i64 (7 - (j : Int)) ∧ Blk wr w.heap.size 5 (bytesA (wideTo n j)) ∧ Below w.heap.size w wr) (fun _ sv _ => (intOf sv + 1).toNat)
  case atStart => exact ⟨0, by omega, by simp, rfl, Blk.new _ _ _, below_alloc1 _ _⟩
  case round =>
    obtain ⟨j, hj, rfl, rfl, hblk, hbel⟩ := hrel
    obtain ⟨wo, rfl⟩ : ∃ wo : World, wo = wr := ⟨_, rfl⟩
    by_cases hj8 : j < 8
    · have h1 : (0 : Int) ≤ 7 - (j : Int) := by omega
      have hd : n / 256 ^ j / 256 = n / 256 ^ (j + 1) := by rw [Nat.div_div_eq_div_mul, Nat.pow_succ]
      have hv : ((n / 256 ^ j : Nat) : Int) % 256 = ((UInt8.ofNat (n / 256 ^ j)).toNat : Int) := (u8_int _).symm
      have hs := blk_byte_set hblk (7 - j) (UInt8.ofNat (n / 256 ^ j))
      rw [wideTo_set n j hj8] at hs
      have hfz := hblk.frozen (7 - j)
      have hcl := hblk.cell (7 - j)
      have hbs := hbel.setCell (p := ⟨w.heap.size, 7 - j, none⟩) (by simp) (.int .u8 (UInt8.ofNat (n / 256 ^ j)).toNat)
      have hl8 : (bytesA (wideTo n j)).size = 8 := by simp [bytesA, wideTo]
      have hp : n / 256 ^ j < 2305843009213693951 := Nat.lt_of_le_of_lt (Nat.div_le_self _ _) hn
      have HD := Lib.hid hd
      rw [Array.getElem?_eq_getElem (by omega)] at hcl
      clear hblk hbel hd
      have HV := Lib.hid hv
      clear hv
      generalize (bytesA (wideTo n j))[7 - j] = old at *
      generalize n / 256 ^ j = m at *
      go_wp2_with fail
      go_roundw
      case rel =>
        rw [HV.out]
        exact ⟨j + 1, by omega, int_eq (by rw [← HD.out]; rfl), by go_num, hs, hbs⟩
      case measure => simp [intOf]; omega
    · obtain rfl : j = 8 := by omega
      go_wp2_with fail
      go_ret
      refine ⟨_, _, rfl, Nat.le_refl _, ?_, hbel⟩
      have := SA.of_blk (X := Under w.heap.size) hblk (by simp [Under])
      simpa [bytesA, bytesV, wideTo] using this
end Go.Proofs.Ytiilhnfdlpgllaa
