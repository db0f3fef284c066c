/-
  Histories: the history without branches is valid; walk of 'bisectExample'.
-/
import Derived.Test.YtoohmkdgimkgoaaW33
namespace Hs
theorem lineL_get (n i : Nat) (h : i < (lineL n).length) : (lineL n)[i] = lineC i := by simp [lineL]
theorem lineOk (n : Nat) (hn : n ≤ 60) : Ok (lineL n) := by
  refine ⟨by simpa using hn, fun i hi => ?_⟩
  rw [lineL_get]
  simp at hi
  refine check_good ?_ ?_ ?_
  · unfold lineC; simp only; split <;> simp
  · unfold lineC; simp only
    split
    · exact parErr_end _ _ _ (by simp)
    · rw [parErr_next _ _ _ (by simp) (by simp; omega) (by simp)]
      exact parErr_end _ _ _ (by simp)
  · exact dataErr_good _ (by simp [lineC, M]; omega) (by show (0 : Nat) ≤ 80; omega)
theorem linePars (n b : Nat) (hb : b < n) : pars (lineL n) b = if b = 0 then [] else [b - 1] := by
  rw [pars_eq b (by simpa using hb), lineL_get]
  unfold lineC; simp only
  split
  · rfl
  · simp
theorem lineLin (n : Nat) (hn : n ≤ 60) : Lin (lineL n) := by
  have hok := lineOk n hn
  intro b
  induction b with
  | zero =>
    intro i hb
    simp at hb
    rw [hok.reach_eq, linePars n 0 hb, Bool.eq_iff_iff, if_pos rfl, List.any_nil, Bool.or_false]
    simp only [beq_iff_eq, decide_eq_true_eq]
    omega
  | succ b ih =>
    intro i hb
    have hb : b + 1 < n := by simpa using hb
    rw [hok.reach_eq, linePars n (b + 1) hb, if_neg (by omega), Nat.add_sub_cancel]
    rw [List.any_cons, List.any_nil, Bool.or_false]
    rw [ih i (by simp; omega), Bool.eq_iff_iff]
    simp only [Bool.or_eq_true, beq_iff_eq, decide_eq_true_eq]
    omega
end Hs
namespace Go.Proofs.Ytoohmkdgimkgoaa
open Go.RowKit Go.V
set_option linter.unusedVariables false

theorem bcheck_line (n : Nat) (h2 : 2 ≤ n) (hn : n ≤ 60) : bcheck (Hs.lineL n) [0] ((n : Int) - 1) = (0, 0) := by
  have hok := Hs.lineOk n hn
  unfold bcheck
  rw [Hs.validate_of_ok hok, if_neg (by simp), if_neg (by simp; omega), if_neg (by simp), octFrom_next _ _ 0 (by simp) (by simp; omega), octFrom_end _ _ _ (by simp), if_neg (by simp)]
  have e : ((n : Int) - 1).toNat = n - 1 := by omega
  rw [e]
  have : ((Hs.nats [0]).any fun g => Hs.reach (Hs.lineL n) g (n - 1)) = false := by
    simp only [Hs.nats, List.map_cons, List.map_nil, List.any_cons, List.any_nil, Bool.or_false, Int.toNat_zero]
    rw [Hs.lineLin n hn 0 (n - 1) (by simp; omega)]
    simp; omega
  rw [this]; rfl
theorem exB_check : bcheck (Hs.lineL 4) [0] 3 = (0, 0) := bcheck_line 4 (by decide) (by decide)
theorem exB_cand : candRes (Hs.lineL 4) [0] 3 = ([1, 2, 3], (0, 0)) := by
  unfold candRes
  rw [exB_check, if_neg (by simp)]
  have : Hs.ints (Hs.cand (Hs.lineL 4) (Hs.nats [0]) (3 : Int).toNat) = [1, 2, 3] := by decide +kernel
  rw [this]
theorem exB_next : nextRes (Hs.lineL 4) [0] 3 = (1, (0, 0)) := by
  unfold nextRes
  rw [exB_check, if_neg (by simp)]
  have : Hs.nextI (Hs.lineL 4) (Hs.cand (Hs.lineL 4) (Hs.nats [0]) (3 : Int).toNat) = 1 := by decide +kernel
  rw [this]
theorem exB_find : findRes (Hs.lineL 4) [0] 3 [false, false, true, true] = (2, ([1, 2], (0, 0))) := by
  unfold findRes
  rw [exB_check, if_neg (by simp), if_neg (by simp)]
  have : Hs.find (Hs.lineL 4) (brk [false, false, true, true]) (Hs.nats [0]) (3 : Int).toNat = (2, [1, 2]) := by decide +kernel
  rw [this]; rfl
theorem i64s_0 : ∀ (j : Nat) (h : j < [(0 : Int)].length), I64 [(0 : Int)][j] := fun j h => by
  match j, h with
  | 0, _ => exact i64_0

set_option maxRecDepth 100000 in
set_option maxHeartbeats 4000000 in
theorem bexample_any (w : World) : Calls Try.prog 37 #[] w fun e w' => e = .returned (.bool true) ∧ Below w.heap.size w w' := by
  have HL : Hid (∀ w, Calls Try.prog 46 #[.int .i64 4] w (CPost w (Hs.lineL 4))) := Lib.hid fun w => line_any w 4 (by decide)
  have HC : Hid (∀ (w1 : World) A k A2, CV w1 A (Hs.lineL 4) → IV w1 A2 [0] → Calls Try.prog 38 #[.slice A 4 k, .slice A2 1 1, .int .i64 3] w1 (IRes w1 ([1, 2, 3], (0, 0)))) := Lib.hid fun w1 A k A2 h h2 => by
    have := candidates_any w1 A A2 k 1 (Hs.lineL 4) [0] 3 h (by simp) h2 i64s_0 (by simp)
    rw [exB_cand] at this; exact this
  have HN : Hid (∀ (w1 : World) A k A2, CV w1 A (Hs.lineL 4) → IV w1 A2 [0] → Calls Try.prog 39 #[.slice A 4 k, .slice A2 1 1, .int .i64 3] w1 (NRes w1 (1, (0, 0)))) := Lib.hid fun w1 A k A2 h h2 => by
    have := bnext_any w1 A A2 k 1 (Hs.lineL 4) [0] 3 h (by simp) h2 i64s_0 (by simp)
    rw [exB_next] at this; exact this
  have HF : Hid (∀ (w1 : World) A k A2 A3, CV w1 A (Hs.lineL 4) → IV w1 A2 [0] → BV w1 A3 [false, false, true, true] → Calls Try.prog 40 #[.slice A 4 k, .slice A2 1 1, .int .i64 3, .slice A3 4 4] w1 (FRes w1 (2, ([1, 2], (0, 0))))) := Lib.hid fun w1 A k A2 A3 h h2 h3 => by
    have := find_any w1 A A2 A3 k 1 4 (Hs.lineL 4) [0] 3 [false, false, true, true] h (by simp) h2 i64s_0 (by simp) h3 (by simp)
    rw [exB_find] at this; exact this
  have HI3 := Lib.hid (fun (w1 : World) (A A2 : Option Addr) (c1 c2 : Nat) h1 h2 => ints_any w1 A A2 c1 c2 [1, 2, 3] h1 h2 (by decide))
  have HI2 := Lib.hid (fun (w1 : World) (A A2 : Option Addr) (c1 c2 : Nat) h1 h2 => ints_any w1 A A2 c1 c2 [1, 2] h1 h2 (by decide))
  go_enter Try.func37, Try.ntmps37
  go_wp2_with fail
  go_at_call 46
  refine (HL.out w).mono ?_
  rintro e w1 ⟨A1, c1, rfl, hc1, hv1, hb1⟩
  have hbel2 := hb1.alloc hb1.size (.cells #[.int .i64 0] 3)
  have HCC := Lib.hid (HC.out _ A1 c1 _ (hv1.alloc _) (lit_ints w1 [0] 3 _ rfl))
  clear hb1 hv1 hc1 HC
  simp only [Hs.lineL_length]
  go_wp2_with fail
  go_at_call 38
  refine HCC.out.mono ?_
  rintro e w3 ⟨A3, c3, rfl, hc3, hv3, hb3⟩
  have hbel3 := hbel2.trans (hb3.mono hbel2.size)
  have hbel4 := hbel3.alloc hbel3.size (.cells #[.int .i64 0, .int .i64 0] 26)
  have hblk4 := Blk.new w3 26 #[.int .i64 0, .int .i64 0]
  have hv4 := hv3.alloc (.cells #[.int .i64 0, .int .i64 0] 26)
  simp only [List.length_cons, List.length_nil, Nat.reduceAdd, Nat.zero_add] at hc3
  clear hb3 hbel2 hbel3 HCC hv3
  go_wp2_with fail
  go_at_call 46
  refine (HL.out _).mono ?_
  rintro e w5 ⟨A5, c5, rfl, hc5, hv5, hb5⟩
  have hbel5 := hbel4.trans (hb5.mono hbel4.size)
  have hblk5 := hblk4.below hb5 hblk4.lt
  have hvv5 := hv4.below hb5
  have hbel6 := hbel5.alloc hbel5.size (.cells #[.int .i64 0] 3)
  have hblk6 := hblk5.alloc (.cells #[.int .i64 0] 3)
  have hvv6 := hvv5.alloc (.cells #[.int .i64 0] 3)
  have HCC := Lib.hid (HN.out _ A5 c5 _ (hv5.alloc _) (lit_ints w5 [0] 3 _ rfl))
  clear hb5 hbel4 hblk4 hv4 hbel5 hblk5 hvv5 hv5 hc5 HN
  simp only [Hs.lineL_length]
  go_wp2_with fail
  go_at_call 39
  refine HCC.out.mono ?_
  rintro e w7 ⟨rfl, hb7⟩
  have hbel7 := (hbel6.trans (hb7.mono hbel6.size))
  have hbel8 := hbel7.alloc hbel7.size (.cells #[.int .i64 0, .int .i64 0] 26)
  have hblk8 := (hblk6.below hb7 hblk6.lt).alloc (.cells #[.int .i64 0, .int .i64 0] 26)
  have hvv8 := (hvv6.below hb7).alloc (.cells #[.int .i64 0, .int .i64 0] 26)
  have hblkb := Blk.new w7 26 #[.int .i64 0, .int .i64 0]
  clear hb7 hbel6 hblk6 hvv6 hbel7 HCC
  go_wp2_with fail
  go_at_call 46
  refine (HL.out _).mono ?_
  rintro e w9 ⟨A9, c9, rfl, hc9, hv9, hb9⟩
  have hbel9 := hbel8.trans (hb9.mono hbel8.size)
  have hblk9 := hblk8.below hb9 hblk8.lt
  have hblkb9 := hblkb.below hb9 hblkb.lt
  have hvv9 := hvv8.below hb9
  have hbel10 := (hbel9.alloc hbel9.size (.cells #[.int .i64 0] 3)).alloc (by have := hbel9.size; simp; omega) (.cells #[.bool false, .bool false, .bool true, .bool true] 4)
  have hblk10 := (hblk9.alloc (.cells #[.int .i64 0] 3)).alloc (.cells #[.bool false, .bool false, .bool true, .bool true] 4)
  have hblkb10 := (hblkb9.alloc (.cells #[.int .i64 0] 3)).alloc (.cells #[.bool false, .bool false, .bool true, .bool true] 4)
  have hvv10 := (hvv9.alloc (.cells #[.int .i64 0] 3)).alloc (.cells #[.bool false, .bool false, .bool true, .bool true] 4)
  have hlit := (lit_ints w9 [0] 3 _ rfl).alloc (.cells #[.bool false, .bool false, .bool true, .bool true] 4)
  have hlitb := lit_bools (w9.alloc (.cells #[.int .i64 0] 3)) [false, false, true, true] 4 _ rfl
  rw [World.size_alloc] at hlitb
  have HCC := Lib.hid (HF.out _ A9 c9 _ _ ((hv9.alloc _).alloc _) hlit hlitb)
  clear hb9 hbel8 hblk8 hvv8 hbel9 hblk9 hvv9 hv9 hc9 HF hlit hlitb hblkb hblkb9
  simp only [Hs.lineL_length]
  go_wp2_with fail
  go_at_call 40
  refine HCC.out.mono ?_
  rintro e w11 ⟨A11, c11, rfl, hc11, hv11, hb11⟩
  have hbel11 := hbel10.trans (hb11.mono hbel10.size)
  have hblk11 := hblk10.below hb11 hblk10.lt
  have hblkb11 := hblkb10.below hb11 hblkb10.lt
  have hvv11 := hvv10.below hb11
  have hsz := hbel11.size
  have q0 := hblk11.cell 0
  have q2 := hblkb11.cell 0
  have hlt := hblk11.lt
  have hltb := hblkb11.lt
  simp only [List.getElem?_toArray, List.getElem?_cons_zero] at q0 q2
  simp only [List.length_cons, List.length_nil, Nat.reduceAdd, Nat.zero_add] at hc11
  clear hb11 hbel10 hblk10 hblkb10 hvv10 HCC hblk11 hblkb11
  go_wp2_with fail
  go_at_call 31
  refine (HI3.out _ A3 (some ⟨_, 0, none⟩) c3 3 ((hvv11.alloc _).alloc _) ?_).mono ?_
  · exact lit_ints _ [1, 2, 3] 3 _ (by simp)
  rintro e w12 ⟨rfl, n, rfl⟩
  go_wp2_with fail
  go_at_call 31
  refine (HI2.out _ A11 (some ⟨_, 0, none⟩) c11 2 ((((hv11.alloc _).alloc _).drewN n).alloc _) ?_).mono ?_
  · exact lit_ints _ [1, 2] 3 _ (by simp)
  rintro e w13 ⟨rfl, m, rfl⟩
  go_wp2_with fail
  go_ret
  exact ⟨rfl, below_drewN ((below_drewN ((hbel11.alloc hsz _).alloc (by simp; omega) _) _).alloc (by simp; omega) _) _⟩
end Go.Proofs.Ytoohmkdgimkgoaa
