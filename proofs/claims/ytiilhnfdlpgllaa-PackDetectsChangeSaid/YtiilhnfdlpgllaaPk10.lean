/-
  Packs: walk of 'Build'.
-/
import Derived.Test.YtiilhnfdlpgllaaPk9
namespace Go.Proofs.Ytiilhnfdlpgllaa
open Go.RowKit Go.V
set_option linter.unusedVariables false

/-- What 'Build' answers. -/
def BdPost (w : World) (s : List Ob.S) (e : Ending) (w' : World) : Prop :=
  Below w.heap.size w w' ∧ (((Ob.stF s).1 ≠ 0 ∧ e = .returned (.tuple #[.slice none 0 0, .agg #[.int .i64 (Ob.stF s).1, .int .i64 (Ob.stF s).2]])) ∨
    (Ob.StOk s ∧ 4096 < (packB s).length ∧ e = .returned (.tuple #[.slice none 0 0, .agg #[.int .i64 10, .int .i64 (-1)]])) ∨
    (Ob.StOk s ∧ (packB s).length ≤ 4096 ∧ ∃ A c, e = .returned (.tuple #[.slice A (packB s).length c, .agg #[.int .i64 0, .int .i64 0]]) ∧ (packB s).length ≤ c ∧ SA w' (Under w.heap.size) A (bytesV (packB s))))
set_option maxRecDepth 100000 in
set_option maxHeartbeats 8000000 in
theorem build_all (w : World) (A : Option Addr) (k : Nat) (s : List Ob.S) (hv : StV w Free A s) (hl64 : s.length ≤ 9223372036854775807) :
    Calls Try.prog 15 #[stV A s.length k] w (BdPost w s) := by
  have HC := Lib.hid (fun (w1 : World) (hb : Below w.heap.size w w1) => validate_any w1 A k s (hv.keep (free_below hb)) hl64)
  have HBU := Lib.hid (fun (w1 : World) (hb : Below w.heap.size w w1) (h : Ob.StOk s) => build_any w1 A k s (hv.keep (free_below hb)) (by have := h.len; omega) h.ok)
  clear hv
  go_enter Try.func15, Try.ntmps15
  go_wp2_with fail
  go_at_call 32
  refine (HC.out _ (below_alloc2 _ _ _)).mono ?_
  rintro e w1 ⟨rfl, hb1⟩
  have hblk := (blk_new1 w (.cells #[.slice A s.length k] 24) 28 #[.int .i64 0, .int .i64 0]).below hb1 (by simp)
  have hbox := ((Blk.new w 24 #[.slice A s.length k]).alloc (.cells #[.int .i64 0, .int .i64 0] 28)).below hb1 (by simp; omega)
  have hbw := (below_alloc2 w (.cells #[.slice A s.length k] 24) (.cells #[.int .i64 0, .int .i64 0] 28)).trans (hb1.mono (by simp; omega))
  have hsz := hbw.size
  have hlt := hblk.lt
  have hltb : w.heap.size < w1.heap.size := Nat.lt_of_succ_lt hlt
  have hc0 := hblk.cell 0
  have hc1 := hblk.cell 1
  have hf0 := hblk.frozen 0
  have hf1 := hblk.frozen 1
  have p0 := hbox.cell 0
  simp only [List.getElem?_toArray, List.getElem?_cons_zero, List.getElem?_cons_succ] at hc0 hc1 p0
  clear hb1 HC
  by_cases hbad : (Ob.stF s).1 ≠ 0
  · have H : Hid (∀ w' : World, Below w.heap.size w w' → BdPost w s (.returned (.tuple #[.slice none 0 0, .agg #[.int .i64 (Ob.stF s).1, .int .i64 (Ob.stF s).2]])) w') := Lib.hid fun w' hb => ⟨hb, .inl ⟨hbad, rfl⟩⟩
    have hb1 : ((Ob.stF s).1 == 0) = false := by simpa using hbad
    have hb2 : ((Ob.stF s).1 != 0) = true := by simpa using hbad
    clear hbad HBU
    generalize BdPost w s = R at *
    generalize Ob.stF s = r at *
    obtain ⟨cd, ix⟩ := r
    simp only at hb1 hb2
    go_wp2_with fail
    go_region
    all_goals
      go_wp2_with fail
      refine bodyPost_ret (results_tc rfl _ _ (w.heap.size + 1) (.int .i64 cd) (.int .i64 ix) rfl (((blk_put2 hblk _ _).alloc _).drewN 1)) rfl ?_
      refine H.out _ ?_
      exact below_drewN (((hbw.setCell (by simp) _).setCell (by simp) _).alloc (by simp; omega) _) 1
  · obtain ⟨hz, hok⟩ := Ob.stF_ok (by simpa using hbad)
    have H1 : Hid (∀ w' : World, Below w.heap.size w w' → 4096 < (packB s).length → BdPost w s (.returned (.tuple #[.slice none 0 0, .agg #[.int .i64 10, .int .i64 (-1)]])) w') := Lib.hid fun w' hb h => ⟨hb, .inr (.inl ⟨hok, h, rfl⟩)⟩
    have H2 : Hid (∀ (w' : World) A c, Below w.heap.size w w' → (packB s).length ≤ 4096 → (packB s).length ≤ c → SA w' (Under w.heap.size) A (bytesV (packB s)) → BdPost w s (.returned (.tuple #[.slice A (packB s).length c, .agg #[.int .i64 0, .int .i64 0]])) w') := Lib.hid fun w' A c hb h hc hs => ⟨hb, .inr (.inr ⟨hok, h, A, c, rfl, hc, hs⟩)⟩
    rw [hz]
    have hbw2 := hbw.alloc hsz (.cells #[.int .i64 0, .int .i64 0] 28)
    have hblk2 := hblk.alloc (.cells #[.int .i64 0, .int .i64 0] 28)
    have HBU2 := Lib.hid (HBU.out _ hbw2 hok)
    clear HBU hz hbad
    generalize BdPost w s = R at *
    go_wp2_with fail
    go_at_call 39
    refine HBU2.out.mono ?_
    rintro e w2 ⟨A2, n, c2, rfl, hb2, hrow⟩
    have hbw3 := hbw2.trans (hb2.mono hbw2.size)
    have hblk3 := hblk2.below hb2 hblk2.lt
    have hlt3 := hblk3.lt
    have hf03 := hblk3.frozen 0
    have hf13 := hblk3.frozen 1
    have hc03 := hblk3.cell 0
    have hc13 := hblk3.cell 1
    simp only [List.getElem?_toArray, List.getElem?_cons_zero, List.getElem?_cons_succ] at hc03 hc13
    by_cases h96 : (packB s).length ≤ 4096
    · obtain ⟨hn, hnc, hown⟩ := hrow (by have := packB_length s; omega)
      rw [decide_eq_true h96]
      subst hn
      clear hrow HBU2
      go_wp2_with fail
      refine bodyPost_ret (results_tc rfl _ _ (w.heap.size + 1) (.int .i64 0) (.int .i64 0) rfl (blk_put2 hblk3 _ _)) rfl ?_
      refine H2.out _ _ _ ?_ h96 hnc ?_
      · exact (hbw3.setCell (by simp) _).setCell (by simp) _
      have hz2 := hb2.size
      refine (((SA.of_own (X := Under (w.heap.size + 2)) hown ?_).keep (Keeps.setCell _ _ _ _ (by simp [Under]))).keep (Keeps.setCell _ _ _ _ (by simp [Under]))).mono ?_
      · intro b hb; simp only [Under] at hb; simp; omega
      · intro b hb; simp only [Under] at hb ⊢; omega
    · rw [decide_eq_false h96]
      clear hrow HBU2
      go_wp2_with fail
      refine bodyPost_ret (results_tc rfl _ _ (w.heap.size + 1) (.int .i64 10) (.int .i64 (-1)) rfl (blk_put2 hblk3 _ _)) rfl ?_
      refine H1.out _ ?_ (by omega)
      exact (hbw3.setCell (by simp) _).setCell (by simp) _
end Go.Proofs.Ytiilhnfdlpgllaa
