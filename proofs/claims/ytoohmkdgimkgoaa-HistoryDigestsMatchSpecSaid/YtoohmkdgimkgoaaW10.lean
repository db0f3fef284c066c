/-
  Histories: walk of 'Ancestors', where the history is valid.
-/
import Derived.Test.YtoohmkdgimkgoaaW9
import Derived.Test.YtoohmkdgimkgoaaW7
namespace Go.Proofs.Ytoohmkdgimkgoaa
open Go.RowKit Go.V
set_option linter.unusedVariables false

/-- Bools and no fault. -/
def BoolsPost (w : World) (xs : List Bool) (e : Ending) (w' : World) : Prop := ∃ A c, e = .returned (.tuple #[.slice A xs.length c, .agg #[.int .i64 0, .int .i64 0]]) ∧ xs.length ≤ c ∧ BV w' A xs ∧ Below w.heap.size w w'
/-- Which commits are ancestors of n. -/
def ancL (l : List Hs.Cm) (n : Nat) : List Bool := tab l.length (Hs.reach l n)

set_option maxRecDepth 100000 in
set_option maxHeartbeats 4000000 in
theorem ancestors_none (w : World) (A : Option Addr) (k : Nat) (l : List Hs.Cm) (n : Int) (hv : CV w A l) (hok : Hs.Ok l) (hn : ¬ (0 ≤ n ∧ n < l.length)) :
    Calls Try.prog 18 #[.slice A l.length k, .int .i64 n] w (NonePost w (6, -1)) := by
  have hl := hok.len
  have HC := Lib.hid (fun w1 h => validate_any w1 A k l h (by omega))
  have HV := Lib.hid (Hs.validate_of_ok hok)
  have HN := Lib.hid (show (decide (0 ≤ n) && decide (n < (l.length : Int))) = false from by
    rw [Bool.and_eq_false_iff]; simp only [decide_eq_false_iff_not]; omega)
  go_enter Try.func18, Try.ntmps18
  go_wp2_with fail
  go_at_call 20
  refine (HC.out _ (hv.alloc _)).mono ?_
  rw [HV.out]
  rintro e w1 ⟨rfl, hb1⟩
  have hblk := (Blk.new w 26 #[.int .i64 0, .int .i64 0]).below hb1 (by simp)
  have hbel := (below_alloc1 w (.cells #[.int .i64 0, .int .i64 0] 26)).trans (hb1.mono (by simp))
  have hsz := hbel.size
  have hlt := hblk.lt
  have hc0 := hblk.cell 0
  have hc1 := hblk.cell 1
  have hf0 := hblk.frozen 0
  have hf1 := hblk.frozen 1
  simp only [List.getElem?_toArray, List.getElem?_cons_zero, List.getElem?_cons_succ] at hc0 hc1
  clear hb1 HC HV
  go_wp2_with (go_at_call 49; refine (is_any _ _ _ _ _ (by omega)).mono ?_; rintro e w' ⟨rfl, rfl⟩; rw [HN.out])
  refine bodyPost_ret (results_tc rfl _ _ w.heap.size (.int .i64 6) (.int .i64 (-1)) rfl ((blk_put26 hblk _ _).alloc _)) rfl ⟨rfl, ?_⟩
  exact ((hbel.setCell (by simp) _).setCell (by simp) _).alloc (by simp; omega) _

/-- The same, and the row of bools is a block of the call's own. -/
def AncFresh (w : World) (l : List Hs.Cm) (n : Nat) (e : Ending) (w' : World) : Prop := ∃ g, e = .returned (.tuple #[.slice (some ⟨g, 0, none⟩) l.length l.length, .agg #[.int .i64 0, .int .i64 0]]) ∧ w.heap.size ≤ g ∧ Blk w' g 4 (boolsA (tab l.length (Hs.reach l n))) ∧ Below w.heap.size w w'
set_option maxRecDepth 100000 in
set_option maxHeartbeats 4000000 in
theorem ancestors_fresh (w : World) (A : Option Addr) (k : Nat) (l : List Hs.Cm) (n : Nat) (hv : CV w A l) (hok : Hs.Ok l) (hn : n < l.length) :
    Calls Try.prog 18 #[.slice A l.length k, .int .i64 n] w (AncFresh w l n) := by
  have hl := hok.len
  have HC := Lib.hid (fun w1 h => validate_any w1 A k l h (by omega))
  have HO := Lib.hid (fun w1 A2 c2 h h2 => of_any w1 A A2 k c2 l [n] h hok h2 (by simpa using hn) (by simp))
  have HV := Lib.hid (Hs.validate_of_ok hok)
  have HR := Lib.hid (show tab l.length (Hs.of l fun x => [n].contains x) = ancL l n from tab_congr fun i _ => by
    have : (fun x => [n].contains x) = fun x => x == n := funext fun x => Hs.contains_one n x
    rw [this, hok.of_one n hn])
  have HN := Lib.hid (show (decide (0 ≤ (n : Int)) && decide ((n : Int) < (l.length : Int))) = true from by
    rw [decide_eq_true (by omega), decide_eq_true (by omega)]; rfl)
  go_enter Try.func18, Try.ntmps18
  go_wp2_with fail
  go_at_call 20
  refine (HC.out _ (hv.alloc _)).mono ?_
  rw [HV.out]
  rintro e w1 ⟨rfl, hb1⟩
  have hblk := (Blk.new w 26 #[.int .i64 0, .int .i64 0]).below hb1 (by simp)
  have hbel := (below_alloc1 w (.cells #[.int .i64 0, .int .i64 0] 26)).trans (hb1.mono (by simp))
  have hsz := hbel.size
  have hlt := hblk.lt
  clear hb1 HC HV
  go_wp2_with (go_at_call 49; refine (is_any _ _ _ _ _ (by omega)).mono ?_; rintro e w' ⟨rfl, rfl⟩; rw [HN.out])
  go_at_call 50
  have hbel1 := (hbel.alloc hsz (.cells #[.int .i64 0, .int .i64 0] 26)).alloc (by simp; omega) (.cells #[.int .i64 n] 3)
  refine (HO.out _ _ _ (hv.below hbel1) ?_).mono ?_
  · have := SV.lit (w1.alloc (.cells #[.int .i64 0, .int .i64 0] 26)) #[.int .i64 (n : Int)] 3
    simpa [IV, Hs.ints, intsV] using this
  · rintro e w2 ⟨g, rfl, hg1, hrow, hb2⟩
    have hbel2 := hbel1.trans (hb2.mono hbel1.size)
    have hblk2 := ((hblk.alloc (.cells #[.int .i64 0, .int .i64 0] 26)).alloc (.cells #[.int .i64 n] 3)).below hb2 (by simp; omega)
    have hc0 := hblk2.cell 0
    have hc1 := hblk2.cell 1
    have hf0 := hblk2.frozen 0
    have hf1 := hblk2.frozen 1
    have hlt2 := hblk2.lt
    simp only [List.getElem?_toArray, List.getElem?_cons_zero, List.getElem?_cons_succ] at hc0 hc1
    clear hbel1 hb2 HO
    rw [HR.out] at hrow
    simp at hg1
    go_wp2_with fail
    refine bodyPost_ret (results_tc rfl _ _ w.heap.size (.int .i64 0) (.int .i64 0) rfl (blk_put26 hblk2 _ _)) rfl ?_
    exact ⟨g, rfl, by have := hbel.size; omega, (hrow.far (by simp; omega) _).far (by simp; omega) _, (hbel2.setCell (by simp) _).setCell (by simp) _⟩
theorem ancestors_ok (w : World) (A : Option Addr) (k : Nat) (l : List Hs.Cm) (n : Nat) (hv : CV w A l) (hok : Hs.Ok l) (hn : n < l.length) :
    Calls Try.prog 18 #[.slice A l.length k, .int .i64 n] w (BoolsPost w (ancL l n)) := by
  refine (ancestors_fresh w A k l n hv hok hn).mono ?_
  rintro e w' ⟨g, rfl, hg, hblk, hb⟩
  have hlen : (ancL l n).length = l.length := by simp [ancL]
  exact ⟨some ⟨g, 0, none⟩, l.length, by rw [hlen], by rw [hlen]; exact Nat.le_refl _, SV.of_bools hblk, hb⟩
end Go.Proofs.Ytoohmkdgimkgoaa
