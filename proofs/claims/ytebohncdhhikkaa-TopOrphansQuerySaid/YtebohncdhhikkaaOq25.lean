/-
  Markers: what the walk of MarkersFault (Oq26) needs.
-/
import Derived.Test.YtebohncdhhikkaaOq21
import Derived.BigQuiet
namespace Go.Proofs.Ytebohncdhhikkaa
open Go.RowKit Go.V
set_option linter.unusedVariables false
/-- Any fault. -/
def MfPost (w : World) (e : Ending) (w' : World) : Prop := (∃ c i : Int, e = .returned (.agg #[.int .i64 c, .int .i64 i])) ∧ Below w.heap.size w w'
/-- The numbers below j are changes. -/
def chT (mn : List Int) (o : Int) (j : Nat) : Bool := (decide (0 ≤ o) && decide (o ≤ 59)) && (mn.take j).all fun n => decide (0 ≤ n) && decide (n ≤ 59)
theorem chT_succ (mn : List Int) (o : Int) (j : Nat) (h : j < mn.length) : chT mn o (j + 1) = (chT mn o j && (decide (0 ≤ mn[j]) && decide (mn[j] ≤ 59))) := by
  unfold chT; rw [List.take_succ_eq_append_getElem h, List.all_append]; simp [Bool.and_assoc]
theorem chT_ok (mn : List Int) (o : Int) (h : chT mn o mn.length = true) : MkOk ⟨o, mn⟩ := by
  unfold chT at h
  rw [List.take_length, Bool.and_eq_true, Bool.and_eq_true, List.all_eq_true] at h
  obtain ⟨⟨h1, h2⟩, h3⟩ := h
  refine ⟨⟨by simpa using h1, by simpa using h2⟩, fun i hi => ?_⟩
  have := h3 _ (List.getElem_mem hi)
  rw [Bool.and_eq_true] at this
  exact ⟨by simpa using this.1, by simpa using this.2⟩
end Go.Proofs.Ytebohncdhhikkaa
