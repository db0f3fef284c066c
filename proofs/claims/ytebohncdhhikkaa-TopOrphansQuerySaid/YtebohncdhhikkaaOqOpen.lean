/-
  Markers and histories: slices of markers and of commits that came in.
-/
import Derived.Test.YtebohncdhhikkaaOq28
import Derived.Test.YtebohncdhhikkaaView7
namespace Go.Proofs.Ytebohncdhhikkaa
open Go.RowKit Go.V Go.ChangeShapes Go.WideShapes Go.ChangeAt Go.Deep
set_option linter.unusedVariables false

theorem open_commits {H : Type} {enc : TypeId × Value → H} {w : World} {base fuel : Nat} {spare : Nat → Bool} {held : Bool} {cs : List Value} {x : DataW H × List MemPlace} (h : DataW.trod enc Try.prog w base spare held fuel 23 cs = some x)
    (hz : ∀ n ∈ x.1.weights Try.prog 23, n ≤ reachBytes) :
    ∃ A c l, cs = [.slice A l.length c] ∧ l.length ≤ c ∧ c ≤ maxLen ∧ CV w A l := by
  obtain ⟨A, c, l, vs, e, h1, h2, _, h3, h4⟩ := open_rows (R := CoR w w.heap.size) Try.underlying23 Try.underlying45 (by kernel_rfl) (by kernel_rfl) (by decide) h hz (by
    intro c ys n hyl hf
    obtain ⟨y0, _, t0, _⟩ := hf 0 _ rfl
    obtain ⟨y1, _, t1, _⟩ := hf 1 _ rfl
    obtain ⟨y2, _, t2, _⟩ := hf 2 _ rfl
    obtain ⟨y3, _, t3, _⟩ := hf 3 _ rfl
    obtain ⟨y4, _, t4, _⟩ := hf 4 _ rfl
    obtain ⟨A, cc, l, e0, hlc, hcm, hsv, hb⟩ := open_intl Try.underlying26 Try.underlying3 (by kernel_rfl) t0
    obtain ⟨a1, e1, rfl, w1⟩ := DataW.trod_int Try.underlying3 t1
    obtain ⟨a2, e2, rfl, w2⟩ := DataW.trod_int Try.underlying3 t2
    obtain ⟨a3, e3, rfl, w3⟩ := DataW.trod_int Try.underlying3 t3
    obtain ⟨s, e4, rfl, hs⟩ := DataW.trod_string Try.underlying9 t4
    simp at e0 e1 e2 e3 e4
    unfold maxLen at hcm hs
    refine ⟨⟨l, a1, a2, a3, s⟩, A, cc, ?_, ⟨by simp only; omega, by simp only; omega, hb, bounds_i64 w1, bounds_i64 w2, bounds_i64 w3⟩, hsv⟩
    simp [List.range_succ, e0, e1, e2, e3, e4])
  exact ⟨A, c, l, e, h1, h2, vs, h3, h4⟩
theorem open_markers {H : Type} {enc : TypeId × Value → H} {w : World} {base fuel : Nat} {spare : Nat → Bool} {held : Bool} {cs : List Value} {x : DataW H × List MemPlace} (h : DataW.trod enc Try.prog w base spare held fuel 22 cs = some x)
    (hz : ∀ n ∈ x.1.weights Try.prog 22, n ≤ reachBytes) :
    ∃ A c l, cs = [.slice A l.length c] ∧ l.length ≤ c ∧ c ≤ maxLen ∧ MV w A l := by
  obtain ⟨A, c, l, vs, e, h1, h2, _, h3, h4⟩ := open_rows (R := MkR w w.heap.size) Try.underlying22 Try.underlying57 (by kernel_rfl) (by kernel_rfl) (by decide) h hz (by
    intro c ys n hyl hf
    obtain ⟨y0, _, t0, _⟩ := hf 0 _ rfl
    obtain ⟨y1, _, t1, _⟩ := hf 1 _ rfl
    obtain ⟨a0, e0, rfl, w0⟩ := DataW.trod_int Try.underlying3 t0
    obtain ⟨A, cc, l, e1, hlc, hcm, hsv, hb⟩ := open_intl Try.underlying26 Try.underlying3 (by kernel_rfl) t1
    simp at e0 e1
    unfold maxLen at hcm
    refine ⟨⟨a0, l⟩, A, cc, ?_, by simp only; omega, hsv⟩
    simp [List.range_succ, e0, e1])
  exact ⟨A, c, l, e, h1, h2, vs, h3, h4⟩
end Go.Proofs.Ytebohncdhhikkaa
