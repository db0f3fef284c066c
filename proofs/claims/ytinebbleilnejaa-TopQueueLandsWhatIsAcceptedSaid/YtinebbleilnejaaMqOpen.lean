/-
  The merge queue: a slice of sets of numbers that came in.
-/
import Derived.Test.YtinebbleilnejaaMq19
import Derived.Test.YtinebbleilnejaaView7
import Derived.Test.YtinebbleilnejaaView10
namespace Go.Proofs.Ytinebbleilnejaa
open Go.RowKit Go.V Go.ChangeShapes Go.WideShapes Go.ChangeAt Go.Deep
set_option linter.unusedVariables false

theorem open_cu {H : Type} {enc : TypeId × Value → H} {w : World} {base fuel : Nat} {spare : Nat → Bool} {held : Bool} {cs : List Value} {x : DataW H × List MemPlace} (h : DataW.trod enc Try.prog w base spare held fuel 22 cs = some x)
    (hz : ∀ n ∈ x.1.weights Try.prog 22, n ≤ reachBytes) :
    ∃ A c l, cs = [.slice A l.length c] ∧ l.length ≤ c ∧ c ≤ maxLen ∧ CuV w A l := by
  obtain ⟨A, c, l, vs, e, h1, h2, _, h3, h4⟩ := open_rows1 (R := CuR w w.heap.size) Try.underlying22 (by kernel_rfl) h hz (by
    intro v n y ht hzy
    obtain ⟨A, cc, l, e0, hlc, hcm, hsv, hb⟩ := open_intl Try.underlying23 Try.underlying3 (by kernel_rfl) ht
    simp at e0
    subst e0
    unfold maxLen at hcm
    exact ⟨l, A, cc, rfl, by omega, hsv⟩)
  exact ⟨A, c, l, e, h1, h2, vs, h3, h4⟩
end Go.Proofs.Ytinebbleilnejaa
