/-
  What the reach says of a slice of numbers that came in.
-/
import Derived.Test.YtoohmkdgimkgoaaHOpen
import Derived.Test.YtoohmkdgimkgoaaView4
namespace Go.Proofs.Ytoohmkdgimkgoaa
open Go.RowKit Go.V Go.ChangeShapes Go.WideShapes Go.ChangeAt Go.Deep
set_option linter.unusedVariables false

theorem ints_len {H : Type} {enc : TypeId × Value → H} {w : World} {base fuel : Nat} {spare : Nat → Bool} {held : Bool} {A : Option Addr} {n c : Nat} {x : DataW H × List MemPlace} (h : DataW.trod enc Try.prog w base spare held fuel 37 [.slice A n c] = some x)
    (hz : ∀ n ∈ x.1.weights Try.prog 37, n ≤ reachBytes) : n * 8 ≤ 140737488351232 := by
  have hbe : Try.prog.bytesOf 3 = 8 := by kernel_rfl
  rcases open_ints Try.underlying37 Try.underlying3 (by kernel_rfl) h with ⟨hcs, _⟩ | ⟨a, len, cap, zs, hcs, _, hl, hm, hz', hx, hcell, hwz⟩
  · simp at hcs; omega
  · simp at hcs
    obtain ⟨rfl, rfl, rfl⟩ := hcs
    have hlz : n ≤ zs.length := by
      have := hz'
      split at this <;> omega
    have := hz (((lits (H := H) .i64 (zs.take n)).length + (lits (H := H) .i64 (zs.drop n)).length) * Try.prog.bytesOf 3) (by rw [hx]; simp [DataW.weights, Try.underlying37])
    rw [hbe] at this
    simp [lits, reachBytes] at this
    omega
end Go.Proofs.Ytoohmkdgimkgoaa
