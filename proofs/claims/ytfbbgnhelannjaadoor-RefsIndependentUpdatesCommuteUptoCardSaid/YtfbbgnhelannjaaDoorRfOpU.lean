/-
  References: what the second form's bound gives.
-/
import Derived.Test.YtfbbgnhelannjaaDoorRfOpen
import Derived.Test.YtfbbgnhelannjaaDoorRows
namespace Go.Proofs.YtfbbgnhelannjaaDoor
open Go.RowKit Go.V Go.ChangeShapes Go.WideShapes Go.ChangeAt Go.Deep
set_option linter.unusedVariables false

section
variable {H : Type} {enc : TypeId × Value → H} {w : World} {base fuel : Nat} {spare : Nat → Bool} {held : Bool} {cs : List Value} {x : DataW H × List MemPlace}
theorem open_rupdU (h : DataW.trod enc Tryd.prog w base spare held fuel 28 cs = some x) (hz : ∀ n ∈ x.1.weights Tryd.prog 28, n ≤ reachBytes) :
    ∃ u : Rf.U, cs = uC u ∧ (I64 u.old ∧ I64 u.new ∧ u.name.length ≤ reachBytes) ∧ u.name.length ≤ Rows.uptoBulk x.1 := by
  obtain ⟨y0, y1, y2, n, rfl, hl, t0, t1, t2⟩ := trod_struct3 Tryd.underlying28 h
  rw [c28] at hl
  obtain _ | ⟨c0, _ | ⟨c1, _ | ⟨c2, _ | ⟨_, _⟩⟩⟩⟩ := cs <;> simp at hl
  have z0 := weights_field Tryd.underlying28 (j := 0) (y := y0.1) rfl rfl hz
  simp only [c9, c3] at t0 t1 t2
  obtain ⟨s, e0, rfl, hs⟩ := DataW.trod_string Tryd.underlying9 t0
  obtain ⟨a1, e1, rfl, w1⟩ := DataW.trod_int Tryd.underlying3 t1
  obtain ⟨a2, e2, rfl, w2⟩ := DataW.trod_int Tryd.underlying3 t2
  simp at e0 e1 e2
  obtain ⟨l, rfl⟩ := str_of s
  exact ⟨⟨l, a1, a2⟩, by simp [uC, e0, e1, e2], ⟨bounds_i64 w1, bounds_i64 w2, weights_str z0⟩, by simp [Rows.uptoBulk, Rows.uptoBulkAll]; omega⟩
end
/-- The bound, as the row hands it over. -/
theorem upto_bound {H : Type} {l : List (DataW H)} (hk : Rows.uptoSmall H l = true) : Rows.uptoBulkAll l ≤ 1048576 := by
  simpa [Rows.uptoSmall] using hk
end Go.Proofs.YtfbbgnhelannjaaDoor
