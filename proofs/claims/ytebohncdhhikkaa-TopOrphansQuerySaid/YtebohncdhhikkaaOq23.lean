/-
  Markers: the zero table of 'reach'.
-/
import Derived.Test.YtebohncdhhikkaaOq22
namespace Go.Proofs.Ytebohncdhhikkaa
open Go.RowKit Go.V
set_option linter.unusedVariables false
set_option maxRecDepth 100000 in
theorem zero82 : ((Try.prog.info? 82).bind (·.zero)).map (·.cells) = some (boolsA (tab 3600 fun _ => false)) := by kernel_rfl
theorem alloc82 (W : World) : (Instr.alloc 82 true (.tuple #[])).run Try.prog W = .ok (.pointer (some ⟨W.heap.size, 0, none⟩)) (W.alloc (.cells (boolsA (tab 3600 fun _ => false)) 82)) := by
  obtain ⟨z, hz, hzc⟩ := Option.map_eq_some_iff.1 zero82
  obtain ⟨i5, h5, h6⟩ := Option.bind_eq_some_iff.1 hz
  rw [← hzc]
  simp [Instr.alloc, zeroValue, typeInfo, h5, h6, newVar, newRow, go_sem]
end Go.Proofs.Ytebohncdhhikkaa
