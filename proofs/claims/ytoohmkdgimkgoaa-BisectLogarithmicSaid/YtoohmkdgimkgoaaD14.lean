/-
  BisectLogarithmic: for every input the law returns true, and each argument reads afterwards as it read before. No condition.
-/
import Derived.Test.YtoohmkdgimkgoaaRows
import Derived.Test.YtoohmkdgimkgoaaL14
import Derived.Test.YtoohmkdgimkgoaaHOpen
import Derived.Test.YtoohmkdgimkgoaaHOpen2
import Derived.ShutString
import Derived.ProofKit
import Derived.OpenShut
import Derived.SizedLaws
import Derived.ChangeOld
import Derived.Below
namespace Go.Proofs.Ytoohmkdgimkgoaa.logLawDone
open Go.ChangeShapes Go.WideShapes Go.ChangeAt Go.RowKit Go.V
open Go.ChangeMaps (open_string shut_string)
set_option linter.unusedVariables false

theorem own : ownKnob Try.prog.godebug = none := by kernel_rfl
theorem laidOut : laidOutB Try.prog = true := by kernel_rfl

set_option maxRecDepth 100000 in
theorem lifted (os : Os) (started : os.Started) (H : Type) (enc : TypeId × Value → H) :
    ReturnsInHanded {} Try.checked os 14 .any (Rows.bisectLogarithmicSpec.pre6 enc Try.prog Try.f14 Rows.bisectLogarithmicRow.domain false) (Rows.bisectLogarithmicSpec.post enc Try.prog Try.f14 false true false false) := by
  refine returnsInHanded_of_change (C := Try.checked) own started (by kernel_rfl) Try.func14
    (ChangeSpec.witness6 (enc := enc) (C := Try.checked) false ⟨#[], #[.int .i64 0, .int .i64 0], []⟩ 8 (by kernel_rfl) (by kernel_rfl) (by kernel_rfl) (by kernel_rfl)) ?_
  intro W base args ds gs before hval0 hW hcnd _
  have hval : ∀ (j : Nat) t v, Try.f14.params[j]? = some t → args[j]? = some v → Value.okWide Try.prog W .any base t v := hval0
  have hW' := hW
  obtain ⟨p, q, hA0, hV, rfl, hfz, hnd⟩ := hW
  have hA : DataW.TrodAll enc Try.prog W 0 (fun _ => true) true Try.f14.params.toList args.toList ds p := hA0
  rw [Try.params14] at hA hval
  obtain ⟨v0, vs0, d0, ds0, p0, q0, hargs, rfl, rfl, h0, r0⟩ := trodAll_cons hA
  obtain ⟨v1, vs1, d1, ds1, p1, q1, rfl, rfl, rfl, h1, r1⟩ := trodAll_cons r0
  obtain ⟨rfl, rfl, rfl⟩ := trodAll_nil r1
  obtain rfl : args = #[v0, v1] := by cases args; simp_all
  obtain ⟨rfl, rfl⟩ := trodVars_none hV
  obtain ⟨x0, rfl, rfl, rfl, wf0⟩ := open_int Try.underlying3 (hval 0 3 v0 rfl rfl) h0
  have bd0 := bounds_i64 wf0
  obtain ⟨x1, rfl, rfl, rfl, wf1⟩ := open_int Try.underlying3 (hval 1 3 v1 rfl rfl) h1
  have bd1 := bounds_i64 wf1
  clear hA0 hval0
  refine (law14_any W x0 x1 bd0 bd1).mono fun e W' ⟨he, bel⟩ => ?_
  subst he
  exact ⟨_, rfl, _, _, _, [], _, [], hW', trodAll_mk1 (shut_bool Try.underlying4 _), (trodAll_cons_mk (shut_int Try.underlying3 wf0) (trodAll_cons_mk (shut_int Try.underlying3 wf1) trodAll_mk0)), rfl, bel.frame _, fun h => by cases h⟩

theorem named_ : Try.pinned.checked.prog.funcNamed Rows.bisectLogarithmicRow.func = some 14 := by kernel_rfl
theorem inPlace_ : (Rows.bisectLogarithmicRow.inPlace == Try.pinned.checked.prog.inPlace 14) = true := by kernel_rfl
theorem unfollowed_ : (Rows.bisectLogarithmicRow.unfollowed == Try.pinned.checked.prog.unfollowed 14) = true := by kernel_rfl
theorem recurses_ : (Rows.bisectLogarithmicRow.recurses == Try.pinned.checked.prog.recurses 14) = true := by kernel_rfl
theorem varsNamed_ : (Rows.bisectLogarithmicRow.named == Try.pinned.checked.prog.varsNamed 14) = true := by kernel_rfl
theorem closed_ : joinedFacts Try.pinned.checked.prog 14 Try.f14 Rows.bisectLogarithmicSpec Rows.bisectLogarithmicRow = true := by
  unfold joinedFacts
  rw [inPlace_, unfollowed_, recurses_, varsNamed_]
  kernel_rfl
theorem inst_ : Try.f14.isInstance Try.pinned.checked.prog Rows.bisectLogarithmicRow.origin Rows.bisectLogarithmicRow.targs := of_decide_eq_true (by kernel_rfl)
theorem wrap_ : Try.f14.isWrapper Try.pinned.checked.prog Rows.bisectLogarithmicRow.wrapper Rows.bisectLogarithmicRow.mainSum := by
  unfold Func.isWrapper; first | (rw [if_pos (by decide +kernel)]; kernel_rfl) | (rw [if_neg (by decide +kernel)]; exact ⟨rfl, rfl⟩)
theorem over : Rows.bisectLogarithmicRow.holds Try.pinned (OpenSpec.ofChange Rows.bisectLogarithmicSpec) :=
  OpenClaim.holds_of_wide 14 Try.f14 rfl rfl rfl rfl rfl rfl rfl ⟨rfl, rfl, rfl, rfl, rfl⟩ rfl rfl rfl rfl rfl named_ Try.func14 closed_ inst_ wrap_
    (fun os started H enc _ => lifted os started H enc)

/-- The statement. -/
theorem proved : Rows.BisectLogarithmicSaid := over
#print axioms proved
end Go.Proofs.Ytoohmkdgimkgoaa.logLawDone
