/-
  PackReadMatchesSpec: for every input the law returns true, and each argument reads afterwards as it read before. No condition.
-/
import Derived.Test.YtiilhnfdlpgllaaRows
import Derived.Test.YtiilhnfdlpgllaaPk26
import Derived.ShutString
import Derived.ProofKit
import Derived.OpenShut
import Derived.SizedLaws
import Derived.ChangeOld
import Derived.Below
namespace Go.Proofs.Ytiilhnfdlpgllaa.packReadDone
open Go.ChangeShapes Go.WideShapes Go.ChangeAt Go.RowKit Go.V
open Go.ChangeMaps (open_string shut_string)
set_option linter.unusedVariables false

theorem own : ownKnob Try.prog.godebug = none := by kernel_rfl
theorem laidOut : laidOutB Try.prog = true := by kernel_rfl
theorem cells5 : Try.prog.cellsOf 5 = 1 := by kernel_rfl

set_option maxRecDepth 100000 in
theorem lifted (os : Os) (started : os.Started) (H : Type) (enc : TypeId × Value → H) :
    ReturnsInHanded {} Try.checked os 7 .any (Rows.packReadMatchesSpecSpec.pre6 enc Try.prog Try.f7 Rows.packReadMatchesSpecRow.domain false) (Rows.packReadMatchesSpecSpec.post enc Try.prog Try.f7 false true false false) := by
  refine returnsInHanded_of_change (C := Try.checked) own started (by kernel_rfl) Try.func7
    (ChangeSpec.witness6 (enc := enc) (C := Try.checked) false ⟨#[], #[.slice none 0 0, .int .i64 0], []⟩ 8 (by kernel_rfl) (by kernel_rfl) (by kernel_rfl) (by kernel_rfl)) ?_
  intro W base args ds gs before hval0 hW hcnd _
  have hval : ∀ (j : Nat) t v, Try.f7.params[j]? = some t → args[j]? = some v → Value.okWide Try.prog W .any base t v := hval0
  have hW' := hW
  obtain ⟨p, q, hA0, hV, rfl, hfz, hnd⟩ := hW
  have hA : DataW.TrodAll enc Try.prog W 0 (fun _ => true) true Try.f7.params.toList args.toList ds p := hA0
  rw [Try.params7] at hA hval
  obtain ⟨v0, vs0, d0, ds0, p0, q0, hargs, rfl, rfl, h0, r0⟩ := trodAll_cons hA
  obtain ⟨v1, vs1, d1, ds1, p1, q1, rfl, rfl, rfl, h1, r1⟩ := trodAll_cons r0
  obtain ⟨rfl, rfl, rfl⟩ := trodAll_nil r1
  obtain rfl : args = #[v0, v1] := by cases args; simp_all
  obtain ⟨rfl, rfl⟩ := trodVars_none hV
  obtain ⟨a0, len0, cap0, rfl⟩ := okWide_slice Try.underlying26 (hval 0 26 v0 rfl rfl)
  have k0 := h0
  have lt0 : ∀ x ∈ p0, x.block < W.heap.size := by obtain ⟨m, hm⟩ := k0; exact DataW.trod_lt m _ _ _ hm
  obtain ⟨f0, hf0⟩ := h0
  obtain ⟨A0, c0, l0, e0, hl0, hm0, s0⟩ := open_bytes Try.underlying26 Try.underlying5 cells5 hf0
  simp [Value.cells] at e0
  obtain ⟨rfl, rfl, rfl⟩ := e0
  unfold maxLen at hm0
  obtain ⟨x1, rfl, rfl, rfl, wf1⟩ := open_int Try.underlying3 (hval 1 3 v1 rfl rfl) h1
  have bd1 := bounds_i64 wf1
  clear hA0 hval0
  refine (law7_any W a0 _ cap0 l0 x1 (SA.of_sv s0) rfl hl0).mono fun e W' ⟨he, bel⟩ => ?_
  subst he
  exact ⟨_, rfl, _, _, _, [], _, [], hW', trodAll_mk1 (shut_bool Try.underlying4 _), (trodAll_cons_mk (Below.trod laidOut (by kernel_rfl) (of_decide_eq_true (by kernel_rfl)) k0 bel lt0) (trodAll_cons_mk (shut_int Try.underlying3 wf1) trodAll_mk0)), rfl, bel.frame _, fun h => by cases h⟩

theorem named_ : Try.pinned.checked.prog.funcNamed Rows.packReadMatchesSpecRow.func = some 7 := by kernel_rfl
theorem inPlace_ : (Rows.packReadMatchesSpecRow.inPlace == Try.pinned.checked.prog.inPlace 7) = true := by kernel_rfl
theorem unfollowed_ : (Rows.packReadMatchesSpecRow.unfollowed == Try.pinned.checked.prog.unfollowed 7) = true := by kernel_rfl
theorem recurses_ : (Rows.packReadMatchesSpecRow.recurses == Try.pinned.checked.prog.recurses 7) = true := by kernel_rfl
theorem varsNamed_ : (Rows.packReadMatchesSpecRow.named == Try.pinned.checked.prog.varsNamed 7) = true := by kernel_rfl
theorem closed_ : joinedFacts Try.pinned.checked.prog 7 Try.f7 Rows.packReadMatchesSpecSpec Rows.packReadMatchesSpecRow = true := by
  unfold joinedFacts
  rw [inPlace_, unfollowed_, recurses_, varsNamed_]
  kernel_rfl
theorem inst_ : Try.f7.isInstance Try.pinned.checked.prog Rows.packReadMatchesSpecRow.origin Rows.packReadMatchesSpecRow.targs := of_decide_eq_true (by kernel_rfl)
theorem wrap_ : Try.f7.isWrapper Try.pinned.checked.prog Rows.packReadMatchesSpecRow.wrapper Rows.packReadMatchesSpecRow.mainSum := by
  unfold Func.isWrapper; first | (rw [if_pos (by decide +kernel)]; kernel_rfl) | (rw [if_neg (by decide +kernel)]; exact ⟨rfl, rfl⟩)
theorem over : Rows.packReadMatchesSpecRow.holds Try.pinned (OpenSpec.ofChange Rows.packReadMatchesSpecSpec) :=
  OpenClaim.holds_of_wide 7 Try.f7 rfl rfl rfl rfl rfl rfl rfl ⟨rfl, rfl, rfl, rfl, rfl⟩ rfl rfl rfl rfl rfl named_ Try.func7 closed_ inst_ wrap_
    (fun os started H enc _ => lifted os started H enc)

/-- The statement. -/
theorem proved : Rows.PackReadMatchesSpecSaid := over
#print axioms proved
end Go.Proofs.Ytiilhnfdlpgllaa.packReadDone
