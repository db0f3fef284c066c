/-
  PackDetectsChange: for every input the law returns true, and each argument reads afterwards as it read before. No condition.
-/
import Derived.Test.YtiilhnfdlpgllaaRows
import Derived.Test.YtiilhnfdlpgllaaPk15
import Derived.Test.YtiilhnfdlpgllaaPkOpen
import Derived.ShutString
import Derived.ProofKit
import Derived.OpenShut
import Derived.SizedLaws
import Derived.ChangeOld
import Derived.Below
namespace Go.Proofs.Ytiilhnfdlpgllaa.packDetDone
open Go.ChangeShapes Go.WideShapes Go.ChangeAt Go.RowKit Go.V
open Go.ChangeMaps (open_string shut_string)
set_option linter.unusedVariables false

theorem own : ownKnob Try.prog.godebug = none := by kernel_rfl
theorem laidOut : laidOutB Try.prog = true := by kernel_rfl

set_option maxRecDepth 100000 in
theorem lifted (os : Os) (started : os.Started) (H : Type) (enc : TypeId × Value → H) :
    ReturnsInHanded {} Try.checked os 4 .any (Rows.packDetectsChangeSpec.pre6 enc Try.prog Try.f4 Rows.packDetectsChangeRow.domain false) (Rows.packDetectsChangeSpec.post enc Try.prog Try.f4 false true false false) := by
  refine returnsInHanded_of_change_sized (C := Try.checked) own started (by kernel_rfl) Try.func4
    (ChangeSpec.witness6 (enc := enc) (C := Try.checked) false ⟨#[], #[.agg #[.slice none 0 0], .int .i64 0, .int .i64 0], []⟩ 8 (by kernel_rfl) (by kernel_rfl) (by kernel_rfl) (by kernel_rfl)) ?_
  intro W base args ds gs before hval0 hW hcnd hsz0 _
  have hval : ∀ (j : Nat) t v, Try.f4.params[j]? = some t → args[j]? = some v → Value.okWide Try.prog W .any base t v := hval0
  have hW' := hW
  obtain ⟨p, q, hA0, hV, rfl, hfz, hnd⟩ := hW
  have hA : DataW.TrodAll enc Try.prog W 0 (fun _ => true) true Try.f4.params.toList args.toList ds p := hA0
  have hsz : (DataW.weightsEach Try.prog (Try.f4.params.toList ++ Rows.packDetectsChangeSpec.plain.varTypes Try.prog) (ds ++ gs)).all (· ≤ reachBytes) = true := hsz0
  rw [Try.params4] at hA hval hsz
  obtain ⟨v0, vs0, d0, ds0, p0, q0, hargs, rfl, rfl, h0, r0⟩ := trodAll_cons hA
  obtain ⟨v1, vs1, d1, ds1, p1, q1, rfl, rfl, rfl, h1, r1⟩ := trodAll_cons r0
  obtain ⟨v2, vs2, d2, ds2, p2, q2, rfl, rfl, rfl, h2, r2⟩ := trodAll_cons r1
  obtain ⟨rfl, rfl, rfl⟩ := trodAll_nil r2
  obtain rfl : args = #[v0, v1, v2] := by cases args; simp_all
  obtain ⟨rfl, rfl⟩ := trodVars_none hV
  obtain ⟨g0, rfl, gs0⟩ := okWide_struct Try.underlying24 (hval 0 24 v0 rfl rfl)
  have k0 := h0
  have lt0 : ∀ x ∈ p0, x.block < W.heap.size := by obtain ⟨m, hm⟩ := k0; exact DataW.trod_lt m _ _ _ hm
  obtain ⟨f0, hf0⟩ := h0
  obtain ⟨A0, c0, l0, e0, hl0, hm0, hk0, s0⟩ := open_store hf0 (fun n hn => by simpa using List.all_eq_true.1 hsz n (DataW.weights_mem_each (j := 0) (t := 24) rfl rfl n hn))
  obtain rfl : g0 = #[.slice A0 l0.length c0] := by apply Array.ext'; simpa [Value.cells] using e0
  clear gs0
  obtain ⟨x1, rfl, rfl, rfl, wf1⟩ := open_int Try.underlying3 (hval 1 3 v1 rfl rfl) h1
  have bd1 := bounds_i64 wf1
  obtain ⟨x2, rfl, rfl, rfl, wf2⟩ := open_int Try.underlying3 (hval 2 3 v2 rfl rfl) h2
  have bd2 := bounds_i64 wf2
  clear hA0 hval0
  refine (law4_any W A0 c0 l0 x1 x2 s0 (by omega)).mono fun e W' ⟨he, bel⟩ => ?_
  subst he
  exact ⟨_, rfl, _, _, _, [], _, [], hW', trodAll_mk1 (shut_bool Try.underlying4 _), (trodAll_cons_mk (Below.trod laidOut (by kernel_rfl) (of_decide_eq_true (by kernel_rfl)) k0 bel lt0) (trodAll_cons_mk (shut_int Try.underlying3 wf1) (trodAll_cons_mk (shut_int Try.underlying3 wf2) trodAll_mk0))), rfl, bel.frame _, fun h => by cases h⟩

theorem named_ : Try.pinned.checked.prog.funcNamed Rows.packDetectsChangeRow.func = some 4 := by kernel_rfl
theorem inPlace_ : (Rows.packDetectsChangeRow.inPlace == Try.pinned.checked.prog.inPlace 4) = true := by kernel_rfl
theorem unfollowed_ : (Rows.packDetectsChangeRow.unfollowed == Try.pinned.checked.prog.unfollowed 4) = true := by kernel_rfl
theorem recurses_ : (Rows.packDetectsChangeRow.recurses == Try.pinned.checked.prog.recurses 4) = true := by kernel_rfl
theorem varsNamed_ : (Rows.packDetectsChangeRow.named == Try.pinned.checked.prog.varsNamed 4) = true := by kernel_rfl
theorem closed_ : joinedFacts Try.pinned.checked.prog 4 Try.f4 Rows.packDetectsChangeSpec Rows.packDetectsChangeRow = true := by
  unfold joinedFacts
  rw [inPlace_, unfollowed_, recurses_, varsNamed_]
  kernel_rfl
theorem inst_ : Try.f4.isInstance Try.pinned.checked.prog Rows.packDetectsChangeRow.origin Rows.packDetectsChangeRow.targs := of_decide_eq_true (by kernel_rfl)
theorem wrap_ : Try.f4.isWrapper Try.pinned.checked.prog Rows.packDetectsChangeRow.wrapper Rows.packDetectsChangeRow.mainSum := by
  unfold Func.isWrapper; first | (rw [if_pos (by decide +kernel)]; kernel_rfl) | (rw [if_neg (by decide +kernel)]; exact ⟨rfl, rfl⟩)
theorem over : Rows.packDetectsChangeRow.holds Try.pinned (OpenSpec.ofChange Rows.packDetectsChangeSpec) :=
  OpenClaim.holds_of_wide 4 Try.f4 rfl rfl rfl rfl rfl rfl rfl ⟨rfl, rfl, rfl, rfl, rfl⟩ rfl rfl rfl rfl rfl named_ Try.func4 closed_ inst_ wrap_
    (fun os started H enc _ => lifted os started H enc)

/-- The statement. -/
theorem proved : Rows.PackDetectsChangeSaid := over
#print axioms proved
end Go.Proofs.Ytiilhnfdlpgllaa.packDetDone
