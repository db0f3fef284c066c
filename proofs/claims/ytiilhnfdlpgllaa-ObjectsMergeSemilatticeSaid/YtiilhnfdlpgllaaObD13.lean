/-
  ObjectsMergeSemilattice: for every input the law returns true, and each argument reads afterwards as it read before. No condition.
-/
import Derived.Test.YtiilhnfdlpgllaaRows
import Derived.Test.YtiilhnfdlpgllaaOb18
import Derived.Test.YtiilhnfdlpgllaaPkOpen
import Derived.ShutString
import Derived.ProofKit
import Derived.OpenShut
import Derived.SizedLaws
import Derived.ChangeOld
import Derived.Below
namespace Go.Proofs.Ytiilhnfdlpgllaa.objSemiDone
open Go.ChangeShapes Go.WideShapes Go.ChangeAt Go.RowKit Go.V
open Go.ChangeMaps (open_string shut_string)
set_option linter.unusedVariables false

theorem own : ownKnob Try.prog.godebug = none := by kernel_rfl
theorem laidOut : laidOutB Try.prog = true := by kernel_rfl

set_option maxRecDepth 100000 in
theorem lifted (os : Os) (started : os.Started) (H : Type) (enc : TypeId × Value → H) :
    ReturnsInHanded {} Try.checked os 13 .any (Rows.objectsMergeSemilatticeSpec.pre6 enc Try.prog Try.f13 Rows.objectsMergeSemilatticeRow.domain false) (Rows.objectsMergeSemilatticeSpec.post enc Try.prog Try.f13 false true false false) := by
  refine returnsInHanded_of_change_sized (C := Try.checked) own started (by kernel_rfl) Try.func13
    (ChangeSpec.witness6 (enc := enc) (C := Try.checked) false ⟨#[], #[.agg #[.slice none 0 0], .agg #[.slice none 0 0], .agg #[.slice none 0 0]], []⟩ 8 (by kernel_rfl) (by kernel_rfl) (by kernel_rfl) (by kernel_rfl)) ?_
  intro W base args ds gs before hval0 hW hcnd hsz0 _
  have hval : ∀ (j : Nat) t v, Try.f13.params[j]? = some t → args[j]? = some v → Value.okWide Try.prog W .any base t v := hval0
  have hW' := hW
  obtain ⟨p, q, hA0, hV, rfl, hfz, hnd⟩ := hW
  have hA : DataW.TrodAll enc Try.prog W 0 (fun _ => true) true Try.f13.params.toList args.toList ds p := hA0
  have hsz : (DataW.weightsEach Try.prog (Try.f13.params.toList ++ Rows.objectsMergeSemilatticeSpec.plain.varTypes Try.prog) (ds ++ gs)).all (· ≤ reachBytes) = true := hsz0
  rw [Try.params13] at hA hval hsz
  obtain ⟨v0, vs0, d0, ds0, p0, q0, hargs, rfl, rfl, h0, r0⟩ := trodAll_cons hA
  obtain ⟨v1, vs1, d1, ds1, p1, q1, rfl, rfl, rfl, h1, r1⟩ := trodAll_cons r0
  obtain ⟨v2, vs2, d2, ds2, p2, q2, rfl, rfl, rfl, h2, r2⟩ := trodAll_cons r1
  obtain ⟨rfl, rfl, rfl⟩ := trodAll_nil r2
  obtain rfl : args = #[v0, v1, v2] := by cases args; simp_all
  obtain ⟨rfl, rfl⟩ := trodVars_none hV
  obtain ⟨g0, rfl, gs0⟩ := okWide_struct Try.underlying24 (hval 0 24 v0 rfl rfl)
  have k0 := h0
  have lt0 : ∀ x ∈ p0, x.block < W.heap.size := by obtain ⟨m, hm⟩ := k0; exact DataW.trod_lt m _ _ _ hm
  obtain ⟨f0, hf0⟩ := h0
  obtain ⟨A0, c0, l0, e0, hl0, hm0, hk0, s0⟩ := open_store hf0 (fun n hn => by simpa using List.all_eq_true.1 hsz n (DataW.weights_mem_each (j := 0) (t := 24) rfl rfl n hn))
  obtain rfl : g0 = #[.slice A0 l0.length c0] := by apply Array.ext'; simpa [Value.cells] using e0
  clear gs0
  obtain ⟨g1, rfl, gs1⟩ := okWide_struct Try.underlying24 (hval 1 24 v1 rfl rfl)
  have k1 := h1
  have lt1 : ∀ x ∈ p1, x.block < W.heap.size := by obtain ⟨m, hm⟩ := k1; exact DataW.trod_lt m _ _ _ hm
  obtain ⟨f1, hf1⟩ := h1
  obtain ⟨A1, c1, l1, e1, hl1, hm1, hk1, s1⟩ := open_store hf1 (fun n hn => by simpa using List.all_eq_true.1 hsz n (DataW.weights_mem_each (j := 1) (t := 24) rfl rfl n hn))
  obtain rfl : g1 = #[.slice A1 l1.length c1] := by apply Array.ext'; simpa [Value.cells] using e1
  clear gs1
  obtain ⟨g2, rfl, gs2⟩ := okWide_struct Try.underlying24 (hval 2 24 v2 rfl rfl)
  have k2 := h2
  have lt2 : ∀ x ∈ p2, x.block < W.heap.size := by obtain ⟨m, hm⟩ := k2; exact DataW.trod_lt m _ _ _ hm
  obtain ⟨f2, hf2⟩ := h2
  obtain ⟨A2, c2, l2, e2, hl2, hm2, hk2, s2⟩ := open_store hf2 (fun n hn => by simpa using List.all_eq_true.1 hsz n (DataW.weights_mem_each (j := 2) (t := 24) rfl rfl n hn))
  obtain rfl : g2 = #[.slice A2 l2.length c2] := by apply Array.ext'; simpa [Value.cells] using e2
  clear gs2
  clear hA0 hval0
  refine (law13_any W A0 c0 l0 A1 c1 l1 A2 c2 l2 s0 (by omega) s1 (by omega) s2 (by omega)).mono fun e W' ⟨he, bel⟩ => ?_
  subst he
  exact ⟨_, rfl, _, _, _, [], _, [], hW', trodAll_mk1 (shut_bool Try.underlying4 _), (trodAll_cons_mk (Below.trod laidOut (by kernel_rfl) (of_decide_eq_true (by kernel_rfl)) k0 bel lt0) (trodAll_cons_mk (Below.trod laidOut (by kernel_rfl) (of_decide_eq_true (by kernel_rfl)) k1 bel lt1) (trodAll_cons_mk (Below.trod laidOut (by kernel_rfl) (of_decide_eq_true (by kernel_rfl)) k2 bel lt2) trodAll_mk0))), rfl, bel.frame _, fun h => by cases h⟩

theorem named_ : Try.pinned.checked.prog.funcNamed Rows.objectsMergeSemilatticeRow.func = some 13 := by kernel_rfl
theorem inPlace_ : (Rows.objectsMergeSemilatticeRow.inPlace == Try.pinned.checked.prog.inPlace 13) = true := by kernel_rfl
theorem unfollowed_ : (Rows.objectsMergeSemilatticeRow.unfollowed == Try.pinned.checked.prog.unfollowed 13) = true := by kernel_rfl
theorem recurses_ : (Rows.objectsMergeSemilatticeRow.recurses == Try.pinned.checked.prog.recurses 13) = true := by kernel_rfl
theorem varsNamed_ : (Rows.objectsMergeSemilatticeRow.named == Try.pinned.checked.prog.varsNamed 13) = true := by kernel_rfl
theorem closed_ : joinedFacts Try.pinned.checked.prog 13 Try.f13 Rows.objectsMergeSemilatticeSpec Rows.objectsMergeSemilatticeRow = true := by
  unfold joinedFacts
  rw [inPlace_, unfollowed_, recurses_, varsNamed_]
  kernel_rfl
theorem inst_ : Try.f13.isInstance Try.pinned.checked.prog Rows.objectsMergeSemilatticeRow.origin Rows.objectsMergeSemilatticeRow.targs := of_decide_eq_true (by kernel_rfl)
theorem wrap_ : Try.f13.isWrapper Try.pinned.checked.prog Rows.objectsMergeSemilatticeRow.wrapper Rows.objectsMergeSemilatticeRow.mainSum := by
  unfold Func.isWrapper; first | (rw [if_pos (by decide +kernel)]; kernel_rfl) | (rw [if_neg (by decide +kernel)]; exact ⟨rfl, rfl⟩)
theorem over : Rows.objectsMergeSemilatticeRow.holds Try.pinned (OpenSpec.ofChange Rows.objectsMergeSemilatticeSpec) :=
  OpenClaim.holds_of_wide 13 Try.f13 rfl rfl rfl rfl rfl rfl rfl ⟨rfl, rfl, rfl, rfl, rfl⟩ rfl rfl rfl rfl rfl named_ Try.func13 closed_ inst_ wrap_
    (fun os started H enc _ => lifted os started H enc)

/-- The statement. -/
theorem proved : Rows.ObjectsMergeSemilatticeSaid := over
#print axioms proved
end Go.Proofs.Ytiilhnfdlpgllaa.objSemiDone
