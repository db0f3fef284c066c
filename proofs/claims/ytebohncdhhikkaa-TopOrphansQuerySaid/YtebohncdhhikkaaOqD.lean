/-
  TopOrphansQuery: for every input the law returns true, and each argument reads afterwards as it read before. No condition.
-/
import Derived.Test.YtebohncdhhikkaaRows
import Derived.Test.YtebohncdhhikkaaOqOpen
import Derived.ShutString
import Derived.ProofKit
import Derived.OpenShut
import Derived.SizedLaws
import Derived.ChangeOld
import Derived.Below
namespace Go.Proofs.Ytebohncdhhikkaa.topOrphansDone
open Go.ChangeShapes Go.WideShapes Go.ChangeAt Go.RowKit Go.V
open Go.ChangeMaps (open_string shut_string)
set_option linter.unusedVariables false

theorem own : ownKnob Try.prog.godebug = none := by kernel_rfl
theorem laidOut : laidOutB Try.prog = true := by kernel_rfl

set_option maxRecDepth 100000 in
theorem lifted (os : Os) (started : os.Started) (H : Type) (enc : TypeId × Value → H) :
    ReturnsInHanded {} Try.checked os 3 .any (Rows.topOrphansQuerySpec.pre6 enc Try.prog Try.f3 Rows.topOrphansQueryRow.domain false) (Rows.topOrphansQuerySpec.post enc Try.prog Try.f3 false true false false) := by
  refine returnsInHanded_of_change_sized (C := Try.checked) own started (by kernel_rfl) Try.func3
    (ChangeSpec.witness6 (enc := enc) (C := Try.checked) false ⟨#[], #[.slice none 0 0, .slice none 0 0], []⟩ 8 (by kernel_rfl) (by kernel_rfl) (by kernel_rfl) (by kernel_rfl)) ?_
  intro W base args ds gs before hval0 hW hcnd hsz0 _
  have hval : ∀ (j : Nat) t v, Try.f3.params[j]? = some t → args[j]? = some v → Value.okWide Try.prog W .any base t v := hval0
  have hW' := hW
  obtain ⟨p, q, hA0, hV, rfl, hfz, hnd⟩ := hW
  have hA : DataW.TrodAll enc Try.prog W 0 (fun _ => true) true Try.f3.params.toList args.toList ds p := hA0
  have hsz : (DataW.weightsEach Try.prog (Try.f3.params.toList ++ Rows.topOrphansQuerySpec.plain.varTypes Try.prog) (ds ++ gs)).all (· ≤ reachBytes) = true := hsz0
  rw [Try.params3] at hA hval hsz
  obtain ⟨v0, vs0, d0, ds0, p0, q0, hargs, rfl, rfl, h0, r0⟩ := trodAll_cons hA
  obtain ⟨v1, vs1, d1, ds1, p1, q1, rfl, rfl, rfl, h1, r1⟩ := trodAll_cons r0
  obtain ⟨rfl, rfl, rfl⟩ := trodAll_nil r1
  obtain rfl : args = #[v0, v1] := by cases args; simp_all
  obtain ⟨rfl, rfl⟩ := trodVars_none hV
  obtain ⟨a0, len0, cap0, rfl⟩ := okWide_slice Try.underlying22 (hval 0 22 v0 rfl rfl)
  have k0 := h0
  have lt0 : ∀ x ∈ p0, x.block < W.heap.size := by obtain ⟨m, hm⟩ := k0; exact DataW.trod_lt m _ _ _ hm
  obtain ⟨f0, hf0⟩ := h0
  obtain ⟨A0, c0, l0, e0, hl0, hm0, s0⟩ := open_markers hf0 (fun n hn => by simpa using List.all_eq_true.1 hsz n (DataW.weights_mem_each (j := 0) (t := 22) rfl rfl n hn))
  simp [Value.cells] at e0
  obtain ⟨rfl, rfl, rfl⟩ := e0
  unfold maxLen at hm0
  obtain ⟨a1, len1, cap1, rfl⟩ := okWide_slice Try.underlying23 (hval 1 23 v1 rfl rfl)
  have k1 := h1
  have lt1 : ∀ x ∈ p1, x.block < W.heap.size := by obtain ⟨m, hm⟩ := k1; exact DataW.trod_lt m _ _ _ hm
  obtain ⟨f1, hf1⟩ := h1
  obtain ⟨A1, c1, l1, e1, hl1, hm1, s1⟩ := open_commits hf1 (fun n hn => by simpa using List.all_eq_true.1 hsz n (DataW.weights_mem_each (j := 1) (t := 23) rfl rfl n hn))
  simp [Value.cells] at e1
  obtain ⟨rfl, rfl, rfl⟩ := e1
  unfold maxLen at hm1
  clear hA0 hval0
  refine (law_any W a0 cap0 l0 s0 (by omega) a1 cap1 l1 s1 (by omega)).mono fun e W' ⟨he, bel⟩ => ?_
  subst he
  exact ⟨_, rfl, _, _, _, [], _, [], hW', trodAll_mk1 (shut_bool Try.underlying4 _), (trodAll_cons_mk (Below.trod laidOut (by kernel_rfl) (of_decide_eq_true (by kernel_rfl)) k0 bel lt0) (trodAll_cons_mk (Below.trod laidOut (by kernel_rfl) (of_decide_eq_true (by kernel_rfl)) k1 bel lt1) trodAll_mk0)), rfl, bel.frame _, fun h => by cases h⟩

theorem named_ : Try.pinned.checked.prog.funcNamed Rows.topOrphansQueryRow.func = some 3 := by kernel_rfl
theorem inPlace_ : (Rows.topOrphansQueryRow.inPlace == Try.pinned.checked.prog.inPlace 3) = true := by kernel_rfl
theorem unfollowed_ : (Rows.topOrphansQueryRow.unfollowed == Try.pinned.checked.prog.unfollowed 3) = true := by kernel_rfl
theorem recurses_ : (Rows.topOrphansQueryRow.recurses == Try.pinned.checked.prog.recurses 3) = true := by kernel_rfl
theorem varsNamed_ : (Rows.topOrphansQueryRow.named == Try.pinned.checked.prog.varsNamed 3) = true := by kernel_rfl
theorem closed_ : joinedFacts Try.pinned.checked.prog 3 Try.f3 Rows.topOrphansQuerySpec Rows.topOrphansQueryRow = true := by
  unfold joinedFacts
  rw [inPlace_, unfollowed_, recurses_, varsNamed_]
  kernel_rfl
theorem inst_ : Try.f3.isInstance Try.pinned.checked.prog Rows.topOrphansQueryRow.origin Rows.topOrphansQueryRow.targs := of_decide_eq_true (by kernel_rfl)
theorem wrap_ : Try.f3.isWrapper Try.pinned.checked.prog Rows.topOrphansQueryRow.wrapper Rows.topOrphansQueryRow.mainSum := by
  unfold Func.isWrapper; first | (rw [if_pos (by decide +kernel)]; kernel_rfl) | (rw [if_neg (by decide +kernel)]; exact ⟨rfl, rfl⟩)
theorem over : Rows.topOrphansQueryRow.holds Try.pinned (OpenSpec.ofChange Rows.topOrphansQuerySpec) :=
  OpenClaim.holds_of_wide 3 Try.f3 rfl rfl rfl rfl rfl rfl rfl ⟨rfl, rfl, rfl, rfl, rfl⟩ rfl rfl rfl rfl rfl named_ Try.func3 closed_ inst_ wrap_
    (fun os started H enc _ => lifted os started H enc)

/-- The statement. -/
theorem proved : Rows.TopOrphansQuerySaid := over
#print axioms proved
end Go.Proofs.Ytebohncdhhikkaa.topOrphansDone
