/-
  BisectFindsFirstBad: for every input the law returns true, and each argument reads afterwards as it read before. No condition.
-/
import Derived.Test.YtoohmkdgimkgoaaRows
import Derived.Test.YtoohmkdgimkgoaaL16
import Derived.Test.YtoohmkdgimkgoaaHOpen
import Derived.Test.YtoohmkdgimkgoaaHOpen2
import Derived.ShutString
import Derived.ProofKit
import Derived.OpenShut
import Derived.SizedLaws
import Derived.ChangeOld
import Derived.Below
namespace Go.Proofs.Ytoohmkdgimkgoaa.firstLawDone
open Go.ChangeShapes Go.WideShapes Go.ChangeAt Go.RowKit Go.V
open Go.ChangeMaps (open_string shut_string)
set_option linter.unusedVariables false

theorem own : ownKnob Try.prog.godebug = none := by kernel_rfl
theorem laidOut : laidOutB Try.prog = true := by kernel_rfl
theorem cells3 : Try.prog.cellsOf 3 = 1 := by kernel_rfl

set_option maxRecDepth 100000 in
theorem lifted (os : Os) (started : os.Started) (H : Type) (enc : TypeId × Value → H) :
    ReturnsInHanded {} Try.checked os 16 .any (Rows.bisectFindsFirstBadSpec.pre6 enc Try.prog Try.f16 Rows.bisectFindsFirstBadRow.domain false) (Rows.bisectFindsFirstBadSpec.post enc Try.prog Try.f16 false true false false) := by
  refine returnsInHanded_of_change_sized (C := Try.checked) own started (by kernel_rfl) Try.func16
    (ChangeSpec.witness6 (enc := enc) (C := Try.checked) false ⟨#[], #[.slice none 0 0, .slice none 0 0, .int .i64 0, .slice none 0 0], []⟩ 8 (by kernel_rfl) (by kernel_rfl) (by kernel_rfl) (by kernel_rfl)) ?_
  intro W base args ds gs before hval0 hW hcnd hsz0 _
  have hval : ∀ (j : Nat) t v, Try.f16.params[j]? = some t → args[j]? = some v → Value.okWide Try.prog W .any base t v := hval0
  have hW' := hW
  obtain ⟨p, q, hA0, hV, rfl, hfz, hnd⟩ := hW
  have hA : DataW.TrodAll enc Try.prog W 0 (fun _ => true) true Try.f16.params.toList args.toList ds p := hA0
  have hsz : (DataW.weightsEach Try.prog (Try.f16.params.toList ++ Rows.bisectFindsFirstBadSpec.plain.varTypes Try.prog) (ds ++ gs)).all (· ≤ reachBytes) = true := hsz0
  rw [Try.params16] at hA hval hsz
  obtain ⟨v0, vs0, d0, ds0, p0, q0, hargs, rfl, rfl, h0, r0⟩ := trodAll_cons hA
  obtain ⟨v1, vs1, d1, ds1, p1, q1, rfl, rfl, rfl, h1, r1⟩ := trodAll_cons r0
  obtain ⟨v2, vs2, d2, ds2, p2, q2, rfl, rfl, rfl, h2, r2⟩ := trodAll_cons r1
  obtain ⟨v3, vs3, d3, ds3, p3, q3, rfl, rfl, rfl, h3, r3⟩ := trodAll_cons r2
  obtain ⟨rfl, rfl, rfl⟩ := trodAll_nil r3
  obtain rfl : args = #[v0, v1, v2, v3] := by cases args; simp_all
  obtain ⟨rfl, rfl⟩ := trodVars_none hV
  obtain ⟨a0, len0, cap0, rfl⟩ := okWide_slice Try.underlying22 (hval 0 22 v0 rfl rfl)
  have k0 := h0
  have lt0 : ∀ x ∈ p0, x.block < W.heap.size := by obtain ⟨m, hm⟩ := k0; exact DataW.trod_lt m _ _ _ hm
  obtain ⟨f0, hf0⟩ := h0
  obtain ⟨A0, c0, l0, e0, hl0, hm0, s0⟩ := open_commits hf0 (fun n hn => by simpa using List.all_eq_true.1 hsz n (DataW.weights_mem_each (j := 0) (t := 22) rfl rfl n hn))
  simp [Value.cells] at e0
  obtain ⟨rfl, rfl, rfl⟩ := e0
  unfold maxLen at hm0
  obtain ⟨a1, len1, cap1, rfl⟩ := okWide_slice Try.underlying37 (hval 1 37 v1 rfl rfl)
  have k1 := h1
  have lt1 : ∀ x ∈ p1, x.block < W.heap.size := by obtain ⟨m, hm⟩ := k1; exact DataW.trod_lt m _ _ _ hm
  obtain ⟨f1, hf1⟩ := h1
  obtain ⟨A1, c1, l1, e1, hl1, hm1, s1, w1⟩ := open_intl Try.underlying37 Try.underlying3 cells3 hf1
  have ln1 := ints_len hf1 (fun n hn => by simpa using List.all_eq_true.1 hsz n (DataW.weights_mem_each (j := 1) (t := 37) rfl rfl n hn))
  simp [Value.cells] at e1
  obtain ⟨rfl, rfl, rfl⟩ := e1
  unfold maxLen at hm1
  obtain ⟨x2, rfl, rfl, rfl, wf2⟩ := open_int Try.underlying3 (hval 2 3 v2 rfl rfl) h2
  have bd2 := bounds_i64 wf2
  obtain ⟨a3, len3, cap3, rfl⟩ := okWide_slice Try.underlying37 (hval 3 37 v3 rfl rfl)
  have k3 := h3
  have lt3 : ∀ x ∈ p3, x.block < W.heap.size := by obtain ⟨m, hm⟩ := k3; exact DataW.trod_lt m _ _ _ hm
  obtain ⟨f3, hf3⟩ := h3
  obtain ⟨A3, c3, l3, e3, hl3, hm3, s3, w3⟩ := open_intl Try.underlying37 Try.underlying3 cells3 hf3
  have ln3 := ints_len hf3 (fun n hn => by simpa using List.all_eq_true.1 hsz n (DataW.weights_mem_each (j := 3) (t := 37) rfl rfl n hn))
  simp [Value.cells] at e3
  obtain ⟨rfl, rfl, rfl⟩ := e3
  unfold maxLen at hm3
  clear hA0 hval0
  refine (law16_any W a0 a1 a3 cap0 cap1 cap3 l0 l1 x2 l3 s0 (by omega) s1 w1 (by omega) s3 w3 (by omega)).mono fun e W' ⟨he, bel⟩ => ?_
  subst he
  exact ⟨_, rfl, _, _, _, [], _, [], hW', trodAll_mk1 (shut_bool Try.underlying4 _), (trodAll_cons_mk (Below.trod laidOut (by kernel_rfl) (of_decide_eq_true (by kernel_rfl)) k0 bel lt0) (trodAll_cons_mk (Below.trod laidOut (by kernel_rfl) (of_decide_eq_true (by kernel_rfl)) k1 bel lt1) (trodAll_cons_mk (shut_int Try.underlying3 wf2) (trodAll_cons_mk (Below.trod laidOut (by kernel_rfl) (of_decide_eq_true (by kernel_rfl)) k3 bel lt3) trodAll_mk0)))), rfl, bel.frame _, fun h => by cases h⟩

theorem named_ : Try.pinned.checked.prog.funcNamed Rows.bisectFindsFirstBadRow.func = some 16 := by kernel_rfl
theorem inPlace_ : (Rows.bisectFindsFirstBadRow.inPlace == Try.pinned.checked.prog.inPlace 16) = true := by kernel_rfl
theorem unfollowed_ : (Rows.bisectFindsFirstBadRow.unfollowed == Try.pinned.checked.prog.unfollowed 16) = true := by kernel_rfl
theorem recurses_ : (Rows.bisectFindsFirstBadRow.recurses == Try.pinned.checked.prog.recurses 16) = true := by kernel_rfl
theorem varsNamed_ : (Rows.bisectFindsFirstBadRow.named == Try.pinned.checked.prog.varsNamed 16) = true := by kernel_rfl
theorem closed_ : joinedFacts Try.pinned.checked.prog 16 Try.f16 Rows.bisectFindsFirstBadSpec Rows.bisectFindsFirstBadRow = true := by
  unfold joinedFacts
  rw [inPlace_, unfollowed_, recurses_, varsNamed_]
  kernel_rfl
theorem inst_ : Try.f16.isInstance Try.pinned.checked.prog Rows.bisectFindsFirstBadRow.origin Rows.bisectFindsFirstBadRow.targs := of_decide_eq_true (by kernel_rfl)
theorem wrap_ : Try.f16.isWrapper Try.pinned.checked.prog Rows.bisectFindsFirstBadRow.wrapper Rows.bisectFindsFirstBadRow.mainSum := by
  unfold Func.isWrapper; first | (rw [if_pos (by decide +kernel)]; kernel_rfl) | (rw [if_neg (by decide +kernel)]; exact ⟨rfl, rfl⟩)
theorem over : Rows.bisectFindsFirstBadRow.holds Try.pinned (OpenSpec.ofChange Rows.bisectFindsFirstBadSpec) :=
  OpenClaim.holds_of_wide 16 Try.f16 rfl rfl rfl rfl rfl rfl rfl ⟨rfl, rfl, rfl, rfl, rfl⟩ rfl rfl rfl rfl rfl named_ Try.func16 closed_ inst_ wrap_
    (fun os started H enc _ => lifted os started H enc)

/-- The statement. -/
theorem proved : Rows.BisectFindsFirstBadSaid := over
#print axioms proved
end Go.Proofs.Ytoohmkdgimkgoaa.firstLawDone
