/-
  TopTreeEditsAreTextEdits: for every input the law returns true, and each argument reads afterwards as it read before. The listed package-level variables hold what the program's text lays; the card ties them.
-/
import Derived.Test.YtjfckjonfpkphaaDoorCards
import Derived.Test.YtjfckjonfpkphaaDoorTie
import Derived.Test.YtjfckjonfpkphaaDoorTqOpen
import Derived.Test.YtjfckjonfpkphaaDoorTqOpen
import Derived.ShutString
import Derived.ProofKit
import Derived.OpenShut
import Derived.SizedLaws
import Derived.ChangeOld
import Derived.Below
import Derived.SevenTiedAt
import Derived.Stop.Joined
namespace Go.Proofs.YtjfckjonfpkphaaDoor.topEditsDone
open Go.ChangeShapes Go.WideShapes Go.ChangeAt Go.RowKit Go.V
open Go.ChangeMaps (open_string shut_string)
set_option linter.unusedVariables false

theorem own : ownKnob Tryd.prog.godebug = none := by kernel_rfl
theorem laidOut : laidOutB Tryd.prog = true := by kernel_rfl
theorem shaped (os : Os) : ((World.laidAll Tryd.prog os Rows.topTreeEditsAreTextEditsRow.laid).forCall (fun _ _ => 0) ⟨#[], #[.agg #[.slice none 0 0], .int .i64 0, .agg #[.slice none 0 0]], []⟩).Shaped Tryd.prog := World.shaped_of_ZipB (by kernel_rfl) (by kernel_rfl)
theorem laidMet_ (os : Os) : laidMetH Tryd.prog Rows.topTreeEditsAreTextEditsRow.laid ((World.laidAll Tryd.prog os Rows.topTreeEditsAreTextEditsRow.laid).forCall (fun _ _ => 0) ⟨#[], #[.agg #[.slice none 0 0], .int .i64 0, .agg #[.slice none 0 0]], []⟩).memory := by
  rw [MakeChecks.laidMetH_plain _ _ _ (by kernel_rfl)]; exact laidMet_laidAll _ (by kernel_rfl) (by kernel_rfl)
theorem reads (os : Os) {H : Type} (enc : TypeId × Value → H) : ∃ places, DataW.whole enc Tryd.prog ((World.laidAll Tryd.prog os Rows.topTreeEditsAreTextEditsRow.laid).forCall (fun _ _ => 0) ⟨#[], #[.agg #[.slice none 0 0], .int .i64 0, .agg #[.slice none 0 0]], []⟩).memory Tryd.f3.params.toList Rows.topTreeEditsAreTextEditsSpec.vars false #[.agg #[.slice none 0 0], .int .i64 0, .agg #[.slice none 0 0]].toList 8 = some ([.agg [.nil], .lit (.int .i64 0), .agg [.nil]], [], places) :=
  ⟨[], by kernel_rfl⟩

set_option maxRecDepth 100000 in
theorem lifted (os : Os) (started : os.Started) (H : Type) (enc : TypeId × Value → H) (F : Stop.Interp) :
    ReturnsInHanded {} Tryd.checked os 3 .any ((OpenSpec.ofChange Rows.topTreeEditsAreTextEditsSpec).preRow enc Tryd.prog Tryd.f3 Rows.topTreeEditsAreTextEditsRow.domain false Rows.topTreeEditsAreTextEditsRow.laid) (((OpenSpec.ofChange Rows.topTreeEditsAreTextEditsSpec).at F).post enc Tryd.prog Tryd.f3 false true false false) := by
  obtain ⟨places, hx⟩ := reads os enc
  refine returnsInHanded_of_row (C := Tryd.checked) (s := (OpenSpec.ofChange Rows.topTreeEditsAreTextEditsSpec)) own started (by kernel_rfl) Tryd.func3
    (witness_laid (enc := enc) (C := Tryd.checked) (World.laidAll Tryd.prog os Rows.topTreeEditsAreTextEditsRow.laid) #[.agg #[.slice none 0 0], .int .i64 0, .agg #[.slice none 0 0]] (World.laidAll_os _ _ _) (shaped os) (by kernel_rfl)
      (OpenSpec.preRow_of_cond 8 hx (by kernel_rfl) (fun k hk => by cases hk) (by kernel_rfl) (laidMet_ os))) ?_
  intro W base args ds gs before hval0 hW _ hcond hsz _ hsh _
  have hm := mx_of hsh
  have hval : ∀ (j : Nat) t v, Tryd.f3.params[j]? = some t → args[j]? = some v → Value.okWide Tryd.prog W .any base t v := hval0
  have hW' := hW
  obtain ⟨p, q, hA0, hV, rfl, hfz, hnd⟩ := hW
  have hA : DataW.TrodAll enc Tryd.prog W 0 (fun _ => true) true Tryd.f3.params.toList args.toList ds p := hA0
  rw [Tryd.params3] at hA hval hsz
  obtain ⟨v0, vs0, d0, ds0, p0, q0, hargs, rfl, rfl, h0, r0⟩ := trodAll_cons hA
  obtain ⟨v1, vs1, d1, ds1, p1, q1, rfl, rfl, rfl, h1, r1⟩ := trodAll_cons r0
  obtain ⟨v2, vs2, d2, ds2, p2, q2, rfl, rfl, rfl, h2, r2⟩ := trodAll_cons r1
  obtain ⟨rfl, rfl, rfl⟩ := trodAll_nil r2
  obtain rfl : args = #[v0, v1, v2] := by cases args; simp_all
  obtain ⟨rfl, rfl⟩ := trodVars_none hV
  obtain ⟨g0, rfl, gs0⟩ := okWide_struct Tryd.underlying24 (hval 0 24 v0 rfl rfl)
  have k0 := h0
  have lt0 : ∀ x ∈ p0, x.block < W.heap.size := by obtain ⟨m, hm⟩ := k0; exact DataW.trod_lt m _ _ _ hm
  obtain ⟨f0, hf0⟩ := h0
  obtain ⟨A0, c0, l0, e0, hl0, hm0, hb0, s0, w0⟩ := open_tree hf0 (fun n hn => by simpa using List.all_eq_true.1 hsz n (DataW.weights_mem_each (j := 0) (t := 24) rfl rfl n hn))
  obtain rfl : g0 = #[.slice A0 l0.length c0] := by apply Array.ext'; simpa [Value.cells] using e0
  clear gs0
  obtain ⟨x1, rfl, rfl, rfl, wf1⟩ := open_int Tryd.underlying3 (hval 1 3 v1 rfl rfl) h1
  have bd1 := bounds_i64 wf1
  obtain ⟨g2, rfl, gs2⟩ := okWide_struct Tryd.underlying27 (hval 2 27 v2 rfl rfl)
  have k2 := h2
  have lt2 : ∀ x ∈ p2, x.block < W.heap.size := by obtain ⟨m, hm⟩ := k2; exact DataW.trod_lt m _ _ _ hm
  obtain ⟨f2, hf2⟩ := h2
  obtain ⟨A2, c2, l2, e2, hl2, hm2, hb2, s2, w2⟩ := open_patch hf2 (fun n hn => by simpa using List.all_eq_true.1 hsz n (DataW.weights_mem_each (j := 2) (t := 27) rfl rfl n hn))
  obtain rfl : g2 = #[.slice A2 l2.length c2] := by apply Array.ext'; simpa [Value.cells] using e2
  clear gs2
  clear hA0 hval0
  refine (law_any W hm A0 c0 l0 s0 (by omega) hl0 x1 A2 c2 l2 s2 (by omega) hl2).mono fun e W' ⟨he, bel⟩ => ?_
  subst he
  exact ⟨_, rfl, _, _, _, [], _, [], hW', trodAll_mk1 (shut_bool Tryd.underlying4 _), (trodAll_cons_mk (Below.trod laidOut (by kernel_rfl) (of_decide_eq_true (by kernel_rfl)) k0 bel lt0) (trodAll_cons_mk (shut_int Tryd.underlying3 wf1) (trodAll_cons_mk (Below.trod laidOut (by kernel_rfl) (of_decide_eq_true (by kernel_rfl)) k2 bel lt2) trodAll_mk0))), rfl, bel.frame _, fun h => by cases h⟩

theorem named_ : Tryd.pinned.checked.prog.funcNamed Rows.topTreeEditsAreTextEditsRow.func = some 3 := by kernel_rfl
theorem inPlace_ : (Rows.topTreeEditsAreTextEditsRow.inPlace == Tryd.pinned.checked.prog.inPlace 3) = true := by kernel_rfl
theorem unfollowed_ : (Rows.topTreeEditsAreTextEditsRow.unfollowed == Tryd.pinned.checked.prog.unfollowed 3) = true := by kernel_rfl
theorem recurses_ : (Rows.topTreeEditsAreTextEditsRow.recurses == Tryd.pinned.checked.prog.recurses 3) = true := by kernel_rfl
theorem varsNamed_ : (Rows.topTreeEditsAreTextEditsRow.named == Tryd.pinned.checked.prog.varsNamed 3) = true := by kernel_rfl
theorem closed_ : joinedFacts Tryd.pinned.checked.prog 3 Tryd.f3 Rows.topTreeEditsAreTextEditsSpec Rows.topTreeEditsAreTextEditsRow = true := by
  unfold joinedFacts
  rw [inPlace_, unfollowed_, recurses_, varsNamed_]
  kernel_rfl
theorem inst_ : Tryd.f3.isInstance Tryd.pinned.checked.prog Rows.topTreeEditsAreTextEditsRow.origin Rows.topTreeEditsAreTextEditsRow.targs := of_decide_eq_true (by kernel_rfl)
theorem wrap_ : Tryd.f3.isWrapper Tryd.pinned.checked.prog Rows.topTreeEditsAreTextEditsRow.wrapper Rows.topTreeEditsAreTextEditsRow.mainSum := by
  unfold Func.isWrapper; first | (rw [if_pos (by decide +kernel)]; kernel_rfl) | (rw [if_neg (by decide +kernel)]; exact ⟨rfl, rfl⟩)
theorem over : Rows.TopTreeEditsAreTextEditsSaid :=
  OpenClaim.holds_of_cond 3 Tryd.f3 rfl rfl rfl rfl rfl rfl rfl ⟨rfl, rfl, rfl, rfl, rfl⟩ rfl rfl rfl rfl rfl named_ Tryd.func3 closed_ inst_ wrap_
    (fun os started H enc _ F => by rw [OpenClaim.pre_eq_preRow]; exact lifted os started H enc F)
theorem plain (f : FuncId) (fn : Func) (hf : Tryd.pinned.checked.prog.funcNamed Rows.topTreeEditsAreTextEditsRow.func = some f) (hfn : Tryd.pinned.checked.prog.funcs[f]? = some fn) :
    false = Tryd.pinned.checked.prog.looks [] ∧ ∀ (j : Nat) t, fn.params[j]? = some t → Tryd.pinned.checked.prog.wantsStandIn t = false := by
  obtain rfl : f = 3 := Option.some.inj (named_.symm.trans hf) |>.symm
  obtain rfl : fn = Tryd.f3 := (Option.some.inj (Tryd.func3.symm.trans hfn)).symm
  refine ⟨by kernel_rfl, fun j t ht => ?_⟩
  rw [Tryd.params3] at ht
  have hm : t ∈ [3, 24, 27] := by
    have := Array.mem_of_getElem? ht
    simp at this
    simp; first | exact this | (rcases this with h | h <;> simp [h]) | (rcases this with h | h | h <;> simp [h]) | (rcases this with h | h | h | h <;> simp [h])
  have hall : ([3, 24, 27].all fun u => !Tryd.prog.wantsStandIn u) = true := by kernel_rfl
  exact (show Tryd.prog.wantsStandIn t = false by simpa using List.all_eq_true.1 hall t hm)

/-- The statement. -/
theorem proved : Rows.TopTreeEditsAreTextEditsCardSaid :=
  Claim7.holds_tied_plain_at .later [] _ _ _ _ over (fun _ h => by cases h) (by kernel_rfl) (fun _ h => by cases h) topTreeEditsAreTextEdits_row_tie rfl ⟨rfl, rfl⟩ (by kernel_rfl) rfl plain (by kernel_rfl)
#print axioms proved
end Go.Proofs.YtjfckjonfpkphaaDoor.topEditsDone
