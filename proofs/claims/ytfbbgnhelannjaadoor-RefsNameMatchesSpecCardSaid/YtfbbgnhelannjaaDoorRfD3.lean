/-
  RefsNameMatchesSpec: for every input the law returns true, and each argument reads afterwards as it read before. The listed package-level variables hold what the program's text lays; the card ties them.
-/
import Derived.Test.YtfbbgnhelannjaaDoorCards
import Derived.Test.YtfbbgnhelannjaaDoorTie
import Derived.Test.YtfbbgnhelannjaaDoorRf18
import Derived.Test.YtfbbgnhelannjaaDoorRfOpen
import Derived.ShutString
import Derived.ProofKit
import Derived.OpenShut
import Derived.SizedLaws
import Derived.ChangeOld
import Derived.Below
import Derived.SevenTiedAt
import Derived.Stop.Joined
namespace Go.Proofs.YtfbbgnhelannjaaDoor.refsNameDone
open Go.ChangeShapes Go.WideShapes Go.ChangeAt Go.RowKit Go.V
open Go.ChangeMaps (open_string shut_string)
set_option linter.unusedVariables false

theorem own : ownKnob Tryd.prog.godebug = none := by kernel_rfl
theorem laidOut : laidOutB Tryd.prog = true := by kernel_rfl
theorem shaped (os : Os) : ((World.laidAll Tryd.prog os Rows.refsNameMatchesSpecRow.laid).forCall (fun _ _ => 0) ⟨#[], #[.string .empty], []⟩).Shaped Tryd.prog := World.shaped_of_ZipB (by kernel_rfl) (by kernel_rfl)
theorem laidMet_ (os : Os) : laidMetH Tryd.prog Rows.refsNameMatchesSpecRow.laid ((World.laidAll Tryd.prog os Rows.refsNameMatchesSpecRow.laid).forCall (fun _ _ => 0) ⟨#[], #[.string .empty], []⟩).memory := by
  rw [MakeChecks.laidMetH_plain _ _ _ (by kernel_rfl)]; exact laidMet_laidAll _ (by kernel_rfl) (by kernel_rfl)
theorem reads (os : Os) {H : Type} (enc : TypeId × Value → H) : ∃ places, DataW.whole enc Tryd.prog ((World.laidAll Tryd.prog os Rows.refsNameMatchesSpecRow.laid).forCall (fun _ _ => 0) ⟨#[], #[.string .empty], []⟩).memory Tryd.f3.params.toList Rows.refsNameMatchesSpecSpec.vars false #[.string .empty].toList 8 = some ([.lit (.string [])], [], places) :=
  ⟨[], by kernel_rfl⟩

set_option maxRecDepth 100000 in
theorem lifted (os : Os) (started : os.Started) (H : Type) (enc : TypeId × Value → H) (F : Stop.Interp) :
    ReturnsInHanded {} Tryd.checked os 3 .any ((OpenSpec.ofChange Rows.refsNameMatchesSpecSpec).preRow enc Tryd.prog Tryd.f3 Rows.refsNameMatchesSpecRow.domain false Rows.refsNameMatchesSpecRow.laid) (((OpenSpec.ofChange Rows.refsNameMatchesSpecSpec).at F).post enc Tryd.prog Tryd.f3 false true false false) := by
  obtain ⟨places, hx⟩ := reads os enc
  refine returnsInHanded_of_row (C := Tryd.checked) (s := (OpenSpec.ofChange Rows.refsNameMatchesSpecSpec)) own started (by kernel_rfl) Tryd.func3
    (witness_laid (enc := enc) (C := Tryd.checked) (World.laidAll Tryd.prog os Rows.refsNameMatchesSpecRow.laid) #[.string .empty] (World.laidAll_os _ _ _) (shaped os) (by kernel_rfl)
      (OpenSpec.preRow_of_cond 8 hx (by kernel_rfl) (fun k hk => by cases hk) (by kernel_rfl) (laidMet_ os))) ?_
  intro W base args ds gs before hval0 hW _ hcond hsz _ hsh _
  have hm := mx_of hsh
  have hval : ∀ (j : Nat) t v, Tryd.f3.params[j]? = some t → args[j]? = some v → Value.okWide Tryd.prog W .any base t v := hval0
  have hW' := hW
  obtain ⟨p, q, hA0, hV, rfl, hfz, hnd⟩ := hW
  have hA : DataW.TrodAll enc Tryd.prog W 0 (fun _ => true) true Tryd.f3.params.toList args.toList ds p := hA0
  rw [Tryd.params3] at hA hval hsz
  obtain ⟨v0, vs0, d0, ds0, p0, q0, hargs, rfl, rfl, h0, r0⟩ := trodAll_cons hA
  obtain ⟨rfl, rfl, rfl⟩ := trodAll_nil r0
  obtain rfl : args = #[v0] := by cases args; simp_all
  obtain ⟨rfl, rfl⟩ := trodVars_none hV
  obtain ⟨b0, rfl, rfl, rfl, ws0⟩ := open_string Tryd.underlying9 (hval 0 9 v0 rfl rfl) h0
  obtain ⟨l0, rfl⟩ := str_of b0
  have ln0 : l0.length ≤ reachBytes := sized_string hsz (j := 0) (t := 9) rfl rfl
  rw [reach_eq] at ln0
  clear hA0 hval0
  refine (law3_any W hm l0).mono fun e W' ⟨he, bel⟩ => ?_
  subst he
  exact ⟨_, rfl, _, _, _, [], _, [], hW', trodAll_mk1 (shut_bool Tryd.underlying4 _), (trodAll_cons_mk (shut_string Tryd.underlying9 ws0) trodAll_mk0), rfl, bel.frame _, fun h => by cases h⟩

theorem named_ : Tryd.pinned.checked.prog.funcNamed Rows.refsNameMatchesSpecRow.func = some 3 := by kernel_rfl
theorem inPlace_ : (Rows.refsNameMatchesSpecRow.inPlace == Tryd.pinned.checked.prog.inPlace 3) = true := by kernel_rfl
theorem unfollowed_ : (Rows.refsNameMatchesSpecRow.unfollowed == Tryd.pinned.checked.prog.unfollowed 3) = true := by kernel_rfl
theorem recurses_ : (Rows.refsNameMatchesSpecRow.recurses == Tryd.pinned.checked.prog.recurses 3) = true := by kernel_rfl
theorem varsNamed_ : (Rows.refsNameMatchesSpecRow.named == Tryd.pinned.checked.prog.varsNamed 3) = true := by kernel_rfl
theorem closed_ : joinedFacts Tryd.pinned.checked.prog 3 Tryd.f3 Rows.refsNameMatchesSpecSpec Rows.refsNameMatchesSpecRow = true := by
  unfold joinedFacts
  rw [inPlace_, unfollowed_, recurses_, varsNamed_]
  kernel_rfl
theorem inst_ : Tryd.f3.isInstance Tryd.pinned.checked.prog Rows.refsNameMatchesSpecRow.origin Rows.refsNameMatchesSpecRow.targs := of_decide_eq_true (by kernel_rfl)
theorem wrap_ : Tryd.f3.isWrapper Tryd.pinned.checked.prog Rows.refsNameMatchesSpecRow.wrapper Rows.refsNameMatchesSpecRow.mainSum := by
  unfold Func.isWrapper; first | (rw [if_pos (by decide +kernel)]; kernel_rfl) | (rw [if_neg (by decide +kernel)]; exact ⟨rfl, rfl⟩)
theorem over : Rows.RefsNameMatchesSpecSaid :=
  OpenClaim.holds_of_cond 3 Tryd.f3 rfl rfl rfl rfl rfl rfl rfl ⟨rfl, rfl, rfl, rfl, rfl⟩ rfl rfl rfl rfl rfl named_ Tryd.func3 closed_ inst_ wrap_
    (fun os started H enc _ F => by rw [OpenClaim.pre_eq_preRow]; exact lifted os started H enc F)
theorem plain (f : FuncId) (fn : Func) (hf : Tryd.pinned.checked.prog.funcNamed Rows.refsNameMatchesSpecRow.func = some f) (hfn : Tryd.pinned.checked.prog.funcs[f]? = some fn) :
    false = Tryd.pinned.checked.prog.looks [] ∧ ∀ (j : Nat) t, fn.params[j]? = some t → Tryd.pinned.checked.prog.wantsStandIn t = false := by
  obtain rfl : f = 3 := Option.some.inj (named_.symm.trans hf) |>.symm
  obtain rfl : fn = Tryd.f3 := (Option.some.inj (Tryd.func3.symm.trans hfn)).symm
  refine ⟨by kernel_rfl, fun j t ht => ?_⟩
  rw [Tryd.params3] at ht
  have hm : t ∈ [9] := by
    have := Array.mem_of_getElem? ht
    simp at this
    simp; omega
  have hall : ([9].all fun u => !Tryd.prog.wantsStandIn u) = true := by kernel_rfl
  exact (show Tryd.prog.wantsStandIn t = false by simpa using List.all_eq_true.1 hall t hm)

/-- The statement. -/
theorem proved : Rows.RefsNameMatchesSpecCardSaid :=
  Claim7.holds_tied_plain_at .later [] _ _ _ _ over (fun _ h => by cases h) (by kernel_rfl) (fun _ h => by cases h) refsNameMatchesSpec_row_tie rfl ⟨rfl, rfl⟩ (by kernel_rfl) rfl plain (by kernel_rfl)
#print axioms proved
end Go.Proofs.YtfbbgnhelannjaaDoor.refsNameDone
