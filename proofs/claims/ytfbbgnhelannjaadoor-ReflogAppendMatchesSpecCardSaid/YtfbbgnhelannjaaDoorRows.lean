/-
  NARROWER THAN 'FOR EVERY INPUT', by the rows' own cells (each row's printed sentence says how): RefsNameMatchesSpec: laid · RefsUpdateMatchesSpec: laid · RefsUpdateInverse: laid · RefsIndependentUpdatesCommute: laid · RefsBatchMatchesSpec: laid · RefsBatchSplits: laid · RefsGetMatchesSpec: laid · ReflogReplayMatchesSpec: laid · ReflogExpireKeepsStates: laid · ReflogNamesIndependent: laid · ReflogUndoRestores: laid · ReflogAppendMatchesSpec: laid.
  DERIVED. THE GIVEN ROWS OF THIS SEAT. 12 by the template 'for every input the law returns true; each argument reads behind the call as it read before'; 0 by the template 'total and deterministic' (their statements: YtfbbgnhelannjaaDoorTotals.lean).
  GIVEN WITH THE SEED: the statements are not yours to turn. If you find one false, say at which input.
  Laid BY PROGRAM, IN A SANDBOX (cutbox-rows.mjs): the forced cells as the released guide's own fill.sh prints them over the translation af4c2cf1b418a00d… (all of the seat's roots in one cut). By AI agents, Wed Nov 11 2026. No macro, syntax, notation, axiom, sorry.
-/
import Derived.Test.YtfbbgnhelannjaaDoorChecked
import GoSem.PinnedTables
import GoSem.Claim
import GoSem.ClaimJoined
import GoSem.ClaimMapViews
import Derived.JoinedTies
import Derived.KernelRfl
namespace Go.Proofs.YtfbbgnhelannjaaDoor
/- THE CELL 'sum', in the pinned program and in every row, IS THE sha256 OF THE DUMP (.gsa) THAT YtfbbgnhelannjaaDoorProg.lean LOADS. Nothing in Lean hashes anything: it is a label: what it is worth is what the hold of that sum in a sandbox is worth. -/
noncomputable def Tryd.pinned : Pinned := { name := "ytfbbgnhelannjaadoor", sum := "af4c2cf1b418a00df9ea8915c8f29fd4239b60be35d6e7e4d91681b19ae6911a", checked := Tryd.checked }
namespace Rows
def none {H : Type} : Left H := { results := [], args := [] }

/- WHAT THE LISTED PACKAGE-LEVEL VARIABLES READ AS WHEN THE CALL BEGINS. Each datum BY PROGRAM (the guide's laid-datum.mjs) off the statement by which the dump's own 'gosem.cut.vars' lays the variable. In a bare row this is a premise. The card (YtfbbgnhelannjaaDoorCards.lean) ties it to the program's text. -/
def laid_unicode_utf8_acceptRanges {H : Type} : DataW H := .agg [.agg [.lit (.int .u8 128), .lit (.int .u8 191)], .agg [.lit (.int .u8 160), .lit (.int .u8 191)], .agg [.lit (.int .u8 128), .lit (.int .u8 159)], .agg [.lit (.int .u8 144), .lit (.int .u8 191)], .agg [.lit (.int .u8 128), .lit (.int .u8 143)], .agg [.lit (.int .u8 0), .lit (.int .u8 0)], .agg [.lit (.int .u8 0), .lit (.int .u8 0)], .agg [.lit (.int .u8 0), .lit (.int .u8 0)], .agg [.lit (.int .u8 0), .lit (.int .u8 0)], .agg [.lit (.int .u8 0), .lit (.int .u8 0)], .agg [.lit (.int .u8 0), .lit (.int .u8 0)], .agg [.lit (.int .u8 0), .lit (.int .u8 0)], .agg [.lit (.int .u8 0), .lit (.int .u8 0)], .agg [.lit (.int .u8 0), .lit (.int .u8 0)], .agg [.lit (.int .u8 0), .lit (.int .u8 0)], .agg [.lit (.int .u8 0), .lit (.int .u8 0)]]
/-- One of Go's own tables, pinned by name: the form's constant. -/
def laid_unicode_utf8_first : DataW Unit := Go.Pinned.utf8First

/-- 'changeforgelaw3.RefsNameMatchesSpec': WHATEVER THE INPUT: true; the input reads as it did. -/
def refsNameMatchesSpecSpec : ChangeSpec := { name := "refsNameMatchesSpec", fn := fun _ => fun
  | [d] => { results := [.lit (.bool true)], args := [d] }
  | _ => none }
def refsNameMatchesSpecRow : OpenClaim := { program := "ytfbbgnhelannjaadoor", sum := "af4c2cf1b418a00df9ea8915c8f29fd4239b60be35d6e7e4d91681b19ae6911a", func := "changeforge/changeforgelaw3.RefsNameMatchesSpec", spec := "refsNameMatchesSpec", inPlace := ["internal/bytealg.IndexByteString", "internal/bytealg.IndexString", "internal/bytealg.abigen_runtime_cmpstring", "slices.overlaps[changeforge/api.Ref]"], unfollowed := true, recurses := true, named := ["unicode/utf8.first", "unicode/utf8.acceptRanges", "internal/bytealg.MaxLen"], apart := false, laid := [("unicode/utf8.acceptRanges", laid_unicode_utf8_acceptRanges), ("unicode/utf8.first", laid_unicode_utf8_first)] }
def RefsNameMatchesSpecSaid : Prop := refsNameMatchesSpecRow.holds Tryd.pinned (OpenSpec.ofChange refsNameMatchesSpecSpec)

/-- ITS FALSE NEIGHBOUR: 'it returns false'. Refute it at one input. -/
def refsNameMatchesSpecWrong : ChangeSpec := { name := "refsNameMatchesSpec", fn := fun _ => fun
  | [d] => { results := [.lit (.bool false)], args := [d] }
  | _ => none }
def RefsNameMatchesSpecWrongFalsely : Prop := refsNameMatchesSpecRow.holds Tryd.pinned (OpenSpec.ofChange refsNameMatchesSpecWrong)

/-- 'changeforgelaw3.RefsUpdateMatchesSpec': WHATEVER THE INPUT: true; the input reads as it did. -/
def refsUpdateMatchesSpecSpec : ChangeSpec := { name := "refsUpdateMatchesSpec", fn := fun _ => fun
  | [d1, d2] => { results := [.lit (.bool true)], args := [d1, d2] }
  | _ => none }
def refsUpdateMatchesSpecRow : OpenClaim := { program := "ytfbbgnhelannjaadoor", sum := "af4c2cf1b418a00df9ea8915c8f29fd4239b60be35d6e7e4d91681b19ae6911a", func := "changeforge/changeforgelaw3.RefsUpdateMatchesSpec", spec := "refsUpdateMatchesSpec", inPlace := ["internal/bytealg.IndexByteString", "internal/bytealg.IndexString", "internal/bytealg.abigen_runtime_cmpstring", "slices.overlaps[changeforge/api.Ref]"], unfollowed := true, recurses := true, named := ["unicode/utf8.first", "unicode/utf8.acceptRanges", "internal/bytealg.MaxLen"], apart := false, laid := [("unicode/utf8.acceptRanges", laid_unicode_utf8_acceptRanges), ("unicode/utf8.first", laid_unicode_utf8_first)] }
def RefsUpdateMatchesSpecSaid : Prop := refsUpdateMatchesSpecRow.holds Tryd.pinned (OpenSpec.ofChange refsUpdateMatchesSpecSpec)

/-- ITS FALSE NEIGHBOUR: 'it returns false'. Refute it at one input. -/
def refsUpdateMatchesSpecWrong : ChangeSpec := { name := "refsUpdateMatchesSpec", fn := fun _ => fun
  | [d1, d2] => { results := [.lit (.bool false)], args := [d1, d2] }
  | _ => none }
def RefsUpdateMatchesSpecWrongFalsely : Prop := refsUpdateMatchesSpecRow.holds Tryd.pinned (OpenSpec.ofChange refsUpdateMatchesSpecWrong)

/-- 'changeforgelaw3.RefsUpdateInverse': WHATEVER THE INPUT: true; the input reads as it did. -/
def refsUpdateInverseSpec : ChangeSpec := { name := "refsUpdateInverse", fn := fun _ => fun
  | [d1, d2] => { results := [.lit (.bool true)], args := [d1, d2] }
  | _ => none }
def refsUpdateInverseRow : OpenClaim := { program := "ytfbbgnhelannjaadoor", sum := "af4c2cf1b418a00df9ea8915c8f29fd4239b60be35d6e7e4d91681b19ae6911a", func := "changeforge/changeforgelaw3.RefsUpdateInverse", spec := "refsUpdateInverse", inPlace := ["internal/bytealg.IndexByteString", "internal/bytealg.IndexString", "internal/bytealg.abigen_runtime_cmpstring", "slices.overlaps[changeforge/api.Ref]"], unfollowed := true, recurses := true, named := ["unicode/utf8.first", "unicode/utf8.acceptRanges", "internal/bytealg.MaxLen"], apart := false, laid := [("unicode/utf8.acceptRanges", laid_unicode_utf8_acceptRanges), ("unicode/utf8.first", laid_unicode_utf8_first)] }
def RefsUpdateInverseSaid : Prop := refsUpdateInverseRow.holds Tryd.pinned (OpenSpec.ofChange refsUpdateInverseSpec)

/-- ITS FALSE NEIGHBOUR: 'it returns false'. Refute it at one input. -/
def refsUpdateInverseWrong : ChangeSpec := { name := "refsUpdateInverse", fn := fun _ => fun
  | [d1, d2] => { results := [.lit (.bool false)], args := [d1, d2] }
  | _ => none }
def RefsUpdateInverseWrongFalsely : Prop := refsUpdateInverseRow.holds Tryd.pinned (OpenSpec.ofChange refsUpdateInverseWrong)

/-- 'changeforgelaw3.RefsIndependentUpdatesCommute': WHATEVER THE INPUT: true; the input reads as it did. -/
def refsIndependentUpdatesCommuteSpec : ChangeSpec := { name := "refsIndependentUpdatesCommute", fn := fun _ => fun
  | [d1, d2, d3] => { results := [.lit (.bool true)], args := [d1, d2, d3] }
  | _ => none }
def refsIndependentUpdatesCommuteRow : OpenClaim := { program := "ytfbbgnhelannjaadoor", sum := "af4c2cf1b418a00df9ea8915c8f29fd4239b60be35d6e7e4d91681b19ae6911a", func := "changeforge/changeforgelaw3.RefsIndependentUpdatesCommute", spec := "refsIndependentUpdatesCommute", inPlace := ["internal/bytealg.IndexByteString", "internal/bytealg.IndexString", "internal/bytealg.abigen_runtime_cmpstring", "slices.overlaps[changeforge/api.Ref]"], unfollowed := true, recurses := true, named := ["unicode/utf8.first", "unicode/utf8.acceptRanges", "internal/bytealg.MaxLen"], apart := false, laid := [("unicode/utf8.acceptRanges", laid_unicode_utf8_acceptRanges), ("unicode/utf8.first", laid_unicode_utf8_first)] }
def RefsIndependentUpdatesCommuteSaid : Prop := refsIndependentUpdatesCommuteRow.holds Tryd.pinned (OpenSpec.ofChange refsIndependentUpdatesCommuteSpec)

/-- ITS FALSE NEIGHBOUR: 'it returns false'. Refute it at one input. -/
def refsIndependentUpdatesCommuteWrong : ChangeSpec := { name := "refsIndependentUpdatesCommute", fn := fun _ => fun
  | [d1, d2, d3] => { results := [.lit (.bool false)], args := [d1, d2, d3] }
  | _ => none }
def RefsIndependentUpdatesCommuteWrongFalsely : Prop := refsIndependentUpdatesCommuteRow.holds Tryd.pinned (OpenSpec.ofChange refsIndependentUpdatesCommuteWrong)

/-- 'changeforgelaw3.RefsBatchMatchesSpec': WHATEVER THE INPUT: true; the input reads as it did. -/
def refsBatchMatchesSpecSpec : ChangeSpec := { name := "refsBatchMatchesSpec", fn := fun _ => fun
  | [d1, d2] => { results := [.lit (.bool true)], args := [d1, d2] }
  | _ => none }
def refsBatchMatchesSpecRow : OpenClaim := { program := "ytfbbgnhelannjaadoor", sum := "af4c2cf1b418a00df9ea8915c8f29fd4239b60be35d6e7e4d91681b19ae6911a", func := "changeforge/changeforgelaw3.RefsBatchMatchesSpec", spec := "refsBatchMatchesSpec", inPlace := ["internal/bytealg.IndexByteString", "internal/bytealg.IndexString", "internal/bytealg.abigen_runtime_cmpstring", "slices.overlaps[changeforge/api.Ref]"], unfollowed := true, recurses := true, named := ["unicode/utf8.first", "unicode/utf8.acceptRanges", "internal/bytealg.MaxLen"], apart := false, laid := [("unicode/utf8.acceptRanges", laid_unicode_utf8_acceptRanges), ("unicode/utf8.first", laid_unicode_utf8_first)] }
def RefsBatchMatchesSpecSaid : Prop := refsBatchMatchesSpecRow.holds Tryd.pinned (OpenSpec.ofChange refsBatchMatchesSpecSpec)

/-- ITS FALSE NEIGHBOUR: 'it returns false'. Refute it at one input. -/
def refsBatchMatchesSpecWrong : ChangeSpec := { name := "refsBatchMatchesSpec", fn := fun _ => fun
  | [d1, d2] => { results := [.lit (.bool false)], args := [d1, d2] }
  | _ => none }
def RefsBatchMatchesSpecWrongFalsely : Prop := refsBatchMatchesSpecRow.holds Tryd.pinned (OpenSpec.ofChange refsBatchMatchesSpecWrong)

/-- 'changeforgelaw3.RefsBatchSplits': WHATEVER THE INPUT: true; the input reads as it did. -/
def refsBatchSplitsSpec : ChangeSpec := { name := "refsBatchSplits", fn := fun _ => fun
  | [d1, d2, d3] => { results := [.lit (.bool true)], args := [d1, d2, d3] }
  | _ => none }
def refsBatchSplitsRow : OpenClaim := { program := "ytfbbgnhelannjaadoor", sum := "af4c2cf1b418a00df9ea8915c8f29fd4239b60be35d6e7e4d91681b19ae6911a", func := "changeforge/changeforgelaw3.RefsBatchSplits", spec := "refsBatchSplits", inPlace := ["internal/bytealg.IndexByteString", "internal/bytealg.IndexString", "internal/bytealg.abigen_runtime_cmpstring", "slices.overlaps[changeforge/api.Ref]"], unfollowed := true, recurses := true, named := ["unicode/utf8.first", "unicode/utf8.acceptRanges", "internal/bytealg.MaxLen"], apart := false, laid := [("unicode/utf8.acceptRanges", laid_unicode_utf8_acceptRanges), ("unicode/utf8.first", laid_unicode_utf8_first)] }
def RefsBatchSplitsSaid : Prop := refsBatchSplitsRow.holds Tryd.pinned (OpenSpec.ofChange refsBatchSplitsSpec)

/-- ITS FALSE NEIGHBOUR: 'it returns false'. Refute it at one input. -/
def refsBatchSplitsWrong : ChangeSpec := { name := "refsBatchSplits", fn := fun _ => fun
  | [d1, d2, d3] => { results := [.lit (.bool false)], args := [d1, d2, d3] }
  | _ => none }
def RefsBatchSplitsWrongFalsely : Prop := refsBatchSplitsRow.holds Tryd.pinned (OpenSpec.ofChange refsBatchSplitsWrong)

/-- 'changeforgelaw3.RefsGetMatchesSpec': WHATEVER THE INPUT: true; the input reads as it did. -/
def refsGetMatchesSpecSpec : ChangeSpec := { name := "refsGetMatchesSpec", fn := fun _ => fun
  | [d1, d2, d3] => { results := [.lit (.bool true)], args := [d1, d2, d3] }
  | _ => none }
def refsGetMatchesSpecRow : OpenClaim := { program := "ytfbbgnhelannjaadoor", sum := "af4c2cf1b418a00df9ea8915c8f29fd4239b60be35d6e7e4d91681b19ae6911a", func := "changeforge/changeforgelaw3.RefsGetMatchesSpec", spec := "refsGetMatchesSpec", inPlace := ["internal/bytealg.IndexByteString", "internal/bytealg.IndexString", "internal/bytealg.abigen_runtime_cmpstring", "slices.overlaps[changeforge/api.Ref]"], unfollowed := true, recurses := true, named := ["unicode/utf8.first", "unicode/utf8.acceptRanges", "internal/bytealg.MaxLen"], apart := false, laid := [("unicode/utf8.acceptRanges", laid_unicode_utf8_acceptRanges), ("unicode/utf8.first", laid_unicode_utf8_first)] }
def RefsGetMatchesSpecSaid : Prop := refsGetMatchesSpecRow.holds Tryd.pinned (OpenSpec.ofChange refsGetMatchesSpecSpec)

/-- ITS FALSE NEIGHBOUR: 'it returns false'. Refute it at one input. -/
def refsGetMatchesSpecWrong : ChangeSpec := { name := "refsGetMatchesSpec", fn := fun _ => fun
  | [d1, d2, d3] => { results := [.lit (.bool false)], args := [d1, d2, d3] }
  | _ => none }
def RefsGetMatchesSpecWrongFalsely : Prop := refsGetMatchesSpecRow.holds Tryd.pinned (OpenSpec.ofChange refsGetMatchesSpecWrong)

/-- 'changeforgelaw3.ReflogReplayMatchesSpec': WHATEVER THE INPUT: true; the input reads as it did. -/
def reflogReplayMatchesSpecSpec : ChangeSpec := { name := "reflogReplayMatchesSpec", fn := fun _ => fun
  | [d1, d2, d3] => { results := [.lit (.bool true)], args := [d1, d2, d3] }
  | _ => none }
def reflogReplayMatchesSpecRow : OpenClaim := { program := "ytfbbgnhelannjaadoor", sum := "af4c2cf1b418a00df9ea8915c8f29fd4239b60be35d6e7e4d91681b19ae6911a", func := "changeforge/changeforgelaw3.ReflogReplayMatchesSpec", spec := "reflogReplayMatchesSpec", inPlace := ["internal/bytealg.IndexByteString", "internal/bytealg.IndexString", "internal/bytealg.abigen_runtime_cmpstring", "slices.overlaps[changeforge/api.Ref]"], unfollowed := true, recurses := true, named := ["unicode/utf8.first", "unicode/utf8.acceptRanges", "internal/bytealg.MaxLen"], apart := false, laid := [("unicode/utf8.acceptRanges", laid_unicode_utf8_acceptRanges), ("unicode/utf8.first", laid_unicode_utf8_first)] }
def ReflogReplayMatchesSpecSaid : Prop := reflogReplayMatchesSpecRow.holds Tryd.pinned (OpenSpec.ofChange reflogReplayMatchesSpecSpec)

/-- ITS FALSE NEIGHBOUR: 'it returns false'. Refute it at one input. -/
def reflogReplayMatchesSpecWrong : ChangeSpec := { name := "reflogReplayMatchesSpec", fn := fun _ => fun
  | [d1, d2, d3] => { results := [.lit (.bool false)], args := [d1, d2, d3] }
  | _ => none }
def ReflogReplayMatchesSpecWrongFalsely : Prop := reflogReplayMatchesSpecRow.holds Tryd.pinned (OpenSpec.ofChange reflogReplayMatchesSpecWrong)

/-- 'changeforgelaw3.ReflogExpireKeepsStates': WHATEVER THE INPUT: true; the input reads as it did. -/
def reflogExpireKeepsStatesSpec : ChangeSpec := { name := "reflogExpireKeepsStates", fn := fun _ => fun
  | [d1, d2, d3, d4] => { results := [.lit (.bool true)], args := [d1, d2, d3, d4] }
  | _ => none }
def reflogExpireKeepsStatesRow : OpenClaim := { program := "ytfbbgnhelannjaadoor", sum := "af4c2cf1b418a00df9ea8915c8f29fd4239b60be35d6e7e4d91681b19ae6911a", func := "changeforge/changeforgelaw3.ReflogExpireKeepsStates", spec := "reflogExpireKeepsStates", inPlace := ["internal/bytealg.IndexByteString", "internal/bytealg.IndexString", "internal/bytealg.abigen_runtime_cmpstring", "slices.overlaps[changeforge/api.Ref]"], unfollowed := true, recurses := true, named := ["unicode/utf8.first", "unicode/utf8.acceptRanges", "internal/bytealg.MaxLen"], apart := false, laid := [("unicode/utf8.acceptRanges", laid_unicode_utf8_acceptRanges), ("unicode/utf8.first", laid_unicode_utf8_first)] }
def ReflogExpireKeepsStatesSaid : Prop := reflogExpireKeepsStatesRow.holds Tryd.pinned (OpenSpec.ofChange reflogExpireKeepsStatesSpec)

/-- ITS FALSE NEIGHBOUR: 'it returns false'. Refute it at one input. -/
def reflogExpireKeepsStatesWrong : ChangeSpec := { name := "reflogExpireKeepsStates", fn := fun _ => fun
  | [d1, d2, d3, d4] => { results := [.lit (.bool false)], args := [d1, d2, d3, d4] }
  | _ => none }
def ReflogExpireKeepsStatesWrongFalsely : Prop := reflogExpireKeepsStatesRow.holds Tryd.pinned (OpenSpec.ofChange reflogExpireKeepsStatesWrong)

/-- 'changeforgelaw3.ReflogNamesIndependent': WHATEVER THE INPUT: true; the input reads as it did. -/
def reflogNamesIndependentSpec : ChangeSpec := { name := "reflogNamesIndependent", fn := fun _ => fun
  | [d1, d2, d3] => { results := [.lit (.bool true)], args := [d1, d2, d3] }
  | _ => none }
def reflogNamesIndependentRow : OpenClaim := { program := "ytfbbgnhelannjaadoor", sum := "af4c2cf1b418a00df9ea8915c8f29fd4239b60be35d6e7e4d91681b19ae6911a", func := "changeforge/changeforgelaw3.ReflogNamesIndependent", spec := "reflogNamesIndependent", inPlace := ["internal/bytealg.IndexByteString", "internal/bytealg.IndexString", "internal/bytealg.abigen_runtime_cmpstring", "slices.overlaps[changeforge/api.Ref]"], unfollowed := true, recurses := true, named := ["unicode/utf8.first", "unicode/utf8.acceptRanges", "internal/bytealg.MaxLen"], apart := false, laid := [("unicode/utf8.acceptRanges", laid_unicode_utf8_acceptRanges), ("unicode/utf8.first", laid_unicode_utf8_first)] }
def ReflogNamesIndependentSaid : Prop := reflogNamesIndependentRow.holds Tryd.pinned (OpenSpec.ofChange reflogNamesIndependentSpec)

/-- ITS FALSE NEIGHBOUR: 'it returns false'. Refute it at one input. -/
def reflogNamesIndependentWrong : ChangeSpec := { name := "reflogNamesIndependent", fn := fun _ => fun
  | [d1, d2, d3] => { results := [.lit (.bool false)], args := [d1, d2, d3] }
  | _ => none }
def ReflogNamesIndependentWrongFalsely : Prop := reflogNamesIndependentRow.holds Tryd.pinned (OpenSpec.ofChange reflogNamesIndependentWrong)

/-- 'changeforgelaw3.ReflogUndoRestores': WHATEVER THE INPUT: true; the input reads as it did. -/
def reflogUndoRestoresSpec : ChangeSpec := { name := "reflogUndoRestores", fn := fun _ => fun
  | [d1, d2, d3] => { results := [.lit (.bool true)], args := [d1, d2, d3] }
  | _ => none }
def reflogUndoRestoresRow : OpenClaim := { program := "ytfbbgnhelannjaadoor", sum := "af4c2cf1b418a00df9ea8915c8f29fd4239b60be35d6e7e4d91681b19ae6911a", func := "changeforge/changeforgelaw3.ReflogUndoRestores", spec := "reflogUndoRestores", inPlace := ["internal/bytealg.IndexByteString", "internal/bytealg.IndexString", "internal/bytealg.abigen_runtime_cmpstring", "slices.overlaps[changeforge/api.Ref]"], unfollowed := true, recurses := true, named := ["unicode/utf8.first", "unicode/utf8.acceptRanges", "internal/bytealg.MaxLen"], apart := false, laid := [("unicode/utf8.acceptRanges", laid_unicode_utf8_acceptRanges), ("unicode/utf8.first", laid_unicode_utf8_first)] }
def ReflogUndoRestoresSaid : Prop := reflogUndoRestoresRow.holds Tryd.pinned (OpenSpec.ofChange reflogUndoRestoresSpec)

/-- ITS FALSE NEIGHBOUR: 'it returns false'. Refute it at one input. -/
def reflogUndoRestoresWrong : ChangeSpec := { name := "reflogUndoRestores", fn := fun _ => fun
  | [d1, d2, d3] => { results := [.lit (.bool false)], args := [d1, d2, d3] }
  | _ => none }
def ReflogUndoRestoresWrongFalsely : Prop := reflogUndoRestoresRow.holds Tryd.pinned (OpenSpec.ofChange reflogUndoRestoresWrong)

/-- 'changeforgelaw3.ReflogAppendMatchesSpec': WHATEVER THE INPUT: true; the input reads as it did. -/
def reflogAppendMatchesSpecSpec : ChangeSpec := { name := "reflogAppendMatchesSpec", fn := fun _ => fun
  | [d1, d2, d3, d4] => { results := [.lit (.bool true)], args := [d1, d2, d3, d4] }
  | _ => none }
def reflogAppendMatchesSpecRow : OpenClaim := { program := "ytfbbgnhelannjaadoor", sum := "af4c2cf1b418a00df9ea8915c8f29fd4239b60be35d6e7e4d91681b19ae6911a", func := "changeforge/changeforgelaw3.ReflogAppendMatchesSpec", spec := "reflogAppendMatchesSpec", inPlace := ["internal/bytealg.IndexByteString", "internal/bytealg.IndexString", "internal/bytealg.abigen_runtime_cmpstring", "slices.overlaps[changeforge/api.Ref]"], unfollowed := true, recurses := true, named := ["unicode/utf8.first", "unicode/utf8.acceptRanges", "internal/bytealg.MaxLen"], apart := false, laid := [("unicode/utf8.acceptRanges", laid_unicode_utf8_acceptRanges), ("unicode/utf8.first", laid_unicode_utf8_first)] }
def ReflogAppendMatchesSpecSaid : Prop := reflogAppendMatchesSpecRow.holds Tryd.pinned (OpenSpec.ofChange reflogAppendMatchesSpecSpec)

/-- ITS FALSE NEIGHBOUR: 'it returns false'. Refute it at one input. -/
def reflogAppendMatchesSpecWrong : ChangeSpec := { name := "reflogAppendMatchesSpec", fn := fun _ => fun
  | [d1, d2, d3, d4] => { results := [.lit (.bool false)], args := [d1, d2, d3, d4] }
  | _ => none }
def ReflogAppendMatchesSpecWrongFalsely : Prop := reflogAppendMatchesSpecRow.holds Tryd.pinned (OpenSpec.ofChange reflogAppendMatchesSpecWrong)

/- THE SECOND FORM. 'bulk': how many values and letters a reading holds, each counted each time it is reached (what is shared counts as often as it is met; a slice's spare places count too). A statement '..UptoSaid' is the law's where the arguments, and the package variables that the reading takes, are together of bulk at most 1048576: NARROWER than '..Said'. Prove '..Said' where nothing that the law and all that it calls make is longer than what came in: it says more and counts as full. Else prove '..UptoSaid'. A law counts once. -/
mutual
def uptoBulk {H : Type} : DataW H → Nat
  | .lit (.string bytes) => bytes.length + 1
  | .lit _ => 1
  | .nil => 1
  | .ptr d => uptoBulk d + 1
  | .slice elems spare => uptoBulkAll elems + uptoBulkAll spare + 1
  | .agg parts => uptoBulkAll parts + 1
  | .iface _ d => uptoBulk d + 1
  | .map entries => uptoBulkEntries entries + 1
  | .held _ => 1
def uptoBulkAll {H : Type} : List (DataW H) → Nat
  | [] => 0
  | d :: r => uptoBulk d + uptoBulkAll r
def uptoBulkEntries {H : Type} : List (Lit × DataW H) → Nat
  | [] => 0
  | x :: r => uptoBulkEntry x + uptoBulkEntries r
def uptoBulkEntry {H : Type} : Lit × DataW H → Nat
  | (.string bytes, d) => bytes.length + uptoBulk d + 1
  | (_, d) => uptoBulk d + 1
 end
def uptoSmall : (H : Type) → List (DataW H) → Bool := fun _ ds => decide (uptoBulkAll ds ≤ 1048576)
def OpenSpec.upto (s : _root_.Go.ChangeSpec) : _root_.Go.OpenSpec := { _root_.Go.OpenSpec.ofChange s with cond := some uptoSmall }

/-- 'changeforgelaw3.RefsNameMatchesSpec', WHERE WHAT IT READS IS OF BULK AT MOST 1048576: true; the input reads as it did. -/
def refsNameMatchesSpecUptoRow : OpenClaim := { program := "ytfbbgnhelannjaadoor", sum := "af4c2cf1b418a00df9ea8915c8f29fd4239b60be35d6e7e4d91681b19ae6911a", func := "changeforge/changeforgelaw3.RefsNameMatchesSpec", spec := "refsNameMatchesSpec", inPlace := ["internal/bytealg.IndexByteString", "internal/bytealg.IndexString", "internal/bytealg.abigen_runtime_cmpstring", "slices.overlaps[changeforge/api.Ref]"], unfollowed := true, recurses := true, named := ["unicode/utf8.first", "unicode/utf8.acceptRanges", "internal/bytealg.MaxLen"], apart := false, laid := [("unicode/utf8.acceptRanges", laid_unicode_utf8_acceptRanges), ("unicode/utf8.first", laid_unicode_utf8_first)], narrowed := true }
def RefsNameMatchesSpecUptoSaid : Prop := refsNameMatchesSpecUptoRow.holds Tryd.pinned (OpenSpec.upto refsNameMatchesSpecSpec)

/-- 'changeforgelaw3.RefsUpdateMatchesSpec', WHERE WHAT IT READS IS OF BULK AT MOST 1048576: true; the input reads as it did. -/
def refsUpdateMatchesSpecUptoRow : OpenClaim := { program := "ytfbbgnhelannjaadoor", sum := "af4c2cf1b418a00df9ea8915c8f29fd4239b60be35d6e7e4d91681b19ae6911a", func := "changeforge/changeforgelaw3.RefsUpdateMatchesSpec", spec := "refsUpdateMatchesSpec", inPlace := ["internal/bytealg.IndexByteString", "internal/bytealg.IndexString", "internal/bytealg.abigen_runtime_cmpstring", "slices.overlaps[changeforge/api.Ref]"], unfollowed := true, recurses := true, named := ["unicode/utf8.first", "unicode/utf8.acceptRanges", "internal/bytealg.MaxLen"], apart := false, laid := [("unicode/utf8.acceptRanges", laid_unicode_utf8_acceptRanges), ("unicode/utf8.first", laid_unicode_utf8_first)], narrowed := true }
def RefsUpdateMatchesSpecUptoSaid : Prop := refsUpdateMatchesSpecUptoRow.holds Tryd.pinned (OpenSpec.upto refsUpdateMatchesSpecSpec)

/-- 'changeforgelaw3.RefsUpdateInverse', WHERE WHAT IT READS IS OF BULK AT MOST 1048576: true; the input reads as it did. -/
def refsUpdateInverseUptoRow : OpenClaim := { program := "ytfbbgnhelannjaadoor", sum := "af4c2cf1b418a00df9ea8915c8f29fd4239b60be35d6e7e4d91681b19ae6911a", func := "changeforge/changeforgelaw3.RefsUpdateInverse", spec := "refsUpdateInverse", inPlace := ["internal/bytealg.IndexByteString", "internal/bytealg.IndexString", "internal/bytealg.abigen_runtime_cmpstring", "slices.overlaps[changeforge/api.Ref]"], unfollowed := true, recurses := true, named := ["unicode/utf8.first", "unicode/utf8.acceptRanges", "internal/bytealg.MaxLen"], apart := false, laid := [("unicode/utf8.acceptRanges", laid_unicode_utf8_acceptRanges), ("unicode/utf8.first", laid_unicode_utf8_first)], narrowed := true }
def RefsUpdateInverseUptoSaid : Prop := refsUpdateInverseUptoRow.holds Tryd.pinned (OpenSpec.upto refsUpdateInverseSpec)

/-- 'changeforgelaw3.RefsIndependentUpdatesCommute', WHERE WHAT IT READS IS OF BULK AT MOST 1048576: true; the input reads as it did. -/
def refsIndependentUpdatesCommuteUptoRow : OpenClaim := { program := "ytfbbgnhelannjaadoor", sum := "af4c2cf1b418a00df9ea8915c8f29fd4239b60be35d6e7e4d91681b19ae6911a", func := "changeforge/changeforgelaw3.RefsIndependentUpdatesCommute", spec := "refsIndependentUpdatesCommute", inPlace := ["internal/bytealg.IndexByteString", "internal/bytealg.IndexString", "internal/bytealg.abigen_runtime_cmpstring", "slices.overlaps[changeforge/api.Ref]"], unfollowed := true, recurses := true, named := ["unicode/utf8.first", "unicode/utf8.acceptRanges", "internal/bytealg.MaxLen"], apart := false, laid := [("unicode/utf8.acceptRanges", laid_unicode_utf8_acceptRanges), ("unicode/utf8.first", laid_unicode_utf8_first)], narrowed := true }
def RefsIndependentUpdatesCommuteUptoSaid : Prop := refsIndependentUpdatesCommuteUptoRow.holds Tryd.pinned (OpenSpec.upto refsIndependentUpdatesCommuteSpec)

/-- 'changeforgelaw3.RefsBatchMatchesSpec', WHERE WHAT IT READS IS OF BULK AT MOST 1048576: true; the input reads as it did. -/
def refsBatchMatchesSpecUptoRow : OpenClaim := { program := "ytfbbgnhelannjaadoor", sum := "af4c2cf1b418a00df9ea8915c8f29fd4239b60be35d6e7e4d91681b19ae6911a", func := "changeforge/changeforgelaw3.RefsBatchMatchesSpec", spec := "refsBatchMatchesSpec", inPlace := ["internal/bytealg.IndexByteString", "internal/bytealg.IndexString", "internal/bytealg.abigen_runtime_cmpstring", "slices.overlaps[changeforge/api.Ref]"], unfollowed := true, recurses := true, named := ["unicode/utf8.first", "unicode/utf8.acceptRanges", "internal/bytealg.MaxLen"], apart := false, laid := [("unicode/utf8.acceptRanges", laid_unicode_utf8_acceptRanges), ("unicode/utf8.first", laid_unicode_utf8_first)], narrowed := true }
def RefsBatchMatchesSpecUptoSaid : Prop := refsBatchMatchesSpecUptoRow.holds Tryd.pinned (OpenSpec.upto refsBatchMatchesSpecSpec)

/-- 'changeforgelaw3.RefsBatchSplits', WHERE WHAT IT READS IS OF BULK AT MOST 1048576: true; the input reads as it did. -/
def refsBatchSplitsUptoRow : OpenClaim := { program := "ytfbbgnhelannjaadoor", sum := "af4c2cf1b418a00df9ea8915c8f29fd4239b60be35d6e7e4d91681b19ae6911a", func := "changeforge/changeforgelaw3.RefsBatchSplits", spec := "refsBatchSplits", inPlace := ["internal/bytealg.IndexByteString", "internal/bytealg.IndexString", "internal/bytealg.abigen_runtime_cmpstring", "slices.overlaps[changeforge/api.Ref]"], unfollowed := true, recurses := true, named := ["unicode/utf8.first", "unicode/utf8.acceptRanges", "internal/bytealg.MaxLen"], apart := false, laid := [("unicode/utf8.acceptRanges", laid_unicode_utf8_acceptRanges), ("unicode/utf8.first", laid_unicode_utf8_first)], narrowed := true }
def RefsBatchSplitsUptoSaid : Prop := refsBatchSplitsUptoRow.holds Tryd.pinned (OpenSpec.upto refsBatchSplitsSpec)

/-- 'changeforgelaw3.RefsGetMatchesSpec', WHERE WHAT IT READS IS OF BULK AT MOST 1048576: true; the input reads as it did. -/
def refsGetMatchesSpecUptoRow : OpenClaim := { program := "ytfbbgnhelannjaadoor", sum := "af4c2cf1b418a00df9ea8915c8f29fd4239b60be35d6e7e4d91681b19ae6911a", func := "changeforge/changeforgelaw3.RefsGetMatchesSpec", spec := "refsGetMatchesSpec", inPlace := ["internal/bytealg.IndexByteString", "internal/bytealg.IndexString", "internal/bytealg.abigen_runtime_cmpstring", "slices.overlaps[changeforge/api.Ref]"], unfollowed := true, recurses := true, named := ["unicode/utf8.first", "unicode/utf8.acceptRanges", "internal/bytealg.MaxLen"], apart := false, laid := [("unicode/utf8.acceptRanges", laid_unicode_utf8_acceptRanges), ("unicode/utf8.first", laid_unicode_utf8_first)], narrowed := true }
def RefsGetMatchesSpecUptoSaid : Prop := refsGetMatchesSpecUptoRow.holds Tryd.pinned (OpenSpec.upto refsGetMatchesSpecSpec)

/-- 'changeforgelaw3.ReflogReplayMatchesSpec', WHERE WHAT IT READS IS OF BULK AT MOST 1048576: true; the input reads as it did. -/
def reflogReplayMatchesSpecUptoRow : OpenClaim := { program := "ytfbbgnhelannjaadoor", sum := "af4c2cf1b418a00df9ea8915c8f29fd4239b60be35d6e7e4d91681b19ae6911a", func := "changeforge/changeforgelaw3.ReflogReplayMatchesSpec", spec := "reflogReplayMatchesSpec", inPlace := ["internal/bytealg.IndexByteString", "internal/bytealg.IndexString", "internal/bytealg.abigen_runtime_cmpstring", "slices.overlaps[changeforge/api.Ref]"], unfollowed := true, recurses := true, named := ["unicode/utf8.first", "unicode/utf8.acceptRanges", "internal/bytealg.MaxLen"], apart := false, laid := [("unicode/utf8.acceptRanges", laid_unicode_utf8_acceptRanges), ("unicode/utf8.first", laid_unicode_utf8_first)], narrowed := true }
def ReflogReplayMatchesSpecUptoSaid : Prop := reflogReplayMatchesSpecUptoRow.holds Tryd.pinned (OpenSpec.upto reflogReplayMatchesSpecSpec)

/-- 'changeforgelaw3.ReflogExpireKeepsStates', WHERE WHAT IT READS IS OF BULK AT MOST 1048576: true; the input reads as it did. -/
def reflogExpireKeepsStatesUptoRow : OpenClaim := { program := "ytfbbgnhelannjaadoor", sum := "af4c2cf1b418a00df9ea8915c8f29fd4239b60be35d6e7e4d91681b19ae6911a", func := "changeforge/changeforgelaw3.ReflogExpireKeepsStates", spec := "reflogExpireKeepsStates", inPlace := ["internal/bytealg.IndexByteString", "internal/bytealg.IndexString", "internal/bytealg.abigen_runtime_cmpstring", "slices.overlaps[changeforge/api.Ref]"], unfollowed := true, recurses := true, named := ["unicode/utf8.first", "unicode/utf8.acceptRanges", "internal/bytealg.MaxLen"], apart := false, laid := [("unicode/utf8.acceptRanges", laid_unicode_utf8_acceptRanges), ("unicode/utf8.first", laid_unicode_utf8_first)], narrowed := true }
def ReflogExpireKeepsStatesUptoSaid : Prop := reflogExpireKeepsStatesUptoRow.holds Tryd.pinned (OpenSpec.upto reflogExpireKeepsStatesSpec)

/-- 'changeforgelaw3.ReflogNamesIndependent', WHERE WHAT IT READS IS OF BULK AT MOST 1048576: true; the input reads as it did. -/
def reflogNamesIndependentUptoRow : OpenClaim := { program := "ytfbbgnhelannjaadoor", sum := "af4c2cf1b418a00df9ea8915c8f29fd4239b60be35d6e7e4d91681b19ae6911a", func := "changeforge/changeforgelaw3.ReflogNamesIndependent", spec := "reflogNamesIndependent", inPlace := ["internal/bytealg.IndexByteString", "internal/bytealg.IndexString", "internal/bytealg.abigen_runtime_cmpstring", "slices.overlaps[changeforge/api.Ref]"], unfollowed := true, recurses := true, named := ["unicode/utf8.first", "unicode/utf8.acceptRanges", "internal/bytealg.MaxLen"], apart := false, laid := [("unicode/utf8.acceptRanges", laid_unicode_utf8_acceptRanges), ("unicode/utf8.first", laid_unicode_utf8_first)], narrowed := true }
def ReflogNamesIndependentUptoSaid : Prop := reflogNamesIndependentUptoRow.holds Tryd.pinned (OpenSpec.upto reflogNamesIndependentSpec)

/-- 'changeforgelaw3.ReflogUndoRestores', WHERE WHAT IT READS IS OF BULK AT MOST 1048576: true; the input reads as it did. -/
def reflogUndoRestoresUptoRow : OpenClaim := { program := "ytfbbgnhelannjaadoor", sum := "af4c2cf1b418a00df9ea8915c8f29fd4239b60be35d6e7e4d91681b19ae6911a", func := "changeforge/changeforgelaw3.ReflogUndoRestores", spec := "reflogUndoRestores", inPlace := ["internal/bytealg.IndexByteString", "internal/bytealg.IndexString", "internal/bytealg.abigen_runtime_cmpstring", "slices.overlaps[changeforge/api.Ref]"], unfollowed := true, recurses := true, named := ["unicode/utf8.first", "unicode/utf8.acceptRanges", "internal/bytealg.MaxLen"], apart := false, laid := [("unicode/utf8.acceptRanges", laid_unicode_utf8_acceptRanges), ("unicode/utf8.first", laid_unicode_utf8_first)], narrowed := true }
def ReflogUndoRestoresUptoSaid : Prop := reflogUndoRestoresUptoRow.holds Tryd.pinned (OpenSpec.upto reflogUndoRestoresSpec)

/-- 'changeforgelaw3.ReflogAppendMatchesSpec', WHERE WHAT IT READS IS OF BULK AT MOST 1048576: true; the input reads as it did. -/
def reflogAppendMatchesSpecUptoRow : OpenClaim := { program := "ytfbbgnhelannjaadoor", sum := "af4c2cf1b418a00df9ea8915c8f29fd4239b60be35d6e7e4d91681b19ae6911a", func := "changeforge/changeforgelaw3.ReflogAppendMatchesSpec", spec := "reflogAppendMatchesSpec", inPlace := ["internal/bytealg.IndexByteString", "internal/bytealg.IndexString", "internal/bytealg.abigen_runtime_cmpstring", "slices.overlaps[changeforge/api.Ref]"], unfollowed := true, recurses := true, named := ["unicode/utf8.first", "unicode/utf8.acceptRanges", "internal/bytealg.MaxLen"], apart := false, laid := [("unicode/utf8.acceptRanges", laid_unicode_utf8_acceptRanges), ("unicode/utf8.first", laid_unicode_utf8_first)], narrowed := true }
def ReflogAppendMatchesSpecUptoSaid : Prop := reflogAppendMatchesSpecUptoRow.holds Tryd.pinned (OpenSpec.upto reflogAppendMatchesSpecSpec)

end Rows
end Go.Proofs.YtfbbgnhelannjaaDoor
