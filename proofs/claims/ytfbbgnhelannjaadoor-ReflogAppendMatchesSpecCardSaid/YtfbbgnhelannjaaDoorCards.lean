/-
  DERIVED. GIVEN WITH THE SEED: THE CARDS: each row of YtfbbgnhelannjaaDoorRows.lean that lists a variable, with what it lists TIED to the program's text (the seventh form; the later family's looks); each row that meets fmt, with fmt's text TOLD by the authors' own Lean function (tested against real Go, not proved from fmt's source: count such statements apart). THE CARD IS WHAT COUNTS. Prove the row's statement (the work); the ties are given (YtfbbgnhelannjaaDoorTie.lean); close each card by the builder's one call (the guide's Derived/Test/ToyasCard.lean, 'card_holds'). Laid BY PROGRAM, IN A SANDBOX (cutbox-door.mjs). By AI agents, Wed Nov 11 2026. No macro, syntax, notation, axiom, sorry.
-/
import Derived.Test.YtfbbgnhelannjaaDoorRows
import GoSem.ClaimSeven
namespace Go.Proofs.YtfbbgnhelannjaaDoor
namespace Rows

/-- THE TIED CARD OF 'changeforgelaw3.RefsNameMatchesSpec'. -/
def refsNameMatchesSpecCard : Claim7 := { stood := { row := refsNameMatchesSpecRow, standIns := [], harness := (true, "d0ba9ffbcfefa3dc3e700290af4f1aaa0320981f72d6bef06d4522631d386b19"), looks := false }, kinds := [], alts := [], laidByText := true, laidKinds := [.data, .pinned], laidTests := true, laidLooks := .later }
def RefsNameMatchesSpecCardSaid : Prop := Claim7.holds Tryd.pinned (.plain (OpenSpec.ofChange refsNameMatchesSpecSpec)) refsNameMatchesSpecCard

/-- THE TIED CARD OF 'changeforgelaw3.RefsUpdateMatchesSpec'. -/
def refsUpdateMatchesSpecCard : Claim7 := { stood := { row := refsUpdateMatchesSpecRow, standIns := [], harness := (true, "d0ba9ffbcfefa3dc3e700290af4f1aaa0320981f72d6bef06d4522631d386b19"), looks := false }, kinds := [], alts := [], laidByText := true, laidKinds := [.data, .pinned], laidTests := true, laidLooks := .later }
def RefsUpdateMatchesSpecCardSaid : Prop := Claim7.holds Tryd.pinned (.plain (OpenSpec.ofChange refsUpdateMatchesSpecSpec)) refsUpdateMatchesSpecCard

/-- THE TIED CARD OF 'changeforgelaw3.RefsUpdateInverse'. -/
def refsUpdateInverseCard : Claim7 := { stood := { row := refsUpdateInverseRow, standIns := [], harness := (true, "d0ba9ffbcfefa3dc3e700290af4f1aaa0320981f72d6bef06d4522631d386b19"), looks := false }, kinds := [], alts := [], laidByText := true, laidKinds := [.data, .pinned], laidTests := true, laidLooks := .later }
def RefsUpdateInverseCardSaid : Prop := Claim7.holds Tryd.pinned (.plain (OpenSpec.ofChange refsUpdateInverseSpec)) refsUpdateInverseCard

/-- THE TIED CARD OF 'changeforgelaw3.RefsIndependentUpdatesCommute'. -/
def refsIndependentUpdatesCommuteCard : Claim7 := { stood := { row := refsIndependentUpdatesCommuteRow, standIns := [], harness := (true, "d0ba9ffbcfefa3dc3e700290af4f1aaa0320981f72d6bef06d4522631d386b19"), looks := false }, kinds := [], alts := [], laidByText := true, laidKinds := [.data, .pinned], laidTests := true, laidLooks := .later }
def RefsIndependentUpdatesCommuteCardSaid : Prop := Claim7.holds Tryd.pinned (.plain (OpenSpec.ofChange refsIndependentUpdatesCommuteSpec)) refsIndependentUpdatesCommuteCard

/-- THE TIED CARD OF 'changeforgelaw3.RefsBatchMatchesSpec'. -/
def refsBatchMatchesSpecCard : Claim7 := { stood := { row := refsBatchMatchesSpecRow, standIns := [], harness := (true, "d0ba9ffbcfefa3dc3e700290af4f1aaa0320981f72d6bef06d4522631d386b19"), looks := false }, kinds := [], alts := [], laidByText := true, laidKinds := [.data, .pinned], laidTests := true, laidLooks := .later }
def RefsBatchMatchesSpecCardSaid : Prop := Claim7.holds Tryd.pinned (.plain (OpenSpec.ofChange refsBatchMatchesSpecSpec)) refsBatchMatchesSpecCard

/-- THE TIED CARD OF 'changeforgelaw3.RefsBatchSplits'. -/
def refsBatchSplitsCard : Claim7 := { stood := { row := refsBatchSplitsRow, standIns := [], harness := (true, "d0ba9ffbcfefa3dc3e700290af4f1aaa0320981f72d6bef06d4522631d386b19"), looks := false }, kinds := [], alts := [], laidByText := true, laidKinds := [.data, .pinned], laidTests := true, laidLooks := .later }
def RefsBatchSplitsCardSaid : Prop := Claim7.holds Tryd.pinned (.plain (OpenSpec.ofChange refsBatchSplitsSpec)) refsBatchSplitsCard

/-- THE TIED CARD OF 'changeforgelaw3.RefsGetMatchesSpec'. -/
def refsGetMatchesSpecCard : Claim7 := { stood := { row := refsGetMatchesSpecRow, standIns := [], harness := (true, "d0ba9ffbcfefa3dc3e700290af4f1aaa0320981f72d6bef06d4522631d386b19"), looks := false }, kinds := [], alts := [], laidByText := true, laidKinds := [.data, .pinned], laidTests := true, laidLooks := .later }
def RefsGetMatchesSpecCardSaid : Prop := Claim7.holds Tryd.pinned (.plain (OpenSpec.ofChange refsGetMatchesSpecSpec)) refsGetMatchesSpecCard

/-- THE TIED CARD OF 'changeforgelaw3.ReflogReplayMatchesSpec'. -/
def reflogReplayMatchesSpecCard : Claim7 := { stood := { row := reflogReplayMatchesSpecRow, standIns := [], harness := (true, "d0ba9ffbcfefa3dc3e700290af4f1aaa0320981f72d6bef06d4522631d386b19"), looks := false }, kinds := [], alts := [], laidByText := true, laidKinds := [.data, .pinned], laidTests := true, laidLooks := .later }
def ReflogReplayMatchesSpecCardSaid : Prop := Claim7.holds Tryd.pinned (.plain (OpenSpec.ofChange reflogReplayMatchesSpecSpec)) reflogReplayMatchesSpecCard

/-- THE TIED CARD OF 'changeforgelaw3.ReflogExpireKeepsStates'. -/
def reflogExpireKeepsStatesCard : Claim7 := { stood := { row := reflogExpireKeepsStatesRow, standIns := [], harness := (true, "d0ba9ffbcfefa3dc3e700290af4f1aaa0320981f72d6bef06d4522631d386b19"), looks := false }, kinds := [], alts := [], laidByText := true, laidKinds := [.data, .pinned], laidTests := true, laidLooks := .later }
def ReflogExpireKeepsStatesCardSaid : Prop := Claim7.holds Tryd.pinned (.plain (OpenSpec.ofChange reflogExpireKeepsStatesSpec)) reflogExpireKeepsStatesCard

/-- THE TIED CARD OF 'changeforgelaw3.ReflogNamesIndependent'. -/
def reflogNamesIndependentCard : Claim7 := { stood := { row := reflogNamesIndependentRow, standIns := [], harness := (true, "d0ba9ffbcfefa3dc3e700290af4f1aaa0320981f72d6bef06d4522631d386b19"), looks := false }, kinds := [], alts := [], laidByText := true, laidKinds := [.data, .pinned], laidTests := true, laidLooks := .later }
def ReflogNamesIndependentCardSaid : Prop := Claim7.holds Tryd.pinned (.plain (OpenSpec.ofChange reflogNamesIndependentSpec)) reflogNamesIndependentCard

/-- THE TIED CARD OF 'changeforgelaw3.ReflogUndoRestores'. -/
def reflogUndoRestoresCard : Claim7 := { stood := { row := reflogUndoRestoresRow, standIns := [], harness := (true, "d0ba9ffbcfefa3dc3e700290af4f1aaa0320981f72d6bef06d4522631d386b19"), looks := false }, kinds := [], alts := [], laidByText := true, laidKinds := [.data, .pinned], laidTests := true, laidLooks := .later }
def ReflogUndoRestoresCardSaid : Prop := Claim7.holds Tryd.pinned (.plain (OpenSpec.ofChange reflogUndoRestoresSpec)) reflogUndoRestoresCard

/-- THE TIED CARD OF 'changeforgelaw3.ReflogAppendMatchesSpec'. -/
def reflogAppendMatchesSpecCard : Claim7 := { stood := { row := reflogAppendMatchesSpecRow, standIns := [], harness := (true, "d0ba9ffbcfefa3dc3e700290af4f1aaa0320981f72d6bef06d4522631d386b19"), looks := false }, kinds := [], alts := [], laidByText := true, laidKinds := [.data, .pinned], laidTests := true, laidLooks := .later }
def ReflogAppendMatchesSpecCardSaid : Prop := Claim7.holds Tryd.pinned (.plain (OpenSpec.ofChange reflogAppendMatchesSpecSpec)) reflogAppendMatchesSpecCard

/-- THE SECOND FORM's CARD OF 'changeforgelaw3.RefsNameMatchesSpec'. -/
def refsNameMatchesSpecUptoCard : Claim7 := { stood := { row := refsNameMatchesSpecUptoRow, standIns := [], harness := (true, "d0ba9ffbcfefa3dc3e700290af4f1aaa0320981f72d6bef06d4522631d386b19"), looks := false }, kinds := [], alts := [], laidByText := true, laidKinds := [.data, .pinned], laidTests := true, laidLooks := .later }
def RefsNameMatchesSpecUptoCardSaid : Prop := Claim7.holds Tryd.pinned (.plain (OpenSpec.upto refsNameMatchesSpecSpec)) refsNameMatchesSpecUptoCard

/-- THE SECOND FORM's CARD OF 'changeforgelaw3.RefsUpdateMatchesSpec'. -/
def refsUpdateMatchesSpecUptoCard : Claim7 := { stood := { row := refsUpdateMatchesSpecUptoRow, standIns := [], harness := (true, "d0ba9ffbcfefa3dc3e700290af4f1aaa0320981f72d6bef06d4522631d386b19"), looks := false }, kinds := [], alts := [], laidByText := true, laidKinds := [.data, .pinned], laidTests := true, laidLooks := .later }
def RefsUpdateMatchesSpecUptoCardSaid : Prop := Claim7.holds Tryd.pinned (.plain (OpenSpec.upto refsUpdateMatchesSpecSpec)) refsUpdateMatchesSpecUptoCard

/-- THE SECOND FORM's CARD OF 'changeforgelaw3.RefsUpdateInverse'. -/
def refsUpdateInverseUptoCard : Claim7 := { stood := { row := refsUpdateInverseUptoRow, standIns := [], harness := (true, "d0ba9ffbcfefa3dc3e700290af4f1aaa0320981f72d6bef06d4522631d386b19"), looks := false }, kinds := [], alts := [], laidByText := true, laidKinds := [.data, .pinned], laidTests := true, laidLooks := .later }
def RefsUpdateInverseUptoCardSaid : Prop := Claim7.holds Tryd.pinned (.plain (OpenSpec.upto refsUpdateInverseSpec)) refsUpdateInverseUptoCard

/-- THE SECOND FORM's CARD OF 'changeforgelaw3.RefsIndependentUpdatesCommute'. -/
def refsIndependentUpdatesCommuteUptoCard : Claim7 := { stood := { row := refsIndependentUpdatesCommuteUptoRow, standIns := [], harness := (true, "d0ba9ffbcfefa3dc3e700290af4f1aaa0320981f72d6bef06d4522631d386b19"), looks := false }, kinds := [], alts := [], laidByText := true, laidKinds := [.data, .pinned], laidTests := true, laidLooks := .later }
def RefsIndependentUpdatesCommuteUptoCardSaid : Prop := Claim7.holds Tryd.pinned (.plain (OpenSpec.upto refsIndependentUpdatesCommuteSpec)) refsIndependentUpdatesCommuteUptoCard

/-- THE SECOND FORM's CARD OF 'changeforgelaw3.RefsBatchMatchesSpec'. -/
def refsBatchMatchesSpecUptoCard : Claim7 := { stood := { row := refsBatchMatchesSpecUptoRow, standIns := [], harness := (true, "d0ba9ffbcfefa3dc3e700290af4f1aaa0320981f72d6bef06d4522631d386b19"), looks := false }, kinds := [], alts := [], laidByText := true, laidKinds := [.data, .pinned], laidTests := true, laidLooks := .later }
def RefsBatchMatchesSpecUptoCardSaid : Prop := Claim7.holds Tryd.pinned (.plain (OpenSpec.upto refsBatchMatchesSpecSpec)) refsBatchMatchesSpecUptoCard

/-- THE SECOND FORM's CARD OF 'changeforgelaw3.RefsBatchSplits'. -/
def refsBatchSplitsUptoCard : Claim7 := { stood := { row := refsBatchSplitsUptoRow, standIns := [], harness := (true, "d0ba9ffbcfefa3dc3e700290af4f1aaa0320981f72d6bef06d4522631d386b19"), looks := false }, kinds := [], alts := [], laidByText := true, laidKinds := [.data, .pinned], laidTests := true, laidLooks := .later }
def RefsBatchSplitsUptoCardSaid : Prop := Claim7.holds Tryd.pinned (.plain (OpenSpec.upto refsBatchSplitsSpec)) refsBatchSplitsUptoCard

/-- THE SECOND FORM's CARD OF 'changeforgelaw3.RefsGetMatchesSpec'. -/
def refsGetMatchesSpecUptoCard : Claim7 := { stood := { row := refsGetMatchesSpecUptoRow, standIns := [], harness := (true, "d0ba9ffbcfefa3dc3e700290af4f1aaa0320981f72d6bef06d4522631d386b19"), looks := false }, kinds := [], alts := [], laidByText := true, laidKinds := [.data, .pinned], laidTests := true, laidLooks := .later }
def RefsGetMatchesSpecUptoCardSaid : Prop := Claim7.holds Tryd.pinned (.plain (OpenSpec.upto refsGetMatchesSpecSpec)) refsGetMatchesSpecUptoCard

/-- THE SECOND FORM's CARD OF 'changeforgelaw3.ReflogReplayMatchesSpec'. -/
def reflogReplayMatchesSpecUptoCard : Claim7 := { stood := { row := reflogReplayMatchesSpecUptoRow, standIns := [], harness := (true, "d0ba9ffbcfefa3dc3e700290af4f1aaa0320981f72d6bef06d4522631d386b19"), looks := false }, kinds := [], alts := [], laidByText := true, laidKinds := [.data, .pinned], laidTests := true, laidLooks := .later }
def ReflogReplayMatchesSpecUptoCardSaid : Prop := Claim7.holds Tryd.pinned (.plain (OpenSpec.upto reflogReplayMatchesSpecSpec)) reflogReplayMatchesSpecUptoCard

/-- THE SECOND FORM's CARD OF 'changeforgelaw3.ReflogExpireKeepsStates'. -/
def reflogExpireKeepsStatesUptoCard : Claim7 := { stood := { row := reflogExpireKeepsStatesUptoRow, standIns := [], harness := (true, "d0ba9ffbcfefa3dc3e700290af4f1aaa0320981f72d6bef06d4522631d386b19"), looks := false }, kinds := [], alts := [], laidByText := true, laidKinds := [.data, .pinned], laidTests := true, laidLooks := .later }
def ReflogExpireKeepsStatesUptoCardSaid : Prop := Claim7.holds Tryd.pinned (.plain (OpenSpec.upto reflogExpireKeepsStatesSpec)) reflogExpireKeepsStatesUptoCard

/-- THE SECOND FORM's CARD OF 'changeforgelaw3.ReflogNamesIndependent'. -/
def reflogNamesIndependentUptoCard : Claim7 := { stood := { row := reflogNamesIndependentUptoRow, standIns := [], harness := (true, "d0ba9ffbcfefa3dc3e700290af4f1aaa0320981f72d6bef06d4522631d386b19"), looks := false }, kinds := [], alts := [], laidByText := true, laidKinds := [.data, .pinned], laidTests := true, laidLooks := .later }
def ReflogNamesIndependentUptoCardSaid : Prop := Claim7.holds Tryd.pinned (.plain (OpenSpec.upto reflogNamesIndependentSpec)) reflogNamesIndependentUptoCard

/-- THE SECOND FORM's CARD OF 'changeforgelaw3.ReflogUndoRestores'. -/
def reflogUndoRestoresUptoCard : Claim7 := { stood := { row := reflogUndoRestoresUptoRow, standIns := [], harness := (true, "d0ba9ffbcfefa3dc3e700290af4f1aaa0320981f72d6bef06d4522631d386b19"), looks := false }, kinds := [], alts := [], laidByText := true, laidKinds := [.data, .pinned], laidTests := true, laidLooks := .later }
def ReflogUndoRestoresUptoCardSaid : Prop := Claim7.holds Tryd.pinned (.plain (OpenSpec.upto reflogUndoRestoresSpec)) reflogUndoRestoresUptoCard

/-- THE SECOND FORM's CARD OF 'changeforgelaw3.ReflogAppendMatchesSpec'. -/
def reflogAppendMatchesSpecUptoCard : Claim7 := { stood := { row := reflogAppendMatchesSpecUptoRow, standIns := [], harness := (true, "d0ba9ffbcfefa3dc3e700290af4f1aaa0320981f72d6bef06d4522631d386b19"), looks := false }, kinds := [], alts := [], laidByText := true, laidKinds := [.data, .pinned], laidTests := true, laidLooks := .later }
def ReflogAppendMatchesSpecUptoCardSaid : Prop := Claim7.holds Tryd.pinned (.plain (OpenSpec.upto reflogAppendMatchesSpecSpec)) reflogAppendMatchesSpecUptoCard
end Rows
end Go.Proofs.YtfbbgnhelannjaaDoor
