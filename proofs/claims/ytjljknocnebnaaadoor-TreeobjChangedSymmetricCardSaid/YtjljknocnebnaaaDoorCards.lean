/-
  DERIVED. GIVEN WITH THE SEED: THE CARDS: each row of YtjljknocnebnaaaDoorRows.lean that lists a variable, with what it lists TIED to the program's text (the seventh form; the later family's looks); each row that meets fmt, with fmt's text TOLD by the authors' own Lean function (tested against real Go, not proved from fmt's source: count such statements apart). THE CARD IS WHAT COUNTS. Prove the row's statement (the work); the ties are given (YtjljknocnebnaaaDoorTie.lean); close each card by the builder's one call (the guide's Derived/Test/ToyasCard.lean, 'card_holds'). Laid BY PROGRAM, IN A SANDBOX (cutbox-door.mjs). By AI agents, Wed Nov 11 2026. No macro, syntax, notation, axiom, sorry.
-/
import Derived.Test.YtjljknocnebnaaaDoorRows
import GoSem.ClaimSeven
namespace Go.Proofs.YtjljknocnebnaaaDoor
namespace Rows

/-- THE TIED CARD OF 'changeforgelaw3.TreeobjWriteMatchesSpec'. -/
def treeobjWriteMatchesSpecCard : Claim7 := { stood := { row := treeobjWriteMatchesSpecRow, standIns := [], harness := (true, "5c6663b9c1e28b7ce3ae56d09bd65d04e789f6b441192335be9b07b24ab6efe0"), looks := false }, kinds := [], alts := [], laidByText := true, laidKinds := [.data, .pinned], laidTests := true, laidLooks := .later }
def TreeobjWriteMatchesSpecCardSaid : Prop := Claim7.holds Tryd.pinned (.plain (OpenSpec.ofChange treeobjWriteMatchesSpecSpec)) treeobjWriteMatchesSpecCard

/-- THE TIED CARD OF 'changeforgelaw3.TreeobjRoundTrip'. -/
def treeobjRoundTripCard : Claim7 := { stood := { row := treeobjRoundTripRow, standIns := [], harness := (true, "5c6663b9c1e28b7ce3ae56d09bd65d04e789f6b441192335be9b07b24ab6efe0"), looks := false }, kinds := [], alts := [], laidByText := true, laidKinds := [.data, .pinned], laidTests := true, laidLooks := .later }
def TreeobjRoundTripCardSaid : Prop := Claim7.holds Tryd.pinned (.plain (OpenSpec.ofChange treeobjRoundTripSpec)) treeobjRoundTripCard

/-- THE TIED CARD OF 'changeforgelaw3.TreeobjSharing'. -/
def treeobjSharingCard : Claim7 := { stood := { row := treeobjSharingRow, standIns := [], harness := (true, "5c6663b9c1e28b7ce3ae56d09bd65d04e789f6b441192335be9b07b24ab6efe0"), looks := false }, kinds := [], alts := [], laidByText := true, laidKinds := [.data, .pinned], laidTests := true, laidLooks := .later }
def TreeobjSharingCardSaid : Prop := Claim7.holds Tryd.pinned (.plain (OpenSpec.ofChange treeobjSharingSpec)) treeobjSharingCard

/-- THE TIED CARD OF 'changeforgelaw3.TreeobjReadMatchesSpec'. -/
def treeobjReadMatchesSpecCard : Claim7 := { stood := { row := treeobjReadMatchesSpecRow, standIns := [], harness := (true, "5c6663b9c1e28b7ce3ae56d09bd65d04e789f6b441192335be9b07b24ab6efe0"), looks := false }, kinds := [], alts := [], laidByText := true, laidKinds := [.data, .pinned], laidTests := true, laidLooks := .later }
def TreeobjReadMatchesSpecCardSaid : Prop := Claim7.holds Tryd.pinned (.plain (OpenSpec.ofChange treeobjReadMatchesSpecSpec)) treeobjReadMatchesSpecCard

/-- THE TIED CARD OF 'changeforgelaw3.TreeobjChangedSymmetric'. -/
def treeobjChangedSymmetricCard : Claim7 := { stood := { row := treeobjChangedSymmetricRow, standIns := [], harness := (true, "5c6663b9c1e28b7ce3ae56d09bd65d04e789f6b441192335be9b07b24ab6efe0"), looks := false }, kinds := [], alts := [], laidByText := true, laidKinds := [.data, .pinned], laidTests := true, laidLooks := .later }
def TreeobjChangedSymmetricCardSaid : Prop := Claim7.holds Tryd.pinned (.plain (OpenSpec.ofChange treeobjChangedSymmetricSpec)) treeobjChangedSymmetricCard

/-- THE SECOND FORM's CARD OF 'changeforgelaw3.TreeobjWriteMatchesSpec'. -/
def treeobjWriteMatchesSpecUptoCard : Claim7 := { stood := { row := treeobjWriteMatchesSpecUptoRow, standIns := [], harness := (true, "5c6663b9c1e28b7ce3ae56d09bd65d04e789f6b441192335be9b07b24ab6efe0"), looks := false }, kinds := [], alts := [], laidByText := true, laidKinds := [.data, .pinned], laidTests := true, laidLooks := .later }
def TreeobjWriteMatchesSpecUptoCardSaid : Prop := Claim7.holds Tryd.pinned (.plain (OpenSpec.upto treeobjWriteMatchesSpecSpec)) treeobjWriteMatchesSpecUptoCard

/-- THE SECOND FORM's CARD OF 'changeforgelaw3.TreeobjRoundTrip'. -/
def treeobjRoundTripUptoCard : Claim7 := { stood := { row := treeobjRoundTripUptoRow, standIns := [], harness := (true, "5c6663b9c1e28b7ce3ae56d09bd65d04e789f6b441192335be9b07b24ab6efe0"), looks := false }, kinds := [], alts := [], laidByText := true, laidKinds := [.data, .pinned], laidTests := true, laidLooks := .later }
def TreeobjRoundTripUptoCardSaid : Prop := Claim7.holds Tryd.pinned (.plain (OpenSpec.upto treeobjRoundTripSpec)) treeobjRoundTripUptoCard

/-- THE SECOND FORM's CARD OF 'changeforgelaw3.TreeobjSharing'. -/
def treeobjSharingUptoCard : Claim7 := { stood := { row := treeobjSharingUptoRow, standIns := [], harness := (true, "5c6663b9c1e28b7ce3ae56d09bd65d04e789f6b441192335be9b07b24ab6efe0"), looks := false }, kinds := [], alts := [], laidByText := true, laidKinds := [.data, .pinned], laidTests := true, laidLooks := .later }
def TreeobjSharingUptoCardSaid : Prop := Claim7.holds Tryd.pinned (.plain (OpenSpec.upto treeobjSharingSpec)) treeobjSharingUptoCard

/-- THE SECOND FORM's CARD OF 'changeforgelaw3.TreeobjReadMatchesSpec'. -/
def treeobjReadMatchesSpecUptoCard : Claim7 := { stood := { row := treeobjReadMatchesSpecUptoRow, standIns := [], harness := (true, "5c6663b9c1e28b7ce3ae56d09bd65d04e789f6b441192335be9b07b24ab6efe0"), looks := false }, kinds := [], alts := [], laidByText := true, laidKinds := [.data, .pinned], laidTests := true, laidLooks := .later }
def TreeobjReadMatchesSpecUptoCardSaid : Prop := Claim7.holds Tryd.pinned (.plain (OpenSpec.upto treeobjReadMatchesSpecSpec)) treeobjReadMatchesSpecUptoCard

/-- THE SECOND FORM's CARD OF 'changeforgelaw3.TreeobjChangedSymmetric'. -/
def treeobjChangedSymmetricUptoCard : Claim7 := { stood := { row := treeobjChangedSymmetricUptoRow, standIns := [], harness := (true, "5c6663b9c1e28b7ce3ae56d09bd65d04e789f6b441192335be9b07b24ab6efe0"), looks := false }, kinds := [], alts := [], laidByText := true, laidKinds := [.data, .pinned], laidTests := true, laidLooks := .later }
def TreeobjChangedSymmetricUptoCardSaid : Prop := Claim7.holds Tryd.pinned (.plain (OpenSpec.upto treeobjChangedSymmetricSpec)) treeobjChangedSymmetricUptoCard
end Rows
end Go.Proofs.YtjljknocnebnaaaDoor
