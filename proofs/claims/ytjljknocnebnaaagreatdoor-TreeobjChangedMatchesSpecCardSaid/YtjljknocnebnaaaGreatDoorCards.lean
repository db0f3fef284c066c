/-
  DERIVED. GIVEN WITH THE SEED: THE CARDS: each row of YtjljknocnebnaaaGreatDoorRows.lean that lists a variable, with what it lists TIED to the program's text (the seventh form; the later family's looks); each row that meets fmt, with fmt's text TOLD by the authors' own Lean function (tested against real Go, not proved from fmt's source: count such statements apart). THE CARD IS WHAT COUNTS. Prove the row's statement (the work); the ties are given (YtjljknocnebnaaaGreatDoorTie.lean); close each card by the builder's one call (the guide's Derived/Test/ToyasCard.lean, 'card_holds'). Laid BY PROGRAM, IN A SANDBOX (cutbox-door.mjs). By AI agents, Wed Nov 11 2026. No macro, syntax, notation, axiom, sorry.
-/
import Derived.Test.YtjljknocnebnaaaGreatDoorRows
import GoSem.ClaimSeven
namespace Go.Proofs.YtjljknocnebnaaaGreatDoor
namespace Rows

/-- THE TIED CARD OF 'changeforgelaw3.TreeobjChangedMatchesSpec'. -/
def treeobjChangedMatchesSpecCard : Claim7 := { stood := { row := treeobjChangedMatchesSpecRow, standIns := [], harness := (true, "6bb22fb4edd01b9bc615271df03c04f8a2e992ce4b0e881cf39dcbc379957fea"), looks := false }, kinds := [], alts := [], laidByText := true, laidKinds := [.data, .pinned], laidTests := true, laidLooks := .later }
def TreeobjChangedMatchesSpecCardSaid : Prop := Claim7.holds Tryz.pinned (.plain (OpenSpec.ofChange treeobjChangedMatchesSpecSpec)) treeobjChangedMatchesSpecCard

/-- THE SECOND FORM's CARD OF 'changeforgelaw3.TreeobjChangedMatchesSpec'. -/
def treeobjChangedMatchesSpecUptoCard : Claim7 := { stood := { row := treeobjChangedMatchesSpecUptoRow, standIns := [], harness := (true, "6bb22fb4edd01b9bc615271df03c04f8a2e992ce4b0e881cf39dcbc379957fea"), looks := false }, kinds := [], alts := [], laidByText := true, laidKinds := [.data, .pinned], laidTests := true, laidLooks := .later }
def TreeobjChangedMatchesSpecUptoCardSaid : Prop := Claim7.holds Tryz.pinned (.plain (OpenSpec.upto treeobjChangedMatchesSpecSpec)) treeobjChangedMatchesSpecUptoCard
end Rows
end Go.Proofs.YtjljknocnebnaaaGreatDoor
