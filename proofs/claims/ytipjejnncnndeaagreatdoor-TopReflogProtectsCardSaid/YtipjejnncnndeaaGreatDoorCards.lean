/-
  DERIVED. GIVEN WITH THE SEED: THE CARDS: each row of YtipjejnncnndeaaGreatDoorRows.lean that lists a variable, with what it lists TIED to the program's text (the seventh form; the later family's looks); each row that meets fmt, with fmt's text TOLD by the authors' own Lean function (tested against real Go, not proved from fmt's source: count such statements apart). THE CARD IS WHAT COUNTS. Prove the row's statement (the work); the ties are given (YtipjejnncnndeaaGreatDoorTie.lean); close each card by the builder's one call (the guide's Derived/Test/ToyasCard.lean, 'card_holds'). Laid BY PROGRAM, IN A SANDBOX (cutbox-door.mjs). By AI agents, Wed Nov 11 2026. No macro, syntax, notation, axiom, sorry.
-/
import Derived.Test.YtipjejnncnndeaaGreatDoorRows
import GoSem.ClaimSeven
namespace Go.Proofs.YtipjejnncnndeaaGreatDoor
namespace Rows

/-- THE TIED CARD OF 'changeforgetop.TopReflogProtects'. -/
def topReflogProtectsCard : Claim7 := { stood := { row := topReflogProtectsRow, standIns := [], harness := (true, "1a0415b71690c37127b6562c22ae795a0e15923c2d7e6df86d250c303d821c76"), looks := false }, kinds := [], alts := [], laidByText := true, laidKinds := [.data, .pinned], laidTests := true, laidLooks := .later }
def TopReflogProtectsCardSaid : Prop := Claim7.holds Tryz.pinned (.plain (OpenSpec.ofChange topReflogProtectsSpec)) topReflogProtectsCard

/-- THE SECOND FORM's CARD OF 'changeforgetop.TopReflogProtects'. -/
def topReflogProtectsUptoCard : Claim7 := { stood := { row := topReflogProtectsUptoRow, standIns := [], harness := (true, "1a0415b71690c37127b6562c22ae795a0e15923c2d7e6df86d250c303d821c76"), looks := false }, kinds := [], alts := [], laidByText := true, laidKinds := [.data, .pinned], laidTests := true, laidLooks := .later }
def TopReflogProtectsUptoCardSaid : Prop := Claim7.holds Tryz.pinned (.plain (OpenSpec.upto topReflogProtectsSpec)) topReflogProtectsUptoCard
end Rows
end Go.Proofs.YtipjejnncnndeaaGreatDoor
