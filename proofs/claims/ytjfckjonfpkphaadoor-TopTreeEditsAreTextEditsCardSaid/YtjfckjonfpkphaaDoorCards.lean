/-
  DERIVED. GIVEN WITH THE SEED: THE CARDS: each row of YtjfckjonfpkphaaDoorRows.lean that lists a variable, with what it lists TIED to the program's text (the seventh form; the later family's looks); each row that meets fmt, with fmt's text TOLD by the authors' own Lean function (tested against real Go, not proved from fmt's source: count such statements apart). THE CARD IS WHAT COUNTS. Prove the row's statement (the work); the ties are given (YtjfckjonfpkphaaDoorTie.lean); close each card by the builder's one call (the guide's Derived/Test/ToyasCard.lean, 'card_holds'). Laid BY PROGRAM, IN A SANDBOX (cutbox-door.mjs). By AI agents, Wed Nov 11 2026. No macro, syntax, notation, axiom, sorry.
-/
import Derived.Test.YtjfckjonfpkphaaDoorRows
import GoSem.ClaimSeven
namespace Go.Proofs.YtjfckjonfpkphaaDoor
namespace Rows

/-- THE TIED CARD OF 'changeforgetop.TopTreeEditsAreTextEdits'. -/
def topTreeEditsAreTextEditsCard : Claim7 := { stood := { row := topTreeEditsAreTextEditsRow, standIns := [], harness := (true, "379ab2d72bedf45146c022c6e23f99717141094fec8d7cd9a0557e2ee228645d"), looks := false }, kinds := [], alts := [], laidByText := true, laidKinds := [.data, .pinned], laidTests := true, laidLooks := .later }
def TopTreeEditsAreTextEditsCardSaid : Prop := Claim7.holds Tryd.pinned (.plain (OpenSpec.ofChange topTreeEditsAreTextEditsSpec)) topTreeEditsAreTextEditsCard

/-- THE SECOND FORM's CARD OF 'changeforgetop.TopTreeEditsAreTextEdits'. -/
def topTreeEditsAreTextEditsUptoCard : Claim7 := { stood := { row := topTreeEditsAreTextEditsUptoRow, standIns := [], harness := (true, "379ab2d72bedf45146c022c6e23f99717141094fec8d7cd9a0557e2ee228645d"), looks := false }, kinds := [], alts := [], laidByText := true, laidKinds := [.data, .pinned], laidTests := true, laidLooks := .later }
def TopTreeEditsAreTextEditsUptoCardSaid : Prop := Claim7.holds Tryd.pinned (.plain (OpenSpec.upto topTreeEditsAreTextEditsSpec)) topTreeEditsAreTextEditsUptoCard
end Rows
end Go.Proofs.YtjfckjonfpkphaaDoor
