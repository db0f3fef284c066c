/-
  NARROWER THAN 'FOR EVERY INPUT', by the rows' own cells (each row's printed sentence says how): TreeobjWriteMatchesSpec: laid · TreeobjRoundTrip: laid · TreeobjSharing: laid · TreeobjReadMatchesSpec: laid · TreeobjChangedSymmetric: laid.
  DERIVED. THE GIVEN ROWS OF THIS SEAT. 5 by the template 'for every input the law returns true; each argument reads behind the call as it read before'; 0 by the template 'total and deterministic' (their statements: YtjljknocnebnaaaDoorTotals.lean).
  GIVEN WITH THE SEED: the statements are not yours to turn. If you find one false, say at which input.
  Laid BY PROGRAM, IN A SANDBOX (cutbox-rows.mjs): the forced cells as the released guide's own fill.sh prints them over the translation 77b65d83db7f9eae… (all of the seat's roots in one cut). By AI agents, Wed Nov 11 2026. No macro, syntax, notation, axiom, sorry.
-/
import Derived.Test.YtjljknocnebnaaaDoorChecked
import GoSem.PinnedTables
import GoSem.Claim
import GoSem.ClaimJoined
import GoSem.ClaimMapViews
import Derived.JoinedTies
import Derived.KernelRfl
namespace Go.Proofs.YtjljknocnebnaaaDoor
/- THE CELL 'sum', in the pinned program and in every row, IS THE sha256 OF THE DUMP (.gsa) THAT YtjljknocnebnaaaDoorProg.lean LOADS. Nothing in Lean hashes anything: it is a label: what it is worth is what the hold of that sum in a sandbox is worth. -/
noncomputable def Tryd.pinned : Pinned := { name := "ytjljknocnebnaaadoor", sum := "77b65d83db7f9eaedd4c3505d8c114d05962f9b75882e651c23cd796cfd0de44", checked := Tryd.checked }
namespace Rows
def none {H : Type} : Left H := { results := [], args := [] }

/- WHAT THE LISTED PACKAGE-LEVEL VARIABLES READ AS WHEN THE CALL BEGINS. Each datum BY PROGRAM (the guide's laid-datum.mjs) off the statement by which the dump's own 'gosem.cut.vars' lays the variable. In a bare row this is a premise. The card (YtjljknocnebnaaaDoorCards.lean) ties it to the program's text. -/
def laid_unicode_utf8_acceptRanges {H : Type} : DataW H := .agg [.agg [.lit (.int .u8 128), .lit (.int .u8 191)], .agg [.lit (.int .u8 160), .lit (.int .u8 191)], .agg [.lit (.int .u8 128), .lit (.int .u8 159)], .agg [.lit (.int .u8 144), .lit (.int .u8 191)], .agg [.lit (.int .u8 128), .lit (.int .u8 143)], .agg [.lit (.int .u8 0), .lit (.int .u8 0)], .agg [.lit (.int .u8 0), .lit (.int .u8 0)], .agg [.lit (.int .u8 0), .lit (.int .u8 0)], .agg [.lit (.int .u8 0), .lit (.int .u8 0)], .agg [.lit (.int .u8 0), .lit (.int .u8 0)], .agg [.lit (.int .u8 0), .lit (.int .u8 0)], .agg [.lit (.int .u8 0), .lit (.int .u8 0)], .agg [.lit (.int .u8 0), .lit (.int .u8 0)], .agg [.lit (.int .u8 0), .lit (.int .u8 0)], .agg [.lit (.int .u8 0), .lit (.int .u8 0)], .agg [.lit (.int .u8 0), .lit (.int .u8 0)]]
/-- One of Go's own tables, pinned by name: the form's constant. -/
def laid_unicode_utf8_first : DataW Unit := Go.Pinned.utf8First

/-- 'changeforgelaw3.TreeobjWriteMatchesSpec': WHATEVER THE INPUT: true; the input reads as it did. -/
def treeobjWriteMatchesSpecSpec : ChangeSpec := { name := "treeobjWriteMatchesSpec", fn := fun _ => fun
  | [d1, d2] => { results := [.lit (.bool true)], args := [d1, d2] }
  | _ => none }
def treeobjWriteMatchesSpecRow : OpenClaim := { program := "ytjljknocnebnaaadoor", sum := "77b65d83db7f9eaedd4c3505d8c114d05962f9b75882e651c23cd796cfd0de44", func := "changeforge/changeforgelaw3.TreeobjWriteMatchesSpec", spec := "treeobjWriteMatchesSpec", inPlace := ["internal/bytealg.IndexByteString", "internal/bytealg.IndexString", "slices.overlaps[changeforge/api.StoredObject]", "internal/bytealg.CountString"], unfollowed := true, recurses := true, named := ["unicode/utf8.first", "unicode/utf8.acceptRanges", "internal/bytealg.MaxLen"], apart := false, laid := [("unicode/utf8.acceptRanges", laid_unicode_utf8_acceptRanges), ("unicode/utf8.first", laid_unicode_utf8_first)] }
def TreeobjWriteMatchesSpecSaid : Prop := treeobjWriteMatchesSpecRow.holds Tryd.pinned (OpenSpec.ofChange treeobjWriteMatchesSpecSpec)

/-- ITS FALSE NEIGHBOUR: 'it returns false'. Refute it at one input. -/
def treeobjWriteMatchesSpecWrong : ChangeSpec := { name := "treeobjWriteMatchesSpec", fn := fun _ => fun
  | [d1, d2] => { results := [.lit (.bool false)], args := [d1, d2] }
  | _ => none }
def TreeobjWriteMatchesSpecWrongFalsely : Prop := treeobjWriteMatchesSpecRow.holds Tryd.pinned (OpenSpec.ofChange treeobjWriteMatchesSpecWrong)

/-- 'changeforgelaw3.TreeobjRoundTrip': WHATEVER THE INPUT: true; the input reads as it did. -/
def treeobjRoundTripSpec : ChangeSpec := { name := "treeobjRoundTrip", fn := fun _ => fun
  | [d1, d2] => { results := [.lit (.bool true)], args := [d1, d2] }
  | _ => none }
def treeobjRoundTripRow : OpenClaim := { program := "ytjljknocnebnaaadoor", sum := "77b65d83db7f9eaedd4c3505d8c114d05962f9b75882e651c23cd796cfd0de44", func := "changeforge/changeforgelaw3.TreeobjRoundTrip", spec := "treeobjRoundTrip", inPlace := ["internal/bytealg.IndexByteString", "internal/bytealg.IndexString", "slices.overlaps[changeforge/api.StoredObject]", "internal/bytealg.CountString"], unfollowed := true, recurses := true, named := ["unicode/utf8.first", "unicode/utf8.acceptRanges", "internal/bytealg.MaxLen"], apart := false, laid := [("unicode/utf8.acceptRanges", laid_unicode_utf8_acceptRanges), ("unicode/utf8.first", laid_unicode_utf8_first)] }
def TreeobjRoundTripSaid : Prop := treeobjRoundTripRow.holds Tryd.pinned (OpenSpec.ofChange treeobjRoundTripSpec)

/-- ITS FALSE NEIGHBOUR: 'it returns false'. Refute it at one input. -/
def treeobjRoundTripWrong : ChangeSpec := { name := "treeobjRoundTrip", fn := fun _ => fun
  | [d1, d2] => { results := [.lit (.bool false)], args := [d1, d2] }
  | _ => none }
def TreeobjRoundTripWrongFalsely : Prop := treeobjRoundTripRow.holds Tryd.pinned (OpenSpec.ofChange treeobjRoundTripWrong)

/-- 'changeforgelaw3.TreeobjSharing': WHATEVER THE INPUT: true; the input reads as it did. -/
def treeobjSharingSpec : ChangeSpec := { name := "treeobjSharing", fn := fun _ => fun
  | [d1, d2] => { results := [.lit (.bool true)], args := [d1, d2] }
  | _ => none }
def treeobjSharingRow : OpenClaim := { program := "ytjljknocnebnaaadoor", sum := "77b65d83db7f9eaedd4c3505d8c114d05962f9b75882e651c23cd796cfd0de44", func := "changeforge/changeforgelaw3.TreeobjSharing", spec := "treeobjSharing", inPlace := ["internal/bytealg.IndexByteString", "internal/bytealg.IndexString", "slices.overlaps[changeforge/api.StoredObject]", "internal/bytealg.CountString"], unfollowed := true, recurses := true, named := ["unicode/utf8.first", "unicode/utf8.acceptRanges", "internal/bytealg.MaxLen"], apart := false, laid := [("unicode/utf8.acceptRanges", laid_unicode_utf8_acceptRanges), ("unicode/utf8.first", laid_unicode_utf8_first)] }
def TreeobjSharingSaid : Prop := treeobjSharingRow.holds Tryd.pinned (OpenSpec.ofChange treeobjSharingSpec)

/-- ITS FALSE NEIGHBOUR: 'it returns false'. Refute it at one input. -/
def treeobjSharingWrong : ChangeSpec := { name := "treeobjSharing", fn := fun _ => fun
  | [d1, d2] => { results := [.lit (.bool false)], args := [d1, d2] }
  | _ => none }
def TreeobjSharingWrongFalsely : Prop := treeobjSharingRow.holds Tryd.pinned (OpenSpec.ofChange treeobjSharingWrong)

/-- 'changeforgelaw3.TreeobjReadMatchesSpec': WHATEVER THE INPUT: true; the input reads as it did. -/
def treeobjReadMatchesSpecSpec : ChangeSpec := { name := "treeobjReadMatchesSpec", fn := fun _ => fun
  | [d1, d2] => { results := [.lit (.bool true)], args := [d1, d2] }
  | _ => none }
def treeobjReadMatchesSpecRow : OpenClaim := { program := "ytjljknocnebnaaadoor", sum := "77b65d83db7f9eaedd4c3505d8c114d05962f9b75882e651c23cd796cfd0de44", func := "changeforge/changeforgelaw3.TreeobjReadMatchesSpec", spec := "treeobjReadMatchesSpec", inPlace := ["internal/bytealg.IndexByteString", "internal/bytealg.IndexString", "slices.overlaps[changeforge/api.StoredObject]", "internal/bytealg.CountString"], unfollowed := true, recurses := true, named := ["unicode/utf8.first", "unicode/utf8.acceptRanges", "internal/bytealg.MaxLen"], apart := false, laid := [("unicode/utf8.acceptRanges", laid_unicode_utf8_acceptRanges), ("unicode/utf8.first", laid_unicode_utf8_first)] }
def TreeobjReadMatchesSpecSaid : Prop := treeobjReadMatchesSpecRow.holds Tryd.pinned (OpenSpec.ofChange treeobjReadMatchesSpecSpec)

/-- ITS FALSE NEIGHBOUR: 'it returns false'. Refute it at one input. -/
def treeobjReadMatchesSpecWrong : ChangeSpec := { name := "treeobjReadMatchesSpec", fn := fun _ => fun
  | [d1, d2] => { results := [.lit (.bool false)], args := [d1, d2] }
  | _ => none }
def TreeobjReadMatchesSpecWrongFalsely : Prop := treeobjReadMatchesSpecRow.holds Tryd.pinned (OpenSpec.ofChange treeobjReadMatchesSpecWrong)

/-- 'changeforgelaw3.TreeobjChangedSymmetric': WHATEVER THE INPUT: true; the input reads as it did. -/
def treeobjChangedSymmetricSpec : ChangeSpec := { name := "treeobjChangedSymmetric", fn := fun _ => fun
  | [d1, d2, d3] => { results := [.lit (.bool true)], args := [d1, d2, d3] }
  | _ => none }
def treeobjChangedSymmetricRow : OpenClaim := { program := "ytjljknocnebnaaadoor", sum := "77b65d83db7f9eaedd4c3505d8c114d05962f9b75882e651c23cd796cfd0de44", func := "changeforge/changeforgelaw3.TreeobjChangedSymmetric", spec := "treeobjChangedSymmetric", inPlace := ["internal/bytealg.IndexByteString", "internal/bytealg.IndexString", "slices.overlaps[changeforge/api.StoredObject]", "internal/bytealg.CountString"], unfollowed := true, recurses := true, named := ["unicode/utf8.first", "unicode/utf8.acceptRanges", "internal/bytealg.MaxLen"], apart := false, laid := [("unicode/utf8.acceptRanges", laid_unicode_utf8_acceptRanges), ("unicode/utf8.first", laid_unicode_utf8_first)] }
def TreeobjChangedSymmetricSaid : Prop := treeobjChangedSymmetricRow.holds Tryd.pinned (OpenSpec.ofChange treeobjChangedSymmetricSpec)

/-- ITS FALSE NEIGHBOUR: 'it returns false'. Refute it at one input. -/
def treeobjChangedSymmetricWrong : ChangeSpec := { name := "treeobjChangedSymmetric", fn := fun _ => fun
  | [d1, d2, d3] => { results := [.lit (.bool false)], args := [d1, d2, d3] }
  | _ => none }
def TreeobjChangedSymmetricWrongFalsely : Prop := treeobjChangedSymmetricRow.holds Tryd.pinned (OpenSpec.ofChange treeobjChangedSymmetricWrong)

/- THE SECOND FORM. 'bulk': how many values and letters a reading holds, each counted each time it is reached (what is shared counts as often as it is met; a slice's spare places count too). A statement '..UptoSaid' is the law's where the arguments, and the package variables that the reading takes, are together of bulk at most 1048576: NARROWER than '..Said'. Prove '..Said' where nothing that the law and all that it calls make is longer than what came in: it says more and counts as full. Else prove '..UptoSaid'. A law counts once. -/
mutual
def uptoBulk {H : Type} : DataW H → Nat
  | .lit (.string bytes) => bytes.length + 1
  | .lit _ => 1
  | .nil => 1
  | .ptr d => uptoBulk d + 1
  | .slice elems spare => uptoBulkAll elems + uptoBulkAll spare + 1
  | .agg parts => uptoBulkAll parts + 1
  | .iface _ d => uptoBulk d + 1
  | .map entries => uptoBulkEntries entries + 1
  | .held _ => 1
def uptoBulkAll {H : Type} : List (DataW H) → Nat
  | [] => 0
  | d :: r => uptoBulk d + uptoBulkAll r
def uptoBulkEntries {H : Type} : List (Lit × DataW H) → Nat
  | [] => 0
  | x :: r => uptoBulkEntry x + uptoBulkEntries r
def uptoBulkEntry {H : Type} : Lit × DataW H → Nat
  | (.string bytes, d) => bytes.length + uptoBulk d + 1
  | (_, d) => uptoBulk d + 1
 end
def uptoSmall : (H : Type) → List (DataW H) → Bool := fun _ ds => decide (uptoBulkAll ds ≤ 1048576)
def OpenSpec.upto (s : _root_.Go.ChangeSpec) : _root_.Go.OpenSpec := { _root_.Go.OpenSpec.ofChange s with cond := some uptoSmall }

/-- 'changeforgelaw3.TreeobjWriteMatchesSpec', WHERE WHAT IT READS IS OF BULK AT MOST 1048576: true; the input reads as it did. -/
def treeobjWriteMatchesSpecUptoRow : OpenClaim := { program := "ytjljknocnebnaaadoor", sum := "77b65d83db7f9eaedd4c3505d8c114d05962f9b75882e651c23cd796cfd0de44", func := "changeforge/changeforgelaw3.TreeobjWriteMatchesSpec", spec := "treeobjWriteMatchesSpec", inPlace := ["internal/bytealg.IndexByteString", "internal/bytealg.IndexString", "slices.overlaps[changeforge/api.StoredObject]", "internal/bytealg.CountString"], unfollowed := true, recurses := true, named := ["unicode/utf8.first", "unicode/utf8.acceptRanges", "internal/bytealg.MaxLen"], apart := false, laid := [("unicode/utf8.acceptRanges", laid_unicode_utf8_acceptRanges), ("unicode/utf8.first", laid_unicode_utf8_first)], narrowed := true }
def TreeobjWriteMatchesSpecUptoSaid : Prop := treeobjWriteMatchesSpecUptoRow.holds Tryd.pinned (OpenSpec.upto treeobjWriteMatchesSpecSpec)

/-- 'changeforgelaw3.TreeobjRoundTrip', WHERE WHAT IT READS IS OF BULK AT MOST 1048576: true; the input reads as it did. -/
def treeobjRoundTripUptoRow : OpenClaim := { program := "ytjljknocnebnaaadoor", sum := "77b65d83db7f9eaedd4c3505d8c114d05962f9b75882e651c23cd796cfd0de44", func := "changeforge/changeforgelaw3.TreeobjRoundTrip", spec := "treeobjRoundTrip", inPlace := ["internal/bytealg.IndexByteString", "internal/bytealg.IndexString", "slices.overlaps[changeforge/api.StoredObject]", "internal/bytealg.CountString"], unfollowed := true, recurses := true, named := ["unicode/utf8.first", "unicode/utf8.acceptRanges", "internal/bytealg.MaxLen"], apart := false, laid := [("unicode/utf8.acceptRanges", laid_unicode_utf8_acceptRanges), ("unicode/utf8.first", laid_unicode_utf8_first)], narrowed := true }
def TreeobjRoundTripUptoSaid : Prop := treeobjRoundTripUptoRow.holds Tryd.pinned (OpenSpec.upto treeobjRoundTripSpec)

/-- 'changeforgelaw3.TreeobjSharing', WHERE WHAT IT READS IS OF BULK AT MOST 1048576: true; the input reads as it did. -/
def treeobjSharingUptoRow : OpenClaim := { program := "ytjljknocnebnaaadoor", sum := "77b65d83db7f9eaedd4c3505d8c114d05962f9b75882e651c23cd796cfd0de44", func := "changeforge/changeforgelaw3.TreeobjSharing", spec := "treeobjSharing", inPlace := ["internal/bytealg.IndexByteString", "internal/bytealg.IndexString", "slices.overlaps[changeforge/api.StoredObject]", "internal/bytealg.CountString"], unfollowed := true, recurses := true, named := ["unicode/utf8.first", "unicode/utf8.acceptRanges", "internal/bytealg.MaxLen"], apart := false, laid := [("unicode/utf8.acceptRanges", laid_unicode_utf8_acceptRanges), ("unicode/utf8.first", laid_unicode_utf8_first)], narrowed := true }
def TreeobjSharingUptoSaid : Prop := treeobjSharingUptoRow.holds Tryd.pinned (OpenSpec.upto treeobjSharingSpec)

/-- 'changeforgelaw3.TreeobjReadMatchesSpec', WHERE WHAT IT READS IS OF BULK AT MOST 1048576: true; the input reads as it did. -/
def treeobjReadMatchesSpecUptoRow : OpenClaim := { program := "ytjljknocnebnaaadoor", sum := "77b65d83db7f9eaedd4c3505d8c114d05962f9b75882e651c23cd796cfd0de44", func := "changeforge/changeforgelaw3.TreeobjReadMatchesSpec", spec := "treeobjReadMatchesSpec", inPlace := ["internal/bytealg.IndexByteString", "internal/bytealg.IndexString", "slices.overlaps[changeforge/api.StoredObject]", "internal/bytealg.CountString"], unfollowed := true, recurses := true, named := ["unicode/utf8.first", "unicode/utf8.acceptRanges", "internal/bytealg.MaxLen"], apart := false, laid := [("unicode/utf8.acceptRanges", laid_unicode_utf8_acceptRanges), ("unicode/utf8.first", laid_unicode_utf8_first)], narrowed := true }
def TreeobjReadMatchesSpecUptoSaid : Prop := treeobjReadMatchesSpecUptoRow.holds Tryd.pinned (OpenSpec.upto treeobjReadMatchesSpecSpec)

/-- 'changeforgelaw3.TreeobjChangedSymmetric', WHERE WHAT IT READS IS OF BULK AT MOST 1048576: true; the input reads as it did. -/
def treeobjChangedSymmetricUptoRow : OpenClaim := { program := "ytjljknocnebnaaadoor", sum := "77b65d83db7f9eaedd4c3505d8c114d05962f9b75882e651c23cd796cfd0de44", func := "changeforge/changeforgelaw3.TreeobjChangedSymmetric", spec := "treeobjChangedSymmetric", inPlace := ["internal/bytealg.IndexByteString", "internal/bytealg.IndexString", "slices.overlaps[changeforge/api.StoredObject]", "internal/bytealg.CountString"], unfollowed := true, recurses := true, named := ["unicode/utf8.first", "unicode/utf8.acceptRanges", "internal/bytealg.MaxLen"], apart := false, laid := [("unicode/utf8.acceptRanges", laid_unicode_utf8_acceptRanges), ("unicode/utf8.first", laid_unicode_utf8_first)], narrowed := true }
def TreeobjChangedSymmetricUptoSaid : Prop := treeobjChangedSymmetricUptoRow.holds Tryd.pinned (OpenSpec.upto treeobjChangedSymmetricSpec)

end Rows
end Go.Proofs.YtjljknocnebnaaaDoor
