/-
  No cell of these rows narrows 'for every input' (looked for: loops, veiled, ifaces, maps, wideKeys, modest, calm, conditions, laid).
  DERIVED. THE GIVEN ROWS OF THIS SEAT. 11 by the template 'for every input the law returns true; each argument reads behind the call as it read before'; 0 by the template 'total and deterministic' (their statements: YtiilhnfdlpgllaaTotals.lean).
  GIVEN WITH THE SEED: the statements are not yours to turn. If you find one false, say at which input.
  Laid BY PROGRAM, IN A SANDBOX (cutbox-rows.mjs): the forced cells as the released guide's own fill.sh prints them over the translation 8f962160edbc5b35… (all of the seat's roots in one cut). By AI agents, Wed Nov 11 2026. No macro, syntax, notation, axiom, sorry.
-/
import Derived.Test.YtiilhnfdlpgllaaChecked
import GoSem.Claim
import GoSem.ClaimJoined
import GoSem.ClaimMapViews
import Derived.JoinedTies
import Derived.KernelRfl
namespace Go.Proofs.Ytiilhnfdlpgllaa
/- THE CELL 'sum', in the pinned program and in every row, IS THE sha256 OF THE DUMP (.gsa) THAT YtiilhnfdlpgllaaProg.lean LOADS. Nothing in Lean hashes anything: it is a label: what it is worth is what the hold of that sum in a sandbox is worth. -/
noncomputable def Try.pinned : Pinned := { name := "ytiilhnfdlpgllaa", sum := "8f962160edbc5b35139cf709dbb4b66ea409c6730f44f14a64e2ba45d4fd6818", checked := Try.checked }
namespace Rows
def none {H : Type} : Left H := { results := [], args := [] }

/-- 'changeforgelaw3.PackBuildMatchesSpec': WHATEVER THE INPUT: true; the input reads as it did. -/
def packBuildMatchesSpecSpec : ChangeSpec := { name := "packBuildMatchesSpec", fn := fun _ => fun
  | [d] => { results := [.lit (.bool true)], args := [d] }
  | _ => none }
def packBuildMatchesSpecRow : OpenClaim := { program := "ytiilhnfdlpgllaa", sum := "8f962160edbc5b35139cf709dbb4b66ea409c6730f44f14a64e2ba45d4fd6818", func := "changeforge/changeforgelaw3.PackBuildMatchesSpec", spec := "packBuildMatchesSpec", apart := false }
def PackBuildMatchesSpecSaid : Prop := packBuildMatchesSpecRow.holds Try.pinned (OpenSpec.ofChange packBuildMatchesSpecSpec)

/-- ITS FALSE NEIGHBOUR: 'it returns false'. Refute it at one input. -/
def packBuildMatchesSpecWrong : ChangeSpec := { name := "packBuildMatchesSpec", fn := fun _ => fun
  | [d] => { results := [.lit (.bool false)], args := [d] }
  | _ => none }
def PackBuildMatchesSpecWrongFalsely : Prop := packBuildMatchesSpecRow.holds Try.pinned (OpenSpec.ofChange packBuildMatchesSpecWrong)

/-- 'changeforgelaw3.PackDetectsChange': WHATEVER THE INPUT: true; the input reads as it did. -/
def packDetectsChangeSpec : ChangeSpec := { name := "packDetectsChange", fn := fun _ => fun
  | [d1, d2, d3] => { results := [.lit (.bool true)], args := [d1, d2, d3] }
  | _ => none }
def packDetectsChangeRow : OpenClaim := { program := "ytiilhnfdlpgllaa", sum := "8f962160edbc5b35139cf709dbb4b66ea409c6730f44f14a64e2ba45d4fd6818", func := "changeforge/changeforgelaw3.PackDetectsChange", spec := "packDetectsChange", apart := false }
def PackDetectsChangeSaid : Prop := packDetectsChangeRow.holds Try.pinned (OpenSpec.ofChange packDetectsChangeSpec)

/-- ITS FALSE NEIGHBOUR: 'it returns false'. Refute it at one input. -/
def packDetectsChangeWrong : ChangeSpec := { name := "packDetectsChange", fn := fun _ => fun
  | [d1, d2, d3] => { results := [.lit (.bool false)], args := [d1, d2, d3] }
  | _ => none }
def PackDetectsChangeWrongFalsely : Prop := packDetectsChangeRow.holds Try.pinned (OpenSpec.ofChange packDetectsChangeWrong)

/-- 'changeforgelaw3.PackIndexCovers': WHATEVER THE INPUT: true; the input reads as it did. -/
def packIndexCoversSpec : ChangeSpec := { name := "packIndexCovers", fn := fun _ => fun
  | [d] => { results := [.lit (.bool true)], args := [d] }
  | _ => none }
def packIndexCoversRow : OpenClaim := { program := "ytiilhnfdlpgllaa", sum := "8f962160edbc5b35139cf709dbb4b66ea409c6730f44f14a64e2ba45d4fd6818", func := "changeforge/changeforgelaw3.PackIndexCovers", spec := "packIndexCovers", apart := false }
def PackIndexCoversSaid : Prop := packIndexCoversRow.holds Try.pinned (OpenSpec.ofChange packIndexCoversSpec)

/-- ITS FALSE NEIGHBOUR: 'it returns false'. Refute it at one input. -/
def packIndexCoversWrong : ChangeSpec := { name := "packIndexCovers", fn := fun _ => fun
  | [d] => { results := [.lit (.bool false)], args := [d] }
  | _ => none }
def PackIndexCoversWrongFalsely : Prop := packIndexCoversRow.holds Try.pinned (OpenSpec.ofChange packIndexCoversWrong)

/-- 'changeforgelaw3.PackRoundTrip': WHATEVER THE INPUT: true; the input reads as it did. -/
def packRoundTripSpec : ChangeSpec := { name := "packRoundTrip", fn := fun _ => fun
  | [d] => { results := [.lit (.bool true)], args := [d] }
  | _ => none }
def packRoundTripRow : OpenClaim := { program := "ytiilhnfdlpgllaa", sum := "8f962160edbc5b35139cf709dbb4b66ea409c6730f44f14a64e2ba45d4fd6818", func := "changeforge/changeforgelaw3.PackRoundTrip", spec := "packRoundTrip", unfollowed := true, recurses := true, apart := false }
def PackRoundTripSaid : Prop := packRoundTripRow.holds Try.pinned (OpenSpec.ofChange packRoundTripSpec)

/-- ITS FALSE NEIGHBOUR: 'it returns false'. Refute it at one input. -/
def packRoundTripWrong : ChangeSpec := { name := "packRoundTrip", fn := fun _ => fun
  | [d] => { results := [.lit (.bool false)], args := [d] }
  | _ => none }
def PackRoundTripWrongFalsely : Prop := packRoundTripRow.holds Try.pinned (OpenSpec.ofChange packRoundTripWrong)

/-- 'changeforgelaw3.PackReadMatchesSpec': WHATEVER THE INPUT: true; the input reads as it did. -/
def packReadMatchesSpecSpec : ChangeSpec := { name := "packReadMatchesSpec", fn := fun _ => fun
  | [d1, d2] => { results := [.lit (.bool true)], args := [d1, d2] }
  | _ => none }
def packReadMatchesSpecRow : OpenClaim := { program := "ytiilhnfdlpgllaa", sum := "8f962160edbc5b35139cf709dbb4b66ea409c6730f44f14a64e2ba45d4fd6818", func := "changeforge/changeforgelaw3.PackReadMatchesSpec", spec := "packReadMatchesSpec", unfollowed := true, recurses := true, apart := false }
def PackReadMatchesSpecSaid : Prop := packReadMatchesSpecRow.holds Try.pinned (OpenSpec.ofChange packReadMatchesSpecSpec)

/-- ITS FALSE NEIGHBOUR: 'it returns false'. Refute it at one input. -/
def packReadMatchesSpecWrong : ChangeSpec := { name := "packReadMatchesSpec", fn := fun _ => fun
  | [d1, d2] => { results := [.lit (.bool false)], args := [d1, d2] }
  | _ => none }
def PackReadMatchesSpecWrongFalsely : Prop := packReadMatchesSpecRow.holds Try.pinned (OpenSpec.ofChange packReadMatchesSpecWrong)

/-- 'changeforgelaw3.ObjectsDigestMatchesSpec': WHATEVER THE INPUT: true; the input reads as it did. -/
def objectsDigestMatchesSpecSpec : ChangeSpec := { name := "objectsDigestMatchesSpec", fn := fun _ => fun
  | [d] => { results := [.lit (.bool true)], args := [d] }
  | _ => none }
def objectsDigestMatchesSpecRow : OpenClaim := { program := "ytiilhnfdlpgllaa", sum := "8f962160edbc5b35139cf709dbb4b66ea409c6730f44f14a64e2ba45d4fd6818", func := "changeforge/changeforgelaw3.ObjectsDigestMatchesSpec", spec := "objectsDigestMatchesSpec", inPlace := ["slices.overlaps[changeforge/api.StoredObject]"], unfollowed := true, recurses := true, apart := false }
def ObjectsDigestMatchesSpecSaid : Prop := objectsDigestMatchesSpecRow.holds Try.pinned (OpenSpec.ofChange objectsDigestMatchesSpecSpec)

/-- ITS FALSE NEIGHBOUR: 'it returns false'. Refute it at one input. -/
def objectsDigestMatchesSpecWrong : ChangeSpec := { name := "objectsDigestMatchesSpec", fn := fun _ => fun
  | [d] => { results := [.lit (.bool false)], args := [d] }
  | _ => none }
def ObjectsDigestMatchesSpecWrongFalsely : Prop := objectsDigestMatchesSpecRow.holds Try.pinned (OpenSpec.ofChange objectsDigestMatchesSpecWrong)

/-- 'changeforgelaw3.ObjectsPutMatchesSpec': WHATEVER THE INPUT: true; the input reads as it did. -/
def objectsPutMatchesSpecSpec : ChangeSpec := { name := "objectsPutMatchesSpec", fn := fun _ => fun
  | [d1, d2] => { results := [.lit (.bool true)], args := [d1, d2] }
  | _ => none }
def objectsPutMatchesSpecRow : OpenClaim := { program := "ytiilhnfdlpgllaa", sum := "8f962160edbc5b35139cf709dbb4b66ea409c6730f44f14a64e2ba45d4fd6818", func := "changeforge/changeforgelaw3.ObjectsPutMatchesSpec", spec := "objectsPutMatchesSpec", inPlace := ["slices.overlaps[changeforge/api.StoredObject]"], unfollowed := true, recurses := true, apart := false }
def ObjectsPutMatchesSpecSaid : Prop := objectsPutMatchesSpecRow.holds Try.pinned (OpenSpec.ofChange objectsPutMatchesSpecSpec)

/-- ITS FALSE NEIGHBOUR: 'it returns false'. Refute it at one input. -/
def objectsPutMatchesSpecWrong : ChangeSpec := { name := "objectsPutMatchesSpec", fn := fun _ => fun
  | [d1, d2] => { results := [.lit (.bool false)], args := [d1, d2] }
  | _ => none }
def ObjectsPutMatchesSpecWrongFalsely : Prop := objectsPutMatchesSpecRow.holds Try.pinned (OpenSpec.ofChange objectsPutMatchesSpecWrong)

/-- 'changeforgelaw3.ObjectsPutCommutes': WHATEVER THE INPUT: true; the input reads as it did. -/
def objectsPutCommutesSpec : ChangeSpec := { name := "objectsPutCommutes", fn := fun _ => fun
  | [d1, d2, d3] => { results := [.lit (.bool true)], args := [d1, d2, d3] }
  | _ => none }
def objectsPutCommutesRow : OpenClaim := { program := "ytiilhnfdlpgllaa", sum := "8f962160edbc5b35139cf709dbb4b66ea409c6730f44f14a64e2ba45d4fd6818", func := "changeforge/changeforgelaw3.ObjectsPutCommutes", spec := "objectsPutCommutes", inPlace := ["slices.overlaps[changeforge/api.StoredObject]"], unfollowed := true, recurses := true, apart := false }
def ObjectsPutCommutesSaid : Prop := objectsPutCommutesRow.holds Try.pinned (OpenSpec.ofChange objectsPutCommutesSpec)

/-- ITS FALSE NEIGHBOUR: 'it returns false'. Refute it at one input. -/
def objectsPutCommutesWrong : ChangeSpec := { name := "objectsPutCommutes", fn := fun _ => fun
  | [d1, d2, d3] => { results := [.lit (.bool false)], args := [d1, d2, d3] }
  | _ => none }
def ObjectsPutCommutesWrongFalsely : Prop := objectsPutCommutesRow.holds Try.pinned (OpenSpec.ofChange objectsPutCommutesWrong)

/-- 'changeforgelaw3.ObjectsGetMatchesSpec': WHATEVER THE INPUT: true; the input reads as it did. -/
def objectsGetMatchesSpecSpec : ChangeSpec := { name := "objectsGetMatchesSpec", fn := fun _ => fun
  | [d1, d2] => { results := [.lit (.bool true)], args := [d1, d2] }
  | _ => none }
def objectsGetMatchesSpecRow : OpenClaim := { program := "ytiilhnfdlpgllaa", sum := "8f962160edbc5b35139cf709dbb4b66ea409c6730f44f14a64e2ba45d4fd6818", func := "changeforge/changeforgelaw3.ObjectsGetMatchesSpec", spec := "objectsGetMatchesSpec", inPlace := ["slices.overlaps[changeforge/api.StoredObject]"], unfollowed := true, recurses := true, apart := false }
def ObjectsGetMatchesSpecSaid : Prop := objectsGetMatchesSpecRow.holds Try.pinned (OpenSpec.ofChange objectsGetMatchesSpecSpec)

/-- ITS FALSE NEIGHBOUR: 'it returns false'. Refute it at one input. -/
def objectsGetMatchesSpecWrong : ChangeSpec := { name := "objectsGetMatchesSpec", fn := fun _ => fun
  | [d1, d2] => { results := [.lit (.bool false)], args := [d1, d2] }
  | _ => none }
def ObjectsGetMatchesSpecWrongFalsely : Prop := objectsGetMatchesSpecRow.holds Try.pinned (OpenSpec.ofChange objectsGetMatchesSpecWrong)

/-- 'changeforgelaw3.ObjectsMergeMatchesSpec': WHATEVER THE INPUT: true; the input reads as it did. -/
def objectsMergeMatchesSpecSpec : ChangeSpec := { name := "objectsMergeMatchesSpec", fn := fun _ => fun
  | [d1, d2] => { results := [.lit (.bool true)], args := [d1, d2] }
  | _ => none }
def objectsMergeMatchesSpecRow : OpenClaim := { program := "ytiilhnfdlpgllaa", sum := "8f962160edbc5b35139cf709dbb4b66ea409c6730f44f14a64e2ba45d4fd6818", func := "changeforge/changeforgelaw3.ObjectsMergeMatchesSpec", spec := "objectsMergeMatchesSpec", inPlace := ["slices.overlaps[changeforge/api.StoredObject]"], unfollowed := true, recurses := true, apart := false }
def ObjectsMergeMatchesSpecSaid : Prop := objectsMergeMatchesSpecRow.holds Try.pinned (OpenSpec.ofChange objectsMergeMatchesSpecSpec)

/-- ITS FALSE NEIGHBOUR: 'it returns false'. Refute it at one input. -/
def objectsMergeMatchesSpecWrong : ChangeSpec := { name := "objectsMergeMatchesSpec", fn := fun _ => fun
  | [d1, d2] => { results := [.lit (.bool false)], args := [d1, d2] }
  | _ => none }
def ObjectsMergeMatchesSpecWrongFalsely : Prop := objectsMergeMatchesSpecRow.holds Try.pinned (OpenSpec.ofChange objectsMergeMatchesSpecWrong)

/-- 'changeforgelaw3.ObjectsMergeSemilattice': WHATEVER THE INPUT: true; the input reads as it did. -/
def objectsMergeSemilatticeSpec : ChangeSpec := { name := "objectsMergeSemilattice", fn := fun _ => fun
  | [d1, d2, d3] => { results := [.lit (.bool true)], args := [d1, d2, d3] }
  | _ => none }
def objectsMergeSemilatticeRow : OpenClaim := { program := "ytiilhnfdlpgllaa", sum := "8f962160edbc5b35139cf709dbb4b66ea409c6730f44f14a64e2ba45d4fd6818", func := "changeforge/changeforgelaw3.ObjectsMergeSemilattice", spec := "objectsMergeSemilattice", inPlace := ["slices.overlaps[changeforge/api.StoredObject]"], unfollowed := true, recurses := true, apart := false }
def ObjectsMergeSemilatticeSaid : Prop := objectsMergeSemilatticeRow.holds Try.pinned (OpenSpec.ofChange objectsMergeSemilatticeSpec)

/-- ITS FALSE NEIGHBOUR: 'it returns false'. Refute it at one input. -/
def objectsMergeSemilatticeWrong : ChangeSpec := { name := "objectsMergeSemilattice", fn := fun _ => fun
  | [d1, d2, d3] => { results := [.lit (.bool false)], args := [d1, d2, d3] }
  | _ => none }
def ObjectsMergeSemilatticeWrongFalsely : Prop := objectsMergeSemilatticeRow.holds Try.pinned (OpenSpec.ofChange objectsMergeSemilatticeWrong)

/- THE SECOND FORM. 'bulk': how many values and letters a reading holds, each counted each time it is reached (what is shared counts as often as it is met; a slice's spare places count too). A statement '..UptoSaid' is the law's where the arguments, and the package variables that the reading takes, are together of bulk at most 1048576: NARROWER than '..Said'. Prove '..Said' where nothing that the law and all that it calls make is longer than what came in: it says more and counts as full. Else prove '..UptoSaid'. A law counts once. -/
mutual
def uptoBulk {H : Type} : DataW H → Nat
  | .lit (.string bytes) => bytes.length + 1
  | .lit _ => 1
  | .nil => 1
  | .ptr d => uptoBulk d + 1
  | .slice elems spare => uptoBulkAll elems + uptoBulkAll spare + 1
  | .agg parts => uptoBulkAll parts + 1
  | .iface _ d => uptoBulk d + 1
  | .map entries => uptoBulkEntries entries + 1
  | .held _ => 1
def uptoBulkAll {H : Type} : List (DataW H) → Nat
  | [] => 0
  | d :: r => uptoBulk d + uptoBulkAll r
def uptoBulkEntries {H : Type} : List (Lit × DataW H) → Nat
  | [] => 0
  | x :: r => uptoBulkEntry x + uptoBulkEntries r
def uptoBulkEntry {H : Type} : Lit × DataW H → Nat
  | (.string bytes, d) => bytes.length + uptoBulk d + 1
  | (_, d) => uptoBulk d + 1
 end
def uptoSmall : (H : Type) → List (DataW H) → Bool := fun _ ds => decide (uptoBulkAll ds ≤ 1048576)
def OpenSpec.upto (s : _root_.Go.ChangeSpec) : _root_.Go.OpenSpec := { _root_.Go.OpenSpec.ofChange s with cond := some uptoSmall }

/-- 'changeforgelaw3.PackBuildMatchesSpec', WHERE WHAT IT READS IS OF BULK AT MOST 1048576: true; the input reads as it did. -/
def packBuildMatchesSpecUptoRow : OpenClaim := { program := "ytiilhnfdlpgllaa", sum := "8f962160edbc5b35139cf709dbb4b66ea409c6730f44f14a64e2ba45d4fd6818", func := "changeforge/changeforgelaw3.PackBuildMatchesSpec", spec := "packBuildMatchesSpec", apart := false, narrowed := true }
def PackBuildMatchesSpecUptoSaid : Prop := packBuildMatchesSpecUptoRow.holds Try.pinned (OpenSpec.upto packBuildMatchesSpecSpec)

/-- 'changeforgelaw3.PackDetectsChange', WHERE WHAT IT READS IS OF BULK AT MOST 1048576: true; the input reads as it did. -/
def packDetectsChangeUptoRow : OpenClaim := { program := "ytiilhnfdlpgllaa", sum := "8f962160edbc5b35139cf709dbb4b66ea409c6730f44f14a64e2ba45d4fd6818", func := "changeforge/changeforgelaw3.PackDetectsChange", spec := "packDetectsChange", apart := false, narrowed := true }
def PackDetectsChangeUptoSaid : Prop := packDetectsChangeUptoRow.holds Try.pinned (OpenSpec.upto packDetectsChangeSpec)

/-- 'changeforgelaw3.PackIndexCovers', WHERE WHAT IT READS IS OF BULK AT MOST 1048576: true; the input reads as it did. -/
def packIndexCoversUptoRow : OpenClaim := { program := "ytiilhnfdlpgllaa", sum := "8f962160edbc5b35139cf709dbb4b66ea409c6730f44f14a64e2ba45d4fd6818", func := "changeforge/changeforgelaw3.PackIndexCovers", spec := "packIndexCovers", apart := false, narrowed := true }
def PackIndexCoversUptoSaid : Prop := packIndexCoversUptoRow.holds Try.pinned (OpenSpec.upto packIndexCoversSpec)

/-- 'changeforgelaw3.PackRoundTrip', WHERE WHAT IT READS IS OF BULK AT MOST 1048576: true; the input reads as it did. -/
def packRoundTripUptoRow : OpenClaim := { program := "ytiilhnfdlpgllaa", sum := "8f962160edbc5b35139cf709dbb4b66ea409c6730f44f14a64e2ba45d4fd6818", func := "changeforge/changeforgelaw3.PackRoundTrip", spec := "packRoundTrip", unfollowed := true, recurses := true, apart := false, narrowed := true }
def PackRoundTripUptoSaid : Prop := packRoundTripUptoRow.holds Try.pinned (OpenSpec.upto packRoundTripSpec)

/-- 'changeforgelaw3.PackReadMatchesSpec', WHERE WHAT IT READS IS OF BULK AT MOST 1048576: true; the input reads as it did. -/
def packReadMatchesSpecUptoRow : OpenClaim := { program := "ytiilhnfdlpgllaa", sum := "8f962160edbc5b35139cf709dbb4b66ea409c6730f44f14a64e2ba45d4fd6818", func := "changeforge/changeforgelaw3.PackReadMatchesSpec", spec := "packReadMatchesSpec", unfollowed := true, recurses := true, apart := false, narrowed := true }
def PackReadMatchesSpecUptoSaid : Prop := packReadMatchesSpecUptoRow.holds Try.pinned (OpenSpec.upto packReadMatchesSpecSpec)

/-- 'changeforgelaw3.ObjectsDigestMatchesSpec', WHERE WHAT IT READS IS OF BULK AT MOST 1048576: true; the input reads as it did. -/
def objectsDigestMatchesSpecUptoRow : OpenClaim := { program := "ytiilhnfdlpgllaa", sum := "8f962160edbc5b35139cf709dbb4b66ea409c6730f44f14a64e2ba45d4fd6818", func := "changeforge/changeforgelaw3.ObjectsDigestMatchesSpec", spec := "objectsDigestMatchesSpec", inPlace := ["slices.overlaps[changeforge/api.StoredObject]"], unfollowed := true, recurses := true, apart := false, narrowed := true }
def ObjectsDigestMatchesSpecUptoSaid : Prop := objectsDigestMatchesSpecUptoRow.holds Try.pinned (OpenSpec.upto objectsDigestMatchesSpecSpec)

/-- 'changeforgelaw3.ObjectsPutMatchesSpec', WHERE WHAT IT READS IS OF BULK AT MOST 1048576: true; the input reads as it did. -/
def objectsPutMatchesSpecUptoRow : OpenClaim := { program := "ytiilhnfdlpgllaa", sum := "8f962160edbc5b35139cf709dbb4b66ea409c6730f44f14a64e2ba45d4fd6818", func := "changeforge/changeforgelaw3.ObjectsPutMatchesSpec", spec := "objectsPutMatchesSpec", inPlace := ["slices.overlaps[changeforge/api.StoredObject]"], unfollowed := true, recurses := true, apart := false, narrowed := true }
def ObjectsPutMatchesSpecUptoSaid : Prop := objectsPutMatchesSpecUptoRow.holds Try.pinned (OpenSpec.upto objectsPutMatchesSpecSpec)

/-- 'changeforgelaw3.ObjectsPutCommutes', WHERE WHAT IT READS IS OF BULK AT MOST 1048576: true; the input reads as it did. -/
def objectsPutCommutesUptoRow : OpenClaim := { program := "ytiilhnfdlpgllaa", sum := "8f962160edbc5b35139cf709dbb4b66ea409c6730f44f14a64e2ba45d4fd6818", func := "changeforge/changeforgelaw3.ObjectsPutCommutes", spec := "objectsPutCommutes", inPlace := ["slices.overlaps[changeforge/api.StoredObject]"], unfollowed := true, recurses := true, apart := false, narrowed := true }
def ObjectsPutCommutesUptoSaid : Prop := objectsPutCommutesUptoRow.holds Try.pinned (OpenSpec.upto objectsPutCommutesSpec)

/-- 'changeforgelaw3.ObjectsGetMatchesSpec', WHERE WHAT IT READS IS OF BULK AT MOST 1048576: true; the input reads as it did. -/
def objectsGetMatchesSpecUptoRow : OpenClaim := { program := "ytiilhnfdlpgllaa", sum := "8f962160edbc5b35139cf709dbb4b66ea409c6730f44f14a64e2ba45d4fd6818", func := "changeforge/changeforgelaw3.ObjectsGetMatchesSpec", spec := "objectsGetMatchesSpec", inPlace := ["slices.overlaps[changeforge/api.StoredObject]"], unfollowed := true, recurses := true, apart := false, narrowed := true }
def ObjectsGetMatchesSpecUptoSaid : Prop := objectsGetMatchesSpecUptoRow.holds Try.pinned (OpenSpec.upto objectsGetMatchesSpecSpec)

/-- 'changeforgelaw3.ObjectsMergeMatchesSpec', WHERE WHAT IT READS IS OF BULK AT MOST 1048576: true; the input reads as it did. -/
def objectsMergeMatchesSpecUptoRow : OpenClaim := { program := "ytiilhnfdlpgllaa", sum := "8f962160edbc5b35139cf709dbb4b66ea409c6730f44f14a64e2ba45d4fd6818", func := "changeforge/changeforgelaw3.ObjectsMergeMatchesSpec", spec := "objectsMergeMatchesSpec", inPlace := ["slices.overlaps[changeforge/api.StoredObject]"], unfollowed := true, recurses := true, apart := false, narrowed := true }
def ObjectsMergeMatchesSpecUptoSaid : Prop := objectsMergeMatchesSpecUptoRow.holds Try.pinned (OpenSpec.upto objectsMergeMatchesSpecSpec)

/-- 'changeforgelaw3.ObjectsMergeSemilattice', WHERE WHAT IT READS IS OF BULK AT MOST 1048576: true; the input reads as it did. -/
def objectsMergeSemilatticeUptoRow : OpenClaim := { program := "ytiilhnfdlpgllaa", sum := "8f962160edbc5b35139cf709dbb4b66ea409c6730f44f14a64e2ba45d4fd6818", func := "changeforge/changeforgelaw3.ObjectsMergeSemilattice", spec := "objectsMergeSemilattice", inPlace := ["slices.overlaps[changeforge/api.StoredObject]"], unfollowed := true, recurses := true, apart := false, narrowed := true }
def ObjectsMergeSemilatticeUptoSaid : Prop := objectsMergeSemilatticeUptoRow.holds Try.pinned (OpenSpec.upto objectsMergeSemilatticeSpec)

end Rows
end Go.Proofs.Ytiilhnfdlpgllaa
