/-
  No cell of these rows narrows 'for every input' (looked for: loops, veiled, ifaces, maps, wideKeys, modest, calm, conditions, laid).
  DERIVED. THE GIVEN ROWS OF THIS SEAT. 14 by the template 'for every input the law returns true; each argument reads behind the call as it read before'; 0 by the template 'total and deterministic' (their statements: YtoohmkdgimkgoaaTotals.lean).
  GIVEN WITH THE SEED: the statements are not yours to turn. If you find one false, say at which input.
  Laid BY PROGRAM, IN A SANDBOX (cutbox-rows.mjs): the forced cells as the released guide's own fill.sh prints them over the translation 5872c2b71cdb2d49… (all of the seat's roots in one cut). By AI agents, Wed Nov 11 2026. No macro, syntax, notation, axiom, sorry.
-/
import Derived.Test.YtoohmkdgimkgoaaChecked
import GoSem.Claim
import GoSem.ClaimJoined
import GoSem.ClaimMapViews
import Derived.JoinedTies
import Derived.KernelRfl
namespace Go.Proofs.Ytoohmkdgimkgoaa
/- THE CELL 'sum', in the pinned program and in every row, IS THE sha256 OF THE DUMP (.gsa) THAT YtoohmkdgimkgoaaProg.lean LOADS. Nothing in Lean hashes anything: it is a label: what it is worth is what the hold of that sum in a sandbox is worth. -/
noncomputable def Try.pinned : Pinned := { name := "ytoohmkdgimkgoaa", sum := "5872c2b71cdb2d49bbb851ace3d0aac8600cfe355938c3b0dddb70b2965c8421", checked := Try.checked }
namespace Rows
def none {H : Type} : Left H := { results := [], args := [] }

/-- 'changeforgelaw3.HistoryAncestorsMatchesSpec': WHATEVER THE INPUT: true; the input reads as it did. -/
def historyAncestorsMatchesSpecSpec : ChangeSpec := { name := "historyAncestorsMatchesSpec", fn := fun _ => fun
  | [d1, d2] => { results := [.lit (.bool true)], args := [d1, d2] }
  | _ => none }
def historyAncestorsMatchesSpecRow : OpenClaim := { program := "ytoohmkdgimkgoaa", sum := "5872c2b71cdb2d49bbb851ace3d0aac8600cfe355938c3b0dddb70b2965c8421", func := "changeforge/changeforgelaw3.HistoryAncestorsMatchesSpec", spec := "historyAncestorsMatchesSpec", unfollowed := true, recurses := true, apart := false }
def HistoryAncestorsMatchesSpecSaid : Prop := historyAncestorsMatchesSpecRow.holds Try.pinned (OpenSpec.ofChange historyAncestorsMatchesSpecSpec)

/-- ITS FALSE NEIGHBOUR: 'it returns false'. Refute it at one input. -/
def historyAncestorsMatchesSpecWrong : ChangeSpec := { name := "historyAncestorsMatchesSpec", fn := fun _ => fun
  | [d1, d2] => { results := [.lit (.bool false)], args := [d1, d2] }
  | _ => none }
def HistoryAncestorsMatchesSpecWrongFalsely : Prop := historyAncestorsMatchesSpecRow.holds Try.pinned (OpenSpec.ofChange historyAncestorsMatchesSpecWrong)

/-- 'changeforgelaw3.HistoryAncestorsTransitive': WHATEVER THE INPUT: true; the input reads as it did. -/
def historyAncestorsTransitiveSpec : ChangeSpec := { name := "historyAncestorsTransitive", fn := fun _ => fun
  | [d1, d2, d3] => { results := [.lit (.bool true)], args := [d1, d2, d3] }
  | _ => none }
def historyAncestorsTransitiveRow : OpenClaim := { program := "ytoohmkdgimkgoaa", sum := "5872c2b71cdb2d49bbb851ace3d0aac8600cfe355938c3b0dddb70b2965c8421", func := "changeforge/changeforgelaw3.HistoryAncestorsTransitive", spec := "historyAncestorsTransitive", unfollowed := true, recurses := true, apart := false }
def HistoryAncestorsTransitiveSaid : Prop := historyAncestorsTransitiveRow.holds Try.pinned (OpenSpec.ofChange historyAncestorsTransitiveSpec)

/-- ITS FALSE NEIGHBOUR: 'it returns false'. Refute it at one input. -/
def historyAncestorsTransitiveWrong : ChangeSpec := { name := "historyAncestorsTransitive", fn := fun _ => fun
  | [d1, d2, d3] => { results := [.lit (.bool false)], args := [d1, d2, d3] }
  | _ => none }
def HistoryAncestorsTransitiveWrongFalsely : Prop := historyAncestorsTransitiveRow.holds Try.pinned (OpenSpec.ofChange historyAncestorsTransitiveWrong)

/-- 'changeforgelaw3.HistoryOrderTopological': WHATEVER THE INPUT: true; the input reads as it did. -/
def historyOrderTopologicalSpec : ChangeSpec := { name := "historyOrderTopological", fn := fun _ => fun
  | [d] => { results := [.lit (.bool true)], args := [d] }
  | _ => none }
def historyOrderTopologicalRow : OpenClaim := { program := "ytoohmkdgimkgoaa", sum := "5872c2b71cdb2d49bbb851ace3d0aac8600cfe355938c3b0dddb70b2965c8421", func := "changeforge/changeforgelaw3.HistoryOrderTopological", spec := "historyOrderTopological", unfollowed := true, recurses := true, apart := false }
def HistoryOrderTopologicalSaid : Prop := historyOrderTopologicalRow.holds Try.pinned (OpenSpec.ofChange historyOrderTopologicalSpec)

/-- ITS FALSE NEIGHBOUR: 'it returns false'. Refute it at one input. -/
def historyOrderTopologicalWrong : ChangeSpec := { name := "historyOrderTopological", fn := fun _ => fun
  | [d] => { results := [.lit (.bool false)], args := [d] }
  | _ => none }
def HistoryOrderTopologicalWrongFalsely : Prop := historyOrderTopologicalRow.holds Try.pinned (OpenSpec.ofChange historyOrderTopologicalWrong)

/-- 'changeforgelaw3.MergebaseOfAncestor': WHATEVER THE INPUT: true; the input reads as it did. -/
def mergebaseOfAncestorSpec : ChangeSpec := { name := "mergebaseOfAncestor", fn := fun _ => fun
  | [d1, d2, d3] => { results := [.lit (.bool true)], args := [d1, d2, d3] }
  | _ => none }
def mergebaseOfAncestorRow : OpenClaim := { program := "ytoohmkdgimkgoaa", sum := "5872c2b71cdb2d49bbb851ace3d0aac8600cfe355938c3b0dddb70b2965c8421", func := "changeforge/changeforgelaw3.MergebaseOfAncestor", spec := "mergebaseOfAncestor", unfollowed := true, recurses := true, apart := false }
def MergebaseOfAncestorSaid : Prop := mergebaseOfAncestorRow.holds Try.pinned (OpenSpec.ofChange mergebaseOfAncestorSpec)

/-- ITS FALSE NEIGHBOUR: 'it returns false'. Refute it at one input. -/
def mergebaseOfAncestorWrong : ChangeSpec := { name := "mergebaseOfAncestor", fn := fun _ => fun
  | [d1, d2, d3] => { results := [.lit (.bool false)], args := [d1, d2, d3] }
  | _ => none }
def MergebaseOfAncestorWrongFalsely : Prop := mergebaseOfAncestorRow.holds Try.pinned (OpenSpec.ofChange mergebaseOfAncestorWrong)

/-- 'changeforgelaw3.MergebaseCoversCommon': WHATEVER THE INPUT: true; the input reads as it did. -/
def mergebaseCoversCommonSpec : ChangeSpec := { name := "mergebaseCoversCommon", fn := fun _ => fun
  | [d1, d2, d3, d4] => { results := [.lit (.bool true)], args := [d1, d2, d3, d4] }
  | _ => none }
def mergebaseCoversCommonRow : OpenClaim := { program := "ytoohmkdgimkgoaa", sum := "5872c2b71cdb2d49bbb851ace3d0aac8600cfe355938c3b0dddb70b2965c8421", func := "changeforge/changeforgelaw3.MergebaseCoversCommon", spec := "mergebaseCoversCommon", unfollowed := true, recurses := true, apart := false }
def MergebaseCoversCommonSaid : Prop := mergebaseCoversCommonRow.holds Try.pinned (OpenSpec.ofChange mergebaseCoversCommonSpec)

/-- ITS FALSE NEIGHBOUR: 'it returns false'. Refute it at one input. -/
def mergebaseCoversCommonWrong : ChangeSpec := { name := "mergebaseCoversCommon", fn := fun _ => fun
  | [d1, d2, d3, d4] => { results := [.lit (.bool false)], args := [d1, d2, d3, d4] }
  | _ => none }
def MergebaseCoversCommonWrongFalsely : Prop := mergebaseCoversCommonRow.holds Try.pinned (OpenSpec.ofChange mergebaseCoversCommonWrong)

/-- 'changeforgelaw3.HistoryHeadsReachAll': WHATEVER THE INPUT: true; the input reads as it did. -/
def historyHeadsReachAllSpec : ChangeSpec := { name := "historyHeadsReachAll", fn := fun _ => fun
  | [d] => { results := [.lit (.bool true)], args := [d] }
  | _ => none }
def historyHeadsReachAllRow : OpenClaim := { program := "ytoohmkdgimkgoaa", sum := "5872c2b71cdb2d49bbb851ace3d0aac8600cfe355938c3b0dddb70b2965c8421", func := "changeforge/changeforgelaw3.HistoryHeadsReachAll", spec := "historyHeadsReachAll", unfollowed := true, recurses := true, apart := false }
def HistoryHeadsReachAllSaid : Prop := historyHeadsReachAllRow.holds Try.pinned (OpenSpec.ofChange historyHeadsReachAllSpec)

/-- ITS FALSE NEIGHBOUR: 'it returns false'. Refute it at one input. -/
def historyHeadsReachAllWrong : ChangeSpec := { name := "historyHeadsReachAll", fn := fun _ => fun
  | [d] => { results := [.lit (.bool false)], args := [d] }
  | _ => none }
def HistoryHeadsReachAllWrongFalsely : Prop := historyHeadsReachAllRow.holds Try.pinned (OpenSpec.ofChange historyHeadsReachAllWrong)

/-- 'changeforgelaw3.MergebaseMatchesSpec': WHATEVER THE INPUT: true; the input reads as it did. -/
def mergebaseMatchesSpecSpec : ChangeSpec := { name := "mergebaseMatchesSpec", fn := fun _ => fun
  | [d1, d2, d3, d4] => { results := [.lit (.bool true)], args := [d1, d2, d3, d4] }
  | _ => none }
def mergebaseMatchesSpecRow : OpenClaim := { program := "ytoohmkdgimkgoaa", sum := "5872c2b71cdb2d49bbb851ace3d0aac8600cfe355938c3b0dddb70b2965c8421", func := "changeforge/changeforgelaw3.MergebaseMatchesSpec", spec := "mergebaseMatchesSpec", unfollowed := true, recurses := true, apart := false }
def MergebaseMatchesSpecSaid : Prop := mergebaseMatchesSpecRow.holds Try.pinned (OpenSpec.ofChange mergebaseMatchesSpecSpec)

/-- ITS FALSE NEIGHBOUR: 'it returns false'. Refute it at one input. -/
def mergebaseMatchesSpecWrong : ChangeSpec := { name := "mergebaseMatchesSpec", fn := fun _ => fun
  | [d1, d2, d3, d4] => { results := [.lit (.bool false)], args := [d1, d2, d3, d4] }
  | _ => none }
def MergebaseMatchesSpecWrongFalsely : Prop := mergebaseMatchesSpecRow.holds Try.pinned (OpenSpec.ofChange mergebaseMatchesSpecWrong)

/-- 'changeforgelaw3.MergebaseSymmetric': WHATEVER THE INPUT: true; the input reads as it did. -/
def mergebaseSymmetricSpec : ChangeSpec := { name := "mergebaseSymmetric", fn := fun _ => fun
  | [d1, d2, d3, d4] => { results := [.lit (.bool true)], args := [d1, d2, d3, d4] }
  | _ => none }
def mergebaseSymmetricRow : OpenClaim := { program := "ytoohmkdgimkgoaa", sum := "5872c2b71cdb2d49bbb851ace3d0aac8600cfe355938c3b0dddb70b2965c8421", func := "changeforge/changeforgelaw3.MergebaseSymmetric", spec := "mergebaseSymmetric", unfollowed := true, recurses := true, apart := false }
def MergebaseSymmetricSaid : Prop := mergebaseSymmetricRow.holds Try.pinned (OpenSpec.ofChange mergebaseSymmetricSpec)

/-- ITS FALSE NEIGHBOUR: 'it returns false'. Refute it at one input. -/
def mergebaseSymmetricWrong : ChangeSpec := { name := "mergebaseSymmetric", fn := fun _ => fun
  | [d1, d2, d3, d4] => { results := [.lit (.bool false)], args := [d1, d2, d3, d4] }
  | _ => none }
def MergebaseSymmetricWrongFalsely : Prop := mergebaseSymmetricRow.holds Try.pinned (OpenSpec.ofChange mergebaseSymmetricWrong)

/-- 'changeforgelaw3.HistoryOrderMatchesSpec': WHATEVER THE INPUT: true; the input reads as it did. -/
def historyOrderMatchesSpecSpec : ChangeSpec := { name := "historyOrderMatchesSpec", fn := fun _ => fun
  | [d] => { results := [.lit (.bool true)], args := [d] }
  | _ => none }
def historyOrderMatchesSpecRow : OpenClaim := { program := "ytoohmkdgimkgoaa", sum := "5872c2b71cdb2d49bbb851ace3d0aac8600cfe355938c3b0dddb70b2965c8421", func := "changeforge/changeforgelaw3.HistoryOrderMatchesSpec", spec := "historyOrderMatchesSpec", unfollowed := true, recurses := true, apart := false }
def HistoryOrderMatchesSpecSaid : Prop := historyOrderMatchesSpecRow.holds Try.pinned (OpenSpec.ofChange historyOrderMatchesSpecSpec)

/-- ITS FALSE NEIGHBOUR: 'it returns false'. Refute it at one input. -/
def historyOrderMatchesSpecWrong : ChangeSpec := { name := "historyOrderMatchesSpec", fn := fun _ => fun
  | [d] => { results := [.lit (.bool false)], args := [d] }
  | _ => none }
def HistoryOrderMatchesSpecWrongFalsely : Prop := historyOrderMatchesSpecRow.holds Try.pinned (OpenSpec.ofChange historyOrderMatchesSpecWrong)

/-- 'changeforgelaw3.BisectMatchesSpec': WHATEVER THE INPUT: true; the input reads as it did. -/
def bisectMatchesSpecSpec : ChangeSpec := { name := "bisectMatchesSpec", fn := fun _ => fun
  | [d1, d2, d3, d4] => { results := [.lit (.bool true)], args := [d1, d2, d3, d4] }
  | _ => none }
def bisectMatchesSpecRow : OpenClaim := { program := "ytoohmkdgimkgoaa", sum := "5872c2b71cdb2d49bbb851ace3d0aac8600cfe355938c3b0dddb70b2965c8421", func := "changeforge/changeforgelaw3.BisectMatchesSpec", spec := "bisectMatchesSpec", unfollowed := true, recurses := true, apart := false }
def BisectMatchesSpecSaid : Prop := bisectMatchesSpecRow.holds Try.pinned (OpenSpec.ofChange bisectMatchesSpecSpec)

/-- ITS FALSE NEIGHBOUR: 'it returns false'. Refute it at one input. -/
def bisectMatchesSpecWrong : ChangeSpec := { name := "bisectMatchesSpec", fn := fun _ => fun
  | [d1, d2, d3, d4] => { results := [.lit (.bool false)], args := [d1, d2, d3, d4] }
  | _ => none }
def BisectMatchesSpecWrongFalsely : Prop := bisectMatchesSpecRow.holds Try.pinned (OpenSpec.ofChange bisectMatchesSpecWrong)

/-- 'changeforgelaw3.BisectTestDecides': WHATEVER THE INPUT: true; the input reads as it did. -/
def bisectTestDecidesSpec : ChangeSpec := { name := "bisectTestDecides", fn := fun _ => fun
  | [d1, d2, d3] => { results := [.lit (.bool true)], args := [d1, d2, d3] }
  | _ => none }
def bisectTestDecidesRow : OpenClaim := { program := "ytoohmkdgimkgoaa", sum := "5872c2b71cdb2d49bbb851ace3d0aac8600cfe355938c3b0dddb70b2965c8421", func := "changeforge/changeforgelaw3.BisectTestDecides", spec := "bisectTestDecides", unfollowed := true, recurses := true, apart := false }
def BisectTestDecidesSaid : Prop := bisectTestDecidesRow.holds Try.pinned (OpenSpec.ofChange bisectTestDecidesSpec)

/-- ITS FALSE NEIGHBOUR: 'it returns false'. Refute it at one input. -/
def bisectTestDecidesWrong : ChangeSpec := { name := "bisectTestDecides", fn := fun _ => fun
  | [d1, d2, d3] => { results := [.lit (.bool false)], args := [d1, d2, d3] }
  | _ => none }
def BisectTestDecidesWrongFalsely : Prop := bisectTestDecidesRow.holds Try.pinned (OpenSpec.ofChange bisectTestDecidesWrong)

/-- 'changeforgelaw3.BisectLogarithmic': WHATEVER THE INPUT: true; the input reads as it did. -/
def bisectLogarithmicSpec : ChangeSpec := { name := "bisectLogarithmic", fn := fun _ => fun
  | [d1, d2] => { results := [.lit (.bool true)], args := [d1, d2] }
  | _ => none }
def bisectLogarithmicRow : OpenClaim := { program := "ytoohmkdgimkgoaa", sum := "5872c2b71cdb2d49bbb851ace3d0aac8600cfe355938c3b0dddb70b2965c8421", func := "changeforge/changeforgelaw3.BisectLogarithmic", spec := "bisectLogarithmic", unfollowed := true, recurses := true, apart := false }
def BisectLogarithmicSaid : Prop := bisectLogarithmicRow.holds Try.pinned (OpenSpec.ofChange bisectLogarithmicSpec)

/-- ITS FALSE NEIGHBOUR: 'it returns false'. Refute it at one input. -/
def bisectLogarithmicWrong : ChangeSpec := { name := "bisectLogarithmic", fn := fun _ => fun
  | [d1, d2] => { results := [.lit (.bool false)], args := [d1, d2] }
  | _ => none }
def BisectLogarithmicWrongFalsely : Prop := bisectLogarithmicRow.holds Try.pinned (OpenSpec.ofChange bisectLogarithmicWrong)

/-- 'changeforgelaw3.HistoryDigestsMatchSpec': WHATEVER THE INPUT: true; the input reads as it did. -/
def historyDigestsMatchSpecSpec : ChangeSpec := { name := "historyDigestsMatchSpec", fn := fun _ => fun
  | [d] => { results := [.lit (.bool true)], args := [d] }
  | _ => none }
def historyDigestsMatchSpecRow : OpenClaim := { program := "ytoohmkdgimkgoaa", sum := "5872c2b71cdb2d49bbb851ace3d0aac8600cfe355938c3b0dddb70b2965c8421", func := "changeforge/changeforgelaw3.HistoryDigestsMatchSpec", spec := "historyDigestsMatchSpec", unfollowed := true, recurses := true, apart := false }
def HistoryDigestsMatchSpecSaid : Prop := historyDigestsMatchSpecRow.holds Try.pinned (OpenSpec.ofChange historyDigestsMatchSpecSpec)

/-- ITS FALSE NEIGHBOUR: 'it returns false'. Refute it at one input. -/
def historyDigestsMatchSpecWrong : ChangeSpec := { name := "historyDigestsMatchSpec", fn := fun _ => fun
  | [d] => { results := [.lit (.bool false)], args := [d] }
  | _ => none }
def HistoryDigestsMatchSpecWrongFalsely : Prop := historyDigestsMatchSpecRow.holds Try.pinned (OpenSpec.ofChange historyDigestsMatchSpecWrong)

/-- 'changeforgelaw3.BisectFindsFirstBad': WHATEVER THE INPUT: true; the input reads as it did. -/
def bisectFindsFirstBadSpec : ChangeSpec := { name := "bisectFindsFirstBad", fn := fun _ => fun
  | [d1, d2, d3, d4] => { results := [.lit (.bool true)], args := [d1, d2, d3, d4] }
  | _ => none }
def bisectFindsFirstBadRow : OpenClaim := { program := "ytoohmkdgimkgoaa", sum := "5872c2b71cdb2d49bbb851ace3d0aac8600cfe355938c3b0dddb70b2965c8421", func := "changeforge/changeforgelaw3.BisectFindsFirstBad", spec := "bisectFindsFirstBad", unfollowed := true, recurses := true, apart := false }
def BisectFindsFirstBadSaid : Prop := bisectFindsFirstBadRow.holds Try.pinned (OpenSpec.ofChange bisectFindsFirstBadSpec)

/-- ITS FALSE NEIGHBOUR: 'it returns false'. Refute it at one input. -/
def bisectFindsFirstBadWrong : ChangeSpec := { name := "bisectFindsFirstBad", fn := fun _ => fun
  | [d1, d2, d3, d4] => { results := [.lit (.bool false)], args := [d1, d2, d3, d4] }
  | _ => none }
def BisectFindsFirstBadWrongFalsely : Prop := bisectFindsFirstBadRow.holds Try.pinned (OpenSpec.ofChange bisectFindsFirstBadWrong)

/- THE SECOND FORM. 'bulk': how many values and letters a reading holds, each counted each time it is reached (what is shared counts as often as it is met; a slice's spare places count too). A statement '..UptoSaid' is the law's where the arguments, and the package variables that the reading takes, are together of bulk at most 1048576: NARROWER than '..Said'. Prove '..Said' where nothing that the law and all that it calls make is longer than what came in: it says more and counts as full. Else prove '..UptoSaid'. A law counts once. -/
mutual
def uptoBulk {H : Type} : DataW H → Nat
  | .lit (.string bytes) => bytes.length + 1
  | .lit _ => 1
  | .nil => 1
  | .ptr d => uptoBulk d + 1
  | .slice elems spare => uptoBulkAll elems + uptoBulkAll spare + 1
  | .agg parts => uptoBulkAll parts + 1
  | .iface _ d => uptoBulk d + 1
  | .map entries => uptoBulkEntries entries + 1
  | .held _ => 1
def uptoBulkAll {H : Type} : List (DataW H) → Nat
  | [] => 0
  | d :: r => uptoBulk d + uptoBulkAll r
def uptoBulkEntries {H : Type} : List (Lit × DataW H) → Nat
  | [] => 0
  | x :: r => uptoBulkEntry x + uptoBulkEntries r
def uptoBulkEntry {H : Type} : Lit × DataW H → Nat
  | (.string bytes, d) => bytes.length + uptoBulk d + 1
  | (_, d) => uptoBulk d + 1
 end
def uptoSmall : (H : Type) → List (DataW H) → Bool := fun _ ds => decide (uptoBulkAll ds ≤ 1048576)
def OpenSpec.upto (s : _root_.Go.ChangeSpec) : _root_.Go.OpenSpec := { _root_.Go.OpenSpec.ofChange s with cond := some uptoSmall }

/-- 'changeforgelaw3.HistoryAncestorsMatchesSpec', WHERE WHAT IT READS IS OF BULK AT MOST 1048576: true; the input reads as it did. -/
def historyAncestorsMatchesSpecUptoRow : OpenClaim := { program := "ytoohmkdgimkgoaa", sum := "5872c2b71cdb2d49bbb851ace3d0aac8600cfe355938c3b0dddb70b2965c8421", func := "changeforge/changeforgelaw3.HistoryAncestorsMatchesSpec", spec := "historyAncestorsMatchesSpec", unfollowed := true, recurses := true, apart := false, narrowed := true }
def HistoryAncestorsMatchesSpecUptoSaid : Prop := historyAncestorsMatchesSpecUptoRow.holds Try.pinned (OpenSpec.upto historyAncestorsMatchesSpecSpec)

/-- 'changeforgelaw3.HistoryAncestorsTransitive', WHERE WHAT IT READS IS OF BULK AT MOST 1048576: true; the input reads as it did. -/
def historyAncestorsTransitiveUptoRow : OpenClaim := { program := "ytoohmkdgimkgoaa", sum := "5872c2b71cdb2d49bbb851ace3d0aac8600cfe355938c3b0dddb70b2965c8421", func := "changeforge/changeforgelaw3.HistoryAncestorsTransitive", spec := "historyAncestorsTransitive", unfollowed := true, recurses := true, apart := false, narrowed := true }
def HistoryAncestorsTransitiveUptoSaid : Prop := historyAncestorsTransitiveUptoRow.holds Try.pinned (OpenSpec.upto historyAncestorsTransitiveSpec)

/-- 'changeforgelaw3.HistoryOrderTopological', WHERE WHAT IT READS IS OF BULK AT MOST 1048576: true; the input reads as it did. -/
def historyOrderTopologicalUptoRow : OpenClaim := { program := "ytoohmkdgimkgoaa", sum := "5872c2b71cdb2d49bbb851ace3d0aac8600cfe355938c3b0dddb70b2965c8421", func := "changeforge/changeforgelaw3.HistoryOrderTopological", spec := "historyOrderTopological", unfollowed := true, recurses := true, apart := false, narrowed := true }
def HistoryOrderTopologicalUptoSaid : Prop := historyOrderTopologicalUptoRow.holds Try.pinned (OpenSpec.upto historyOrderTopologicalSpec)

/-- 'changeforgelaw3.MergebaseOfAncestor', WHERE WHAT IT READS IS OF BULK AT MOST 1048576: true; the input reads as it did. -/
def mergebaseOfAncestorUptoRow : OpenClaim := { program := "ytoohmkdgimkgoaa", sum := "5872c2b71cdb2d49bbb851ace3d0aac8600cfe355938c3b0dddb70b2965c8421", func := "changeforge/changeforgelaw3.MergebaseOfAncestor", spec := "mergebaseOfAncestor", unfollowed := true, recurses := true, apart := false, narrowed := true }
def MergebaseOfAncestorUptoSaid : Prop := mergebaseOfAncestorUptoRow.holds Try.pinned (OpenSpec.upto mergebaseOfAncestorSpec)

/-- 'changeforgelaw3.MergebaseCoversCommon', WHERE WHAT IT READS IS OF BULK AT MOST 1048576: true; the input reads as it did. -/
def mergebaseCoversCommonUptoRow : OpenClaim := { program := "ytoohmkdgimkgoaa", sum := "5872c2b71cdb2d49bbb851ace3d0aac8600cfe355938c3b0dddb70b2965c8421", func := "changeforge/changeforgelaw3.MergebaseCoversCommon", spec := "mergebaseCoversCommon", unfollowed := true, recurses := true, apart := false, narrowed := true }
def MergebaseCoversCommonUptoSaid : Prop := mergebaseCoversCommonUptoRow.holds Try.pinned (OpenSpec.upto mergebaseCoversCommonSpec)

/-- 'changeforgelaw3.HistoryHeadsReachAll', WHERE WHAT IT READS IS OF BULK AT MOST 1048576: true; the input reads as it did. -/
def historyHeadsReachAllUptoRow : OpenClaim := { program := "ytoohmkdgimkgoaa", sum := "5872c2b71cdb2d49bbb851ace3d0aac8600cfe355938c3b0dddb70b2965c8421", func := "changeforge/changeforgelaw3.HistoryHeadsReachAll", spec := "historyHeadsReachAll", unfollowed := true, recurses := true, apart := false, narrowed := true }
def HistoryHeadsReachAllUptoSaid : Prop := historyHeadsReachAllUptoRow.holds Try.pinned (OpenSpec.upto historyHeadsReachAllSpec)

/-- 'changeforgelaw3.MergebaseMatchesSpec', WHERE WHAT IT READS IS OF BULK AT MOST 1048576: true; the input reads as it did. -/
def mergebaseMatchesSpecUptoRow : OpenClaim := { program := "ytoohmkdgimkgoaa", sum := "5872c2b71cdb2d49bbb851ace3d0aac8600cfe355938c3b0dddb70b2965c8421", func := "changeforge/changeforgelaw3.MergebaseMatchesSpec", spec := "mergebaseMatchesSpec", unfollowed := true, recurses := true, apart := false, narrowed := true }
def MergebaseMatchesSpecUptoSaid : Prop := mergebaseMatchesSpecUptoRow.holds Try.pinned (OpenSpec.upto mergebaseMatchesSpecSpec)

/-- 'changeforgelaw3.MergebaseSymmetric', WHERE WHAT IT READS IS OF BULK AT MOST 1048576: true; the input reads as it did. -/
def mergebaseSymmetricUptoRow : OpenClaim := { program := "ytoohmkdgimkgoaa", sum := "5872c2b71cdb2d49bbb851ace3d0aac8600cfe355938c3b0dddb70b2965c8421", func := "changeforge/changeforgelaw3.MergebaseSymmetric", spec := "mergebaseSymmetric", unfollowed := true, recurses := true, apart := false, narrowed := true }
def MergebaseSymmetricUptoSaid : Prop := mergebaseSymmetricUptoRow.holds Try.pinned (OpenSpec.upto mergebaseSymmetricSpec)

/-- 'changeforgelaw3.HistoryOrderMatchesSpec', WHERE WHAT IT READS IS OF BULK AT MOST 1048576: true; the input reads as it did. -/
def historyOrderMatchesSpecUptoRow : OpenClaim := { program := "ytoohmkdgimkgoaa", sum := "5872c2b71cdb2d49bbb851ace3d0aac8600cfe355938c3b0dddb70b2965c8421", func := "changeforge/changeforgelaw3.HistoryOrderMatchesSpec", spec := "historyOrderMatchesSpec", unfollowed := true, recurses := true, apart := false, narrowed := true }
def HistoryOrderMatchesSpecUptoSaid : Prop := historyOrderMatchesSpecUptoRow.holds Try.pinned (OpenSpec.upto historyOrderMatchesSpecSpec)

/-- 'changeforgelaw3.BisectMatchesSpec', WHERE WHAT IT READS IS OF BULK AT MOST 1048576: true; the input reads as it did. -/
def bisectMatchesSpecUptoRow : OpenClaim := { program := "ytoohmkdgimkgoaa", sum := "5872c2b71cdb2d49bbb851ace3d0aac8600cfe355938c3b0dddb70b2965c8421", func := "changeforge/changeforgelaw3.BisectMatchesSpec", spec := "bisectMatchesSpec", unfollowed := true, recurses := true, apart := false, narrowed := true }
def BisectMatchesSpecUptoSaid : Prop := bisectMatchesSpecUptoRow.holds Try.pinned (OpenSpec.upto bisectMatchesSpecSpec)

/-- 'changeforgelaw3.BisectTestDecides', WHERE WHAT IT READS IS OF BULK AT MOST 1048576: true; the input reads as it did. -/
def bisectTestDecidesUptoRow : OpenClaim := { program := "ytoohmkdgimkgoaa", sum := "5872c2b71cdb2d49bbb851ace3d0aac8600cfe355938c3b0dddb70b2965c8421", func := "changeforge/changeforgelaw3.BisectTestDecides", spec := "bisectTestDecides", unfollowed := true, recurses := true, apart := false, narrowed := true }
def BisectTestDecidesUptoSaid : Prop := bisectTestDecidesUptoRow.holds Try.pinned (OpenSpec.upto bisectTestDecidesSpec)

/-- 'changeforgelaw3.BisectLogarithmic', WHERE WHAT IT READS IS OF BULK AT MOST 1048576: true; the input reads as it did. -/
def bisectLogarithmicUptoRow : OpenClaim := { program := "ytoohmkdgimkgoaa", sum := "5872c2b71cdb2d49bbb851ace3d0aac8600cfe355938c3b0dddb70b2965c8421", func := "changeforge/changeforgelaw3.BisectLogarithmic", spec := "bisectLogarithmic", unfollowed := true, recurses := true, apart := false, narrowed := true }
def BisectLogarithmicUptoSaid : Prop := bisectLogarithmicUptoRow.holds Try.pinned (OpenSpec.upto bisectLogarithmicSpec)

/-- 'changeforgelaw3.HistoryDigestsMatchSpec', WHERE WHAT IT READS IS OF BULK AT MOST 1048576: true; the input reads as it did. -/
def historyDigestsMatchSpecUptoRow : OpenClaim := { program := "ytoohmkdgimkgoaa", sum := "5872c2b71cdb2d49bbb851ace3d0aac8600cfe355938c3b0dddb70b2965c8421", func := "changeforge/changeforgelaw3.HistoryDigestsMatchSpec", spec := "historyDigestsMatchSpec", unfollowed := true, recurses := true, apart := false, narrowed := true }
def HistoryDigestsMatchSpecUptoSaid : Prop := historyDigestsMatchSpecUptoRow.holds Try.pinned (OpenSpec.upto historyDigestsMatchSpecSpec)

/-- 'changeforgelaw3.BisectFindsFirstBad', WHERE WHAT IT READS IS OF BULK AT MOST 1048576: true; the input reads as it did. -/
def bisectFindsFirstBadUptoRow : OpenClaim := { program := "ytoohmkdgimkgoaa", sum := "5872c2b71cdb2d49bbb851ace3d0aac8600cfe355938c3b0dddb70b2965c8421", func := "changeforge/changeforgelaw3.BisectFindsFirstBad", spec := "bisectFindsFirstBad", unfollowed := true, recurses := true, apart := false, narrowed := true }
def BisectFindsFirstBadUptoSaid : Prop := bisectFindsFirstBadUptoRow.holds Try.pinned (OpenSpec.upto bisectFindsFirstBadSpec)

end Rows
end Go.Proofs.Ytoohmkdgimkgoaa
