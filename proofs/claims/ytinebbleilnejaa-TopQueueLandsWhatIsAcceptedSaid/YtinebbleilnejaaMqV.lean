/-
  The merge queue: what slices of numbers and of sets of numbers read as; small words for the contracts.
-/
import Derived.Test.YtinebbleilnejaaChecked
import Derived.Test.YtinebbleilnejaaMqR
import Derived.Test.YtinebbleilnejaaView5
import Derived.WalkKit
import Derived.WalkLawsBesides
import Derived.WalkSpells
import Derived.Deep.QuietTactic
import Derived.BigQuiet
import Derived.Deep.RegionLaw
import Derived.Deep.RegionHeld3
import Derived.Lib.Hide
import Derived.KernelRfl
namespace Go.Proofs.Ytinebbleilnejaa
open Go.RowKit Go.V
set_option linter.unusedVariables false

/-- The slice at A holds the numbers l. -/
def IV (w : World) (A : Option Addr) (l : List Int) : Prop := SV w w.heap.size A (intsV l)
/-- One set as one cell. -/
def CuR (w : World) (B : Nat) (c : List Int) (cs : List Value) : Prop := ∃ A k, cs = [.slice A c.length k] ∧ c.length ≤ 9223372036854775807 ∧ SV w B A (intsV c)
theorem CuR.len {w : World} {B : Nat} (c : List Int) (cs : List Value) (h : CuR w B c cs) : cs.length = 1 := by obtain ⟨A, k, rfl, _⟩ := h; rfl
theorem CuR.keep {w w' : World} {B B' : Nat} (hk : ∀ p : Addr, p.block < B → w'.cell? p = w.cell? p) (hB : B ≤ B') (c : List Int) (cs : List Value) (h : CuR w B c cs) : CuR w' B' c cs := by
  obtain ⟨A, k, e, h1, h2⟩ := h
  exact ⟨A, k, e, h1, (h2.keep hk).more hB⟩
/-- The slice at A holds the sets l. -/
def CuV (w : World) (A : Option Addr) (l : List (List Int)) : Prop := ∃ vs, SV w w.heap.size A vs ∧ RowsR (CuR w w.heap.size) l vs
section
variable {w w' : World} {A : Option Addr}
theorem IV.below {l : List Int} (h : IV w A l) (hb : Below w.heap.size w w') : IV w' A l := (SV.below h hb (Nat.le_refl _)).more hb.size
theorem CuV.below {l : List (List Int)} (h : CuV w A l) (hb : Below w.heap.size w w') : CuV w' A l := by
  obtain ⟨vs, h1, h2⟩ := h
  exact ⟨vs, (h1.below hb (Nat.le_refl _)).more hb.size, h2.mono fun c cs hh => CuR.keep (fun p hp => hb.cell hp) hb.size c cs hh⟩
theorem below_alloc1 (w : World) (o : Obj) : Below w.heap.size w (w.alloc o) := (Below.refl _ _).alloc (Nat.le_refl _) _
theorem below_drew' {B : Nat} {a w : World} (h : Below B a w) : Below B a w.drew := Go.V.below_drewN h 1
theorem IV.alloc {l : List Int} (h : IV w A l) (o : Obj) : IV (w.alloc o) A l := h.below (below_alloc1 w o)
theorem IV.drewN {l : List Int} (h : IV w A l) (n : Nat) : IV (w.drewN n) A l := h
theorem IV.at_ {l : List Int} (h : IV w A l) (i : Nat) (hi : i < l.length) : ∃ b off, A = some ⟨b, off, none⟩ ∧ b < w.heap.size ∧ w.cell? ⟨b, off + i, none⟩ = some (.int .i64 l[i]) := SV.int h i hi
theorem CuV.row {l : List (List Int)} (h : CuV w A l) (i : Nat) (hi : i < l.length) : ∃ b off Ap k, A = some ⟨b, off, none⟩ ∧ b < w.heap.size ∧
    w.cell? ⟨b, off + i, none⟩ = some (.slice Ap l[i].length k) ∧ l[i].length ≤ 9223372036854775807 ∧ IV w Ap l[i] := by
  obtain ⟨vs, h1, h2⟩ := h
  obtain ⟨b, off, cs, e, hb, ⟨Ap, k, rfl, hok, hsv⟩, hc⟩ := SV.row CuR.len (by omega) h1 h2 i hi
  exact ⟨b, off, Ap, k, e, hb, by simpa using hc 0 _ rfl, hok, hsv⟩
theorem IV.atIn {l : List Int} (h : IV w A l) {wr : World} (hb : Below w.heap.size w wr) (i : Nat) (hi : i < l.length) : ∃ b off, A = some ⟨b, off, none⟩ ∧ b < w.heap.size ∧ wr.cell? ⟨b, off + i, none⟩ = some (.int .i64 l[i]) := by
  obtain ⟨b, off, e, hlt, hc⟩ := h.at_ i hi
  exact ⟨b, off, e, hlt, (hb.cell (p := ⟨b, off + i, none⟩) hlt).trans hc⟩
end

/-! ### faults -/
theorem results_c {fn : Func} {a : Tmp} (h : fn.results = #[.cell a 26]) (tmps : Array Value) (w : World) (g : Nat) (x y : Value) (ha : tmps.getD a undef = .pointer (some ⟨g, 0, none⟩)) (hb : Blk w g 26 #[x, y]) :
    (results fn tmps).run Try.prog w = .ok (.agg #[x, y]) w := by
  have h0 := hb.cell 0
  have h1 := hb.cell 1
  simp only [List.getElem?_toArray, List.getElem?_cons_zero, List.getElem?_cons_succ] at h0 h1
  have ha' : tmps[a]?.getD undef = .pointer (some ⟨g, 0, none⟩) := by simpa using ha
  simp [results, h, go_sem, ha', h0, h1]
/-- One result in a slot, the fault in a cell. -/
theorem results_tc {fn : Func} {s a : Tmp} (h : fn.results = #[.tmp s, .cell a 26]) (tmps : Array Value) (w : World) (g : Nat) (x y : Value) (ha : tmps.getD a undef = .pointer (some ⟨g, 0, none⟩)) (hb : Blk w g 26 #[x, y]) :
    (results fn tmps).run Try.prog w = .ok (.tuple #[tmps.getD s undef, .agg #[x, y]]) w := by
  have h0 := hb.cell 0
  have h1 := hb.cell 1
  simp only [List.getElem?_toArray, List.getElem?_cons_zero, List.getElem?_cons_succ] at h0 h1
  have ha' : tmps[a]?.getD undef = .pointer (some ⟨g, 0, none⟩) := by simpa using ha
  simp [results, h, go_sem, ha', h0, h1]
theorem load26 (w : World) (g : Nat) (x y : Value) (h : Blk w g 26 #[x, y]) : (Instr.loadAt 26 (.pointer (some ⟨g, 0, none⟩))).run Try.prog w = .ok (.agg #[x, y]) w := by
  have h0 := h.cell 0
  have h1 := h.cell 1
  simp only [List.getElem?_toArray, List.getElem?_cons_zero, List.getElem?_cons_succ] at h0 h1
  simp [go_sem, h0, h1]
theorem blk_put26 {w : World} {g : Nat} {a b : Value} (h : Blk w g 26 #[a, b]) (x y : Value) : Blk ((w.setCell ⟨g, 0, none⟩ x).setCell ⟨g, 1, none⟩ y) g 26 #[x, y] := by
  simpa using (h.set_ 0 x).set_ 1 y
theorem below_put26 {w wr : World} {g : Nat} (h : Below w.heap.size w wr) (hg : w.heap.size ≤ g) (x y : Value) : Below w.heap.size w ((wr.setCell ⟨g, 0, none⟩ x).setCell ⟨g, 1, none⟩ y) :=
  (h.setCell (p := ⟨g, 0, none⟩) hg x).setCell (p := ⟨g, 1, none⟩) hg y
theorem info3 : (Try.prog.info? 3).map (fun i => (i.zero, i.size, i.bytes)) = some (some (.int .i64 0), 1, 8) := by kernel_rfl
end Go.Proofs.Ytinebbleilnejaa
