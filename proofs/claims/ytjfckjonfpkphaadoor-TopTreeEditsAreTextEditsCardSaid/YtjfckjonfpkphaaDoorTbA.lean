/-
  Editing a file of a tree: small words for the contracts.
-/
import Derived.Test.YtjfckjonfpkphaaDoorChecked
import Derived.Test.YtjfckjonfpkphaaDoorView5
import Derived.Test.YtjfckjonfpkphaaDoorView9
import Derived.Test.YtjfckjonfpkphaaDoorView15
import Derived.WalkKit
import Derived.WalkLawsBesides
import Derived.WalkSpells
import Derived.Deep.QuietTactic
import Derived.BigQuiet
import Derived.RegionTactic
import Derived.BigRegion
import Derived.Deep.RegionLaw
import Derived.Deep.RegionHeld3
import Derived.Lib.Hide
import Derived.KernelRfl
namespace Go.V
open Go.RowKit
theorem RowsR.take {α : Type} {R : α → List Value → Prop} {k : Nat} (hk : ∀ a cs, R a cs → cs.length = k) : ∀ {l : List α} {vs : List Value}, RowsR R l vs → ∀ i, RowsR R (l.take i) (vs.take (i * k)) ∧ RowsR R (l.drop i) (vs.drop (i * k))
  | l, vs, h, 0 => by simp [RowsR]; exact h
  | [], vs, h, i + 1 => by simp only [RowsR] at h; subst h; simp [RowsR]
  | a :: l, vs, h, i + 1 => by
    obtain ⟨cs, rest, rfl, hc, hr⟩ := h
    have hl := hk a cs hc
    obtain ⟨h1, h2⟩ := RowsR.take hk hr i
    have e : (i + 1) * k = cs.length + i * k := by rw [Nat.add_mul, hl]; omega
    rw [e, List.take_length_add_append, List.drop_length_add_append]
    exact ⟨⟨cs, _, rfl, hc, h1⟩, h2⟩
theorem own_more {w : World} {base base' : Nat} {e : TypeId} {size n : Nat} {v : Value} {xs : List Value} (h : w.ownsRow base e size v n xs) (hb : base' ≤ base) : w.ownsRow base' e size v n xs := by
  obtain ⟨h1, h2⟩ := h
  rcases h2 with h2 | ⟨g, cap, cur, e, hlo, rest⟩
  · exact ⟨h1, .inl h2⟩
  · exact ⟨h1, .inr ⟨g, cap, cur, e, Nat.le_trans hb hlo, rest⟩⟩
theorem own_new_ne {w : World} {base : Nat} {e : TypeId} {size n : Nat} {v : Value} {xs : List Value} (h : w.ownsRow base e size v n xs) : some w.heap.size ≠ v.ownBlock := fun e => by have := (h.lt _ e.symm).2; omega
theorem own_below {w w' : World} {base : Nat} {e : TypeId} {size n : Nat} {v : Value} {xs : List Value} (h : w.ownsRow base e size v n xs) (hb : Below w.heap.size w w') : w'.ownsRow base e size v n xs :=
  h.kept (only_of_below hb none) (by cases hv : v.ownBlock <;> simp)
/-- One cell of an owned row is written. -/
theorem own_set {w : World} {base : Nat} {e : TypeId} {size n c g : Nat} {xs : List Value} (h : w.ownsRow base e size (.slice (some ⟨g, 0, none⟩) n c) n xs) (h0 : 0 < n) (i : Nat) (v : Value) :
    (w.setCell ⟨g, i, none⟩ v).ownsRow base e size (.slice (some ⟨g, 0, none⟩) n c) n (xs.set i v) := by
  obtain ⟨g', cur, e1, _, hg, hb, hn, hm, hs, hx⟩ := own_blk h h0
  injection e1 with e1
  injection e1 with e1
  subst e1
  refine own_of_blk (hb.set_ i v) hg hn hm (by simpa using hs) ?_
  rw [← hx, Array.toList_setIfInBounds, List.take_set]
end Go.V
namespace Go.Proofs.YtjfckjonfpkphaaDoor
open Go.RowKit Go.V
set_option linter.unusedVariables false
theorem below_alloc1 (w : World) (o : Obj) : Below w.heap.size w (w.alloc o) := (Below.refl _ _).alloc (Nat.le_refl _) _
theorem ret_int {k : IntKind} {a b : Int} (h : a = b) : Ending.returned (.int k a) = .returned (.int k b) := by rw [h]
/-! ### faults -/
theorem results_c {fn : Func} {a : Tmp} (h : fn.results = #[.cell a 29]) (tmps : Array Value) (w : World) (g : Nat) (x y : Value) (ha : tmps.getD a undef = .pointer (some ⟨g, 0, none⟩)) (hb : Blk w g 29 #[x, y]) :
    (results fn tmps).run Tryd.prog w = .ok (.agg #[x, y]) w := by
  have h0 := hb.cell 0
  have h1 := hb.cell 1
  simp only [List.getElem?_toArray, List.getElem?_cons_zero, List.getElem?_cons_succ] at h0 h1
  have ha' : tmps[a]?.getD undef = .pointer (some ⟨g, 0, none⟩) := by simpa using ha
  simp [results, h, go_sem, ha', h0, h1]
/-- One result in a slot, the fault in a cell. -/
theorem results_tc {fn : Func} {s a : Tmp} (h : fn.results = #[.tmp s, .cell a 29]) (tmps : Array Value) (w : World) (g : Nat) (x y : Value) (ha : tmps.getD a undef = .pointer (some ⟨g, 0, none⟩)) (hb : Blk w g 29 #[x, y]) :
    (results fn tmps).run Tryd.prog w = .ok (.tuple #[tmps.getD s undef, .agg #[x, y]]) w := by
  have h0 := hb.cell 0
  have h1 := hb.cell 1
  simp only [List.getElem?_toArray, List.getElem?_cons_zero, List.getElem?_cons_succ] at h0 h1
  have ha' : tmps[a]?.getD undef = .pointer (some ⟨g, 0, none⟩) := by simpa using ha
  simp [results, h, go_sem, ha', h0, h1]
theorem load29 (w : World) (g : Nat) (x y : Value) (h : Blk w g 29 #[x, y]) : (Instr.loadAt 29 (.pointer (some ⟨g, 0, none⟩))).run Tryd.prog w = .ok (.agg #[x, y]) w := by
  have h0 := h.cell 0
  have h1 := h.cell 1
  simp only [List.getElem?_toArray, List.getElem?_cons_zero, List.getElem?_cons_succ] at h0 h1
  simp [go_sem, h0, h1]
/-- A fault and nothing that lay has turned. -/
def FaultPost (w : World) (r : Int × Int) (e : Ending) (w' : World) : Prop := e = .returned (.agg #[.int .i64 r.1, .int .i64 r.2]) ∧ Below w.heap.size w w'
theorem FaultPost.mk_ {w w' : World} {r : Int × Int} {a b : Int} (h : r = (a, b)) (hb : Below w.heap.size w w') : FaultPost w r (.returned (.agg #[.int .i64 a, .int .i64 b])) w' := by
  subst h; exact ⟨rfl, hb⟩
theorem free_below {w w' : World} (hb : Below w.heap.size w w') : Keeps w Free w' Free := Keeps.below hb (fun _ _ h => h)
theorem below_drew' {B : Nat} {a w : World} (h : Below B a w) : Below B a w.drew := below_drewN h 1
theorem gen_world {C : World → Prop} {w : World} (F : World → Prop) (hF : F w) (h : ∀ wz, F wz → C wz) : C w := h w hF
theorem blk_new1 (w : World) (o : Obj) (t : TypeId) (cs : Array Value) : Blk ((w.alloc o).alloc (.cells cs t)) (w.heap.size + 1) t cs := by
  have := Blk.new (w.alloc o) t cs; rwa [World.size_alloc] at this
theorem below_alloc2 (w : World) (o o' : Obj) : Below w.heap.size w ((w.alloc o).alloc o') := (below_alloc1 w o).alloc (by simp) _
theorem below_alloc3 (w : World) (o o' o'' : Obj) : Below w.heap.size w (((w.alloc o).alloc o').alloc o'') := (below_alloc2 w o o').alloc (by simp; omega) _
end Go.Proofs.YtjfckjonfpkphaaDoor
