/-
  Views, fifth part: rows of numbers and of bools that the call makes and writes in place, as functions of the index.
-/
import Derived.Test.YtinebbleilnejaaView2
import Derived.Deep.OwnRows
namespace Go.V
open Go.RowKit

/-- The first n values of a function. -/
def tab {α : Type} (n : Nat) (f : Nat → α) : List α := (List.range n).map f
@[simp] theorem tab_length {α : Type} (n : Nat) (f : Nat → α) : (tab n f).length = n := by simp [tab]
theorem tab_get {α : Type} (n : Nat) (f : Nat → α) (i : Nat) (h : i < (tab n f).length) : (tab n f)[i] = f i := by simp [tab]
theorem tab_get? {α : Type} (n : Nat) (f : Nat → α) (i : Nat) (h : i < n) : (tab n f)[i]? = some (f i) := by simp [tab, h]
theorem tab_congr {α : Type} {n : Nat} {f g : Nat → α} (h : ∀ i, i < n → f i = g i) : tab n f = tab n g := by
  apply List.map_congr_left
  intro i hi
  exact h i (List.mem_range.1 hi)
theorem tab_set {α : Type} (n : Nat) (f : Nat → α) (i : Nat) (x : α) : (tab n f).set i x = tab n (fun j => if j = i then x else f j) := by
  apply List.ext_getElem
  · simp
  · intro j h1 h2
    simp only [List.getElem_set, tab_get]
    by_cases h : i = j
    · subst h; simp
    · rw [if_neg h, if_neg (fun e => h e.symm)]
theorem tab_replicate {α : Type} (n : Nat) (x : α) : List.replicate n x = tab n (fun _ => x) := by
  apply List.ext_getElem <;> simp [tab]
theorem tab_list {α : Type} [Inhabited α] (l : List α) : l = tab l.length (fun i => l[i]?.getD default) := by
  apply List.ext_getElem
  · simp
  · intro i h1 h2
    rw [tab_get]; simp [h1]

def intsA (l : List Int) : Array Value := (l.map fun n => Value.int .i64 n).toArray
def boolsA (l : List Bool) : Array Value := (l.map fun b => Value.bool b).toArray
section
variable {w : World} {g : Nat} {t : TypeId}
theorem blk_int {l : List Int} (h : Blk w g t (intsA l)) (i : Nat) (hi : i < l.length) : w.cell? ⟨g, i, none⟩ = some (.int .i64 l[i]) := by
  rw [h.cell i]; simp [intsA, hi]
theorem blk_bool {l : List Bool} (h : Blk w g t (boolsA l)) (i : Nat) (hi : i < l.length) : w.cell? ⟨g, i, none⟩ = some (.bool l[i]) := by
  rw [h.cell i]; simp [boolsA, hi]
theorem blk_tab {n : Nat} {f : Nat → Int} (h : Blk w g t (intsA (tab n f))) (i : Nat) (hi : i < n) : w.cell? ⟨g, i, none⟩ = some (.int .i64 (f i)) := by
  rw [blk_int h i (by simpa using hi), tab_get]
theorem blk_tabB {n : Nat} {f : Nat → Bool} (h : Blk w g t (boolsA (tab n f))) (i : Nat) (hi : i < n) : w.cell? ⟨g, i, none⟩ = some (.bool (f i)) := by
  rw [blk_bool h i (by simpa using hi), tab_get]
theorem blk_int_set {l : List Int} (h : Blk w g t (intsA l)) (i : Nat) (x : Int) : Blk (w.setCell ⟨g, i, none⟩ (.int .i64 x)) g t (intsA (l.set i x)) := by
  have := h.set_ i (.int .i64 x)
  have e : (intsA l).setIfInBounds i (.int .i64 x) = intsA (l.set i x) := by
    unfold intsA
    rw [List.setIfInBounds_toArray, List.map_set]
  rw [← e]; exact this
theorem blk_bool_set {l : List Bool} (h : Blk w g t (boolsA l)) (i : Nat) (x : Bool) : Blk (w.setCell ⟨g, i, none⟩ (.bool x)) g t (boolsA (l.set i x)) := by
  have := h.set_ i (.bool x)
  have e : (boolsA l).setIfInBounds i (.bool x) = boolsA (l.set i x) := by
    unfold boolsA
    rw [List.setIfInBounds_toArray, List.map_set]
  rw [← e]; exact this
theorem blk_tab_set {n : Nat} {f g' : Nat → Int} (h : Blk w g t (intsA (tab n f))) (i : Nat) (x : Int) (hf : ∀ j, j < n → g' j = if j = i then x else f j) : Blk (w.setCell ⟨g, i, none⟩ (.int .i64 x)) g t (intsA (tab n g')) := by
  have := blk_int_set h i x
  rw [tab_set] at this
  rw [tab_congr hf]; exact this
theorem blk_tabB_set {n : Nat} {f g' : Nat → Bool} (h : Blk w g t (boolsA (tab n f))) (i : Nat) (x : Bool) (hf : ∀ j, j < n → g' j = if j = i then x else f j) : Blk (w.setCell ⟨g, i, none⟩ (.bool x)) g t (boolsA (tab n g')) := by
  have := blk_bool_set h i x
  rw [tab_set] at this
  rw [tab_congr hf]; exact this
theorem made_eq (z : Value) (n : Nat) : madeCells #[z] n = (List.replicate n z).toArray := by
  apply Array.toList_inj.1
  rw [toList_madeCells_one]
theorem blk_made_int (w : World) (t : TypeId) (n : Nat) : Blk (w.alloc (.cells (madeCells #[.int .i64 0] n) t)) w.heap.size t (intsA (tab n fun _ => 0)) := by
  have := Blk.new w t (madeCells #[.int .i64 0] n)
  rw [made_eq] at this
  have e : intsA (tab n fun _ => 0) = (List.replicate n (Value.int .i64 0)).toArray := by
    unfold intsA; rw [← tab_replicate, List.map_replicate]
  rw [e, ← made_eq]
  exact Blk.new w t (madeCells #[.int .i64 0] n)
theorem blk_made_bool (w : World) (t : TypeId) (n : Nat) : Blk (w.alloc (.cells (madeCells #[.bool false] n) t)) w.heap.size t (boolsA (tab n fun _ => false)) := by
  have e : boolsA (tab n fun _ => false) = (List.replicate n (Value.bool false)).toArray := by
    unfold boolsA; rw [← tab_replicate, List.map_replicate]
  rw [e, ← made_eq]
  exact Blk.new w t (madeCells #[.bool false] n)
/-- A row that is known whole is a slice's view. -/
theorem SV.of_blk {cs : Array Value} (h : Blk w g t cs) : SV w w.heap.size (some ⟨g, 0, none⟩) cs.toList := by
  refine .inr ⟨g, 0, rfl, h.lt, fun j u hu => ?_⟩
  rw [Nat.zero_add, h.cell j, ← Array.getElem?_toList]; exact hu
theorem SV.of_ints {l : List Int} (h : Blk w g t (intsA l)) : SV w w.heap.size (some ⟨g, 0, none⟩) (intsV l) := by
  have := SV.of_blk h
  simpa [intsA, intsV] using this
theorem SV.of_bools {l : List Bool} (h : Blk w g t (boolsA l)) : SV w w.heap.size (some ⟨g, 0, none⟩) (boolsV l) := by
  have := SV.of_blk h
  simpa [boolsA, boolsV] using this
end
end Go.V
