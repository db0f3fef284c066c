/-
  Histories: walk of 'Digests'.
-/
import Derived.Test.YtoohmkdgimkgoaaDg3
import Derived.Test.YtoohmkdgimkgoaaW22
import Derived.Laws.IdiomStrings
namespace Hs
open Dg
/-- The numbers that follow the message's digest. -/
def digNums (l : List Cm) (ds : List Nat) (i k : Nat) : List Nat :=
  [(l[i]?.getD default).au.toNat, (l[i]?.getD default).tm.toNat, (l[i]?.getD default).tr.toNat] ++ ((pars l i).take k).map fun p => ds[p]?.getD 0
def digMsg (l : List Cm) (i : Nat) : Nat := ofL (l[i]?.getD default).msg.data.toList
def digFold (l : List Cm) (ds : List Nat) (i j : Nat) : Nat := ((digNums l ds i (pars l i).length).take j).foldl pairD (digMsg l i)
def digAt (l : List Cm) (ds : List Nat) (i : Nat) : Nat := (digNums l ds i (pars l i).length).foldl pairD (digMsg l i)
def digL (l : List Cm) : Nat → List Nat
  | 0 => []
  | i + 1 => digL l i ++ [digAt l (digL l i) i]
@[simp] theorem digL_length (l : List Cm) : ∀ i, (digL l i).length = i
  | 0 => rfl
  | i + 1 => by simp [digL, digL_length l i]
theorem pairD_lt (a b : Nat) : pairD a b < 2305843009213693951 := Nat.mod_lt _ (by decide)
theorem digNums_len (l : List Cm) (ds : List Nat) (i k : Nat) (h : k ≤ (pars l i).length) : (digNums l ds i k).length = k + 3 := by
  unfold digNums; simp [List.length_take]; omega
theorem digNums_succ (l : List Cm) (ds : List Nat) (i k : Nat) (h : k < (pars l i).length) (p : Nat) (hp : (pars l i)[k] = p) (hpl : p < ds.length) : digNums l ds i (k + 1) = digNums l ds i k ++ [ds[p]] := by
  unfold digNums
  rw [List.take_succ_eq_append_getElem h, List.map_append, hp]
  simp [hpl]
theorem foldl_lt : ∀ (xs : List Nat) (h : Nat), h < 2305843009213693951 → xs.foldl pairD h < 2305843009213693951
  | [], _, hh => hh
  | x :: xs, h, _ => foldl_lt xs (pairD h x) (pairD_lt h x)
theorem digFold_zero (l : List Cm) (ds : List Nat) (i : Nat) : digFold l ds i 0 = digMsg l i := by simp [digFold]
theorem digFold_succ (l : List Cm) (ds : List Nat) (i j : Nat) (h : j < (digNums l ds i (pars l i).length).length) : digFold l ds i (j + 1) = pairD (digFold l ds i j) (digNums l ds i (pars l i).length)[j] := by
  unfold digFold; rw [List.take_succ_eq_append_getElem h, List.foldl_append]; rfl
theorem digFold_all (l : List Cm) (ds : List Nat) (i : Nat) : digFold l ds i (digNums l ds i (pars l i).length).length = digAt l ds i := by
  unfold digFold digAt; rw [List.take_length]
theorem digMsg_lt (l : List Cm) (i : Nat) : digMsg l i < 2305843009213693951 := ofTo_lt _ _ (Nat.le_refl _)
theorem digFold_lt (l : List Cm) (ds : List Nat) (i j : Nat) : digFold l ds i j < 2305843009213693951 := foldl_lt _ _ (digMsg_lt l i)
theorem digAt_lt (l : List Cm) (ds : List Nat) (i : Nat) : digAt l ds i < 2305843009213693951 := foldl_lt _ _ (digMsg_lt l i)
theorem digL_lt (l : List Cm) : ∀ i, ∀ x ∈ digL l i, x < 2305843009213693951
  | 0, x, h => by simp [digL] at h
  | i + 1, x, h => by
    simp only [digL, List.mem_append, List.mem_singleton] at h
    rcases h with h | h
    · exact digL_lt l i x h
    · rw [h]; exact digAt_lt _ _ _
theorem Ok.digNums_lt {l : List Cm} (h : Ok l) (i k : Nat) (hi : i < l.length) : ∀ x ∈ digNums l (digL l i) i k, x < 2305843009213693951 := by
  intro x hx
  have hd := h.data i hi
  unfold digNums at hx
  rw [List.getElem?_eq_getElem hi] at hx
  simp only [Option.getD_some, List.mem_append, List.mem_cons, List.not_mem_nil, or_false, List.mem_map] at hx
  have hM : Hs.M = 2305843009213693951 := rfl
  rcases hx with (h1 | h1 | h1) | ⟨p, _, h1⟩
  · omega
  · omega
  · omega
  · rw [← h1]
    by_cases hp : p < (digL l i).length
    · rw [List.getElem?_eq_getElem hp]; exact digL_lt l i _ (List.getElem_mem hp)
    · rw [List.getElem?_eq_none (by omega)]; decide
end Hs
