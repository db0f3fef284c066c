/-
  Histories, the plain law, sixth part: counting common ancestors.
-/
import Derived.Test.YtoohmkdgimkgoaaPure3
namespace Hs
/-- How many of the first j commits of a list have i among their ancestors. -/
def cntC (l : List Cm) (list : List Nat) (j i : Nat) : Int := ((list.take j).countP fun n => reach l n i : Nat)
/-- .. and of commit number j, below kk. -/
def cntCIn (l : List Cm) (list : List Nat) (j n kk i : Nat) : Int := if i < kk ∧ reach l n i = true then cntC l list j i + 1 else cntC l list j i
theorem cntC_succ (l : List Cm) (list : List Nat) (j i : Nat) (h : j < list.length) : cntC l list (j + 1) i = if reach l list[j] i = true then cntC l list j i + 1 else cntC l list j i := by
  unfold cntC
  rw [List.take_succ_eq_append_getElem h, List.countP_append]
  by_cases hr : reach l list[j] i = true
  · rw [if_pos hr]; simp [hr]
  · rw [if_neg hr]; simp [hr]
theorem cntCIn_zero (l : List Cm) (list : List Nat) (j n i : Nat) : cntCIn l list j n 0 i = cntC l list j i := by
  unfold cntCIn; rw [if_neg (by omega)]
theorem cntCIn_all (l : List Cm) (list : List Nat) (j i : Nat) (h : j < list.length) (hi : i < l.length) : cntCIn l list j list[j] l.length i = cntC l list (j + 1) i := by
  rw [cntC_succ l list j i h]
  unfold cntCIn
  by_cases hr : reach l list[j] i = true
  · rw [if_pos ⟨hi, hr⟩, if_pos hr]
  · rw [if_neg (fun hh => hr hh.2), if_neg hr]
theorem cntCIn_yes (l : List Cm) (list : List Nat) (j n kk i : Nat) (hr : reach l n kk = true) : cntCIn l list j n (kk + 1) i = if i = kk then cntCIn l list j n kk kk + 1 else cntCIn l list j n kk i := by
  unfold cntCIn
  by_cases e : i = kk
  · subst e
    rw [if_pos rfl, if_pos ⟨by omega, hr⟩, if_neg (by omega)]
  · have : (i < kk + 1) ↔ i < kk := by omega
    rw [if_neg e]; simp only [this]
theorem cntCIn_no (l : List Cm) (list : List Nat) (j n kk i : Nat) (hr : reach l n kk = false) : cntCIn l list j n (kk + 1) i = cntCIn l list j n kk i := by
  unfold cntCIn
  by_cases e : i = kk
  · subst e
    rw [if_neg (fun h => by rw [hr] at h; cases h.2), if_neg (by omega)]
  · have : (i < kk + 1) ↔ i < kk := by omega
    simp only [this]
theorem cntC_bd (l : List Cm) (list : List Nat) (j i : Nat) : 0 ≤ cntC l list j i ∧ cntC l list j i ≤ list.length := by
  unfold cntC
  have h1 := List.countP_le_length (p := fun n => reach l n i) (l := list.take j)
  have h2 : (list.take j).length ≤ list.length := by rw [List.length_take]; omega
  omega
theorem cntCIn_bd (l : List Cm) (list : List Nat) (j n kk i : Nat) : 0 ≤ cntCIn l list j n kk i ∧ cntCIn l list j n kk i ≤ list.length + 1 := by
  have := cntC_bd l list j i
  unfold cntCIn
  split <;> omega
theorem cntC_lt (l : List Cm) (list : List Nat) (i : Nat) : cntC l list list.length i < list.length ↔ common l list i = false := by
  unfold cntC
  rw [List.take_length]
  have h1 := List.countP_le_length (p := fun n => reach l n i) (l := list)
  have h2 := List.countP_eq_length (p := fun n => reach l n i) (l := list)
  have h3 : common l list i = true ↔ ∀ a ∈ list, reach l a i = true := by unfold common; simp
  constructor
  · intro hh
    rw [Bool.eq_false_iff]
    intro hc
    have := h2.2 (h3.1 hc)
    omega
  · intro hc
    have : ¬ (list.countP fun n => reach l n i) = list.length := fun e => by
      rw [h3.2 (h2.1 e)] at hc; cases hc
    omega
/-- What is covered, while commit i is being looked through. -/
def covIn (l : List Cm) (cov : Nat → Bool) (i kk k : Nat) : Bool := if k < kk then (cov k || reach l i k) else cov k
theorem covIn_succ (l : List Cm) (cov : Nat → Bool) (i kk k : Nat) : covIn l cov i (kk + 1) k = if k = kk then (covIn l cov i kk kk || reach l i kk) else covIn l cov i kk k := by
  unfold covIn
  by_cases e : k = kk
  · subst e
    rw [if_pos (by omega), if_pos rfl, if_neg (by omega)]
  · rw [if_neg e]
    have : (k < kk + 1) ↔ k < kk := by omega
    simp only [this]
theorem bestSt_no (l : List Cm) (com : Nat → Bool) (m : Nat) (h : com (l.length - 1 - m) = false ∨ (bestSt l com m).2 (l.length - 1 - m) = true) : bestSt l com (m + 1) = bestSt l com m := by
  simp only [bestSt]
  rw [if_neg]
  rcases h with h | h <;> rw [h] <;> simp
theorem bestSt_yes (l : List Cm) (com : Nat → Bool) (m : Nat) (h1 : com (l.length - 1 - m) = true) (h2 : (bestSt l com m).2 (l.length - 1 - m) = false) :
    bestSt l com (m + 1) = ((l.length - 1 - m) :: (bestSt l com m).1, fun k => (bestSt l com m).2 k || reach l (l.length - 1 - m) k) := by
  simp only [bestSt]
  rw [h1, h2]; simp
theorem bestSt_len (l : List Cm) (com : Nat → Bool) : ∀ m, (bestSt l com m).1.length ≤ m
  | 0 => by simp [bestSt]
  | m + 1 => by
    have := bestSt_len l com m
    simp only [bestSt]
    split
    · simp; omega
    · omega
end Hs
