/-
  Histories, the plain law, seventh part: generations.
-/
import Derived.Test.YtoohmkdgimkgoaaPure2
namespace Hs
/-- What the first k parents of commit i say, f being what is known of them. -/
def genF (l : List Cm) (f : Nat → Int) (i k : Nat) : Int := ((pars l i).take k).foldl (fun n p => max n (f p + 1)) 1
theorem genF_zero (l : List Cm) (f : Nat → Int) (i : Nat) : genF l f i 0 = 1 := by simp [genF]
theorem genF_succ (l : List Cm) (f : Nat → Int) (i k : Nat) (h : k < (pars l i).length) : genF l f i (k + 1) = max (genF l f i k) (f (pars l i)[k] + 1) := by
  unfold genF; rw [List.take_succ_eq_append_getElem h, List.foldl_append]; rfl
theorem genF_congr (l : List Cm) (f g : Nat → Int) (i : Nat) (hfg : ∀ p ∈ pars l i, f p = g p) : ∀ k, k ≤ (pars l i).length → genF l f i k = genF l g i k
  | 0, _ => by rw [genF_zero, genF_zero]
  | k + 1, h => by rw [genF_succ l f i k (by omega), genF_succ l g i k (by omega), genF_congr l f g i hfg k (by omega), hfg _ (List.getElem_mem _)]
theorem genF_bd (l : List Cm) (f : Nat → Int) (i : Nat) (M : Int) (hM : 0 ≤ M) (hf : ∀ p, 0 ≤ f p ∧ f p ≤ M) : ∀ k, k ≤ (pars l i).length → 1 ≤ genF l f i k ∧ genF l f i k ≤ M + 1
  | 0, _ => by rw [genF_zero]; omega
  | k + 1, h => by
    have := genF_bd l f i M hM hf k (by omega)
    have h2 := hf (pars l i)[k]
    rw [genF_succ l f i k (by omega)]
    omega
/-- The table behind i rounds. -/
def genT (l : List Cm) : Nat → Nat → Int
  | 0, _ => 0
  | i + 1, j => if j = i then genF l (genT l i) i (pars l i).length else genT l i j
theorem genT_bd (l : List Cm) : ∀ i j, 0 ≤ genT l i j ∧ genT l i j ≤ i
  | 0, j => by simp [genT]
  | i + 1, j => by
    have ih := genT_bd l i
    simp only [genT]
    split
    · have := genF_bd l (genT l i) i i (by omega) ih _ (Nat.le_refl _)
      omega
    · have := ih j; omega
theorem genT_low (l : List Cm) (j : Nat) : ∀ n i, j < i → i ≤ n → genT l n j = genT l i j
  | 0, i, hj, hi => by omega
  | n + 1, i, hj, hi => by
    by_cases e : i = n + 1
    · rw [e]
    · simp only [genT]
      rw [if_neg (by omega)]
      exact genT_low l j n i hj (by omega)
theorem genT_high (l : List Cm) (j : Nat) : ∀ i, i ≤ j → genT l i j = 0
  | 0, _ => rfl
  | i + 1, h => by simp only [genT]; rw [if_neg (by omega)]; exact genT_high l j i (by omega)
def gen (l : List Cm) : Nat → Int := genT l l.length
/-- While commit i is worked on. -/
def genIn (l : List Cm) (i k j : Nat) : Int := if j = i then genF l (genT l i) i k else genT l i j
theorem genIn_zero (l : List Cm) (i j : Nat) : genIn l i 0 j = if j = i then 1 else genT l i j := by unfold genIn; rw [genF_zero]
theorem genIn_succ (l : List Cm) (i k j : Nat) (h : k < (pars l i).length) : genIn l i (k + 1) j = if j = i then max (genF l (genT l i) i k) (genT l i (pars l i)[k] + 1) else genIn l i k j := by
  unfold genIn
  by_cases e : j = i
  · rw [if_pos e, if_pos e, genF_succ l _ i k h]
  · rw [if_neg e, if_neg e, if_neg e]
theorem genIn_all (l : List Cm) (i k j : Nat) (h : k = (pars l i).length) : genIn l i k j = genT l (i + 1) j := by
  subst h; simp only [genIn, genT]
section
variable {l : List Cm} (h : Ok l)
include h
/-- What the table holds in the end is what its own parents say. -/
theorem Ok.gen_fix (i : Nat) (hi : i < l.length) (f : Nat → Int) (hf : ∀ j, j < i → f j = gen l j) : genF l f i (pars l i).length = gen l i := by
  have e1 : gen l i = genF l (genT l i) i (pars l i).length := by
    unfold gen
    rw [genT_low l i l.length (i + 1) (by omega) (by omega)]
    simp only [genT, if_true]
  rw [e1]
  refine genF_congr l f (genT l i) i (fun p hp => ?_) _ (Nat.le_refl _)
  have := (h.pars_lt i p hp).1
  rw [hf p this]
  unfold gen
  exact genT_low l p l.length i this (by omega)
theorem Ok.gen_pos (i : Nat) (hi : i < l.length) : 1 ≤ gen l i := by
  rw [← h.gen_fix i hi (gen l) fun _ _ => rfl]
  exact (genF_bd l (gen l) i l.length (by omega) (genT_bd l l.length) _ (Nat.le_refl _)).1
end
/-- In a pass over a table f: what lies below i is right. -/
def mixT (l : List Cm) (i j : Nat) : Int := if j < i then gen l j else 0
end Hs
