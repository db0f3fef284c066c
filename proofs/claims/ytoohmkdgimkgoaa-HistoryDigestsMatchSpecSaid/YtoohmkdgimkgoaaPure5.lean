/-
  Histories, the plain law, fifth part: what the heads reach.
-/
import Derived.Test.YtoohmkdgimkgoaaPure4
namespace Hs
/-- What the first i heads reach. -/
def seenAt (l : List Cm) (i k : Nat) : Bool := ((heads l).take i).any fun x => reach l x k
/-- .. while head number i is being looked through. -/
def seenIn (l : List Cm) (i kk k : Nat) : Bool := if k < kk then seenAt l (i + 1) k else seenAt l i k
theorem seenAt_succ (l : List Cm) (i k : Nat) (h : i < (heads l).length) : seenAt l (i + 1) k = (seenAt l i k || reach l (heads l)[i] k) := by
  unfold seenAt
  rw [List.take_succ_eq_append_getElem h, List.any_append]; simp
theorem seenIn_succ (l : List Cm) (i kk k : Nat) (h : i < (heads l).length) : seenIn l i (kk + 1) k = if k = kk then (seenIn l i kk kk || reach l (heads l)[i] kk) else seenIn l i kk k := by
  unfold seenIn
  by_cases e : k = kk
  · subst e
    rw [if_pos (by omega), if_pos rfl, if_neg (by omega), seenAt_succ l i k h]
  · rw [if_neg e]
    have : (k < kk + 1) ↔ k < kk := by omega
    simp only [this]
theorem Ok.seen_all {l : List Cm} (h : Ok l) (k : Nat) (hk : k < l.length) : seenAt l (heads l).length k = true := by
  unfold seenAt
  rw [List.take_length, List.any_eq_true]
  exact h.below_head _ k (Nat.le_refl _) hk
theorem heads_nodup (l : List Cm) : (heads l).Nodup := List.Pairwise.filter _ List.nodup_range
theorem heads_lt (l : List Cm) : ∀ x ∈ heads l, x < l.length := fun x hx => ((mem_heads l x).1 hx).1
theorem heads_len (l : List Cm) : (heads l).length ≤ l.length := by
  have := List.length_filter_le (fun i => cnt l l.length i == 0) (List.range l.length)
  simpa [heads] using this
theorem Ok.head_other {l : List Cm} (h : Ok l) (i k : Nat) (hi : i < (heads l).length) (hk : k < (heads l).length) (hne : i ≠ k) : reach l (heads l)[i] (heads l)[k] = false := by
  rw [Bool.eq_false_iff]
  intro hr
  have := h.head_only _ _ (List.getElem_mem hk) hr
  exact hne (nodup_get (heads_nodup l) i k hi hk this)
end Hs
