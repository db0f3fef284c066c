/-
  Histories, the plain law, fourth part: the order contains every commit once, and children ahead of their parents; the reference's order; heads.
-/
import Derived.Test.YtoohmkdgimkgoaaPure3
namespace Hs
theorem ordOut_take (l : List Cm) (m n : Nat) (h : m ≤ n) : (ordOut l n).take m = ordOut l m := by
  unfold ordOut
  rw [← List.map_take, List.take_range, Nat.min_eq_left h]
theorem ordOut_get (l : List Cm) (n i : Nat) (h : i < (ordOut l n).length) : (ordOut l n)[i] = (pick l (ordL l i) l.length).toNat := by
  simp [ordOut]
section
variable {l : List Cm} (h : Ok l)
include h
theorem Ok.order_nodup : (order l).Nodup := (h.ordInv l.length (Nat.le_refl _)).nodup
theorem Ok.order_lt : ∀ k ∈ order l, k < l.length := (h.ordInv l.length (Nat.le_refl _)).lt
theorem Ok.order_all (u : Nat) (hu : u < l.length) : u ∈ order l := by
  apply Classical.byContradiction
  intro hn
  have h1 : (order l ++ [u]).Nodup := by
    rw [List.nodup_append]
    refine ⟨h.order_nodup, by simp, fun a ha c hc => ?_⟩
    simp at hc; subst hc
    intro e; subst e; exact hn ha
  have h2 := nodup_len (n := l.length) h1 (fun k hk => by
    rcases List.mem_append.1 hk with hk | hk
    · exact h.order_lt k hk
    · simp at hk; omega)
  simp [order] at h2
  omega
/-- Whatever is listed at place j has all its children listed ahead. -/
theorem Ok.order_up (j : Nat) (hj : j < (order l).length) (i : Nat) (hi : (order l)[j] ∈ pars l i) : i ∈ (order l).take j := by
  have hj' : j < l.length := by simpa [order] using hj
  have hg := h.pick_good hj' (h.ordInv j (by omega))
  have e : (order l)[j] = (pick l (ordL l j) l.length).toNat := ordOut_get l l.length j hj
  rw [e] at hi
  have := hg.2.2.2 i hi
  unfold order
  rw [ordOut_take l j l.length (by omega)]
  exact this
end
/-- Where each commit stands among the first i of the order. -/
def posAt (l : List Cm) : Nat → Nat → Int
  | 0, _ => -1
  | i + 1, k => if k = (order l)[i]?.getD 0 then (i : Int) else posAt l i k
theorem posAt_succ (l : List Cm) (i k : Nat) (hi : i < (order l).length) : posAt l (i + 1) k = if k = (order l)[i] then (i : Int) else posAt l i k := by
  simp only [posAt]; rw [List.getElem?_eq_getElem hi]; rfl
theorem posAt_none (l : List Cm) : ∀ (i k : Nat), i ≤ (order l).length → k ∉ (order l).take i → posAt l i k = -1
  | 0, _, _, _ => rfl
  | i + 1, k, hi, hk => by
    rw [posAt_succ l i k (by omega)]
    rw [List.take_succ_eq_append_getElem (by omega), List.mem_append] at hk
    rw [if_neg (fun e => hk (.inr (by simp [e])))]
    exact posAt_none l i k (by omega) (fun hh => hk (.inl hh))
theorem nodup_get {l : List Nat} (h : l.Nodup) (i j : Nat) (hi : i < l.length) (hj : j < l.length) (e : l[i] = l[j]) : i = j := by
  rcases Nat.lt_trichotomy i j with hlt | he | hlt
  · exact absurd e (List.pairwise_iff_getElem.1 h i j hi hj hlt)
  · exact he
  · exact absurd e.symm (List.pairwise_iff_getElem.1 h j i hj hi hlt)
theorem posAt_some {l : List Cm} (h : Ok l) : ∀ (i j : Nat) (hj : j < (order l).length), j < i → i ≤ (order l).length → posAt l i ((order l)[j]) = j
  | 0, j, _, hji, _ => by omega
  | i + 1, j, hj, hji, hi => by
    rw [posAt_succ l i _ (by omega)]
    by_cases e : j = i
    · subst e; rw [if_pos rfl]
    · rw [if_neg (fun he => e (nodup_get h.order_nodup j i hj (by omega) he))]
      exact posAt_some h i j hj (by omega) (by omega)
theorem Ok.posAt_fresh {l : List Cm} (h : Ok l) (i : Nat) (hi : i < (order l).length) : posAt l i ((order l)[i]) = -1 := by
  refine posAt_none l i _ (by omega) fun hm => ?_
  obtain ⟨j, hj, e⟩ := List.mem_iff_getElem.1 hm
  rw [List.getElem_take] at e
  have := nodup_get h.order_nodup j i (by simp at hj; omega) hi e
  simp at hj; omega
theorem posAt_bd (l : List Cm) : ∀ i k, -1 ≤ posAt l i k ∧ posAt l i k ≤ i
  | 0, _ => by simp [posAt]
  | i + 1, k => by
    have := posAt_bd l i k
    simp only [posAt]
    split <;> omega
/-- A commit stands ahead of its parents. -/
theorem Ok.pos_lt {l : List Cm} (h : Ok l) (i p : Nat) (hp : p ∈ pars l i) : posAt l l.length i < posAt l l.length p := by
  have hpl := h.pars_lt i p hp
  have hlen : (order l).length = l.length := by simp [order]
  obtain ⟨jp, hjp, ep⟩ := List.mem_iff_getElem.1 (h.order_all p (by omega))
  subst ep
  have hm := h.order_up jp hjp i hp
  obtain ⟨ji, hji, ei⟩ := List.mem_iff_getElem.1 hm
  rw [List.getElem_take] at ei
  simp at hji
  subst ei
  rw [posAt_some h l.length jp hjp (by omega) (by omega), posAt_some h l.length ji (by omega) (by omega) (by omega)]
  omega
/-- A commit is ready for the reference: it is not listed, and all its children are. -/
theorem Ok.ready {l : List Cm} (h : Ok l) (m i : Nat) (hm : m ≤ l.length) (hi : i < l.length) : ordL l m i = 0 ↔ i ∉ ordOut l m ∧ ∀ k, k < l.length → i ∈ pars l k → k ∈ ordOut l m := by
  rw [(h.ordInv m hm).left i hi]
  by_cases hk : i ∈ ordOut l m
  · rw [if_pos hk]
    constructor
    · intro hh; omega
    · intro hh; exact absurd hk hh.1
  · rw [if_neg hk, opn_zero]
    exact ⟨fun hh => ⟨hk, hh⟩, fun hh => hh.2⟩
/-! ### heads -/
theorem mem_heads (l : List Cm) (i : Nat) : i ∈ heads l ↔ i < l.length ∧ ∀ k, k < l.length → i ∉ pars l k := by
  unfold heads
  rw [List.mem_filter, List.mem_range, beq_iff_eq, cnt_zero]
theorem Ok.below_head {l : List Cm} (h : Ok l) : ∀ d c, l.length - c ≤ d → c < l.length → ∃ x ∈ heads l, reach l x c = true := by
  intro d
  induction d with
  | zero => intro c h1 h2; omega
  | succ d ih =>
    intro c hd hc
    by_cases hh : c ∈ heads l
    · exact ⟨c, hh, reach_refl l c⟩
    · rw [mem_heads] at hh
      have : ∃ k, k < l.length ∧ c ∈ pars l k := by
        apply Classical.byContradiction
        intro hn
        exact hh ⟨hc, fun k hk hp => hn ⟨k, hk, hp⟩⟩
      obtain ⟨k, hk, hp⟩ := this
      have := (h.pars_lt k c hp).1
      obtain ⟨x, hx, hr⟩ := ih k (by omega) hk
      exact ⟨x, hx, h.reach_trans _ _ _ hr (h.reach_par hp (reach_refl l c))⟩
/-- No head is an ancestor of another commit. -/
theorem Ok.head_only {l : List Cm} (h : Ok l) (x y : Nat) (hy : y ∈ heads l) (hr : reach l x y = true) : x = y := by
  rw [mem_heads] at hy
  induction x using Nat.strongRecOn with
  | _ x ih =>
    rcases h.reach_cases hr with e | ⟨p, hp, hr'⟩
    · exact e
    · have hpl := h.pars_lt x p hp
      have := ih p hpl.1 hr'
      subst this
      exact absurd hp (hy.2 x hpl.2)
end Hs
