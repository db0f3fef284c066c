/-
  Histories, the plain law, third part: best common ancestors.
-/
import Derived.Test.YtoohmkdgimkgoaaPure2
namespace Hs
/-- The commits of a list that holds numbers of commits. -/
def nats (list : List Int) : List Nat := list.map Int.toNat
/-- Is i a common ancestor? -/
def common (l : List Cm) (list : List Nat) (i : Nat) : Bool := list.all fun n => reach l n i
/-- What the program finds in the last m commits: the best ones, and what they cover. -/
def bestSt (l : List Cm) (com : Nat → Bool) : Nat → List Nat × (Nat → Bool)
  | 0 => ([], fun _ => false)
  | m + 1 =>
    if com (l.length - 1 - m) && !(bestSt l com m).2 (l.length - 1 - m) then
      ((l.length - 1 - m) :: (bestSt l com m).1, fun k => (bestSt l com m).2 k || reach l (l.length - 1 - m) k)
    else bestSt l com m
/-- No other common ancestor descends from it. -/
def isBest (l : List Cm) (com : Nat → Bool) (i : Nat) : Bool := com i && (List.range l.length).all fun k => !(k != i && com k && reach l k i)
def best (l : List Cm) (list : List Nat) : List Nat := (List.range l.length).filter (isBest l (common l list))

theorem isBest_iff (l : List Cm) (com : Nat → Bool) (i : Nat) : isBest l com i = true ↔ com i = true ∧ ∀ k, k < l.length → com k = true → reach l k i = true → k = i := by
  unfold isBest
  simp only [Bool.and_eq_true, List.all_eq_true, List.mem_range, Bool.not_eq_true', Bool.and_eq_false_imp, bne_iff_ne, ne_eq]
  constructor
  · rintro ⟨h1, h2⟩
    refine ⟨h1, fun k hk hc hr => Classical.byContradiction fun hne => ?_⟩
    have := h2 k hk ⟨hne, hc⟩
    rw [hr] at this; cases this
  · rintro ⟨h1, h2⟩
    refine ⟨h1, fun k hk hh => ?_⟩
    cases hr : reach l k i with
    | false => rfl
    | true => exact absurd (h2 k hk hh.2 hr) hh.1

section
variable {l : List Cm} (h : Ok l) (com : Nat → Bool)
include h
/-- The state behind m rounds. -/
theorem Ok.bestSt_inv : ∀ m, m ≤ l.length → (bestSt l com m).1 = ((List.range l.length).drop (l.length - m)).filter (isBest l com) ∧
    ∀ k, (bestSt l com m).2 k = true ↔ ∃ j, l.length - m ≤ j ∧ j < l.length ∧ com j = true ∧ reach l j k = true := by
  intro m
  induction m with
  | zero =>
    intro _
    refine ⟨?_, fun k => ?_⟩
    · rw [Nat.sub_zero, List.drop_of_length_le (by simp)]; rfl
    · simp only [bestSt]
      constructor
      · intro hh; cases hh
      · rintro ⟨j, h1, h2, _⟩; omega
  | succ m ih =>
    intro hm
    obtain ⟨ih1, ih2⟩ := ih (by omega)
    have ed : (List.range l.length).drop (l.length - (m + 1)) = (l.length - 1 - m) :: (List.range l.length).drop (l.length - m) := by
      rw [List.drop_eq_getElem_cons (by simp; omega)]
      have e1 : l.length - (m + 1) + 1 = l.length - m := by omega
      rw [e1]
      simp; omega
    have hcov : com (l.length - 1 - m) = true → ((bestSt l com m).2 (l.length - 1 - m) = false ↔ isBest l com (l.length - 1 - m) = true) := by
      intro hc
      constructor
      · intro hf
        rw [isBest_iff]
        refine ⟨hc, fun k hk hck hr => ?_⟩
        have hle := h.reach_le k _ hr
        apply Classical.byContradiction
        intro hne
        have := (ih2 (l.length - 1 - m)).2 ⟨k, by omega, hk, hck, hr⟩
        rw [hf] at this; cases this
      · intro hb
        rw [isBest_iff] at hb
        cases hf : (bestSt l com m).2 (l.length - 1 - m) with
        | false => rfl
        | true =>
          obtain ⟨j, h1, h2, h3, h4⟩ := (ih2 _).1 hf
          have := hb.2 j h2 h3 h4
          omega
    simp only [bestSt]
    by_cases hc : com (l.length - 1 - m) = true
    · cases hf : (bestSt l com m).2 (l.length - 1 - m) with
      | false =>
        have hb := (hcov hc).1 hf
        rw [hc]
        simp only [Bool.not_false, Bool.and_self, if_true]
        refine ⟨?_, fun k => ?_⟩
        · rw [ed, List.filter_cons, if_pos hb, ih1]
        · simp only [Bool.or_eq_true, ih2]
          constructor
          · rintro (⟨j, h1, h2⟩ | hr)
            · exact ⟨j, by omega, h2⟩
            · exact ⟨_, by omega, by omega, hc, hr⟩
          · rintro ⟨j, h1, h2, h3, h4⟩
            by_cases e : j = l.length - 1 - m
            · subst e; exact .inr h4
            · exact .inl ⟨j, by omega, h2, h3, h4⟩
      | true =>
        have hb : isBest l com (l.length - 1 - m) ≠ true := fun hb => by
          rw [(hcov hc).2 hb] at hf; cases hf
        simp only [Bool.not_true, Bool.and_false, Bool.false_eq_true, if_false]
        refine ⟨?_, fun k => ?_⟩
        · rw [ed, List.filter_cons, if_neg hb, ih1]
        · rw [ih2]
          constructor
          · rintro ⟨j, h1, h2⟩; exact ⟨j, by omega, h2⟩
          · rintro ⟨j, h1, h2, h3, h4⟩
            by_cases e : j = l.length - 1 - m
            · subst e
              obtain ⟨j', a1, a2, a3, a4⟩ := (ih2 _).1 hf
              exact ⟨j', a1, a2, a3, h.reach_trans _ _ _ a4 h4⟩
            · exact ⟨j, by omega, h2, h3, h4⟩
    · have hcf : com (l.length - 1 - m) = false := by simpa using hc
      rw [hcf]
      simp only [Bool.false_and, Bool.false_eq_true, if_false]
      refine ⟨?_, fun k => ?_⟩
      · rw [ed, List.filter_cons, if_neg (by simp [isBest, hcf]), ih1]
      · rw [ih2]
        constructor
        · rintro ⟨j, h1, h2⟩; exact ⟨j, by omega, h2⟩
        · rintro ⟨j, h1, h2, h3, h4⟩
          by_cases e : j = l.length - 1 - m
          · subst e; exact absurd h3 hc
          · exact ⟨j, by omega, h2, h3, h4⟩
theorem Ok.bestSt_best (list : List Nat) : (bestSt l (common l list) l.length).1 = best l list := by
  rw [(h.bestSt_inv _ _ (Nat.le_refl _)).1, Nat.sub_self]; rfl
end
theorem mem_best (l : List Cm) (list : List Nat) (i : Nat) : i ∈ best l list ↔ i < l.length ∧ common l list i = true ∧ ∀ k, k < l.length → common l list k = true → reach l k i = true → k = i := by
  unfold best
  rw [List.mem_filter, List.mem_range, isBest_iff]
theorem common_congr {l : List Cm} {a b : List Nat} (h : ∀ x, x ∈ a ↔ x ∈ b) (i : Nat) : common l a i = common l b i := by
  unfold common
  rw [Bool.eq_iff_iff]
  simp only [List.all_eq_true]
  exact ⟨fun hh x hx => hh x ((h x).2 hx), fun hh x hx => hh x ((h x).1 hx)⟩
theorem best_congr {l : List Cm} {a b : List Nat} (h : ∀ x, x ∈ a ↔ x ∈ b) : best l a = best l b := by
  unfold best
  have : common l a = common l b := funext fun i => common_congr h i
  rw [this]

section
variable {l : List Cm} (h : Ok l)
include h
/-- Every common ancestor is an ancestor of a best one. -/
theorem Ok.below_best (list : List Nat) : ∀ d c, l.length - c ≤ d → c < l.length → common l list c = true → ∃ x ∈ best l list, reach l x c = true := by
  intro d
  induction d with
  | zero => intro c h1 h2; omega
  | succ d ih =>
    intro c hd hc hcc
    by_cases hb : c ∈ best l list
    · exact ⟨c, hb, reach_refl l c⟩
    · rw [mem_best] at hb
      have : ∃ k, k < l.length ∧ common l list k = true ∧ reach l k c = true ∧ k ≠ c := by
        apply Classical.byContradiction
        intro hn
        refine hb ⟨hc, hcc, fun k h1 h2 h3 => Classical.byContradiction fun h4 => hn ⟨k, h1, h2, h3, h4⟩⟩
      obtain ⟨k, h1, h2, h3, h4⟩ := this
      have := h.reach_le k c h3
      obtain ⟨x, hx, hr⟩ := ih k (by omega) h1 h2
      exact ⟨x, hx, h.reach_trans _ _ _ hr h3⟩
/-- A commit and a descendant of it have it alone for their best common ancestor; and only they. -/
theorem Ok.best_ancestor (a b : Nat) (ha : a < l.length) (_hb : b < l.length) : reach l b a = true ↔ best l [a, b] = [a] := by
  have hcom : ∀ i, common l [a, b] i = true ↔ reach l a i = true ∧ reach l b i = true := fun i => by simp [common]
  constructor
  · intro hr
    have hmem : ∀ i, i ∈ best l [a, b] ↔ i = a := by
      intro i
      rw [mem_best]
      constructor
      · rintro ⟨h1, h2, h3⟩
        have h2' := (hcom i).1 h2
        exact (h3 a ha ((hcom a).2 ⟨reach_refl l a, hr⟩) h2'.1).symm
      · rintro rfl
        refine ⟨ha, (hcom i).2 ⟨reach_refl l i, hr⟩, fun k hk hck hrk => h.reach_antisymm hrk ((hcom k).1 hck).1⟩
    have hnd : (best l [a, b]).Nodup := List.Pairwise.filter _ List.nodup_range
    cases hl : best l [a, b] with
    | nil => have := (hmem a).2 rfl; rw [hl] at this; simp at this
    | cons x t =>
      rw [hl] at hmem hnd
      have hx : x = a := (hmem x).1 (by simp)
      subst hx
      cases t with
      | nil => rfl
      | cons y t =>
        have hy : y = x := (hmem y).1 (by simp)
        subst hy
        simp at hnd
  · intro he
    have : a ∈ best l [a, b] := by rw [he]; simp
    rw [mem_best] at this
    exact ((hcom a).1 this.2.1).2
end
end Hs
namespace Hs
/-! ### the reference's table -/
/-- Row i once the columns below k are done. -/
def rowAt (l : List Cm) (i k x : Nat) : Bool := x == i || (decide (x < k) && reach l i x)
/-- .. and j parents are done in column k. -/
def rowIn (l : List Cm) (i k j x : Nat) : Bool := if x = k then ((pars l i).take j).any (fun p => reach l p k) else rowAt l i k x
theorem rowIn_zero (l : List Cm) (i k : Nat) (h : k < i) : rowIn l i k 0 = rowAt l i k := by
  funext x
  unfold rowIn
  split
  · rename_i e; subst e
    have : (x == i) = false := by simp; omega
    simp [rowAt, this]
  · rfl
theorem Ok.rowIn_all {l : List Cm} (h : Ok l) (i k j : Nat) (hk : k < i) (hj : (pars l i).length ≤ j) : rowIn l i k j = rowAt l i (k + 1) := by
  funext x
  unfold rowIn
  rw [List.take_of_length_le hj]
  split
  · rename_i e; subst e
    have h1 : (i == x) = false := by simp; omega
    have h2 : (x == i) = false := by simp; omega
    have h3 := h.reach_eq i x
    rw [h1, Bool.false_or] at h3
    simp [rowAt, h2, h3]
  · rename_i e
    have : decide (x < k + 1) = decide (x < k) := by simp; omega
    simp [rowAt, this]
theorem rowIn_succ (l : List Cm) (i k j x : Nat) (hj : j < (pars l i).length) : rowIn l i k (j + 1) x = if x = k then (rowIn l i k j k || reach l ((pars l i)[j]) k) else rowIn l i k j x := by
  unfold rowIn
  by_cases e : x = k
  · subst e
    rw [if_pos rfl, if_pos rfl, if_pos rfl, List.take_succ_eq_append_getElem hj, List.any_append]; simp
  · rw [if_neg e, if_neg e, if_neg e]
theorem Ok.rowAt_done {l : List Cm} (h : Ok l) (i x : Nat) : rowAt l i i x = reach l i x := by
  unfold rowAt
  by_cases e : x = i
  · subst e; simp [reach_refl]
  · have h1 : (x == i) = false := by simpa using e
    rw [h1, Bool.false_or]
    by_cases hlt : x < i
    · simp [hlt]
    · have : reach l i x = false := by
        rw [Bool.eq_false_iff]
        intro hr
        have := h.reach_le i x hr
        omega
      simp [this]
end Hs
