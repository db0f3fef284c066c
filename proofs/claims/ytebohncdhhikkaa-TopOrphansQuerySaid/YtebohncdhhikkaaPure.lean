/-
  Histories, the plain law, first part: validity, ancestors. No program in sight.
-/
namespace Hs
def M : Int := 2305843009213693951
structure Cm where
  par : List Int
  au : Int
  tm : Int
  tr : Int
  msg : ByteArray
instance : Inhabited Cm := ⟨⟨[], 0, 0, 0, ByteArray.empty⟩⟩

/-- The first error of the parents from number k on. -/
def parErr (i : Int) (l : List Int) (k : Nat) : Int :=
  if h : k < l.length then
    if l[k] < 0 ∨ i ≤ l[k] then 3 else if 0 < k ∧ l[k] ≤ l[k - 1] then 5 else parErr i l (k + 1)
  else 0
termination_by l.length - k
theorem parErr_end (i : Int) (l : List Int) (k : Nat) (h : l.length ≤ k) : parErr i l k = 0 := by
  unfold parErr; rw [dif_neg (by omega)]
theorem parErr_range (i : Int) (l : List Int) (k : Nat) (h : k < l.length) (hb : l[k] < 0 ∨ i ≤ l[k]) : parErr i l k = 3 := by
  unfold parErr; rw [dif_pos h, if_pos hb]
theorem parErr_bad (i : Int) (l : List Int) (k : Nat) (h : k < l.length) (hb : ¬ (l[k] < 0 ∨ i ≤ l[k])) (h0 : 0 < k) (hm : l[k] ≤ l[k - 1]) : parErr i l k = 5 := by
  unfold parErr; rw [dif_pos h, if_neg hb, if_pos ⟨h0, hm⟩]
theorem parErr_next (i : Int) (l : List Int) (k : Nat) (h : k < l.length) (hb : ¬ (l[k] < 0 ∨ i ≤ l[k])) (hm : ¬ (0 < k ∧ l[k] ≤ l[k - 1])) : parErr i l k = parErr i l (k + 1) := by
  conv => lhs; unfold parErr
  rw [dif_pos h, if_neg hb, if_neg hm]

def dataErr (c : Cm) : Int :=
  if c.au < 0 ∨ 7 < c.au ∨ c.tm < 0 ∨ 100000 < c.tm ∨ c.tr < 0 ∨ M ≤ c.tr then 3 else if 80 < c.msg.size then 10 else 0
theorem dataErr_bad (c : Cm) (h : c.au < 0 ∨ 7 < c.au ∨ c.tm < 0 ∨ 100000 < c.tm ∨ c.tr < 0 ∨ M ≤ c.tr) : dataErr c = 3 := by unfold dataErr; rw [if_pos h]
theorem dataErr_msg (c : Cm) (h : ¬ (c.au < 0 ∨ 7 < c.au ∨ c.tm < 0 ∨ 100000 < c.tm ∨ c.tr < 0 ∨ M ≤ c.tr)) (h2 : 80 < c.msg.size) : dataErr c = 10 := by unfold dataErr; rw [if_neg h, if_pos h2]
theorem dataErr_good (c : Cm) (h : ¬ (c.au < 0 ∨ 7 < c.au ∨ c.tm < 0 ∨ 100000 < c.tm ∨ c.tr < 0 ∨ M ≤ c.tr)) (h2 : c.msg.size ≤ 80) : dataErr c = 0 := by unfold dataErr; rw [if_neg h, if_neg (by omega)]
def check (c : Cm) (i : Int) : Int :=
  if 3 < c.par.length then 2 else if parErr i c.par 0 ≠ 0 then parErr i c.par 0 else dataErr c
def valFrom (l : List Cm) (i : Nat) : Int × Int :=
  if h : i < l.length then if check l[i] i = 0 then valFrom l (i + 1) else (check l[i] i, (i : Int)) else (0, 0)
termination_by l.length - i
theorem valFrom_end (l : List Cm) (i : Nat) (h : l.length ≤ i) : valFrom l i = (0, 0) := by
  unfold valFrom; rw [dif_neg (by omega)]
theorem valFrom_bad (l : List Cm) (i : Nat) (h : i < l.length) (hc : check l[i] i ≠ 0) : valFrom l i = (check l[i] i, (i : Int)) := by
  unfold valFrom; rw [dif_pos h, if_neg hc]
theorem valFrom_next (l : List Cm) (i : Nat) (h : i < l.length) (hc : check l[i] i = 0) : valFrom l i = valFrom l (i + 1) := by
  conv => lhs; unfold valFrom
  rw [dif_pos h, if_pos hc]
def validate (l : List Cm) : Int × Int := if 60 < l.length then (2, -1) else valFrom l 0

/-- A valid history. -/
structure Ok (l : List Cm) : Prop where
  len : l.length ≤ 60
  all : ∀ i (h : i < l.length), check l[i] i = 0

theorem parErr_code (i : Int) (l : List Int) : ∀ n k, l.length - k ≤ n → parErr i l k = 0 ∨ parErr i l k = 3 ∨ parErr i l k = 5
  | 0, k, h => .inl (parErr_end i l k (by omega))
  | n + 1, k, h => by
    by_cases hk : k < l.length
    · by_cases hb : l[k] < 0 ∨ i ≤ l[k]
      · exact .inr (.inl (parErr_range i l k hk hb))
      · by_cases hm : 0 < k ∧ l[k] ≤ l[k - 1]
        · exact .inr (.inr (parErr_bad i l k hk hb hm.1 hm.2))
        · rw [parErr_next i l k hk hb hm]; exact parErr_code i l n (k + 1) (by omega)
    · exact .inl (parErr_end i l k (by omega))
theorem valFrom_ok (l : List Cm) : ∀ n i, l.length - i ≤ n → (valFrom l i).1 = 0 → valFrom l i = (0, 0) ∧ ∀ j (h : j < l.length), i ≤ j → check l[j] j = 0
  | 0, i, h, _ => ⟨valFrom_end l i (by omega), fun j hj hij => by omega⟩
  | n + 1, i, h, h0 => by
    by_cases hi : i < l.length
    · by_cases hc : check l[i] i = 0
      · rw [valFrom_next l i hi hc] at h0 ⊢
        obtain ⟨h1, h2⟩ := valFrom_ok l n (i + 1) (by omega) h0
        refine ⟨h1, fun j hj hij => ?_⟩
        by_cases e : j = i
        · subst e; exact hc
        · exact h2 j hj (by omega)
      · rw [valFrom_bad l i hi hc] at h0
        exact absurd h0 hc
    · exact ⟨valFrom_end l i (by omega), fun j hj hij => by omega⟩
theorem validate_ok (l : List Cm) (h : (validate l).1 = 0) : validate l = (0, 0) ∧ Ok l := by
  unfold validate at h ⊢
  split at h
  · simp at h
  · rename_i hl
    rw [if_neg hl]
    obtain ⟨h1, h2⟩ := valFrom_ok l l.length 0 (by omega) h
    exact ⟨h1, ⟨by omega, fun i hi => h2 i hi (Nat.zero_le _)⟩⟩
theorem valFrom_of_all (l : List Cm) (h : ∀ i (h : i < l.length), check l[i] i = 0) : ∀ n i, l.length - i ≤ n → valFrom l i = (0, 0)
  | 0, i, hh => valFrom_end l i (by omega)
  | n + 1, i, hh => by
    by_cases hi : i < l.length
    · rw [valFrom_next l i hi (h i hi)]; exact valFrom_of_all l h n (i + 1) (by omega)
    · exact valFrom_end l i (by omega)
theorem validate_of_ok {l : List Cm} (h : Ok l) : validate l = (0, 0) := by
  unfold validate
  rw [if_neg (by have := h.len; omega)]
  exact valFrom_of_all l h.all l.length 0 (by omega)
theorem valFrom_ix (l : List Cm) : ∀ n i, l.length - i ≤ n → 0 ≤ (valFrom l i).2 ∧ (valFrom l i).2 ≤ l.length
  | 0, i, h => by rw [valFrom_end l i (by omega)]; simp
  | n + 1, i, h => by
    by_cases hi : i < l.length
    · by_cases hc : check l[i] i = 0
      · rw [valFrom_next l i hi hc]; exact valFrom_ix l n (i + 1) (by omega)
      · rw [valFrom_bad l i hi hc]; simp; omega
    · rw [valFrom_end l i (by omega)]; simp

/-- The numbers of the parents. -/
def pars (l : List Cm) (i : Nat) : List Nat := ((l[i]?.getD default).par).map Int.toNat

theorem parErr_all (i : Int) (l : List Int) : ∀ n k, l.length - k ≤ n → parErr i l k = 0 → ∀ j (h : j < l.length), k ≤ j → 0 ≤ l[j] ∧ l[j] < i ∧ (0 < j → l[j - 1] < l[j])
  | 0, k, h, _ => fun j hj hkj => by omega
  | n + 1, k, h, h0 => fun j hj hkj => by
    have hk : k < l.length := by omega
    by_cases hb : l[k] < 0 ∨ i ≤ l[k]
    · rw [parErr_range i l k hk hb] at h0; omega
    · by_cases hm : 0 < k ∧ l[k] ≤ l[k - 1]
      · rw [parErr_bad i l k hk hb hm.1 hm.2] at h0; omega
      · rw [parErr_next i l k hk hb hm] at h0
        by_cases e : j = k
        · subst e; exact ⟨by omega, by omega, fun h0 => by omega⟩
        · exact parErr_all i l n (k + 1) (by omega) h0 j hj (by omega)
theorem check_zero {c : Cm} {i : Int} (h : check c i = 0) : c.par.length ≤ 3 ∧ parErr i c.par 0 = 0 ∧ dataErr c = 0 := by
  unfold check at h
  split at h
  · omega
  · split at h
    · contradiction
    · rename_i h1 h2
      exact ⟨by omega, by simpa using h2, h⟩
section
variable {l : List Cm} (h : Ok l)
include h
theorem Ok.par_len (i : Nat) (hi : i < l.length) : l[i].par.length ≤ 3 := (check_zero (h.all i hi)).1
theorem Ok.par_lt (i : Nat) (hi : i < l.length) (j : Nat) (hj : j < l[i].par.length) : 0 ≤ l[i].par[j] ∧ l[i].par[j] < i := by
  have := parErr_all i l[i].par _ 0 (Nat.le_refl _) (check_zero (h.all i hi)).2.1 j hj (Nat.zero_le _)
  omega
theorem Ok.par_inc (i : Nat) (hi : i < l.length) (j : Nat) (hj : j < l[i].par.length) (h0 : 0 < j) : l[i].par[j - 1] < l[i].par[j] := by
  have := parErr_all i l[i].par _ 0 (Nat.le_refl _) (check_zero (h.all i hi)).2.1 j hj (Nat.zero_le _)
  exact this.2.2 h0
theorem Ok.data (i : Nat) (hi : i < l.length) : 0 ≤ l[i].au ∧ l[i].au ≤ 7 ∧ 0 ≤ l[i].tm ∧ l[i].tm ≤ 100000 ∧ 0 ≤ l[i].tr ∧ l[i].tr < M ∧ l[i].msg.size ≤ 80 := by
  have := (check_zero (h.all i hi)).2.2
  unfold dataErr at this
  split at this
  · omega
  · split at this
    · omega
    · omega
omit h in
theorem pars_eq (i : Nat) (hi : i < l.length) : pars l i = l[i].par.map Int.toNat := by
  unfold pars; rw [List.getElem?_eq_getElem hi]; rfl
omit h in
theorem pars_out (i : Nat) (hi : l.length ≤ i) : pars l i = [] := by
  unfold pars; rw [List.getElem?_eq_none hi]; rfl
theorem Ok.pars_lt (i p : Nat) (hp : p ∈ pars l i) : p < i ∧ i < l.length := by
  by_cases hi : i < l.length
  · rw [pars_eq i hi] at hp
    obtain ⟨q, hq, rfl⟩ := List.mem_map.1 hp
    obtain ⟨j, hj, rfl⟩ := List.mem_iff_getElem.1 hq
    have := h.par_lt i hi j hj
    omega
  · rw [pars_out i (by omega)] at hp; simp at hp
end

/-- Is k among the ancestors of i (itself included)? -/
def anc (l : List Cm) : Nat → Nat → Nat → Bool
  | 0, _, _ => false
  | f + 1, i, k => i == k || (pars l i).any fun p => anc l f p k
def reach (l : List Cm) (i k : Nat) : Bool := anc l (i + 1) i k

section
variable {l : List Cm} (h : Ok l)
include h
theorem Ok.anc_fuel : ∀ (f i k : Nat), i < f → anc l f i k = reach l i k := by
  intro f
  induction f with
  | zero => intro i k hi; omega
  | succ f ih =>
    intro i k hi
    unfold reach
    simp only [anc]
    congr 1
    rw [Bool.eq_iff_iff]
    simp only [List.any_eq_true]
    constructor
    · rintro ⟨p, hp, hk⟩
      have := h.pars_lt i p hp
      refine ⟨p, hp, ?_⟩
      rw [ih p k (by omega)] at hk
      by_cases e : i = p + 1
      · subst e; exact hk
      · have hh : ∀ f', p < f' → f' ≤ f → anc l f' p k = reach l p k := fun f' h1 h2 => by
          have gen : ∀ g j, j < g → ∀ g', j < g' → anc l g j k = anc l g' j k := by
            intro g
            induction g with
            | zero => intro j hj; omega
            | succ g ihg =>
              intro j hj g' hg'
              obtain ⟨g'', rfl⟩ : ∃ g'', g' = g'' + 1 := ⟨g' - 1, by omega⟩
              simp only [anc]
              congr 1
              rw [Bool.eq_iff_iff]
              simp only [List.any_eq_true]
              constructor
              · rintro ⟨q, hq, hqk⟩
                have := h.pars_lt j q hq
                exact ⟨q, hq, by rw [← ihg q (by omega) g'' (by omega)]; exact hqk⟩
              · rintro ⟨q, hq, hqk⟩
                have := h.pars_lt j q hq
                exact ⟨q, hq, by rw [ihg q (by omega) g'' (by omega)]; exact hqk⟩
          exact gen f' p h1 (p + 1) (by omega)
        rw [hh i (by omega) (by omega)]; exact hk
    · rintro ⟨p, hp, hk⟩
      have := h.pars_lt i p hp
      refine ⟨p, hp, ?_⟩
      rw [ih p k (by omega)]
      unfold reach
      have gen : ∀ g j, j < g → ∀ g', j < g' → anc l g j k = anc l g' j k := by
        intro g
        induction g with
        | zero => intro j hj; omega
        | succ g ihg =>
          intro j hj g' hg'
          obtain ⟨g'', rfl⟩ : ∃ g'', g' = g'' + 1 := ⟨g' - 1, by omega⟩
          simp only [anc]
          congr 1
          rw [Bool.eq_iff_iff]
          simp only [List.any_eq_true]
          constructor
          · rintro ⟨q, hq, hqk⟩
            have := h.pars_lt j q hq
            exact ⟨q, hq, by rw [← ihg q (by omega) g'' (by omega)]; exact hqk⟩
          · rintro ⟨q, hq, hqk⟩
            have := h.pars_lt j q hq
            exact ⟨q, hq, by rw [ihg q (by omega) g'' (by omega)]; exact hqk⟩
      rw [gen (p + 1) p (by omega) i (by omega)]; exact hk
theorem Ok.reach_eq (i k : Nat) : reach l i k = (i == k || (pars l i).any fun p => reach l p k) := by
  unfold reach
  conv => lhs; unfold anc
  congr 1
  rw [Bool.eq_iff_iff]
  simp only [List.any_eq_true]
  constructor
  · rintro ⟨p, hp, hk⟩
    have := h.pars_lt i p hp
    exact ⟨p, hp, by rw [h.anc_fuel i p k (by omega)] at hk; exact hk⟩
  · rintro ⟨p, hp, hk⟩
    have := h.pars_lt i p hp
    exact ⟨p, hp, by rw [h.anc_fuel i p k (by omega)]; exact hk⟩
omit h in
theorem reach_refl (l : List Cm) (i : Nat) : reach l i i = true := by simp [reach, anc]
theorem Ok.reach_cases {i k : Nat} (hr : reach l i k = true) : i = k ∨ ∃ p ∈ pars l i, reach l p k = true := by
  rw [h.reach_eq] at hr
  simpa using hr
theorem Ok.reach_par {i p k : Nat} (hp : p ∈ pars l i) (hr : reach l p k = true) : reach l i k = true := by
  rw [h.reach_eq]
  simp only [Bool.or_eq_true, beq_iff_eq, List.any_eq_true]
  exact .inr ⟨p, hp, hr⟩
theorem Ok.reach_le : ∀ (i k : Nat), reach l i k = true → k ≤ i := by
  intro i
  induction i using Nat.strongRecOn with
  | _ i ih =>
    intro k hr
    rcases h.reach_cases hr with rfl | ⟨p, hp, hr⟩
    · exact Nat.le_refl _
    · have := h.pars_lt i p hp
      have := ih p (by omega) k hr
      omega
theorem Ok.reach_trans : ∀ (i j k : Nat), reach l i j = true → reach l j k = true → reach l i k = true := by
  intro i
  induction i using Nat.strongRecOn with
  | _ i ih =>
    intro j k h1 h2
    rcases h.reach_cases h1 with rfl | ⟨p, hp, hr⟩
    · exact h2
    · have := h.pars_lt i p hp
      exact h.reach_par hp (ih p (by omega) j k hr h2)
theorem Ok.reach_antisymm {i j : Nat} (h1 : reach l i j = true) (h2 : reach l j i = true) : i = j := by
  have := h.reach_le i j h1
  have := h.reach_le j i h2
  omega
theorem Ok.reach_lt {i k : Nat} (hi : i < l.length) (hr : reach l i k = true) : k < l.length := by
  have := h.reach_le i k hr; omega
end

/-! ### history.Of -/
/-- What m rounds from the last commit on have marked. -/
def ofAt (l : List Cm) (f : Nat → Bool) : Nat → Nat → Bool
  | 0 => f
  | m + 1 => fun k => ofAt l f m k || (ofAt l f m (l.length - 1 - m) && (pars l (l.length - 1 - m)).contains k)
def of (l : List Cm) (f : Nat → Bool) (k : Nat) : Bool := ofAt l f l.length k

section
variable {l : List Cm} (h : Ok l) (f : Nat → Bool)
theorem ofAt_mono (f : Nat → Bool) (k : Nat) : ∀ (d m : Nat), ofAt l f m k = true → ofAt l f (m + d) k = true
  | 0, m, hh => hh
  | d + 1, m, hh => by
    have := ofAt_mono f k d m hh
    rw [← Nat.add_assoc]
    simp only [ofAt, this, Bool.true_or]
include h
theorem Ok.ofAt_sound (hf : ∀ i, f i = true → i < l.length) : ∀ (m k : Nat), m ≤ l.length → ofAt l f m k = true → ∃ i, f i = true ∧ reach l i k = true
  | 0, k, _, hh => ⟨k, hh, reach_refl l k⟩
  | m + 1, k, hm, hh => by
    simp only [ofAt, Bool.or_eq_true, Bool.and_eq_true, List.contains_iff_mem] at hh
    rcases hh with hh | ⟨hh, hp⟩
    · exact ofAt_sound hf m k (by omega) hh
    · obtain ⟨i, hi, hr⟩ := ofAt_sound hf m _ (by omega) hh
      exact ⟨i, hi, h.reach_trans _ _ _ hr (h.reach_par hp (reach_refl l k))⟩
theorem Ok.ofAt_fix (i : Nat) (hi : i < l.length) : ∀ (d : Nat), d ≤ i → ofAt l f (l.length - 1 - i + 1 + d) i = ofAt l f (l.length - 1 - i) i
  | 0, _ => by
    simp only [ofAt]
    have : ¬ i ∈ pars l (l.length - 1 - (l.length - 1 - i)) := fun hm => by
      have := (h.pars_lt _ _ hm).1; omega
    have hc : (pars l (l.length - 1 - (l.length - 1 - i))).contains i = false := by simpa using this
    rw [hc]; simp
  | d + 1, hd => by
    rw [← Nat.add_assoc]
    simp only [ofAt]
    rw [ofAt_fix i hi d (by omega)]
    have : ¬ i ∈ pars l (l.length - 1 - (l.length - 1 - i + 1 + d)) := fun hm => by
      have := (h.pars_lt _ _ hm).1; omega
    have hc : (pars l (l.length - 1 - (l.length - 1 - i + 1 + d))).contains i = false := by simpa using this
    rw [hc]; simp
theorem Ok.of_step {i k : Nat} (hi : of l f i = true) (hp : k ∈ pars l i) : of l f k = true := by
  have hil := (h.pars_lt i k hp).2
  unfold of at hi ⊢
  have h1 := h.ofAt_fix f i hil i (Nat.le_refl _)
  have e : l.length - 1 - i + 1 + i = l.length := by omega
  rw [e] at h1
  rw [h1] at hi
  have h2 : ofAt l f (l.length - 1 - i + 1) k = true := by
    simp only [ofAt, Bool.or_eq_true, Bool.and_eq_true, List.contains_iff_mem]
    refine .inr ?_
    have e2 : l.length - 1 - (l.length - 1 - i) = i := by omega
    rw [e2]
    exact ⟨hi, hp⟩
  have := ofAt_mono f k i _ h2
  rw [e] at this
  exact this
theorem Ok.of_complete : ∀ (i k : Nat), of l f i = true → reach l i k = true → of l f k = true := by
  intro i
  induction i using Nat.strongRecOn with
  | _ i ih =>
    intro k h1 h2
    rcases h.reach_cases h2 with rfl | ⟨p, hp, hr⟩
    · exact h1
    · exact ih p (h.pars_lt i p hp).1 k (h.of_step f h1 hp) hr
/-- history.Of marks just what can be reached. -/
theorem Ok.of_iff (hf : ∀ i, f i = true → i < l.length) (k : Nat) : of l f k = true ↔ ∃ i, f i = true ∧ reach l i k = true := by
  constructor
  · exact h.ofAt_sound f hf _ k (Nat.le_refl _)
  · rintro ⟨i, hi, hr⟩
    refine h.of_complete f i k ?_ hr
    have := ofAt_mono (l := l) f i l.length 0 hi
    simpa [of] using this
/-- .. of one commit. -/
theorem Ok.of_one (n : Nat) (hn : n < l.length) (k : Nat) : of l (fun i => i == n) k = reach l n k := by
  rw [Bool.eq_iff_iff, h.of_iff _ (fun i hi => by (have : i = n := (by simpa using hi)); omega) k]
  constructor
  · rintro ⟨i, hi, hr⟩
    have : i = n := by simpa using hi
    subst this; exact hr
  · intro hr; exact ⟨n, by simp, hr⟩
end
end Hs
namespace Hs
/-- Commit i. -/
def cm (l : List Cm) (i : Nat) : Cm := l[i]?.getD default
theorem cm_eq (l : List Cm) (i : Nat) (h : i < l.length) : l[i] = cm l i := by unfold cm; rw [List.getElem?_eq_getElem h]; rfl
/-- The first m numbers from the last one down. -/
def descL (n m : Nat) : List Nat := (List.range m).map fun j => n - 1 - j
theorem descL_succ (n m : Nat) : descL n (m + 1) = descL n m ++ [n - 1 - m] := by simp [descL, List.range_succ]
/-- What the commits of a list, one after the other, mark. -/
def ofFold (l : List Cm) (f : Nat → Bool) (xs : List Nat) : Nat → Bool := xs.foldl (fun g i k => g k || (g i && (pars l i).contains k)) f
theorem ofFold_snoc (l : List Cm) (f : Nat → Bool) (xs : List Nat) (i k : Nat) : ofFold l f (xs ++ [i]) k = (ofFold l f xs k || (ofFold l f xs i && (pars l i).contains k)) := by
  simp [ofFold, List.foldl_append]
theorem ofFold_desc (l : List Cm) (f : Nat → Bool) : ∀ m, ofFold l f (descL l.length m) = ofAt l f m
  | 0 => rfl
  | m + 1 => by
    funext k
    rw [descL_succ, ofFold_snoc, ofFold_desc l f m]
    rfl
/-- .. within the parents of one commit. -/
def ofIn (l : List Cm) (g : Nat → Bool) (i j : Nat) (k : Nat) : Bool := g k || (g i && ((pars l i).take j).contains k)
theorem ofIn_zero (l : List Cm) (g : Nat → Bool) (i : Nat) : ofIn l g i 0 = g := by funext k; simp [ofIn]
theorem ofIn_all (l : List Cm) (f : Nat → Bool) (xs : List Nat) (i j : Nat) (hj : (pars l i).length ≤ j) : ofIn l (ofFold l f xs) i j = ofFold l f (xs ++ [i]) := by
  funext k; rw [ofFold_snoc]; simp only [ofIn]; rw [List.take_of_length_le hj]
theorem ofIn_self {l : List Cm} (h : Ok l) (g : Nat → Bool) (i j : Nat) : ofIn l g i j i = g i := by
  have : ((pars l i).take j).contains i = false := by
    rw [Bool.eq_false_iff]
    intro hc
    have hm := List.contains_iff_mem.1 hc
    have := (h.pars_lt i i (List.mem_of_mem_take hm)).1
    omega
  unfold ofIn; rw [this]; simp
theorem ofIn_succ (l : List Cm) (g : Nat → Bool) (i j k : Nat) (hj : j < (pars l i).length) : ofIn l g i (j + 1) k = if k = (pars l i)[j] then (ofIn l g i j k || g i) else ofIn l g i j k := by
  simp only [ofIn]
  rw [List.take_succ_eq_append_getElem hj, List.contains_append]
  by_cases e : k = (pars l i)[j]
  · rw [if_pos e, ← e]
    cases g k <;> cases g i <;> simp
  · rw [if_neg e]
    have : ([(pars l i)[j]] : List Nat).contains k = false := by simpa using e
    rw [this]; simp
theorem contains_one (n x : Nat) : ([n] : List Nat).contains x = (x == n) := by
  by_cases h : x = n
  · subst h; simp
  · have h2 : ¬ n = x := fun e => h e.symm
    have e1 : (x == n) = false := by simpa using h
    rw [e1, Bool.eq_false_iff]
    intro hc
    have := List.contains_iff_mem.1 hc
    simp at this
    exact h this
theorem check_good {c : Cm} {i : Int} (h1 : c.par.length ≤ 3) (h2 : parErr i c.par 0 = 0) (h3 : dataErr c = 0) : check c i = 0 := by
  unfold check
  rw [if_neg (by omega), if_neg (by rw [h2]; simp)]; exact h3
end Hs
