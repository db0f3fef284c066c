/-
  Histories, the plain law, second part: children, heads, the order, generations.
-/
import Derived.Test.YtebohncdhhikkaaPure
namespace Hs
/-- How many of the first m commits have k as a parent. -/
def cnt (l : List Cm) : Nat → Nat → Int
  | 0, _ => 0
  | m + 1, k => cnt l m k + ((pars l m).count k : Nat)
theorem cnt_nonneg (l : List Cm) : ∀ m k, 0 ≤ cnt l m k
  | 0, _ => Int.le_refl _
  | m + 1, k => by have := cnt_nonneg l m k; simp only [cnt]; omega
theorem cnt_zero (l : List Cm) (k : Nat) : ∀ m, cnt l m k = 0 ↔ ∀ i, i < m → k ∉ pars l i
  | 0 => by simp [cnt]
  | m + 1 => by
    have := cnt_nonneg l m k
    have ih := cnt_zero l k m
    simp only [cnt]
    constructor
    · intro h i hi
      by_cases e : i = m
      · subst e
        intro hm
        have := List.count_pos_iff.2 hm
        omega
      · exact ih.1 (by omega) i (by omega)
    · intro h
      have h1 := ih.2 fun i hi => h i (by omega)
      have h2 : (pars l m).count k = 0 := List.count_eq_zero.2 (h m (by omega))
      rw [h1, h2]; rfl
/-- .. and among the first j parents of commit m. -/
def cntIn (l : List Cm) (m j : Nat) (k : Nat) : Int := cnt l m k + (((pars l m).take j).count k : Nat)
theorem cntIn_zero (l : List Cm) (m : Nat) : cntIn l m 0 = cnt l m := by funext k; simp [cntIn]
theorem cntIn_all (l : List Cm) (m j : Nat) (hj : (pars l m).length ≤ j) : cntIn l m j = cnt l (m + 1) := by
  funext k; simp only [cntIn, cnt]; rw [List.take_of_length_le hj]
theorem cntIn_succ (l : List Cm) (m j k : Nat) (hj : j < (pars l m).length) : cntIn l m (j + 1) k = if k = (pars l m)[j] then cntIn l m j k + 1 else cntIn l m j k := by
  simp only [cntIn]
  rw [List.take_succ_eq_append_getElem hj, List.count_append]
  by_cases e : k = (pars l m)[j]
  · rw [if_pos e, ← e]; simp; omega
  · have h0 : List.count k [(pars l m)[j]] = 0 := List.count_eq_zero.2 (by simpa using e)
    rw [if_neg e, h0]; simp
theorem pars_length (l : List Cm) (i : Nat) (hi : i < l.length) : (pars l i).length = l[i].par.length := by rw [pars_eq i hi]; simp
theorem Ok.cnt_le {l : List Cm} (h : Ok l) (k : Nat) : ∀ m, m ≤ l.length → cnt l m k ≤ 3 * m
  | 0, _ => by simp [cnt]
  | m + 1, hm => by
    have := h.cnt_le k m (by omega)
    have h1 : (pars l m).count k ≤ (pars l m).length := List.count_le_length
    rw [pars_length l m (by omega)] at h1
    have h2 := h.par_len m (by omega)
    simp only [cnt]; omega
theorem Ok.cntIn_le {l : List Cm} (h : Ok l) (k m j : Nat) (hm : m < l.length) : cntIn l m j k ≤ 3 * m + 3 ∧ 0 ≤ cntIn l m j k := by
  have := h.cnt_le k m (by omega)
  have h0 := cnt_nonneg l m k
  have h1 : ((pars l m).take j).count k ≤ ((pars l m).take j).length := List.count_le_length
  have h3 : ((pars l m).take j).length ≤ (pars l m).length := by rw [List.length_take]; omega
  rw [pars_length l m hm] at h3
  have h2 := h.par_len m hm
  simp only [cntIn]; omega
/-- Parent j of commit i as a natural number. -/
theorem Ok.par_nat {l : List Cm} (h : Ok l) (i j : Nat) (hi : i < l.length) (hj : j < l[i].par.length) : ∃ p : Nat, l[i].par[j] = (p : Int) ∧ p < i ∧ ∃ hj' : j < (pars l i).length, (pars l i)[j] = p := by
  have := h.par_lt i hi j hj
  refine ⟨l[i].par[j].toNat, by omega, by omega, by rw [pars_length l i hi]; exact hj, ?_⟩
  simp [pars_eq i hi]
/-- The commits that are no parents. -/
def heads (l : List Cm) : List Nat := (List.range l.length).filter fun i => cnt l l.length i == 0

def tmOf (l : List Cm) (i : Nat) : Int := (l[i]?.getD default).tm
/-- The newest of the first i commits that have nothing left. -/
def pick (l : List Cm) (left : Nat → Int) : Nat → Int
  | 0 => -1
  | i + 1 => if left i = 0 ∧ (pick l left i < 0 ∨ tmOf l (pick l left i).toNat ≤ tmOf l i) then (i : Int) else pick l left i
def decd (left : Nat → Int) (b : Nat) (ps : List Nat) (k : Nat) : Int := (if k = b then -1 else left k) - (ps.count k : Nat)
def ordL (l : List Cm) : Nat → Nat → Int
  | 0 => cnt l l.length
  | m + 1 => decd (ordL l m) (pick l (ordL l m) l.length).toNat (pars l (pick l (ordL l m) l.length).toNat)
def ordOut (l : List Cm) (m : Nat) : List Nat := (List.range m).map fun j => (pick l (ordL l j) l.length).toNat
def order (l : List Cm) : List Nat := ordOut l l.length
theorem ordOut_succ (l : List Cm) (m : Nat) : ordOut l (m + 1) = ordOut l m ++ [(pick l (ordL l m) l.length).toNat] := by
  simp [ordOut, List.range_succ]
@[simp] theorem ordOut_length (l : List Cm) (m : Nat) : (ordOut l m).length = m := by simp [ordOut]

theorem pick_lt (l : List Cm) (left : Nat → Int) : ∀ i, -1 ≤ pick l left i ∧ pick l left i < i
  | 0 => by simp [pick]
  | i + 1 => by
    have := pick_lt l left i
    simp only [pick]
    split <;> omega
theorem pick_zero (l : List Cm) (left : Nat → Int) : ∀ i, 0 ≤ pick l left i → left (pick l left i).toNat = 0
  | 0, h => by simp [pick] at h
  | i + 1, h => by
    simp only [pick] at h ⊢
    split
    · rename_i hc; simpa using hc.1
    · rename_i hc
      rw [if_neg hc] at h
      exact pick_zero l left i h
theorem pick_some (l : List Cm) (left : Nat → Int) : ∀ i j, j < i → left j = 0 → 0 ≤ pick l left i
  | 0, j, h, _ => by omega
  | i + 1, j, h, h0 => by
    simp only [pick]
    split
    · omega
    · rename_i hc
      by_cases e : j = i
      · subst e
        have := pick_lt l left j
        omega
      · exact pick_some l left i j (by omega) h0
theorem pick_congr (l : List Cm) (f g : Nat → Int) : ∀ i, (∀ j, j < i → (f j = 0 ↔ g j = 0)) → pick l f i = pick l g i
  | 0, _ => rfl
  | i + 1, h => by
    simp only [pick]
    rw [pick_congr l f g i fun j hj => h j (by omega)]
    have := h i (by omega)
    simp only [this]

/-- What is open of k: its children among the first m that are not listed. -/
def opn (l : List Cm) (out : List Nat) : Nat → Nat → Int
  | 0, _ => 0
  | m + 1, k => opn l out m k + if m ∈ out then 0 else ((pars l m).count k : Nat)
theorem opn_nil (l : List Cm) (k : Nat) : ∀ m, opn l [] m k = cnt l m k
  | 0 => rfl
  | m + 1 => by simp [opn, cnt, opn_nil l k m]
theorem opn_nonneg (l : List Cm) (out : List Nat) (k : Nat) : ∀ m, 0 ≤ opn l out m k
  | 0 => Int.le_refl _
  | m + 1 => by have := opn_nonneg l out k m; simp only [opn]; split <;> omega
theorem opn_zero (l : List Cm) (out : List Nat) (k : Nat) : ∀ m, opn l out m k = 0 ↔ ∀ i, i < m → k ∈ pars l i → i ∈ out
  | 0 => by simp [opn]
  | m + 1 => by
    have := opn_nonneg l out k m
    have ih := opn_zero l out k m
    simp only [opn]
    constructor
    · intro h i hi hk
      by_cases e : i = m
      · subst e
        by_cases hm : i ∈ out
        · exact hm
        · rw [if_neg hm] at h
          have := List.count_pos_iff.2 hk
          omega
      · refine ih.1 ?_ i (by omega) hk
        split at h <;> omega
    · intro h
      have h1 := ih.2 fun i hi => h i (by omega)
      rw [h1]
      split
      · rfl
      · rename_i hm
        have : (pars l m).count k = 0 := List.count_eq_zero.2 fun hk => hm (h m (by omega) hk)
        rw [this]; rfl
theorem opn_add (l : List Cm) (out : List Nat) (b k : Nat) (hb : b ∉ out) : ∀ m, opn l out m k = opn l (out ++ [b]) m k + if b < m then ((pars l b).count k : Nat) else 0
  | 0 => by simp [opn]
  | m + 1 => by
    have ih := opn_add l out b k hb m
    simp only [opn]
    by_cases e : m = b
    · subst e
      rw [if_neg hb, if_pos (by simp), ih, if_neg (Nat.lt_irrefl _), if_pos (Nat.lt_succ_self _)]
    · have h1 : (m ∈ out ++ [b]) ↔ m ∈ out := by simp [e]
      have h2 : (b < m + 1) ↔ b < m := by omega
      simp only [h1, h2]
      rw [ih]; omega

structure OrdInv (l : List Cm) (m : Nat) : Prop where
  nodup : (ordOut l m).Nodup
  lt : ∀ k ∈ ordOut l m, k < l.length
  left : ∀ k, k < l.length → ordL l m k = if k ∈ ordOut l m then -1 else opn l (ordOut l m) l.length k
  up : ∀ k ∈ ordOut l m, ∀ i, k ∈ pars l i → i ∈ ordOut l m

/-- A list without repetitions whose members lie in another list is no longer than that. -/
theorem nodup_sub : ∀ (a b : List Nat), a.Nodup → (∀ x ∈ a, x ∈ b) → a.length ≤ b.length
  | [], b, _, _ => Nat.zero_le _
  | x :: a, b, h, hs => by
    have hx := hs x (by simp)
    have h2 := List.nodup_cons.1 h
    have := nodup_sub a (b.erase x) h2.2 fun y hy => by
      have hne : y ≠ x := fun e => by subst e; exact h2.1 hy
      exact (List.mem_erase_of_ne hne).2 (hs y (by simp [hy]))
    have hl := List.length_erase_of_mem hx
    have hp : 0 < b.length := List.length_pos_of_mem hx
    simp; omega
theorem nodup_len {n : Nat} : ∀ {out : List Nat}, out.Nodup → (∀ k ∈ out, k < n) → out.length ≤ n := by
  intro out h hl
  have := nodup_sub out (List.range n) h fun k hk => List.mem_range.2 (hl k hk)
  simpa using this
theorem exists_out {n : Nat} {out : List Nat} (h : out.length < n) : ∃ u, u < n ∧ u ∉ out ∧ ∀ v, u < v → v < n → v ∈ out := by
  have h1 : ∃ u, u < n ∧ u ∉ out := by
    apply Classical.byContradiction
    intro hc
    have := nodup_sub (List.range n) out List.nodup_range fun k hk => Classical.byContradiction fun hn => hc ⟨k, List.mem_range.1 hk, hn⟩
    simp at this; omega
  obtain ⟨u, hu, hn⟩ := h1
  -- the greatest one
  have : ∀ d u, n - u ≤ d → u < n → u ∉ out → ∃ u, u < n ∧ u ∉ out ∧ ∀ v, u < v → v < n → v ∈ out := by
    intro d
    induction d with
    | zero => intro u hd hu _; omega
    | succ d ih =>
      intro u hd hu hn
      by_cases hc : ∃ v, u < v ∧ v < n ∧ v ∉ out
      · obtain ⟨v, h1, h2, h3⟩ := hc
        exact ih v (by omega) h2 h3
      · exact ⟨u, hu, hn, fun v h1 h2 => Classical.byContradiction fun h3 => hc ⟨v, h1, h2, h3⟩⟩
  exact this (n - u) u (Nat.le_refl _) hu hn

section
variable {l : List Cm} (h : Ok l)
include h
theorem Ok.pick_good {m : Nat} (hm : m < l.length) (inv : OrdInv l m) : 0 ≤ pick l (ordL l m) l.length ∧ (pick l (ordL l m) l.length).toNat < l.length ∧
    (pick l (ordL l m) l.length).toNat ∉ ordOut l m ∧ ∀ i, (pick l (ordL l m) l.length).toNat ∈ pars l i → i ∈ ordOut l m := by
  obtain ⟨u, hu, hn, hall⟩ := exists_out (n := l.length) (out := ordOut l m) (by simpa using hm)
  have h0 : ordL l m u = 0 := by
    rw [inv.left u hu, if_neg hn]
    exact (opn_zero l _ u l.length).2 fun i hi hp => hall i (h.pars_lt i u hp).1 hi
  have hp := pick_some l (ordL l m) l.length u hu h0
  have hlt := (pick_lt l (ordL l m) l.length).2
  have hz := pick_zero l (ordL l m) l.length hp
  rw [inv.left _ (by omega)] at hz
  have hno : (pick l (ordL l m) l.length).toNat ∉ ordOut l m := fun hc => by rw [if_pos hc] at hz; omega
  rw [if_neg hno] at hz
  refine ⟨hp, by omega, hno, fun i hi => (opn_zero l _ _ l.length).1 hz i (h.pars_lt i _ hi).2 hi⟩
theorem Ok.ordInv : ∀ m, m ≤ l.length → OrdInv l m := by
  intro m
  induction m with
  | zero => intro _; exact ⟨by simp [ordOut], by simp [ordOut], fun k hk => by simp [ordOut, ordL, opn_nil], by simp [ordOut]⟩
  | succ m ih =>
    intro hm
    have inv := ih (by omega)
    obtain ⟨hp, hlt, hno, hup⟩ := h.pick_good (by omega) inv
    rw [show OrdInv l (m + 1) ↔ OrdInv l (m + 1) from Iff.rfl]
    have es := ordOut_succ l m
    have eL : ordL l (m + 1) = decd (ordL l m) (pick l (ordL l m) l.length).toNat (pars l (pick l (ordL l m) l.length).toNat) := rfl
    generalize (pick l (ordL l m) l.length).toNat = b at *
    refine ⟨?_, ?_, ?_, ?_⟩
    · rw [es, List.nodup_append]
      refine ⟨inv.nodup, by simp, fun a ha c hc => ?_⟩
      simp at hc; subst hc
      intro e; subst e; exact hno ha
    · rw [es]
      intro k hk
      rcases List.mem_append.1 hk with hk | hk
      · exact inv.lt k hk
      · simp at hk; subst hk; exact hlt
    · intro k hk
      rw [eL, es]
      unfold decd
      by_cases e : k = b
      · subst e
        rw [if_pos rfl, if_pos (by simp)]
        have : (pars l k).count k = 0 := List.count_eq_zero.2 fun hm => by have := (h.pars_lt _ _ hm).1; omega
        rw [this]; rfl
      · rw [if_neg e, inv.left k hk]
        have h1 : (k ∈ ordOut l m ++ [b]) ↔ k ∈ ordOut l m := by simp [e]
        simp only [h1]
        by_cases hk2 : k ∈ ordOut l m
        · rw [if_pos hk2, if_pos hk2]
          have : (pars l b).count k = 0 := List.count_eq_zero.2 fun hm => hno (inv.up k hk2 b hm)
          rw [this]; rfl
        · rw [if_neg hk2, if_neg hk2, opn_add l _ b k hno, if_pos hlt]
          omega
    · rw [es]
      intro k hk i hi
      rcases List.mem_append.1 hk with hk | hk
      · exact List.mem_append.2 (.inl (inv.up k hk i hi))
      · simp at hk; subst hk
        exact List.mem_append.2 (.inl (hup i hi))
end

/-! ### words for the walk of 'Order' -/
theorem tmOf_eq (l : List Cm) (i : Nat) (hi : i < l.length) : tmOf l i = l[i].tm := by unfold tmOf; rw [List.getElem?_eq_getElem hi]; rfl
theorem pick_no (l : List Cm) (left : Nat → Int) (i : Nat) (h : left i ≠ 0) : pick l left (i + 1) = pick l left i := by
  simp only [pick]; rw [if_neg (fun hc => h hc.1)]
theorem pick_first (l : List Cm) (left : Nat → Int) (i : Nat) (h : left i = 0) (hp : pick l left i < 0) : pick l left (i + 1) = i := by
  simp only [pick]; rw [if_pos ⟨h, .inl hp⟩]
theorem pick_new (l : List Cm) (left : Nat → Int) (i : Nat) (h : left i = 0) (b : Nat) (hb : pick l left i = b) (ht : tmOf l b ≤ tmOf l i) : pick l left (i + 1) = i := by
  simp only [pick]; rw [if_pos ⟨h, .inr (by rw [hb]; exact ht)⟩]
theorem pick_old (l : List Cm) (left : Nat → Int) (i : Nat) (b : Nat) (hb : pick l left i = b) (ht : tmOf l i < tmOf l b) : pick l left (i + 1) = b := by
  simp only [pick]; rw [if_neg (fun hc => by
    rcases hc.2 with h | h
    · rw [hb] at h; omega
    · rw [hb] at h; simp only [Int.toNat_natCast] at h; omega), hb]
def decdIn (l : List Cm) (left : Nat → Int) (b j : Nat) (k : Nat) : Int := (if k = b then -1 else left k) - (((pars l b).take j).count k : Nat)
theorem decdIn_zero (l : List Cm) (left : Nat → Int) (b k : Nat) : decdIn l left b 0 k = if k = b then -1 else left k := by simp [decdIn]
theorem decdIn_all (l : List Cm) (left : Nat → Int) (b j : Nat) (hj : (pars l b).length ≤ j) : decdIn l left b j = decd left b (pars l b) := by
  funext k; simp only [decdIn, decd]; rw [List.take_of_length_le hj]
theorem decdIn_succ (l : List Cm) (left : Nat → Int) (b j k : Nat) (hj : j < (pars l b).length) : decdIn l left b (j + 1) k = if k = (pars l b)[j] then decdIn l left b j k - 1 else decdIn l left b j k := by
  simp only [decdIn]
  rw [List.take_succ_eq_append_getElem hj, List.count_append]
  by_cases e : k = (pars l b)[j]
  · have h1 : List.count k [(pars l b)[j]] = 1 := by rw [← e]; simp
    rw [if_pos e, h1]; omega
  · have h0 : List.count k [(pars l b)[j]] = 0 := List.count_eq_zero.2 (by simpa using e)
    rw [if_neg e, h0]; simp
theorem opn_le (l : List Cm) (out : List Nat) (k : Nat) : ∀ m, opn l out m k ≤ cnt l m k
  | 0 => Int.le_refl _
  | m + 1 => by have := opn_le l out k m; simp only [opn, cnt]; split <;> omega
theorem Ok.ordL_bd {l : List Cm} (h : Ok l) (m k : Nat) (hm : m ≤ l.length) (hk : k < l.length) : -1 ≤ ordL l m k ∧ ordL l m k ≤ 180 := by
  rw [(h.ordInv m hm).left k hk]
  have h1 := opn_nonneg l (ordOut l m) k l.length
  have h2 := opn_le l (ordOut l m) k l.length
  have h3 := h.cnt_le k l.length (Nat.le_refl _)
  have h4 := h.len
  split <;> omega
theorem Ok.decdIn_bd {l : List Cm} (h : Ok l) (m b j k : Nat) (hm : m ≤ l.length) (hk : k < l.length) (hb : b < l.length) : -4 ≤ decdIn l (ordL l m) b j k ∧ decdIn l (ordL l m) b j k ≤ 180 := by
  have h1 := h.ordL_bd m k hm hk
  have h2 : ((pars l b).take j).count k ≤ ((pars l b).take j).length := List.count_le_length
  have h3 : ((pars l b).take j).length ≤ (pars l b).length := by rw [List.length_take]; omega
  rw [pars_length l b hb] at h3
  have h4 := h.par_len b hb
  simp only [decdIn]
  split <;> omega
/-- Numbers of commits as Go's numbers. -/
def ints (l : List Nat) : List Int := l.map fun (n : Nat) => (n : Int)
@[simp] theorem ints_length (l : List Nat) : (ints l).length = l.length := by simp [ints]
theorem ints_append (l m : List Nat) : ints (l ++ m) = ints l ++ ints m := by simp [ints]
theorem ordL_succ (l : List Cm) (m b : Nat) (hb : pick l (ordL l m) l.length = b) : ordL l (m + 1) = decd (ordL l m) b (pars l b) := by
  simp only [ordL]; rw [hb]; rfl
theorem ordOut_succ' (l : List Cm) (m b : Nat) (hb : pick l (ordL l m) l.length = b) : ordOut l (m + 1) = ordOut l m ++ [b] := by
  rw [ordOut_succ, hb]; rfl
theorem Ok.pick_nat {l : List Cm} (h : Ok l) (m : Nat) (hm : m < l.length) : ∃ b : Nat, pick l (ordL l m) l.length = b ∧ b < l.length := by
  have := h.pick_good hm (h.ordInv m (by omega))
  exact ⟨_, (Int.toNat_of_nonneg this.1).symm, this.2.1⟩
end Hs
