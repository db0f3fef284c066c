/-
  File trees: the paths in which two of them differ. No program in sight.
  File trees: the paths in which two of them differ, as they are collected and sorted. No program in sight.
  File trees: the library's searches and its sort at lists of strings.
  File trees: walk of 'Changed'.
-/
import Derived.Test.YtjljknocnebnaaaDoorG07
import Derived.Test.YtjljknocnebnaaaDoorG10
import Derived.Lib.SlicesS
import Derived.Test.YtjljknocnebnaaaDoorG16
import Derived.Test.YtjljknocnebnaaaDoorG15
import Derived.Sort.Grow
import Derived.Sort.EncStr
namespace Tr
def at_ (p : List Nm) (i : Nat) : Nm := p[i]?.getD []
def ln (x : List Int) (i : Nat) : Int := x[i]?.getD 0
theorem at_eq (p : List Nm) (i : Nat) (h : i < p.length) : p[i] = at_ p i := by unfold at_; rw [List.getElem?_eq_getElem h]; rfl
theorem at_mem {p : List Nm} {c : Nm} : c ∈ p ↔ ∃ i, i < p.length ∧ at_ p i = c := by
  constructor
  · intro h
    obtain ⟨i, hi, e⟩ := List.mem_iff_getElem.1 h
    exact ⟨i, hi, by rw [← at_eq p i hi, e]⟩
  · rintro ⟨i, hi, rfl⟩
    rw [← at_eq p i hi]; exact List.getElem_mem hi
/-- The path number i has the same link on the other side. -/
def sameB (p : List Nm) (x : List Int) (q : List Nm) (y : List Int) (i : Nat) : Bool := (List.range q.length).any fun k => decide (at_ p i = at_ q k) && decide (ln x i = ln y k)
theorem sameB_iff (p : List Nm) (x : List Int) (q : List Nm) (y : List Int) (i : Nat) : sameB p x q y i = true ↔ ∃ k, k < q.length ∧ at_ p i = at_ q k ∧ ln x i = ln y k := by
  unfold sameB; rw [List.any_eq_true]
  simp [List.mem_range]
def aL (p : List Nm) (x : List Int) (q : List Nm) (y : List Int) (i : Nat) : List Nm := ((List.range i).filter fun j => !sameB p x q y j).map (at_ p)
theorem aL_succ (p : List Nm) (x : List Int) (q : List Nm) (y : List Int) (i : Nat) : aL p x q y (i + 1) = aL p x q y i ++ if sameB p x q y i = true then [] else [at_ p i] := by
  unfold aL
  rw [List.range_succ, List.filter_append, List.map_append]
  congr 1
  by_cases h : sameB p x q y i = true
  · rw [if_pos h]; simp [h]
  · rw [if_neg h]; simp [h]
/-- Put where it belongs. -/
def ins (b : Nm) : List Nm → List Nm
  | [] => [b]
  | a :: l => if a < b then a :: ins b l else b :: a :: l
/-- How many at the head come ahead of b. -/
def hd (b : Nm) : List Nm → Nat
  | [] => 0
  | a :: l => if a < b then hd b l + 1 else 0
theorem hd_le (b : Nm) : ∀ l, hd b l ≤ l.length
  | [] => Nat.le_refl _
  | a :: l => by
    rw [hd]; split
    · have := hd_le b l; simp; omega
    · simp
theorem ins_eq (b : Nm) : ∀ l, ins b l = l.take (hd b l) ++ [b] ++ l.drop (hd b l)
  | [] => rfl
  | a :: l => by
    rw [ins, hd]
    by_cases h : a < b
    · rw [if_pos h, if_pos h, ins_eq b l]; simp
    · rw [if_neg h, if_neg h]; simp
theorem mem_ins (b c : Nm) : ∀ l, c ∈ ins b l ↔ c = b ∨ c ∈ l
  | [] => by simp [ins]
  | a :: l => by
    rw [ins]
    by_cases h : a < b
    · rw [if_pos h, List.mem_cons, mem_ins b c l, List.mem_cons]
      constructor
      · rintro (h | h | h)
        · exact .inr (.inl h)
        · exact .inl h
        · exact .inr (.inr h)
      · rintro (h | h | h)
        · exact .inr (.inl h)
        · exact .inl h
        · exact .inr (.inr h)
    · rw [if_neg h, List.mem_cons]
abbrev Srt (l : List Nm) : Prop := l.Pairwise (fun a b => a < b)
theorem nlt_irrefl (a : Nm) : ¬ a < a := List.lt_irrefl a
theorem nlt_trans {a b c : Nm} (h : a < b) (k : b < c) : a < c := List.lt_trans h k
theorem nlt_tri (a b : Nm) : a < b ∨ a = b ∨ b < a := by
  by_cases h : a < b
  · exact .inl h
  · by_cases k : b < a
    · exact .inr (.inr k)
    · exact .inr (.inl (List.le_antisymm (List.not_lt.1 k) (List.not_lt.1 h)))
theorem ins_srt (b : Nm) : ∀ l, Srt l → b ∉ l → Srt (ins b l)
  | [], _, _ => by simp [ins, Srt]
  | a :: l, h, hb => by
    obtain ⟨h1, h2⟩ := List.pairwise_cons.1 h
    rw [ins]
    by_cases hab : a < b
    · rw [if_pos hab]
      refine List.pairwise_cons.2 ⟨fun c hc => ?_, ins_srt b l h2 fun hm => hb (List.mem_cons_of_mem _ hm)⟩
      rcases (mem_ins b c l).1 hc with rfl | hc
      · exact hab
      · exact h1 c hc
    · rw [if_neg hab]
      have hba : b < a := by
        rcases nlt_tri a b with k | k | k
        · exact absurd k hab
        · exact absurd (by simp [k]) hb
        · exact k
      refine List.pairwise_cons.2 ⟨fun c hc => ?_, h⟩
      rcases List.mem_cons.1 hc with rfl | hc
      · exact hba
      · exact nlt_trans hba (h1 c hc)
theorem srt_ext : ∀ {u v : List Nm}, Srt u → Srt v → (∀ x, x ∈ u ↔ x ∈ v) → u = v
  | [], [], _, _, _ => rfl
  | [], b :: v, _, _, h => by have := (h b).2 (by simp); cases this
  | a :: u, [], _, _, h => by have := (h a).1 (by simp); cases this
  | a :: u, b :: v, hu, hv, h => by
    obtain ⟨u1, u2⟩ := List.pairwise_cons.1 hu
    obtain ⟨v1, v2⟩ := List.pairwise_cons.1 hv
    have e : a = b := by
      rcases List.mem_cons.1 ((h a).1 (by simp)) with e | ha
      · exact e
      · rcases List.mem_cons.1 ((h b).2 (by simp)) with e | hb
        · exact e.symm
        · exact absurd (nlt_trans (v1 a ha) (u1 b hb)) (nlt_irrefl _)
    subst e
    congr 1
    refine srt_ext u2 v2 fun x => ⟨fun hx => ?_, fun hx => ?_⟩
    · rcases List.mem_cons.1 ((h x).1 (List.mem_cons_of_mem _ hx)) with e | hx'
      · subst e; exact absurd (u1 x hx) (nlt_irrefl _)
      · exact hx'
    · rcases List.mem_cons.1 ((h x).2 (List.mem_cons_of_mem _ hx)) with e | hx'
      · subst e; exact absurd (v1 x hx) (nlt_irrefl _)
      · exact hx'
/-- The changed paths, behind the first k of the other side. -/
def chL (p : List Nm) (x : List Int) (q : List Nm) (y : List Int) : Nat → List Nm
  | 0 => aL p x q y p.length
  | k + 1 => if at_ q k ∈ p then chL p x q y k else ins (at_ q k) (chL p x q y k)
def chF (p : List Nm) (x : List Int) (q : List Nm) (y : List Int) : List Nm := chL p x q y q.length
theorem srt_lt {p : List Nm} (h : Srt p) {i j : Nat} (hij : i < j) (hj : j < p.length) : at_ p i < at_ p j := by
  have := List.pairwise_iff_getElem.1 h i j (by omega) hj hij
  rwa [at_eq p i (by omega), at_eq p j hj] at this
theorem srt_inj {p : List Nm} (h : Srt p) {i j : Nat} (hi : i < p.length) (hj : j < p.length) (e : at_ p i = at_ p j) : i = j := by
  rcases Nat.lt_trichotomy i j with k | k | k
  · exact absurd (e ▸ srt_lt h k hj) (nlt_irrefl _)
  · exact k
  · exact absurd (e ▸ srt_lt h k hi) (nlt_irrefl _)
theorem mem_aL (p : List Nm) (x : List Int) (q : List Nm) (y : List Int) (c : Nm) : ∀ i, c ∈ aL p x q y i ↔ ∃ j, j < i ∧ at_ p j = c ∧ sameB p x q y j = false := by
  intro i; unfold aL
  rw [List.mem_map]
  simp only [List.mem_filter, List.mem_range]
  constructor
  · rintro ⟨j, ⟨h1, h2⟩, h3⟩; exact ⟨j, h1, h3, by simpa using h2⟩
  · rintro ⟨j, h1, h2, h3⟩; exact ⟨j, ⟨h1, by simp [h3]⟩, h2⟩
theorem srt_aL {p : List Nm} (x : List Int) (q : List Nm) (y : List Int) (h : Srt p) : ∀ i, i ≤ p.length → Srt (aL p x q y i)
  | 0, _ => by simp [aL, Srt]
  | i + 1, hi => by
    rw [aL_succ]
    split
    · rw [List.append_nil]; exact srt_aL x q y h i (by omega)
    · refine List.pairwise_append.2 ⟨srt_aL x q y h i (by omega), by simp, fun a ha b hb => ?_⟩
      rw [List.mem_singleton] at hb; subst hb
      obtain ⟨j, hj, rfl, _⟩ := (mem_aL p x q y a i).1 ha
      exact srt_lt h hj (by omega)
theorem chL_spec {p q : List Nm} (x y : List Int) (hp : Srt p) (hq : Srt q) : ∀ k, k ≤ q.length → Srt (chL p x q y k) ∧ ∀ c, c ∈ chL p x q y k ↔ c ∈ aL p x q y p.length ∨ ∃ j, j < k ∧ at_ q j = c ∧ c ∉ p
  | 0, _ => ⟨srt_aL x q y hp _ (Nat.le_refl _), fun c => by simp [chL]⟩
  | k + 1, hk => by
    obtain ⟨h1, h2⟩ := chL_spec x y hp hq k (by omega)
    rw [chL]
    by_cases hm : at_ q k ∈ p
    · rw [if_pos hm]
      refine ⟨h1, fun c => (h2 c).trans ?_⟩
      constructor
      · rintro (h | ⟨j, hj, e, hn⟩)
        · exact .inl h
        · exact .inr ⟨j, by omega, e, hn⟩
      · rintro (h | ⟨j, hj, e, hn⟩)
        · exact .inl h
        · by_cases hjk : j = k
          · subst hjk; exact absurd (e ▸ hm) hn
          · exact .inr ⟨j, by omega, e, hn⟩
    · rw [if_neg hm]
      refine ⟨ins_srt _ _ h1 fun hc => ?_, fun c => ?_⟩
      · rcases (h2 _).1 hc with h | ⟨j, hj, e, _⟩
        · obtain ⟨i, hi, e, _⟩ := (mem_aL p x q y _ _).1 h
          exact hm (at_mem.2 ⟨i, hi, e⟩)
        · have := srt_inj hq (show j < q.length by omega) (show k < q.length by omega) e
          omega
      · rw [mem_ins, h2]
        constructor
        · rintro (rfl | h | ⟨j, hj, e, hn⟩)
          · exact .inr ⟨k, by omega, rfl, hm⟩
          · exact .inl h
          · exact .inr ⟨j, by omega, e, hn⟩
        · rintro (h | ⟨j, hj, e, hn⟩)
          · exact .inr (.inl h)
          · by_cases hjk : j = k
            · subst hjk; exact .inl e.symm
            · exact .inr (.inr ⟨j, by omega, e, hn⟩)
/-- What a path that has changed is. -/
theorem mem_chF {p q : List Nm} (x y : List Int) (hp : Srt p) (hq : Srt q) (c : Nm) : c ∈ chF p x q y ↔ (c ∈ p ∨ c ∈ q) ∧ ¬ ∃ i k, i < p.length ∧ k < q.length ∧ at_ p i = c ∧ at_ q k = c ∧ ln x i = ln y k := by
  unfold chF
  rw [(chL_spec x y hp hq _ (Nat.le_refl _)).2 c, mem_aL]
  constructor
  · rintro (⟨j, hj, rfl, hs⟩ | ⟨j, hj, rfl, hn⟩)
    · refine ⟨.inl (at_mem.2 ⟨j, hj, rfl⟩), ?_⟩
      rintro ⟨i, k, hi, hk, e1, e2, e3⟩
      obtain rfl := srt_inj hp hi hj e1
      have := (sameB_iff p x q y i).2 ⟨k, hk, e2.symm, e3⟩
      rw [hs] at this; cases this
    · refine ⟨.inr (at_mem.2 ⟨j, hj, rfl⟩), ?_⟩
      rintro ⟨i, k, hi, _, e1, _, _⟩
      exact hn (at_mem.2 ⟨i, hi, e1⟩)
  · rintro ⟨h, hn⟩
    by_cases hc : c ∈ p
    · obtain ⟨i, hi, e⟩ := at_mem.1 hc
      refine .inl ⟨i, hi, e, ?_⟩
      rw [Bool.eq_false_iff]
      intro hs
      obtain ⟨k, hk, e2, e3⟩ := (sameB_iff p x q y i).1 hs
      exact hn ⟨i, k, hi, hk, e, by rw [← e2, e], e3⟩
    · rcases h with h | h
      · exact absurd h hc
      · obtain ⟨k, hk, e⟩ := at_mem.1 h
        exact .inr ⟨k, hk, e, hc⟩
theorem srt_chF {p q : List Nm} (x y : List Int) (hp : Srt p) (hq : Srt q) : Srt (chF p x q y) := (chL_spec x y hp hq _ (Nat.le_refl _)).1
/-- The order of the sides does not matter. -/
theorem ch_symm {p q : List Nm} (x y : List Int) (hp : Srt p) (hq : Srt q) : chF p x q y = chF q y p x :=
  srt_ext (srt_chF x y hp hq) (srt_chF y x hq hp) fun c => by
    rw [mem_chF x y hp hq, mem_chF y x hq hp]
    constructor
    · rintro ⟨h, hn⟩; exact ⟨h.symm, fun ⟨i, k, h1, h2, h3, h4, h5⟩ => hn ⟨k, i, h2, h1, h4, h3, h5.symm⟩⟩
    · rintro ⟨h, hn⟩; exact ⟨h.symm, fun ⟨i, k, h1, h2, h3, h4, h5⟩ => hn ⟨k, i, h2, h1, h4, h3, h5.symm⟩⟩
/-- No path has changed: the same paths with the same links. -/
theorem ch_nil {p q : List Nm} {x y : List Int} (hp : Srt p) (hq : Srt q) (hx : x.length = p.length) (hy : y.length = q.length) : chF p x q y = [] ↔ p = q ∧ x = y := by
  constructor
  · intro h
    have hno : ∀ c, (c ∈ p ∨ c ∈ q) → ∃ i k, i < p.length ∧ k < q.length ∧ at_ p i = c ∧ at_ q k = c ∧ ln x i = ln y k := fun c hc => Classical.byContradiction fun hn => by
      have := (mem_chF x y hp hq c).2 ⟨hc, hn⟩
      rw [h] at this; cases this
    have hpq : p = q := srt_ext hp hq fun c => ⟨fun hc => by
      obtain ⟨i, k, _, hk, _, e, _⟩ := hno c (.inl hc); exact at_mem.2 ⟨k, hk, e⟩, fun hc => by
      obtain ⟨i, k, hi, _, e, _, _⟩ := hno c (.inr hc); exact at_mem.2 ⟨i, hi, e⟩⟩
    subst hpq
    refine ⟨rfl, List.ext_getElem (by omega) fun i h1 h2 => ?_⟩
    obtain ⟨j, k, hj, hk, e1, e2, e3⟩ := hno (at_ p i) (.inl (at_mem.2 ⟨i, by omega, rfl⟩))
    have a1 := srt_inj hp hj (show i < p.length by omega) e1
    have a2 := srt_inj hp hk (show i < p.length by omega) e2
    subst a1; subst a2
    unfold ln at e3
    rw [List.getElem?_eq_getElem h1, List.getElem?_eq_getElem h2] at e3
    exact e3
  · rintro ⟨rfl, rfl⟩
    refine List.eq_nil_iff_forall_not_mem.2 fun c hc => ?_
    obtain ⟨h1, h2⟩ := (mem_chF x x hp hp c).1 hc
    obtain ⟨i, hi, e⟩ := at_mem.1 (h1.elim id id)
    exact h2 ⟨i, i, hi, hi, e, e, rfl⟩
end Tr
namespace Tr
open Ob (O S StOk)
/-- What 'Changed' collects of the second side. -/
def bL (p q : List Nm) (k : Nat) : List Nm := ((List.range k).filter fun j => !decide (at_ q j ∈ p)).map (at_ q)
theorem bL_succ (p q : List Nm) (k : Nat) : bL p q (k + 1) = bL p q k ++ if at_ q k ∈ p then [] else [at_ q k] := by
  unfold bL
  rw [List.range_succ, List.filter_append, List.map_append]
  congr 1
  by_cases h : at_ q k ∈ p
  · rw [if_pos h]; simp [h]
  · rw [if_neg h]; simp [h]
theorem bL_len (p q : List Nm) (k : Nat) : (bL p q k).length ≤ k := by
  unfold bL; rw [List.length_map]
  exact Nat.le_trans (List.length_filter_le _ _) (by simp)
theorem aL_len (p : List Nm) (x : List Int) (q : List Nm) (y : List Int) (k : Nat) : (aL p x q y k).length ≤ k := by
  unfold aL; rw [List.length_map]
  exact Nat.le_trans (List.length_filter_le _ _) (by simp)
/-- Both, one behind the other. -/
def oL (al p q : List Nm) (k : Nat) : List Nm := al ++ bL p q k
theorem oL_zero (al p q : List Nm) : oL al p q 0 = al := by simp [oL, bL]
theorem oL_in {al p q : List Nm} {k : Nat} (h : at_ q k ∈ p) : oL al p q (k + 1) = oL al p q k := by unfold oL; rw [bL_succ, if_pos h, List.append_nil]
theorem oL_out {al p q : List Nm} {k : Nat} (h : ¬ at_ q k ∈ p) : oL al p q (k + 1) = oL al p q k ++ [at_ q k] := by unfold oL; rw [bL_succ, if_neg h, List.append_assoc]
theorem oL_len (al p q : List Nm) (k : Nat) : (oL al p q k).length ≤ al.length + k := by unfold oL; rw [List.length_append]; have := bL_len p q k; omega
theorem ins_perm (b : Nm) : ∀ l, (ins b l).Perm (b :: l)
  | [] => List.Perm.refl _
  | a :: l => by
    rw [ins]
    by_cases h : a < b
    · rw [if_pos h]
      exact ((ins_perm b l).cons a).trans (List.Perm.swap b a l)
    · rw [if_neg h]
theorem ch_perm (p : List Nm) (x : List Int) (q : List Nm) (y : List Int) : ∀ k, (chL p x q y k).Perm (aL p x q y p.length ++ bL p q k)
  | 0 => by simp [chL, bL]
  | k + 1 => by
    rw [chL, bL_succ]
    by_cases h : at_ q k ∈ p
    · rw [if_pos h, if_pos h, List.append_nil]; exact ch_perm p x q y k
    · rw [if_neg h, if_neg h, ← List.append_assoc]
      refine ((ins_perm _ _).trans ((ch_perm p x q y k).cons _)).trans ?_
      exact (List.perm_append_singleton _ _).symm
theorem srt_nodup {l : List Nm} (h : Srt l) : l.Nodup := List.Pairwise.imp (fun {a b} (hab : a < b) (e : a = b) => by subst e; exact nlt_irrefl _ hab) h
theorem sort_ch {p q : List Nm} (x y : List Int) (hp : Srt p) (hq : Srt q) : (aL p x q y p.length ++ bL p q q.length).mergeSort (fun a b => decide (a ≤ b)) = chF p x q y := by
  have hs := srt_chF x y hp hq
  have hpm := ch_perm p x q y q.length
  have h1 := List.mergeSort_perm (aL p x q y p.length ++ bL p q q.length) (fun a b => decide (a ≤ b))
  have h2 : ((aL p x q y p.length ++ bL p q q.length).mergeSort (fun a b => decide (a ≤ b))).Pairwise (fun a b => decide (a ≤ b) = true) :=
    List.pairwise_mergeSort (fun a b c h h' => by simp only [decide_eq_true_eq] at *; exact List.le_trans h h') (fun a b => by
      rcases nlt_tri a b with h | h | h
      · simp [List.le_of_lt h]
      · simp [h]
      · simp [List.le_of_lt h]) _
  have h3 : ((aL p x q y p.length ++ bL p q q.length).mergeSort (fun a b => decide (a ≤ b))).Nodup := (h1.trans hpm.symm).nodup_iff.2 (srt_nodup hs)
  refine srt_ext ?_ hs fun c => (h1.trans hpm.symm).mem_iff
  refine (h2.and h3).imp fun {a b} h => ?_
  rcases nlt_tri a b with k | k | k
  · exact k
  · exact absurd k h.2
  · exact absurd k (List.not_lt.2 (of_decide_eq_true h.1))
theorem sort_oL {p q : List Nm} (x y : List Int) (hp : Srt p) (hq : Srt q) : (oL (aL p x q y p.length) p q q.length).mergeSort (fun a b => decide (a ≤ b)) = chF p x q y := sort_ch x y hp hq
theorem ch_oL (p : List Nm) (x : List Int) (q : List Nm) (y : List Int) : (chF p x q y).length = (oL (aL p x q y p.length) p q q.length).length := (ch_perm p x q y q.length).length_eq
theorem srt_of : ∀ {p : List Nm}, (∀ i, i + 1 < p.length → at_ p i < at_ p (i + 1)) → Srt p := by
  intro p h
  have hm : ∀ n i j, j - i ≤ n → i < j → j < p.length → at_ p i < at_ p j := by
    intro n
    induction n with
    | zero => intro i j h1 h2; omega
    | succ n ih =>
      intro i j h1 h2 h3
      by_cases e : j = i + 1
      · subst e; exact h i h3
      · exact nlt_trans (ih i (j - 1) (by omega) (by omega) (by omega)) (by have := h (j - 1) (by omega); rwa [show j - 1 + 1 = j by omega] at this)
  refine List.pairwise_iff_getElem.2 fun i j hi hj hij => ?_
  rw [at_eq p i hi, at_eq p j hj]
  exact hm _ i j (Nat.le_refl _) hij hj
theorem ptF_srt {s : List S} {d ix : Int} (h : (ptF s d ix).2.1 = 0) : Srt (ptF s d ix).1.1 := by
  unfold ptF at h ⊢
  by_cases h1 : (Ob.stF s).1 ≠ 0
  · rw [if_pos h1] at h; exact absurd h h1
  · rw [if_neg h1] at h ⊢
    rcases hg : gtO s d with _ | o
    · rw [hg] at h; cases h
    · rw [hg] at h
      simp only at h ⊢
      by_cases h2 : (prF o).2 ≠ 0
      · rw [if_pos h2] at h; exact absurd h h2
      · rw [if_neg h2]
        unfold prF at h2 ⊢
        by_cases h3 : o.kind ≠ 2
        · rw [if_pos h3] at h2; exact absurd (by decide) h2
        · rw [if_neg h3] at h2 ⊢
          by_cases h4 : (cut o.data).2 ≠ [] ∨ (cut o.data).1.length ≠ o.links.length ∨ (vlF ((cut o.data).1.map fun p => (⟨p, []⟩ : F))).1 ≠ 0
          · rw [if_pos h4] at h2; exact absurd (by decide) h2
          · rw [if_neg h4]
            have h6 : (vlF ((cut o.data).1.map fun p => (⟨p, []⟩ : F))).1 = 0 := Classical.byContradiction fun hc => h4 (.inr (.inr hc))
            have h7 := (vlF_ok h6).2.lt
            refine srt_of fun i hi => ?_
            have hi : i + 1 < (cut o.data).1.length := hi
            have h8 := h7 i (by simpa using hi)
            have e : ∀ j, j < (cut o.data).1.length → (it ((cut o.data).1.map fun p => (⟨p, []⟩ : F)) j).path = at_ (cut o.data).1 j := fun j hj => by
              unfold it at_; rw [List.getElem?_map, List.getElem?_eq_getElem hj]; rfl
            rw [e i (by omega), e (i + 1) hi] at h8
            exact h8
/-- What 'Changed' answers. -/
def chR (s : List S) (a b : Int) : List Nm × (Int × Int) :=
  if (ptF s a (-1)).2.1 ≠ 0 then ([], (ptF s a (-1)).2) else if (ptF s b (-2)).2.1 ≠ 0 then ([], (ptF s b (-2)).2)
  else (chF (ptF s a (-1)).1.1 (ptF s a (-1)).1.2 (ptF s b (-2)).1.1 (ptF s b (-2)).1.2, (0, 0))
theorem chR_a {s : List S} {a b : Int} (h : (ptF s a (-1)).2.1 ≠ 0) : chR s a b = ([], (ptF s a (-1)).2) := by unfold chR; rw [if_pos h]
theorem chR_b {s : List S} {a b : Int} (h : (ptF s a (-1)).2.1 = 0) (h2 : (ptF s b (-2)).2.1 ≠ 0) : chR s a b = ([], (ptF s b (-2)).2) := by unfold chR; rw [if_neg (fun k => k h), if_pos h2]
theorem chR_c {s : List S} {a b : Int} (h : (ptF s a (-1)).2.1 = 0) (h2 : (ptF s b (-2)).2.1 = 0) : chR s a b = (chF (ptF s a (-1)).1.1 (ptF s a (-1)).1.2 (ptF s b (-2)).1.1 (ptF s b (-2)).1.2, (0, 0)) := by
  unfold chR; rw [if_neg (fun k => k h), if_neg (fun k => k h2)]
/-! ### the library's searches -/
def ba (l : Nm) : ByteArray := ⟨l.toArray⟩
theorem ba_inj {a b : Nm} (h : ba a = ba b) : a = b := by
  unfold ba at h
  injection h with h
  have := congrArg Array.toList h
  simpa using this
theorem ba_get (q : List Nm) (j : Nat) (hj : j < q.length) : (q.map ba).getD j ByteArray.empty = ba (at_ q j) := by
  unfold at_
  rw [List.getD_eq_getElem?_getD, List.getElem?_map, List.getElem?_eq_getElem hj]; rfl
theorem idx_hit {q : List Nm} (hq : Srt q) {k : Nat} (hk : k < q.length) : Go.Lib.idxOfS ((q.map ba).take q.length) (ba (at_ q k)) = (k : Int) :=
  Go.Lib.idxOfS_hit (q.map ba) q.length k _ hk (by simp) (ba_get q k hk) (fun j hj e => by
    rw [ba_get q j (by omega)] at e
    have := srt_inj hq (show j < q.length by omega) hk (ba_inj e)
    omega)
theorem idx_miss {q : List Nm} {c : Nm} (h : c ∉ q) : Go.Lib.idxOfS ((q.map ba).take q.length) (ba c) = -1 :=
  Go.Lib.idxOfS_miss (q.map ba) q.length _ (fun j hj e => by
    rw [ba_get q j hj] at e
    exact h (at_mem.2 ⟨j, hj, ba_inj e⟩))
theorem contains_eq (q : List Nm) (c : Nm) : Go.Lib.containsS ((q.map ba).take q.length) (ba c) = decide (c ∈ q) := by
  rw [List.take_of_length_le (by simp), Bool.eq_iff_iff, Go.Lib.containsS_iff, decide_eq_true_eq, List.mem_map]
  constructor
  · rintro ⟨a, h, e⟩; exact ba_inj e ▸ h
  · intro h; exact ⟨c, h, rfl⟩
end Tr
namespace Go.Proofs.YtjljknocnebnaaaDoor
open Go.RowKit Go.V Go.Shelf Go.Sort
set_option linter.unusedVariables false

theorem ba_cells {w : World} {X : Nat → Prop} {b off : Nat} {q : List (List UInt8)} (h : ∀ j u, (ssV q)[j]? = some u → w.cell? ⟨b, off + j, none⟩ = some u) (j : Nat) (hj : j < (q.map Tr.ba).length) : w.cell? ⟨b, off + j, none⟩ = some (.string ((q.map Tr.ba).getD j ByteArray.empty)) := by
  have hj' : j < q.length := by simpa using hj
  rw [Tr.ba_get q j hj']
  have g0 := Fl.get sC_len j q hj' 0 _ rfl
  rw [Nat.mul_one, Nat.add_zero] at g0
  rw [h j _ g0, Tr.at_eq q j hj']
  rfl
theorem index_any (w : World) (A : Option Addr) (c : Nat) (q : List (List UInt8)) (x : List UInt8) (hv : SA w Free A (ssV q)) (hl : q.length ≤ 1000000) :
    Calls Tryd.prog 37 #[.slice A q.length c, strV x] w fun e w' => e = .returned (.int .i64 (Lib.idxOfS ((q.map Tr.ba).take q.length) (Tr.ba x))) ∧ w' = w := by
  by_cases h0 : q = []
  · subst h0
    exact Tryd.slices_Index_string_empty A c (Tr.ba x) w
  · have hp : 0 < (ssV q).length := by rw [ssV_len]; exact List.length_pos_iff.2 h0
    obtain ⟨b, off, rfl, _, _, hc⟩ := hv.at_ hp
    exact Tryd.slices_Index_string b off q.length c (q.map Tr.ba) (Tr.ba x) w (by simp) (by omega) (ba_cells (X := Free) hc)
theorem contains_any (w : World) (A : Option Addr) (c : Nat) (q : List (List UInt8)) (x : List UInt8) (hv : SA w Free A (ssV q)) (hl : q.length ≤ 1000000) :
    Calls Tryd.prog 38 #[.slice A q.length c, strV x] w fun e w' => e = .returned (.bool (decide (x ∈ q))) ∧ w' = w := by
  rw [← Tr.contains_eq q x]
  by_cases h0 : q = []
  · subst h0
    exact Tryd.slices_Contains_string_empty A c (Tr.ba x) w
  · have hp : 0 < (ssV q).length := by rw [ssV_len]; exact List.length_pos_iff.2 h0
    obtain ⟨b, off, rfl, _, _, hc⟩ := hv.at_ hp
    exact Tryd.slices_Contains_string b off q.length c (q.map Tr.ba) (Tr.ba x) w (by simp) (by omega) (ba_cells (X := Free) hc)
theorem sorted_block {w : World} {n g i : Nat} {d : Array (List UInt8)} {os : Array Obj} (hi : i < w.heap.size) (hne : i ≠ g) : (Sort.grow (Sort.putRow encStr (Sort.ahead w n) g 0 d) os).heap[i]? = w.heap[i]? := by
  rw [Sort.heap_grow_old _ _ (by simpa using hi)]
  simp [Sort.putRow, Sort.mapBlock, Array.getElem?_modify, Ne.symm hne]
set_option maxHeartbeats 4000000 in
/-- The sort of a row of the call's own. -/
theorem sort_any (w : World) (base : Nat) (B : Option Addr) (c : Nat) (xs : List (List UInt8)) (hown : w.ownsRow base 9 1 (.slice B xs.length c) xs.length (ssV xs)) (hl : xs.length ≤ 1000000) :
    Calls Tryd.prog 39 #[.slice B xs.length c] w fun e w' => e = .returned (.tuple #[]) ∧ Below base w w' ∧ SA w' (Under base) B (ssV (xs.mergeSort fun a b => decide (a ≤ b))) := by
  by_cases h0 : xs = []
  · subst h0
    refine (Tryd.slices_Sort_string_none B c w).mono fun e w' ⟨h1, h2⟩ => ?_
    subst h2
    exact ⟨h1, Below.refl _ _, by simpa using SA.nil⟩
  · obtain ⟨_, h | ⟨g, cap, cur, e, hg, hh, hn, hm, hs, hx⟩⟩ := hown
    · exact absurd (List.length_eq_zero_iff.1 h.2) h0
    · injection e with e1 _ e2
      subst e1
      subst e2
      have hb : Blk w g 9 cur := hh
      have hc : ∀ j, j < xs.length → w.cell? ⟨g, 0 + j, none⟩ = some (strV (Tr.at_ xs j)) := fun j hj => by
        rw [Nat.zero_add, hb.cell j, ← Array.getElem?_toList]
        have g0 := Fl.get sC_len j xs hj 0 _ rfl
        rw [Nat.mul_one, Nat.add_zero, Tr.at_eq xs j hj] at g0
        have : (cur.toList.take (xs.length * 1))[j]? = some (strV (Tr.at_ xs j)) := by rw [hx]; exact g0
        rw [List.getElem?_take] at this
        split at this
        · exact this
        · cases this
      have hH : Sort.Holds encStr w g 0 xs.toArray := fun j hj => by
        have hj' : j < xs.length := by simpa using hj
        refine ⟨?_, hb.frozen _⟩
        rw [hc j hj', getElem!_pos xs.toArray j hj, List.getElem_toArray, Tr.at_eq xs j hj']
      refine (Tryd.slices_Sort_string g 0 c xs w hH hb.lt (by omega)).mono fun e w' ⟨h1, n, os, h2⟩ => ?_
      have hp := List.mergeSort_perm xs (fun a b => decide (a ≤ b))
      have hpl := hp.length_eq
      generalize (xs.mergeSort fun a b => decide (a ≤ b)) = ys at *
      have hcell : ∀ j, j < ys.length → w'.cell? ⟨g, 0 + j, none⟩ = some (strV (Tr.at_ ys j)) := fun j hj => by
        rw [h2, Sort.cell?_grow _ _ _ (by simpa using hb.lt), Sort.cell?_putRow encStr (Sort.ahead w n) g 0 xs.toArray ys.toArray (Sort.holds_ahead _ _ _ _ _ _ hH) (by simpa using hpl) j (by simpa using hj),
          getElem!_pos ys.toArray j (by simpa using hj), List.getElem_toArray, Tr.at_eq ys j hj]
      have hsz : w.heap.size ≤ w'.heap.size := by rw [h2]; simp
      refine ⟨h1, ⟨by rw [h2]; simp [Sort.grow, Sort.putRow, Sort.mapBlock, Sort.ahead], by rw [h2]; simp [Sort.grow, Sort.putRow, Sort.mapBlock, Sort.ahead], by rw [h2]; simp [Sort.grow, Sort.putRow, Sort.mapBlock, Sort.ahead], hsz, fun i hi => ?_⟩, .inr ⟨g, 0, rfl, Nat.lt_of_lt_of_le hb.lt hsz, fun hU => by unfold Under at hU; omega, fun j u hu => ?_⟩⟩
      · rw [h2]; exact sorted_block (by have := hb.lt; omega) (by omega)
      · have hj : j < ys.length := by have := (List.getElem?_eq_some_iff.1 hu).1; rwa [ssV_len] at this
        rw [hcell j hj]
        have g0 := Fl.get sC_len j ys hj 0 _ rfl
        rw [Nat.mul_one, Nat.add_zero, Tr.at_eq ys j hj] at g0
        rw [← g0]; exact hu
end Go.Proofs.YtjljknocnebnaaaDoor
namespace Go.Proofs.YtjljknocnebnaaaDoor
open Go.RowKit Go.V Go.Shelf
set_option linter.unusedVariables false

theorem PsPost.no {w w' : World} {q : List (List UInt8) × (Int × Int)} {c i : Int} (h : q = ([], (c, i))) (hb : Below w.heap.size w w') : PsPost w q.1 q.2 (.returned (.tuple #[.slice none 0 0, .agg #[.int .i64 c, .int .i64 i]])) w' := by
  subst h; exact ⟨none, 0, rfl, ⟨Nat.le_refl _, Nat.zero_le _, SA.nil⟩, hb⟩
theorem VaSt.far {w wr : World} {A : Option Addr} {n k : Nat} (h : VaSt w wr A n k) {p : Addr} (hp : w.heap.size + 2 ≤ p.block) (u : Value) : VaSt w (wr.setCell p u) A n k :=
  ⟨h.box.far (by omega) _, h.res.far (by omega) _, h.bel.setCell (by omega) _⟩
theorem own_drewN' {w : World} {base : Nat} {e : TypeId} {size n : Nat} {v : Value} {xs : List Value} (h : w.ownsRow base e size v n xs) (m : Nat) : (w.drewN m).ownsRow base e size v n xs := h
set_option maxRecDepth 100000 in
set_option maxHeartbeats 16000000 in
theorem changed_any (w : World) (hm : Mx w) (hm2 : M2 w) (A : Option Addr) (k : Nat) (s : List Ob.S) (a b : Int) (hv : StV w Free A s) (hl64 : s.length ≤ 9223372036854775807) :
    Calls Tryd.prog 18 #[stV A s.length k, .int .i64 a, .int .i64 b] w (PsPost w (Tr.chR s a b).1 (Tr.chR s a b).2) := by
  have HV := Lib.hid (fun (w1 : World) (hb : Below w.heap.size w w1) => hv.keep (free_below hb))
  have HM := Lib.hid (fun (w1 : World) (hb : Below w.heap.size w w1) => And.intro (hm.below hb) (hm2.below hb))
  have st0 : VaSt w ((w.alloc (.cells #[.slice A s.length k] 24)).alloc (.cells #[.int .i64 0, .int .i64 0] 30)) A s.length k := ⟨(Blk.new _ _ _).alloc _, blk_new1 _ _ _ _, below_alloc2 _ _ _⟩
  have HP := Lib.hid (paths_any _ (HM.out _ st0.bel).1 (HM.out _ st0.bel).2 A k s a (-1) (HV.out _ st0.bel) hl64)
  have HP2 := Lib.hid (fun (w1 : World) (hb : Below w.heap.size w w1) => paths_any w1 (HM.out _ hb).1 (HM.out _ hb).2 A k s b (-2) (HV.out _ hb) hl64)
  have HA := Lib.hid (Tr.chR_a (s := s) (a := a) (b := b))
  have HB := Lib.hid (Tr.chR_b (s := s) (a := a) (b := b))
  have HC := Lib.hid (Tr.chR_c (s := s) (a := a) (b := b))
  have HG1 := Lib.hid (fun (h : (Tr.ptF s a (-1)).2.1 = 0) => And.intro (Tr.ptF_good h) (Tr.ptF_srt h))
  have HG2 := Lib.hid (fun (h : (Tr.ptF s b (-2)).2.1 = 0) => And.intro (Tr.ptF_good h) (Tr.ptF_srt h))
  clear hv hm hm2
  generalize Tr.chR s a b = r at *
  generalize Tr.ptF s a (-1) = q1 at *
  generalize Tr.ptF s b (-2) = q2 at *
  obtain ⟨⟨p, x⟩, cd, ix⟩ := q1
  obtain ⟨⟨q, y⟩, cd2, ix2⟩ := q2
  simp only at *
  have hsz0 : Hid (((w.alloc (.cells #[.slice A s.length k] 24)).alloc (.cells #[.int .i64 0, .int .i64 0] 30)).heap.size = w.heap.size + 2) := Lib.hid (by simp)
  go_enter Tryd.func18, Tryd.ntmps18
  go_wp2_with fail
  go_at_call 32
  with_reducible refine (HP.out).mono ?_
  rintro e w1 ⟨A1, c1, B1, m1, rfl, hln, hls, hmm, hb1⟩
  try simp only at hln
  try simp only at hls
  try simp only at hmm
  have hsz1 := hb1.size
  rw [hsz0.out] at hsz1
  have st1 := st0.below hb1
  clear hb1 HP st0
  obtain ⟨p0, p1, p2, f1, f2, l0, l1⟩ := st1.facts
  by_cases hcd : cd = 0
  · obtain ⟨⟨hok, hz, hlen, h24⟩, hsp⟩ := HG1.out hcd
    injection hz with _ hz
    subst hcd
    subst hz
    have HB1 := Lib.hid (HB.out rfl)
    have HC1 := Lib.hid (HC.out rfl)
    clear HB HC
    have HSP := Lib.hid hsp
    have HLX := Lib.hid hlen
    have st1a := st1.below (below_alloc1 w1 (.cells #[.int .i64 0, .int .i64 0] 30))
    have bF := Blk.new w1 30 #[.int .i64 0, .int .i64 0]
    have hka : Keeps w1 (Under ((w.alloc (.cells #[.slice A s.length k] 24)).alloc (.cells #[.int .i64 0, .int .i64 0] 30)).heap.size) (w1.alloc (.cells #[.int .i64 0, .int .i64 0] 30)) (fun b => b = w1.heap.size) := Keeps.below (below_alloc1 _ _) (fun b hb h => by omega)
    have hlna := hln.keep hka
    have hlsa := hls.keep hka
    have HP2 := Lib.hid (HP2.out _ st1a.bel)
    have hsza : (w1.alloc (.cells #[.int .i64 0, .int .i64 0] 30)).heap.size = w1.heap.size + 1 := by simp
    clear hlen HA HG1 hok hln hls hka hsp st1 p0 p1 p2 f1 f2 l0 l1
    obtain ⟨p0, p1, p2, f1, f2, l0, l1⟩ := st1a.facts
    go_wp2_with fail
    go_at_call 32
    with_reducible refine (HP2.out).mono ?_
    rintro e w2 ⟨A2, c2, B2, m2, rfl, hln2, hls2, hmm2, hb2⟩
    try simp only at hln2
    try simp only at hls2
    try simp only at hmm2
    have hszb := hb2.size
    have st2 := st1a.below hb2
    have bF2 := bF.below hb2 bF.lt
    have hlnb := hlna.keep (Keeps.below hb2 fun _ _ h => h)
    have hlsb := hlsa.keep (Keeps.below hb2 fun _ _ h => h)
    generalize hF : w1.heap.size = F at *
    have hUF : Under (w1.alloc (.cells #[.int .i64 0, .int .i64 0] 30)).heap.size F := by unfold Under; omega
    clear HP2 hb2 hlna hlsa bF st1a p0 p1 p2 f1 f2 l0 l1
    obtain ⟨p0, p1, p2, f1, f2, l0, l1⟩ := st2.facts
    have g0 := bF2.frozen 0
    have g1 := bF2.frozen 1
    have g2 := (bF2.cell 0).trans rfl
    have g3 := (bF2.cell 1).trans rfl
    have g4 := bF2.lt
    have st3 : ∀ u v, VaSt w ((w2.setCell ⟨F, 0, none⟩ u).setCell ⟨F, 1, none⟩ v) A s.length k := fun u v => (st2.far (p := ⟨F, 0, none⟩) (by show _ ≤ F; omega) u).far (p := ⟨F, 1, none⟩) (by show _ ≤ F; omega) v
    by_cases hcd2 : cd2 = 0
    · obtain ⟨⟨_, hz, hlen2, h242⟩, hsq⟩ := HG2.out hcd2
      injection hz with _ hz
      subst hcd2
      subst hz
      have HC2 := Lib.hid (HC1.out rfl)
      clear HC1
      have HSQ := Lib.hid hsq
      have HLY := Lib.hid hlen2
      clear hlen2
      have st4 := st3 (.int .i64 0) (.int .i64 0)
      have hk1 : Keeps w2 (fun b => b = F) ((w2.setCell ⟨F, 0, none⟩ (.int .i64 0)).setCell ⟨F, 1, none⟩ (.int .i64 0)) Free := ((Keeps.setCell w2 (fun b => b = F) ⟨F, 0, none⟩ (.int .i64 0) rfl).trans (Keeps.setCell _ (fun b => b = F) ⟨F, 1, none⟩ (.int .i64 0) rfl)).into fun b (h : False) => h.elim
      have hk2 : Keeps w2 (Under (w1.alloc (.cells #[.int .i64 0, .int .i64 0] 30)).heap.size) ((w2.setCell ⟨F, 0, none⟩ (.int .i64 0)).setCell ⟨F, 1, none⟩ (.int .i64 0)) Free := ((Keeps.setCell w2 _ ⟨F, 0, none⟩ (.int .i64 0) hUF).trans (Keeps.setCell _ _ ⟨F, 1, none⟩ (.int .i64 0) hUF)).into fun b (h : False) => h.elim
      have hP := hlnb.keep hk1
      have hX := hlsb.keep hk1
      have hQ := hln2.keep hk2
      have hY := hls2.keep hk2
      clear HB1 HG2 hsq hlnb hlsb hln2 hls2 hk1 hk2 st2 st3
      go_wp2_with fail
      obtain ⟨w3, hw3⟩ : ∃ W : World, W = (w2.setCell ⟨F, 0, none⟩ (.int .i64 0)).setCell ⟨F, 1, none⟩ (.int .i64 0) := ⟨_, rfl⟩
      rw [← hw3] at st4 hP hX hQ hY ⊢
      clear hw3 bF2 g0 g1 g2 g3 g4 p0 p1 p2 f1 f2 l0 l1
      obtain ⟨i0, hi0, hz0, hz1, hz2⟩ := info_parts info9
      have HIX := Lib.hid (fun (W : World) (c : List UInt8) (hb : Below w3.heap.size w3 W) => index_any W A2 c2 q c (hQ.ls.keep (free_below hb)) (by omega))
      have HCN := Lib.hid (fun (W : World) (c : List UInt8) (hb : Below w3.heap.size w3 W) => contains_any W A1 c1 p c (hP.ls.keep (free_below hb)) (by omega))
      go_loopw [13, 43] (fun ov iv wr => ∃ (i : Nat) (B : Option Addr) (c : Nat), i ≤ p.length ∧ iv = .int .i64 i ∧ ov = .slice B (Tr.aL p x q y i).length c ∧ wr.ownsRow w3.heap.size 9 1 (.slice B (Tr.aL p x q y i).length c) (Tr.aL p x q y i).length (ssV (Tr.aL p x q y i)) ∧ Below w3.heap.size w3 wr) (fun _ iv _ => p.length - (intOf iv).toNat)
      case atStart => exact ⟨0, none, 0, Nat.zero_le _, rfl, rfl, World.ownsRow_nil _ _ _ _, Below.refl _ _⟩
      case round =>
        obtain ⟨i, B, c, hi, rfl, rfl, hown, hbw⟩ := hrel
        obtain ⟨wo, rfl⟩ : ∃ wo : World, wo = wr := ⟨_, rfl⟩
        by_cases hlt : i < p.length
        · have hlt' : (i : Int) < p.length := by omega
          have hi0' : (0 : Int) ≤ i := by omega
          have hltx : i < x.length := by have := HLX.out; omega
          have hltx' : (i : Int) < x.length := by omega
          obtain ⟨b1, off1, e1, hb1, _, d1⟩ := ssV_row hP.ls i hlt
          obtain ⟨b2, off2, e2, hb2, _, d2⟩ := hX.get i (by simpa using hltx)
          subst e1
          subst e2
          have d1' : wo.cell? ⟨b1, off1 + i, none⟩ = some (strV (Tr.at_ p i)) := by rw [hbw.cell (p := ⟨b1, off1 + i, none⟩) hb1, d1, Tr.at_eq p i hlt]
          have d2' : wo.cell? ⟨b2, off2 + i, none⟩ = some (.int .i64 (Tr.ln x i)) := by
            rw [hbw.cell (p := ⟨b2, off2 + i, none⟩) hb2, d2]
            unfold Tr.ln; rw [List.getElem?_eq_getElem hltx]; simp [intsV]
          have hal := Tr.aL_len p x q y i
          have h63 : (Tr.aL p x q y i).length + 1 ≤ maxLen := by unfold maxLen; omega
          have hby : ((Tr.aL p x q y i).length + 1) * 16 ≤ 140737488355328 := by omega
          have HSU := Lib.hid (Tr.aL_succ p x q y i)
          have HSB := Lib.hid (Tr.sameB_iff p x q y i)
          have hu : (wo.alloc (.cells #[strV (Tr.at_ p i)] 9)).cell? ⟨wo.heap.size, 0, none⟩ = some (strV (Tr.at_ p i)) := ((Blk.new wo 9 #[strV (Tr.at_ p i)]).cell 0).trans rfl
          have hlb := hbw.size
          clear d1 d2 hal
          by_cases hm : Tr.at_ p i ∈ q
          · obtain ⟨m, hmq, hme⟩ := Tr.at_mem.1 hm
            have hmy : m < y.length := by have := HLY.out; omega
            have hmy' : (m : Int) < y.length := by omega
            have hm0 : (0 : Int) ≤ m := by omega
            have hmn : ¬ ((m : Int) < 0) := by omega
            obtain ⟨b3, off3, e3, hb3, _, d3⟩ := hY.get m (by simpa using hmy)
            subst e3
            have d3' : wo.cell? ⟨b3, off3 + m, none⟩ = some (.int .i64 (Tr.ln y m)) := by
              rw [hbw.cell (p := ⟨b3, off3 + m, none⟩) hb3, d3]
              unfold Tr.ln; rw [List.getElem?_eq_getElem hmy]; simp [intsV]
            have HX1 := HIX.out wo (Tr.at_ p i) hbw
            rw [← hme, Tr.idx_hit HSQ.out hmq, hme] at HX1
            have HX1 := Lib.hid HX1
            have HSE : Hid (Tr.sameB p x q y i = true ↔ Tr.ln x i = Tr.ln y m) := Lib.hid (by
              rw [HSB.out]
              constructor
              · rintro ⟨k', h1, h2, h3⟩
                have : k' = m := Tr.srt_inj HSQ.out h1 hmq (by rw [← h2, hme])
                subst this; exact h3
              · intro h; exact ⟨m, hmq, hme.symm, h⟩)
            clear HSB hm hme d3
            generalize Tr.ln x i = xi at *
            generalize Tr.ln y m = ym at *
            by_cases hxy : xi = ym
            · have hx1 : (xi != ym) = false := by simpa using hxy
              have hsb := HSE.out.2 hxy
              have HSU2 : Hid (Tr.aL p x q y (i + 1) = Tr.aL p x q y i) := Lib.hid (by rw [HSU.out, if_pos hsb, List.append_nil])
              clear HSE HSU hxy hsb
              generalize Tr.at_ p i = pi at *
              go_wp2_with fail
              go_at_call 37
              with_reducible refine (HX1.out).mono ?_
              rintro e w9 ⟨rfl, hw9⟩
              replace hw9 := hw9.symm
              subst hw9
              go_wp2_with fail
              go_quiet (fail)
              go_wp2_with fail
              go_roundw
              case rel => exact ⟨i + 1, B, c, by omega, by go_num, by rw [HSU2.out], by rw [HSU2.out]; exact own_drewN' hown nq, below_drewN hbw nq⟩
              case measure => simp [intOf]; omega
            · have hx1 : (xi != ym) = true := by simpa using hxy
              have hsb : ¬ Tr.sameB p x q y i = true := fun h => hxy (HSE.out.1 h)
              have HSU2 : Hid (Tr.aL p x q y (i + 1) = Tr.aL p x q y i ++ [Tr.at_ p i]) := Lib.hid (by rw [HSU.out, if_neg hsb])
              clear HSE HSU hxy hsb
              generalize Tr.aL p x q y i = al at *
              generalize Tr.at_ p i = pi at *
              go_wp2_with fail
              go_at_call 37
              with_reducible refine (HX1.out).mono ?_
              rintro e w9 ⟨rfl, hw9⟩
              replace hw9 := hw9.symm
              subst hw9
              go_wp2_with fail
              go_quiet (fail)
              have hownW := own_drewN' hown nq
              have hbwW := below_drewN hbw nq
              generalize wo.drewN nq = W at *
              have hu : (W.alloc (.cells #[strV pi] 9)).cell? ⟨W.heap.size, 0, none⟩ = some (strV pi) := ((Blk.new W 9 #[strV pi]).cell 0).trans rfl
              go_wp2_with (first | (at_builtin; refine wpList_app1 _ rfl (.tmp 64) (.tmp 66) 38 rfl w3.heap.size 9 i0 (.string .empty) 16 Tryd.underlying38 hi0 hz0 hz1 hz2 rfl B al.length c (ssV al) rfl (hownW.alloc _) W.heap.size 1 (strV pi) rfl hu rfl h63 hby (Nat.le_trans hbwW.size (by simp)) ?_))
              intro A' c' w' hown' hg' hc'
              have hb' := below_append (hbwW.alloc hbwW.size _) (hownW.alloc _) hg' (Nat.le_refl _) (Nat.le_trans hbwW.size (by simp))
              have hln' : (al ++ [pi]).length = al.length + 1 := by simp
              clear hg' hownW hu hc'
              go_wp2_with fail
              go_roundw
              case rel => exact ⟨i + 1, A', c', by omega, by go_num, by rw [HSU2.out, hln'], by rw [HSU2.out, hln']; simpa [sC] using hown', hb'⟩
              case measure => simp [intOf]; omega
          · have HX1 := HIX.out wo (Tr.at_ p i) hbw
            rw [Tr.idx_miss hm] at HX1
            have HX1 := Lib.hid HX1
            have hsb : ¬ Tr.sameB p x q y i = true := fun h => by obtain ⟨k', h1, h2, _⟩ := HSB.out.1 h; exact hm (Tr.at_mem.2 ⟨k', h1, h2.symm⟩)
            have HSU2 : Hid (Tr.aL p x q y (i + 1) = Tr.aL p x q y i ++ [Tr.at_ p i]) := Lib.hid (by rw [HSU.out, if_neg hsb])
            clear HSB HSU hsb hm
            generalize Tr.aL p x q y i = al at *
            generalize Tr.at_ p i = pi at *
            go_wp2_with fail
            go_at_call 37
            with_reducible refine (HX1.out).mono ?_
            rintro e w9 ⟨rfl, hw9⟩
            replace hw9 := hw9.symm
            subst hw9
            go_wp2_with fail
            go_quiet (fail)
            have hownW := own_drewN' hown nq
            have hbwW := below_drewN hbw nq
            generalize wo.drewN nq = W at *
            have hu : (W.alloc (.cells #[strV pi] 9)).cell? ⟨W.heap.size, 0, none⟩ = some (strV pi) := ((Blk.new W 9 #[strV pi]).cell 0).trans rfl
            go_wp2_with (first | (at_builtin; refine wpList_app1 _ rfl (.tmp 64) (.tmp 66) 38 rfl w3.heap.size 9 i0 (.string .empty) 16 Tryd.underlying38 hi0 hz0 hz1 hz2 rfl B al.length c (ssV al) rfl (hownW.alloc _) W.heap.size 1 (strV pi) rfl hu rfl h63 hby (Nat.le_trans hbwW.size (by simp)) ?_))
            intro A' c' w' hown' hg' hc'
            have hb' := below_append (hbwW.alloc hbwW.size _) (hownW.alloc _) hg' (Nat.le_refl _) (Nat.le_trans hbwW.size (by simp))
            have hln' : (al ++ [pi]).length = al.length + 1 := by simp
            clear hg' hownW hu hc'
            go_wp2_with fail
            go_roundw
            case rel => exact ⟨i + 1, A', c', by omega, by go_num, by rw [HSU2.out, hln'], by rw [HSU2.out, hln']; simpa [sC] using hown', hb'⟩
            case measure => simp [intOf]; omega
        · obtain rfl : i = p.length := by omega
          have hal := Tr.aL_len p x q y p.length
          have HSO := Lib.hid (Tr.sort_oL x y HSP.out HSQ.out)
          have HPL := Lib.hid (Tr.ch_oL p x q y)
          generalize Tr.aL p x q y p.length = al at *
          clear HIX HSP HSQ HLX HLY
          go_wp2_with fail
          go_loopw [13, 71] (fun ov iv wr => ∃ (j : Nat) (B : Option Addr) (c : Nat), j ≤ q.length ∧ iv = .int .i64 j ∧ ov = .slice B (Tr.oL al p q j).length c ∧ wr.ownsRow w3.heap.size 9 1 (.slice B (Tr.oL al p q j).length c) (Tr.oL al p q j).length (ssV (Tr.oL al p q j)) ∧ Below w3.heap.size w3 wr) (fun _ iv _ => q.length - (intOf iv).toNat)
          case atStart => exact ⟨0, B, c, Nat.zero_le _, rfl, by rw [Tr.oL_zero], by rw [Tr.oL_zero]; exact hown, hbw⟩
          case round =>
            clear hown hbw
            obtain ⟨i, B, c, hi, rfl, rfl, hown, hbw⟩ := hrel
            obtain ⟨wo, rfl⟩ : ∃ wo : World, wo = wr := ⟨_, rfl⟩
            by_cases hlt : i < q.length
            · have hlt' : (i : Int) < q.length := by omega
              have hi0' : (0 : Int) ≤ i := by omega
              obtain ⟨b1, off1, e1, hb1, _, d1⟩ := ssV_row hQ.ls i hlt
              subst e1
              have d1' : wo.cell? ⟨b1, off1 + i, none⟩ = some (strV (Tr.at_ q i)) := by rw [hbw.cell (p := ⟨b1, off1 + i, none⟩) hb1, d1, Tr.at_eq q i hlt]
              have hbl := Tr.oL_len al p q i
              have h63 : (Tr.oL al p q i).length + 1 ≤ maxLen := by unfold maxLen; omega
              have hby : ((Tr.oL al p q i).length + 1) * 16 ≤ 140737488355328 := by omega
              have hlb := hbw.size
              have HX1 := HCN.out wo (Tr.at_ q i) hbw
              clear d1 hbl
              by_cases hm : Tr.at_ q i ∈ p
              · rw [decide_eq_true hm] at HX1
                have HX1 := Lib.hid HX1
                have HSU2 : Hid (Tr.oL al p q (i + 1) = Tr.oL al p q i) := Lib.hid (Tr.oL_in hm)
                clear hm
                generalize Tr.at_ q i = pi at *
                go_wp2_with fail
                go_at_call 38
                with_reducible refine (HX1.out).mono ?_
                rintro e w9 ⟨rfl, hw9⟩
                replace hw9 := hw9.symm
                subst hw9
                go_wp2_with fail
                go_roundw
                case rel => exact ⟨i + 1, B, c, by omega, by go_num, by rw [HSU2.out], by rw [HSU2.out]; exact hown, hbw⟩
                case measure => simp [intOf]; omega
              · rw [decide_eq_false hm] at HX1
                have HX1 := Lib.hid HX1
                have HSU2 : Hid (Tr.oL al p q (i + 1) = Tr.oL al p q i ++ [Tr.at_ q i]) := Lib.hid (Tr.oL_out hm)
                clear hm
                generalize hall : Tr.oL al p q i = al3 at *
                clear hall
                generalize Tr.at_ q i = pi at *
                go_wp2_with fail
                go_at_call 38
                with_reducible refine (HX1.out).mono ?_
                rintro e w9 ⟨rfl, hw9⟩
                replace hw9 := hw9.symm
                subst hw9
                obtain ⟨W, hW⟩ : ∃ W : World, W = wo := ⟨_, rfl⟩
                have hownW := hown
                have hbwW := hbw
                rw [← hW] at hownW hbwW ⊢
                clear hW
                have hu : (W.alloc (.cells #[strV pi] 9)).cell? ⟨W.heap.size, 0, none⟩ = some (strV pi) := ((Blk.new W 9 #[strV pi]).cell 0).trans rfl
                go_wp2_with (first | (at_builtin; refine wpList_app1 _ rfl (.tmp 79) (.tmp 81) 38 rfl w3.heap.size 9 i0 (.string .empty) 16 Tryd.underlying38 hi0 hz0 hz1 hz2 rfl B al3.length c (ssV al3) rfl (hownW.alloc _) W.heap.size 1 (strV pi) rfl hu rfl h63 hby (Nat.le_trans hbwW.size (by simp)) ?_))
                intro A' c' w' hown' hg' hc'
                have hb' := below_append (hbwW.alloc hbwW.size _) (hownW.alloc _) hg' (Nat.le_refl _) (Nat.le_trans hbwW.size (by simp))
                have hln' : (al3 ++ [pi]).length = al3.length + 1 := by simp
                clear hg' hownW hu hc'
                go_wp2_with fail
                go_roundw
                case rel => exact ⟨i + 1, A', c', by omega, by go_num, by rw [HSU2.out, hln'], by rw [HSU2.out, hln']; simpa [sC] using hown', hb'⟩
                case measure => simp [intOf]; omega
            · obtain rfl : i = q.length := by omega
              have hbl := Tr.oL_len al p q q.length
              have HS := Lib.hid (sort_any wo w3.heap.size B c _ hown (by omega))
              obtain ⟨_, _, e, h8, _⟩ := own_form hown
              injection e with e0 _ e
              subst e0
              subst e
              have HR : Hid (r = (Tr.chF p x q y, (0, 0))) := HC2
              have hcl : Hid ((Tr.chF p x q y).length = (Tr.oL al p q q.length).length) := Lib.hid HPL.out
              have HSO2 := HSO.out
              have HSO2 := Lib.hid HSO2
              have hll : (Tr.oL al p q q.length).length ≤ 1000 := by omega
              clear HC2 HPL HSO hown hbl hal HCN
              generalize Tr.oL al p q q.length = out at *
              go_wp2_with fail
              go_at_call 39
              with_reducible refine (HS.out).mono ?_
              rintro e w5 ⟨rfl, hb5, hs5⟩
              rw [HSO2.out] at hs5
              have hb35 := hbw.trans hb5
              have st5 := st4.below hb35
              have hw3 := st4.res.lt
              obtain ⟨p0, p1, p2, f1, f2, l0, l1⟩ := st5.facts
              clear HS hb5 HSO2
              go_wp2_with fail
              refine bodyPost_ret (results_t30 rfl _ _ (w.heap.size + 1) (.int .i64 0) (.int .i64 0) rfl (blk_put2 st5.res _ _)) rfl ?_
              rw [HR.out]
              refine ⟨B, c, by rw [hcl.out]; rfl, ⟨by rw [hcl.out]; exact h8, by rw [hcl.out]; omega, ?_⟩, ?_⟩
              · have hU : Under w3.heap.size (w.heap.size + 1) := hw3
                exact (hs5.keep ((Keeps.setCell w5 _ ⟨w.heap.size + 1, 0, none⟩ _ hU).trans (Keeps.setCell _ _ ⟨w.heap.size + 1, 1, none⟩ _ hU))).mono fun b hb => by unfold Under at *; omega
              · exact (st5.bel.setCell (p := ⟨w.heap.size + 1, 0, none⟩) (Nat.le_succ _) _).setCell (p := ⟨w.heap.size + 1, 1, none⟩) (Nat.le_succ _) _
    · have H := Lib.hid (HB1.out hcd2)
      have hx1 : (cd2 == 0) = false := by simpa using hcd2
      have hx2 : (cd2 != 0) = true := by simpa using hcd2
      have HR : Hid (∀ w', Below w.heap.size w w' → PsPost w r.1 r.2 (.returned (.tuple #[.slice none 0 0, .agg #[.int .i64 cd2, .int .i64 ix2]])) w') := Lib.hid fun w' hb => PsPost.no H.out hb
      have st4 := st3 (.int .i64 cd2) (.int .i64 ix2)
      clear hcd2 HB1 HC1 HG2 HV HM H st3 hlnb hlsb hln2 hls2 HSP
      generalize PsPost w r.1 r.2 = R at *
      go_wp2_with fail
      go_region
      all_goals
        go_wp2_with fail
        refine bodyPost_ret (results_t30 rfl _ _ (w.heap.size + 1) (.int .i64 cd2) (.int .i64 ix2) rfl (blk_put2 st4.res _ _).drew) rfl ?_
        exact HR.out _ (below_drew' ((st4.bel.setCell (p := ⟨w.heap.size + 1, 0, none⟩) (Nat.le_succ _) _).setCell (p := ⟨w.heap.size + 1, 1, none⟩) (Nat.le_succ _) _))
  · have H := Lib.hid (HA.out hcd)
    have hx1 : (cd == 0) = false := by simpa using hcd
    have hx2 : (cd != 0) = true := by simpa using hcd
    have HR : Hid (∀ w', Below w.heap.size w w' → PsPost w r.1 r.2 (.returned (.tuple #[.slice none 0 0, .agg #[.int .i64 cd, .int .i64 ix]])) w') := Lib.hid fun w' hb => PsPost.no H.out hb
    clear hcd HA HB HC HG1 HG2 HV HM H hln hls
    generalize PsPost w r.1 r.2 = R at *
    go_wp2_with fail
    go_region
    all_goals
      go_wp2_with fail
      refine bodyPost_ret (results_t30 rfl _ _ (w.heap.size + 1) (.int .i64 cd) (.int .i64 ix) rfl ((blk_put2 st1.res _ _).alloc _).drew) rfl ?_
      refine HR.out _ ?_
      exact below_drew' ((((st1.bel.setCell (p := ⟨w.heap.size + 1, 0, none⟩) (Nat.le_succ _) _).setCell (p := ⟨w.heap.size + 1, 1, none⟩) (Nat.le_succ _) _).alloc (by simp [World.setCell]; omega) _))
end Go.Proofs.YtjljknocnebnaaaDoor
