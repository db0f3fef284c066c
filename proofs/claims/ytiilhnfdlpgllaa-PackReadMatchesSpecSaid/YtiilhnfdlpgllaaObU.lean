/-
  Stores as sorted sets: the plain law. No program in sight.
-/
import Derived.Test.YtiilhnfdlpgllaaOb9
namespace Ob
open Go.Proofs.Ytiilhnfdlpgllaa (eqO eqO_iff)

theorem mem_it {s : List S} {x : S} : x ∈ s ↔ ∃ i, i < s.length ∧ it s i = x := by
  constructor
  · intro h
    obtain ⟨i, hi, e⟩ := List.mem_iff_getElem.1 h
    exact ⟨i, hi, by rw [← it_eq s i hi, e]⟩
  · rintro ⟨i, hi, rfl⟩
    rw [← it_eq s i hi]; exact List.getElem_mem hi
theorem it_mem {s : List S} {i : Nat} (hi : i < s.length) : it s i ∈ s := mem_it.2 ⟨i, hi, rfl⟩
theorem sorted_pw {s : List S} : Sorted s ↔ s.Pairwise (fun x y => x.dig < y.dig) := by
  rw [List.pairwise_iff_getElem]
  constructor
  · intro h i j hi hj hij
    rw [it_eq s i hi, it_eq s j hj]; exact h.mono hij hj
  · intro h i hi
    have := h i (i + 1) (by omega) hi (by omega)
    rwa [it_eq s i (by omega), it_eq s (i + 1) hi] at this
theorem pw_ext : ∀ {u v : List S}, u.Pairwise (fun x y => x.dig < y.dig) → v.Pairwise (fun x y => x.dig < y.dig) → (∀ x, x ∈ u ↔ x ∈ v) → u = v
  | [], [], _, _, _ => rfl
  | [], b :: v, _, _, h => by have := (h b).2 (by simp); cases this
  | a :: u, [], _, _, h => by have := (h a).1 (by simp); cases this
  | a :: u, b :: v, hu, hv, h => by
    rw [List.pairwise_cons] at hu hv
    have e : a = b := by
      rcases List.mem_cons.1 ((h a).1 (by simp)) with e | h1
      · exact e
      · rcases List.mem_cons.1 ((h b).2 (by simp)) with e | h2
        · exact e.symm
        · have := hv.1 a h1
          have := hu.1 b h2
          omega
    subst e
    congr 1
    refine pw_ext hu.2 hv.2 (fun x => ?_)
    constructor
    · intro hx
      rcases List.mem_cons.1 ((h x).1 (List.mem_cons_of_mem _ hx)) with e | h1
      · subst e; have := hu.1 x hx; omega
      · exact h1
    · intro hx
      rcases List.mem_cons.1 ((h x).2 (List.mem_cons_of_mem _ hx)) with e | h1
      · subst e; have := hv.1 x hx; omega
      · exact h1
theorem sorted_ext {u v : List S} (hu : Sorted u) (hv : Sorted v) (h : ∀ x, x ∈ u ↔ x ∈ v) : u = v := pw_ext (sorted_pw.1 hu) (sorted_pw.1 hv) h
theorem Sorted.uniq {s : List S} (h : Sorted s) {x y : S} (hx : x ∈ s) (hy : y ∈ s) (e : x.dig = y.dig) : x = y := by
  obtain ⟨i, hi, rfl⟩ := mem_it.1 hx
  obtain ⟨j, hj, rfl⟩ := mem_it.1 hy
  rcases Nat.lt_trichotomy i j with h1 | h1 | h1
  · have := h.mono h1 hj; omega
  · rw [h1]
  · have := h.mono h1 hi; omega
theorem fnd_iff {s : List S} (h : Sorted s) (d : Int) : fnd s d = true ↔ ∃ x ∈ s, x.dig = d := by
  constructor
  · intro hf
    have h1 : lb s d < s.length ∧ (it s (lb s d)).dig = d := by unfold fnd at hf; rw [Bool.and_eq_true] at hf; simpa using hf
    exact ⟨_, it_mem h1.1, h1.2⟩
  · rintro ⟨x, hx, e⟩
    obtain ⟨k, hk, rfl⟩ := mem_it.1 hx
    have hlb : lb s d = k := lb_eq s d k (by omega) (fun j hj => by have := h.mono hj hk; omega) (fun j hj hjl => by have := h.le hj hjl; omega)
    unfold fnd
    rw [hlb, decide_eq_true hk, decide_eq_true e]; rfl
theorem fnd_at {s : List S} {d : Int} (hf : fnd s d = true) : lb s d < s.length ∧ (it s (lb s d)).dig = d := by
  unfold fnd at hf; rw [Bool.and_eq_true] at hf; simpa using hf
theorem addOk_iff {s : List S} (h : Sorted s) (d : Int) (o : O) : addOk s d o = true ↔ ∀ x ∈ s, x.dig = d → x.ob = o := by
  unfold addOk
  by_cases hf : fnd s d = true
  · rw [if_pos hf, eqO_iff]
    obtain ⟨h1, h2⟩ := fnd_at hf
    constructor
    · intro e x hx hd
      have := h.uniq hx (it_mem h1) (by omega)
      rw [this, e]
    · intro hall; exact hall _ (it_mem h1) h2
  · rw [if_neg hf]
    simp only [true_iff]
    intro x hx hd
    exact absurd ((fnd_iff h d).2 ⟨x, hx, hd⟩) hf
theorem addS_spec {s : List S} (h : Sorted s) (d : Int) (o : O) (hok : addOk s d o = true) : Sorted (addS s d o) ∧ ∀ x, x ∈ addS s d o ↔ x ∈ s ∨ x = ⟨d, o⟩ := by
  by_cases hf : fnd s d = true
  · obtain ⟨h1, h2⟩ := fnd_at hf
    have e : addS s d o = s := by unfold addS; rw [if_pos hf]
    rw [e]
    refine ⟨h, fun x => ⟨.inl, ?_⟩⟩
    rintro (hx | rfl)
    · exact hx
    · have := (addOk_iff h d o).1 hok _ (it_mem h1) h2
      have hm := it_mem h1
      generalize it s (lb s d) = y at *
      obtain ⟨yd, yo⟩ := y
      simp only at h2 this
      rw [← h2, ← this]; exact hm
  · have e : addS s d o = s.take (lb s d) ++ [⟨d, o⟩] ++ s.drop (lb s d) := by unfold addS; rw [if_neg hf]
    rw [e]
    have hno : ∀ x ∈ s, x.dig ≠ d := fun x hx hd => hf ((fnd_iff h d).2 ⟨x, hx, hd⟩)
    have hlt : ∀ x ∈ s.take (lb s d), x.dig < d := fun x hx => by
      obtain ⟨k, hk, rfl⟩ := List.mem_iff_getElem.1 hx
      have hk' : k < lb s d ∧ k < s.length := by simp at hk; omega
      have := lb_lt h d k hk'.1
      rw [← it_eq s k hk'.2] at this
      simpa using this
    have hgt : ∀ x ∈ s.drop (lb s d), d < x.dig := fun x hx => by
      obtain ⟨k, hk, rfl⟩ := List.mem_iff_getElem.1 hx
      have hk' : lb s d + k < s.length := by simp at hk; omega
      have h1 := lb_ge h d (lb s d + k) (by omega) hk'
      have h2 := hno _ (it_mem hk')
      rw [← it_eq s _ hk'] at h1 h2
      simp only [List.getElem_drop]
      omega
    have hpw := sorted_pw.1 h
    constructor
    · rw [sorted_pw, List.append_assoc, List.pairwise_append]
      refine ⟨hpw.sublist (List.take_sublist _ _), ?_, ?_⟩
      · rw [List.singleton_append, List.pairwise_cons]
        exact ⟨fun x hx => hgt x hx, hpw.sublist (List.drop_sublist _ _)⟩
      · intro x hx y hy
        have h1 := hlt x hx
        rcases List.mem_cons.1 (by simpa using hy) with rfl | hy
        · exact h1
        · have := hgt y hy; omega
    · intro x
      have hs : x ∈ s ↔ x ∈ s.take (lb s d) ∨ x ∈ s.drop (lb s d) := by
        rw [← List.mem_append, List.take_append_drop]
      simp only [List.mem_append, List.mem_singleton]
      rw [hs]
      constructor
      · rintro ((h | h) | h)
        · exact .inl (.inl h)
        · exact .inr h
        · exact .inl (.inr h)
      · rintro ((h | h) | h)
        · exact .inl (.inl h)
        · exact .inr h
        · exact .inl (.inr h)
/-- u is the sorted union of a and b. -/
structure Un (a b u : List S) : Prop where
  srt : Sorted u
  mem : ∀ x, x ∈ u ↔ x ∈ a ∨ x ∈ b
theorem Un.eq {a b u v : List S} (h : Un a b u) (k : Un a b v) : u = v := sorted_ext h.srt k.srt fun x => (h.mem x).trans (k.mem x).symm
/-- No digest has two objects. -/
def NoC (a b : List S) : Prop := ∀ x ∈ a, ∀ y ∈ b, x.dig = y.dig → x = y
/-- The loop of 'Merge': the objects of b from i on are added to out; the second result is where it fails, or -1. -/
def mgFrom (out b : List S) (i : Nat) : List S × Int :=
  if i < b.length then if addOk out (it b i).dig (it b i).ob = true then mgFrom (addS out (it b i).dig (it b i).ob) b (i + 1) else (out, (i : Int)) else (out, -1)
termination_by b.length - i
theorem mgFrom_end (out b : List S) (i : Nat) (h : b.length ≤ i) : mgFrom out b i = (out, -1) := by rw [mgFrom, if_neg (by omega)]
theorem mgFrom_next (out b : List S) (i : Nat) (h : i < b.length) (hc : addOk out (it b i).dig (it b i).ob = true) : mgFrom out b i = mgFrom (addS out (it b i).dig (it b i).ob) b (i + 1) := by rw [mgFrom, if_pos h, if_pos hc]
theorem mgFrom_bad (out b : List S) (i : Nat) (h : i < b.length) (hc : addOk out (it b i).dig (it b i).ob ≠ true) : mgFrom out b i = (out, (i : Int)) := by rw [mgFrom, if_pos h, if_neg hc]
/-- What 'Merge' answers. -/
def mergeF (a b : List S) : List S × (Int × Int) :=
  if (stF a).1 ≠ 0 then ([], stF a) else if (stF b).1 ≠ 0 then ([], stF b) else if 0 ≤ (mgFrom a b 0).2 then ([], (19, (mgFrom a b 0).2))
  else if 40 < (mgFrom a b 0).1.length then ([], (14, -1)) else ((mgFrom a b 0).1, (0, 0))
theorem mg_ok {b : List S} : ∀ (n i : Nat) (out : List S), b.length - i ≤ n → Sorted b → Sorted out → (∀ k, i ≤ k → k < b.length → ∀ x ∈ out, x.dig = (it b k).dig → x.ob = (it b k).ob) →
    (mgFrom out b i).2 = -1 ∧ Sorted (mgFrom out b i).1 ∧ ∀ x, x ∈ (mgFrom out b i).1 ↔ x ∈ out ∨ ∃ k, i ≤ k ∧ k < b.length ∧ it b k = x
  | n, i, out, hn, hb, ho, hc => by
    by_cases hi : i < b.length
    · obtain _ | n := n
      · omega
      · have hok := (addOk_iff ho (it b i).dig (it b i).ob).2 (fun x hx hd => hc i (Nat.le_refl _) hi x hx hd)
        obtain ⟨h1, h2⟩ := addS_spec ho (it b i).dig (it b i).ob hok
        rw [mgFrom_next out b i hi hok]
        obtain ⟨k1, k2, k3⟩ := mg_ok n (i + 1) _ (by omega) hb h1 (fun k hk hkl x hx hd => by
          rcases (h2 x).1 hx with hx | rfl
          · exact hc k (by omega) hkl x hx hd
          · have := hb.mono (i := i) (j := k) (by omega) hkl
            simp only at hd; omega)
        refine ⟨k1, k2, fun x => (k3 x).trans ?_⟩
        rw [h2]
        constructor
        · rintro ((h | rfl) | ⟨k, hk, hkl, rfl⟩)
          · exact .inl h
          · exact .inr ⟨i, Nat.le_refl _, hi, rfl⟩
          · exact .inr ⟨k, by omega, hkl, rfl⟩
        · rintro (h | ⟨k, hk, hkl, rfl⟩)
          · exact .inl (.inl h)
          · by_cases e : k = i
            · subst e; exact .inl (.inr rfl)
            · exact .inr ⟨k, by omega, hkl, rfl⟩
    · rw [mgFrom_end out b i (by omega)]
      refine ⟨rfl, ho, fun x => ⟨.inl, ?_⟩⟩
      rintro (h | ⟨k, hk, hkl, rfl⟩)
      · exact h
      · omega
theorem mg_bad {b : List S} : ∀ (n i : Nat) (out : List S) (p : Nat), b.length - i ≤ n → Sorted b → Sorted out → i ≤ p → p < b.length → (∀ k, i ≤ k → k < p → ∀ x ∈ out, x.dig = (it b k).dig → x.ob = (it b k).ob) →
    (∃ x ∈ out, x.dig = (it b p).dig ∧ x.ob ≠ (it b p).ob) → (mgFrom out b i).2 = (p : Int)
  | n, i, out, p, hn, hb, ho, hip, hpl, hc, hbad => by
    obtain _ | n := n
    · omega
    · by_cases e : i = p
      · subst e
        have hok : addOk out (it b i).dig (it b i).ob ≠ true := fun h => by
          obtain ⟨x, hx, hd, hne⟩ := hbad
          exact hne ((addOk_iff ho _ _).1 h x hx hd)
        rw [mgFrom_bad out b i hpl hok]
      · have hok := (addOk_iff ho (it b i).dig (it b i).ob).2 (fun x hx hd => hc i (Nat.le_refl _) (by omega) x hx hd)
        obtain ⟨h1, h2⟩ := addS_spec ho (it b i).dig (it b i).ob hok
        rw [mgFrom_next out b i (by omega) hok]
        refine mg_bad n (i + 1) _ p (by omega) hb h1 (by omega) hpl (fun k hk hkl x hx hd => ?_) ?_
        · rcases (h2 x).1 hx with hx | rfl
          · exact hc k (by omega) hkl x hx hd
          · have := hb.mono (i := i) (j := k) (by omega) (by omega)
            simp only at hd; omega
        · obtain ⟨x, hx, hd, hne⟩ := hbad
          exact ⟨x, (h2 x).2 (.inl hx), hd, hne⟩
/-- Without a conflict 'Merge' answers with the union. -/
theorem mg_un {a b : List S} (ha : Sorted a) (hb : Sorted b) (h : NoC a b) : (mgFrom a b 0).2 = -1 ∧ Un a b (mgFrom a b 0).1 := by
  obtain ⟨h1, h2, h3⟩ := mg_ok (b := b) _ 0 a (Nat.le_refl _) hb ha (fun k _ hk x hx hd => by rw [h x hx _ (it_mem hk) hd])
  refine ⟨h1, h2, fun x => (h3 x).trans ?_⟩
  constructor
  · rintro (h | ⟨k, _, hk, rfl⟩)
    · exact .inl h
    · exact .inr (it_mem hk)
  · rintro (h | h)
    · exact .inl h
    · obtain ⟨k, hk, rfl⟩ := mem_it.1 h
      exact .inr ⟨k, Nat.zero_le _, hk, rfl⟩
/-- .. and it fails only with one. -/
theorem mg_noc {a b : List S} (ha : Sorted a) (hb : Sorted b) (h : ¬ 0 ≤ (mgFrom a b 0).2) : NoC a b := by
  have key : ∀ n p, p ≤ n → p < b.length → ∀ x ∈ a, x.dig = (it b p).dig → x.ob = (it b p).ob := by
    intro n
    induction n with
    | zero =>
      intro p hp hpl x hx hd
      apply Classical.byContradiction
      intro hne
      have : (mgFrom a b 0).2 = (p : Int) := mg_bad _ 0 a p (Nat.le_refl _) hb ha (Nat.zero_le _) hpl (fun k _ hk => by omega) ⟨x, hx, hd, hne⟩
      omega
    | succ n ih =>
      intro p hp hpl x hx hd
      apply Classical.byContradiction
      intro hne
      have : (mgFrom a b 0).2 = (p : Int) := mg_bad _ 0 a p (Nat.le_refl _) hb ha (Nat.zero_le _) hpl (fun k _ hk y hy hyd => ih k (by omega) (by omega) y hy hyd) ⟨x, hx, hd, hne⟩
      omega
  intro x hx y hy hd
  obtain ⟨p, hp, rfl⟩ := mem_it.1 hy
  have := key p p (Nat.le_refl _) hp x hx hd
  generalize it b p = y at *
  obtain ⟨d1, o1⟩ := x
  obtain ⟨d2, o2⟩ := y
  simp only at hd this
  rw [hd, this]
end Ob
