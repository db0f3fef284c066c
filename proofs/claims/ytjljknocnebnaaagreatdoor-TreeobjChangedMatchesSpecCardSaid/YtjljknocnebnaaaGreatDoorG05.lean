/-
  Stores as sorted sets: the plain law. No program in sight.
  Put and Merge of stores: the plain laws. No program in sight.
  Paths: their components. No program in sight.
  File trees: paths, lines, cutting at newlines. No program in sight.
  File trees in stores: writing and reading. No program in sight.
  File trees: the paths in which two of them differ. No program in sight.
  Objects: walks of the reference's 'At' and 'Stores'.
  Objects: walk of the reference's 'ObjectDigest'.
-/
import Derived.Test.YtjljknocnebnaaaGreatDoorG04
import Derived.Lib.Index
import Derived.Lib.SplitLaws
import Derived.ProofKit
import Derived.Lib.Strings
import Derived.Test.YtjljknocnebnaaaGreatDoorG02
namespace Ob
open Go.Proofs.YtjljknocnebnaaaGreatDoor (eqO eqO_iff)

theorem mem_it {s : List S} {x : S} : x ∈ s ↔ ∃ i, i < s.length ∧ it s i = x := by
  constructor
  · intro h
    obtain ⟨i, hi, e⟩ := List.mem_iff_getElem.1 h
    exact ⟨i, hi, by rw [← it_eq s i hi, e]⟩
  · rintro ⟨i, hi, rfl⟩
    rw [← it_eq s i hi]; exact List.getElem_mem hi
theorem it_mem {s : List S} {i : Nat} (hi : i < s.length) : it s i ∈ s := mem_it.2 ⟨i, hi, rfl⟩
theorem sorted_pw {s : List S} : Sorted s ↔ s.Pairwise (fun x y => x.dig < y.dig) := by
  rw [List.pairwise_iff_getElem]
  constructor
  · intro h i j hi hj hij
    rw [it_eq s i hi, it_eq s j hj]; exact h.mono hij hj
  · intro h i hi
    have := h i (i + 1) (by omega) hi (by omega)
    rwa [it_eq s i (by omega), it_eq s (i + 1) hi] at this
theorem pw_ext : ∀ {u v : List S}, u.Pairwise (fun x y => x.dig < y.dig) → v.Pairwise (fun x y => x.dig < y.dig) → (∀ x, x ∈ u ↔ x ∈ v) → u = v
  | [], [], _, _, _ => rfl
  | [], b :: v, _, _, h => by have := (h b).2 (by simp); cases this
  | a :: u, [], _, _, h => by have := (h a).1 (by simp); cases this
  | a :: u, b :: v, hu, hv, h => by
    rw [List.pairwise_cons] at hu hv
    have e : a = b := by
      rcases List.mem_cons.1 ((h a).1 (by simp)) with e | h1
      · exact e
      · rcases List.mem_cons.1 ((h b).2 (by simp)) with e | h2
        · exact e.symm
        · have := hv.1 a h1
          have := hu.1 b h2
          omega
    subst e
    congr 1
    refine pw_ext hu.2 hv.2 (fun x => ?_)
    constructor
    · intro hx
      rcases List.mem_cons.1 ((h x).1 (List.mem_cons_of_mem _ hx)) with e | h1
      · subst e; have := hu.1 x hx; omega
      · exact h1
    · intro hx
      rcases List.mem_cons.1 ((h x).2 (List.mem_cons_of_mem _ hx)) with e | h1
      · subst e; have := hv.1 x hx; omega
      · exact h1
theorem sorted_ext {u v : List S} (hu : Sorted u) (hv : Sorted v) (h : ∀ x, x ∈ u ↔ x ∈ v) : u = v := pw_ext (sorted_pw.1 hu) (sorted_pw.1 hv) h
theorem Sorted.uniq {s : List S} (h : Sorted s) {x y : S} (hx : x ∈ s) (hy : y ∈ s) (e : x.dig = y.dig) : x = y := by
  obtain ⟨i, hi, rfl⟩ := mem_it.1 hx
  obtain ⟨j, hj, rfl⟩ := mem_it.1 hy
  rcases Nat.lt_trichotomy i j with h1 | h1 | h1
  · have := h.mono h1 hj; omega
  · rw [h1]
  · have := h.mono h1 hi; omega
theorem fnd_iff {s : List S} (h : Sorted s) (d : Int) : fnd s d = true ↔ ∃ x ∈ s, x.dig = d := by
  constructor
  · intro hf
    have h1 : lb s d < s.length ∧ (it s (lb s d)).dig = d := by unfold fnd at hf; rw [Bool.and_eq_true] at hf; simpa using hf
    exact ⟨_, it_mem h1.1, h1.2⟩
  · rintro ⟨x, hx, e⟩
    obtain ⟨k, hk, rfl⟩ := mem_it.1 hx
    have hlb : lb s d = k := lb_eq s d k (by omega) (fun j hj => by have := h.mono hj hk; omega) (fun j hj hjl => by have := h.le hj hjl; omega)
    unfold fnd
    rw [hlb, decide_eq_true hk, decide_eq_true e]; rfl
theorem fnd_at {s : List S} {d : Int} (hf : fnd s d = true) : lb s d < s.length ∧ (it s (lb s d)).dig = d := by
  unfold fnd at hf; rw [Bool.and_eq_true] at hf; simpa using hf
theorem addOk_iff {s : List S} (h : Sorted s) (d : Int) (o : O) : addOk s d o = true ↔ ∀ x ∈ s, x.dig = d → x.ob = o := by
  unfold addOk
  by_cases hf : fnd s d = true
  · rw [if_pos hf, eqO_iff]
    obtain ⟨h1, h2⟩ := fnd_at hf
    constructor
    · intro e x hx hd
      have := h.uniq hx (it_mem h1) (by omega)
      rw [this, e]
    · intro hall; exact hall _ (it_mem h1) h2
  · rw [if_neg hf]
    simp only [true_iff]
    intro x hx hd
    exact absurd ((fnd_iff h d).2 ⟨x, hx, hd⟩) hf
theorem addS_spec {s : List S} (h : Sorted s) (d : Int) (o : O) (hok : addOk s d o = true) : Sorted (addS s d o) ∧ ∀ x, x ∈ addS s d o ↔ x ∈ s ∨ x = ⟨d, o⟩ := by
  by_cases hf : fnd s d = true
  · obtain ⟨h1, h2⟩ := fnd_at hf
    have e : addS s d o = s := by unfold addS; rw [if_pos hf]
    rw [e]
    refine ⟨h, fun x => ⟨.inl, ?_⟩⟩
    rintro (hx | rfl)
    · exact hx
    · have := (addOk_iff h d o).1 hok _ (it_mem h1) h2
      have hm := it_mem h1
      generalize it s (lb s d) = y at *
      obtain ⟨yd, yo⟩ := y
      simp only at h2 this
      rw [← h2, ← this]; exact hm
  · have e : addS s d o = s.take (lb s d) ++ [⟨d, o⟩] ++ s.drop (lb s d) := by unfold addS; rw [if_neg hf]
    rw [e]
    have hno : ∀ x ∈ s, x.dig ≠ d := fun x hx hd => hf ((fnd_iff h d).2 ⟨x, hx, hd⟩)
    have hlt : ∀ x ∈ s.take (lb s d), x.dig < d := fun x hx => by
      obtain ⟨k, hk, rfl⟩ := List.mem_iff_getElem.1 hx
      have hk' : k < lb s d ∧ k < s.length := by simp at hk; omega
      have := lb_lt h d k hk'.1
      rw [← it_eq s k hk'.2] at this
      simpa using this
    have hgt : ∀ x ∈ s.drop (lb s d), d < x.dig := fun x hx => by
      obtain ⟨k, hk, rfl⟩ := List.mem_iff_getElem.1 hx
      have hk' : lb s d + k < s.length := by simp at hk; omega
      have h1 := lb_ge h d (lb s d + k) (by omega) hk'
      have h2 := hno _ (it_mem hk')
      rw [← it_eq s _ hk'] at h1 h2
      simp only [List.getElem_drop]
      omega
    have hpw := sorted_pw.1 h
    constructor
    · rw [sorted_pw, List.append_assoc, List.pairwise_append]
      refine ⟨hpw.sublist (List.take_sublist _ _), ?_, ?_⟩
      · rw [List.singleton_append, List.pairwise_cons]
        exact ⟨fun x hx => hgt x hx, hpw.sublist (List.drop_sublist _ _)⟩
      · intro x hx y hy
        have h1 := hlt x hx
        rcases List.mem_cons.1 (by simpa using hy) with rfl | hy
        · exact h1
        · have := hgt y hy; omega
    · intro x
      have hs : x ∈ s ↔ x ∈ s.take (lb s d) ∨ x ∈ s.drop (lb s d) := by
        rw [← List.mem_append, List.take_append_drop]
      simp only [List.mem_append, List.mem_singleton]
      rw [hs]
      constructor
      · rintro ((h | h) | h)
        · exact .inl (.inl h)
        · exact .inr h
        · exact .inl (.inr h)
      · rintro ((h | h) | h)
        · exact .inl (.inl h)
        · exact .inr h
        · exact .inl (.inr h)
/-- u is the sorted union of a and b. -/
structure Un (a b u : List S) : Prop where
  srt : Sorted u
  mem : ∀ x, x ∈ u ↔ x ∈ a ∨ x ∈ b
theorem Un.eq {a b u v : List S} (h : Un a b u) (k : Un a b v) : u = v := sorted_ext h.srt k.srt fun x => (h.mem x).trans (k.mem x).symm
/-- No digest has two objects. -/
def NoC (a b : List S) : Prop := ∀ x ∈ a, ∀ y ∈ b, x.dig = y.dig → x = y
/-- The loop of 'Merge': the objects of b from i on are added to out; the second result is where it fails, or -1. -/
def mgFrom (out b : List S) (i : Nat) : List S × Int :=
  if i < b.length then if addOk out (it b i).dig (it b i).ob = true then mgFrom (addS out (it b i).dig (it b i).ob) b (i + 1) else (out, (i : Int)) else (out, -1)
termination_by b.length - i
theorem mgFrom_end (out b : List S) (i : Nat) (h : b.length ≤ i) : mgFrom out b i = (out, -1) := by rw [mgFrom, if_neg (by omega)]
theorem mgFrom_next (out b : List S) (i : Nat) (h : i < b.length) (hc : addOk out (it b i).dig (it b i).ob = true) : mgFrom out b i = mgFrom (addS out (it b i).dig (it b i).ob) b (i + 1) := by rw [mgFrom, if_pos h, if_pos hc]
theorem mgFrom_bad (out b : List S) (i : Nat) (h : i < b.length) (hc : addOk out (it b i).dig (it b i).ob ≠ true) : mgFrom out b i = (out, (i : Int)) := by rw [mgFrom, if_pos h, if_neg hc]
/-- What 'Merge' answers. -/
def mergeF (a b : List S) : List S × (Int × Int) :=
  if (stF a).1 ≠ 0 then ([], stF a) else if (stF b).1 ≠ 0 then ([], stF b) else if 0 ≤ (mgFrom a b 0).2 then ([], (19, (mgFrom a b 0).2))
  else if 40 < (mgFrom a b 0).1.length then ([], (14, -1)) else ((mgFrom a b 0).1, (0, 0))
theorem mg_ok {b : List S} : ∀ (n i : Nat) (out : List S), b.length - i ≤ n → Sorted b → Sorted out → (∀ k, i ≤ k → k < b.length → ∀ x ∈ out, x.dig = (it b k).dig → x.ob = (it b k).ob) →
    (mgFrom out b i).2 = -1 ∧ Sorted (mgFrom out b i).1 ∧ ∀ x, x ∈ (mgFrom out b i).1 ↔ x ∈ out ∨ ∃ k, i ≤ k ∧ k < b.length ∧ it b k = x
  | n, i, out, hn, hb, ho, hc => by
    by_cases hi : i < b.length
    · obtain _ | n := n
      · omega
      · have hok := (addOk_iff ho (it b i).dig (it b i).ob).2 (fun x hx hd => hc i (Nat.le_refl _) hi x hx hd)
        obtain ⟨h1, h2⟩ := addS_spec ho (it b i).dig (it b i).ob hok
        rw [mgFrom_next out b i hi hok]
        obtain ⟨k1, k2, k3⟩ := mg_ok n (i + 1) _ (by omega) hb h1 (fun k hk hkl x hx hd => by
          rcases (h2 x).1 hx with hx | rfl
          · exact hc k (by omega) hkl x hx hd
          · have := hb.mono (i := i) (j := k) (by omega) hkl
            simp only at hd; omega)
        refine ⟨k1, k2, fun x => (k3 x).trans ?_⟩
        rw [h2]
        constructor
        · rintro ((h | rfl) | ⟨k, hk, hkl, rfl⟩)
          · exact .inl h
          · exact .inr ⟨i, Nat.le_refl _, hi, rfl⟩
          · exact .inr ⟨k, by omega, hkl, rfl⟩
        · rintro (h | ⟨k, hk, hkl, rfl⟩)
          · exact .inl (.inl h)
          · by_cases e : k = i
            · subst e; exact .inl (.inr rfl)
            · exact .inr ⟨k, by omega, hkl, rfl⟩
    · rw [mgFrom_end out b i (by omega)]
      refine ⟨rfl, ho, fun x => ⟨.inl, ?_⟩⟩
      rintro (h | ⟨k, hk, hkl, rfl⟩)
      · exact h
      · omega
theorem mg_bad {b : List S} : ∀ (n i : Nat) (out : List S) (p : Nat), b.length - i ≤ n → Sorted b → Sorted out → i ≤ p → p < b.length → (∀ k, i ≤ k → k < p → ∀ x ∈ out, x.dig = (it b k).dig → x.ob = (it b k).ob) →
    (∃ x ∈ out, x.dig = (it b p).dig ∧ x.ob ≠ (it b p).ob) → (mgFrom out b i).2 = (p : Int)
  | n, i, out, p, hn, hb, ho, hip, hpl, hc, hbad => by
    obtain _ | n := n
    · omega
    · by_cases e : i = p
      · subst e
        have hok : addOk out (it b i).dig (it b i).ob ≠ true := fun h => by
          obtain ⟨x, hx, hd, hne⟩ := hbad
          exact hne ((addOk_iff ho _ _).1 h x hx hd)
        rw [mgFrom_bad out b i hpl hok]
      · have hok := (addOk_iff ho (it b i).dig (it b i).ob).2 (fun x hx hd => hc i (Nat.le_refl _) (by omega) x hx hd)
        obtain ⟨h1, h2⟩ := addS_spec ho (it b i).dig (it b i).ob hok
        rw [mgFrom_next out b i (by omega) hok]
        refine mg_bad n (i + 1) _ p (by omega) hb h1 (by omega) hpl (fun k hk hkl x hx hd => ?_) ?_
        · rcases (h2 x).1 hx with hx | rfl
          · exact hc k (by omega) hkl x hx hd
          · have := hb.mono (i := i) (j := k) (by omega) (by omega)
            simp only at hd; omega
        · obtain ⟨x, hx, hd, hne⟩ := hbad
          exact ⟨x, (h2 x).2 (.inl hx), hd, hne⟩
/-- Without a conflict 'Merge' answers with the union. -/
theorem mg_un {a b : List S} (ha : Sorted a) (hb : Sorted b) (h : NoC a b) : (mgFrom a b 0).2 = -1 ∧ Un a b (mgFrom a b 0).1 := by
  obtain ⟨h1, h2, h3⟩ := mg_ok (b := b) _ 0 a (Nat.le_refl _) hb ha (fun k _ hk x hx hd => by rw [h x hx _ (it_mem hk) hd])
  refine ⟨h1, h2, fun x => (h3 x).trans ?_⟩
  constructor
  · rintro (h | ⟨k, _, hk, rfl⟩)
    · exact .inl h
    · exact .inr (it_mem hk)
  · rintro (h | h)
    · exact .inl h
    · obtain ⟨k, hk, rfl⟩ := mem_it.1 h
      exact .inr ⟨k, Nat.zero_le _, hk, rfl⟩
/-- .. and it fails only with one. -/
theorem mg_noc {a b : List S} (ha : Sorted a) (hb : Sorted b) (h : ¬ 0 ≤ (mgFrom a b 0).2) : NoC a b := by
  have key : ∀ n p, p ≤ n → p < b.length → ∀ x ∈ a, x.dig = (it b p).dig → x.ob = (it b p).ob := by
    intro n
    induction n with
    | zero =>
      intro p hp hpl x hx hd
      apply Classical.byContradiction
      intro hne
      have : (mgFrom a b 0).2 = (p : Int) := mg_bad _ 0 a p (Nat.le_refl _) hb ha (Nat.zero_le _) hpl (fun k _ hk => by omega) ⟨x, hx, hd, hne⟩
      omega
    | succ n ih =>
      intro p hp hpl x hx hd
      apply Classical.byContradiction
      intro hne
      have : (mgFrom a b 0).2 = (p : Int) := mg_bad _ 0 a p (Nat.le_refl _) hb ha (Nat.zero_le _) hpl (fun k _ hk y hy hyd => ih k (by omega) (by omega) y hy hyd) ⟨x, hx, hd, hne⟩
      omega
  intro x hx y hy hd
  obtain ⟨p, hp, rfl⟩ := mem_it.1 hy
  have := key p p (Nat.le_refl _) hp x hx hd
  generalize it b p = y at *
  obtain ⟨d1, o1⟩ := x
  obtain ⟨d2, o2⟩ := y
  simp only at hd this
  rw [hd, this]
end Ob
namespace Ob
open Go.Proofs.YtjljknocnebnaaaGreatDoor (eqO eqO_iff)

/-- A stored object that is right. -/
def Good (x : S) : Prop := Ok x.ob ∧ x.dig = ((dig x.ob : Nat) : Int)
theorem stOk_iff {s : List S} : StOk s ↔ s.length ≤ 40 ∧ Sorted s ∧ ∀ x ∈ s, Good x := by
  constructor
  · intro h
    refine ⟨h.len, h.lt, fun x hx => ?_⟩
    obtain ⟨i, hi, rfl⟩ := mem_it.1 hx
    exact ⟨h.ok i hi, h.eq i hi⟩
  · rintro ⟨h1, h2, h3⟩
    exact ⟨h1, fun i hi => (h3 _ (it_mem hi)).1, fun i hi => (h3 _ (it_mem hi)).2, h2⟩
theorem sorted_le : ∀ {u v : List S}, u.Pairwise (fun x y => x.dig < y.dig) → v.Pairwise (fun x y => x.dig < y.dig) → (∀ x ∈ u, x ∈ v) → u.length ≤ v.length
  | [], _, _, _, _ => Nat.zero_le _
  | a :: u, [], _, _, h => by have := h a (by simp); cases this
  | a :: u, b :: v, hu, hv, h => by
    have hu' := hu
    rw [List.pairwise_cons] at hu hv
    by_cases e : a = b
    · subst e
      have := sorted_le hu.2 hv.2 (fun x hx => by
        rcases List.mem_cons.1 (h x (List.mem_cons_of_mem _ hx)) with e | h1
        · subst e; have := hu.1 x hx; omega
        · exact h1)
      simp only [List.length_cons]; omega
    · have hab : b.dig < a.dig := by
        rcases List.mem_cons.1 (h a (by simp)) with h1 | h1
        · exact absurd h1 e
        · exact hv.1 a h1
      have := sorted_le hu' hv.2 (fun x hx => by
        rcases List.mem_cons.1 (h x hx) with e1 | h1
        · subst e1
          rcases List.mem_cons.1 hx with e2 | h2
          · exact absurd e2.symm e
          · have := hu.1 x h2; omega
        · exact h1)
      simp only [List.length_cons] at this ⊢; omega
theorem Sorted.len_le {u v : List S} (hu : Sorted u) (hv : Sorted v) (h : ∀ x ∈ u, x ∈ v) : u.length ≤ v.length := sorted_le (sorted_pw.1 hu) (sorted_pw.1 hv) h

/-- When 'Put' takes the object. -/
structure PutT (s : List S) (o : O) (u : List S) : Prop where
  ok : StOk s
  ob : Ok o
  no : ∀ x ∈ s, x.dig = ((dig o : Nat) : Int) → x.ob = o
  un : Un s [⟨dig o, o⟩] u
  len : u.length ≤ 40
theorem PutT.st {s u : List S} {o : O} (h : PutT s o u) : StOk u := by
  obtain ⟨_, h2, h3⟩ := stOk_iff.1 h.ok
  refine stOk_iff.2 ⟨h.len, h.un.srt, fun x hx => ?_⟩
  rcases (h.un.mem x).1 hx with h1 | h1
  · exact h3 x h1
  · rw [List.mem_singleton] at h1; subst h1; exact ⟨h.ob, rfl⟩
theorem un_addS {s : List S} {o : O} (hs : Sorted s) (hok : addOk s (dig o) o = true) : Un s [⟨dig o, o⟩] (addS s (dig o) o) := by
  obtain ⟨h1, h2⟩ := addS_spec hs (dig o) o hok
  exact ⟨h1, fun x => by rw [h2, List.mem_singleton]⟩
/-- 'Put' fails and answers nothing, or it takes the object. -/
theorem putF_cases (s : List S) (o : O) : ((putF s o).2.2.1 ≠ 0 ∧ (putF s o).1 = []) ∨ ∃ u, putF s o = (u, ((dig o : Nat) : Int), (0, 0)) ∧ PutT s o u := by
  unfold putF
  by_cases h1 : (stF s).1 ≠ 0
  · rw [if_pos h1]; exact .inl ⟨h1, rfl⟩
  · rw [if_neg h1]
    obtain ⟨_, hs⟩ := stF_ok (s := s) (by omega)
    by_cases h2 : (obF o).1 ≠ 0
    · rw [if_pos h2]; exact .inl ⟨h2, rfl⟩
    · rw [if_neg h2]
      obtain ⟨_, ho⟩ := obF_ok (o := o) (by omega)
      by_cases h3 : addOk s (dig o) o = false
      · rw [if_pos h3]; exact .inl ⟨by decide, rfl⟩
      · rw [if_neg h3]
        have hok : addOk s (dig o) o = true := by simpa using h3
        by_cases h4 : 40 < (addS s (dig o) o).length
        · rw [if_pos h4]; exact .inl ⟨by decide, rfl⟩
        · rw [if_neg h4]
          exact .inr ⟨_, rfl, hs, ho, (addOk_iff hs.lt _ _).1 hok, un_addS hs.lt hok, by omega⟩
theorem PutT.eq {s u : List S} {o : O} (h : PutT s o u) : putF s o = (u, ((dig o : Nat) : Int), (0, 0)) := by
  have hok := (addOk_iff h.ok.lt (dig o) o).2 h.no
  have he := (un_addS h.ok.lt hok).eq h.un
  unfold putF
  rw [h.ok.f, if_neg (by simp), h.ob.f, if_neg (by simp), hok, if_neg (by simp), he, if_neg (by have := h.len; omega)]
open Classical in
theorem Un.len {s u : List S} {x : S} (h : Un s [x] u) (hs : Sorted s) (hx : ∀ y ∈ s, y.dig = x.dig → y = x) : u.length = if x ∈ s then s.length else s.length + 1 := by
  have hok : addOk s x.dig x.ob = true := (addOk_iff hs _ _).2 fun y hy hd => by rw [hx y hy hd]
  have he : addS s x.dig x.ob = u := by
    obtain ⟨h1, h2⟩ := addS_spec hs _ _ hok
    exact sorted_ext h1 h.srt fun z => by rw [h2, h.mem, List.mem_singleton]
  rw [← he]
  unfold addS
  by_cases hf : fnd s x.dig = true
  · obtain ⟨y, hy, e⟩ := (fnd_iff hs _).1 hf
    have := hx y hy e; subst this
    rw [if_pos hf, if_pos hy]
  · have hn : x ∉ s := fun hm => hf ((fnd_iff hs _).2 ⟨x, hm, rfl⟩)
    rw [if_neg hf, if_neg hn]
    have := lb_le s x.dig
    simp; omega
/-- The other order. -/
theorem put_swap {s a b : List S} {o p : O} (h1 : PutT s o a) (h2 : PutT a p b) : ∃ c, PutT s p c ∧ PutT c o b := by
  have hno : ∀ x ∈ s, x.dig = ((dig p : Nat) : Int) → x.ob = p := fun x hx hd => h2.no x ((h1.un.mem x).2 (.inl hx)) hd
  have hpo : ((dig o : Nat) : Int) = ((dig p : Nat) : Int) → o = p := fun e => h2.no ⟨dig o, o⟩ ((h1.un.mem _).2 (.inr (by simp))) e
  have hu := un_addS h1.ok.lt ((addOk_iff h1.ok.lt _ _).2 hno)
  have k0 : ∀ (q : O), (∀ x ∈ s, x.dig = ((dig q : Nat) : Int) → x.ob = q) → ∀ y ∈ s, y.dig = (⟨dig q, q⟩ : S).dig → y = ⟨dig q, q⟩ := fun q hq y hy hd => by
    have := hq y hy hd
    obtain ⟨yd, yo⟩ := y
    simp only at hd this
    rw [hd, this]
  have l1 := h1.un.len h1.ok.lt (k0 o h1.no)
  have l2 := hu.len h1.ok.lt (k0 p hno)
  have la := h1.len
  have lb := h2.len
  have hb : ∀ x, x ∈ b ↔ (x ∈ s ∨ x ∈ [(⟨dig o, o⟩ : S)]) ∨ x ∈ [(⟨dig p, p⟩ : S)] := fun x => by rw [h2.un.mem, h1.un.mem]
  have hlen : (addS s (dig p) p).length ≤ 40 := by
    refine Nat.le_trans (hu.srt.len_le h2.un.srt fun x hx => ?_) lb
    rw [hb]
    rcases (hu.mem x).1 hx with h | h
    · exact .inl (.inl h)
    · exact .inr h
  refine ⟨addS s (dig p) p, ⟨h1.ok, h2.ob, hno, hu, hlen⟩, ?_⟩
  have hst : StOk (addS s (dig p) p) := (PutT.mk h1.ok h2.ob hno hu hlen).st
  refine ⟨hst, h1.ob, fun x hx hd => ?_, ⟨h2.un.srt, fun x => ?_⟩, lb⟩
  · rcases (hu.mem x).1 hx with h | h
    · exact h1.no x h hd
    · rw [List.mem_singleton] at h; subst h
      exact (hpo hd.symm).symm
  · rw [hb, hu.mem]
    constructor
    · rintro ((h | h) | h)
      · exact .inl (.inl h)
      · exact .inr h
      · exact .inl (.inr h)
    · rintro ((h | h) | h)
      · exact .inl (.inl h)
      · exact .inr h
      · exact .inl (.inr h)
/-- When 'Merge' answers with the union. -/
structure MgT (a b u : List S) : Prop where
  oka : StOk a
  okb : StOk b
  no : NoC a b
  un : Un a b u
  len : u.length ≤ 40
theorem MgT.st {a b u : List S} (h : MgT a b u) : StOk u := by
  refine stOk_iff.2 ⟨h.len, h.un.srt, fun x hx => ?_⟩
  rcases (h.un.mem x).1 hx with h1 | h1
  · exact (stOk_iff.1 h.oka).2.2 x h1
  · exact (stOk_iff.1 h.okb).2.2 x h1
theorem mergeF_cases (a b : List S) : ((mergeF a b).2.1 ≠ 0 ∧ (mergeF a b).1 = []) ∨ ∃ u, mergeF a b = (u, (0, 0)) ∧ MgT a b u := by
  unfold mergeF
  by_cases h1 : (stF a).1 ≠ 0
  · rw [if_pos h1]; exact .inl ⟨h1, rfl⟩
  · rw [if_neg h1]
    obtain ⟨_, ha⟩ := stF_ok (s := a) (by omega)
    by_cases h2 : (stF b).1 ≠ 0
    · rw [if_pos h2]; exact .inl ⟨h2, rfl⟩
    · rw [if_neg h2]
      obtain ⟨_, hb⟩ := stF_ok (s := b) (by omega)
      by_cases h3 : 0 ≤ (mgFrom a b 0).2
      · rw [if_pos h3]; exact .inl ⟨by simp, rfl⟩
      · rw [if_neg h3]
        by_cases h4 : 40 < (mgFrom a b 0).1.length
        · rw [if_pos h4]; exact .inl ⟨by decide, rfl⟩
        · rw [if_neg h4]
          have hn := mg_noc ha.lt hb.lt h3
          exact .inr ⟨_, rfl, ha, hb, hn, (mg_un ha.lt hb.lt hn).2, by omega⟩
theorem MgT.eq {a b u : List S} (h : MgT a b u) : mergeF a b = (u, (0, 0)) := by
  obtain ⟨h1, h2⟩ := mg_un h.oka.lt h.okb.lt h.no
  have he := h2.eq h.un
  unfold mergeF
  rw [h.oka.f, if_neg (by simp), h.okb.f, if_neg (by simp), h1, if_neg (by decide), he, if_neg (by have := h.len; omega)]
theorem noc_self {a : List S} (h : Sorted a) : NoC a a := fun _ hx _ hy e => h.uniq hx hy e
theorem MgT.self {a : List S} (h : StOk a) : MgT a a a := ⟨h, h, noc_self h.lt, ⟨h.lt, fun x => by simp⟩, h.len⟩
theorem MgT.comm {a b u : List S} (h : MgT a b u) : MgT b a u := ⟨h.okb, h.oka, fun x hx y hy e => (h.no y hy x hx e.symm).symm, ⟨h.un.srt, fun x => by rw [h.un.mem, or_comm]⟩, h.len⟩
theorem MgT.assoc {a b c u v : List S} (h1 : MgT a b u) (h2 : MgT u c v) : ∃ z, MgT b c z ∧ MgT a z v := by
  have hn : NoC b c := fun x hx y hy e => h2.no x ((h1.un.mem x).2 (.inr hx)) y hy e
  obtain ⟨_, hu⟩ := mg_un h1.okb.lt h2.okb.lt hn
  have hv : ∀ x, x ∈ v ↔ (x ∈ a ∨ x ∈ b) ∨ x ∈ c := fun x => by rw [h2.un.mem, h1.un.mem]
  have hl : (mgFrom b c 0).1.length ≤ 40 := by
    refine Nat.le_trans (hu.srt.len_le h2.un.srt fun x hx => ?_) h2.len
    rw [hv]
    rcases (hu.mem x).1 hx with h | h
    · exact .inl (.inr h)
    · exact .inr h
  have hz : MgT b c (mgFrom b c 0).1 := ⟨h1.okb, h2.okb, hn, hu, hl⟩
  refine ⟨_, hz, h1.oka, hz.st, fun x hx y hy e => ?_, ⟨h2.un.srt, fun x => ?_⟩, h2.len⟩
  · rcases (hu.mem y).1 hy with h | h
    · exact h1.no x hx y h e
    · exact h2.no x ((h1.un.mem x).2 (.inl hx)) y h e
  · rw [hv, hu.mem, or_assoc]
end Ob
namespace Rf
/-- The components of a name; now: what has come of the one at hand. -/
def cmp (now : List UInt8) : List UInt8 → List (List UInt8)
  | [] => [now]
  | c :: l => if c = 47 then now :: cmp [] l else cmp (now ++ [c]) l
def comps (l : List UInt8) : List (List UInt8) := cmp [] l
theorem cmp_no (now : List UInt8) : ∀ l : List UInt8, 47 ∉ l → cmp now l = [now ++ l]
  | [], _ => by simp [cmp]
  | c :: l, h => by
    rw [cmp, if_neg (fun e => h (by simp [e])), cmp_no _ l (fun h2 => h (List.mem_cons_of_mem _ h2))]
    simp
theorem cmp_sep (now : List UInt8) : ∀ a l : List UInt8, 47 ∉ a → cmp now (a ++ 47 :: l) = (now ++ a) :: comps l
  | [], l, _ => by simp [cmp, comps]
  | c :: a, l, h => by
    rw [List.cons_append, cmp, if_neg (fun e => h (by simp [e])), cmp_sep _ a l (fun h2 => h (List.mem_cons_of_mem _ h2))]
    simp
theorem comps_no {l : List UInt8} (h : 47 ∉ l) : comps l = [l] := by unfold comps; rw [cmp_no _ _ h]; rfl
theorem comps_sep {a : List UInt8} (l : List UInt8) (h : 47 ∉ a) : comps (a ++ 47 :: l) = a :: comps l := by unfold comps; rw [cmp_sep _ _ _ h]; rfl
theorem cmp_len (now : List UInt8) : ∀ l : List UInt8, (cmp now l).length ≤ l.length + 1
  | [] => by simp [cmp]
  | c :: l => by
    rw [cmp]; split
    · have := cmp_len [] l; simp; omega
    · have := cmp_len (now ++ [c]) l; simp; omega
theorem comps_len (l : List UInt8) : (comps l).length ≤ l.length + 1 := cmp_len [] l
theorem cmp_mem : ∀ (now l : List UInt8) (x : List UInt8), x ∈ cmp now l → x.length ≤ now.length + l.length
  | now, [], x, h => by simp [cmp] at h; subst h; simp
  | now, c :: l, x, h => by
    rw [cmp] at h; split at h
    · rcases List.mem_cons.1 h with rfl | h
      · omega
      · have := cmp_mem [] l x h; simp at this ⊢; omega
    · have := cmp_mem (now ++ [c]) l x h; simp at this ⊢; omega
theorem comps_mem (l x : List UInt8) (h : x ∈ comps l) : x.length ≤ l.length := by have := cmp_mem [] l x h; simpa using this
theorem comps_ne (l : List UInt8) : comps l ≠ [] := by
  unfold comps
  generalize ([] : List UInt8) = now
  induction l generalizing now with
  | nil => simp [cmp]
  | cons c l ih => rw [cmp]; split <;> simp [ih]
/-- A list is without a slash, or it is split at the first one. -/
theorem split47 (l : List UInt8) : 47 ∉ l ∨ ∃ a r, l = a ++ 47 :: r ∧ 47 ∉ a := by
  induction l with
  | nil => exact .inl (by simp)
  | cons c l ih =>
    by_cases hc : c = 47
    · exact .inr ⟨[], l, by simp [hc], by simp⟩
    · rcases ih with h | ⟨a, r, h, ha⟩
      · exact .inl (by simp [h, Ne.symm hc])
      · exact .inr ⟨c :: a, r, by simp [h], by simp [ha, Ne.symm hc]⟩
/-! ### where a slash is -/
theorem index_no : ∀ {l : List UInt8}, 47 ∉ l → Go.Lib.index l [47] = -1
  | [], _ => by simp [Go.Lib.index]
  | c :: l, h => by
    have ih := index_no (l := l) (fun h2 => h (List.mem_cons_of_mem _ h2))
    have hc : ¬ (47 : UInt8) = c := fun e => h (by simp [e])
    simp [Go.Lib.index, ih, List.isPrefixOf, hc]
theorem index_sep : ∀ {a : List UInt8} (r : List UInt8), 47 ∉ a → Go.Lib.index (a ++ 47 :: r) [47] = (a.length : Int)
  | [], r, _ => by simp [Go.Lib.index, List.isPrefixOf]
  | c :: a, r, h => by
    have ih := index_sep (a := a) r (fun h2 => h (List.mem_cons_of_mem _ h2))
    have hc : ¬ (47 : UInt8) = c := fun e => h (by simp [e])
    have hn : ¬ ((a.length : Int) = -1) := by omega
    rw [List.cons_append, Go.Lib.index]
    simp [ih, List.isPrefixOf, hc, hn]
end Rf
namespace Tr
abbrev Nm := List UInt8
/-- A file. -/
structure F where
  path : Nm
  lines : List Nm
deriving DecidableEq, Inhabited
/-- A letter of a path. -/
def letter (c : UInt8) : Bool := (decide (97 ≤ c.toNat) && decide (c.toNat ≤ 122)) || (decide (65 ≤ c.toNat) && decide (c.toNat ≤ 90)) || (decide (48 ≤ c.toNat) && decide (c.toNat ≤ 57)) || decide (c.toNat = 46) || decide (c.toNat = 95) || decide (c.toNat = 45)
/-- A part of a path. -/
def part (l : Nm) : Bool := decide (l ≠ []) && decide (l ≠ [46]) && decide (l ≠ [46, 46]) && l.all letter
def pathOk (l : Nm) : Bool := decide (l.length ≤ 60) && (Rf.comps l).all part
theorem letter_10 : letter 10 = false := by decide
theorem pathOk_len {l : Nm} (h : pathOk l = true) : l.length ≤ 60 := by unfold pathOk at h; simp at h; exact h.1
/-- Every byte of a list lies in a component, or is a slash. -/
theorem mem_cmp (x : UInt8) : ∀ (now l : List UInt8), x ∈ now ++ l → x = 47 ∨ ∃ p ∈ Rf.cmp now l, x ∈ p
  | now, [], h => .inr ⟨now, by simp [Rf.cmp], by simpa using h⟩
  | now, c :: l, h => by
    rw [Rf.cmp]
    split
    · rename_i hc
      rcases List.mem_append.1 h with h | h
      · exact .inr ⟨now, by simp, h⟩
      · rcases List.mem_cons.1 h with rfl | h
        · exact .inl hc
        · rcases mem_cmp x [] l (by simpa using h) with h | ⟨p, hp, hx⟩
          · exact .inl h
          · exact .inr ⟨p, List.mem_cons_of_mem _ hp, hx⟩
    · exact mem_cmp x (now ++ [c]) l (by simpa using h)
theorem pathOk_nl {l : Nm} (h : pathOk l = true) : (10 : UInt8) ∉ l := by
  intro hm
  rcases mem_cmp 10 [] l (by simpa using hm) with h0 | ⟨p, hp, hx⟩
  · exact absurd h0 (by decide)
  · unfold pathOk at h
    rw [Bool.and_eq_true] at h
    have h2 := List.all_eq_true.1 h.2 p hp
    unfold part at h2
    rw [Bool.and_eq_true] at h2
    have := List.all_eq_true.1 h2.2 10 hx
    rw [letter_10] at this; cases this
/-- One path lies below the other one, or they are equal. -/
def rel (a b : Nm) : Bool := decide (a = b) || Go.Lib.hasPrefix a (b ++ [47]) || Go.Lib.hasPrefix b (a ++ [47])
/-- The fault of a text. -/
def lnFrom : List Nm → Nat → Int × Int
  | [], _ => (0, 0)
  | s :: l, i => if 80 < s.length then (2, (i : Int)) else if (10 : UInt8) ∈ s then (5, (i : Int)) else lnFrom l (i + 1)
def lnF (l : List Nm) : Int × Int := if 120 < l.length then (2, -1) else lnFrom l 0
theorem lnFrom_ok : ∀ (l : List Nm) (i : Nat), (lnFrom l i).1 = 0 → lnFrom l i = (0, 0) ∧ ∀ s ∈ l, s.length ≤ 80 ∧ (10 : UInt8) ∉ s
  | [], _, _ => ⟨rfl, fun _ h => by cases h⟩
  | s :: l, i, h => by
    rw [lnFrom] at h ⊢
    split at h
    · cases h
    · rename_i h1
      split at h
      · cases h
      · rename_i h2
        rw [if_neg h1, if_neg h2]
        obtain ⟨h3, h4⟩ := lnFrom_ok l (i + 1) h
        refine ⟨h3, fun x hx => ?_⟩
        rcases List.mem_cons.1 hx with rfl | hx
        · exact ⟨by omega, h2⟩
        · exact h4 x hx
theorem lnFrom_all : ∀ (l : List Nm) (i : Nat), (∀ s ∈ l, s.length ≤ 80 ∧ (10 : UInt8) ∉ s) → lnFrom l i = (0, 0)
  | [], _, _ => rfl
  | s :: l, i, h => by
    obtain ⟨h1, h2⟩ := h s (by simp)
    rw [lnFrom, if_neg (by omega), if_neg h2]
    exact lnFrom_all l _ fun x hx => h x (List.mem_cons_of_mem _ hx)
/-- A valid text. -/
structure LnOk (l : List Nm) : Prop where
  len : l.length ≤ 120
  all : ∀ s ∈ l, s.length ≤ 80 ∧ (10 : UInt8) ∉ s
theorem lnF_ok {l : List Nm} (h : (lnF l).1 = 0) : lnF l = (0, 0) ∧ LnOk l := by
  unfold lnF at h ⊢
  split at h
  · cases h
  · rename_i h1
    rw [if_neg h1]
    obtain ⟨h2, h3⟩ := lnFrom_ok l 0 h
    exact ⟨h2, by omega, h3⟩
theorem LnOk.f {l : List Nm} (h : LnOk l) : lnF l = (0, 0) := by
  unfold lnF; rw [if_neg (by have := h.len; omega)]; exact lnFrom_all l 0 h.all
/-- A path clashes with one of the files. -/
def clash (l : List F) (p : Nm) : Bool := l.any fun f => rel f.path p
def it (t : List F) (i : Nat) : F := t[i]?.getD default
theorem it_eq (t : List F) (i : Nat) (h : i < t.length) : t[i] = it t i := by unfold it; rw [List.getElem?_eq_getElem h]; rfl
/-- The error of the file number i. -/
def flC (t : List F) (i : Nat) : Int :=
  if pathOk (it t i).path = false then 12 else if 0 < i ∧ ¬ (it t (i - 1)).path < (it t i).path then 5 else if clash (t.take i) (it t i).path = true then 7 else (lnF (it t i).lines).1
def vlFrom (t : List F) (i : Nat) : Int × Int := if i < t.length then if flC t i ≠ 0 then (flC t i, (i : Int)) else vlFrom t (i + 1) else (0, 0)
termination_by t.length - i
theorem vlFrom_end (t : List F) (i : Nat) (h : t.length ≤ i) : vlFrom t i = (0, 0) := by rw [vlFrom, if_neg (by omega)]
theorem vlFrom_bad (t : List F) (i : Nat) (h : i < t.length) (hc : flC t i ≠ 0) : vlFrom t i = (flC t i, (i : Int)) := by rw [vlFrom, if_pos h, if_pos hc]
theorem vlFrom_next (t : List F) (i : Nat) (h : i < t.length) (hc : flC t i = 0) : vlFrom t i = vlFrom t (i + 1) := by rw [vlFrom, if_pos h, if_neg (by omega)]
/-- The fault of a file tree. -/
def vlF (t : List F) : Int × Int := if 24 < t.length then (2, -1) else vlFrom t 0
/-- A valid file tree. -/
structure VOk (t : List F) : Prop where
  len : t.length ≤ 24
  path : ∀ i, i < t.length → pathOk (it t i).path = true
  lt : ∀ i, i + 1 < t.length → (it t i).path < (it t (i + 1)).path
  far : ∀ i j, i < t.length → j < i → rel (it t j).path (it t i).path = false
  lines : ∀ i, i < t.length → LnOk (it t i).lines
theorem clash_iff (t : List F) (i : Nat) (hi : i ≤ t.length) (p : Nm) : clash (t.take i) p = false ↔ ∀ j, j < i → rel (it t j).path p = false := by
  unfold clash
  rw [List.any_eq_false]
  constructor
  · intro h j hj
    have hj2 : j < (t.take i).length := by simp; omega
    have := h _ (List.getElem_mem hj2)
    rw [List.getElem_take, it_eq t j (by omega)] at this
    simpa using this
  · intro h x hx
    obtain ⟨j, hj, rfl⟩ := List.mem_iff_getElem.1 hx
    rw [List.getElem_take, it_eq t j (by simp at hj; omega)]
    rw [h j (by simp at hj; omega)]; decide
theorem flC_zero {t : List F} {i : Nat} (hi : i < t.length) (h : flC t i = 0) : pathOk (it t i).path = true ∧ (0 < i → (it t (i - 1)).path < (it t i).path) ∧ (∀ j, j < i → rel (it t j).path (it t i).path = false) ∧ LnOk (it t i).lines := by
  unfold flC at h
  split at h
  · cases h
  · rename_i h1
    split at h
    · cases h
    · rename_i h2
      split at h
      · cases h
      · rename_i h3
        refine ⟨by simpa using h1, fun h0 => Classical.byContradiction fun hc => h2 ⟨h0, hc⟩, (clash_iff t i (by omega) _).1 (by simpa using h3), (lnF_ok h).2⟩
theorem vlFrom_ok (t : List F) : ∀ n i, t.length - i ≤ n → (vlFrom t i).1 = 0 → vlFrom t i = (0, 0) ∧ ∀ j, j < t.length → i ≤ j → flC t j = 0
  | n, i, hn, h => by
    by_cases hi : i < t.length
    · by_cases hc : flC t i = 0
      · obtain _ | n := n
        · omega
        · rw [vlFrom_next t i hi hc] at h ⊢
          obtain ⟨h1, h2⟩ := vlFrom_ok t n (i + 1) (by omega) h
          refine ⟨h1, fun j hj hij => ?_⟩
          by_cases e : j = i
          · subst e; exact hc
          · exact h2 j hj (by omega)
      · rw [vlFrom_bad t i hi hc] at h; exact absurd h hc
    · rw [vlFrom_end t i (by omega)]; exact ⟨rfl, fun j hj hij => by omega⟩
theorem vlF_ok {t : List F} (h : (vlF t).1 = 0) : vlF t = (0, 0) ∧ VOk t := by
  unfold vlF at h ⊢
  split at h
  · cases h
  · rename_i hl
    rw [if_neg hl]
    obtain ⟨h1, h2⟩ := vlFrom_ok t _ 0 (Nat.le_refl _) h
    refine ⟨h1, by omega, fun i hi => (flC_zero hi (h2 i hi (Nat.zero_le _))).1, fun i hi => ?_, fun i j hi hj => (flC_zero hi (h2 i hi (Nat.zero_le _))).2.2.1 j hj, fun i hi => (flC_zero hi (h2 i hi (Nat.zero_le _))).2.2.2⟩
    have := (flC_zero hi (h2 (i + 1) hi (Nat.zero_le _))).2.1 (by omega)
    simpa using this
theorem VOk.c {t : List F} (h : VOk t) (i : Nat) (hi : i < t.length) : flC t i = 0 := by
  unfold flC
  rw [if_neg (by rw [h.path i hi]; decide), if_neg, if_neg, (h.lines i hi).f]
  · rw [(clash_iff t i (by omega) _).2 (fun j hj => h.far i j hi hj)]; decide
  · rintro ⟨h0, h1⟩
    have := h.lt (i - 1) (by omega)
    rw [show i - 1 + 1 = i by omega] at this
    exact h1 this
theorem vlFrom_all (t : List F) (h : ∀ i, i < t.length → flC t i = 0) : ∀ n i, t.length - i ≤ n → vlFrom t i = (0, 0)
  | n, i, hn => by
    by_cases hi : i < t.length
    · obtain _ | n := n
      · omega
      · rw [vlFrom_next t i hi (h i hi)]; exact vlFrom_all t h n (i + 1) (by omega)
    · exact vlFrom_end t i (by omega)
theorem VOk.f {t : List F} (h : VOk t) : vlF t = (0, 0) := by
  have := h.len
  unfold vlF; rw [if_neg (by omega)]; exact vlFrom_all t h.c _ 0 (Nat.le_refl _)
theorem LnOk.nil : LnOk [] := ⟨by simp, fun _ h => by cases h⟩
/-- The paths alone. -/
def bare (t : List F) : List F := t.map fun f => ⟨f.path, []⟩
theorem it_bare (t : List F) (i : Nat) (hi : i < t.length) : it (bare t) i = ⟨(it t i).path, []⟩ := by
  rw [← it_eq (bare t) i (by simpa [bare] using hi), ← it_eq t i hi]; simp [bare]
theorem VOk.bare {t : List F} (h : VOk t) : VOk (Tr.bare t) := by
  have hl : (Tr.bare t).length = t.length := by simp [Tr.bare]
  refine ⟨by rw [hl]; exact h.len, fun i hi => ?_, fun i hi => ?_, fun i j hi hj => ?_, fun i hi => ?_⟩
  · rw [it_bare t i (by omega)]; exact h.path i (by omega)
  · rw [it_bare t i (by omega), it_bare t (i + 1) (by omega)]; exact h.lt i (by omega)
  · rw [it_bare t i (by omega), it_bare t j (by omega)]; exact h.far i j (by omega) hj
  · rw [it_bare t i (by omega)]; exact LnOk.nil
/-- One file alone. -/
theorem VOk.one {p : Nm} {l : List Nm} (h : pathOk p = true) (k : LnOk l) : VOk [⟨p, l⟩] := by
  refine ⟨by simp, fun i hi => ?_, fun i hi => by simp at hi, fun i j hi hj => by simp at hi; omega, fun i hi => ?_⟩
  · obtain rfl : i = 0 := by simpa using hi
    exact h
  · obtain rfl : i = 0 := by simpa using hi
    exact k
/-! ### cutting at newlines -/
/-- Cut at newlines; now: what has come of the line at hand. -/
def cutL (now : Nm) : List UInt8 → List Nm × Nm
  | [] => ([], now)
  | c :: l => if c = 10 then (now :: (cutL [] l).1, (cutL [] l).2) else cutL (now ++ [c]) l
def cut (b : List UInt8) : List Nm × Nm := cutL [] b
theorem cutL_no (now : Nm) : ∀ l : List UInt8, 10 ∉ l → cutL now l = ([], now ++ l)
  | [], _ => by simp [cutL]
  | c :: l, h => by
    rw [cutL, if_neg (fun e => h (by simp [e])), cutL_no _ l (fun h2 => h (List.mem_cons_of_mem _ h2))]
    simp
theorem cutL_sep (now : Nm) : ∀ a l : List UInt8, 10 ∉ a → cutL now (a ++ 10 :: l) = ((now ++ a) :: (cut l).1, (cut l).2)
  | [], l, _ => by simp [cutL, cut]
  | c :: a, l, h => by
    rw [List.cons_append, cutL, if_neg (fun e => h (by simp [e])), cutL_sep _ a l (fun h2 => h (List.mem_cons_of_mem _ h2))]
    simp
theorem cut_sep {a : List UInt8} (l : List UInt8) (h : 10 ∉ a) : cut (a ++ 10 :: l) = (a :: (cut l).1, (cut l).2) := by unfold cut; rw [cutL_sep _ _ _ h]; rfl
/-- Lines, each followed by a newline. -/
def joined (l : List Nm) : List UInt8 := l.flatMap fun s => s ++ [10]
theorem joined_snoc (l : List Nm) (s : Nm) : joined (l ++ [s]) = joined l ++ s ++ [10] := by unfold joined; rw [List.flatMap_append]; simp
theorem joined_cons (s : Nm) (l : List Nm) : joined (s :: l) = s ++ 10 :: joined l := by unfold joined; simp
theorem cut_joined : ∀ l : List Nm, (∀ s ∈ l, (10 : UInt8) ∉ s) → cut (joined l) = (l, [])
  | [], _ => rfl
  | s :: l, h => by rw [joined_cons, cut_sep _ (h s (by simp)), cut_joined l (fun x hx => h x (List.mem_cons_of_mem _ hx))]
theorem split10 (l : List UInt8) : 10 ∉ l ∨ ∃ a r, l = a ++ 10 :: r ∧ 10 ∉ a := by
  induction l with
  | nil => exact .inl (by simp)
  | cons c l ih =>
    by_cases hc : c = 10
    · exact .inr ⟨[], l, by simp [hc], by simp⟩
    · rcases ih with h | ⟨a, r, h, ha⟩
      · exact .inl (by simp [h, Ne.symm hc])
      · exact .inr ⟨c :: a, r, by simp [h], by simp [ha, Ne.symm hc]⟩
theorem cut_join (n : Nat) : ∀ (b : List UInt8), b.length ≤ n → joined (cut b).1 ++ (cut b).2 = b := by
  induction n with
  | zero =>
    intro b hb
    obtain rfl : b = [] := List.eq_nil_of_length_eq_zero (by omega)
    rfl
  | succ n ih =>
    intro b hn
    rcases split10 b with h | ⟨a, r, rfl, h⟩
    · unfold cut; rw [cutL_no _ _ h]; simp [joined]
    · rw [cut_sep r h, joined_cons]
      have := ih r (by simp at hn; omega)
      rw [List.append_assoc, List.cons_append, this]
theorem cut_nl (n : Nat) : ∀ (b : List UInt8), b.length ≤ n → (∀ s ∈ (cut b).1, (10 : UInt8) ∉ s) ∧ (10 : UInt8) ∉ (cut b).2 := by
  induction n with
  | zero =>
    intro b hb
    obtain rfl : b = [] := List.eq_nil_of_length_eq_zero (by omega)
    exact ⟨fun _ h => (List.not_mem_nil h).elim, List.not_mem_nil⟩
  | succ n ih =>
    intro b hb
    rcases split10 b with h | ⟨a, r, rfl, h⟩
    · unfold cut; rw [cutL_no _ _ h]; exact ⟨fun _ h => (List.not_mem_nil h).elim, by simpa using h⟩
    · rw [cut_sep r h]
      obtain ⟨h1, h2⟩ := ih r (by simp at hb; omega)
      refine ⟨fun s hs => ?_, h2⟩
      rcases List.mem_cons.1 hs with rfl | hs
      · exact h
      · exact h1 s hs
theorem index10_no : ∀ {l : List UInt8}, 10 ∉ l → Go.Lib.index l [10] = -1
  | [], _ => by simp [Go.Lib.index]
  | c :: l, h => by
    have ih := index10_no (l := l) (fun h2 => h (List.mem_cons_of_mem _ h2))
    have hc : ¬ (10 : UInt8) = c := fun e => h (by simp [e])
    simp [Go.Lib.index, ih, List.isPrefixOf, hc]
theorem index10_sep : ∀ {a : List UInt8} (r : List UInt8), 10 ∉ a → Go.Lib.index (a ++ 10 :: r) [10] = (a.length : Int)
  | [], r, _ => by simp [Go.Lib.index, List.isPrefixOf]
  | c :: a, r, h => by
    have ih := index10_sep (a := a) r (fun h2 => h (List.mem_cons_of_mem _ h2))
    have hc : ¬ (10 : UInt8) = c := fun e => h (by simp [e])
    have hn : ¬ ((a.length : Int) = -1) := by omega
    rw [List.cons_append, Go.Lib.index]
    simp [ih, List.isPrefixOf, hc, hn]
/-- The library's 'Split' at a newline: what is cut if a newline follows. -/
theorem split_cut (n : Nat) : ∀ (b : List UInt8), b.length ≤ n → Go.Lib.splitK [10] 0 (Go.Lib.count b [10]) b = (cut (b ++ [10])).1 := by
  induction n with
  | zero =>
    intro b hb
    obtain rfl : b = [] := List.eq_nil_of_length_eq_zero (by omega)
    rfl
  | succ n ih =>
    intro b hn
    rcases split10 b with h | ⟨a, r, rfl, h⟩
    · rw [Go.Lib.count_miss (index10_no h), cut_sep (a := b) [] h]; rfl
    · have hi := index10_sep r h
      have hd : (a ++ 10 :: r).drop (a.length + ([10] : List UInt8).length) = r := by
        rw [List.drop_append]; simp
      rw [Go.Lib.count_hit (i := a.length) (by simp) hi, hd, Nat.add_comm, Go.Lib.splitK, hi]
      have hm : ¬ ((a.length : Int) == -1) = true := fun e => by have := beq_iff_eq.1 e; omega
      rw [if_neg hm, Int.toNat_natCast, hd, Nat.add_zero, List.take_left' rfl, ih r (by simp at hn; omega), List.append_assoc, List.cons_append, cut_sep _ h]
theorem cut_last (n : Nat) : ∀ (x : List UInt8), x.length ≤ n → (cut (x ++ [10])).2 = [] := by
  induction n with
  | zero =>
    intro b hb
    obtain rfl : b = [] := List.eq_nil_of_length_eq_zero (by omega)
    rfl
  | succ n ih =>
    intro x hn
    rcases split10 x with h | ⟨a, r, rfl, h⟩
    · rw [cut_sep [] h]; rfl
    · rw [List.append_assoc, List.cons_append, cut_sep _ h]
      exact ih r (by simp at hn; omega)
/-- Data that ends with a newline. -/
theorem cut_end_iff (b : List UInt8) : (cut b).2 = [] ↔ b = [] ∨ ∃ x, b = x ++ [10] := by
  constructor
  · intro h
    have hj := cut_join b.length b (Nat.le_refl _)
    rw [h, List.append_nil] at hj
    rcases hc : (cut b).1.reverse with _ | ⟨s, l⟩
    · left
      rw [List.reverse_eq_nil_iff.1 hc] at hj
      exact hj.symm
    · right
      have : (cut b).1 = l.reverse ++ [s] := by rw [← List.reverse_reverse (cut b).1, hc]; simp
      rw [this, joined_snoc] at hj
      exact ⟨joined l.reverse ++ s, hj.symm⟩
  · rintro (rfl | ⟨x, rfl⟩)
    · rfl
    · exact cut_last x.length x (Nat.le_refl _)
end Tr
namespace Tr
open Ob (O S StOk Sorted fnd lb dig stF putF PutT Un)
/-- The object of a text. -/
def blobO (l : List Nm) : O := ⟨1, [], joined l⟩
def links (t : List F) : List Int := t.map fun f => ((dig (blobO f.lines) : Nat) : Int)
/-- The object of a tree. -/
def treeO (t : List F) : O := ⟨2, links t, joined (t.map F.path)⟩
def objs (t : List F) : List O := t.map (fun f => blobO f.lines) ++ [treeO t]
/-- All objects are put, one behind the other. -/
def putAll (s : List S) : List O → List S × Int
  | [] => (s, 0)
  | o :: l => if (putF s o).2.2.1 ≠ 0 then ([], (putF s o).2.2.1) else putAll (putF s o).1 l
def wrF (s : List S) (t : List F) : (List S × Int) × (Int × Int) :=
  if (stF s).1 ≠ 0 then (([], 0), stF s) else if (vlF t).1 ≠ 0 then (([], 0), ((vlF t).1, -1)) else if (putAll s (objs t)).2 ≠ 0 then (([], 0), ((putAll s (objs t)).2, -2))
  else (((putAll s (objs t)).1, ((dig (treeO t) : Nat) : Int)), (0, 0))
/-- All of these are in a store. -/
def Has (x : List S) (os : List O) : Prop := ∀ o ∈ os, (⟨dig o, o⟩ : S) ∈ x ∧ Ob.Ok o
theorem putAll_ok : ∀ (os : List O) (s : List S), StOk s → (putAll s os).2 = 0 → ∃ x, putAll s os = (x, 0) ∧ StOk x ∧ (∀ y ∈ s, y ∈ x) ∧ Has x os
  | [], s, hs, _ => ⟨s, rfl, hs, fun _ h => h, fun _ h => by cases h⟩
  | o :: l, s, hs, h => by
    rw [putAll] at h ⊢
    rcases Ob.putF_cases s o with ⟨h1, _⟩ | ⟨u, he, hp⟩
    · rw [if_pos h1] at h; exact absurd h h1
    · rw [he] at h ⊢
      rw [if_neg (fun h => h rfl)] at h ⊢
      obtain ⟨x, hx, hxs, hm, hh⟩ := putAll_ok l u hp.st h
      refine ⟨x, hx, hxs, fun y hy => hm y ((hp.un.mem y).2 (.inl hy)), fun q hq => ?_⟩
      rcases List.mem_cons.1 hq with rfl | hq
      · exact ⟨hm _ ((hp.un.mem _).2 (.inr (by simp))), hp.ob⟩
      · exact hh q hq
theorem put_self {x : List S} (hx : StOk x) {o : O} (h : (⟨dig o, o⟩ : S) ∈ x) (ho : Ob.Ok o) : PutT x o x := by
  have hs : Sorted x := hx.lt
  refine ⟨hx, ho, fun y hy hd => ?_, ⟨hs, fun y => ?_⟩, hx.len⟩
  · have := hs.uniq hy h hd
    rw [this]
  · rw [List.mem_singleton]
    exact ⟨.inl, fun h' => h'.elim id fun e => e ▸ h⟩
theorem putAll_again : ∀ (os : List O) {x : List S}, StOk x → Has x os → putAll x os = (x, 0)
  | [], _, _, _ => rfl
  | o :: l, x, hx, h => by
    have h1 := h o (by simp)
    rw [putAll, (put_self hx h1.1 h1.2).eq, if_neg (fun h => h rfl)]
    exact putAll_again l hx fun q hq => h q (List.mem_cons_of_mem _ hq)
/-- 'Write' fails and answers nothing, or it has put all. -/
theorem wrF_cases (s : List S) (t : List F) : ((wrF s t).2.1 ≠ 0 ∧ (wrF s t).1 = ([], 0)) ∨ ∃ x, wrF s t = ((x, ((dig (treeO t) : Nat) : Int)), (0, 0)) ∧ StOk s ∧ VOk t ∧ StOk x ∧ (∀ y ∈ s, y ∈ x) ∧ Has x (objs t) ∧ putAll s (objs t) = (x, 0) := by
  unfold wrF
  by_cases h1 : (stF s).1 ≠ 0
  · rw [if_pos h1]; exact .inl ⟨h1, rfl⟩
  · rw [if_neg h1]
    obtain ⟨_, hs⟩ := Ob.stF_ok (s := s) (by omega)
    by_cases h2 : (vlF t).1 ≠ 0
    · rw [if_pos h2]; exact .inl ⟨h2, rfl⟩
    · rw [if_neg h2]
      obtain ⟨_, ht⟩ := vlF_ok (t := t) (by omega)
      by_cases h3 : (putAll s (objs t)).2 ≠ 0
      · rw [if_pos h3]; exact .inl ⟨h3, rfl⟩
      · rw [if_neg h3]
        obtain ⟨x, hx, hxs, hm, hh⟩ := putAll_ok (objs t) s hs (by omega)
        exact .inr ⟨x, by rw [hx], hs, ht, hxs, hm, hh, hx⟩
/-- Writing again. -/
theorem wr_again {x : List S} {t : List F} (hx : StOk x) (ht : VOk t) (hh : Has x (objs t)) : wrF x t = ((x, ((dig (treeO t) : Nat) : Int)), (0, 0)) := by
  unfold wrF
  rw [hx.f, if_neg (by decide), ht.f, if_neg (by decide), putAll_again _ hx hh, if_neg (fun h => h rfl)]
/-! ### reading -/
def gtO (s : List S) (d : Int) : Option O := if fnd s d then some (Ob.it s (lb s d)).ob else none
theorem gtO_mem {x : List S} (hx : StOk x) {o : O} (h : (⟨dig o, o⟩ : S) ∈ x) : gtO x ((dig o : Nat) : Int) = some o := by
  have hf : fnd x ((dig o : Nat) : Int) = true := (Ob.fnd_iff hx.lt _).2 ⟨_, h, rfl⟩
  obtain ⟨h1, h2⟩ := Ob.fnd_at hf
  unfold gtO
  rw [if_pos hf, (show Sorted x from hx.lt).uniq (Ob.it_mem h1) h h2]
/-- The paths and links of a tree object. -/
def prF (o : O) : (List Nm × List Int) × Int :=
  if o.kind ≠ 2 then (([], []), 8) else if (cut o.data).2 ≠ [] ∨ (cut o.data).1.length ≠ o.links.length ∨ (vlF ((cut o.data).1.map fun p => (⟨p, []⟩ : F))).1 ≠ 0 then (([], []), 5) else (((cut o.data).1, o.links), 0)
def ptF (s : List S) (d ix : Int) : (List Nm × List Int) × (Int × Int) :=
  if (stF s).1 ≠ 0 then (([], []), stF s) else match gtO s d with
    | none => (([], []), (6, ix))
    | some o => if (prF o).2 ≠ 0 then (([], []), ((prF o).2, ix)) else ((prF o).1, (0, 0))
/-- The lines of a blob. -/
def coF (o : O) (p : Nm) : List Nm × Int := if o.kind ≠ 1 then ([], 8) else if (cut o.data).2 ≠ [] ∨ (vlF [(⟨p, (cut o.data).1⟩ : F)]).1 ≠ 0 then ([], 5) else ((cut o.data).1, 0)
def rdFrom (s : List S) (ps : List Nm) (ls : List Int) (i : Nat) (out : List F) : List F × (Int × Int) :=
  if i < ps.length then match gtO s (ls[i]?.getD 0) with
    | none => ([], (6, (i : Int)))
    | some o => if (coF o (ps[i]?.getD [])).2 ≠ 0 then ([], ((coF o (ps[i]?.getD [])).2, (i : Int))) else rdFrom s ps ls (i + 1) (out ++ [⟨ps[i]?.getD [], (coF o (ps[i]?.getD [])).1⟩])
  else (out, (0, 0))
termination_by ps.length - i
def rdF (s : List S) (d : Int) : List F × (Int × Int) := if (ptF s d (-1)).2.1 ≠ 0 then ([], (ptF s d (-1)).2) else rdFrom s (ptF s d (-1)).1.1 (ptF s d (-1)).1.2 0 []
theorem prF_tree {t : List F} (ht : VOk t) : prF (treeO t) = ((t.map F.path, links t), 0) := by
  have hc : cut (joined (t.map F.path)) = (t.map F.path, []) := cut_joined _ fun p hp => by
    obtain ⟨f, hf, rfl⟩ := List.mem_map.1 hp
    obtain ⟨i, hi, rfl⟩ := List.mem_iff_getElem.1 hf
    rw [it_eq t i hi]
    exact pathOk_nl (ht.path i hi)
  unfold prF
  have hd : (treeO t).data = joined (t.map F.path) := rfl
  have hl : (treeO t).links = links t := rfl
  have hk : (treeO t).kind = 2 := rfl
  have hb : (t.map F.path).map (fun p => (⟨p, []⟩ : F)) = bare t := by rw [List.map_map]; rfl
  rw [hd, hl, hk, hc, if_neg (by decide)]
  simp only
  rw [hb, ht.bare.f, if_neg (by simp [links])]
theorem ptF_tree {x : List S} {t : List F} (hx : StOk x) (ht : VOk t) (hh : Has x (objs t)) (ix : Int) : ptF x ((dig (treeO t) : Nat) : Int) ix = ((t.map F.path, links t), (0, 0)) := by
  unfold ptF
  rw [hx.f, if_neg (by decide), gtO_mem hx (hh (treeO t) (by simp [objs])).1]
  simp only
  rw [prF_tree ht, if_neg (fun h => h rfl)]
theorem coF_blob {f : F} (hp : pathOk f.path = true) (hl : LnOk f.lines) : coF (blobO f.lines) f.path = (f.lines, 0) := by
  have hc : cut (joined f.lines) = (f.lines, []) := cut_joined _ fun s hs => (hl.all s hs).2
  unfold coF
  have hd : (blobO f.lines).data = joined f.lines := rfl
  have hk : (blobO f.lines).kind = 1 := rfl
  rw [hd, hk, hc, if_neg (by decide)]
  simp only
  rw [(VOk.one hp hl).f, if_neg (by simp)]
theorem rdFrom_end (s : List S) (ps : List Nm) (ls : List Int) (i : Nat) (out : List F) (h : ps.length ≤ i) : rdFrom s ps ls i out = (out, (0, 0)) := by rw [rdFrom, if_neg (by omega)]
theorem rd_tree {x : List S} {t : List F} (hx : StOk x) (ht : VOk t) (hh : Has x (objs t)) : ∀ n i, t.length - i ≤ n → i ≤ t.length → rdFrom x (t.map F.path) (links t) i (t.take i) = (t, (0, 0))
  | n, i, hn, hi => by
    by_cases hlt : i < t.length
    · obtain _ | n := n
      · omega
      · have h1 : (links t)[i]?.getD 0 = ((dig (blobO (it t i).lines) : Nat) : Int) := by
          unfold links; rw [List.getElem?_map, List.getElem?_eq_getElem hlt]; simp [it_eq t i hlt]
        have h2 : (t.map F.path)[i]?.getD [] = (it t i).path := by rw [List.getElem?_map, List.getElem?_eq_getElem hlt]; simp [it_eq t i hlt]
        have hm : blobO (it t i).lines ∈ objs t := by
          unfold objs; rw [List.mem_append]; left; exact List.mem_map.2 ⟨it t i, by rw [← it_eq t i hlt]; exact List.getElem_mem hlt, rfl⟩
        rw [rdFrom, if_pos (by simpa using hlt), h1, h2, gtO_mem hx (hh _ hm).1]
        simp only
        rw [coF_blob (ht.path i hlt) (ht.lines i hlt), if_neg (fun h => h rfl)]
        have := rd_tree hx ht hh n (i + 1) (by omega) (by omega)
        rw [List.take_succ_eq_append_getElem hlt, it_eq t i hlt] at this
        exact this
    · obtain rfl : i = t.length := by omega
      rw [rdFrom_end _ _ _ _ _ (by simp), List.take_length]
/-- A stored tree is read back. -/
theorem read_back {x : List S} {t : List F} (hx : StOk x) (ht : VOk t) (hh : Has x (objs t)) : rdF x ((dig (treeO t) : Nat) : Int) = (t, (0, 0)) := by
  unfold rdF
  rw [ptF_tree hx ht hh, if_neg (fun h => h rfl)]
  simpa using rd_tree hx ht hh _ 0 (Nat.le_refl _) (Nat.zero_le _)
end Tr
namespace Tr
def at_ (p : List Nm) (i : Nat) : Nm := p[i]?.getD []
def ln (x : List Int) (i : Nat) : Int := x[i]?.getD 0
theorem at_eq (p : List Nm) (i : Nat) (h : i < p.length) : p[i] = at_ p i := by unfold at_; rw [List.getElem?_eq_getElem h]; rfl
theorem at_mem {p : List Nm} {c : Nm} : c ∈ p ↔ ∃ i, i < p.length ∧ at_ p i = c := by
  constructor
  · intro h
    obtain ⟨i, hi, e⟩ := List.mem_iff_getElem.1 h
    exact ⟨i, hi, by rw [← at_eq p i hi, e]⟩
  · rintro ⟨i, hi, rfl⟩
    rw [← at_eq p i hi]; exact List.getElem_mem hi
/-- The path number i has the same link on the other side. -/
def sameB (p : List Nm) (x : List Int) (q : List Nm) (y : List Int) (i : Nat) : Bool := (List.range q.length).any fun k => decide (at_ p i = at_ q k) && decide (ln x i = ln y k)
theorem sameB_iff (p : List Nm) (x : List Int) (q : List Nm) (y : List Int) (i : Nat) : sameB p x q y i = true ↔ ∃ k, k < q.length ∧ at_ p i = at_ q k ∧ ln x i = ln y k := by
  unfold sameB; rw [List.any_eq_true]
  simp [List.mem_range]
def aL (p : List Nm) (x : List Int) (q : List Nm) (y : List Int) (i : Nat) : List Nm := ((List.range i).filter fun j => !sameB p x q y j).map (at_ p)
theorem aL_succ (p : List Nm) (x : List Int) (q : List Nm) (y : List Int) (i : Nat) : aL p x q y (i + 1) = aL p x q y i ++ if sameB p x q y i = true then [] else [at_ p i] := by
  unfold aL
  rw [List.range_succ, List.filter_append, List.map_append]
  congr 1
  by_cases h : sameB p x q y i = true
  · rw [if_pos h]; simp [h]
  · rw [if_neg h]; simp [h]
/-- Put where it belongs. -/
def ins (b : Nm) : List Nm → List Nm
  | [] => [b]
  | a :: l => if a < b then a :: ins b l else b :: a :: l
/-- How many at the head come ahead of b. -/
def hd (b : Nm) : List Nm → Nat
  | [] => 0
  | a :: l => if a < b then hd b l + 1 else 0
theorem hd_le (b : Nm) : ∀ l, hd b l ≤ l.length
  | [] => Nat.le_refl _
  | a :: l => by
    rw [hd]; split
    · have := hd_le b l; simp; omega
    · simp
theorem ins_eq (b : Nm) : ∀ l, ins b l = l.take (hd b l) ++ [b] ++ l.drop (hd b l)
  | [] => rfl
  | a :: l => by
    rw [ins, hd]
    by_cases h : a < b
    · rw [if_pos h, if_pos h, ins_eq b l]; simp
    · rw [if_neg h, if_neg h]; simp
theorem mem_ins (b c : Nm) : ∀ l, c ∈ ins b l ↔ c = b ∨ c ∈ l
  | [] => by simp [ins]
  | a :: l => by
    rw [ins]
    by_cases h : a < b
    · rw [if_pos h, List.mem_cons, mem_ins b c l, List.mem_cons]
      constructor
      · rintro (h | h | h)
        · exact .inr (.inl h)
        · exact .inl h
        · exact .inr (.inr h)
      · rintro (h | h | h)
        · exact .inr (.inl h)
        · exact .inl h
        · exact .inr (.inr h)
    · rw [if_neg h, List.mem_cons]
abbrev Srt (l : List Nm) : Prop := l.Pairwise (fun a b => a < b)
theorem nlt_irrefl (a : Nm) : ¬ a < a := List.lt_irrefl a
theorem nlt_trans {a b c : Nm} (h : a < b) (k : b < c) : a < c := List.lt_trans h k
theorem nlt_tri (a b : Nm) : a < b ∨ a = b ∨ b < a := by
  by_cases h : a < b
  · exact .inl h
  · by_cases k : b < a
    · exact .inr (.inr k)
    · exact .inr (.inl (List.le_antisymm (List.not_lt.1 k) (List.not_lt.1 h)))
theorem ins_srt (b : Nm) : ∀ l, Srt l → b ∉ l → Srt (ins b l)
  | [], _, _ => by simp [ins, Srt]
  | a :: l, h, hb => by
    obtain ⟨h1, h2⟩ := List.pairwise_cons.1 h
    rw [ins]
    by_cases hab : a < b
    · rw [if_pos hab]
      refine List.pairwise_cons.2 ⟨fun c hc => ?_, ins_srt b l h2 fun hm => hb (List.mem_cons_of_mem _ hm)⟩
      rcases (mem_ins b c l).1 hc with rfl | hc
      · exact hab
      · exact h1 c hc
    · rw [if_neg hab]
      have hba : b < a := by
        rcases nlt_tri a b with k | k | k
        · exact absurd k hab
        · exact absurd (by simp [k]) hb
        · exact k
      refine List.pairwise_cons.2 ⟨fun c hc => ?_, h⟩
      rcases List.mem_cons.1 hc with rfl | hc
      · exact hba
      · exact nlt_trans hba (h1 c hc)
theorem srt_ext : ∀ {u v : List Nm}, Srt u → Srt v → (∀ x, x ∈ u ↔ x ∈ v) → u = v
  | [], [], _, _, _ => rfl
  | [], b :: v, _, _, h => by have := (h b).2 (by simp); cases this
  | a :: u, [], _, _, h => by have := (h a).1 (by simp); cases this
  | a :: u, b :: v, hu, hv, h => by
    obtain ⟨u1, u2⟩ := List.pairwise_cons.1 hu
    obtain ⟨v1, v2⟩ := List.pairwise_cons.1 hv
    have e : a = b := by
      rcases List.mem_cons.1 ((h a).1 (by simp)) with e | ha
      · exact e
      · rcases List.mem_cons.1 ((h b).2 (by simp)) with e | hb
        · exact e.symm
        · exact absurd (nlt_trans (v1 a ha) (u1 b hb)) (nlt_irrefl _)
    subst e
    congr 1
    refine srt_ext u2 v2 fun x => ⟨fun hx => ?_, fun hx => ?_⟩
    · rcases List.mem_cons.1 ((h x).1 (List.mem_cons_of_mem _ hx)) with e | hx'
      · subst e; exact absurd (u1 x hx) (nlt_irrefl _)
      · exact hx'
    · rcases List.mem_cons.1 ((h x).2 (List.mem_cons_of_mem _ hx)) with e | hx'
      · subst e; exact absurd (v1 x hx) (nlt_irrefl _)
      · exact hx'
/-- The changed paths, behind the first k of the other side. -/
def chL (p : List Nm) (x : List Int) (q : List Nm) (y : List Int) : Nat → List Nm
  | 0 => aL p x q y p.length
  | k + 1 => if at_ q k ∈ p then chL p x q y k else ins (at_ q k) (chL p x q y k)
def chF (p : List Nm) (x : List Int) (q : List Nm) (y : List Int) : List Nm := chL p x q y q.length
theorem srt_lt {p : List Nm} (h : Srt p) {i j : Nat} (hij : i < j) (hj : j < p.length) : at_ p i < at_ p j := by
  have := List.pairwise_iff_getElem.1 h i j (by omega) hj hij
  rwa [at_eq p i (by omega), at_eq p j hj] at this
theorem srt_inj {p : List Nm} (h : Srt p) {i j : Nat} (hi : i < p.length) (hj : j < p.length) (e : at_ p i = at_ p j) : i = j := by
  rcases Nat.lt_trichotomy i j with k | k | k
  · exact absurd (e ▸ srt_lt h k hj) (nlt_irrefl _)
  · exact k
  · exact absurd (e ▸ srt_lt h k hi) (nlt_irrefl _)
theorem mem_aL (p : List Nm) (x : List Int) (q : List Nm) (y : List Int) (c : Nm) : ∀ i, c ∈ aL p x q y i ↔ ∃ j, j < i ∧ at_ p j = c ∧ sameB p x q y j = false := by
  intro i; unfold aL
  rw [List.mem_map]
  simp only [List.mem_filter, List.mem_range]
  constructor
  · rintro ⟨j, ⟨h1, h2⟩, h3⟩; exact ⟨j, h1, h3, by simpa using h2⟩
  · rintro ⟨j, h1, h2, h3⟩; exact ⟨j, ⟨h1, by simp [h3]⟩, h2⟩
theorem srt_aL {p : List Nm} (x : List Int) (q : List Nm) (y : List Int) (h : Srt p) : ∀ i, i ≤ p.length → Srt (aL p x q y i)
  | 0, _ => by simp [aL, Srt]
  | i + 1, hi => by
    rw [aL_succ]
    split
    · rw [List.append_nil]; exact srt_aL x q y h i (by omega)
    · refine List.pairwise_append.2 ⟨srt_aL x q y h i (by omega), by simp, fun a ha b hb => ?_⟩
      rw [List.mem_singleton] at hb; subst hb
      obtain ⟨j, hj, rfl, _⟩ := (mem_aL p x q y a i).1 ha
      exact srt_lt h hj (by omega)
theorem chL_spec {p q : List Nm} (x y : List Int) (hp : Srt p) (hq : Srt q) : ∀ k, k ≤ q.length → Srt (chL p x q y k) ∧ ∀ c, c ∈ chL p x q y k ↔ c ∈ aL p x q y p.length ∨ ∃ j, j < k ∧ at_ q j = c ∧ c ∉ p
  | 0, _ => ⟨srt_aL x q y hp _ (Nat.le_refl _), fun c => by simp [chL]⟩
  | k + 1, hk => by
    obtain ⟨h1, h2⟩ := chL_spec x y hp hq k (by omega)
    rw [chL]
    by_cases hm : at_ q k ∈ p
    · rw [if_pos hm]
      refine ⟨h1, fun c => (h2 c).trans ?_⟩
      constructor
      · rintro (h | ⟨j, hj, e, hn⟩)
        · exact .inl h
        · exact .inr ⟨j, by omega, e, hn⟩
      · rintro (h | ⟨j, hj, e, hn⟩)
        · exact .inl h
        · by_cases hjk : j = k
          · subst hjk; exact absurd (e ▸ hm) hn
          · exact .inr ⟨j, by omega, e, hn⟩
    · rw [if_neg hm]
      refine ⟨ins_srt _ _ h1 fun hc => ?_, fun c => ?_⟩
      · rcases (h2 _).1 hc with h | ⟨j, hj, e, _⟩
        · obtain ⟨i, hi, e, _⟩ := (mem_aL p x q y _ _).1 h
          exact hm (at_mem.2 ⟨i, hi, e⟩)
        · have := srt_inj hq (show j < q.length by omega) (show k < q.length by omega) e
          omega
      · rw [mem_ins, h2]
        constructor
        · rintro (rfl | h | ⟨j, hj, e, hn⟩)
          · exact .inr ⟨k, by omega, rfl, hm⟩
          · exact .inl h
          · exact .inr ⟨j, by omega, e, hn⟩
        · rintro (h | ⟨j, hj, e, hn⟩)
          · exact .inr (.inl h)
          · by_cases hjk : j = k
            · subst hjk; exact .inl e.symm
            · exact .inr (.inr ⟨j, by omega, e, hn⟩)
/-- What a path that has changed is. -/
theorem mem_chF {p q : List Nm} (x y : List Int) (hp : Srt p) (hq : Srt q) (c : Nm) : c ∈ chF p x q y ↔ (c ∈ p ∨ c ∈ q) ∧ ¬ ∃ i k, i < p.length ∧ k < q.length ∧ at_ p i = c ∧ at_ q k = c ∧ ln x i = ln y k := by
  unfold chF
  rw [(chL_spec x y hp hq _ (Nat.le_refl _)).2 c, mem_aL]
  constructor
  · rintro (⟨j, hj, rfl, hs⟩ | ⟨j, hj, rfl, hn⟩)
    · refine ⟨.inl (at_mem.2 ⟨j, hj, rfl⟩), ?_⟩
      rintro ⟨i, k, hi, hk, e1, e2, e3⟩
      obtain rfl := srt_inj hp hi hj e1
      have := (sameB_iff p x q y i).2 ⟨k, hk, e2.symm, e3⟩
      rw [hs] at this; cases this
    · refine ⟨.inr (at_mem.2 ⟨j, hj, rfl⟩), ?_⟩
      rintro ⟨i, k, hi, _, e1, _, _⟩
      exact hn (at_mem.2 ⟨i, hi, e1⟩)
  · rintro ⟨h, hn⟩
    by_cases hc : c ∈ p
    · obtain ⟨i, hi, e⟩ := at_mem.1 hc
      refine .inl ⟨i, hi, e, ?_⟩
      rw [Bool.eq_false_iff]
      intro hs
      obtain ⟨k, hk, e2, e3⟩ := (sameB_iff p x q y i).1 hs
      exact hn ⟨i, k, hi, hk, e, by rw [← e2, e], e3⟩
    · rcases h with h | h
      · exact absurd h hc
      · obtain ⟨k, hk, e⟩ := at_mem.1 h
        exact .inr ⟨k, hk, e, hc⟩
theorem srt_chF {p q : List Nm} (x y : List Int) (hp : Srt p) (hq : Srt q) : Srt (chF p x q y) := (chL_spec x y hp hq _ (Nat.le_refl _)).1
/-- The order of the sides does not matter. -/
theorem ch_symm {p q : List Nm} (x y : List Int) (hp : Srt p) (hq : Srt q) : chF p x q y = chF q y p x :=
  srt_ext (srt_chF x y hp hq) (srt_chF y x hq hp) fun c => by
    rw [mem_chF x y hp hq, mem_chF y x hq hp]
    constructor
    · rintro ⟨h, hn⟩; exact ⟨h.symm, fun ⟨i, k, h1, h2, h3, h4, h5⟩ => hn ⟨k, i, h2, h1, h4, h3, h5.symm⟩⟩
    · rintro ⟨h, hn⟩; exact ⟨h.symm, fun ⟨i, k, h1, h2, h3, h4, h5⟩ => hn ⟨k, i, h2, h1, h4, h3, h5.symm⟩⟩
/-- No path has changed: the same paths with the same links. -/
theorem ch_nil {p q : List Nm} {x y : List Int} (hp : Srt p) (hq : Srt q) (hx : x.length = p.length) (hy : y.length = q.length) : chF p x q y = [] ↔ p = q ∧ x = y := by
  constructor
  · intro h
    have hno : ∀ c, (c ∈ p ∨ c ∈ q) → ∃ i k, i < p.length ∧ k < q.length ∧ at_ p i = c ∧ at_ q k = c ∧ ln x i = ln y k := fun c hc => Classical.byContradiction fun hn => by
      have := (mem_chF x y hp hq c).2 ⟨hc, hn⟩
      rw [h] at this; cases this
    have hpq : p = q := srt_ext hp hq fun c => ⟨fun hc => by
      obtain ⟨i, k, _, hk, _, e, _⟩ := hno c (.inl hc); exact at_mem.2 ⟨k, hk, e⟩, fun hc => by
      obtain ⟨i, k, hi, _, e, _, _⟩ := hno c (.inr hc); exact at_mem.2 ⟨i, hi, e⟩⟩
    subst hpq
    refine ⟨rfl, List.ext_getElem (by omega) fun i h1 h2 => ?_⟩
    obtain ⟨j, k, hj, hk, e1, e2, e3⟩ := hno (at_ p i) (.inl (at_mem.2 ⟨i, by omega, rfl⟩))
    have a1 := srt_inj hp hj (show i < p.length by omega) e1
    have a2 := srt_inj hp hk (show i < p.length by omega) e2
    subst a1; subst a2
    unfold ln at e3
    rw [List.getElem?_eq_getElem h1, List.getElem?_eq_getElem h2] at e3
    exact e3
  · rintro ⟨rfl, rfl⟩
    refine List.eq_nil_iff_forall_not_mem.2 fun c hc => ?_
    obtain ⟨h1, h2⟩ := (mem_chF x x hp hp c).1 hc
    obtain ⟨i, hi, e⟩ := at_mem.1 (h1.elim id id)
    exact h2 ⟨i, i, hi, hi, e, e, rfl⟩
end Tr
namespace Ob
/-- The place of a digest, or -1. -/
def atFrom (s : List S) (d : Int) (i : Nat) : Int := if i < s.length then if (it s i).dig = d then (i : Int) else atFrom s d (i + 1) else -1
termination_by s.length - i
theorem atFrom_end (s : List S) (d : Int) (i : Nat) (h : s.length ≤ i) : atFrom s d i = -1 := by rw [atFrom, if_neg (by omega)]
theorem atFrom_hit (s : List S) (d : Int) (i : Nat) (h : i < s.length) (hc : (it s i).dig = d) : atFrom s d i = (i : Int) := by rw [atFrom, if_pos h, if_pos hc]
theorem atFrom_next (s : List S) (d : Int) (i : Nat) (h : i < s.length) (hc : (it s i).dig ≠ d) : atFrom s d i = atFrom s d (i + 1) := by rw [atFrom, if_pos h, if_neg hc]
theorem atFrom_no (s : List S) (d : Int) (h : ∀ k, k < s.length → (it s k).dig ≠ d) : ∀ n i, s.length - i ≤ n → atFrom s d i = -1
  | n, i, hn => by
    by_cases hi : i < s.length
    · obtain _ | n := n
      · omega
      · rw [atFrom_next s d i hi (h i hi)]; exact atFrom_no s d h n (i + 1) (by omega)
    · exact atFrom_end s d i (by omega)
theorem atFrom_yes (s : List S) (d : Int) (p : Nat) (hp : p < s.length) (hd : (it s p).dig = d) (h : ∀ k, k < p → (it s k).dig ≠ d) : ∀ n i, p - i ≤ n → i ≤ p → atFrom s d i = (p : Int)
  | n, i, hn, hi => by
    by_cases hip : i = p
    · subst hip; exact atFrom_hit s d i hp hd
    · obtain _ | n := n
      · omega
      · rw [atFrom_next s d i (by omega) (h i (by omega))]; exact atFrom_yes s d p hp hd h n (i + 1) (by omega) (by omega)
/-- In a store whose digests grow. -/
theorem at_sorted {s : List S} (h : Sorted s) (d : Int) : atFrom s d 0 = if fnd s d then ((lb s d : Nat) : Int) else -1 := by
  by_cases hf : fnd s d = true
  · rw [if_pos hf]
    have h1 : lb s d < s.length ∧ (it s (lb s d)).dig = d := by unfold fnd at hf; rw [Bool.and_eq_true] at hf; simpa using hf
    exact atFrom_yes s d _ h1.1 h1.2 (fun k hk => by have := lb_lt h d k hk; omega) _ 0 (Nat.le_refl _) (Nat.zero_le _)
  · rw [if_neg hf]
    refine atFrom_no s d (fun k hk => ?_) _ 0 (Nat.le_refl _)
    intro e
    have hlb : lb s d = k := by
      apply lb_eq s d k (by omega)
      · intro j hj; have := h.mono hj hk; omega
      · intro j hj hjl; have := h.le hj hjl; omega
    apply hf
    unfold fnd
    rw [hlb, decide_eq_true hk, decide_eq_true e]; rfl
end Ob
namespace Go.Proofs.YtjljknocnebnaaaGreatDoor
open Go.RowKit Go.V
set_option linter.unusedVariables false

set_option maxRecDepth 100000 in
set_option maxHeartbeats 4000000 in
theorem at_any (w : World) (A : Option Addr) (k : Nat) (s : List Ob.S) (d : Int) (hv : StV w Free A s) (hl : s.length ≤ 1000000) :
    Calls Tryz.prog 17 #[stV A s.length k, .int .i64 d] w fun e w' => e = .returned (.int .i64 (Ob.atFrom s d 0)) ∧ Below w.heap.size w w' := by
  have HROW := Lib.hid (fun i hi => (hv.keep (Keeps.alloc w Free (.cells #[.slice A s.length k] 24))).row i hi)
  clear hv
  go_enter Tryz.func17, Tryz.ntmps17
  go_wp2_with fail
  go_loop [5] (fun v => ∃ i : Nat, i ≤ s.length ∧ v = .int .i64 i ∧ Hid (Ob.atFrom s d 0 = Ob.atFrom s d i)) (fun v => s.length - (intOf v).toNat)
  case atStart => exact ⟨0, Nat.zero_le _, rfl, Lib.hid rfl⟩
  case round =>
    obtain ⟨i, hi, rfl, H⟩ := hrel
    by_cases hlt : i < s.length
    · have hlt' : (i : Int) < s.length := by omega
      obtain ⟨b, off, Al, kl, Ad, kd, e, hb, _, d0, d1, d2, d3, hx, hob⟩ := HROW.out i hlt
      subst e
      clear d1 d2 d3 hx hob
      by_cases he : (Ob.it s i).dig = d
      · have HR := Lib.hid (H.out.trans (Ob.atFrom_hit s d i hlt he))
        have he' : ((Ob.it s i).dig == d) = true := by simpa using he
        clear he
        generalize Ob.it s i = x at *
        go_wp2_with fail
        go_ret
        exact ⟨by rw [HR.out]; rfl, below_alloc1 _ _⟩
      · have HR := Lib.hid (H.out.trans (Ob.atFrom_next s d i hlt he))
        have he' : ((Ob.it s i).dig == d) = false := by simpa using he
        clear he
        generalize Ob.it s i = x at *
        go_wp2_with fail
        go_round
        case rel => exact ⟨i + 1, by omega, by go_num, HR⟩
        case measure => simp [intOf]; omega
    · obtain rfl : i = s.length := by omega
      have HR := Lib.hid (H.out.trans (Ob.atFrom_end s d _ (Nat.le_refl _)))
      go_wp2_with fail
      go_ret
      exact ⟨by rw [HR.out]; rfl, below_alloc1 _ _⟩
end Go.Proofs.YtjljknocnebnaaaGreatDoor
namespace Go.Proofs.YtjljknocnebnaaaGreatDoor
open Go.RowKit Go.V
set_option linter.unusedVariables false

set_option maxRecDepth 100000 in
set_option maxHeartbeats 8000000 in
theorem objDigest_any (w : World) (o : Ob.O) (Al : Option Addr) (kl : Nat) (Ad : Option Addr) (kd : Nat) (ho : ObA w Free o Al kl Ad kd) (hok : Ob.Ok o) :
    Calls Tryz.prog 32 #[obV o Al kl Ad kd] w fun e w' => e = .returned (.int .i64 ((Ob.dig o : Nat) : Int)) ∧ Below w.heap.size w w' := by
  obtain ⟨i0, hi0, hz0, hz1, hz2⟩ := info_parts info5
  have HL := Lib.hid (fun (w' : World) (hb : Below w.heap.size w w') => (ho.ls.keep (free_below hb)).sv)
  have HD := Lib.hid (fun (w' : World) (hb : Below w.heap.size w w') => (ho.ds.keep (free_below hb)).sv)
  have HALL := Lib.hid hok.all
  have hk1 := hok.lo
  have hk2 := hok.hi
  have hl30 := hok.ln
  have hl30' : (o.links.length : Int) ≤ 30 := by omega
  have hd1000 := hok.dn
  have HE := Lib.hid (bytes_eq o)
  have HBL := Lib.hid (Ob.bytes_length o)
  have HDD := Lib.hid (show Ob.dig o = Dg.ofL (Ob.bytes o) from rfl)
  have HH := hd2_cells hok
  have st0 : BySt w ((w.alloc (.cells #[.int .i64 o.kind, .slice Al o.links.length kl, .slice Ad o.data.length kd] 56)).alloc (.cells #[.int .u8 o.kind, .int .u8 (o.links.length : Int)] 5)) o Al kl Ad kd 0 (some ⟨w.heap.size + 1, 0, none⟩) 2 := by
    refine ⟨?_, (Blk.new _ _ _).alloc _, below_alloc2 _ _ _⟩
    have := World.ownsRow_lit (base := w.heap.size + 1) (size := 1) (e := 5) (w.alloc (.cells #[.int .i64 o.kind, .slice Al o.links.length kl, .slice Ad o.data.length kd] 56)) #[.int .u8 o.kind, .int .u8 (o.links.length : Int)] 2 (by simp) (by simp [maxLen]) rfl
    rw [Ob.lnB_zero, List.append_nil, HH]
    simpa using this
  clear ho hok HH
  obtain ⟨kk, ls, da⟩ := o
  simp only at *
  have hkm : kk % 256 = kk := by omega
  go_enter Tryz.func32, Tryz.ntmps32
  go_wp2_with fail
  go_loopw [3, 4] (fun vv jv wr => ∃ (j : Nat) (A : Option Addr) (c : Nat), j ≤ ls.length ∧ vv = .slice A (2 + 8 * j) c ∧ jv = .int .i64 j ∧ BySt w wr ⟨kk, ls, da⟩ Al kl Ad kd j A c) (fun _ jv _ => ls.length - (intOf jv).toNat)
  case atStart => exact ⟨0, _, 2, Nat.zero_le _, rfl, rfl, st0⟩
  case round =>
    obtain ⟨j, A, c, hj, rfl, rfl, st⟩ := hrel
    obtain ⟨wo, rfl⟩ : ∃ wo : World, wo = wr := ⟨_, rfl⟩
    have hsz := st.bel.size
    have hbl := st.box.lt
    have bx1 := st.box.cell 1
    have bx2 := st.box.cell 2
    simp only [List.getElem?_toArray, List.getElem?_cons_zero, List.getElem?_cons_succ] at bx1 bx2
    by_cases hlt : j < ls.length
    · have hlt' : (j : Int) < ls.length := by omega
      obtain ⟨b, off, e, hb, hc⟩ := (HL.out _ st.bel).int j hlt
      subst e
      obtain ⟨hr0, hr1⟩ := HALL.out j hlt
      obtain ⟨m, hm⟩ := Int.eq_ofNat_of_zero_le hr0
      have hs := Ob.lnB_succ ls j hlt
      rw [hm] at hc
      rw [hm, Int.toNat_natCast] at hs
      have HS := Lib.hid hs
      have hmb : m < 2305843009213693951 := by omega
      clear hm hs hr0 hr1
      go_wp2_with fail
      go_at_call 55
      refine (wide_any wo m hmb).mono ?_
      rintro e w2 ⟨A2, c2, rfl, hc2, hsa2, hb2⟩
      have hbw := st.bel.trans (hb2.mono hsz)
      have hown := st.own.kept (only_of_below hb2 none) (by cases hv : (Value.slice A (2 + 8 * j) c).ownBlock <;> simp)
      have hbox := st.box.below hb2 hbl
      have hz2' := hb2.size
      have hsv2 := hsa2.sv
      simp only [Ob.wide_length]
      rw [Ob.wide_length] at hc2
      clear st hsa2 hb2
      go_wp2_with (first | (at_builtin; refine wpList_appNo _ rfl (.tmp 20) (.tmp 26) 54 rfl (w.heap.size + 1) 5 i0 _ 1 1 Tryz.underlying54 hi0 hz0 hz1 hz2 rfl (by decide) A (2 + 8 * j) c _ rfl hown _ A2 8 c2 _ rfl (by simp) hsv2 (bytesV_one _) ?ha ?hb ?hc ?_))
      case ha => simp [maxLen]; omega
      case hb => omega
      case hc => omega
      intro A' c' w' hown' hg hc' _
      have hbw' := hbw.grown hg hbw.size (fun k hk => by have := (hown.lt k hk).1; omega)
      have hbox' := hbox.grown hg (own_blk_ne hown hbox (by decide))
      have st2 : BySt w w' ⟨kk, ls, da⟩ _ kl Ad kd (j + 1) A' c' := ⟨by rw [show 2 + 8 * (j + 1) = 2 + 8 * j + 8 by omega]; simp only [HS.out, bytesV_app] at hown' ⊢; exact hown', hbox', hbw'⟩
      clear hown' hown hg hsv2 hbw hbox
      go_wp2_with fail
      go_roundw
      case rel => exact ⟨j + 1, A', c', by omega, rfl, by go_num, st2⟩
      case measure => simp [intOf]; omega
    · obtain rfl : j = ls.length := by omega
      have hdv := HD.out _ st.bel
      have hown := st.own
      have hbel := st.bel
      clear st st0
      go_wp2_with (first | (at_builtin; refine wpList_appNo _ rfl (.tmp 28) (.tmp 30) 54 rfl (w.heap.size + 1) 5 i0 _ 1 1 Tryz.underlying54 hi0 hz0 hz1 hz2 rfl (by decide) A (2 + 8 * ls.length) c _ rfl hown _ Ad da.length kd _ rfl (by simp) hdv (bytesV_one _) ?hd ?he ?hf ?_))
      case hd => simp [maxLen]; omega
      case he => omega
      case hf => omega
      intro A' c' w' hown' hg hc' _
      have hbw' := hbel.grown hg hbel.size (fun k hk => by have := (hown.lt k hk).1; omega)
      have hown2 : w'.ownsRow (w.heap.size + 1) 5 1 (.slice A' (2 + 8 * ls.length + da.length) c') (2 + 8 * ls.length + da.length) (bytesV (Ob.bytes ⟨kk, ls, da⟩)) := by
        rw [HE.out]; simp only [bytesV_app, List.append_assoc] at hown' ⊢; exact hown'
      have hbn : (Ob.bytes ⟨kk, ls, da⟩).length = 2 + 8 * ls.length + da.length := HBL.out
      have hsv' := SV.of_own hown2
      have HO := digestOf_any w' A' c' _ hsv' (by omega)
      rw [hbn] at HO
      clear hown hg hown' hown2
      go_wp2_with fail
      go_at_call 56
      refine HO.mono ?_
      rintro e w9 ⟨rfl, n9, rfl⟩
      rw [← HDD.out]
      go_wp2_with fail
      go_ret
      exact ⟨rfl, below_drewN hbw' _⟩
end Go.Proofs.YtjljknocnebnaaaGreatDoor
