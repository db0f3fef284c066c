/-
  Stores as sorted sets: the plain law. No program in sight.
  Put and Merge of stores: the plain laws. No program in sight.
  File trees in stores: writing and reading. No program in sight.
  File trees: walks of 'Second', 'Strings', 'Trees', 'terminated', 'LinesBlob'.
  File trees: walk of 'terminated'.
  File trees: walk of 'Cut'.
  File trees: walk of 'split'.
  Views, eleventh part: append upon a slice whose spare cells are there and are not frozen.
  Views, twelfth part: a string as bytes of a new block.
  File trees: walk of 'LinesBlob'.
-/
import Derived.Test.YtjljknocnebnaaaDoorG06
import Derived.Test.YtjljknocnebnaaaDoorG02
import Derived.Test.YtjljknocnebnaaaDoorG04
import Derived.Lib.AppendStr
import Derived.Lib.SplitLaws
import Derived.Test.YtjljknocnebnaaaDoorG01
import Derived.Deep.Upon
import Derived.Laws.IdiomStrings
namespace Ob
open Go.Proofs.YtjljknocnebnaaaDoor (eqO eqO_iff)

theorem mem_it {s : List S} {x : S} : x ∈ s ↔ ∃ i, i < s.length ∧ it s i = x := by
  constructor
  · intro h
    obtain ⟨i, hi, e⟩ := List.mem_iff_getElem.1 h
    exact ⟨i, hi, by rw [← it_eq s i hi, e]⟩
  · rintro ⟨i, hi, rfl⟩
    rw [← it_eq s i hi]; exact List.getElem_mem hi
theorem it_mem {s : List S} {i : Nat} (hi : i < s.length) : it s i ∈ s := mem_it.2 ⟨i, hi, rfl⟩
theorem sorted_pw {s : List S} : Sorted s ↔ s.Pairwise (fun x y => x.dig < y.dig) := by
  rw [List.pairwise_iff_getElem]
  constructor
  · intro h i j hi hj hij
    rw [it_eq s i hi, it_eq s j hj]; exact h.mono hij hj
  · intro h i hi
    have := h i (i + 1) (by omega) hi (by omega)
    rwa [it_eq s i (by omega), it_eq s (i + 1) hi] at this
theorem pw_ext : ∀ {u v : List S}, u.Pairwise (fun x y => x.dig < y.dig) → v.Pairwise (fun x y => x.dig < y.dig) → (∀ x, x ∈ u ↔ x ∈ v) → u = v
  | [], [], _, _, _ => rfl
  | [], b :: v, _, _, h => by have := (h b).2 (by simp); cases this
  | a :: u, [], _, _, h => by have := (h a).1 (by simp); cases this
  | a :: u, b :: v, hu, hv, h => by
    rw [List.pairwise_cons] at hu hv
    have e : a = b := by
      rcases List.mem_cons.1 ((h a).1 (by simp)) with e | h1
      · exact e
      · rcases List.mem_cons.1 ((h b).2 (by simp)) with e | h2
        · exact e.symm
        · have := hv.1 a h1
          have := hu.1 b h2
          omega
    subst e
    congr 1
    refine pw_ext hu.2 hv.2 (fun x => ?_)
    constructor
    · intro hx
      rcases List.mem_cons.1 ((h x).1 (List.mem_cons_of_mem _ hx)) with e | h1
      · subst e; have := hu.1 x hx; omega
      · exact h1
    · intro hx
      rcases List.mem_cons.1 ((h x).2 (List.mem_cons_of_mem _ hx)) with e | h1
      · subst e; have := hv.1 x hx; omega
      · exact h1
theorem sorted_ext {u v : List S} (hu : Sorted u) (hv : Sorted v) (h : ∀ x, x ∈ u ↔ x ∈ v) : u = v := pw_ext (sorted_pw.1 hu) (sorted_pw.1 hv) h
theorem Sorted.uniq {s : List S} (h : Sorted s) {x y : S} (hx : x ∈ s) (hy : y ∈ s) (e : x.dig = y.dig) : x = y := by
  obtain ⟨i, hi, rfl⟩ := mem_it.1 hx
  obtain ⟨j, hj, rfl⟩ := mem_it.1 hy
  rcases Nat.lt_trichotomy i j with h1 | h1 | h1
  · have := h.mono h1 hj; omega
  · rw [h1]
  · have := h.mono h1 hi; omega
theorem fnd_iff {s : List S} (h : Sorted s) (d : Int) : fnd s d = true ↔ ∃ x ∈ s, x.dig = d := by
  constructor
  · intro hf
    have h1 : lb s d < s.length ∧ (it s (lb s d)).dig = d := by unfold fnd at hf; rw [Bool.and_eq_true] at hf; simpa using hf
    exact ⟨_, it_mem h1.1, h1.2⟩
  · rintro ⟨x, hx, e⟩
    obtain ⟨k, hk, rfl⟩ := mem_it.1 hx
    have hlb : lb s d = k := lb_eq s d k (by omega) (fun j hj => by have := h.mono hj hk; omega) (fun j hj hjl => by have := h.le hj hjl; omega)
    unfold fnd
    rw [hlb, decide_eq_true hk, decide_eq_true e]; rfl
theorem fnd_at {s : List S} {d : Int} (hf : fnd s d = true) : lb s d < s.length ∧ (it s (lb s d)).dig = d := by
  unfold fnd at hf; rw [Bool.and_eq_true] at hf; simpa using hf
theorem addOk_iff {s : List S} (h : Sorted s) (d : Int) (o : O) : addOk s d o = true ↔ ∀ x ∈ s, x.dig = d → x.ob = o := by
  unfold addOk
  by_cases hf : fnd s d = true
  · rw [if_pos hf, eqO_iff]
    obtain ⟨h1, h2⟩ := fnd_at hf
    constructor
    · intro e x hx hd
      have := h.uniq hx (it_mem h1) (by omega)
      rw [this, e]
    · intro hall; exact hall _ (it_mem h1) h2
  · rw [if_neg hf]
    simp only [true_iff]
    intro x hx hd
    exact absurd ((fnd_iff h d).2 ⟨x, hx, hd⟩) hf
theorem addS_spec {s : List S} (h : Sorted s) (d : Int) (o : O) (hok : addOk s d o = true) : Sorted (addS s d o) ∧ ∀ x, x ∈ addS s d o ↔ x ∈ s ∨ x = ⟨d, o⟩ := by
  by_cases hf : fnd s d = true
  · obtain ⟨h1, h2⟩ := fnd_at hf
    have e : addS s d o = s := by unfold addS; rw [if_pos hf]
    rw [e]
    refine ⟨h, fun x => ⟨.inl, ?_⟩⟩
    rintro (hx | rfl)
    · exact hx
    · have := (addOk_iff h d o).1 hok _ (it_mem h1) h2
      have hm := it_mem h1
      generalize it s (lb s d) = y at *
      obtain ⟨yd, yo⟩ := y
      simp only at h2 this
      rw [← h2, ← this]; exact hm
  · have e : addS s d o = s.take (lb s d) ++ [⟨d, o⟩] ++ s.drop (lb s d) := by unfold addS; rw [if_neg hf]
    rw [e]
    have hno : ∀ x ∈ s, x.dig ≠ d := fun x hx hd => hf ((fnd_iff h d).2 ⟨x, hx, hd⟩)
    have hlt : ∀ x ∈ s.take (lb s d), x.dig < d := fun x hx => by
      obtain ⟨k, hk, rfl⟩ := List.mem_iff_getElem.1 hx
      have hk' : k < lb s d ∧ k < s.length := by simp at hk; omega
      have := lb_lt h d k hk'.1
      rw [← it_eq s k hk'.2] at this
      simpa using this
    have hgt : ∀ x ∈ s.drop (lb s d), d < x.dig := fun x hx => by
      obtain ⟨k, hk, rfl⟩ := List.mem_iff_getElem.1 hx
      have hk' : lb s d + k < s.length := by simp at hk; omega
      have h1 := lb_ge h d (lb s d + k) (by omega) hk'
      have h2 := hno _ (it_mem hk')
      rw [← it_eq s _ hk'] at h1 h2
      simp only [List.getElem_drop]
      omega
    have hpw := sorted_pw.1 h
    constructor
    · rw [sorted_pw, List.append_assoc, List.pairwise_append]
      refine ⟨hpw.sublist (List.take_sublist _ _), ?_, ?_⟩
      · rw [List.singleton_append, List.pairwise_cons]
        exact ⟨fun x hx => hgt x hx, hpw.sublist (List.drop_sublist _ _)⟩
      · intro x hx y hy
        have h1 := hlt x hx
        rcases List.mem_cons.1 (by simpa using hy) with rfl | hy
        · exact h1
        · have := hgt y hy; omega
    · intro x
      have hs : x ∈ s ↔ x ∈ s.take (lb s d) ∨ x ∈ s.drop (lb s d) := by
        rw [← List.mem_append, List.take_append_drop]
      simp only [List.mem_append, List.mem_singleton]
      rw [hs]
      constructor
      · rintro ((h | h) | h)
        · exact .inl (.inl h)
        · exact .inr h
        · exact .inl (.inr h)
      · rintro ((h | h) | h)
        · exact .inl (.inl h)
        · exact .inr h
        · exact .inl (.inr h)
/-- u is the sorted union of a and b. -/
structure Un (a b u : List S) : Prop where
  srt : Sorted u
  mem : ∀ x, x ∈ u ↔ x ∈ a ∨ x ∈ b
theorem Un.eq {a b u v : List S} (h : Un a b u) (k : Un a b v) : u = v := sorted_ext h.srt k.srt fun x => (h.mem x).trans (k.mem x).symm
/-- No digest has two objects. -/
def NoC (a b : List S) : Prop := ∀ x ∈ a, ∀ y ∈ b, x.dig = y.dig → x = y
/-- The loop of 'Merge': the objects of b from i on are added to out; the second result is where it fails, or -1. -/
def mgFrom (out b : List S) (i : Nat) : List S × Int :=
  if i < b.length then if addOk out (it b i).dig (it b i).ob = true then mgFrom (addS out (it b i).dig (it b i).ob) b (i + 1) else (out, (i : Int)) else (out, -1)
termination_by b.length - i
theorem mgFrom_end (out b : List S) (i : Nat) (h : b.length ≤ i) : mgFrom out b i = (out, -1) := by rw [mgFrom, if_neg (by omega)]
theorem mgFrom_next (out b : List S) (i : Nat) (h : i < b.length) (hc : addOk out (it b i).dig (it b i).ob = true) : mgFrom out b i = mgFrom (addS out (it b i).dig (it b i).ob) b (i + 1) := by rw [mgFrom, if_pos h, if_pos hc]
theorem mgFrom_bad (out b : List S) (i : Nat) (h : i < b.length) (hc : addOk out (it b i).dig (it b i).ob ≠ true) : mgFrom out b i = (out, (i : Int)) := by rw [mgFrom, if_pos h, if_neg hc]
/-- What 'Merge' answers. -/
def mergeF (a b : List S) : List S × (Int × Int) :=
  if (stF a).1 ≠ 0 then ([], stF a) else if (stF b).1 ≠ 0 then ([], stF b) else if 0 ≤ (mgFrom a b 0).2 then ([], (19, (mgFrom a b 0).2))
  else if 40 < (mgFrom a b 0).1.length then ([], (14, -1)) else ((mgFrom a b 0).1, (0, 0))
theorem mg_ok {b : List S} : ∀ (n i : Nat) (out : List S), b.length - i ≤ n → Sorted b → Sorted out → (∀ k, i ≤ k → k < b.length → ∀ x ∈ out, x.dig = (it b k).dig → x.ob = (it b k).ob) →
    (mgFrom out b i).2 = -1 ∧ Sorted (mgFrom out b i).1 ∧ ∀ x, x ∈ (mgFrom out b i).1 ↔ x ∈ out ∨ ∃ k, i ≤ k ∧ k < b.length ∧ it b k = x
  | n, i, out, hn, hb, ho, hc => by
    by_cases hi : i < b.length
    · obtain _ | n := n
      · omega
      · have hok := (addOk_iff ho (it b i).dig (it b i).ob).2 (fun x hx hd => hc i (Nat.le_refl _) hi x hx hd)
        obtain ⟨h1, h2⟩ := addS_spec ho (it b i).dig (it b i).ob hok
        rw [mgFrom_next out b i hi hok]
        obtain ⟨k1, k2, k3⟩ := mg_ok n (i + 1) _ (by omega) hb h1 (fun k hk hkl x hx hd => by
          rcases (h2 x).1 hx with hx | rfl
          · exact hc k (by omega) hkl x hx hd
          · have := hb.mono (i := i) (j := k) (by omega) hkl
            simp only at hd; omega)
        refine ⟨k1, k2, fun x => (k3 x).trans ?_⟩
        rw [h2]
        constructor
        · rintro ((h | rfl) | ⟨k, hk, hkl, rfl⟩)
          · exact .inl h
          · exact .inr ⟨i, Nat.le_refl _, hi, rfl⟩
          · exact .inr ⟨k, by omega, hkl, rfl⟩
        · rintro (h | ⟨k, hk, hkl, rfl⟩)
          · exact .inl (.inl h)
          · by_cases e : k = i
            · subst e; exact .inl (.inr rfl)
            · exact .inr ⟨k, by omega, hkl, rfl⟩
    · rw [mgFrom_end out b i (by omega)]
      refine ⟨rfl, ho, fun x => ⟨.inl, ?_⟩⟩
      rintro (h | ⟨k, hk, hkl, rfl⟩)
      · exact h
      · omega
theorem mg_bad {b : List S} : ∀ (n i : Nat) (out : List S) (p : Nat), b.length - i ≤ n → Sorted b → Sorted out → i ≤ p → p < b.length → (∀ k, i ≤ k → k < p → ∀ x ∈ out, x.dig = (it b k).dig → x.ob = (it b k).ob) →
    (∃ x ∈ out, x.dig = (it b p).dig ∧ x.ob ≠ (it b p).ob) → (mgFrom out b i).2 = (p : Int)
  | n, i, out, p, hn, hb, ho, hip, hpl, hc, hbad => by
    obtain _ | n := n
    · omega
    · by_cases e : i = p
      · subst e
        have hok : addOk out (it b i).dig (it b i).ob ≠ true := fun h => by
          obtain ⟨x, hx, hd, hne⟩ := hbad
          exact hne ((addOk_iff ho _ _).1 h x hx hd)
        rw [mgFrom_bad out b i hpl hok]
      · have hok := (addOk_iff ho (it b i).dig (it b i).ob).2 (fun x hx hd => hc i (Nat.le_refl _) (by omega) x hx hd)
        obtain ⟨h1, h2⟩ := addS_spec ho (it b i).dig (it b i).ob hok
        rw [mgFrom_next out b i (by omega) hok]
        refine mg_bad n (i + 1) _ p (by omega) hb h1 (by omega) hpl (fun k hk hkl x hx hd => ?_) ?_
        · rcases (h2 x).1 hx with hx | rfl
          · exact hc k (by omega) hkl x hx hd
          · have := hb.mono (i := i) (j := k) (by omega) (by omega)
            simp only at hd; omega
        · obtain ⟨x, hx, hd, hne⟩ := hbad
          exact ⟨x, (h2 x).2 (.inl hx), hd, hne⟩
/-- Without a conflict 'Merge' answers with the union. -/
theorem mg_un {a b : List S} (ha : Sorted a) (hb : Sorted b) (h : NoC a b) : (mgFrom a b 0).2 = -1 ∧ Un a b (mgFrom a b 0).1 := by
  obtain ⟨h1, h2, h3⟩ := mg_ok (b := b) _ 0 a (Nat.le_refl _) hb ha (fun k _ hk x hx hd => by rw [h x hx _ (it_mem hk) hd])
  refine ⟨h1, h2, fun x => (h3 x).trans ?_⟩
  constructor
  · rintro (h | ⟨k, _, hk, rfl⟩)
    · exact .inl h
    · exact .inr (it_mem hk)
  · rintro (h | h)
    · exact .inl h
    · obtain ⟨k, hk, rfl⟩ := mem_it.1 h
      exact .inr ⟨k, Nat.zero_le _, hk, rfl⟩
/-- .. and it fails only with one. -/
theorem mg_noc {a b : List S} (ha : Sorted a) (hb : Sorted b) (h : ¬ 0 ≤ (mgFrom a b 0).2) : NoC a b := by
  have key : ∀ n p, p ≤ n → p < b.length → ∀ x ∈ a, x.dig = (it b p).dig → x.ob = (it b p).ob := by
    intro n
    induction n with
    | zero =>
      intro p hp hpl x hx hd
      apply Classical.byContradiction
      intro hne
      have : (mgFrom a b 0).2 = (p : Int) := mg_bad _ 0 a p (Nat.le_refl _) hb ha (Nat.zero_le _) hpl (fun k _ hk => by omega) ⟨x, hx, hd, hne⟩
      omega
    | succ n ih =>
      intro p hp hpl x hx hd
      apply Classical.byContradiction
      intro hne
      have : (mgFrom a b 0).2 = (p : Int) := mg_bad _ 0 a p (Nat.le_refl _) hb ha (Nat.zero_le _) hpl (fun k _ hk y hy hyd => ih k (by omega) (by omega) y hy hyd) ⟨x, hx, hd, hne⟩
      omega
  intro x hx y hy hd
  obtain ⟨p, hp, rfl⟩ := mem_it.1 hy
  have := key p p (Nat.le_refl _) hp x hx hd
  generalize it b p = y at *
  obtain ⟨d1, o1⟩ := x
  obtain ⟨d2, o2⟩ := y
  simp only at hd this
  rw [hd, this]
end Ob
namespace Ob
open Go.Proofs.YtjljknocnebnaaaDoor (eqO eqO_iff)

/-- A stored object that is right. -/
def Good (x : S) : Prop := Ok x.ob ∧ x.dig = ((dig x.ob : Nat) : Int)
theorem stOk_iff {s : List S} : StOk s ↔ s.length ≤ 40 ∧ Sorted s ∧ ∀ x ∈ s, Good x := by
  constructor
  · intro h
    refine ⟨h.len, h.lt, fun x hx => ?_⟩
    obtain ⟨i, hi, rfl⟩ := mem_it.1 hx
    exact ⟨h.ok i hi, h.eq i hi⟩
  · rintro ⟨h1, h2, h3⟩
    exact ⟨h1, fun i hi => (h3 _ (it_mem hi)).1, fun i hi => (h3 _ (it_mem hi)).2, h2⟩
theorem sorted_le : ∀ {u v : List S}, u.Pairwise (fun x y => x.dig < y.dig) → v.Pairwise (fun x y => x.dig < y.dig) → (∀ x ∈ u, x ∈ v) → u.length ≤ v.length
  | [], _, _, _, _ => Nat.zero_le _
  | a :: u, [], _, _, h => by have := h a (by simp); cases this
  | a :: u, b :: v, hu, hv, h => by
    have hu' := hu
    rw [List.pairwise_cons] at hu hv
    by_cases e : a = b
    · subst e
      have := sorted_le hu.2 hv.2 (fun x hx => by
        rcases List.mem_cons.1 (h x (List.mem_cons_of_mem _ hx)) with e | h1
        · subst e; have := hu.1 x hx; omega
        · exact h1)
      simp only [List.length_cons]; omega
    · have hab : b.dig < a.dig := by
        rcases List.mem_cons.1 (h a (by simp)) with h1 | h1
        · exact absurd h1 e
        · exact hv.1 a h1
      have := sorted_le hu' hv.2 (fun x hx => by
        rcases List.mem_cons.1 (h x hx) with e1 | h1
        · subst e1
          rcases List.mem_cons.1 hx with e2 | h2
          · exact absurd e2.symm e
          · have := hu.1 x h2; omega
        · exact h1)
      simp only [List.length_cons] at this ⊢; omega
theorem Sorted.len_le {u v : List S} (hu : Sorted u) (hv : Sorted v) (h : ∀ x ∈ u, x ∈ v) : u.length ≤ v.length := sorted_le (sorted_pw.1 hu) (sorted_pw.1 hv) h

/-- When 'Put' takes the object. -/
structure PutT (s : List S) (o : O) (u : List S) : Prop where
  ok : StOk s
  ob : Ok o
  no : ∀ x ∈ s, x.dig = ((dig o : Nat) : Int) → x.ob = o
  un : Un s [⟨dig o, o⟩] u
  len : u.length ≤ 40
theorem PutT.st {s u : List S} {o : O} (h : PutT s o u) : StOk u := by
  obtain ⟨_, h2, h3⟩ := stOk_iff.1 h.ok
  refine stOk_iff.2 ⟨h.len, h.un.srt, fun x hx => ?_⟩
  rcases (h.un.mem x).1 hx with h1 | h1
  · exact h3 x h1
  · rw [List.mem_singleton] at h1; subst h1; exact ⟨h.ob, rfl⟩
theorem un_addS {s : List S} {o : O} (hs : Sorted s) (hok : addOk s (dig o) o = true) : Un s [⟨dig o, o⟩] (addS s (dig o) o) := by
  obtain ⟨h1, h2⟩ := addS_spec hs (dig o) o hok
  exact ⟨h1, fun x => by rw [h2, List.mem_singleton]⟩
/-- 'Put' fails and answers nothing, or it takes the object. -/
theorem putF_cases (s : List S) (o : O) : ((putF s o).2.2.1 ≠ 0 ∧ (putF s o).1 = []) ∨ ∃ u, putF s o = (u, ((dig o : Nat) : Int), (0, 0)) ∧ PutT s o u := by
  unfold putF
  by_cases h1 : (stF s).1 ≠ 0
  · rw [if_pos h1]; exact .inl ⟨h1, rfl⟩
  · rw [if_neg h1]
    obtain ⟨_, hs⟩ := stF_ok (s := s) (by omega)
    by_cases h2 : (obF o).1 ≠ 0
    · rw [if_pos h2]; exact .inl ⟨h2, rfl⟩
    · rw [if_neg h2]
      obtain ⟨_, ho⟩ := obF_ok (o := o) (by omega)
      by_cases h3 : addOk s (dig o) o = false
      · rw [if_pos h3]; exact .inl ⟨by decide, rfl⟩
      · rw [if_neg h3]
        have hok : addOk s (dig o) o = true := by simpa using h3
        by_cases h4 : 40 < (addS s (dig o) o).length
        · rw [if_pos h4]; exact .inl ⟨by decide, rfl⟩
        · rw [if_neg h4]
          exact .inr ⟨_, rfl, hs, ho, (addOk_iff hs.lt _ _).1 hok, un_addS hs.lt hok, by omega⟩
theorem PutT.eq {s u : List S} {o : O} (h : PutT s o u) : putF s o = (u, ((dig o : Nat) : Int), (0, 0)) := by
  have hok := (addOk_iff h.ok.lt (dig o) o).2 h.no
  have he := (un_addS h.ok.lt hok).eq h.un
  unfold putF
  rw [h.ok.f, if_neg (by simp), h.ob.f, if_neg (by simp), hok, if_neg (by simp), he, if_neg (by have := h.len; omega)]
open Classical in
theorem Un.len {s u : List S} {x : S} (h : Un s [x] u) (hs : Sorted s) (hx : ∀ y ∈ s, y.dig = x.dig → y = x) : u.length = if x ∈ s then s.length else s.length + 1 := by
  have hok : addOk s x.dig x.ob = true := (addOk_iff hs _ _).2 fun y hy hd => by rw [hx y hy hd]
  have he : addS s x.dig x.ob = u := by
    obtain ⟨h1, h2⟩ := addS_spec hs _ _ hok
    exact sorted_ext h1 h.srt fun z => by rw [h2, h.mem, List.mem_singleton]
  rw [← he]
  unfold addS
  by_cases hf : fnd s x.dig = true
  · obtain ⟨y, hy, e⟩ := (fnd_iff hs _).1 hf
    have := hx y hy e; subst this
    rw [if_pos hf, if_pos hy]
  · have hn : x ∉ s := fun hm => hf ((fnd_iff hs _).2 ⟨x, hm, rfl⟩)
    rw [if_neg hf, if_neg hn]
    have := lb_le s x.dig
    simp; omega
/-- The other order. -/
theorem put_swap {s a b : List S} {o p : O} (h1 : PutT s o a) (h2 : PutT a p b) : ∃ c, PutT s p c ∧ PutT c o b := by
  have hno : ∀ x ∈ s, x.dig = ((dig p : Nat) : Int) → x.ob = p := fun x hx hd => h2.no x ((h1.un.mem x).2 (.inl hx)) hd
  have hpo : ((dig o : Nat) : Int) = ((dig p : Nat) : Int) → o = p := fun e => h2.no ⟨dig o, o⟩ ((h1.un.mem _).2 (.inr (by simp))) e
  have hu := un_addS h1.ok.lt ((addOk_iff h1.ok.lt _ _).2 hno)
  have k0 : ∀ (q : O), (∀ x ∈ s, x.dig = ((dig q : Nat) : Int) → x.ob = q) → ∀ y ∈ s, y.dig = (⟨dig q, q⟩ : S).dig → y = ⟨dig q, q⟩ := fun q hq y hy hd => by
    have := hq y hy hd
    obtain ⟨yd, yo⟩ := y
    simp only at hd this
    rw [hd, this]
  have l1 := h1.un.len h1.ok.lt (k0 o h1.no)
  have l2 := hu.len h1.ok.lt (k0 p hno)
  have la := h1.len
  have lb := h2.len
  have hb : ∀ x, x ∈ b ↔ (x ∈ s ∨ x ∈ [(⟨dig o, o⟩ : S)]) ∨ x ∈ [(⟨dig p, p⟩ : S)] := fun x => by rw [h2.un.mem, h1.un.mem]
  have hlen : (addS s (dig p) p).length ≤ 40 := by
    refine Nat.le_trans (hu.srt.len_le h2.un.srt fun x hx => ?_) lb
    rw [hb]
    rcases (hu.mem x).1 hx with h | h
    · exact .inl (.inl h)
    · exact .inr h
  refine ⟨addS s (dig p) p, ⟨h1.ok, h2.ob, hno, hu, hlen⟩, ?_⟩
  have hst : StOk (addS s (dig p) p) := (PutT.mk h1.ok h2.ob hno hu hlen).st
  refine ⟨hst, h1.ob, fun x hx hd => ?_, ⟨h2.un.srt, fun x => ?_⟩, lb⟩
  · rcases (hu.mem x).1 hx with h | h
    · exact h1.no x h hd
    · rw [List.mem_singleton] at h; subst h
      exact (hpo hd.symm).symm
  · rw [hb, hu.mem]
    constructor
    · rintro ((h | h) | h)
      · exact .inl (.inl h)
      · exact .inr h
      · exact .inl (.inr h)
    · rintro ((h | h) | h)
      · exact .inl (.inl h)
      · exact .inr h
      · exact .inl (.inr h)
/-- When 'Merge' answers with the union. -/
structure MgT (a b u : List S) : Prop where
  oka : StOk a
  okb : StOk b
  no : NoC a b
  un : Un a b u
  len : u.length ≤ 40
theorem MgT.st {a b u : List S} (h : MgT a b u) : StOk u := by
  refine stOk_iff.2 ⟨h.len, h.un.srt, fun x hx => ?_⟩
  rcases (h.un.mem x).1 hx with h1 | h1
  · exact (stOk_iff.1 h.oka).2.2 x h1
  · exact (stOk_iff.1 h.okb).2.2 x h1
theorem mergeF_cases (a b : List S) : ((mergeF a b).2.1 ≠ 0 ∧ (mergeF a b).1 = []) ∨ ∃ u, mergeF a b = (u, (0, 0)) ∧ MgT a b u := by
  unfold mergeF
  by_cases h1 : (stF a).1 ≠ 0
  · rw [if_pos h1]; exact .inl ⟨h1, rfl⟩
  · rw [if_neg h1]
    obtain ⟨_, ha⟩ := stF_ok (s := a) (by omega)
    by_cases h2 : (stF b).1 ≠ 0
    · rw [if_pos h2]; exact .inl ⟨h2, rfl⟩
    · rw [if_neg h2]
      obtain ⟨_, hb⟩ := stF_ok (s := b) (by omega)
      by_cases h3 : 0 ≤ (mgFrom a b 0).2
      · rw [if_pos h3]; exact .inl ⟨by simp, rfl⟩
      · rw [if_neg h3]
        by_cases h4 : 40 < (mgFrom a b 0).1.length
        · rw [if_pos h4]; exact .inl ⟨by decide, rfl⟩
        · rw [if_neg h4]
          have hn := mg_noc ha.lt hb.lt h3
          exact .inr ⟨_, rfl, ha, hb, hn, (mg_un ha.lt hb.lt hn).2, by omega⟩
theorem MgT.eq {a b u : List S} (h : MgT a b u) : mergeF a b = (u, (0, 0)) := by
  obtain ⟨h1, h2⟩ := mg_un h.oka.lt h.okb.lt h.no
  have he := h2.eq h.un
  unfold mergeF
  rw [h.oka.f, if_neg (by simp), h.okb.f, if_neg (by simp), h1, if_neg (by decide), he, if_neg (by have := h.len; omega)]
theorem noc_self {a : List S} (h : Sorted a) : NoC a a := fun _ hx _ hy e => h.uniq hx hy e
theorem MgT.self {a : List S} (h : StOk a) : MgT a a a := ⟨h, h, noc_self h.lt, ⟨h.lt, fun x => by simp⟩, h.len⟩
theorem MgT.comm {a b u : List S} (h : MgT a b u) : MgT b a u := ⟨h.okb, h.oka, fun x hx y hy e => (h.no y hy x hx e.symm).symm, ⟨h.un.srt, fun x => by rw [h.un.mem, or_comm]⟩, h.len⟩
theorem MgT.assoc {a b c u v : List S} (h1 : MgT a b u) (h2 : MgT u c v) : ∃ z, MgT b c z ∧ MgT a z v := by
  have hn : NoC b c := fun x hx y hy e => h2.no x ((h1.un.mem x).2 (.inr hx)) y hy e
  obtain ⟨_, hu⟩ := mg_un h1.okb.lt h2.okb.lt hn
  have hv : ∀ x, x ∈ v ↔ (x ∈ a ∨ x ∈ b) ∨ x ∈ c := fun x => by rw [h2.un.mem, h1.un.mem]
  have hl : (mgFrom b c 0).1.length ≤ 40 := by
    refine Nat.le_trans (hu.srt.len_le h2.un.srt fun x hx => ?_) h2.len
    rw [hv]
    rcases (hu.mem x).1 hx with h | h
    · exact .inl (.inr h)
    · exact .inr h
  have hz : MgT b c (mgFrom b c 0).1 := ⟨h1.okb, h2.okb, hn, hu, hl⟩
  refine ⟨_, hz, h1.oka, hz.st, fun x hx y hy e => ?_, ⟨h2.un.srt, fun x => ?_⟩, h2.len⟩
  · rcases (hu.mem y).1 hy with h | h
    · exact h1.no x hx y h e
    · exact h2.no x ((h1.un.mem x).2 (.inl hx)) y h e
  · rw [hv, hu.mem, or_assoc]
end Ob
namespace Tr
open Ob (O S StOk Sorted fnd lb dig stF putF PutT Un)
/-- The object of a text. -/
def blobO (l : List Nm) : O := ⟨1, [], joined l⟩
def links (t : List F) : List Int := t.map fun f => ((dig (blobO f.lines) : Nat) : Int)
/-- The object of a tree. -/
def treeO (t : List F) : O := ⟨2, links t, joined (t.map F.path)⟩
def objs (t : List F) : List O := t.map (fun f => blobO f.lines) ++ [treeO t]
/-- All objects are put, one behind the other. -/
def putAll (s : List S) : List O → List S × Int
  | [] => (s, 0)
  | o :: l => if (putF s o).2.2.1 ≠ 0 then ([], (putF s o).2.2.1) else putAll (putF s o).1 l
def wrF (s : List S) (t : List F) : (List S × Int) × (Int × Int) :=
  if (stF s).1 ≠ 0 then (([], 0), stF s) else if (vlF t).1 ≠ 0 then (([], 0), ((vlF t).1, -1)) else if (putAll s (objs t)).2 ≠ 0 then (([], 0), ((putAll s (objs t)).2, -2))
  else (((putAll s (objs t)).1, ((dig (treeO t) : Nat) : Int)), (0, 0))
/-- All of these are in a store. -/
def Has (x : List S) (os : List O) : Prop := ∀ o ∈ os, (⟨dig o, o⟩ : S) ∈ x ∧ Ob.Ok o
theorem putAll_ok : ∀ (os : List O) (s : List S), StOk s → (putAll s os).2 = 0 → ∃ x, putAll s os = (x, 0) ∧ StOk x ∧ (∀ y ∈ s, y ∈ x) ∧ Has x os
  | [], s, hs, _ => ⟨s, rfl, hs, fun _ h => h, fun _ h => by cases h⟩
  | o :: l, s, hs, h => by
    rw [putAll] at h ⊢
    rcases Ob.putF_cases s o with ⟨h1, _⟩ | ⟨u, he, hp⟩
    · rw [if_pos h1] at h; exact absurd h h1
    · rw [he] at h ⊢
      rw [if_neg (fun h => h rfl)] at h ⊢
      obtain ⟨x, hx, hxs, hm, hh⟩ := putAll_ok l u hp.st h
      refine ⟨x, hx, hxs, fun y hy => hm y ((hp.un.mem y).2 (.inl hy)), fun q hq => ?_⟩
      rcases List.mem_cons.1 hq with rfl | hq
      · exact ⟨hm _ ((hp.un.mem _).2 (.inr (by simp))), hp.ob⟩
      · exact hh q hq
theorem put_self {x : List S} (hx : StOk x) {o : O} (h : (⟨dig o, o⟩ : S) ∈ x) (ho : Ob.Ok o) : PutT x o x := by
  have hs : Sorted x := hx.lt
  refine ⟨hx, ho, fun y hy hd => ?_, ⟨hs, fun y => ?_⟩, hx.len⟩
  · have := hs.uniq hy h hd
    rw [this]
  · rw [List.mem_singleton]
    exact ⟨.inl, fun h' => h'.elim id fun e => e ▸ h⟩
theorem putAll_again : ∀ (os : List O) {x : List S}, StOk x → Has x os → putAll x os = (x, 0)
  | [], _, _, _ => rfl
  | o :: l, x, hx, h => by
    have h1 := h o (by simp)
    rw [putAll, (put_self hx h1.1 h1.2).eq, if_neg (fun h => h rfl)]
    exact putAll_again l hx fun q hq => h q (List.mem_cons_of_mem _ hq)
/-- 'Write' fails and answers nothing, or it has put all. -/
theorem wrF_cases (s : List S) (t : List F) : ((wrF s t).2.1 ≠ 0 ∧ (wrF s t).1 = ([], 0)) ∨ ∃ x, wrF s t = ((x, ((dig (treeO t) : Nat) : Int)), (0, 0)) ∧ StOk s ∧ VOk t ∧ StOk x ∧ (∀ y ∈ s, y ∈ x) ∧ Has x (objs t) ∧ putAll s (objs t) = (x, 0) := by
  unfold wrF
  by_cases h1 : (stF s).1 ≠ 0
  · rw [if_pos h1]; exact .inl ⟨h1, rfl⟩
  · rw [if_neg h1]
    obtain ⟨_, hs⟩ := Ob.stF_ok (s := s) (by omega)
    by_cases h2 : (vlF t).1 ≠ 0
    · rw [if_pos h2]; exact .inl ⟨h2, rfl⟩
    · rw [if_neg h2]
      obtain ⟨_, ht⟩ := vlF_ok (t := t) (by omega)
      by_cases h3 : (putAll s (objs t)).2 ≠ 0
      · rw [if_pos h3]; exact .inl ⟨h3, rfl⟩
      · rw [if_neg h3]
        obtain ⟨x, hx, hxs, hm, hh⟩ := putAll_ok (objs t) s hs (by omega)
        exact .inr ⟨x, by rw [hx], hs, ht, hxs, hm, hh, hx⟩
/-- Writing again. -/
theorem wr_again {x : List S} {t : List F} (hx : StOk x) (ht : VOk t) (hh : Has x (objs t)) : wrF x t = ((x, ((dig (treeO t) : Nat) : Int)), (0, 0)) := by
  unfold wrF
  rw [hx.f, if_neg (by decide), ht.f, if_neg (by decide), putAll_again _ hx hh, if_neg (fun h => h rfl)]
/-! ### reading -/
def gtO (s : List S) (d : Int) : Option O := if fnd s d then some (Ob.it s (lb s d)).ob else none
theorem gtO_mem {x : List S} (hx : StOk x) {o : O} (h : (⟨dig o, o⟩ : S) ∈ x) : gtO x ((dig o : Nat) : Int) = some o := by
  have hf : fnd x ((dig o : Nat) : Int) = true := (Ob.fnd_iff hx.lt _).2 ⟨_, h, rfl⟩
  obtain ⟨h1, h2⟩ := Ob.fnd_at hf
  unfold gtO
  rw [if_pos hf, (show Sorted x from hx.lt).uniq (Ob.it_mem h1) h h2]
/-- The paths and links of a tree object. -/
def prF (o : O) : (List Nm × List Int) × Int :=
  if o.kind ≠ 2 then (([], []), 8) else if (cut o.data).2 ≠ [] ∨ (cut o.data).1.length ≠ o.links.length ∨ (vlF ((cut o.data).1.map fun p => (⟨p, []⟩ : F))).1 ≠ 0 then (([], []), 5) else (((cut o.data).1, o.links), 0)
def ptF (s : List S) (d ix : Int) : (List Nm × List Int) × (Int × Int) :=
  if (stF s).1 ≠ 0 then (([], []), stF s) else match gtO s d with
    | none => (([], []), (6, ix))
    | some o => if (prF o).2 ≠ 0 then (([], []), ((prF o).2, ix)) else ((prF o).1, (0, 0))
/-- The lines of a blob. -/
def coF (o : O) (p : Nm) : List Nm × Int := if o.kind ≠ 1 then ([], 8) else if (cut o.data).2 ≠ [] ∨ (vlF [(⟨p, (cut o.data).1⟩ : F)]).1 ≠ 0 then ([], 5) else ((cut o.data).1, 0)
def rdFrom (s : List S) (ps : List Nm) (ls : List Int) (i : Nat) (out : List F) : List F × (Int × Int) :=
  if i < ps.length then match gtO s (ls[i]?.getD 0) with
    | none => ([], (6, (i : Int)))
    | some o => if (coF o (ps[i]?.getD [])).2 ≠ 0 then ([], ((coF o (ps[i]?.getD [])).2, (i : Int))) else rdFrom s ps ls (i + 1) (out ++ [⟨ps[i]?.getD [], (coF o (ps[i]?.getD [])).1⟩])
  else (out, (0, 0))
termination_by ps.length - i
def rdF (s : List S) (d : Int) : List F × (Int × Int) := if (ptF s d (-1)).2.1 ≠ 0 then ([], (ptF s d (-1)).2) else rdFrom s (ptF s d (-1)).1.1 (ptF s d (-1)).1.2 0 []
theorem prF_tree {t : List F} (ht : VOk t) : prF (treeO t) = ((t.map F.path, links t), 0) := by
  have hc : cut (joined (t.map F.path)) = (t.map F.path, []) := cut_joined _ fun p hp => by
    obtain ⟨f, hf, rfl⟩ := List.mem_map.1 hp
    obtain ⟨i, hi, rfl⟩ := List.mem_iff_getElem.1 hf
    rw [it_eq t i hi]
    exact pathOk_nl (ht.path i hi)
  unfold prF
  have hd : (treeO t).data = joined (t.map F.path) := rfl
  have hl : (treeO t).links = links t := rfl
  have hk : (treeO t).kind = 2 := rfl
  have hb : (t.map F.path).map (fun p => (⟨p, []⟩ : F)) = bare t := by rw [List.map_map]; rfl
  rw [hd, hl, hk, hc, if_neg (by decide)]
  simp only
  rw [hb, ht.bare.f, if_neg (by simp [links])]
theorem ptF_tree {x : List S} {t : List F} (hx : StOk x) (ht : VOk t) (hh : Has x (objs t)) (ix : Int) : ptF x ((dig (treeO t) : Nat) : Int) ix = ((t.map F.path, links t), (0, 0)) := by
  unfold ptF
  rw [hx.f, if_neg (by decide), gtO_mem hx (hh (treeO t) (by simp [objs])).1]
  simp only
  rw [prF_tree ht, if_neg (fun h => h rfl)]
theorem coF_blob {f : F} (hp : pathOk f.path = true) (hl : LnOk f.lines) : coF (blobO f.lines) f.path = (f.lines, 0) := by
  have hc : cut (joined f.lines) = (f.lines, []) := cut_joined _ fun s hs => (hl.all s hs).2
  unfold coF
  have hd : (blobO f.lines).data = joined f.lines := rfl
  have hk : (blobO f.lines).kind = 1 := rfl
  rw [hd, hk, hc, if_neg (by decide)]
  simp only
  rw [(VOk.one hp hl).f, if_neg (by simp)]
theorem rdFrom_end (s : List S) (ps : List Nm) (ls : List Int) (i : Nat) (out : List F) (h : ps.length ≤ i) : rdFrom s ps ls i out = (out, (0, 0)) := by rw [rdFrom, if_neg (by omega)]
theorem rd_tree {x : List S} {t : List F} (hx : StOk x) (ht : VOk t) (hh : Has x (objs t)) : ∀ n i, t.length - i ≤ n → i ≤ t.length → rdFrom x (t.map F.path) (links t) i (t.take i) = (t, (0, 0))
  | n, i, hn, hi => by
    by_cases hlt : i < t.length
    · obtain _ | n := n
      · omega
      · have h1 : (links t)[i]?.getD 0 = ((dig (blobO (it t i).lines) : Nat) : Int) := by
          unfold links; rw [List.getElem?_map, List.getElem?_eq_getElem hlt]; simp [it_eq t i hlt]
        have h2 : (t.map F.path)[i]?.getD [] = (it t i).path := by rw [List.getElem?_map, List.getElem?_eq_getElem hlt]; simp [it_eq t i hlt]
        have hm : blobO (it t i).lines ∈ objs t := by
          unfold objs; rw [List.mem_append]; left; exact List.mem_map.2 ⟨it t i, by rw [← it_eq t i hlt]; exact List.getElem_mem hlt, rfl⟩
        rw [rdFrom, if_pos (by simpa using hlt), h1, h2, gtO_mem hx (hh _ hm).1]
        simp only
        rw [coF_blob (ht.path i hlt) (ht.lines i hlt), if_neg (fun h => h rfl)]
        have := rd_tree hx ht hh n (i + 1) (by omega) (by omega)
        rw [List.take_succ_eq_append_getElem hlt, it_eq t i hlt] at this
        exact this
    · obtain rfl : i = t.length := by omega
      rw [rdFrom_end _ _ _ _ _ (by simp), List.take_length]
/-- A stored tree is read back. -/
theorem read_back {x : List S} {t : List F} (hx : StOk x) (ht : VOk t) (hh : Has x (objs t)) : rdF x ((dig (treeO t) : Nat) : Int) = (t, (0, 0)) := by
  unfold rdF
  rw [ptF_tree hx ht hh, if_neg (fun h => h rfl)]
  simpa using rd_tree hx ht hh _ 0 (Nat.le_refl _) (Nat.zero_le _)
end Tr
namespace Go.Proofs.YtjljknocnebnaaaDoor
open Go.RowKit Go.V Go.Shelf
set_option linter.unusedVariables false

set_option maxHeartbeats 4000000 in
theorem tsecond_any (w : World) (hm : Mx w) (A : Option Addr) (k : Nat) (t : List Tr.F) (i : Int) (hv : VfV w Free A t) (hl : t.length ≤ 9223372036854775807) (hk : t.length ≤ k) :
    Calls Tryd.prog 20 #[.agg #[.slice A t.length k], .int .i64 i] w (FaultPost w (secF (Tr.vlF t) i)) := by
  have HC := Lib.hid (fun (w1 : World) (hb : Below w.heap.size w w1) => tvalidate_any w1 (hm.below hb) A k t (hv.keep (free_below hb)) hl hk)
  have HZ := Lib.hid (fun (h : (Tr.vlF t).1 = 0) => (Tr.vlF_ok h).1)
  have HS := Lib.hid (secF.eq_1 (Tr.vlF t) i)
  generalize hr : secF (Tr.vlF t) i = r at *
  clear hr hv hm
  have st0 : TvSt w ((w.alloc (.cells #[.slice A t.length k] 27)).alloc (.cells #[.int .i64 0, .int .i64 0] 30)) A t.length k := ⟨(Blk.new _ _ _).alloc _, blk_new1 _ _ _ _, below_alloc2 _ _ _⟩
  go_enter Tryd.func20, Tryd.ntmps20
  go_wp2_with fail
  go_at_call 24
  with_reducible refine (HC.out _ st0.bel).mono ?_
  rintro e w1 ⟨rfl, hb1⟩
  have st := st0.below hb1
  clear HC st0 hb1
  obtain ⟨p0, p1, p2, p3, p4, l0, l1⟩ := st.facts
  by_cases hbad : (Tr.vlF t).1 ≠ 0
  · have H := Lib.hid (HS.out.trans (if_pos hbad))
    have hx1 : ((Tr.vlF t).1 == 0) = false := by simpa using hbad
    have hx2 : ((Tr.vlF t).1 != 0) = true := by simpa using hbad
    clear HS HZ hbad
    generalize Tr.vlF t = q at *
    obtain ⟨cd, ix⟩ := q
    simp only at hx1 hx2
    go_wp2_with fail
    obtain ⟨k1, k2⟩ := st.put (.int .i64 cd) (.int .i64 i)
    exact bodyPost_ret (results_c rfl _ _ (w.heap.size + 1) (.int .i64 cd) (.int .i64 i) rfl (k1.alloc _)) rfl (FaultPost.mk_ H.out (k2.alloc (by simp [World.setCell]; omega) _))
  · have hz := Classical.not_not.1 hbad
    have H := Lib.hid (HS.out.trans (if_neg hbad))
    rw [HZ.out hz]
    clear HS HZ hbad hz
    go_wp2_with fail
    obtain ⟨k1, k2⟩ := st.put (.int .i64 0) (.int .i64 0)
    exact bodyPost_ret (results_c rfl _ _ (w.heap.size + 1) (.int .i64 0) (.int .i64 0) rfl (k1.alloc _)) rfl (FaultPost.mk_ H.out (k2.alloc (by simp [World.setCell]; omega) _))
/-- Equality of two lists up to i. -/
theorem eq_uptoS {α : Type} {a b : List α} (hl : a.length = b.length) (h : ∀ j, j < a.length → a[j]? = b[j]?) : a = b :=
  List.ext_getElem? fun j => by
    by_cases hj : j < a.length
    · exact h j hj
    · rw [List.getElem?_eq_none (by omega), List.getElem?_eq_none (by omega)]
set_option maxHeartbeats 1600000 in
theorem strings_any (w : World) (A1 A2 : Option Addr) (c1 c2 : Nat) (l1 l2 : List (List UInt8)) (h1 : SA w Free A1 (ssV l1)) (h2 : SA w Free A2 (ssV l2)) (hl1 : l1.length ≤ 9223372036854775807) (hl2 : l2.length ≤ 9223372036854775807) :
    Calls Tryd.prog 17 #[.slice A1 l1.length c1, .slice A2 l2.length c2] w fun e w' => e = .returned (.bool (decide (l1 = l2))) ∧ ∃ n, w' = w.drewN n := by
  by_cases hlen : l1.length = l2.length
  · have hlen' : ((l1.length : Int) != l2.length) = false := by simp [hlen]
    have HL := Lib.hid hlen
    clear hlen
    go_enter Tryd.func17, Tryd.ntmps17
    go_wp2_with fail
    go_loopw [5] (fun k wr => ∃ i : Nat, i ≤ l1.length ∧ k = .int .i64 i ∧ Hid (∀ j, j < i → l1[j]? = l2[j]?) ∧ ∃ n, wr = w.drewN n) (fun k _ => l1.length - (intOf k).toNat)
    case atStart => exact ⟨0, Nat.zero_le _, rfl, Lib.hid (fun j hj => by omega), 0, rfl⟩
    case round =>
      obtain ⟨i, hi, rfl, H, n, rfl⟩ := hrel
      by_cases hlt : i < l1.length
      · have hlt2 : i < l2.length := by rw [← HL.out]; exact hlt
        obtain ⟨b1, o1, rfl, _, _, x1⟩ := ssV_row h1 i hlt
        obtain ⟨b2, o2, rfl, _, _, x2⟩ := ssV_row h2 i hlt2
        have hlt' : (i : Int) < l1.length := by omega
        have hlt2' : (i : Int) < l2.length := by omega
        by_cases he : l1[i] = l2[i]
        · have H' : Hid (∀ j, j < i + 1 → l1[j]? = l2[j]?) := Lib.hid fun j hj => by
            by_cases e : j = i
            · subst e; rw [List.getElem?_eq_getElem hlt, List.getElem?_eq_getElem hlt2, he]
            · exact H.out j (by omega)
          have he' : (l1[i] != l2[i]) = false := by simp [he]
          have he2 : (l1[i] == l2[i]) = true := by simp [he]
          clear he
          generalize l1[i] = u1 at *
          generalize l2[i] = u2 at *
          go_wp2_with fail
          go_quiet (fail)
          go_wp2
          go_roundw
          case rel => exact ⟨i + 1, by omega, by go_num, H', _, rfl⟩
          case measure => simp [intOf]; omega
        · have HN : Hid (decide (l1 = l2) = false) := Lib.hid (decide_eq_false fun e => he (by subst e; rfl))
          have he' : (l1[i] != l2[i]) = true := by simpa using he
          have he2 : (l1[i] == l2[i]) = false := by simpa using he
          clear he
          generalize l1[i] = u1 at *
          generalize l2[i] = u2 at *
          go_wp2_with fail
          go_quiet (fail)
          go_wp2
          go_ret
          exact ⟨by rw [HN.out]; rfl, n + nq, by simp [World.drewN_drewN]⟩
      · obtain rfl : i = l1.length := by omega
        have HY : Hid (decide (l1 = l2) = true) := Lib.hid (decide_eq_true (eq_uptoS HL.out H.out))
        go_wp2
        go_ret
        exact ⟨by rw [HY.out]; rfl, _, rfl⟩
  · have hlen' : ((l1.length : Int) != l2.length) = true := by simp; omega
    have HN : Hid (decide (l1 = l2) = false) := Lib.hid (decide_eq_false fun e => hlen (by rw [e]))
    clear hlen
    go_enter Tryd.func17, Tryd.ntmps17
    go_wp2_with fail
    go_ret
    exact ⟨by rw [HN.out]; rfl, 0, rfl⟩

end Go.Proofs.YtjljknocnebnaaaDoor
namespace Tr
theorem joined_take (l : List Nm) (i : Nat) (h : i < l.length) : joined (l.take (i + 1)) = joined (l.take i) ++ l[i] ++ [10] := by
  rw [List.take_succ_eq_append_getElem h, joined_snoc]
theorem joined_take_le (l : List Nm) (i : Nat) : (joined (l.take i)).length ≤ (joined l).length := by
  have : joined l = joined (l.take i) ++ joined (l.drop i) := by unfold joined; rw [← List.flatMap_append, List.take_append_drop]
  rw [this, List.length_append]; omega
theorem joined_len : ∀ (l : List Nm), (∀ s ∈ l, s.length ≤ 80) → (joined l).length ≤ l.length * 81
  | [], _ => Nat.le_refl _
  | s :: l, h => by
    have h1 := joined_len l fun x hx => h x (List.mem_cons_of_mem _ hx)
    have h2 := h s (by simp)
    rw [joined_cons]; simp; omega
end Tr
namespace Go.Proofs.YtjljknocnebnaaaDoor
open Go.RowKit Go.V Go.Shelf
set_option linter.unusedVariables false

set_option maxRecDepth 100000 in
set_option maxHeartbeats 4000000 in
theorem terminated_any (w : World) (A : Option Addr) (k : Nat) (l : List (List UInt8)) (hv : SA w Free A (ssV l)) (hl : l.length ≤ 1000000) (hj : (Tr.joined l).length ≤ 1000000) :
    Calls Tryd.prog 22 #[.slice A l.length k] w (BtPost w (Tr.joined l)) := by
  obtain ⟨i0, hi0, hz0, hz1, hz2⟩ := info_parts info5
  have HV := Lib.hid (fun (w' : World) (hb : Below w.heap.size w w') i hi => ssV_row (hv.keep (free_below hb)) i hi)
  have HJ := Lib.hid (Tr.joined_take l)
  have HLE := Lib.hid (fun i => Nat.le_trans (Tr.joined_take_le l i) hj)
  clear hv
  go_enter Tryd.func22, Tryd.ntmps22
  go_wp2_with fail
  go_loopw [3, 8] (fun ov iv wr => ∃ (i : Nat) (o : List UInt8) (B : Option Addr) (c : Nat), i ≤ l.length ∧ iv = .int .i64 i ∧ ov = .slice B o.length c ∧ Hid (o = Tr.joined (l.take i)) ∧ wr.ownsRow w.heap.size 5 1 (.slice B o.length c) o.length (bytesV o) ∧ Below w.heap.size w wr) (fun _ iv _ => l.length - (intOf iv).toNat)
  case atStart => exact ⟨0, [], none, 0, Nat.zero_le _, rfl, rfl, Lib.hid rfl, World.ownsRow_nil _ _ _ _, Below.refl _ _⟩
  case round =>
    obtain ⟨i, o, B, c, hi, rfl, rfl, HO, hown, hbw⟩ := hrel
    obtain ⟨wo, rfl⟩ : ∃ wo : World, wo = wr := ⟨_, rfl⟩
    by_cases hlt2 : i < l.length
    · have hlt' : (i : Int) < l.length := by omega
      obtain ⟨b, off, e, hb, _, d0⟩ := HV.out _ hbw i hlt2
      subst e
      have HN := Lib.hid (show o ++ l[i] ++ [10] = Tr.joined (l.take (i + 1)) from by rw [HO.out, ← HJ.out i hlt2])
      have hle : (o ++ l[i] ++ [10]).length ≤ 1000000 := by rw [HN.out]; exact HLE.out (i + 1)
      have hol : o.length ≤ 1000000 := by simp at hle; omega
      clear HO
      generalize l[i] = x at *
      have sx : (⟨x.toArray⟩ : ByteArray).size = x.length := by simp [ByteArray.size]
      have hle2 : o.length + x.length + 1 ≤ 1000000 := by simpa [Nat.add_assoc] using hle
      have hsz := hbw.size
      go_wp2_with (first | (at_builtin; refine Lib.wpList_append_own_string _ rfl (.tmp 12) (.tmp 13) 52 9 rfl w.heap.size 5 i0 Tryd.underlying52 Tryd.underlying9 hi0 hz0 hz1 hz2 (.slice B o.length c) o.length (bytesV o) rfl hown ⟨x.toArray⟩ rfl ?ha ?hb ?hc ?_))
      case ha => rw [sx]; unfold maxLen; omega
      case hb => rw [sx]; omega
      case hc => exact hsz
      intro v2 w2 own2 hg2 _
      try rw [sx] at own2
      obtain ⟨B2, c2, rfl, hc2, _⟩ := own_form own2
      have hb2 := hbw.grown hg2 hsz (fun b e => (hown.lt b e).1)
      have hs2 := hb2.size
      have own3 : w2.ownsRow w.heap.size 5 1 (.slice B2 (o.length + x.length) c2) (o.length + x.length) (bytesV (o ++ x)) := by rw [bytesV_append]; exact own2
      have own4 := own3.alloc (.cells #[.int .u8 10] 5)
      have hb4 := hb2.alloc hs2 (.cells #[.int .u8 10] 5)
      have hsv : SV (w2.alloc (.cells #[.int .u8 10] 5)) (w2.heap.size + 1) (some ⟨w2.heap.size, 0, none⟩) [.int .u8 10] := by simpa using SV.lit w2 #[.int .u8 10] 5
      clear own2 own3 hg2 hown hbw d0 hb
      go_wp2_with (first | (at_builtin; refine wpList_appN _ rfl (.tmp 14) (.tmp 15) 52 rfl w.heap.size 5 i0 _ 1 1 Tryd.underlying52 hi0 hz0 hz1 hz2 rfl (by decide) B2 (o.length + x.length) c2 (bytesV (o ++ x)) rfl own4 _ (some ⟨w2.heap.size, 0, none⟩) 1 1 [.int .u8 10] rfl rfl hsv (by intro u hu; simp at hu; subst hu; rfl) ?hd ?he ?hf ?_))
      case hd => unfold maxLen; omega
      case he => omega
      case hf => simp; omega
      intro A5 c5 w5 own5 hg5 hc5
      have hb5 := hb4.grown hg5 (by simp; omega) (fun b e => (own4.lt b e).1)
      have hl5 : (o ++ x ++ [10]).length = o.length + x.length + 1 := by simp [Nat.add_assoc]
      have e5 : bytesV (o ++ x ++ [10]) = bytesV (o ++ x) ++ [.int .u8 10] := by rw [bytesV_append]; rfl
      have own6 : w5.ownsRow w.heap.size 5 1 (.slice A5 (o.length + x.length + 1) c5) (o.length + x.length + 1) (bytesV (o ++ x ++ [10])) := by rw [e5]; simpa using own5
      clear own5
      clear own4 hg5 hsv hb4 hb2
      go_wp2_with fail
      go_roundw
      case rel => exact ⟨i + 1, o ++ x ++ [10], A5, c5, by omega, by go_num, by rw [hl5], HN, by rw [hl5]; exact own6, hb5⟩
      case measure => simp [intOf]; omega
    · obtain rfl : i = l.length := by omega
      rw [List.take_length] at HO
      go_wp2_with fail
      go_ret
      obtain ⟨A', c', e, h8, hm⟩ := own_form hown
      injection e with _ _ e2
      subst e2
      refine ⟨B, c, ?_, ?_, hm, ?_, hbw⟩
      · rw [← HO.out]; rfl
      · rw [← HO.out]; exact h8
      · rw [← HO.out]; exact hown
end Go.Proofs.YtjljknocnebnaaaDoor
namespace Go.Proofs.YtjljknocnebnaaaDoor
open Go.RowKit Go.V Go.Shelf
set_option linter.unusedVariables false

theorem info9 : (Tryd.prog.info? 9).map (fun i => (i.zero, i.size, i.bytes)) = some (some (.string .empty), 1, 16) := by kernel_rfl
theorem slice1_52 (W : World) (b0 off n k i : Nat) (h : i < n) (hk : n ≤ k) : (Instr.slice 52 (.slice (some ⟨b0, off, none⟩) n k) (some (.int .i64 (i : Int))) (some (.int .i64 ((i : Int) + 1))) none).run Tryd.prog W = .ok (.slice (some ⟨b0, off + i, none⟩) 1 (k - i)) W := by
  have hu := Tryd.underlying52
  have h1 : (i : Int) + 1 ≤ k := by omega
  have h2 : (i : Int) ≤ (i : Int) + 1 := by omega
  have h3 : ((i : Int) + 1).toNat = i + 1 := by omega
  have h4 : k ≠ i := by omega
  have h5 : k - i ≠ 0 := by omega
  obtain ⟨i5, hi5, _, hz, _⟩ := info_parts info5
  simp [Instr.slice, Instr.sliceBounds, Instr.sliceBound, go_sem, h1, h3, h4, Addr.add]
  rw [if_pos (by omega)]
  by_cases h0 : i = 0
  · subst h0; simp
  · simp [h0]
/-- What 'Cut' tells. -/
def CutPost (w : World) (q : List (List UInt8) × List UInt8) (e : Ending) (w' : World) : Prop :=
  ∃ A c, e = .returned (.tuple #[.slice A q.1.length c, .bool (decide (q.2 = []))]) ∧ q.1.length ≤ c ∧ SA w' (Under w.heap.size) A (ssV q.1) ∧ Below w.heap.size w w'
set_option maxRecDepth 100000 in
set_option maxHeartbeats 8000000 in
theorem cut_any (w : World) (A0 : Option Addr) (k : Nat) (l : List UInt8) (hv : SA w Free A0 (bytesV l)) (hk : l.length ≤ k) (hl : l.length ≤ 1000000000) : Calls Tryd.prog 36 #[.slice A0 l.length k] w (CutPost w (Tr.cut l)) := by
  obtain ⟨i0, hi0, hz0, hz1, hz2⟩ := info_parts info9
  have HV := Lib.hid (fun (w' : World) (hb : Below w.heap.size w w') => hv.keep (free_below hb))
  clear hv
  go_enter Tryd.func36, Tryd.ntmps36
  go_wp2_with fail
  go_loopw [4, 5, 6] (fun ov nv iv wr => ∃ (i : Nat) (pre : List (List UInt8)) (cur : List UInt8) (A : Option Addr) (c : Nat), i ≤ l.length ∧ iv = .int .i64 i ∧ nv = strV cur ∧ ov = .slice A pre.length c ∧ Hid (Tr.cut l = (pre ++ (Tr.cutL cur (l.drop i)).1, (Tr.cutL cur (l.drop i)).2)) ∧ cur.length ≤ i ∧ pre.length ≤ i ∧ wr.ownsRow w.heap.size 9 1 (.slice A pre.length c) pre.length (ssV pre) ∧ Below w.heap.size w wr) (fun _ _ iv _ => l.length - (intOf iv).toNat)
  case atStart => exact ⟨0, [], [], none, 0, Nat.zero_le _, rfl, rfl, rfl, Lib.hid (by simp [Tr.cut]), Nat.le_refl _, Nat.le_refl _, World.ownsRow_nil _ _ _ _, Below.refl _ _⟩
  case round =>
    obtain ⟨i, pre, cur, A, c, hi, rfl, rfl, rfl, H, hcl, hpl, hown, hbw⟩ := hrel
    obtain ⟨wo, rfl⟩ : ∃ wo : World, wo = wr := ⟨_, rfl⟩
    have hsz2 : (⟨cur.toArray⟩ : ByteArray).size = cur.length := by simp [ByteArray.size]
    by_cases hlt : i < l.length
    · have hlt' : (i : Int) < l.length := by omega
      have hw1 : IntKind.i64.wrap ((i : Int) + 1) = (i : Int) + 1 := by rw [IntKind.wrap_i64]; omega
      have hv2 := HV.out _ hbw
      obtain ⟨b0, o0, e0, hb0, _, x0⟩ := hv2.get i (by simpa [bytesV] using hlt)
      subst e0
      have x1 : wo.cell? ⟨b0, o0 + i, none⟩ = some (.int .u8 l[i].toNat) := by rw [x0]; simp [bytesV]
      have hs52 := fun W => slice1_52 W b0 o0 l.length k i hlt hk
      have hcv : (convert 52 9 (.slice (some ⟨b0, o0 + i, none⟩) 1 (k - i))).run Tryd.prog wo = .ok (.string ⟨#[l[i]]⟩) wo := run_conv_str (P := Tryd.prog) (w := wo) (B := wo.heap.size) (A := some ⟨b0, o0 + i, none⟩) (l := [l[i]]) 52 9 5 (k - i) Tryd.underlying52 Tryd.underlying5 Tryd.underlying9 (.inr ⟨b0, o0 + i, rfl, hb0, fun j u hu => by
        obtain rfl : j = 0 := by have := (List.getElem?_eq_some_iff.1 hu).1; simp [bytesV] at this; omega
        have : u = .int .u8 l[i].toNat := by simpa [bytesV] using hu.symm
        rw [this]; exact x1⟩)
      have HD := Lib.hid (List.drop_eq_getElem_cons hlt)
      have hadd : (⟨cur.toArray⟩ : ByteArray) ++ ⟨#[l[i]]⟩ = ⟨(cur ++ [l[i]]).toArray⟩ := str_add cur [l[i]]
      have hs1 : ∀ b : UInt8, (⟨#[b]⟩ : ByteArray).size = 1 := fun _ => rfl
      clear hv2 x0
      by_cases hb : l[i] = 10
      · have H2 := Lib.hid (show Tr.cut l = ((pre ++ [cur]) ++ (Tr.cutL [] (l.drop (i + 1))).1, (Tr.cutL [] (l.drop (i + 1))).2) from by rw [H.out, HD.out, Tr.cutL, if_pos hb]; simp)
        have hbi : ((l[i].toNat : Int) == 10) = true := by rw [hb]; rfl
        clear hb HD H hadd hcv hs52
        have hu : (wo.alloc (.cells #[strV cur] 9)).cell? ⟨wo.heap.size, 0, none⟩ = some (strV cur) := ((Blk.new wo 9 #[strV cur]).cell 0).trans rfl
        go_wp2_with (first | (at_builtin; refine wpList_app1 _ rfl (.tmp 18) (.tmp 20) 38 rfl w.heap.size 9 i0 (.string .empty) 16 Tryd.underlying38 hi0 hz0 hz1 hz2 rfl A pre.length c (ssV pre) rfl (hown.alloc _) wo.heap.size 1 (strV cur) rfl hu rfl (by unfold maxLen; omega) (by omega) (Nat.le_trans hbw.size (by simp)) ?_))
        intro A' c' w' hown' hg' hc'
        have hb' := below_append (hbw.alloc hbw.size _) (hown.alloc _) hg' (Nat.le_refl _) (Nat.le_trans hbw.size (by simp))
        clear hg' hown hu
        go_wp2_with fail
        go_roundw
        case rel => exact ⟨i + 1, pre ++ [cur], [], A', c', by omega, by go_num, rfl, by simp, H2, by simp, by simp; omega, by simpa [sC] using hown', hb'⟩
        case measure => simp [intOf]; omega
      · have H2 := Lib.hid (show Tr.cut l = (pre ++ (Tr.cutL (cur ++ [l[i]]) (l.drop (i + 1))).1, (Tr.cutL (cur ++ [l[i]]) (l.drop (i + 1))).2) from by rw [H.out, HD.out, Tr.cutL, if_neg hb])
        have hbi : ((l[i].toNat : Int) == 10) = false := by
          have : l[i].toNat ≠ 10 := fun e => hb (by rw [← UInt8.toNat_inj]; exact e)
          simp; omega
        clear hb HD H
        go_wp2_with fail
        go_roundw
        case rel => exact ⟨i + 1, pre, cur ++ [l[i]], A, c, by omega, by go_num, by first | rfl | simp, rfl, H2, by simp; omega, by omega, hown, hbw⟩
        case measure => simp [intOf]; omega
    · obtain rfl : i = l.length := by omega
      have HE := Lib.hid (show Tr.cut l = (pre, cur) from by rw [H.out, List.drop_length]; simp [Tr.cutL])
      clear H
      obtain ⟨A', c', e, h8, hm⟩ := own_form hown
      injection e with e1 _ e2
      subst e1
      subst e2
      have HF : ∀ y, y = decide (cur = []) → Hid (CutPost w (Tr.cut l) (.returned (.tuple #[.slice A pre.length c, .bool y])) wo) := fun y hy => Lib.hid (by
        rw [HE.out, hy]
        exact ⟨A, c, rfl, h8, SA.of_own (X := Under w.heap.size) hown (fun b hb => hb), hbw⟩)
      clear hown HE
      generalize CutPost w (Tr.cut l) = R at *
      rcases cur with _ | ⟨x, cur⟩
      · have HG := HF true (by simp)
        go_wp2_with fail
        exact HG.out
      · have HG := HF false (by simp)
        go_wp2_with fail
        exact HG.out
end Go.Proofs.YtjljknocnebnaaaDoor
namespace Tr
theorem suf_app (x : List UInt8) : Go.Lib.hasSuffix (x ++ [10]) [10] = true := by
  unfold Go.Lib.hasSuffix
  exact List.isSuffixOf_iff_suffix.2 (List.suffix_append _ _)
theorem trim_app (x : List UInt8) : Go.Lib.trimSuffix (x ++ [10]) [10] = x := by
  unfold Go.Lib.trimSuffix
  rw [if_pos (suf_app x)]
  simp
theorem suf_no {b : List UInt8} (h : ¬ ∃ x, b = x ++ [10]) : Go.Lib.hasSuffix b [10] = false := by
  rw [← Bool.not_eq_true]
  intro e
  unfold Go.Lib.hasSuffix at e
  obtain ⟨t, ht⟩ := List.isSuffixOf_iff_suffix.1 e
  exact h ⟨t, ht.symm⟩
theorem trim_no {b : List UInt8} (h : ¬ ∃ x, b = x ++ [10]) : Go.Lib.trimSuffix b [10] = b := by
  unfold Go.Lib.trimSuffix
  rw [if_neg (by rw [suf_no h]; decide)]
end Tr
namespace Go.Proofs.YtjljknocnebnaaaDoor
open Go.RowKit Go.V Go.Shelf
set_option linter.unusedVariables false

/-- The cell of strings.MaxLen. -/
def M2 (w : World) : Prop := ∃ m, w.cell? ⟨2, 0, none⟩ = some (.int .i64 m)
theorem ssV_of (l : List ByteArray) : l.map Value.string = ssV (l.map (·.data.toList)) := by
  induction l with
  | nil => rfl
  | cons x l ih => rw [List.map_cons, ih, List.map_cons]; rfl
theorem split_row (s : List UInt8) : (Lib.splitB ⟨#[10]⟩ 0 (Lib.countB ⟨s.toArray⟩ ⟨#[10]⟩) ⟨s.toArray⟩).map Value.string = ssV (Tr.cut (s ++ [10])).1 := by
  rw [ssV_of, Lib.splitB_data, ← Tr.split_cut s.length s (Nat.le_refl _)]
theorem split_num (s : List UInt8) : Lib.countB ⟨s.toArray⟩ ⟨#[10]⟩ + 1 = (Tr.cut (s ++ [10])).1.length := by
  have h := Lib.splitB_all ⟨#[10]⟩ (by decide) 0 _ ⟨s.toArray⟩ rfl
  rw [← h, ← ssV_len, ← split_row, List.length_map]
/-- What 'split' tells. -/
def SpPost (w : World) (b : List UInt8) (e : Ending) (w' : World) : Prop :=
  ∃ A c L, e = .returned (.tuple #[.slice A L.length c, .bool (decide ((Tr.cut b).2 = []))]) ∧ L.length ≤ c ∧ SA w' (Under w.heap.size) A (ssV L) ∧ Below w.heap.size w w' ∧ ((Tr.cut b).2 = [] → L = (Tr.cut b).1) ∧ L.length ≤ b.length + 1
theorem cut_len (x : List UInt8) : (Tr.cut (x ++ [10])).1.length ≤ x.length + 1 := by
  rw [← split_num]
  have := Lib.countB_le ⟨#[10]⟩ (by decide) _ ⟨x.toArray⟩ (Nat.le_refl _)
  have hs : (⟨x.toArray⟩ : ByteArray).size = x.length := by simp [ByteArray.size]
  omega
set_option maxRecDepth 100000 in
set_option maxHeartbeats 4000000 in
theorem split_any (w : World) (hm : M2 w) (A0 : Option Addr) (k : Nat) (l : List UInt8) (hv : SA w Free A0 (bytesV l)) (hl : l.length ≤ 1000000000) : Calls Tryd.prog 54 #[.slice A0 l.length k] w (SpPost w l) := by
  have hcv := run_conv_str (P := Tryd.prog) 52 9 5 k Tryd.underlying52 Tryd.underlying5 Tryd.underlying9 hv.sv
  clear hv
  by_cases h0 : l = []
  · subst h0
    have HF : Hid (SpPost w [] (.returned (.tuple #[.slice none 0 0, .bool true])) w) := Lib.hid (by
      refine ⟨none, 0, [], ?_, Nat.le_refl _, SA.nil, Below.refl _ _, fun _ => ?_, Nat.zero_le _⟩
      · simp [Tr.cut, Tr.cutL]
      · simp [Tr.cut, Tr.cutL])
    generalize SpPost w [] = R at *
    go_enter Tryd.func54, Tryd.ntmps54
    go_wp2_with fail
    exact HF.out
  · have hln : ((l.length : Int) == 0) = false := by
      have : l.length ≠ 0 := fun e => h0 (List.eq_nil_of_length_eq_zero e)
      simp; exact h0
    obtain ⟨x, ok, hx1, hx2, hx3, hx4⟩ : ∃ x ok, Lib.trimSuffix l [10] = x ∧ Lib.hasSuffix l [10] = ok ∧ (ok = decide ((Tr.cut l).2 = []) ∧ (ok = true → l = x ++ [10])) ∧ x.length ≤ l.length := by
      by_cases hx : ∃ x, l = x ++ [10]
      · obtain ⟨x, rfl⟩ := hx
        exact ⟨x, true, Tr.trim_app x, Tr.suf_app x, ⟨(decide_eq_true (Tr.cut_last x.length x (Nat.le_refl _))).symm, fun _ => rfl⟩, by simp⟩
      · refine ⟨l, false, Tr.trim_no hx, Tr.suf_no hx, ⟨(decide_eq_false fun e => ?_).symm, fun h => by cases h⟩, Nat.le_refl _⟩
        rcases (Tr.cut_end_iff l).1 e with h | h
        · exact h0 h
        · exact hx h
    have HC := Lib.hid (Tryd.strings_CutSuffix ⟨l.toArray⟩ ⟨#[10]⟩ w (by simp [ByteArray.size]; omega))
    have HCe : Hid (Lib.trimSuffix (⟨l.toArray⟩ : ByteArray).data.toList (⟨#[10]⟩ : ByteArray).data.toList = x ∧ Lib.hasSuffix (⟨l.toArray⟩ : ByteArray).data.toList (⟨#[10]⟩ : ByteArray).data.toList = ok) := Lib.hid ⟨hx1, hx2⟩
    obtain ⟨m, hm⟩ := hm
    have HS := Lib.hid (Tryd.strings_Split ⟨x.toArray⟩ ⟨#[10]⟩ m w (by simp [ByteArray.size]; omega) hm (by decide))
    have HF : Hid (SpPost w l (.returned (.tuple #[.slice (some ⟨w.heap.size, 0, none⟩) (Lib.countB ⟨x.toArray⟩ ⟨#[10]⟩ + 1) (Lib.countB ⟨x.toArray⟩ ⟨#[10]⟩ + 1), .bool ok])) (w.alloc (.cells ((Lib.splitB ⟨#[10]⟩ 0 (Lib.countB ⟨x.toArray⟩ ⟨#[10]⟩) ⟨x.toArray⟩).map Value.string).toArray 9))) := Lib.hid (by
      rw [split_row, split_num, hx3.1]
      refine ⟨some ⟨w.heap.size, 0, none⟩, _, _, rfl, Nat.le_refl _, ?_, below_alloc1 _ _, fun e => ?_, Nat.le_trans (cut_len x) (by omega)⟩
      · have := SA.of_blk (X := Under w.heap.size) (Blk.new w 9 (ssV (Tr.cut (x ++ [10])).1).toArray) (Nat.lt_irrefl _)
        simpa using this
      · rw [hx3.2 (by rw [hx3.1]; exact decide_eq_true e)])
    clear hx1 hx2 hx3 hx4 hm h0
    generalize SpPost w l = R at *
    go_enter Tryd.func54, Tryd.ntmps54
    go_wp2_with fail
    go_at_call 68
    with_reducible refine (HC.out).mono ?_
    rintro e w1 ⟨rfl, rfl⟩
    rw [HCe.out.1, HCe.out.2]
    go_wp2_with fail
    go_at_call 69
    with_reducible refine (HS.out).mono ?_
    rintro e w1 ⟨rfl, rfl⟩
    go_wp2_with fail
    first | exact HF.out | (go_ret; exact HF.out)
end Go.Proofs.YtjljknocnebnaaaDoor
namespace Go.V
set_option linter.unusedVariables false
open Go.RowKit

theorem below_setCells {B : Nat} {a : World} (b : Nat) (hB : B ≤ b) : ∀ (vs : List Value) (o : Nat) (w : World), Below B a w → Below B a (w.setCells b o vs)
  | [], _, _, h => h
  | v :: r, o, w, h => below_setCells b hB r (o + 1) _ (h.setCell (p := ⟨b, o, none⟩) hB v)
section
variable {P : Program} (w : World)
/-- 'append(s, x...)' where s lies in a block from base on, whatever made it. -/
theorem run_app_upon (base : Nat) (t ty e : TypeId) (i : TypeInfo) (z : Value) (size bytes : Nat) (ht : P.underlying t = some (.slice e)) (hi : P.info? e = some i) (hz : i.zero = some z)
    (hsize : i.size = size) (hby : i.bytes = bytes)
    {b off n cap : Nat} {olds : List Value} (hc : Came w size (some ⟨b, off, none⟩) b off n cap olds) (hb : base ≤ b) (hbw : b < w.heap.size) (ho1 : ∀ u ∈ olds, u.oneCell' = true) (hbase : base ≤ w.heap.size)
    (ad : Addr) (m c2 : Nat) (news : List Value) (hl : news.length = m * size) (hcells : ∀ j u, news[j]? = some u → w.cell? (ad.add j) = some u) (h1 : ∀ u ∈ news, u.oneCell' = true)
    (h63 : n + m ≤ maxLen) (hbytes : (n + m) * bytes ≤ 140737488355328) :
    ∃ g o' c' w', (Builtin.append_ #[t, t] ty #[.slice (some ⟨b, off, none⟩) n cap, .slice (some ad) m c2]).run P w = .ok (.slice (some ⟨g, o', none⟩) (n + m) c') w' ∧ n + m ≤ c' ∧
      SV w' w'.heap.size (some ⟨g, o', none⟩) (olds ++ news) ∧ Below base w w' ∧ base ≤ g := by
  subst hsize
  subst hby
  have hsrc := Src.ofSlice w ht ad m c2 news hl hcells h1
  have hol := hc.oldsLen
  have hsmall : n + m ≤ 9223372036854775807 := by simp only [maxLen] at h63; omega
  by_cases hroom : n + m ≤ cap
  · have hsp : ∀ j, j < news.length → j < (cap - n) * i.size := fun j hj => by
      rw [hl] at hj
      exact Nat.lt_of_lt_of_le hj (Nat.mul_le_mul_right _ (by omega))
    have hr := run_append_room_src w t t ty e i ht hi b off n cap (.slice (some ad) m c2) m news hsrc hroom (fun j hj => (hc.spare j (hsp j hj)).1) (fun j hj => (hc.spare j (hsp j hj)).2)
    refine ⟨b, off, cap, _, hr, hroom, ?_, below_setCells b hb _ _ _ (Below.refl _ _), hb⟩
    have hbel : Below 0 w (w.setCells b (off + n * i.size) news) := below_setCells b (Nat.zero_le _) _ _ _ (Below.refl _ _)
    refine .inr ⟨b, off, rfl, Nat.lt_of_lt_of_le hbw hbel.size, fun j u hu => ?_⟩
    by_cases hj : j < olds.length
    · rw [List.getElem?_append_left hj] at hu
      rw [World.cell?_setCells_out b news _ w ⟨b, off + j, none⟩ (fun _ _ => .inl (by simp; omega))]
      exact hc.olds j u hu
    · rw [List.getElem?_append_right (by omega)] at hu
      have hjn : j - olds.length < news.length := by
        rcases Nat.lt_or_ge (j - olds.length) news.length with h | h
        · exact h
        · rw [List.getElem?_eq_none h] at hu; cases hu
      have := World.cell?_setCells_in b news (off + n * i.size) w (fun j hj => (hc.spare j (hsp j hj)).1) (j - olds.length) hjn
      rw [show off + n * i.size + (j - olds.length) = off + j by omega] at this
      rw [this, ← hu, List.getElem?_eq_getElem hjn]
  · have hold := run_firstCells_some (P := P) w.drew i.size n ⟨b, off, none⟩ n cap olds hol (fun j u hu => by
      rw [show (⟨b, off, none⟩ : Addr).add j = ⟨b, off + j, none⟩ from by unfold Addr.add; split <;> simp_all]
      exact hc.olds j u hu)
    have hr := run_append_grow_src w t t ty e i z ht hi hz (some ⟨b, off, none⟩) n cap olds hold (.slice (some ad) m c2) m news hsrc (by omega) (by omega) (growslice_fits (by omega) hbytes)
    have hge := grownCap_ge w (n + m) cap e
    refine ⟨w.heap.size, 0, _, _, hr, hge, ?_, ?_, hbase⟩
    · refine .inr ⟨w.heap.size, 0, rfl, by simp, fun j u hu => ?_⟩
      refine (World.cell?_alloc_new w.drew _ e (0 + j)).trans ?_
      have hjn : j < (olds ++ news).length := by
        rcases Nat.lt_or_ge j (olds ++ news).length with h | h
        · exact h
        · rw [List.getElem?_eq_none h] at hu; cases hu
      rw [Nat.zero_add, Array.getElem?_append_left (by simpa using hjn), List.getElem?_toArray]
      exact hu
    · exact (below_drewN (Below.refl base w) 1).alloc hbase _
/-- .. as a law for 'go_wp2_with'. -/
theorem wpList_app_upon {ops : Array Oper} {rest : List Oper} {o : Oper} {a : Act} {Q : Exit → Act → World → Prop} (hgd : o.guard = none) (s x : Operand) (t : TypeId)
    (ho : o.op = .call { callee := .builtin .append, args := #[s, x], argTypes := #[t, t] })
    (base : Nat) (e : TypeId) (i : TypeInfo) (z : Value) (size bytes : Nat) (ht : P.underlying t = some (.slice e)) (hi : P.info? e = some i) (hz : i.zero = some z)
    (hsize : i.size = size) (hby : i.bytes = bytes)
    {b off n cap : Nat} {olds : List Value} (hc : Came w size (some ⟨b, off, none⟩) b off n cap olds) (hb : base ≤ b) (hbw : b < w.heap.size) (ho1 : ∀ u ∈ olds, u.oneCell' = true) (hbase : base ≤ w.heap.size)
    (hs : a.eval s = .slice (some ⟨b, off, none⟩) n cap)
    (ad : Addr) (m c2 : Nat) (news : List Value) (hx : a.eval x = .slice (some ad) m c2) (hl : news.length = m * size) (hcells : ∀ j u, news[j]? = some u → w.cell? (ad.add j) = some u) (h1 : ∀ u ∈ news, u.oneCell' = true)
    (h63 : n + m ≤ maxLen) (hbytes : (n + m) * bytes ≤ 140737488355328)
    (h : ∀ g o' c' w', n + m ≤ c' → SV w' w'.heap.size (some ⟨g, o', none⟩) (olds ++ news) → Below base w w' → base ≤ g → wpList P ops Q rest (a.put o.dst (.slice (some ⟨g, o', none⟩) (n + m) c')) w') : wpList P ops Q (o :: rest) a w := by
  refine wpList_plain hgd fun K hK' => ?_
  obtain ⟨g, o', c', w', hrun, h2, h3, h4, h5⟩ := run_app_upon (P := P) w base t o.type e i z size bytes ht hi hz hsize hby hc hb hbw ho1 hbase ad m c2 news hl hcells h1 h63 hbytes
  unfold Oper.wp
  simp [execOp, ho, resolve, invoke, builtin, hs, hx, hrun, Result.andThen]
  exact hK' _ _ (h g o' c' w' h2 h3 h4 h5)
end
end Go.V
namespace Go.V
open Go.RowKit

section
variable {P : Program}
theorem bytesRow_eq (l : List UInt8) (cap : Nat) : bytesRow ⟨l.toArray⟩ cap = (bytesV l ++ List.replicate (cap - l.length) (Value.int .u8 0)).toArray := by
  unfold bytesRow bytesV
  apply Array.ext'
  simp [ByteArray.size]
theorem conv_came (w : World) (src dst e : TypeId) (l : List UInt8) (hs : P.underlying src = some .string) (hd : P.underlying dst = some (.slice e)) (he : P.underlying e = some (.int .u8)) :
    ∃ W1 q, (convert src dst (.string ⟨l.toArray⟩)).run P w = .ok (.slice (some ⟨w.heap.size, 0, none⟩) l.length q) W1 ∧ Came W1 1 (some ⟨w.heap.size, 0, none⟩) w.heap.size 0 l.length q (bytesV l) ∧ Below w.heap.size w W1 ∧ w.heap.size < W1.heap.size := by
  have hr := run_bytes_of_string (P := P) w src dst e ⟨l.toArray⟩ hs hd he
  have hsz : (⟨l.toArray⟩ : ByteArray).size = l.length := by simp [ByteArray.size]
  rw [hsz, bytesRow_eq] at hr
  have hge := grownCap_ge w l.length 0 e
  generalize grownCap w l.length 0 e = q at *
  refine ⟨_, q, hr, ⟨hge, fun _ => rfl, fun _ => by simp, by simp [bytesV], fun j u hu => ?_, fun j hj => ⟨?_, ?_⟩⟩, (below_drewN (Below.refl _ w) 1).alloc (Nat.le_refl _) _, by simp⟩
  · obtain ⟨hj, _⟩ := List.getElem?_eq_some_iff.1 hu
    refine (cell_of_row _ w.heap.size (0 + j) _ e _ (heap_alloc_new w.drew _)).trans ?_
    rw [Nat.zero_add, List.getElem?_toArray, List.getElem?_append_left hj]
    exact hu
  · have h : (0 + l.length * 1 + j) < (bytesV l ++ List.replicate (q - l.length) (Value.int .u8 0)).length := by simp [bytesV]; omega
    rw [cell_of_row _ w.heap.size _ _ e _ (heap_alloc_new w.drew _), List.getElem?_toArray, List.getElem?_eq_getElem h]
    rfl
  · have hh := heap_alloc_new w.drew (.cells (bytesV l ++ List.replicate (q - l.length) (Value.int .u8 0)).toArray e ((bytesV l ++ List.replicate (q - l.length) (Value.int .u8 0)).toArray.size, (bytesV l ++ List.replicate (q - l.length) (Value.int .u8 0)).toArray.size + 1))
    simp only [World.frozen?]
    rw [show (w.drew).heap.size = w.heap.size from rfl] at hh
    rw [hh]
    simp [bytesV]
    omega
end
theorem came_below {w w' : World} {size : Nat} {ao : Option Addr} {b off n cap : Nat} {olds : List Value} (h : Came w size ao b off n cap olds) (hb : Below w.heap.size w w') (hlt : b < w.heap.size) : Came w' size ao b off n cap olds :=
  ⟨h.le, h.addr, fun _ => Nat.lt_of_lt_of_le hlt hb.size, h.oldsLen, fun j u hu => (hb.cell (p := ⟨b, off + j, none⟩) hlt).trans (h.olds j u hu),
    fun j hj => ⟨by rw [hb.cell (p := ⟨b, off + n * size + j, none⟩) hlt]; exact (h.spare j hj).1, (World.frozen?_of_block (a := ⟨b, off + n * size + j, none⟩) (hb.block b hlt)).trans (h.spare j hj).2⟩⟩
theorem came_sv {w : World} {size : Nat} {b off n cap : Nat} {olds : List Value} (h : Came w size (some ⟨b, off, none⟩) b off n cap olds) (hlt : b < w.heap.size) : SV w w.heap.size (some ⟨b, off, none⟩) olds := .inr ⟨b, off, rfl, hlt, h.olds⟩
end Go.V
namespace Go.Proofs.YtjljknocnebnaaaDoor
open Go.RowKit Go.V Go.Shelf
set_option linter.unusedVariables false
theorem str_addV (a b : List UInt8) : (⟨a.toArray⟩ : ByteArray) ++ ⟨b.toArray⟩ = ⟨(a ++ b).toArray⟩ := str_add a b
/-- An object in new blocks. -/
def OjPost (w : World) (o : Ob.O) (e : Ending) (w' : World) : Prop := ∃ Al kl Ad kd, e = .returned (obV o Al kl Ad kd) ∧ ObA w' (Under w.heap.size) o Al kl Ad kd ∧ Below w.heap.size w w'
theorem results_o54 {fn : Func} {a : Tmp} (h : fn.results = #[.cell a 54]) (tmps : Array Value) (w : World) (g : Nat) (x y z : Value) (ha : tmps.getD a undef = .pointer (some ⟨g, 0, none⟩)) (hb : Blk w g 54 #[x, y, z]) :
    (results fn tmps).run Tryd.prog w = .ok (.agg #[x, y, z]) w := by
  have h0 := hb.cell 0
  have h1 := hb.cell 1
  have h2 := hb.cell 2
  simp only [List.getElem?_toArray, List.getElem?_cons_zero, List.getElem?_cons_succ] at h0 h1 h2
  have ha' : tmps[a]?.getD undef = .pointer (some ⟨g, 0, none⟩) := by simpa using ha
  simp [results, h, go_sem, ha', h0, h1, h2]
set_option maxRecDepth 100000 in
set_option maxHeartbeats 4000000 in
theorem linesBlob_any (w : World) (A : Option Addr) (k : Nat) (l : List (List UInt8)) (hv : SA w Free A (ssV l)) (hl : l.length ≤ 1000000) (hj : (Tr.joined l).length ≤ 1000000) :
    Calls Tryd.prog 26 #[.slice A l.length k] w (OjPost w (Tr.blobO l)) := by
  have HV := Lib.hid (fun (w' : World) (hb : Below w.heap.size w w') i hi => ssV_row (hv.keep (free_below hb)) i hi)
  have HJ := Lib.hid (Tr.joined_take l)
  have HLE := Lib.hid (fun i => Nat.le_trans (Tr.joined_take_le l i) hj)
  have b0 := Blk.new w 54 #[.int .i64 0, .slice none 0 0, .slice none 0 0]
  have hb0 := below_alloc1 w (.cells #[.int .i64 0, .slice none 0 0, .slice none 0 0] 54)
  clear hv
  go_enter Tryd.func26, Tryd.ntmps26
  go_wp2_with fail
  go_loopw [3, 4] (fun ov iv wr => ∃ (i : Nat) (o : List UInt8), i ≤ l.length ∧ iv = .int .i64 i ∧ ov = strV o ∧ Hid (o = Tr.joined (l.take i)) ∧ Blk wr w.heap.size 54 #[.int .i64 0, .slice none 0 0, .slice none 0 0] ∧ Below w.heap.size w wr) (fun _ iv _ => l.length - (intOf iv).toNat)
  case atStart => exact ⟨0, [], Nat.zero_le _, rfl, rfl, Lib.hid rfl, b0, hb0⟩
  case round =>
    obtain ⟨i, o, hi, rfl, rfl, HO, br, hbw⟩ := hrel
    obtain ⟨wo, rfl⟩ : ∃ wo : World, wo = wr := ⟨_, rfl⟩
    by_cases hlt2 : i < l.length
    · have hlt' : (i : Int) < l.length := by omega
      obtain ⟨b, off, e, hb, _, d0⟩ := HV.out _ hbw i hlt2
      subst e
      have HN := Lib.hid (show o ++ l[i] ++ [10] = Tr.joined (l.take (i + 1)) from by rw [HO.out, ← HJ.out i hlt2])
      have hle : (o ++ l[i] ++ [10]).length ≤ 1000000 := by rw [HN.out]; exact HLE.out (i + 1)
      clear HO
      generalize l[i] = x at *
      have sx : (⟨x.toArray⟩ : ByteArray).size = x.length := by simp [ByteArray.size]
      have so : (⟨o.toArray⟩ : ByteArray).size = o.length := by simp [ByteArray.size]
      have e1 : (⟨o.toArray⟩ : ByteArray) ++ ⟨x.toArray⟩ = ⟨(o ++ x).toArray⟩ := str_add o x
      have e2 : (⟨(o ++ x).toArray⟩ : ByteArray) ++ ⟨#[10]⟩ = ⟨(o ++ x ++ [10]).toArray⟩ := str_add (o ++ x) [10]
      have sox : (⟨(o ++ x).toArray⟩ : ByteArray).size = o.length + x.length := by simp [ByteArray.size]
      have hle2 : o.length + x.length + 1 ≤ 1000000 := by simpa [Nat.add_assoc] using hle
      go_wp2_with fail
      go_roundw
      case rel => exact ⟨i + 1, o ++ x ++ [10], by omega, by go_num, by first | rfl | trivial | simp, HN, br, hbw⟩
      case measure => simp [intOf]; omega
    · obtain rfl : i = l.length := by omega
      rw [List.take_length] at HO
      have hle : o.length ≤ 1000000 := by rw [HO.out]; exact hj
      have hlt := br.lt
      have hsz := hbw.size
      obtain ⟨W1, q1, kc1, came1, hb1, hl1⟩ := conv_came (P := Tryd.prog) wo 9 52 5 o Tryd.underlying9 Tryd.underlying52 Tryd.underlying5
      have br1 := br.below hb1 hlt
      have f0 := br1.frozen 0
      have f1 := br1.frozen 1
      have f2 := br1.frozen 2
      have c0 := (br1.cell 0).trans rfl
      have c1 := (br1.cell 1).trans rfl
      have c2 := (br1.cell 2).trans rfl
      have br2 := (((br1.set_ 0 (.int .i64 1)).set_ 1 (.slice none 0 0)).set_ 2 (.slice (some ⟨wo.heap.size, 0, none⟩) o.length q1))
      have hb2 := ((((hbw.trans (hb1.mono hsz)).setCell (p := ⟨w.heap.size, 0, none⟩) (Nat.le_refl _) (.int .i64 1)).setCell (p := ⟨w.heap.size, 1, none⟩) (Nat.le_refl _) (.slice none 0 0)).setCell (p := ⟨w.heap.size, 2, none⟩) (Nat.le_refl _) (.slice (some ⟨wo.heap.size, 0, none⟩) o.length q1))
      have hsA : SA W1 (fun b => b ≤ w.heap.size) (some ⟨wo.heap.size, 0, none⟩) (bytesV o) := .inr ⟨wo.heap.size, 0, rfl, hl1, by simp; exact hlt, fun j u hu => came1.olds j u hu⟩
      have kk := ((Keeps.setCell W1 (fun b => b ≤ w.heap.size) ⟨w.heap.size, 0, none⟩ (.int .i64 1) (Nat.le_refl _)).trans (Keeps.setCell _ (fun b => b ≤ w.heap.size) ⟨w.heap.size, 1, none⟩ (.slice none 0 0) (Nat.le_refl _))).trans (Keeps.setCell _ (fun b => b ≤ w.heap.size) ⟨w.heap.size, 2, none⟩ (.slice (some ⟨wo.heap.size, 0, none⟩) o.length q1) (Nat.le_refl _))
      have hsB := (hsA.keep kk).mono (X' := Under w.heap.size) (fun b hb => Nat.le_of_lt hb)
      have hq := came1.le
      clear kk hsA came1
      go_wp2_with fail
      refine bodyPost_ret (results_o54 rfl _ _ w.heap.size _ _ _ rfl br2) rfl ⟨none, 0, some ⟨wo.heap.size, 0, none⟩, q1, ?_, ?_, hb2⟩
      · unfold obV Tr.blobO; rw [← HO.out]; rfl
      · unfold Tr.blobO
        rw [← HO.out]
        exact ⟨by show I64 1; unfold I64; omega, fun i h => by simp at h, Nat.le_refl _, hq, Nat.zero_le _, by show o.length ≤ _; omega, SA.nil, hsB⟩
end Go.Proofs.YtjljknocnebnaaaDoor
