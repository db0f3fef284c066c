/-
  The linear merge of two stores: the plain law. No program in sight.
-/
import Derived.Test.YtiilhnfdlpgllaaObV
namespace Ob
open Go.Proofs.Ytiilhnfdlpgllaa (eqO eqO_iff)

/-- The loop of 'MergeStores': the list so far, and where it fails, or -1. -/
def msFrom (a b : List S) (i k : Nat) (out : List S) : List S × Int :=
  if i < a.length ∨ k < b.length then
    if b.length ≤ k ∨ (i < a.length ∧ (it a i).dig < (it b k).dig) then msFrom a b (i + 1) k (out ++ [it a i])
    else if i < a.length ∧ (it a i).dig = (it b k).dig then
      if eqO (it a i).ob (it b k).ob = true then msFrom a b (i + 1) (k + 1) (out ++ [it b k]) else (out, (k : Int))
    else msFrom a b i (k + 1) (out ++ [it b k])
  else (out, -1)
termination_by (a.length - i) + (b.length - k)
section
variable {a b : List S} {i k : Nat} {out : List S}
theorem ms_end (h1 : a.length ≤ i) (h2 : b.length ≤ k) : msFrom a b i k out = (out, -1) := by rw [msFrom, if_neg (by omega)]
theorem ms_a (h1 : i < a.length) (h2 : b.length ≤ k) : msFrom a b i k out = msFrom a b (i + 1) k (out ++ [it a i]) := by rw [msFrom, if_pos (by omega), if_pos (by omega)]
theorem ms_lt (h1 : i < a.length) (h : (it a i).dig < (it b k).dig) : msFrom a b i k out = msFrom a b (i + 1) k (out ++ [it a i]) := by rw [msFrom, if_pos (by omega), if_pos (.inr ⟨h1, h⟩)]
theorem ms_eq (h1 : i < a.length) (h2 : k < b.length) (h : (it a i).dig = (it b k).dig) (he : eqO (it a i).ob (it b k).ob = true) : msFrom a b i k out = msFrom a b (i + 1) (k + 1) (out ++ [it b k]) := by
  rw [msFrom, if_pos (by omega), if_neg (by omega), if_pos ⟨h1, h⟩, if_pos he]
theorem ms_ne (h1 : i < a.length) (h2 : k < b.length) (h : (it a i).dig = (it b k).dig) (he : eqO (it a i).ob (it b k).ob = false) : msFrom a b i k out = (out, (k : Int)) := by
  rw [msFrom, if_pos (by omega), if_neg (by omega), if_pos ⟨h1, h⟩, if_neg (by rw [he]; simp)]
theorem ms_gt (h1 : i < a.length) (h2 : k < b.length) (h : (it b k).dig < (it a i).dig) : msFrom a b i k out = msFrom a b i (k + 1) (out ++ [it b k]) := by
  rw [msFrom, if_pos (by omega), if_neg (by omega), if_neg (by omega)]
theorem ms_b (h1 : a.length ≤ i) (h2 : k < b.length) : msFrom a b i k out = msFrom a b i (k + 1) (out ++ [it b k]) := by
  rw [msFrom, if_pos (by omega), if_neg (by omega), if_neg (by omega)]
end
/-- What 'MergeStores' answers. -/
def msR (a b : List S) : List S × (Int × Int) :=
  if 0 ≤ (msFrom a b 0 0 []).2 then ([], (19, (msFrom a b 0 0 []).2)) else if 40 < (msFrom a b 0 0 []).1.length then ([], (14, -1)) else ((msFrom a b 0 0 []).1, (0, 0))
/-- The objects from place i on. -/
def From (a : List S) (i : Nat) (x : S) : Prop := ∃ j, i ≤ j ∧ j < a.length ∧ it a j = x
theorem From.next {a : List S} {i : Nat} {x : S} (hi : i < a.length) : From a i x ↔ x = it a i ∨ From a (i + 1) x := by
  constructor
  · rintro ⟨j, h1, h2, rfl⟩
    by_cases e : j = i
    · subst e; exact .inl rfl
    · exact .inr ⟨j, by omega, h2, rfl⟩
  · rintro (rfl | ⟨j, h1, h2, rfl⟩)
    · exact ⟨i, Nat.le_refl _, hi, rfl⟩
    · exact ⟨j, by omega, h2, rfl⟩
theorem From.none {a : List S} {i : Nat} {x : S} (hi : a.length ≤ i) : ¬ From a i x := fun ⟨j, _, _, _⟩ => by omega
theorem From.gt {a : List S} (ha : Sorted a) {i : Nat} {x : S} (h : From a (i + 1) x) : (it a i).dig < x.dig := by
  obtain ⟨j, h1, h2, rfl⟩ := h
  exact ha.mono (by omega) h2
theorem From.ge {a : List S} (ha : Sorted a) {i : Nat} {x : S} (h : From a i x) : (it a i).dig ≤ x.dig := by
  obtain ⟨j, h1, h2, rfl⟩ := h
  exact ha.le h1 h2
theorem ms_ok {a b : List S} (ha : Sorted a) (hb : Sorted b) : ∀ (n i k : Nat) (out : List S), (a.length - i) + (b.length - k) ≤ n → (∀ x y, From a i x → From b k y → x.dig = y.dig → x = y) →
    ∃ m, msFrom a b i k out = (out ++ m, -1) ∧ m.Pairwise (fun x y => x.dig < y.dig) ∧ ∀ x, x ∈ m ↔ From a i x ∨ From b k x
  | n, i, k, out, hn, hc => by
    by_cases hi : i < a.length
    · obtain _ | n := n
      · omega
      by_cases hk : k < b.length
      · have fa : From a i (it a i) := ⟨i, Nat.le_refl _, hi, rfl⟩
        have fb : From b k (it b k) := ⟨k, Nat.le_refl _, hk, rfl⟩
        rcases Int.lt_trichotomy (it a i).dig (it b k).dig with h | h | h
        · obtain ⟨m, e, hp, hm⟩ := ms_ok ha hb n (i + 1) k (out ++ [it a i]) (by omega) (fun x y hx hy => hc x y ((From.next hi).2 (.inr hx)) hy)
          refine ⟨it a i :: m, by rw [ms_lt hi h, e]; simp, List.pairwise_cons.2 ⟨fun x hx => ?_, hp⟩, fun x => ?_⟩
          · rcases (hm x).1 hx with hx | hx
            · exact hx.gt ha
            · have := hx.ge hb; omega
          · rw [List.mem_cons, hm, From.next hi, or_assoc]
        · have heq := hc _ _ fa fb h
          obtain ⟨m, e, hp, hm⟩ := ms_ok ha hb n (i + 1) (k + 1) (out ++ [it b k]) (by omega) (fun x y hx hy => hc x y ((From.next hi).2 (.inr hx)) ((From.next hk).2 (.inr hy)))
          refine ⟨it b k :: m, by rw [ms_eq hi hk h ((eqO_iff _ _).2 (by rw [heq])), e]; simp, List.pairwise_cons.2 ⟨fun x hx => ?_, hp⟩, fun x => ?_⟩
          · rcases (hm x).1 hx with hx | hx
            · have := hx.gt ha; omega
            · exact hx.gt hb
          · rw [List.mem_cons, hm, From.next hi, From.next hk, heq]
            constructor
            · rintro (h | h | h)
              · exact .inl (.inl h)
              · exact .inl (.inr h)
              · exact .inr (.inr h)
            · rintro ((h | h) | (h | h))
              · exact .inl h
              · exact .inr (.inl h)
              · exact .inl h
              · exact .inr (.inr h)
        · obtain ⟨m, e, hp, hm⟩ := ms_ok ha hb n i (k + 1) (out ++ [it b k]) (by omega) (fun x y hx hy => hc x y hx ((From.next hk).2 (.inr hy)))
          refine ⟨it b k :: m, by rw [ms_gt hi hk h, e]; simp, List.pairwise_cons.2 ⟨fun x hx => ?_, hp⟩, fun x => ?_⟩
          · rcases (hm x).1 hx with hx | hx
            · have := hx.ge ha; omega
            · exact hx.gt hb
          · rw [List.mem_cons, hm, From.next hk, or_left_comm]
      · obtain ⟨m, e, hp, hm⟩ := ms_ok ha hb n (i + 1) k (out ++ [it a i]) (by omega) (fun x y hx hy => hc x y ((From.next hi).2 (.inr hx)) hy)
        refine ⟨it a i :: m, by rw [ms_a hi (by omega), e]; simp, List.pairwise_cons.2 ⟨fun x hx => ?_, hp⟩, fun x => ?_⟩
        · rcases (hm x).1 hx with hx | hx
          · exact hx.gt ha
          · exact absurd hx (From.none (by omega))
        · rw [List.mem_cons, hm, From.next hi, or_assoc]
    · by_cases hk : k < b.length
      · obtain _ | n := n
        · omega
        obtain ⟨m, e, hp, hm⟩ := ms_ok ha hb n i (k + 1) (out ++ [it b k]) (by omega) (fun x y hx hy => hc x y hx ((From.next hk).2 (.inr hy)))
        refine ⟨it b k :: m, by rw [ms_b (by omega) hk, e]; simp, List.pairwise_cons.2 ⟨fun x hx => ?_, hp⟩, fun x => ?_⟩
        · rcases (hm x).1 hx with hx | hx
          · exact absurd hx (From.none (by omega))
          · exact hx.gt hb
        · rw [List.mem_cons, hm, From.next hk, or_left_comm]
      · refine ⟨[], by rw [ms_end (by omega) (by omega)]; simp, List.Pairwise.nil, fun x => ?_⟩
        simp [From.none (a := a) (i := i) (x := x) (by omega), From.none (a := b) (i := k) (x := x) (by omega)]
/-- The first conflict of b, at p against the object q of a. -/
theorem ms_bad {a b : List S} (ha : Sorted a) (hb : Sorted b) {p q : Nat} (hp : p < b.length) (hq : q < a.length) (hd : (it a q).dig = (it b p).dig) (hne : (it a q).ob ≠ (it b p).ob)
    (hc : ∀ k, k < p → ∀ x ∈ a, x.dig = (it b k).dig → x.ob = (it b k).ob) : ∀ (n i k : Nat) (out : List S), (a.length - i) + (b.length - k) ≤ n → i ≤ q → k ≤ p → (msFrom a b i k out).2 = (p : Int)
  | n, i, k, out, hn, hi, hk => by
    obtain _ | n := n
    · omega
    have hi' : i < a.length := by omega
    have hk' : k < b.length := by omega
    have h1 := ha.le (i := i) (j := q) hi hq
    have h2 := hb.le (i := k) (j := p) hk hp
    rcases Int.lt_trichotomy (it a i).dig (it b k).dig with h | h | h
    · have : i ≠ q := fun e => by subst e; omega
      rw [ms_lt hi' h]
      exact ms_bad ha hb hp hq hd hne hc n (i + 1) k _ (by omega) (by omega) hk
    · by_cases e : k = p
      · subst e
        have e2 : i = q := by
          rcases Nat.lt_or_ge i q with h3 | h3
          · have := ha.mono h3 hq; omega
          · omega
        subst e2
        rw [ms_ne hi' hk' h (by cases hh : eqO (it a i).ob (it b k).ob with
          | false => rfl
          | true => exact absurd ((eqO_iff _ _).1 hh) hne)]
      · have h3 := hb.mono (i := k) (j := p) (by omega) hp
        have : i ≠ q := fun e2 => by subst e2; omega
        rw [ms_eq hi' hk' h ((eqO_iff _ _).2 (hc k (by omega) _ (it_mem hi') h))]
        exact ms_bad ha hb hp hq hd hne hc n (i + 1) (k + 1) _ (by omega) (by omega) (by omega)
    · have : k ≠ p := fun e => by subst e; omega
      rw [ms_gt hi' hk' h]
      exact ms_bad ha hb hp hq hd hne hc n i (k + 1) _ (by omega) hi (by omega)
/-- Two ways to merge. -/
theorem ms_mg {a b : List S} (ha : Sorted a) (hb : Sorted b) : (msFrom a b 0 0 []).2 = (mgFrom a b 0).2 ∧ ((mgFrom a b 0).2 = -1 → (msFrom a b 0 0 []).1 = (mgFrom a b 0).1) := by
  by_cases hno : NoC a b
  · obtain ⟨h1, h2⟩ := mg_un ha hb hno
    obtain ⟨m, e, hp, hm⟩ := ms_ok ha hb _ 0 0 [] (Nat.le_refl _) (fun x y ⟨j, _, hj, ex⟩ ⟨j', _, hj', ey⟩ hd => by subst ex ey; exact hno _ (it_mem hj) _ (it_mem hj') hd)
    rw [e, h1]
    refine ⟨rfl, fun _ => ?_⟩
    simp only [List.nil_append]
    refine sorted_ext (sorted_pw.2 hp) h2.srt fun x => ?_
    rw [hm, h2.mem, mem_it, mem_it]
    constructor
    · rintro (⟨j, _, h, e⟩ | ⟨j, _, h, e⟩)
      · exact .inl ⟨j, h, e⟩
      · exact .inr ⟨j, h, e⟩
    · rintro (⟨j, h, e⟩ | ⟨j, h, e⟩)
      · exact .inl ⟨j, Nat.zero_le _, h, e⟩
      · exact .inr ⟨j, Nat.zero_le _, h, e⟩
  · -- the first object of b with a conflict
    have hex : ∃ p, p < b.length ∧ ∃ x ∈ a, x.dig = (it b p).dig ∧ x.ob ≠ (it b p).ob := by
      apply Classical.byContradiction
      intro hn
      apply hno
      intro x hx y hy hd
      obtain ⟨p, hp, rfl⟩ := mem_it.1 hy
      have h1 : x.ob = (it b p).ob := by
        apply Classical.byContradiction
        intro h; exact hn ⟨p, hp, x, hx, hd, h⟩
      generalize it b p = y at *
      obtain ⟨d1, o1⟩ := x
      obtain ⟨d2, o2⟩ := y
      simp only at hd h1
      rw [hd, h1]
    have hmin : ∀ n, (∃ p, p ≤ n ∧ p < b.length ∧ ∃ x ∈ a, x.dig = (it b p).dig ∧ x.ob ≠ (it b p).ob) → ∃ p, p < b.length ∧ (∃ x ∈ a, x.dig = (it b p).dig ∧ x.ob ≠ (it b p).ob) ∧ ∀ k, k < p → ∀ x ∈ a, x.dig = (it b k).dig → x.ob = (it b k).ob := by
      intro n
      induction n with
      | zero => rintro ⟨p, h1, h2, h3⟩; exact ⟨p, h2, h3, fun k hk => by omega⟩
      | succ n ih =>
        rintro ⟨p, h1, h2, h3⟩
        by_cases h : ∃ p, p ≤ n ∧ p < b.length ∧ ∃ x ∈ a, x.dig = (it b p).dig ∧ x.ob ≠ (it b p).ob
        · exact ih h
        · refine ⟨p, h2, h3, fun k hk x hx hd => ?_⟩
          apply Classical.byContradiction
          intro hne
          exact h ⟨k, by omega, by omega, x, hx, hd, hne⟩
    obtain ⟨p0, hp0, hx0⟩ := hex
    obtain ⟨p, hp, ⟨x, hx, hd, hne⟩, hc⟩ := hmin p0 ⟨p0, Nat.le_refl _, hp0, hx0⟩
    have h1 : (mgFrom a b 0).2 = (p : Int) := mg_bad _ 0 a p (Nat.le_refl _) hb ha (Nat.zero_le _) hp (fun k _ hk => hc k hk) ⟨x, hx, hd, hne⟩
    obtain ⟨q, hq, rfl⟩ := mem_it.1 hx
    have h2 := ms_bad ha hb hp hq hd hne hc _ 0 0 [] (Nat.le_refl _) (Nat.zero_le _) (Nat.zero_le _)
    rw [h1, h2]
    exact ⟨rfl, fun h => by omega⟩
theorem msR_eq {a b : List S} (ha : StOk a) (hb : StOk b) : mergeF a b = msR a b := by
  obtain ⟨h1, h2⟩ := ms_mg ha.lt hb.lt
  unfold mergeF msR
  rw [ha.f, if_neg (by simp), hb.f, if_neg (by simp), h1]
  by_cases h : 0 ≤ (mgFrom a b 0).2
  · rw [if_pos h, if_pos h]
  · rw [if_neg h, if_neg h]
    have : (mgFrom a b 0).2 = -1 := (mg_un ha.lt hb.lt (mg_noc ha.lt hb.lt h)).1
    rw [h2 this]
end Ob
