/-
  Put and Merge of stores: the plain laws. No program in sight.
-/
import Derived.Test.YtiilhnfdlpgllaaObU
namespace Ob
open Go.Proofs.Ytiilhnfdlpgllaa (eqO eqO_iff)

/-- A stored object that is right. -/
def Good (x : S) : Prop := Ok x.ob ∧ x.dig = ((dig x.ob : Nat) : Int)
theorem stOk_iff {s : List S} : StOk s ↔ s.length ≤ 40 ∧ Sorted s ∧ ∀ x ∈ s, Good x := by
  constructor
  · intro h
    refine ⟨h.len, h.lt, fun x hx => ?_⟩
    obtain ⟨i, hi, rfl⟩ := mem_it.1 hx
    exact ⟨h.ok i hi, h.eq i hi⟩
  · rintro ⟨h1, h2, h3⟩
    exact ⟨h1, fun i hi => (h3 _ (it_mem hi)).1, fun i hi => (h3 _ (it_mem hi)).2, h2⟩
theorem sorted_le : ∀ {u v : List S}, u.Pairwise (fun x y => x.dig < y.dig) → v.Pairwise (fun x y => x.dig < y.dig) → (∀ x ∈ u, x ∈ v) → u.length ≤ v.length
  | [], _, _, _, _ => Nat.zero_le _
  | a :: u, [], _, _, h => by have := h a (by simp); cases this
  | a :: u, b :: v, hu, hv, h => by
    have hu' := hu
    rw [List.pairwise_cons] at hu hv
    by_cases e : a = b
    · subst e
      have := sorted_le hu.2 hv.2 (fun x hx => by
        rcases List.mem_cons.1 (h x (List.mem_cons_of_mem _ hx)) with e | h1
        · subst e; have := hu.1 x hx; omega
        · exact h1)
      simp only [List.length_cons]; omega
    · have hab : b.dig < a.dig := by
        rcases List.mem_cons.1 (h a (by simp)) with h1 | h1
        · exact absurd h1 e
        · exact hv.1 a h1
      have := sorted_le hu' hv.2 (fun x hx => by
        rcases List.mem_cons.1 (h x hx) with e1 | h1
        · subst e1
          rcases List.mem_cons.1 hx with e2 | h2
          · exact absurd e2.symm e
          · have := hu.1 x h2; omega
        · exact h1)
      simp only [List.length_cons] at this ⊢; omega
theorem Sorted.len_le {u v : List S} (hu : Sorted u) (hv : Sorted v) (h : ∀ x ∈ u, x ∈ v) : u.length ≤ v.length := sorted_le (sorted_pw.1 hu) (sorted_pw.1 hv) h

/-- When 'Put' takes the object. -/
structure PutT (s : List S) (o : O) (u : List S) : Prop where
  ok : StOk s
  ob : Ok o
  no : ∀ x ∈ s, x.dig = ((dig o : Nat) : Int) → x.ob = o
  un : Un s [⟨dig o, o⟩] u
  len : u.length ≤ 40
theorem PutT.st {s u : List S} {o : O} (h : PutT s o u) : StOk u := by
  obtain ⟨_, h2, h3⟩ := stOk_iff.1 h.ok
  refine stOk_iff.2 ⟨h.len, h.un.srt, fun x hx => ?_⟩
  rcases (h.un.mem x).1 hx with h1 | h1
  · exact h3 x h1
  · rw [List.mem_singleton] at h1; subst h1; exact ⟨h.ob, rfl⟩
theorem un_addS {s : List S} {o : O} (hs : Sorted s) (hok : addOk s (dig o) o = true) : Un s [⟨dig o, o⟩] (addS s (dig o) o) := by
  obtain ⟨h1, h2⟩ := addS_spec hs (dig o) o hok
  exact ⟨h1, fun x => by rw [h2, List.mem_singleton]⟩
/-- 'Put' fails and answers nothing, or it takes the object. -/
theorem putF_cases (s : List S) (o : O) : ((putF s o).2.2.1 ≠ 0 ∧ (putF s o).1 = []) ∨ ∃ u, putF s o = (u, ((dig o : Nat) : Int), (0, 0)) ∧ PutT s o u := by
  unfold putF
  by_cases h1 : (stF s).1 ≠ 0
  · rw [if_pos h1]; exact .inl ⟨h1, rfl⟩
  · rw [if_neg h1]
    obtain ⟨_, hs⟩ := stF_ok (s := s) (by omega)
    by_cases h2 : (obF o).1 ≠ 0
    · rw [if_pos h2]; exact .inl ⟨h2, rfl⟩
    · rw [if_neg h2]
      obtain ⟨_, ho⟩ := obF_ok (o := o) (by omega)
      by_cases h3 : addOk s (dig o) o = false
      · rw [if_pos h3]; exact .inl ⟨by decide, rfl⟩
      · rw [if_neg h3]
        have hok : addOk s (dig o) o = true := by simpa using h3
        by_cases h4 : 40 < (addS s (dig o) o).length
        · rw [if_pos h4]; exact .inl ⟨by decide, rfl⟩
        · rw [if_neg h4]
          exact .inr ⟨_, rfl, hs, ho, (addOk_iff hs.lt _ _).1 hok, un_addS hs.lt hok, by omega⟩
theorem PutT.eq {s u : List S} {o : O} (h : PutT s o u) : putF s o = (u, ((dig o : Nat) : Int), (0, 0)) := by
  have hok := (addOk_iff h.ok.lt (dig o) o).2 h.no
  have he := (un_addS h.ok.lt hok).eq h.un
  unfold putF
  rw [h.ok.f, if_neg (by simp), h.ob.f, if_neg (by simp), hok, if_neg (by simp), he, if_neg (by have := h.len; omega)]
open Classical in
theorem Un.len {s u : List S} {x : S} (h : Un s [x] u) (hs : Sorted s) (hx : ∀ y ∈ s, y.dig = x.dig → y = x) : u.length = if x ∈ s then s.length else s.length + 1 := by
  have hok : addOk s x.dig x.ob = true := (addOk_iff hs _ _).2 fun y hy hd => by rw [hx y hy hd]
  have he : addS s x.dig x.ob = u := by
    obtain ⟨h1, h2⟩ := addS_spec hs _ _ hok
    exact sorted_ext h1 h.srt fun z => by rw [h2, h.mem, List.mem_singleton]
  rw [← he]
  unfold addS
  by_cases hf : fnd s x.dig = true
  · obtain ⟨y, hy, e⟩ := (fnd_iff hs _).1 hf
    have := hx y hy e; subst this
    rw [if_pos hf, if_pos hy]
  · have hn : x ∉ s := fun hm => hf ((fnd_iff hs _).2 ⟨x, hm, rfl⟩)
    rw [if_neg hf, if_neg hn]
    have := lb_le s x.dig
    simp; omega
/-- The other order. -/
theorem put_swap {s a b : List S} {o p : O} (h1 : PutT s o a) (h2 : PutT a p b) : ∃ c, PutT s p c ∧ PutT c o b := by
  have hno : ∀ x ∈ s, x.dig = ((dig p : Nat) : Int) → x.ob = p := fun x hx hd => h2.no x ((h1.un.mem x).2 (.inl hx)) hd
  have hpo : ((dig o : Nat) : Int) = ((dig p : Nat) : Int) → o = p := fun e => h2.no ⟨dig o, o⟩ ((h1.un.mem _).2 (.inr (by simp))) e
  have hu := un_addS h1.ok.lt ((addOk_iff h1.ok.lt _ _).2 hno)
  have k0 : ∀ (q : O), (∀ x ∈ s, x.dig = ((dig q : Nat) : Int) → x.ob = q) → ∀ y ∈ s, y.dig = (⟨dig q, q⟩ : S).dig → y = ⟨dig q, q⟩ := fun q hq y hy hd => by
    have := hq y hy hd
    obtain ⟨yd, yo⟩ := y
    simp only at hd this
    rw [hd, this]
  have l1 := h1.un.len h1.ok.lt (k0 o h1.no)
  have l2 := hu.len h1.ok.lt (k0 p hno)
  have la := h1.len
  have lb := h2.len
  have hb : ∀ x, x ∈ b ↔ (x ∈ s ∨ x ∈ [(⟨dig o, o⟩ : S)]) ∨ x ∈ [(⟨dig p, p⟩ : S)] := fun x => by rw [h2.un.mem, h1.un.mem]
  have hlen : (addS s (dig p) p).length ≤ 40 := by
    refine Nat.le_trans (hu.srt.len_le h2.un.srt fun x hx => ?_) lb
    rw [hb]
    rcases (hu.mem x).1 hx with h | h
    · exact .inl (.inl h)
    · exact .inr h
  refine ⟨addS s (dig p) p, ⟨h1.ok, h2.ob, hno, hu, hlen⟩, ?_⟩
  have hst : StOk (addS s (dig p) p) := (PutT.mk h1.ok h2.ob hno hu hlen).st
  refine ⟨hst, h1.ob, fun x hx hd => ?_, ⟨h2.un.srt, fun x => ?_⟩, lb⟩
  · rcases (hu.mem x).1 hx with h | h
    · exact h1.no x h hd
    · rw [List.mem_singleton] at h; subst h
      exact (hpo hd.symm).symm
  · rw [hb, hu.mem]
    constructor
    · rintro ((h | h) | h)
      · exact .inl (.inl h)
      · exact .inr h
      · exact .inl (.inr h)
    · rintro ((h | h) | h)
      · exact .inl (.inl h)
      · exact .inr h
      · exact .inl (.inr h)
/-- When 'Merge' answers with the union. -/
structure MgT (a b u : List S) : Prop where
  oka : StOk a
  okb : StOk b
  no : NoC a b
  un : Un a b u
  len : u.length ≤ 40
theorem MgT.st {a b u : List S} (h : MgT a b u) : StOk u := by
  refine stOk_iff.2 ⟨h.len, h.un.srt, fun x hx => ?_⟩
  rcases (h.un.mem x).1 hx with h1 | h1
  · exact (stOk_iff.1 h.oka).2.2 x h1
  · exact (stOk_iff.1 h.okb).2.2 x h1
theorem mergeF_cases (a b : List S) : ((mergeF a b).2.1 ≠ 0 ∧ (mergeF a b).1 = []) ∨ ∃ u, mergeF a b = (u, (0, 0)) ∧ MgT a b u := by
  unfold mergeF
  by_cases h1 : (stF a).1 ≠ 0
  · rw [if_pos h1]; exact .inl ⟨h1, rfl⟩
  · rw [if_neg h1]
    obtain ⟨_, ha⟩ := stF_ok (s := a) (by omega)
    by_cases h2 : (stF b).1 ≠ 0
    · rw [if_pos h2]; exact .inl ⟨h2, rfl⟩
    · rw [if_neg h2]
      obtain ⟨_, hb⟩ := stF_ok (s := b) (by omega)
      by_cases h3 : 0 ≤ (mgFrom a b 0).2
      · rw [if_pos h3]; exact .inl ⟨by simp, rfl⟩
      · rw [if_neg h3]
        by_cases h4 : 40 < (mgFrom a b 0).1.length
        · rw [if_pos h4]; exact .inl ⟨by decide, rfl⟩
        · rw [if_neg h4]
          have hn := mg_noc ha.lt hb.lt h3
          exact .inr ⟨_, rfl, ha, hb, hn, (mg_un ha.lt hb.lt hn).2, by omega⟩
theorem MgT.eq {a b u : List S} (h : MgT a b u) : mergeF a b = (u, (0, 0)) := by
  obtain ⟨h1, h2⟩ := mg_un h.oka.lt h.okb.lt h.no
  have he := h2.eq h.un
  unfold mergeF
  rw [h.oka.f, if_neg (by simp), h.okb.f, if_neg (by simp), h1, if_neg (by decide), he, if_neg (by have := h.len; omega)]
theorem noc_self {a : List S} (h : Sorted a) : NoC a a := fun _ hx _ hy e => h.uniq hx hy e
theorem MgT.self {a : List S} (h : StOk a) : MgT a a a := ⟨h, h, noc_self h.lt, ⟨h.lt, fun x => by simp⟩, h.len⟩
theorem MgT.comm {a b u : List S} (h : MgT a b u) : MgT b a u := ⟨h.okb, h.oka, fun x hx y hy e => (h.no y hy x hx e.symm).symm, ⟨h.un.srt, fun x => by rw [h.un.mem, or_comm]⟩, h.len⟩
theorem MgT.assoc {a b c u v : List S} (h1 : MgT a b u) (h2 : MgT u c v) : ∃ z, MgT b c z ∧ MgT a z v := by
  have hn : NoC b c := fun x hx y hy e => h2.no x ((h1.un.mem x).2 (.inr hx)) y hy e
  obtain ⟨_, hu⟩ := mg_un h1.okb.lt h2.okb.lt hn
  have hv : ∀ x, x ∈ v ↔ (x ∈ a ∨ x ∈ b) ∨ x ∈ c := fun x => by rw [h2.un.mem, h1.un.mem]
  have hl : (mgFrom b c 0).1.length ≤ 40 := by
    refine Nat.le_trans (hu.srt.len_le h2.un.srt fun x hx => ?_) h2.len
    rw [hv]
    rcases (hu.mem x).1 hx with h | h
    · exact .inl (.inr h)
    · exact .inr h
  have hz : MgT b c (mgFrom b c 0).1 := ⟨h1.okb, h2.okb, hn, hu, hl⟩
  refine ⟨_, hz, h1.oka, hz.st, fun x hx y hy e => ?_, ⟨h2.un.srt, fun x => ?_⟩, h2.len⟩
  · rcases (hu.mem y).1 hy with h | h
    · exact h1.no x hx y h e
    · exact h2.no x ((h1.un.mem x).2 (.inl hx)) y h e
  · rw [hv, hu.mem, or_assoc]
end Ob
