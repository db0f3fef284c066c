/-
  References: sets of references and their updates. No program in sight.
  Logs of updates of references. No program in sight.
  Views, fourteenth part: an append at a step of a region that draws its order, and which block the row then owns.
  Views, sixteenth part: an append of a slice at a step of a region that draws its order.
  References: what slices of flat rows read as.
-/
import Derived.Test.YtipjejnncnndeaaGreatDoorG05
import Derived.Test.YtipjejnncnndeaaGreatDoorG01
import Derived.WalkKit
import Derived.WalkLawsBesides
import Derived.WalkSpells
import Derived.Deep.QuietTactic
import Derived.BigQuiet
import Derived.RegionTactic
import Derived.BigRegion
import Derived.Deep.RegionLaw
import Derived.Deep.RegionHeld3
import Derived.Lib.Hide
import Derived.KernelRfl
namespace Rf
structure R where
  name : List UInt8
  tgt : Int
deriving DecidableEq, Inhabited
structure U where
  name : List UInt8
  old : Int
  new : Int
deriving DecidableEq, Inhabited
abbrev Nm := List UInt8
theorem nlt_irrefl (a : Nm) : ¬ a < a := List.lt_irrefl a
theorem nlt_trans {a b c : Nm} (h : a < b) (k : b < c) : a < c := List.lt_trans h k
theorem nlt_tri (a b : Nm) : a < b ∨ a = b ∨ b < a := by
  by_cases h : a < b
  · exact .inl h
  · by_cases k : b < a
    · exact .inr (.inr k)
    · exact .inr (.inl (List.le_antisymm (List.not_lt.1 k) (List.not_lt.1 h)))
theorem nlt_asymm {a b : Nm} (h : a < b) : ¬ b < a := fun k => nlt_irrefl a (nlt_trans h k)
theorem nlt_of_not {a b : Nm} (h : ¬ a < b) (hne : a ≠ b) : b < a := by
  rcases nlt_tri a b with k | k | k
  · exact absurd k h
  · exact absurd k hne
  · exact k
def it (s : List R) (i : Nat) : R := s[i]?.getD default
theorem it_eq (s : List R) (i : Nat) (h : i < s.length) : s[i] = it s i := by unfold it; rw [List.getElem?_eq_getElem h]; rfl
/-- A digest, as the program says it. -/
def dgOk (n : Int) : Bool := decide (0 ≤ n) && decide (n < 2305843009213693951)
/-- The code of reference i's fault. -/
def code (s : List R) (i : Nat) : Int :=
  if nameOk (it s i).name = false then 12 else if dgOk (it s i).tgt = false then 3 else if 0 < i ∧ ¬ (it s (i - 1)).name < (it s i).name then 5
  else if (s.take i).any (fun r => conf r.name (it s i).name) then 19 else 0
def rfFrom (s : List R) (i : Nat) : Int × Int := if i < s.length then if code s i ≠ 0 then (code s i, (i : Int)) else rfFrom s (i + 1) else (0, 0)
termination_by s.length - i
theorem rfFrom_end (s : List R) (i : Nat) (h : s.length ≤ i) : rfFrom s i = (0, 0) := by rw [rfFrom, if_neg (by omega)]
theorem rfFrom_bad (s : List R) (i : Nat) (h : i < s.length) (hc : code s i ≠ 0) : rfFrom s i = (code s i, (i : Int)) := by rw [rfFrom, if_pos h, if_pos hc]
theorem rfFrom_next (s : List R) (i : Nat) (h : i < s.length) (hc : code s i = 0) : rfFrom s i = rfFrom s (i + 1) := by rw [rfFrom, if_pos h, if_neg (by omega)]
/-- The fault of a set of references. -/
def rfF (s : List R) : Int × Int := if 30 < s.length then (2, -1) else rfFrom s 0
/-- A valid set. -/
structure Ok (s : List R) : Prop where
  len : s.length ≤ 30
  name : ∀ x ∈ s, nameOk x.name = true
  tgt : ∀ x ∈ s, dgOk x.tgt = true
  srt : s.Pairwise (fun x y => x.name < y.name)
  cnf : s.Pairwise (fun x y => conf x.name y.name = false)
theorem rfFrom_all (s : List R) : ∀ n i, s.length - i ≤ n → (rfFrom s i).1 = 0 → rfFrom s i = (0, 0) ∧ ∀ j, j < s.length → i ≤ j → code s j = 0
  | 0, i, hn, _ => ⟨rfFrom_end s i (by omega), fun j h1 h2 => by omega⟩
  | n + 1, i, hn, h => by
    by_cases hi : i < s.length
    · by_cases hc : code s i = 0
      · rw [rfFrom_next s i hi hc] at h ⊢
        obtain ⟨h1, h2⟩ := rfFrom_all s n (i + 1) (by omega) h
        refine ⟨h1, fun j hj hij => ?_⟩
        by_cases e : j = i
        · rw [e]; exact hc
        · exact h2 j hj (by omega)
      · rw [rfFrom_bad s i hi hc] at h; exact absurd h hc
    · exact ⟨rfFrom_end s i (by omega), fun j h1 h2 => by omega⟩
theorem code_zero {s : List R} {i : Nat} (h : code s i = 0) : nameOk (it s i).name = true ∧ dgOk (it s i).tgt = true ∧ (0 < i → (it s (i - 1)).name < (it s i).name) ∧ (s.take i).any (fun r => conf r.name (it s i).name) = false := by
  unfold code at h
  split at h
  · cases h
  rename_i h1
  split at h
  · cases h
  rename_i h2
  split at h
  · cases h
  rename_i h3
  split at h
  · cases h
  rename_i h4
  refine ⟨by simpa using h1, by simpa using h2, fun h0 => Classical.byContradiction fun hn => h3 ⟨h0, hn⟩, by simpa using h4⟩
theorem srt_of {s : List R} (h : ∀ i, i + 1 < s.length → (it s i).name < (it s (i + 1)).name) : s.Pairwise (fun x y => x.name < y.name) := by
  rw [List.pairwise_iff_getElem]
  have key : ∀ d i, i + d < s.length → 0 < d → (it s i).name < (it s (i + d)).name := by
    intro d
    induction d with
    | zero => intro i _ h0; omega
    | succ d ih =>
      intro i hi _
      by_cases h0 : d = 0
      · subst h0; exact h i hi
      · exact nlt_trans (ih i (by omega) (by omega)) (h (i + d) (by omega))
  intro i j hi hj hij
  have := key (j - i) i (by omega) (by omega)
  rw [show i + (j - i) = j by omega] at this
  rw [it_eq s i hi, it_eq s j hj]
  exact this
theorem rfF_ok {s : List R} (h : (rfF s).1 = 0) : rfF s = (0, 0) ∧ Ok s := by
  unfold rfF at h ⊢
  split at h
  · cases h
  rename_i hl
  rw [if_neg hl]
  obtain ⟨h1, h2⟩ := rfFrom_all s s.length 0 (by omega) h
  refine ⟨h1, ⟨by omega, fun x hx => ?_, fun x hx => ?_, srt_of fun i hi => ?_, ?_⟩⟩
  · obtain ⟨i, hi, rfl⟩ := List.getElem_of_mem hx
    rw [it_eq s i hi]; exact (code_zero (h2 i hi (Nat.zero_le _))).1
  · obtain ⟨i, hi, rfl⟩ := List.getElem_of_mem hx
    rw [it_eq s i hi]; exact (code_zero (h2 i hi (Nat.zero_le _))).2.1
  · have := (code_zero (h2 (i + 1) hi (Nat.zero_le _))).2.2.1 (by omega)
    rwa [Nat.add_sub_cancel] at this
  · rw [List.pairwise_iff_getElem]
    intro i j hi hj hij
    have := (code_zero (h2 j hj (Nat.zero_le _))).2.2.2
    rw [List.any_eq_false] at this
    have hm : s[i] ∈ s.take j := by
      rw [List.mem_take_iff_getElem]; exact ⟨i, by omega, rfl⟩
    have h3 := this _ hm
    rw [it_eq s j hj]
    simpa using h3
theorem Ok.f {s : List R} (h : Ok s) : rfF s = (0, 0) := by
  unfold rfF
  rw [if_neg (by have := h.len; omega)]
  have hc : ∀ i, i < s.length → code s i = 0 := by
    intro i hi
    have hm : it s i ∈ s := by rw [← it_eq s i hi]; exact List.getElem_mem hi
    unfold code
    rw [if_neg (by rw [h.name _ hm]; simp), if_neg (by rw [h.tgt _ hm]; simp), if_neg, if_neg]
    · rw [Bool.not_eq_true, List.any_eq_false]
      intro x hx
      rw [List.mem_take_iff_getElem] at hx
      obtain ⟨j, hj, rfl⟩ := hx
      have := List.pairwise_iff_getElem.1 h.cnf j i (by omega) hi (by omega)
      rw [it_eq s i hi] at this
      simpa using this
    · rintro ⟨h0, hn⟩
      have := List.pairwise_iff_getElem.1 h.srt (i - 1) i (by omega) hi (by omega)
      rw [it_eq s i hi, it_eq s (i - 1) (by omega)] at this
      exact hn this
  have : ∀ n i, s.length - i ≤ n → rfFrom s i = (0, 0) := by
    intro n
    induction n with
    | zero => intro i hi; exact rfFrom_end s i (by omega)
    | succ n ih =>
      intro i hi
      by_cases h1 : i < s.length
      · rw [rfFrom_next s i h1 (hc i h1)]; exact ih (i + 1) (by omega)
      · exact rfFrom_end s i (by omega)
  exact this s.length 0 (by omega)
/-! ### updates -/
/-- The target of a name, or -1. -/
def tgtOf : List R → Nm → Int
  | [], _ => -1
  | x :: s, n => if x.name = n then x.tgt else tgtOf s n
/-- Where a name is, or would be. -/
def lb : List R → Nm → Nat
  | [], _ => 0
  | x :: s, n => if x.name < n then lb s n + 1 else 0
def fnd (s : List R) (n : Nm) : Bool := decide (lb s n < s.length) && decide ((it s (lb s n)).name = n)
theorem lb_le : ∀ (s : List R) (n : Nm), lb s n ≤ s.length
  | [], _ => by simp [lb]
  | x :: s, n => by
    unfold lb; split
    · have := lb_le s n; simp; omega
    · simp
/-- The code of an update's error. -/
def upC (s : List R) (u : U) : Int :=
  if nameOk u.name = false then 12 else if (u.old ≠ -1 ∧ dgOk u.old = false) ∨ (u.new ≠ -1 ∧ dgOk u.new = false) then 3 else if u.old = -1 ∧ u.new = -1 then 5
  else if tgtOf s u.name ≠ u.old then 16 else if u.old ≠ -1 then 0 else if s.any (fun x => conf x.name u.name) then 19 else if 30 ≤ s.length then 14 else 0
/-- The set behind an update. -/
def ins (u : U) : List R := if u.new = -1 then [] else [⟨u.name, u.new⟩]
def upS (s : List R) (u : U) : List R := s.take (lb s u.name) ++ ins u ++ s.drop (lb s u.name + (if fnd s u.name then 1 else 0))
abbrev Srt (s : List R) : Prop := s.Pairwise (fun x y => x.name < y.name)
theorem lb_nil (n : Nm) : lb [] n = 0 := rfl
theorem upS_nil (u : U) : upS [] u = ins u := by simp [upS, lb]
theorem upS_cons (x : R) (s : List R) (u : U) : upS (x :: s) u = if x.name < u.name then x :: upS s u else if x.name = u.name then ins u ++ s else ins u ++ x :: s := by
  by_cases h : x.name < u.name
  · rw [if_pos h]
    have e : lb (x :: s) u.name = lb s u.name + 1 := by rw [lb, if_pos h]
    have f : fnd (x :: s) u.name = fnd s u.name := by
      unfold fnd; rw [e]
      have : it (x :: s) (lb s u.name + 1) = it s (lb s u.name) := by unfold it; simp
      rw [this]; simp
    unfold upS
    rw [f, e]
    have : lb s u.name + 1 + (if fnd s u.name = true then 1 else 0) = (lb s u.name + (if fnd s u.name = true then 1 else 0)) + 1 := by omega
    rw [this]
    simp
  · rw [if_neg h]
    have e : lb (x :: s) u.name = 0 := by rw [lb, if_neg h]
    have f : fnd (x :: s) u.name = decide (x.name = u.name) := by
      unfold fnd; rw [e]; simp [it]
    unfold upS
    rw [f, e]
    by_cases h2 : x.name = u.name
    · simp [h2]
    · simp [h2]
theorem tgt_none {s : List R} {n : Nm} (h : ∀ x ∈ s, x.name ≠ n) : tgtOf s n = -1 := by
  induction s with
  | nil => rfl
  | cons x s ih => rw [tgtOf, if_neg (h x (by simp)), ih (fun y hy => h y (by simp [hy]))]
theorem tgt_ins (u : U) (s : List R) (n : Nm) (h : ∀ x ∈ s, x.name ≠ u.name) : tgtOf (ins u ++ s) n = if n = u.name then u.new else tgtOf s n := by
  unfold ins
  by_cases hn : u.new = -1
  · rw [if_pos hn]
    by_cases e : n = u.name
    · subst e; rw [if_pos rfl, List.nil_append, tgt_none h, hn]
    · rw [if_neg e, List.nil_append]
  · rw [if_neg hn, List.singleton_append, tgtOf]
    by_cases e : n = u.name
    · subst e; simp
    · rw [if_neg (Ne.symm e), if_neg e]
theorem tgt_upS : ∀ {s : List R} (_ : Srt s) (u : U) (n : Nm), tgtOf (upS s u) n = if n = u.name then u.new else tgtOf s n
  | [], _, u, n => by
    have := tgt_ins u [] n (fun x h => by cases h)
    rw [List.append_nil] at this
    rw [upS_nil, this]
  | x :: s, hs, u, n => by
    obtain ⟨h1, h2⟩ := List.pairwise_cons.1 hs
    rw [upS_cons]
    by_cases h : x.name < u.name
    · rw [if_pos h, tgtOf, tgt_upS h2 u n, tgtOf]
      by_cases e : x.name = n
      · rw [if_pos e, if_pos e, if_neg (fun e2 => nlt_irrefl x.name (by rw [e, e2] at h ⊢; exact h))]
      · rw [if_neg e, if_neg e]
    · rw [if_neg h]
      have hgt : ∀ y ∈ s, y.name ≠ u.name := fun y hy e => by
        have := h1 y hy; rw [e] at this; exact h this
      by_cases e : x.name = u.name
      · rw [if_pos e, tgt_ins u s n hgt]
        by_cases e2 : n = u.name
        · rw [if_pos e2, if_pos e2]
        · rw [if_neg e2, if_neg e2, tgtOf, if_neg (fun e3 => e2 (by rw [← e3, e]))]
      · rw [if_neg e, tgt_ins u (x :: s) n (fun y hy => by
          rcases List.mem_cons.1 hy with rfl | hy
          · exact e
          · exact hgt y hy)]
theorem mem_tgt {s : List R} (hs : Srt s) {x : R} (hx : x ∈ s) : tgtOf s x.name = x.tgt := by
  induction s with
  | nil => cases hx
  | cons y s ih =>
    obtain ⟨h1, h2⟩ := List.pairwise_cons.1 hs
    rcases List.mem_cons.1 hx with rfl | hx
    · rw [tgtOf, if_pos rfl]
    · rw [tgtOf, if_neg (fun e => nlt_irrefl x.name (by have := h1 x hx; rwa [e] at this)), ih h2 hx]
theorem tgt_mem {s : List R} {n : Nm} (h : tgtOf s n ≠ -1) : ⟨n, tgtOf s n⟩ ∈ s := by
  induction s with
  | nil => exact absurd rfl h
  | cons y s ih =>
    rw [tgtOf] at h ⊢
    by_cases e : y.name = n
    · rw [if_pos e]; subst e; exact List.mem_cons_self ..
    · rw [if_neg e] at h ⊢; exact List.mem_cons_of_mem _ (ih h)
theorem pw_ext : ∀ {u v : List R}, Srt u → Srt v → (∀ x, x ∈ u ↔ x ∈ v) → u = v
  | [], [], _, _, _ => rfl
  | [], y :: v, _, _, h => by have := (h y).2 (by simp); cases this
  | x :: u, [], _, _, h => by have := (h x).1 (by simp); cases this
  | x :: u, y :: v, hu, hv, h => by
    obtain ⟨u1, u2⟩ := List.pairwise_cons.1 hu
    obtain ⟨v1, v2⟩ := List.pairwise_cons.1 hv
    have e : x = y := by
      rcases List.mem_cons.1 ((h x).1 (by simp)) with e | hx
      · exact e
      · rcases List.mem_cons.1 ((h y).2 (by simp)) with e | hy
        · exact e.symm
        · exact absurd (v1 x hx) (nlt_asymm (u1 y hy))
    subst e
    rw [pw_ext u2 v2 fun z => by
      constructor
      · intro hz
        rcases List.mem_cons.1 ((h z).1 (by simp [hz])) with e | hz2
        · subst e; exact absurd (u1 z hz) (nlt_irrefl _)
        · exact hz2
      · intro hz
        rcases List.mem_cons.1 ((h z).2 (by simp [hz])) with e | hz2
        · subst e; exact absurd (v1 z hz) (nlt_irrefl _)
        · exact hz2]
theorem Ok.ne {s : List R} (h : Ok s) {x : R} (hx : x ∈ s) : x.tgt ≠ -1 := fun e => by
  have := h.tgt x hx
  rw [e] at this; revert this; decide
theorem ext {s t : List R} (hs : Ok s) (ht : Ok t) (h : ∀ n, tgtOf s n = tgtOf t n) : s = t := by
  refine pw_ext hs.srt ht.srt fun x => ⟨fun hx => ?_, fun hx => ?_⟩
  · have e := mem_tgt hs.srt hx
    have := tgt_mem (s := t) (n := x.name) (by rw [← h, e]; exact hs.ne hx)
    rwa [← h, e] at this
  · have e := mem_tgt ht.srt hx
    have := tgt_mem (s := s) (n := x.name) (by rw [h, e]; exact ht.ne hx)
    rwa [h, e] at this
/-- What is in the set behind an update. -/
theorem mem_upS {s : List R} {u : U} {x : R} (h : x ∈ upS s u) : x ∈ s ∨ (u.new ≠ -1 ∧ x = ⟨u.name, u.new⟩) := by
  unfold upS at h
  rw [List.mem_append, List.mem_append] at h
  rcases h with (h | h) | h
  · exact .inl (List.mem_of_mem_take h)
  · unfold ins at h
    by_cases hn : u.new = -1
    · rw [if_pos hn] at h; cases h
    · rw [if_neg hn] at h; exact .inr ⟨hn, List.mem_singleton.1 h⟩
  · exact .inl (List.mem_of_mem_drop h)
theorem srt_ins {u : U} {s : List R} (hs : Srt s) (h : ∀ y ∈ s, u.name < y.name) : Srt (ins u ++ s) := by
  unfold ins
  by_cases hn : u.new = -1
  · rw [if_pos hn]; exact hs
  · rw [if_neg hn, List.singleton_append, Srt, List.pairwise_cons]; exact ⟨h, hs⟩
theorem srt_upS : ∀ {s : List R} (_ : Srt s) (u : U), Srt (upS s u)
  | [], _, u => by
    have := srt_ins (u := u) (s := []) List.Pairwise.nil (fun y h => by cases h)
    rw [List.append_nil] at this
    rw [upS_nil]; exact this
  | x :: s, hs, u => by
    obtain ⟨h1, h2⟩ := List.pairwise_cons.1 hs
    rw [upS_cons]
    by_cases h : x.name < u.name
    · rw [if_pos h, Srt, List.pairwise_cons]
      refine ⟨fun y hy => ?_, srt_upS h2 u⟩
      rcases mem_upS hy with hy | ⟨_, rfl⟩
      · exact h1 y hy
      · exact h
    · rw [if_neg h]
      by_cases e : x.name = u.name
      · rw [if_pos e]; exact srt_ins h2 (fun y hy => by rw [← e]; exact h1 y hy)
      · rw [if_neg e]
        have hx := nlt_of_not h e
        refine srt_ins hs (fun y hy => ?_)
        rcases List.mem_cons.1 hy with rfl | hy
        · exact hx
        · exact nlt_trans hx (h1 y hy)
/-! ### what an update without an error keeps -/
theorem conf_self (a : Nm) : conf a a = false := by rw [conf_eq]; unfold confR; simp
theorem Ok.cn {s : List R} (h : Ok s) {x y : R} (hx : x ∈ s) (hy : y ∈ s) : conf x.name y.name = false := by
  obtain ⟨i, hi, rfl⟩ := List.getElem_of_mem hx
  obtain ⟨j, hj, rfl⟩ := List.getElem_of_mem hy
  rcases Nat.lt_trichotomy i j with hij | hij | hij
  · exact List.pairwise_iff_getElem.1 h.cnf i j hi hj hij
  · subst hij; exact conf_self _
  · rw [conf_comm]; exact List.pairwise_iff_getElem.1 h.cnf j i hj hi hij
structure UOk (s : List R) (u : U) : Prop where
  name : nameOk u.name = true
  old : u.old = -1 ∨ dgOk u.old = true
  new : u.new = -1 ∨ dgOk u.new = true
  some_ : u.old ≠ -1 ∨ u.new ≠ -1
  now : tgtOf s u.name = u.old
  cnf : u.old = -1 → ∀ x ∈ s, conf x.name u.name = false
  len : u.old = -1 → s.length < 30
theorem upC_ok {s : List R} {u : U} : upC s u = 0 ↔ UOk s u := by
  unfold upC
  constructor
  · intro h
    split at h
    · cases h
    rename_i h1
    split at h
    · cases h
    rename_i h2
    split at h
    · cases h
    rename_i h3
    split at h
    · cases h
    rename_i h4
    refine ⟨by simpa using h1, ?_, ?_, ?_, Classical.not_not.1 h4, fun ho => ?_, fun ho => ?_⟩
    · by_cases e : u.old = -1
      · exact .inl e
      · exact .inr (by rw [← Bool.not_eq_false]; exact fun hb => h2 (.inl ⟨e, hb⟩))
    · by_cases e : u.new = -1
      · exact .inl e
      · exact .inr (by rw [← Bool.not_eq_false]; exact fun hb => h2 (.inr ⟨e, hb⟩))
    · by_cases e : u.old = -1
      · exact .inr (fun e2 => h3 ⟨e, e2⟩)
      · exact .inl e
    · rw [if_neg (fun h => h ho)] at h
      split at h
      · cases h
      rename_i h5
      intro x hx
      rw [Bool.not_eq_true, List.any_eq_false] at h5
      simpa using h5 x hx
    · rw [if_neg (fun h => h ho)] at h
      split at h
      · cases h
      split at h
      · cases h
      · omega
  · intro h
    rw [if_neg (by rw [h.name]; simp), if_neg, if_neg (fun e => h.some_.elim (fun h => h e.1) (fun h => h e.2)), if_neg (fun hn => hn h.now)]
    · by_cases ho : u.old = -1
      · rw [if_neg (fun h => h ho), if_neg, if_neg (by have := h.len ho; omega)]
        rw [Bool.not_eq_true, List.any_eq_false]
        intro x hx
        simpa using h.cnf ho x hx
      · rw [if_pos ho]
    · rintro (⟨h1, h2⟩ | ⟨h1, h2⟩)
      · rcases h.old with e | e
        · exact h1 e
        · rw [e] at h2; cases h2
      · rcases h.new with e | e
        · exact h1 e
        · rw [e] at h2; cases h2
theorem ins_len (u : U) : (ins u).length = if u.new = -1 then 0 else 1 := by unfold ins; split <;> rfl
theorem len_upS : ∀ (s : List R) (u : U), Srt s → (upS s u).length + (if tgtOf s u.name = -1 then 0 else 1) = s.length + (if u.new = -1 then 0 else 1) ∨ ∃ x ∈ s, x.tgt = -1
  | [], u, _ => by left; rw [upS_nil, ins_len]; simp [tgtOf]
  | x :: s, u, hs => by
    obtain ⟨h1, h2⟩ := List.pairwise_cons.1 hs
    rw [upS_cons]
    by_cases h : x.name < u.name
    · have hne : ¬ x.name = u.name := fun e => nlt_irrefl u.name (by rw [e] at h; exact h)
      have ht : tgtOf (x :: s) u.name = tgtOf s u.name := by rw [tgtOf, if_neg hne]
      rw [if_pos h, ht]
      rcases len_upS s u h2 with h3 | ⟨y, hy, h3⟩
      · left; simp only [List.length_cons]; omega
      · exact .inr ⟨y, by simp [hy], h3⟩
    · rw [if_neg h]
      by_cases e : x.name = u.name
      · have ht2 : tgtOf (x :: s) u.name = x.tgt := by rw [tgtOf, if_pos e]
        rw [if_pos e, ht2]
        by_cases ht : x.tgt = -1
        · exact .inr ⟨x, by simp, ht⟩
        · left; rw [if_neg ht, List.length_append, ins_len, List.length_cons]; omega
      · have ht2 : tgtOf (x :: s) u.name = tgtOf s u.name := by rw [tgtOf, if_neg e]
        rw [if_neg e, ht2]
        have hx := nlt_of_not h e
        left
        rw [tgt_none (fun y hy e2 => by have := h1 y hy; rw [e2] at this; exact h this), if_pos rfl, List.length_append, ins_len]
        omega
theorem Ok.lenU {s : List R} (h : Ok s) (u : U) : (upS s u).length + (if tgtOf s u.name = -1 then 0 else 1) = s.length + (if u.new = -1 then 0 else 1) := by
  rcases len_upS s u h.srt with h1 | ⟨x, hx, h1⟩
  · exact h1
  · exact absurd h1 (h.ne hx)
theorem Ok.cnU {s : List R} (h : Ok s) {u : U} (hu : UOk s u) {x : R} (hx : x ∈ s) : conf x.name u.name = false := by
  by_cases ho : u.old = -1
  · exact hu.cnf ho x hx
  · have hm := tgt_mem (s := s) (n := u.name) (by rw [hu.now]; exact ho)
    exact h.cn hx hm
theorem Ok.up {s : List R} (h : Ok s) {u : U} (hu : UOk s u) : Ok (upS s u) := by
  refine ⟨?_, fun x hx => ?_, fun x hx => ?_, srt_upS h.srt u, ?_⟩
  · have h1 := h.lenU u
    have h2 := h.len
    rw [hu.now] at h1
    by_cases ho : u.old = -1
    · have := hu.len ho
      rw [if_pos ho] at h1
      split at h1 <;> omega
    · rw [if_neg ho] at h1
      split at h1 <;> omega
  · rcases mem_upS hx with hx | ⟨_, rfl⟩
    · exact h.name x hx
    · exact hu.name
  · rcases mem_upS hx with hx | ⟨hn, rfl⟩
    · exact h.tgt x hx
    · exact hu.new.resolve_left hn
  · rw [List.pairwise_iff_getElem]
    intro i j hi hj _
    rcases mem_upS (List.getElem_mem hi) with hx | ⟨_, hx⟩
    · rcases mem_upS (List.getElem_mem hj) with hy | ⟨_, hy⟩
      · exact h.cn hx hy
      · rw [hy]; exact h.cnU hu hx
    · rw [hx]
      rcases mem_upS (List.getElem_mem hj) with hy | ⟨_, hy⟩
      · rw [conf_comm]; exact h.cnU hu hy
      · rw [hy]; exact conf_self _
/-- Exchanging the old and the new target undoes an update. -/
def inv (u : U) : U := ⟨u.name, u.new, u.old⟩
theorem Ok.undo {s : List R} (h : Ok s) {u : U} (hu : UOk s u) : UOk (upS s u) (inv u) ∧ upS (upS s u) (inv u) = s := by
  have hx := h.up hu
  have hU : UOk (upS s u) (inv u) := by
    refine ⟨hu.name, hu.new, hu.old, hu.some_.symm, ?_, fun hn x hx => ?_, fun hn => ?_⟩
    · show tgtOf (upS s u) u.name = u.new
      rw [tgt_upS h.srt, if_pos rfl]
    · rcases mem_upS hx with hx | ⟨hn2, _⟩
      · exact h.cnU hu hx
      · exact absurd hn hn2
    · have h1 := h.lenU u
      have h2 := h.len
      have ho : u.old ≠ -1 := hu.some_.resolve_right (fun h => h hn)
      have hn' : u.new = -1 := hn
      rw [hu.now, if_neg ho, if_pos hn'] at h1
      omega
  refine ⟨hU, ext (hx.up hU) h fun n => ?_⟩
  rw [tgt_upS hx.srt, tgt_upS h.srt]
  show (if n = u.name then u.old else if n = u.name then u.new else tgtOf s n) = tgtOf s n
  by_cases e : n = u.name
  · rw [if_pos e, e, hu.now]
  · rw [if_neg e, if_neg e]
/-- Updates of different names that do not conflict. -/
theorem Ok.comm {s : List R} (h : Ok s) {u v : U} (hl : s.length ≤ 28) (hne : u.name ≠ v.name) (hc : conf u.name v.name = false) (hu : UOk s u) (hv : UOk s v) :
    UOk (upS s u) v ∧ UOk (upS s v) u ∧ upS (upS s u) v = upS (upS s v) u := by
  have key : ∀ {u v : U}, u.name ≠ v.name → conf u.name v.name = false → UOk s u → UOk s v → UOk (upS s u) v := by
    intro u v hne hc hu hv
    refine ⟨hv.name, hv.old, hv.new, hv.some_, ?_, fun ho x hx => ?_, fun _ => ?_⟩
    · rw [tgt_upS h.srt, if_neg (Ne.symm hne), hv.now]
    · rcases mem_upS hx with hx | ⟨_, rfl⟩
      · exact hv.cnf ho x hx
      · exact hc
    · have h1 := h.lenU u
      split at h1 <;> split at h1 <;> omega
  have k1 := key hne hc hu hv
  have k2 := key (Ne.symm hne) (by rw [conf_comm]; exact hc) hv hu
  refine ⟨k1, k2, ext ((h.up hu).up k1) ((h.up hv).up k2) fun n => ?_⟩
  rw [tgt_upS (h.up hu).srt, tgt_upS h.srt, tgt_upS (h.up hv).srt, tgt_upS h.srt]
  by_cases e : n = u.name
  · rw [if_pos e, if_pos e, if_neg (fun e2 => hne (by rw [← e, e2]))]
  · rw [if_neg e, if_neg e]
/-! ### several updates -/
/-- What 'Batch' leaves: the sets as they come, or the fault of update i. -/
def batF : List R → List U → Nat → List R × (Int × Int)
  | s, [], _ => (s, (0, 0))
  | s, u :: l, i => if upC s u ≠ 0 then ([], (upC s u, (i : Int))) else batF (upS s u) l (i + 1)
def app : List R → List U → Option (List R)
  | s, [] => some s
  | s, u :: l => if upC s u = 0 then app (upS s u) l else none
theorem app_append : ∀ (s : List R) (l m : List U), app s (l ++ m) = (app s l).bind fun x => app x m
  | s, [], m => rfl
  | s, u :: l, m => by
    rw [List.cons_append, app, app]
    split
    · exact app_append _ l m
    · rfl
theorem app_ok : ∀ {s : List R} (l : List U) {x : List R}, Ok s → app s l = some x → Ok x
  | s, [], x, h, e => by rw [app] at e; injection e with e; subst e; exact h
  | s, u :: l, x, h, e => by
    rw [app] at e
    split at e
    · rename_i hu; exact app_ok l (h.up (upC_ok.1 hu)) e
    · cases e
theorem batF_some : ∀ {s : List R} (l : List U) (i : Nat) {x : List R}, app s l = some x → batF s l i = (x, (0, 0))
  | s, [], i, x, e => by rw [app] at e; injection e with e; subst e; rfl
  | s, u :: l, i, x, e => by
    rw [app] at e
    split at e
    · rename_i hu; rw [batF, if_neg (fun h => h hu)]; exact batF_some l (i + 1) e
    · cases e
theorem batF_none : ∀ {s : List R} (l : List U) (i : Nat), app s l = none → ∃ c j, c ≠ 0 ∧ batF s l i = ([], (c, j))
  | s, [], i, e => by cases e
  | s, u :: l, i, e => by
    rw [app] at e
    split at e
    · rename_i hu; rw [batF, if_neg (fun h => h hu)]; exact batF_none l (i + 1) e
    · rename_i hu; exact ⟨upC s u, i, hu, by rw [batF, if_pos hu]⟩
theorem app_split {s x : List R} {l : List U} (k : Nat) (h : app s l = some x) : ∃ a, app s (l.take k) = some a ∧ app a (l.drop k) = some x := by
  rw [← List.take_append_drop k l, app_append] at h
  rcases ha : app s (l.take k) with _ | a
  · rw [ha] at h; cases h
  · rw [ha] at h; exact ⟨a, rfl, h⟩
/-- Undoing updates, the last one first. -/
theorem app_undo : ∀ {s x : List R} (l : List U), Ok s → app s l = some x → app x (l.reverse.map inv) = some s
  | s, x, [], _, h => by rw [app] at h; injection h with h; subst h; rfl
  | s, x, u :: l, hs, h => by
    rw [app] at h
    split at h
    · rename_i hu
      have hU := upC_ok.1 hu
      have ih := app_undo l (hs.up hU) h
      obtain ⟨h1, h2⟩ := hs.undo hU
      rw [List.reverse_cons, List.map_append, app_append, ih, Option.bind_some, List.map_singleton, app, if_pos (upC_ok.2 h1), h2]
      rfl
    · cases h
/-- The target of one name follows from the updates of that name. -/
theorem app_tgt : ∀ {s x : List R} (l : List U), Ok s → app s l = some x → ∀ n, tgtOf x n = (l.filter (fun u => decide (u.name = n))).foldl (fun _ u => u.new) (tgtOf s n)
  | s, x, [], _, h, n => by rw [app] at h; injection h with h; subst h; rfl
  | s, x, u :: l, hs, h, n => by
    rw [app] at h
    split at h
    · rename_i hu
      have hU := upC_ok.1 hu
      rw [app_tgt l (hs.up hU) h n, tgt_upS hs.srt]
      by_cases e : n = u.name
      · subst e; simp
      · rw [if_neg e, List.filter_cons_of_neg (by simpa using Ne.symm e)]
    · cases h
/-! ### the reference's loop over a set -/
/-- One step of the reference's 'UpdateRefs': what is put out, and whether the update has been put in. -/
def upStep (u : U) (a : List R × Bool) (x : R) : List R × Bool :=
  let b := if a.2 = false ∧ ¬ x.name < u.name then (a.1 ++ [⟨u.name, u.new⟩], true) else a
  (if x.name = u.name then b.1 else b.1 ++ [x], b.2)
def upLoop (s : List R) (u : U) : List R × Bool := s.foldl (upStep u) ([], decide (u.new = -1))
def upR (s : List R) (u : U) : List R := if (upLoop s u).2 then (upLoop s u).1 else (upLoop s u).1 ++ [⟨u.name, u.new⟩]
theorem step_put (u : U) : ∀ (s : List R) (o : List R), (∀ x ∈ s, x.name ≠ u.name) → s.foldl (upStep u) (o, true) = (o ++ s, true)
  | [], o, _ => by simp
  | x :: s, o, h => by
    rw [List.foldl_cons]
    have e : upStep u (o, true) x = (o ++ [x], true) := by unfold upStep; simp [h x (by simp)]
    rw [e, step_put u s _ (fun y hy => h y (by simp [hy]))]
    simp
theorem step_ins (u : U) : ∀ (s : List R) (o : List R) (p : Bool), Srt s → (p = decide (u.new = -1)) →
    (let r := s.foldl (upStep u) (o, p); if r.2 then r.1 else r.1 ++ [⟨u.name, u.new⟩]) = o ++ upS s u
  | [], o, p, _, hp => by
    subst hp
    rw [upS_nil]
    unfold ins
    by_cases h : u.new = -1
    · simp [h]
    · simp [h]
  | x :: s, o, p, hs, hp => by
    obtain ⟨h1, h2⟩ := List.pairwise_cons.1 hs
    rw [List.foldl_cons, upS_cons]
    by_cases h : x.name < u.name
    · have hne : ¬ x.name = u.name := fun e => nlt_irrefl u.name (by rw [e] at h; exact h)
      have e : upStep u (o, p) x = (o ++ [x], p) := by unfold upStep; simp [h, hne]
      rw [e, if_pos h]
      have := step_ins u s (o ++ [x]) p h2 hp
      rw [this]; simp
    · rw [if_neg h]
      have hgt : ∀ y ∈ s, y.name ≠ u.name := fun y hy e => by have := h1 y hy; rw [e] at this; exact h this
      have e : upStep u (o, p) x = (o ++ ins u ++ (if x.name = u.name then [] else [x]), true) := by
        unfold upStep ins
        subst hp
        by_cases hn : u.new = -1
        · by_cases hx : x.name = u.name <;> simp [hn, hx]
        · by_cases hx : x.name = u.name
          · simp [hn, hx, nlt_irrefl]
          · simp [hn, hx, h]
      rw [e, step_put u s _ hgt]
      simp only [if_true]
      by_cases hx : x.name = u.name
      · rw [if_pos hx, if_pos hx]; simp
      · rw [if_neg hx, if_neg hx]; simp
theorem upR_eq {s : List R} (hs : Srt s) (u : U) : upR s u = upS s u := by
  have := step_ins u s [] (decide (u.new = -1)) hs rfl
  rw [List.nil_append] at this
  exact this
end Rf
namespace Rf
/-- An entry of a log. -/
structure E where
  time : Int
  upd : U
deriving DecidableEq, Inhabited
/-- From entry i on: the set at hand, the last time. -/
def lgFrom : List R → Int → List E → Nat → Int × Int
  | _, _, [], _ => (0, 0)
  | s, t, e :: l, i => if e.time < t ∨ 100000 < e.time then (3, (i : Int)) else if upC s e.upd ≠ 0 then (upC s e.upd, (i : Int)) else lgFrom (upS s e.upd) e.time l (i + 1)
/-- The fault of a base and a log. -/
def lgF (b : List R) (l : List E) : Int × Int := if (rfF b).1 ≠ 0 then ((rfF b).1, -2) else if 60 < l.length then (2, -1) else lgFrom b 0 l 0
/-- The times of a log go up from t. -/
def Tm : Int → List E → Prop
  | _, [] => True
  | t, e :: l => t ≤ e.time ∧ e.time ≤ 100000 ∧ Tm e.time l
theorem lgFrom_iff : ∀ (s : List R) (t : Int) (l : List E) (i : Nat), (lgFrom s t l i).1 = 0 ↔ (Tm t l ∧ ∃ x, app s (l.map E.upd) = some x)
  | s, t, [], i => by simp [lgFrom, Tm, app]
  | s, t, e :: l, i => by
    rw [lgFrom, Tm, List.map_cons, app]
    by_cases h1 : e.time < t ∨ 100000 < e.time
    · rw [if_pos h1]
      constructor
      · intro h; cases h
      · rintro ⟨⟨h2, h3, _⟩, _⟩; omega
    · rw [if_neg h1]
      by_cases h2 : upC s e.upd = 0
      · rw [if_neg (fun h => h h2), if_pos h2, lgFrom_iff]
        constructor
        · rintro ⟨h3, h4⟩; exact ⟨⟨by omega, by omega, h3⟩, h4⟩
        · rintro ⟨⟨_, _, h3⟩, h4⟩; exact ⟨h3, h4⟩
      · rw [if_pos h2, if_neg h2]
        constructor
        · intro h; exact absurd h h2
        · rintro ⟨_, x, h⟩; cases h
theorem lgFrom_zero : ∀ (s : List R) (t : Int) (l : List E) (i : Nat), (lgFrom s t l i).1 = 0 → lgFrom s t l i = (0, 0)
  | s, t, [], i, _ => rfl
  | s, t, e :: l, i, h => by
    rw [lgFrom] at h ⊢
    split at h
    · cases h
    split at h
    · rename_i h2; exact absurd h h2
    · rename_i h1 h2; rw [if_neg h1, if_neg h2]; exact lgFrom_zero _ _ l _ h
/-- A valid base and log. -/
structure LOk (b : List R) (l : List E) : Prop where
  base : Ok b
  len : l.length ≤ 60
  tm : Tm 0 l
  app_ : ∃ x, app b (l.map E.upd) = some x
theorem lgF_ok {b : List R} {l : List E} (h : (lgF b l).1 = 0) : lgF b l = (0, 0) ∧ LOk b l := by
  unfold lgF at h ⊢
  split at h
  · rename_i h1; exact absurd h h1
  rename_i h1
  have h1' : (rfF b).1 = 0 := Classical.not_not.1 h1
  split at h
  · cases h
  rename_i h2
  rw [if_neg h1, if_neg h2]
  obtain ⟨h3, h4⟩ := (lgFrom_iff b 0 l 0).1 h
  exact ⟨lgFrom_zero _ _ _ _ h, (rfF_ok h1').2, by omega, h3, h4⟩
theorem LOk.f {b : List R} {l : List E} (h : LOk b l) : lgF b l = (0, 0) := by
  unfold lgF
  rw [h.base.f, if_neg (by simp), if_neg (by have := h.len; omega)]
  exact lgFrom_zero _ _ _ _ ((lgFrom_iff b 0 l 0).2 ⟨h.tm, h.app_⟩)
/-- The set behind the first n entries. -/
def stAt (b : List R) (l : List E) (n : Nat) : List R := (app b ((l.take n).map E.upd)).getD []
theorem LOk.st {b : List R} {l : List E} (h : LOk b l) (n : Nat) : app b ((l.take n).map E.upd) = some (stAt b l n) := by
  obtain ⟨x, hx⟩ := h.app_
  obtain ⟨a, ha, _⟩ := app_split n hx
  rw [← List.map_take] at ha
  unfold stAt
  rw [ha]; rfl
theorem LOk.stOk {b : List R} {l : List E} (h : LOk b l) (n : Nat) : Ok (stAt b l n) := app_ok _ h.base (h.st n)
theorem stAt_zero (b : List R) (l : List E) : stAt b l 0 = b := by simp [stAt, app]
theorem LOk.stNext {b : List R} {l : List E} (h : LOk b l) (i : Nat) (hi : i < l.length) : upC (stAt b l i) l[i].upd = 0 ∧ stAt b l (i + 1) = upS (stAt b l i) l[i].upd := by
  have h1 := h.st (i + 1)
  rw [List.take_succ_eq_append_getElem hi, List.map_append, app_append, h.st i, Option.bind_some, List.map_singleton, app] at h1
  split at h1
  · rename_i hu
    refine ⟨hu, ?_⟩
    rw [app] at h1
    injection h1 with h1
    exact h1.symm
  · cases h1
theorem stAt_drop {b : List R} {l : List E} (h : LOk b l) (n m : Nat) : stAt (stAt b l n) (l.drop n) m = stAt b l (n + m) := by
  have h1 := h.st (n + m)
  rw [List.take_add, List.map_append, app_append, h.st n, Option.bind_some] at h1
  unfold stAt at h1 ⊢
  rw [h1]; rfl
/-! ### times -/
/-- How many entries come ahead of a time: at the head; all. -/
def unt : List E → Int → Nat
  | [], _ => 0
  | e :: l, t => if e.time < t then unt l t + 1 else 0
def ear (l : List E) (t : Int) : Nat := (l.filter fun e => decide (e.time < t)).length
theorem unt_le : ∀ (l : List E) (t : Int), unt l t ≤ l.length
  | [], _ => by simp [unt]
  | e :: l, t => by
    unfold unt; split
    · have := unt_le l t; simp; omega
    · simp
theorem tm_ge : ∀ {t : Int} {l : List E}, Tm t l → ∀ e ∈ l, t ≤ e.time
  | t, e :: l, h, x, hx => by
    obtain ⟨h1, _, h3⟩ := h
    rcases List.mem_cons.1 hx with rfl | hx
    · exact h1
    · exact Int.le_trans h1 (tm_ge h3 x hx)
theorem ear_unt : ∀ {t0 : Int} {l : List E}, Tm t0 l → ∀ t, ear l t = unt l t
  | _, [], _, _ => rfl
  | _, e :: l, h, t => by
    obtain ⟨_, _, h3⟩ := h
    have ih := ear_unt h3 t
    unfold ear at ih ⊢
    rw [unt]
    by_cases ht : e.time < t
    · rw [if_pos ht, List.filter_cons_of_pos (by simpa using ht), List.length_cons, ih]
    · rw [if_neg ht, List.filter_cons_of_neg (by simpa using ht), List.length_eq_zero_iff, List.filter_eq_nil_iff]
      intro x hx
      have := tm_ge h3 x hx
      simp; omega
theorem tm_drop : ∀ {t : Int} {l : List E} (n : Nat), 0 ≤ t → Tm t l → Tm 0 (l.drop n)
  | t, [], n, _, _ => by simp [Tm]
  | t, e :: l, 0, h0, h => by obtain ⟨h1, h2, h3⟩ := h; exact ⟨by omega, h2, h3⟩
  | t, e :: l, n + 1, h0, h => by
    obtain ⟨h1, h2, h3⟩ := h
    rw [List.drop_succ_cons]
    exact tm_drop n (by omega) h3
theorem unt_drop : ∀ (l : List E) (t t' : Int), t ≤ t' → unt l t' = unt l t + unt (l.drop (unt l t)) t'
  | [], _, _, _ => rfl
  | e :: l, t, t', h => by
    rw [unt, unt]
    by_cases h1 : e.time < t
    · rw [if_pos (by omega), if_pos h1, List.drop_succ_cons, unt_drop l t t' h]; omega
    · rw [if_neg h1, List.drop_zero, unt, Nat.zero_add]
theorem LOk.drop {b : List R} {l : List E} (h : LOk b l) (n : Nat) : LOk (stAt b l n) (l.drop n) := by
  refine ⟨h.stOk n, by have := h.len; simp; omega, tm_drop n (Int.le_refl _) h.tm, ?_⟩
  obtain ⟨x, hx⟩ := h.app_
  rw [← List.take_append_drop n l, List.map_append, app_append, h.st n, Option.bind_some] at hx
  exact ⟨x, hx⟩
/-- After old entries have gone, later states are what they were. -/
theorem expire_keeps {b : List R} {l : List E} (h : LOk b l) (t t' : Int) (ht : t ≤ t') :
    LOk (stAt b l (unt l t)) (l.drop (unt l t)) ∧ stAt (stAt b l (unt l t)) (l.drop (unt l t)) (unt (l.drop (unt l t)) (t' + 1)) = stAt b l (unt l (t' + 1)) := by
  refine ⟨h.drop _, ?_⟩
  rw [stAt_drop h, ← unt_drop l t (t' + 1) (by omega)]
/-! ### one name alone -/
theorem tm_filter (p : E → Bool) : ∀ {t : Int} {l : List E}, Tm t l → ∀ t', t' ≤ t → Tm t' (l.filter p)
  | t, [], _, t', _ => trivial
  | t, e :: l, h, t', ht => by
    obtain ⟨h1, h2, h3⟩ := h
    by_cases hp : p e = true
    · rw [List.filter_cons_of_pos hp]; exact ⟨by omega, h2, tm_filter p h3 _ (Int.le_refl _)⟩
    · rw [List.filter_cons_of_neg hp]; exact tm_filter p h3 t' (by omega)
/-- A set of one name at most. -/
def One (n : Nm) (s : List R) : Prop := Ok s ∧ ∀ x ∈ s, x.name = n
theorem one_len {n : Nm} {s : List R} (h : One n s) : s.length ≤ 1 := by
  rcases s with _ | ⟨x, _ | ⟨y, s⟩⟩
  · simp
  · simp
  · have h1 := (List.pairwise_cons.1 h.1.srt).1 y (by simp)
    rw [h.2 x (by simp), h.2 y (by simp)] at h1
    exact absurd h1 (nlt_irrefl _)
theorem app_one (n : Nm) : ∀ {s x : List R} (l : List U), Ok s → app s l = some x → ∀ o, One n o → tgtOf o n = tgtOf s n → ∃ y, app o (l.filter fun u => decide (u.name = n)) = some y ∧ One n y ∧ tgtOf y n = tgtOf x n
  | s, x, [], _, h, o, ho, ht => by rw [app] at h; injection h with h; subst h; exact ⟨o, rfl, ho, ht⟩
  | s, x, u :: l, hs, h, o, ho, ht => by
    rw [app] at h
    split at h
    · rename_i hu
      have hU := upC_ok.1 hu
      by_cases e : u.name = n
      · rw [List.filter_cons_of_pos (by simpa using e), app]
        have hV : UOk o u := ⟨hU.name, hU.old, hU.new, hU.some_, by rw [e, ht, ← e]; exact hU.now, fun _ x hx => by rw [ho.2 x hx, e]; exact conf_self _, fun _ => by have := one_len ho; omega⟩
        rw [if_pos (upC_ok.2 hV)]
        refine app_one n l (hs.up hU) h _ ⟨ho.1.up hV, fun x hx => ?_⟩ ?_
        · rcases mem_upS hx with hx | ⟨_, rfl⟩
          · exact ho.2 x hx
          · exact e
        · rw [tgt_upS ho.1.srt, tgt_upS hs.srt, if_pos e.symm, if_pos e.symm]
      · rw [List.filter_cons_of_neg (by simpa using e)]
        refine app_one n l (hs.up hU) h o ho ?_
        rw [tgt_upS hs.srt, if_neg (fun h => e h.symm), ht]
    · cases h
theorem one_own {s : List R} (h : Ok s) (n : Nm) : One n (s.filter fun x => decide (x.name = n)) ∧ tgtOf (s.filter fun x => decide (x.name = n)) n = tgtOf s n := by
  have hsub : (s.filter fun x => decide (x.name = n)).Sublist s := List.filter_sublist
  refine ⟨⟨⟨Nat.le_trans hsub.length_le h.len, fun x hx => h.name x (hsub.subset hx), fun x hx => h.tgt x (hsub.subset hx), h.srt.sublist hsub, h.cnf.sublist hsub⟩, fun x hx => by simpa using (List.mem_filter.1 hx).2⟩, ?_⟩
  clear h hsub
  induction s with
  | nil => rfl
  | cons x s ih =>
    by_cases e : x.name = n
    · rw [List.filter_cons_of_pos (by simpa using e), tgtOf, tgtOf, if_pos e, if_pos e]
    · rw [List.filter_cons_of_neg (by simpa using e), ih, tgtOf, if_neg e]
/-- The final target of a name follows from its own entries alone. -/
theorem names_indep {b : List R} {l : List E} (h : LOk b l) (n : Nm) :
    LOk (b.filter fun x => decide (x.name = n)) (l.filter fun e => decide (e.upd.name = n)) ∧
    tgtOf (stAt (b.filter fun x => decide (x.name = n)) (l.filter fun e => decide (e.upd.name = n)) (l.filter fun e => decide (e.upd.name = n)).length) n = tgtOf (stAt b l l.length) n := by
  obtain ⟨x, hx⟩ := h.app_
  obtain ⟨h1, h2⟩ := one_own h.base n
  obtain ⟨y, hy, hy2, hy3⟩ := app_one n _ h.base hx _ h1 h2
  have e : (l.map E.upd).filter (fun u => decide (u.name = n)) = (l.filter fun e => decide (e.upd.name = n)).map E.upd := by rw [List.filter_map]; rfl
  rw [e] at hy
  refine ⟨⟨h1.1, Nat.le_trans (List.length_filter_le _ _) h.len, tm_filter _ h.tm 0 (Int.le_refl _), ⟨y, hy⟩⟩, ?_⟩
  unfold stAt
  rw [List.take_length, List.take_length, hy, hx]
  exact hy3
/-- Undoing the last n entries. -/
theorem undo_restores {b : List R} {l : List E} (h : LOk b l) (n : Nat) : app (stAt b l l.length) (((l.drop (l.length - n)).reverse.map E.upd).map inv) = some (stAt b l (l.length - n)) := by
  have h1 := h.st l.length
  rw [List.take_length] at h1
  have h2 := h.st (l.length - n)
  rw [← List.take_append_drop (l.length - n) l, List.map_append, app_append, h2, Option.bind_some] at h1
  have := app_undo _ (h.stOk _) h1
  rw [← List.map_reverse] at this
  rw [List.take_append_drop] at this
  exact this
end Rf
namespace Go.V
open Go.RowKit

section
variable {P : Program} (w : World)
theorem step_appNo {ops : Array Oper} {o : Oper} {a : Act} {K : Act → World → Prop} {Q : Exit → Act → World → Prop} {E : Prop} (hgd : o.guard = none) (s x : Operand) (t : TypeId)
    (ho : o.op = .call { callee := .builtin .append, args := #[s, x], argTypes := #[t, t] })
    (base : Nat) (e : TypeId) (i : TypeInfo) (z : Value) (size bytes : Nat) (ht : P.underlying t = some (.slice e)) (hi : P.info? e = some i) (hz : i.zero = some z)
    (hsize : i.size = size) (hby : i.bytes = bytes) (hzs : z.cells.size = size) (hsz : 0 < size)
    (A : Option Addr) (n c : Nat) (xs : List Value) (hs : a.eval s = .slice A n c) (hown : w.ownsRow base e size (.slice A n c) n xs)
    (g : Nat) (cx : Nat) (news : List Value) (hx : a.eval x = .slice (some ⟨g, 0, none⟩) 1 cx) (hl : news.length = size) (hu : ∀ (j : Nat) v, news[j]? = some v → w.cell? ⟨g, j, none⟩ = some v) (h1 : ∀ u ∈ news, u.oneCell' = true)
    (h63 : n + 1 ≤ maxLen) (hbytes : (n + 1) * bytes ≤ 140737488355328) (hbase : base ≤ w.heap.size)
    (h : ∀ gd c' w', w'.ownsRow base e size (.slice (some ⟨gd, 0, none⟩) (n + 1) c') (n + 1) (xs ++ news) → w.grownBy w' (Value.slice A n c).ownBlock →
      ((Value.slice (some ⟨gd, 0, none⟩) (n + 1) c').ownBlock = (Value.slice A n c).ownBlock ∨ (Value.slice (some ⟨gd, 0, none⟩) (n + 1) c').ownBlock = some w.heap.size) → K (a.put o.dst (.slice (some ⟨gd, 0, none⟩) (n + 1) c')) w') :
    if Region.wanted o (yielded ops a.tmps) = true then Oper.wp P o a w K Q else E := by
  refine step_append_lies w hgd s x t ho base e i z size bytes ht hi hz hsize hby hzs hsz (.slice A n c) n xs hs hown ⟨g, 0, none⟩ 1 cx news hx (by simpa using hl) ?_ h1 (by omega) h63 hbytes hbase w.heap.size rfl ?_
  · intro j v hj
    have := hu j v hj
    by_cases h0 : j = 0
    · subst h0; simpa [Addr.add] using this
    · simpa [Addr.add, h0] using this
  · intro gd cap w' h2 h3 h4 _
    refine h gd cap w' h2 h3 ?_
    rcases h4 with h4 | h4
    · exact .inl h4.symm
    · exact .inr (by rw [h4]; rfl)
end
/-- Cells of a block just made, as a list. -/
theorem cells_new (w : World) (cs : Array Value) (t : TypeId) (j : Nat) (v : Value) (h : cs.toList[j]? = some v) : (w.alloc (.cells cs t)).cell? ⟨w.heap.size, j, none⟩ = some v := by
  rw [(Blk.new w t cs).cell j, ← Array.getElem?_toList]; exact h
end Go.V
namespace Go.V
open Go.RowKit

section
variable {P : Program} (w : World)
theorem step_appM {ops : Array Oper} {o : Oper} {a : Act} {K : Act → World → Prop} {Q : Exit → Act → World → Prop} {E : Prop} (hgd : o.guard = none) (s x : Operand) (t : TypeId)
    (ho : o.op = .call { callee := .builtin .append, args := #[s, x], argTypes := #[t, t] })
    (base : Nat) (e : TypeId) (i : TypeInfo) (z : Value) (size bytes : Nat) (ht : P.underlying t = some (.slice e)) (hi : P.info? e = some i) (hz : i.zero = some z)
    (hsize : i.size = size) (hby : i.bytes = bytes) (hzs : z.cells.size = size) (hsz : 0 < size)
    (A : Option Addr) (n c : Nat) (xs : List Value) (hs : a.eval s = .slice A n c) (hown : w.ownsRow base e size (.slice A n c) n xs)
    (B : Nat) (A2 : Option Addr) (m c2 : Nat) (news : List Value) (hx : a.eval x = .slice A2 m c2) (hl : news.length = m * size) (hr : SV w B A2 news) (h1 : ∀ u ∈ news, u.oneCell' = true)
    (h63 : n + m ≤ maxLen) (hbytes : (n + m) * bytes ≤ 140737488355328) (hbase : base ≤ w.heap.size)
    (h : ∀ A' c' w', w'.ownsRow base e size (.slice A' (n + m) c') (n + m) (xs ++ news) → w.grownBy w' (Value.slice A n c).ownBlock → n + m ≤ c' → K (a.put o.dst (.slice A' (n + m) c')) w') :
    if Region.wanted o (yielded ops a.tmps) = true then Oper.wp P o a w K Q else E := by
  have hw : Region.wanted o (yielded ops a.tmps) = true := by simp [Region.wanted, hgd]
  rw [if_pos hw]
  refine wp_append_sv w s x t ho base e i z size bytes ht hi hz hsize hby hzs hsz (.slice A n c) n xs hs hown B A2 m c2 news hx hl hr h1 h63 hbytes hbase fun v' w' h2 h3 _ => ?_
  obtain ⟨A', c', rfl, hc', _⟩ := own_form h2
  exact h A' c' w' h2 h3 hc'
end
end Go.V
namespace Fl
section
variable {α : Type} {f : α → List Go.Value} {k : Nat}
theorem len (hk : ∀ a, (f a).length = k) : ∀ l : List α, (l.flatMap f).length = l.length * k
  | [] => by simp
  | a :: l => by rw [List.flatMap_cons, List.length_append, hk, len hk l, List.length_cons, Nat.succ_mul]; omega
theorem take (hk : ∀ a, (f a).length = k) : ∀ (i : Nat) (l : List α), (l.take i).flatMap f = (l.flatMap f).take (i * k)
  | 0, l => by simp
  | i + 1, [] => by simp
  | i + 1, a :: l => by
    have e : (f a).take ((i + 1) * k) = f a := List.take_of_length_le (by rw [hk, Nat.succ_mul]; omega)
    rw [List.take_succ_cons, List.flatMap_cons, List.flatMap_cons, take hk i l, List.take_append, hk, e, Nat.succ_mul, Nat.add_sub_cancel]
theorem drop (hk : ∀ a, (f a).length = k) : ∀ (i : Nat) (l : List α), (l.drop i).flatMap f = (l.flatMap f).drop (i * k)
  | 0, l => by simp
  | i + 1, [] => by simp
  | i + 1, a :: l => by
    rw [List.drop_succ_cons, List.flatMap_cons, drop hk i l, Nat.succ_mul, Nat.add_comm, ← List.drop_drop, List.drop_left' (hk a)]
theorem get (hk : ∀ a, (f a).length = k) : ∀ (i : Nat) (l : List α) (hi : i < l.length) (j : Nat) (u : Go.Value), (f l[i])[j]? = some u → (l.flatMap f)[i * k + j]? = some u
  | 0, a :: l, hi, j, u, h => by
    have hj : j < (f a).length := (List.getElem?_eq_some_iff.1 h).1
    rw [List.flatMap_cons, Nat.zero_mul, Nat.zero_add, List.getElem?_append_left hj]; exact h
  | i + 1, a :: l, hi, j, u, h => by
    rw [List.flatMap_cons, List.getElem?_append_right (by rw [hk, Nat.succ_mul]; omega), hk]
    have e : (i + 1) * k + j - k = i * k + j := by rw [Nat.succ_mul]; omega
    rw [e]
    exact get hk i l (by simpa using hi) j u h
end
end Fl
namespace Go.Proofs.YtipjejnncnndeaaGreatDoor.RF
open Go.RowKit Go.V Go.Shelf Go.Lib
set_option linter.unusedVariables false

/-- The cells of a reference, of an update, of an entry of a log. -/
def rC (r : Rf.R) : List Value := [strV r.name, .int .i64 r.tgt]
def uC (u : Rf.U) : List Value := [strV u.name, .int .i64 u.old, .int .i64 u.new]
def eC (e : Rf.E) : List Value := [.int .i64 e.time, strV e.upd.name, .int .i64 e.upd.old, .int .i64 e.upd.new]
def sC (l : List UInt8) : List Value := [strV l]
theorem rC_len (r : Rf.R) : (rC r).length = 2 := rfl
theorem uC_len (r : Rf.U) : (uC r).length = 3 := rfl
theorem eC_len (r : Rf.E) : (eC r).length = 4 := rfl
theorem sC_len (r : List UInt8) : (sC r).length = 1 := rfl
abbrev rsV (s : List Rf.R) : List Value := s.flatMap rC
abbrev usV (s : List Rf.U) : List Value := s.flatMap uC
abbrev esV (s : List Rf.E) : List Value := s.flatMap eC
abbrev ssV (s : List (List UInt8)) : List Value := s.flatMap sC
theorem rsV_one (s : List Rf.R) : ∀ u ∈ rsV s, u.oneCell' = true := by
  intro u hu; obtain ⟨a, _, h⟩ := List.mem_flatMap.1 hu; simp only [rC, List.mem_cons, List.not_mem_nil, or_false] at h; rcases h with rfl | rfl <;> rfl
theorem usV_one (s : List Rf.U) : ∀ u ∈ usV s, u.oneCell' = true := by
  intro u hu; obtain ⟨a, _, h⟩ := List.mem_flatMap.1 hu; simp only [uC, List.mem_cons, List.not_mem_nil, or_false] at h; rcases h with rfl | rfl | rfl <;> rfl
theorem esV_one (s : List Rf.E) : ∀ u ∈ esV s, u.oneCell' = true := by
  intro u hu; obtain ⟨a, _, h⟩ := List.mem_flatMap.1 hu; simp only [eC, List.mem_cons, List.not_mem_nil, or_false] at h; rcases h with rfl | rfl | rfl | rfl <;> rfl
theorem ssV_one (s : List (List UInt8)) : ∀ u ∈ ssV s, u.oneCell' = true := by
  intro u hu; obtain ⟨a, _, h⟩ := List.mem_flatMap.1 hu; simp only [sC, List.mem_cons, List.not_mem_nil, or_false] at h; rcases h with rfl; rfl
section
variable {w : World} {X : Nat → Prop} {A : Option Addr}
theorem SA.cells {vs : List Value} (h : SA w X A vs) (i : Nat) (u : Value) (hu : vs[i]? = some u) : ∃ b off, A = some ⟨b, off, none⟩ ∧ b < w.heap.size ∧ ¬ X b ∧ ∀ j v, vs[j]? = some v → w.cell? ⟨b, off + j, none⟩ = some v :=
  h.at_ (by have := (List.getElem?_eq_some_iff.1 hu).1; omega)
/-- Reference i. -/
theorem rsV_row {s : List Rf.R} (h : SA w X A (rsV s)) (i : Nat) (hi : i < s.length) : ∃ b off, A = some ⟨b, off, none⟩ ∧ b < w.heap.size ∧ ¬ X b ∧
    w.cell? ⟨b, off + i * 2, none⟩ = some (strV (Rf.it s i).name) ∧ w.cell? ⟨b, off + i * 2 + 1, none⟩ = some (.int .i64 (Rf.it s i).tgt) := by
  rw [← Rf.it_eq s i hi]
  have g0 := Fl.get rC_len i s hi 0 _ rfl
  have g1 := Fl.get rC_len i s hi 1 _ rfl
  obtain ⟨b, off, e, hb, hx, hc⟩ := SA.cells h _ _ g0
  exact ⟨b, off, e, hb, hx, hc _ _ g0, hc _ _ g1⟩
theorem usV_row {s : List Rf.U} (h : SA w X A (usV s)) (i : Nat) (hi : i < s.length) : ∃ b off, A = some ⟨b, off, none⟩ ∧ b < w.heap.size ∧ ¬ X b ∧
    w.cell? ⟨b, off + i * 3, none⟩ = some (strV s[i].name) ∧ w.cell? ⟨b, off + i * 3 + 1, none⟩ = some (.int .i64 s[i].old) ∧ w.cell? ⟨b, off + i * 3 + 2, none⟩ = some (.int .i64 s[i].new) := by
  have g0 := Fl.get uC_len i s hi 0 _ rfl
  have g1 := Fl.get uC_len i s hi 1 _ rfl
  have g2 := Fl.get uC_len i s hi 2 _ rfl
  obtain ⟨b, off, e, hb, hx, hc⟩ := SA.cells h _ _ g0
  exact ⟨b, off, e, hb, hx, hc _ _ g0, hc _ _ g1, hc _ _ g2⟩
theorem esV_row {s : List Rf.E} (h : SA w X A (esV s)) (i : Nat) (hi : i < s.length) : ∃ b off, A = some ⟨b, off, none⟩ ∧ b < w.heap.size ∧ ¬ X b ∧
    w.cell? ⟨b, off + i * 4, none⟩ = some (.int .i64 s[i].time) ∧ w.cell? ⟨b, off + i * 4 + 1, none⟩ = some (strV s[i].upd.name) ∧ w.cell? ⟨b, off + i * 4 + 2, none⟩ = some (.int .i64 s[i].upd.old) ∧ w.cell? ⟨b, off + i * 4 + 3, none⟩ = some (.int .i64 s[i].upd.new) := by
  have g0 := Fl.get eC_len i s hi 0 _ rfl
  have g1 := Fl.get eC_len i s hi 1 _ rfl
  have g2 := Fl.get eC_len i s hi 2 _ rfl
  have g3 := Fl.get eC_len i s hi 3 _ rfl
  obtain ⟨b, off, e, hb, hx, hc⟩ := SA.cells h _ _ g0
  exact ⟨b, off, e, hb, hx, hc _ _ g0, hc _ _ g1, hc _ _ g2, hc _ _ g3⟩
theorem ssV_row {s : List (List UInt8)} (h : SA w X A (ssV s)) (i : Nat) (hi : i < s.length) : ∃ b off, A = some ⟨b, off, none⟩ ∧ b < w.heap.size ∧ ¬ X b ∧
    w.cell? ⟨b, off + i, none⟩ = some (strV s[i]) := by
  have g0 := Fl.get sC_len i s hi 0 _ rfl
  obtain ⟨b, off, e, hb, hx, hc⟩ := SA.cells h _ _ g0
  refine ⟨b, off, e, hb, hx, ?_⟩
  have := hc _ _ g0
  simpa using this
end
theorem free_below {w w' : World} (hb : Below w.heap.size w w') : Keeps w Free w' Free := Keeps.below hb (fun _ _ h => h)
theorem below_drew' {B : Nat} {a w : World} (h : Below B a w) : Below B a w.drew := Go.V.below_drewN h 1
theorem gen_world {C : World → Prop} {w : World} (F : World → Prop) (hF : F w) (h : ∀ wz, F wz → C wz) : C w := h w hF
theorem below_alloc1 (w : World) (o : Obj) : Below w.heap.size w (w.alloc o) := (Below.refl _ _).alloc (Nat.le_refl _) _
theorem below_alloc2 (w : World) (o o2 : Obj) : Below w.heap.size w ((w.alloc o).alloc o2) := (below_alloc1 w o).alloc (by simp) _
theorem below_alloc3 (w : World) (o o2 o3 : Obj) : Below w.heap.size w (((w.alloc o).alloc o2).alloc o3) := (below_alloc2 w o o2).alloc (by simp; omega) _
end Go.Proofs.YtipjejnncnndeaaGreatDoor.RF
