/-
  Logs of updates of references. No program in sight.
-/
import Derived.Test.YtfbbgnhelannjaaDoorRfM
namespace Rf
/-- An entry of a log. -/
structure E where
  time : Int
  upd : U
deriving DecidableEq, Inhabited
/-- From entry i on: the set at hand, the last time. -/
def lgFrom : List R → Int → List E → Nat → Int × Int
  | _, _, [], _ => (0, 0)
  | s, t, e :: l, i => if e.time < t ∨ 100000 < e.time then (3, (i : Int)) else if upC s e.upd ≠ 0 then (upC s e.upd, (i : Int)) else lgFrom (upS s e.upd) e.time l (i + 1)
/-- The fault of a base and a log. -/
def lgF (b : List R) (l : List E) : Int × Int := if (rfF b).1 ≠ 0 then ((rfF b).1, -2) else if 60 < l.length then (2, -1) else lgFrom b 0 l 0
/-- The times of a log go up from t. -/
def Tm : Int → List E → Prop
  | _, [] => True
  | t, e :: l => t ≤ e.time ∧ e.time ≤ 100000 ∧ Tm e.time l
theorem lgFrom_iff : ∀ (s : List R) (t : Int) (l : List E) (i : Nat), (lgFrom s t l i).1 = 0 ↔ (Tm t l ∧ ∃ x, app s (l.map E.upd) = some x)
  | s, t, [], i => by simp [lgFrom, Tm, app]
  | s, t, e :: l, i => by
    rw [lgFrom, Tm, List.map_cons, app]
    by_cases h1 : e.time < t ∨ 100000 < e.time
    · rw [if_pos h1]
      constructor
      · intro h; cases h
      · rintro ⟨⟨h2, h3, _⟩, _⟩; omega
    · rw [if_neg h1]
      by_cases h2 : upC s e.upd = 0
      · rw [if_neg (fun h => h h2), if_pos h2, lgFrom_iff]
        constructor
        · rintro ⟨h3, h4⟩; exact ⟨⟨by omega, by omega, h3⟩, h4⟩
        · rintro ⟨⟨_, _, h3⟩, h4⟩; exact ⟨h3, h4⟩
      · rw [if_pos h2, if_neg h2]
        constructor
        · intro h; exact absurd h h2
        · rintro ⟨_, x, h⟩; cases h
theorem lgFrom_zero : ∀ (s : List R) (t : Int) (l : List E) (i : Nat), (lgFrom s t l i).1 = 0 → lgFrom s t l i = (0, 0)
  | s, t, [], i, _ => rfl
  | s, t, e :: l, i, h => by
    rw [lgFrom] at h ⊢
    split at h
    · cases h
    split at h
    · rename_i h2; exact absurd h h2
    · rename_i h1 h2; rw [if_neg h1, if_neg h2]; exact lgFrom_zero _ _ l _ h
/-- A valid base and log. -/
structure LOk (b : List R) (l : List E) : Prop where
  base : Ok b
  len : l.length ≤ 60
  tm : Tm 0 l
  app_ : ∃ x, app b (l.map E.upd) = some x
theorem lgF_ok {b : List R} {l : List E} (h : (lgF b l).1 = 0) : lgF b l = (0, 0) ∧ LOk b l := by
  unfold lgF at h ⊢
  split at h
  · rename_i h1; exact absurd h h1
  rename_i h1
  have h1' : (rfF b).1 = 0 := Classical.not_not.1 h1
  split at h
  · cases h
  rename_i h2
  rw [if_neg h1, if_neg h2]
  obtain ⟨h3, h4⟩ := (lgFrom_iff b 0 l 0).1 h
  exact ⟨lgFrom_zero _ _ _ _ h, (rfF_ok h1').2, by omega, h3, h4⟩
theorem LOk.f {b : List R} {l : List E} (h : LOk b l) : lgF b l = (0, 0) := by
  unfold lgF
  rw [h.base.f, if_neg (by simp), if_neg (by have := h.len; omega)]
  exact lgFrom_zero _ _ _ _ ((lgFrom_iff b 0 l 0).2 ⟨h.tm, h.app_⟩)
/-- The set behind the first n entries. -/
def stAt (b : List R) (l : List E) (n : Nat) : List R := (app b ((l.take n).map E.upd)).getD []
theorem LOk.st {b : List R} {l : List E} (h : LOk b l) (n : Nat) : app b ((l.take n).map E.upd) = some (stAt b l n) := by
  obtain ⟨x, hx⟩ := h.app_
  obtain ⟨a, ha, _⟩ := app_split n hx
  rw [← List.map_take] at ha
  unfold stAt
  rw [ha]; rfl
theorem LOk.stOk {b : List R} {l : List E} (h : LOk b l) (n : Nat) : Ok (stAt b l n) := app_ok _ h.base (h.st n)
theorem stAt_zero (b : List R) (l : List E) : stAt b l 0 = b := by simp [stAt, app]
theorem LOk.stNext {b : List R} {l : List E} (h : LOk b l) (i : Nat) (hi : i < l.length) : upC (stAt b l i) l[i].upd = 0 ∧ stAt b l (i + 1) = upS (stAt b l i) l[i].upd := by
  have h1 := h.st (i + 1)
  rw [List.take_succ_eq_append_getElem hi, List.map_append, app_append, h.st i, Option.bind_some, List.map_singleton, app] at h1
  split at h1
  · rename_i hu
    refine ⟨hu, ?_⟩
    rw [app] at h1
    injection h1 with h1
    exact h1.symm
  · cases h1
theorem stAt_drop {b : List R} {l : List E} (h : LOk b l) (n m : Nat) : stAt (stAt b l n) (l.drop n) m = stAt b l (n + m) := by
  have h1 := h.st (n + m)
  rw [List.take_add, List.map_append, app_append, h.st n, Option.bind_some] at h1
  unfold stAt at h1 ⊢
  rw [h1]; rfl
/-! ### times -/
/-- How many entries come ahead of a time: at the head; all. -/
def unt : List E → Int → Nat
  | [], _ => 0
  | e :: l, t => if e.time < t then unt l t + 1 else 0
def ear (l : List E) (t : Int) : Nat := (l.filter fun e => decide (e.time < t)).length
theorem unt_le : ∀ (l : List E) (t : Int), unt l t ≤ l.length
  | [], _ => by simp [unt]
  | e :: l, t => by
    unfold unt; split
    · have := unt_le l t; simp; omega
    · simp
theorem tm_ge : ∀ {t : Int} {l : List E}, Tm t l → ∀ e ∈ l, t ≤ e.time
  | t, e :: l, h, x, hx => by
    obtain ⟨h1, _, h3⟩ := h
    rcases List.mem_cons.1 hx with rfl | hx
    · exact h1
    · exact Int.le_trans h1 (tm_ge h3 x hx)
theorem ear_unt : ∀ {t0 : Int} {l : List E}, Tm t0 l → ∀ t, ear l t = unt l t
  | _, [], _, _ => rfl
  | _, e :: l, h, t => by
    obtain ⟨_, _, h3⟩ := h
    have ih := ear_unt h3 t
    unfold ear at ih ⊢
    rw [unt]
    by_cases ht : e.time < t
    · rw [if_pos ht, List.filter_cons_of_pos (by simpa using ht), List.length_cons, ih]
    · rw [if_neg ht, List.filter_cons_of_neg (by simpa using ht), List.length_eq_zero_iff, List.filter_eq_nil_iff]
      intro x hx
      have := tm_ge h3 x hx
      simp; omega
theorem tm_drop : ∀ {t : Int} {l : List E} (n : Nat), 0 ≤ t → Tm t l → Tm 0 (l.drop n)
  | t, [], n, _, _ => by simp [Tm]
  | t, e :: l, 0, h0, h => by obtain ⟨h1, h2, h3⟩ := h; exact ⟨by omega, h2, h3⟩
  | t, e :: l, n + 1, h0, h => by
    obtain ⟨h1, h2, h3⟩ := h
    rw [List.drop_succ_cons]
    exact tm_drop n (by omega) h3
theorem unt_drop : ∀ (l : List E) (t t' : Int), t ≤ t' → unt l t' = unt l t + unt (l.drop (unt l t)) t'
  | [], _, _, _ => rfl
  | e :: l, t, t', h => by
    rw [unt, unt]
    by_cases h1 : e.time < t
    · rw [if_pos (by omega), if_pos h1, List.drop_succ_cons, unt_drop l t t' h]; omega
    · rw [if_neg h1, List.drop_zero, unt, Nat.zero_add]
theorem LOk.drop {b : List R} {l : List E} (h : LOk b l) (n : Nat) : LOk (stAt b l n) (l.drop n) := by
  refine ⟨h.stOk n, by have := h.len; simp; omega, tm_drop n (Int.le_refl _) h.tm, ?_⟩
  obtain ⟨x, hx⟩ := h.app_
  rw [← List.take_append_drop n l, List.map_append, app_append, h.st n, Option.bind_some] at hx
  exact ⟨x, hx⟩
/-- After old entries have gone, later states are what they were. -/
theorem expire_keeps {b : List R} {l : List E} (h : LOk b l) (t t' : Int) (ht : t ≤ t') :
    LOk (stAt b l (unt l t)) (l.drop (unt l t)) ∧ stAt (stAt b l (unt l t)) (l.drop (unt l t)) (unt (l.drop (unt l t)) (t' + 1)) = stAt b l (unt l (t' + 1)) := by
  refine ⟨h.drop _, ?_⟩
  rw [stAt_drop h, ← unt_drop l t (t' + 1) (by omega)]
/-! ### one name alone -/
theorem tm_filter (p : E → Bool) : ∀ {t : Int} {l : List E}, Tm t l → ∀ t', t' ≤ t → Tm t' (l.filter p)
  | t, [], _, t', _ => trivial
  | t, e :: l, h, t', ht => by
    obtain ⟨h1, h2, h3⟩ := h
    by_cases hp : p e = true
    · rw [List.filter_cons_of_pos hp]; exact ⟨by omega, h2, tm_filter p h3 _ (Int.le_refl _)⟩
    · rw [List.filter_cons_of_neg hp]; exact tm_filter p h3 t' (by omega)
/-- A set of one name at most. -/
def One (n : Nm) (s : List R) : Prop := Ok s ∧ ∀ x ∈ s, x.name = n
theorem one_len {n : Nm} {s : List R} (h : One n s) : s.length ≤ 1 := by
  rcases s with _ | ⟨x, _ | ⟨y, s⟩⟩
  · simp
  · simp
  · have h1 := (List.pairwise_cons.1 h.1.srt).1 y (by simp)
    rw [h.2 x (by simp), h.2 y (by simp)] at h1
    exact absurd h1 (nlt_irrefl _)
theorem app_one (n : Nm) : ∀ {s x : List R} (l : List U), Ok s → app s l = some x → ∀ o, One n o → tgtOf o n = tgtOf s n → ∃ y, app o (l.filter fun u => decide (u.name = n)) = some y ∧ One n y ∧ tgtOf y n = tgtOf x n
  | s, x, [], _, h, o, ho, ht => by rw [app] at h; injection h with h; subst h; exact ⟨o, rfl, ho, ht⟩
  | s, x, u :: l, hs, h, o, ho, ht => by
    rw [app] at h
    split at h
    · rename_i hu
      have hU := upC_ok.1 hu
      by_cases e : u.name = n
      · rw [List.filter_cons_of_pos (by simpa using e), app]
        have hV : UOk o u := ⟨hU.name, hU.old, hU.new, hU.some_, by rw [e, ht, ← e]; exact hU.now, fun _ x hx => by rw [ho.2 x hx, e]; exact conf_self _, fun _ => by have := one_len ho; omega⟩
        rw [if_pos (upC_ok.2 hV)]
        refine app_one n l (hs.up hU) h _ ⟨ho.1.up hV, fun x hx => ?_⟩ ?_
        · rcases mem_upS hx with hx | ⟨_, rfl⟩
          · exact ho.2 x hx
          · exact e
        · rw [tgt_upS ho.1.srt, tgt_upS hs.srt, if_pos e.symm, if_pos e.symm]
      · rw [List.filter_cons_of_neg (by simpa using e)]
        refine app_one n l (hs.up hU) h o ho ?_
        rw [tgt_upS hs.srt, if_neg (fun h => e h.symm), ht]
    · cases h
theorem one_own {s : List R} (h : Ok s) (n : Nm) : One n (s.filter fun x => decide (x.name = n)) ∧ tgtOf (s.filter fun x => decide (x.name = n)) n = tgtOf s n := by
  have hsub : (s.filter fun x => decide (x.name = n)).Sublist s := List.filter_sublist
  refine ⟨⟨⟨Nat.le_trans hsub.length_le h.len, fun x hx => h.name x (hsub.subset hx), fun x hx => h.tgt x (hsub.subset hx), h.srt.sublist hsub, h.cnf.sublist hsub⟩, fun x hx => by simpa using (List.mem_filter.1 hx).2⟩, ?_⟩
  clear h hsub
  induction s with
  | nil => rfl
  | cons x s ih =>
    by_cases e : x.name = n
    · rw [List.filter_cons_of_pos (by simpa using e), tgtOf, tgtOf, if_pos e, if_pos e]
    · rw [List.filter_cons_of_neg (by simpa using e), ih, tgtOf, if_neg e]
/-- The final target of a name follows from its own entries alone. -/
theorem names_indep {b : List R} {l : List E} (h : LOk b l) (n : Nm) :
    LOk (b.filter fun x => decide (x.name = n)) (l.filter fun e => decide (e.upd.name = n)) ∧
    tgtOf (stAt (b.filter fun x => decide (x.name = n)) (l.filter fun e => decide (e.upd.name = n)) (l.filter fun e => decide (e.upd.name = n)).length) n = tgtOf (stAt b l l.length) n := by
  obtain ⟨x, hx⟩ := h.app_
  obtain ⟨h1, h2⟩ := one_own h.base n
  obtain ⟨y, hy, hy2, hy3⟩ := app_one n _ h.base hx _ h1 h2
  have e : (l.map E.upd).filter (fun u => decide (u.name = n)) = (l.filter fun e => decide (e.upd.name = n)).map E.upd := by rw [List.filter_map]; rfl
  rw [e] at hy
  refine ⟨⟨h1.1, Nat.le_trans (List.length_filter_le _ _) h.len, tm_filter _ h.tm 0 (Int.le_refl _), ⟨y, hy⟩⟩, ?_⟩
  unfold stAt
  rw [List.take_length, List.take_length, hy, hx]
  exact hy3
/-- Undoing the last n entries. -/
theorem undo_restores {b : List R} {l : List E} (h : LOk b l) (n : Nat) : app (stAt b l l.length) (((l.drop (l.length - n)).reverse.map E.upd).map inv) = some (stAt b l (l.length - n)) := by
  have h1 := h.st l.length
  rw [List.take_length] at h1
  have h2 := h.st (l.length - n)
  rw [← List.take_append_drop (l.length - n) l, List.map_append, app_append, h2, Option.bind_some] at h1
  have := app_undo _ (h.stOk _) h1
  rw [← List.map_reverse] at this
  rw [List.take_append_drop] at this
  exact this
end Rf
