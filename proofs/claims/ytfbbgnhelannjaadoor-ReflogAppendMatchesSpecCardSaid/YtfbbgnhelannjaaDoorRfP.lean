/-
  References: names and their components. No program in sight.
-/
import Derived.Test.YtfbbgnhelannjaaDoorRf1
namespace Rf
/-- The components of a name; now: what has come of the one at hand. -/
def cmp (now : List UInt8) : List UInt8 → List (List UInt8)
  | [] => [now]
  | c :: l => if c = 47 then now :: cmp [] l else cmp (now ++ [c]) l
def comps (l : List UInt8) : List (List UInt8) := cmp [] l
theorem cmp_no (now : List UInt8) : ∀ l : List UInt8, 47 ∉ l → cmp now l = [now ++ l]
  | [], _ => by simp [cmp]
  | c :: l, h => by
    rw [cmp, if_neg (fun e => h (by simp [e])), cmp_no _ l (fun h2 => h (List.mem_cons_of_mem _ h2))]
    simp
theorem cmp_sep (now : List UInt8) : ∀ a l : List UInt8, 47 ∉ a → cmp now (a ++ 47 :: l) = (now ++ a) :: comps l
  | [], l, _ => by simp [cmp, comps]
  | c :: a, l, h => by
    rw [List.cons_append, cmp, if_neg (fun e => h (by simp [e])), cmp_sep _ a l (fun h2 => h (List.mem_cons_of_mem _ h2))]
    simp
theorem comps_no {l : List UInt8} (h : 47 ∉ l) : comps l = [l] := by unfold comps; rw [cmp_no _ _ h]; rfl
theorem comps_sep {a : List UInt8} (l : List UInt8) (h : 47 ∉ a) : comps (a ++ 47 :: l) = a :: comps l := by unfold comps; rw [cmp_sep _ _ _ h]; rfl
theorem cmp_len (now : List UInt8) : ∀ l : List UInt8, (cmp now l).length ≤ l.length + 1
  | [] => by simp [cmp]
  | c :: l => by
    rw [cmp]; split
    · have := cmp_len [] l; simp; omega
    · have := cmp_len (now ++ [c]) l; simp; omega
theorem comps_len (l : List UInt8) : (comps l).length ≤ l.length + 1 := cmp_len [] l
theorem cmp_mem : ∀ (now l : List UInt8) (x : List UInt8), x ∈ cmp now l → x.length ≤ now.length + l.length
  | now, [], x, h => by simp [cmp] at h; subst h; simp
  | now, c :: l, x, h => by
    rw [cmp] at h; split at h
    · rcases List.mem_cons.1 h with rfl | h
      · omega
      · have := cmp_mem [] l x h; simp at this ⊢; omega
    · have := cmp_mem (now ++ [c]) l x h; simp at this ⊢; omega
theorem comps_mem (l x : List UInt8) (h : x ∈ comps l) : x.length ≤ l.length := by have := cmp_mem [] l x h; simpa using this
theorem comps_ne (l : List UInt8) : comps l ≠ [] := by
  unfold comps
  generalize ([] : List UInt8) = now
  induction l generalizing now with
  | nil => simp [cmp]
  | cons c l ih => rw [cmp]; split <;> simp [ih]
/-- A list is without a slash, or it is split at the first one. -/
theorem split47 (l : List UInt8) : 47 ∉ l ∨ ∃ a r, l = a ++ 47 :: r ∧ 47 ∉ a := by
  induction l with
  | nil => exact .inl (by simp)
  | cons c l ih =>
    by_cases hc : c = 47
    · exact .inr ⟨[], l, by simp [hc], by simp⟩
    · rcases ih with h | ⟨a, r, h, ha⟩
      · exact .inl (by simp [h, Ne.symm hc])
      · exact .inr ⟨c :: a, r, by simp [h], by simp [ha, Ne.symm hc]⟩
/-- A valid name. -/
def nameOk (l : List UInt8) : Bool := decide (l.length ≤ 60) && (comps l).all comp
/-- One name lies below another: its components go on. -/
theorem comps_pre : ∀ (n : Nat) (b a : List UInt8), b.length ≤ n → ((∃ r, a = b ++ 47 :: r) ↔ (∃ x, x ≠ [] ∧ comps a = comps b ++ x))
  | n, b, a, hn => by
    rcases split47 b with hb | ⟨b1, b2, rfl, hb⟩
    · rw [comps_no hb]
      constructor
      · rintro ⟨r, rfl⟩
        exact ⟨comps r, comps_ne r, by rw [comps_sep r hb]; rfl⟩
      · rintro ⟨x, hx, he⟩
        rcases split47 a with ha | ⟨a1, a2, rfl, ha⟩
        · rw [comps_no ha] at he
          injection he with _ h2
          exact absurd h2.symm (by simpa using hx)
        · rw [comps_sep a2 ha] at he
          injection he with h1 _
          exact ⟨a2, by rw [h1]⟩
    · have hn2 : b2.length ≤ n - 1 := by simp at hn; omega
      have hn1 : 0 < n := by simp at hn; omega
      rw [comps_sep b2 hb]
      rcases split47 a with ha | ⟨a1, a2, rfl, ha⟩
      · rw [comps_no ha]
        constructor
        · rintro ⟨r, rfl⟩
          exact absurd (by simp) ha
        · rintro ⟨x, hx, he⟩
          injection he with _ h2
          exact absurd h2.symm (by simp [comps_ne])
      · rw [comps_sep a2 ha]
        have ih := comps_pre (n - 1) b2 a2 hn2
        constructor
        · rintro ⟨r, he⟩
          have e1 : a1 = b1 ∧ a2 = b2 ++ 47 :: r := by
            rw [List.append_assoc, List.cons_append] at he
            exact sep_inj ha hb he
          obtain ⟨x, hx, he2⟩ := ih.1 ⟨r, e1.2⟩
          exact ⟨x, hx, by rw [e1.1, he2]; rfl⟩
        · rintro ⟨x, hx, he⟩
          injection he with h1 h2
          obtain ⟨r, hr⟩ := ih.2 ⟨x, hx, h2⟩
          exact ⟨r, by rw [h1, hr, List.append_assoc]; rfl⟩
termination_by n => n
where
  sep_inj : ∀ {a1 b1 a2 c : List UInt8}, 47 ∉ a1 → 47 ∉ b1 → a1 ++ 47 :: a2 = b1 ++ 47 :: c → a1 = b1 ∧ a2 = c
    | [], [], a2, c, _, _, h => by simpa using h
    | [], y :: b1, a2, c, _, h2, h => by
      rw [List.nil_append, List.cons_append] at h; injection h with h3 _; exact absurd (by simp [h3]) h2
    | x :: a1, [], a2, c, h1, _, h => by
      rw [List.nil_append, List.cons_append] at h; injection h with h3 _; exact absurd (by simp [h3]) h1
    | x :: a1, y :: b1, a2, c, h1, h2, h => by
      rw [List.cons_append, List.cons_append] at h
      injection h with h3 h4
      obtain ⟨h5, h6⟩ := sep_inj (fun h => h1 (List.mem_cons_of_mem _ h)) (fun h => h2 (List.mem_cons_of_mem _ h)) h4
      exact ⟨by rw [h3, h5], h6⟩
/-! ### where a slash is; two points in a row -/
theorem index_no : ∀ {l : List UInt8}, 47 ∉ l → Go.Lib.index l [47] = -1
  | [], _ => by simp [Go.Lib.index]
  | c :: l, h => by
    have ih := index_no (l := l) (fun h2 => h (List.mem_cons_of_mem _ h2))
    have hc : ¬ (47 : UInt8) = c := fun e => h (by simp [e])
    simp [Go.Lib.index, ih, List.isPrefixOf, hc]
theorem index_sep : ∀ {a : List UInt8} (r : List UInt8), 47 ∉ a → Go.Lib.index (a ++ 47 :: r) [47] = (a.length : Int)
  | [], r, _ => by simp [Go.Lib.index, List.isPrefixOf]
  | c :: a, r, h => by
    have ih := index_sep (a := a) r (fun h2 => h (List.mem_cons_of_mem _ h2))
    have hc : ¬ (47 : UInt8) = c := fun e => h (by simp [e])
    have hn : ¬ ((a.length : Int) = -1) := by omega
    rw [List.cons_append, Go.Lib.index]
    simp [ih, List.isPrefixOf, hc, hn]
/-- Two points in a row, at k and k + 1. -/
def dotsAt (l : List UInt8) (k : Nat) : Bool := decide (l[k]? = some 46) && decide (l[k + 1]? = some 46)
theorem index_ge (sub : List UInt8) : ∀ l : List UInt8, -1 ≤ Go.Lib.index l sub
  | [] => by unfold Go.Lib.index; split <;> omega
  | b :: l => by
    have := index_ge sub l
    unfold Go.Lib.index
    split
    · omega
    · split <;> omega
theorem contains_dots : ∀ l : List UInt8, Go.Lib.contains l [46, 46] = true ↔ ∃ k, dotsAt l k = true
  | [] => by simp [Go.Lib.contains, Go.Lib.index, dotsAt]
  | b :: l => by
    have ih := contains_dots l
    have hg := index_ge [46, 46] l
    unfold Go.Lib.contains at ih ⊢
    rw [decide_eq_true_iff] at ih ⊢
    unfold Go.Lib.index
    by_cases hp : ([46, 46] : List UInt8).isPrefixOf (b :: l) = true
    · rw [if_pos hp]
      refine ⟨fun _ => ⟨0, ?_⟩, fun _ => Int.le_refl _⟩
      rcases l with _ | ⟨c, l⟩
      · simp [List.isPrefixOf] at hp
      · simp [List.isPrefixOf] at hp
        simp [dotsAt, ← hp.1, ← hp.2]
    · rw [if_neg hp]
      have h0 : dotsAt (b :: l) 0 = false := by
        rcases l with _ | ⟨c, l⟩
        · simp [dotsAt]
        · simp [List.isPrefixOf] at hp
          simp [dotsAt]
          intro h; subst h
          exact fun h2 => hp rfl h2.symm
      have hs : (∃ k, dotsAt (b :: l) k = true) ↔ ∃ k, dotsAt l k = true := by
        constructor
        · rintro ⟨k, hk⟩
          rcases k with _ | k
          · rw [h0] at hk; cases hk
          · exact ⟨k, by simpa [dotsAt] using hk⟩
        · rintro ⟨k, hk⟩
          exact ⟨k + 1, by simpa [dotsAt] using hk⟩
      rw [hs, ← ih]
      by_cases hm : Go.Lib.index l [46, 46] = -1
      · simp [hm]
      · have : (Go.Lib.index l [46, 46] == -1) = false := by simpa using hm
        rw [this]
        simp only [Bool.false_eq_true, if_false]
        omega
/-! ### the reference's words -/
/-- The byte at k is a letter of components, and no second point in a row. -/
def chk (l : List UInt8) (k : Nat) : Bool := letters.contains (l[k]?.getD 0) && !(decide (0 < k) && l[k]?.getD 0 == 46 && l[k - 1]?.getD 0 == 46)
theorem comp_chk (l : List UInt8) : comp l = true ↔ l ≠ [] ∧ l[0]?.getD 0 ≠ 46 ∧ Go.Lib.hasSuffix l [46, 108, 111, 99, 107] = false ∧ ∀ k, k < l.length → chk l k = true := by
  unfold comp
  simp only [Bool.and_eq_true, Bool.not_eq_true', List.isEmpty_eq_false_iff, beq_eq_false_iff_ne, List.all_eq_true]
  constructor
  · rintro ⟨⟨⟨⟨h1, h2⟩, h3⟩, h4⟩, h5⟩
    refine ⟨h1, h2, h3, fun k hk => ?_⟩
    unfold chk
    rw [Bool.and_eq_true, Bool.not_eq_true']
    refine ⟨?_, ?_⟩
    · rw [List.getElem?_eq_getElem hk]; exact h5 _ (List.getElem_mem hk)
    · by_cases h0 : 0 < k
      · obtain ⟨j, rfl⟩ : ∃ j, k = j + 1 := ⟨k - 1, by omega⟩
        have hd : dotsAt l j ≠ true := fun h => by
          have := (contains_dots l).2 ⟨j, h⟩
          rw [h4] at this; cases this
        unfold dotsAt at hd
        rw [List.getElem?_eq_getElem (by omega : j < l.length), List.getElem?_eq_getElem hk] at hd
        rw [Nat.add_sub_cancel, List.getElem?_eq_getElem hk, List.getElem?_eq_getElem (by omega : j < l.length)]
        simp only [Option.some.injEq] at hd
        simp only [Option.getD_some, Bool.and_eq_false_iff, beq_eq_false_iff_ne, decide_eq_false_iff_not]
        by_cases hj : l[j] = 46
        · exact .inl (.inr fun h46 => hd (by simp [hj, h46]))
        · exact .inr hj
      · simp [h0]
  · rintro ⟨h1, h2, h3, h4⟩
    refine ⟨⟨⟨⟨h1, h2⟩, h3⟩, ?_⟩, fun x hx => ?_⟩
    · rw [Bool.eq_false_iff]
      intro h
      obtain ⟨j, hj⟩ := (contains_dots l).1 h
      unfold dotsAt at hj
      rw [Bool.and_eq_true, decide_eq_true_iff, decide_eq_true_iff] at hj
      have hk : j + 1 < l.length := (List.getElem?_eq_some_iff.1 hj.2).1
      have := h4 (j + 1) hk
      unfold chk at this
      rw [Nat.add_sub_cancel, hj.1, hj.2] at this
      simp at this
    · obtain ⟨k, hk, rfl⟩ := List.getElem_of_mem hx
      have := h4 k hk
      unfold chk at this
      rw [Bool.and_eq_true, List.getElem?_eq_getElem hk] at this
      exact this.1
theorem hasPrefix_sep (a b : List UInt8) : Go.Lib.hasPrefix a (b ++ [47]) = true ↔ ∃ r, a = b ++ 47 :: r := by
  unfold Go.Lib.hasPrefix
  rw [List.isPrefixOf_iff_prefix]
  constructor
  · rintro ⟨r, h⟩; exact ⟨r, by rw [← h]; simp⟩
  · rintro ⟨r, h⟩; exact ⟨r, by rw [h]; simp⟩
/-- Two names conflict. -/
def conf (a b : List UInt8) : Bool := Go.Lib.hasPrefix a (b ++ [47]) || Go.Lib.hasPrefix b (a ++ [47])
def confR (a b : List UInt8) : Bool := decide ((comps a).length ≠ (comps b).length) && decide ((comps a).take (min (comps a).length (comps b).length) = (comps b).take (min (comps a).length (comps b).length))
theorem conf_eq (a b : List UInt8) : conf a b = confR a b := by
  rw [Bool.eq_iff_iff]
  unfold conf confR
  rw [Bool.or_eq_true, hasPrefix_sep, hasPrefix_sep, comps_pre b.length b a (Nat.le_refl _), comps_pre a.length a b (Nat.le_refl _), Bool.and_eq_true, decide_eq_true_iff, decide_eq_true_iff]
  generalize comps a = x
  generalize comps b = y
  constructor
  · rintro (⟨z, hz, rfl⟩ | ⟨z, hz, rfl⟩)
    · have : 0 < z.length := List.length_pos_iff.2 hz
      refine ⟨by simp; omega, ?_⟩
      rw [Nat.min_eq_right (by simp)]
      simp
    · have : 0 < z.length := List.length_pos_iff.2 hz
      refine ⟨by simp; omega, ?_⟩
      rw [Nat.min_eq_left (by simp)]
      simp
  · rintro ⟨hl, he⟩
    by_cases h : x.length < y.length
    · rw [Nat.min_eq_left (by omega), List.take_length] at he
      refine .inr ⟨y.drop x.length, ?_, ?_⟩
      · intro h2
        have := congrArg List.length h2
        simp at this; omega
      · conv => lhs; rw [← List.take_append_drop x.length y]
        rw [← he]
    · rw [Nat.min_eq_right (by omega), List.take_length] at he
      refine .inl ⟨x.drop y.length, ?_, ?_⟩
      · intro h2
        have := congrArg List.length h2
        simp at this; omega
      · conv => lhs; rw [← List.take_append_drop y.length x]
        rw [he]
theorem conf_comm (a b : List UInt8) : conf a b = conf b a := by unfold conf; rw [Bool.or_comm]
end Rf
