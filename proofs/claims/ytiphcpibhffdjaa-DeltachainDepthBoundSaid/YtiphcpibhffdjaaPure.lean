/-
  The plain law of the delta chain: what Encode, the reference, Apply and Pack compute, on lists, with no program in sight.
-/
namespace Dc

structure Op where
  off : Int
  len : Int
  data : List UInt8
  deriving DecidableEq, Inhabited

/-- The length of the common prefix. -/
def cpl : List UInt8 → List UInt8 → Nat
  | a :: as, b :: bs => if a = b then cpl as bs + 1 else 0
  | _, _ => 0

theorem cpl_le_left : ∀ a b, cpl a b ≤ a.length
  | [], b => by cases b <;> simp [cpl]
  | a :: as, [] => by simp [cpl]
  | a :: as, b :: bs => by
    have := cpl_le_left as bs
    simp only [cpl]; split <;> simp <;> omega
theorem cpl_le_right : ∀ a b, cpl a b ≤ b.length
  | [], b => by cases b <;> simp [cpl]
  | a :: as, [] => by simp [cpl]
  | a :: as, b :: bs => by
    have := cpl_le_right as bs
    simp only [cpl]; split <;> simp <;> omega
theorem cpl_take : ∀ a b : List UInt8, a.take (cpl a b) = b.take (cpl a b)
  | [], b => by cases b <;> simp [cpl]
  | a :: as, [] => by simp [cpl]
  | a :: as, b :: bs => by
    have := cpl_take as bs
    simp only [cpl]; split
    · rename_i h; subst h; simp [this]
    · simp
theorem cpl_self : ∀ a, cpl a a = a.length
  | [] => by simp [cpl]
  | a :: as => by simp [cpl, cpl_self as]
/-- A partial match of n letters is the whole of it, or the next letter decides. -/
theorem cpl_of_stop : ∀ (a b : List UInt8) (n : Nat), n ≤ cpl a b → (¬ (n < b.length ∧ n < a.length) ∨ ∃ (h1 : n < a.length) (h2 : n < b.length), a[n] ≠ b[n]) → cpl a b = n
  | [], b, n, hn, _ => by cases b <;> simp_all [cpl]
  | a :: as, [], n, hn, _ => by simp_all [cpl]
  | a :: as, b :: bs, 0, hn, h => by
    rcases h with h | ⟨h1, h2, h⟩
    · simp at h
    · simp at h; simp [cpl, h]
  | a :: as, b :: bs, n + 1, hn, h => by
    simp only [cpl] at hn ⊢
    split at hn
    · rename_i he
      rw [if_pos he]
      have := cpl_of_stop as bs n (by omega) (by simpa using h)
      omega
    · omega
theorem cpl_step : ∀ (a b : List UInt8) (n : Nat), n ≤ cpl a b → (h1 : n < a.length) → (h2 : n < b.length) → a[n] = b[n] → n + 1 ≤ cpl a b
  | [], b, n, _, h1, _, _ => by simp at h1
  | a :: as, [], n, _, _, h2, _ => by simp at h2
  | a :: as, b :: bs, 0, _, _, _, he => by simp at he; simp [cpl, he]
  | a :: as, b :: bs, n + 1, hn, h1, h2, he => by
    simp only [cpl] at hn ⊢
    split at hn
    · rename_i e
      rw [if_pos e]
      have := cpl_step as bs n (by omega) (by simpa using h1) (by simpa using h2) (by simpa using he)
      omega
    · omega

/-- After i rounds of 'longest'. -/
def longestTo (base rest : List UInt8) : Nat → Nat × Nat
  | 0 => (0, 0)
  | i + 1 => if (longestTo base rest i).2 < cpl (base.drop i) rest then (i, cpl (base.drop i) rest) else longestTo base rest i
def longest (base rest : List UInt8) : Nat × Nat := longestTo base rest base.length

theorem longestTo_le (base rest : List UInt8) : ∀ i, i ≤ base.length → (longestTo base rest i).1 + (longestTo base rest i).2 ≤ base.length ∧ (longestTo base rest i).2 ≤ rest.length ∧
    (base.drop (longestTo base rest i).1).take (longestTo base rest i).2 = rest.take (longestTo base rest i).2
  | 0, _ => by simp [longestTo]
  | i + 1, h => by
    simp only [longestTo]
    split
    · have h1 := cpl_le_left (base.drop i) rest
      have h2 := cpl_le_right (base.drop i) rest
      have h3 := cpl_take (base.drop i) rest
      simp at h1
      exact ⟨by omega, h2, h3⟩
    · exact longestTo_le base rest i (by omega)
theorem longest_le (base rest : List UInt8) : (longest base rest).1 + (longest base rest).2 ≤ base.length ∧ (longest base rest).2 ≤ rest.length ∧
    (base.drop (longest base rest).1).take (longest base rest).2 = rest.take (longest base rest).2 := longestTo_le base rest _ (Nat.le_refl _)

/-- One letter more is inserted. -/
def addB (out : List Op) (b : UInt8) : List Op :=
  match out.getLast? with
  | some o => if 0 < o.len then out ++ [⟨0, 0, [b]⟩] else out.dropLast ++ [⟨o.off, o.len, o.data ++ [b]⟩]
  | none => [⟨0, 0, [b]⟩]

/-- What 'Encode' appends for what is left of the target. -/
def encGo (base : List UInt8) : Nat → List Op → List UInt8 → List Op
  | 0, out, _ => out
  | _ + 1, out, [] => out
  | f + 1, out, b :: t =>
    if 4 ≤ (longest base (b :: t)).2 then encGo base f (out ++ [⟨(longest base (b :: t)).1, (longest base (b :: t)).2, []⟩]) ((b :: t).drop (longest base (b :: t)).2)
    else encGo base f (addB out b) t
def encode (base target : List UInt8) : List Op := encGo base target.length [] target

theorem encGo_fuel (base : List UInt8) : ∀ (f g : Nat) (out : List Op) (t : List UInt8), t.length ≤ f → t.length ≤ g → encGo base f out t = encGo base g out t
  | 0, g, out, t, hf, _ => by
    have : t = [] := List.eq_nil_of_length_eq_zero (by omega)
    subst this
    cases g <;> simp [encGo]
  | f + 1, 0, out, t, _, hg => by
    have : t = [] := List.eq_nil_of_length_eq_zero (by omega)
    subst this
    simp [encGo]
  | f + 1, g + 1, out, [], _, _ => by simp [encGo]
  | f + 1, g + 1, out, b :: t, hf, hg => by
    simp only [encGo]
    simp at hf hg
    split
    · exact encGo_fuel base f g _ _ (by simp; omega) (by simp; omega)
    · exact encGo_fuel base f g _ _ (by omega) (by omega)
/-- The rounds of the loop. -/
def encRest (base : List UInt8) (out : List Op) (t : List UInt8) : List Op := encGo base t.length out t
theorem encRest_nil (base : List UInt8) (out : List Op) : encRest base out [] = out := rfl
theorem encRest_copy (base : List UInt8) (out : List Op) (t : List UInt8) (hne : t ≠ []) (h : 4 ≤ (longest base t).2) :
    encRest base out t = encRest base (out ++ [⟨(longest base t).1, (longest base t).2, []⟩]) (t.drop (longest base t).2) := by
  match t, hne with
  | b :: t, _ =>
    unfold encRest
    simp only [List.length_cons, encGo, if_pos h]
    exact encGo_fuel base _ _ _ _ (by simp; omega) (Nat.le_refl _)
theorem encRest_add (base : List UInt8) (out : List Op) (b : UInt8) (t : List UInt8) (h : ¬ 4 ≤ (longest base (b :: t)).2) :
    encRest base out (b :: t) = encRest base (addB out b) t := by
  unfold encRest
  simp only [List.length_cons, encGo, if_neg h]

/-! ### Applying -/
/-- One operation: the new bytes and the code. -/
def run (base out : List UInt8) (o : Op) : List UInt8 × Int :=
  if o.len < 0 ∨ 0 < o.len ∧ (o.off < 0 ∨ (base.length : Int) < o.off ∨ (base.length : Int) - o.off < o.len) then ([], 3)
  else if 0 < o.len ∧ 0 < o.data.length ∨ ¬ 0 < o.len ∧ (o.off ≠ 0 ∨ o.data.length = 0) then ([], 5)
  else if (1000 : Int) < out.length + o.len + o.data.length then ([], 10)
  else if 0 < o.len then (out ++ (base.drop o.off.toNat).take o.len.toNat, 0)
  else (out ++ o.data, 0)

/-- The operations from number i on. -/
def applyGo (base : List UInt8) : Nat → List UInt8 → List Op → List UInt8 × (Int × Int)
  | _, out, [] => (out, (0, 0))
  | i, out, o :: os => if (run base out o).2 = 0 then applyGo base (i + 1) (run base out o).1 os else ([], ((run base out o).2, i))
def apply (base : List UInt8) (ops : List Op) : List UInt8 × (Int × Int) :=
  if 1000 < base.length then ([], (10, -1)) else if 1000 < ops.length then ([], (2, -1)) else applyGo base 0 [] ops

/-- A sequence of operations that is well formed and yields these bytes. -/
inductive Good (base : List UInt8) : List Op → List UInt8 → Prop
  | nil : Good base [] []
  | copy {os l} (a n : Nat) : Good base os l → 0 < n → a + n ≤ base.length → Good base (os ++ [⟨a, n, []⟩]) (l ++ (base.drop a).take n)
  | ins {os l} (d : List UInt8) : Good base os l → d ≠ [] → Good base (os ++ [⟨0, 0, d⟩]) (l ++ d)
theorem Good.last_insert {base : List UInt8} {os : List Op} {o : Op} {l : List UInt8} (h : Good base (os ++ [o]) l) (ho : ¬ 0 < o.len) :
    ∃ l0, Good base os l0 ∧ o.off = 0 ∧ o.len = 0 ∧ o.data ≠ [] ∧ l = l0 ++ o.data := by
  generalize hx : os ++ [o] = x at h
  cases h with
  | nil => simp at hx
  | copy a n hg hn _ =>
    obtain ⟨rfl, e⟩ := List.append_inj' hx rfl
    simp at e; subst e; simp at ho; omega
  | ins d hg hd =>
    obtain ⟨rfl, e⟩ := List.append_inj' hx rfl
    simp at e; subst e
    exact ⟨_, hg, rfl, rfl, hd, rfl⟩
theorem Good.addB {base : List UInt8} {os : List Op} {l : List UInt8} (h : Good base os l) (b : UInt8) : Good base (addB os b) (l ++ [b]) := by
  unfold Dc.addB
  rcases List.eq_nil_or_concat os with rfl | ⟨os, o, rfl⟩
  · have hl : l = [] := by
      generalize hx : ([] : List Op) = x at h
      cases h with
      | nil => rfl
      | copy => simp at hx
      | ins => simp at hx
    subst hl
    simpa using Good.ins (base := base) [b] Good.nil (by simp)
  · simp only [List.concat_eq_append, List.getLast?_append, List.getLast?_singleton, Option.some_or, List.dropLast_concat] at *
    split
    · exact Good.ins [b] h (by simp)
    · rename_i ho
      obtain ⟨l0, hg, h1, h2, _, rfl⟩ := h.last_insert ho
      rw [h1, h2, List.append_assoc]
      exact Good.ins _ hg (by simp)
theorem Good.encRest {base : List UInt8} : ∀ (f : Nat) (out : List Op) (l t : List UInt8), t.length ≤ f → Good base out l → Good base (encGo base f out t) (l ++ t)
  | 0, out, l, t, hf, h => by
    have : t = [] := List.eq_nil_of_length_eq_zero (by omega)
    subst this
    simpa [encGo] using h
  | f + 1, out, l, [], _, h => by simpa [encGo] using h
  | f + 1, out, l, b :: t, hf, h => by
    simp only [encGo]
    simp at hf
    obtain ⟨h1, h2, h3⟩ := longest_le base (b :: t)
    split
    · rename_i h4
      have := Good.encRest f _ _ ((b :: t).drop (longest base (b :: t)).2) (by simp; omega) (h.copy _ _ (by omega) h1)
      rw [h3, List.append_assoc, List.take_append_drop] at this
      exact this
    · have := Good.encRest f _ _ t (by omega) (h.addB b)
      simpa using this
theorem encode_good (base target : List UInt8) : Good base (encode base target) target := by
  have h := Good.encRest (base := base) target.length [] [] target (Nat.le_refl _) Good.nil
  rw [List.nil_append] at h
  exact h

theorem Good.length_le {base : List UInt8} {os : List Op} {l : List UInt8} (h : Good base os l) : os.length ≤ l.length := by
  induction h with
  | nil => simp
  | copy a n _ hn hl ih => simp; omega
  | ins d _ hd ih =>
    have : 0 < d.length := List.length_pos_iff.2 hd
    simp; omega
theorem applyGo_append (base : List UInt8) : ∀ (xs : List Op) (i : Nat) (out mid : List UInt8) (ys : List Op), applyGo base i out xs = (mid, (0, 0)) →
    (∀ o ∈ xs, True) → applyGo base i out (xs ++ ys) = applyGo base (i + xs.length) mid ys ∨ (∃ c : Int × Int, c = (0, 0) ∧ False)
  | [], i, out, mid, ys, h, _ => by
    simp [applyGo] at h
    subst h
    exact .inl rfl
  | o :: xs, i, out, mid, ys, h, _ => by
    simp only [applyGo] at h
    split at h
    · rename_i hr
      rcases applyGo_append base xs (i + 1) _ mid ys h (by simp) with h' | ⟨_, _, hf⟩
      · refine .inl ?_
        simp only [List.cons_append, applyGo, if_pos hr, h', List.length_cons]
        congr 1; omega
      · exact hf.elim
    · rename_i hr
      simp only [Prod.mk.injEq] at h
      exact absurd h.2.1 hr
theorem Good.apply {base : List UInt8} {os : List Op} {l : List UInt8} (h : Good base os l) (hl : l.length ≤ 1000) : applyGo base 0 [] os = (l, (0, 0)) := by
  induction h with
  | nil => rfl
  | @copy os l a n hg hn hle ih =>
    simp at hl
    rcases applyGo_append base os 0 [] l [⟨a, n, []⟩] (ih (by omega)) (by simp) with h' | ⟨_, _, hf⟩
    · rw [h']
      have hr : run base l ⟨a, n, []⟩ = (l ++ (base.drop a).take n, 0) := by
        unfold run
        rw [if_neg (by simp; omega), if_neg (by simp; omega), if_neg (by simp; omega), if_pos (by simp; omega)]
        simp
      simp [applyGo, hr]
    · exact hf.elim
  | @ins os l d hg hd ih =>
    have : 0 < d.length := List.length_pos_iff.2 hd
    simp at hl
    rcases applyGo_append base os 0 [] l [⟨0, 0, d⟩] (ih (by omega)) (by simp) with h' | ⟨_, _, hf⟩
    · rw [h']
      have hr : run base l ⟨0, 0, d⟩ = (l ++ d, 0) := by
        unfold run
        rw [if_neg (by simp), if_neg (by simp; exact hd), if_neg (by simp; omega), if_neg (by simp)]
      simp [applyGo, hr]
    · exact hf.elim
/-- Applying the delta of two byte strings to the first one yields the second one. -/
theorem round_trip (base target : List UInt8) (hb : base.length ≤ 1000) (ht : target.length ≤ 1000) : apply base (encode base target) = (target, (0, 0)) := by
  have hg := encode_good base target
  unfold apply
  rw [if_neg (by omega), if_neg (by have := hg.length_le; omega)]
  exact hg.apply ht

theorem longestTo_self (a : List UInt8) (ha : a ≠ []) : ∀ i, 0 < i → longestTo a a i = (0, a.length)
  | 1, _ => by
    have : 0 < a.length := List.length_pos_iff.2 ha
    simp [longestTo, cpl_self, this]
  | i + 2, _ => by
    rw [longestTo, longestTo_self a ha (i + 1) (by omega), if_neg]
    have := cpl_le_right (a.drop (i + 1)) a
    simp; omega
/-- The delta of a sufficiently long byte string and itself is a single copy. -/
theorem encode_self (a : List UInt8) (ha : 4 ≤ a.length) : encode a a = [⟨0, a.length, []⟩] := by
  have hne : a ≠ [] := by intro h; subst h; simp at ha
  have hl : longest a a = (0, a.length) := longestTo_self a hne _ (by omega)
  have := encRest_copy a [] a hne (by rw [hl]; exact ha)
  rw [hl] at this
  simp only [List.drop_length, List.nil_append] at this
  exact this.trans rfl
end Dc
