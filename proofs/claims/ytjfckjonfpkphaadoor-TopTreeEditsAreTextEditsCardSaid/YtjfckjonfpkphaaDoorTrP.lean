/-
  File trees: paths, lines, cutting at newlines. No program in sight.
-/
import Derived.Test.YtjfckjonfpkphaaDoorRfP
import Derived.Lib.Strings
namespace Tr
abbrev Nm := List UInt8
/-- A file. -/
structure F where
  path : Nm
  lines : List Nm
deriving DecidableEq, Inhabited
/-- A letter of a path. -/
def letter (c : UInt8) : Bool := (decide (97 ≤ c.toNat) && decide (c.toNat ≤ 122)) || (decide (65 ≤ c.toNat) && decide (c.toNat ≤ 90)) || (decide (48 ≤ c.toNat) && decide (c.toNat ≤ 57)) || decide (c.toNat = 46) || decide (c.toNat = 95) || decide (c.toNat = 45)
/-- A part of a path. -/
def part (l : Nm) : Bool := decide (l ≠ []) && decide (l ≠ [46]) && decide (l ≠ [46, 46]) && l.all letter
def pathOk (l : Nm) : Bool := decide (l.length ≤ 60) && (Rf.comps l).all part
theorem letter_10 : letter 10 = false := by decide
theorem pathOk_len {l : Nm} (h : pathOk l = true) : l.length ≤ 60 := by unfold pathOk at h; simp at h; exact h.1
/-- Every byte of a list lies in a component, or is a slash. -/
theorem mem_cmp (x : UInt8) : ∀ (now l : List UInt8), x ∈ now ++ l → x = 47 ∨ ∃ p ∈ Rf.cmp now l, x ∈ p
  | now, [], h => .inr ⟨now, by simp [Rf.cmp], by simpa using h⟩
  | now, c :: l, h => by
    rw [Rf.cmp]
    split
    · rename_i hc
      rcases List.mem_append.1 h with h | h
      · exact .inr ⟨now, by simp, h⟩
      · rcases List.mem_cons.1 h with rfl | h
        · exact .inl hc
        · rcases mem_cmp x [] l (by simpa using h) with h | ⟨p, hp, hx⟩
          · exact .inl h
          · exact .inr ⟨p, List.mem_cons_of_mem _ hp, hx⟩
    · exact mem_cmp x (now ++ [c]) l (by simpa using h)
theorem pathOk_nl {l : Nm} (h : pathOk l = true) : (10 : UInt8) ∉ l := by
  intro hm
  rcases mem_cmp 10 [] l (by simpa using hm) with h0 | ⟨p, hp, hx⟩
  · exact absurd h0 (by decide)
  · unfold pathOk at h
    rw [Bool.and_eq_true] at h
    have h2 := List.all_eq_true.1 h.2 p hp
    unfold part at h2
    rw [Bool.and_eq_true] at h2
    have := List.all_eq_true.1 h2.2 10 hx
    rw [letter_10] at this; cases this
/-- One path lies below the other one, or they are equal. -/
def rel (a b : Nm) : Bool := decide (a = b) || Go.Lib.hasPrefix a (b ++ [47]) || Go.Lib.hasPrefix b (a ++ [47])
/-- The fault of a text. -/
def lnFrom : List Nm → Nat → Int × Int
  | [], _ => (0, 0)
  | s :: l, i => if 80 < s.length then (2, (i : Int)) else if (10 : UInt8) ∈ s then (5, (i : Int)) else lnFrom l (i + 1)
def lnF (l : List Nm) : Int × Int := if 120 < l.length then (2, -1) else lnFrom l 0
theorem lnFrom_ok : ∀ (l : List Nm) (i : Nat), (lnFrom l i).1 = 0 → lnFrom l i = (0, 0) ∧ ∀ s ∈ l, s.length ≤ 80 ∧ (10 : UInt8) ∉ s
  | [], _, _ => ⟨rfl, fun _ h => by cases h⟩
  | s :: l, i, h => by
    rw [lnFrom] at h ⊢
    split at h
    · cases h
    · rename_i h1
      split at h
      · cases h
      · rename_i h2
        rw [if_neg h1, if_neg h2]
        obtain ⟨h3, h4⟩ := lnFrom_ok l (i + 1) h
        refine ⟨h3, fun x hx => ?_⟩
        rcases List.mem_cons.1 hx with rfl | hx
        · exact ⟨by omega, h2⟩
        · exact h4 x hx
theorem lnFrom_all : ∀ (l : List Nm) (i : Nat), (∀ s ∈ l, s.length ≤ 80 ∧ (10 : UInt8) ∉ s) → lnFrom l i = (0, 0)
  | [], _, _ => rfl
  | s :: l, i, h => by
    obtain ⟨h1, h2⟩ := h s (by simp)
    rw [lnFrom, if_neg (by omega), if_neg h2]
    exact lnFrom_all l _ fun x hx => h x (List.mem_cons_of_mem _ hx)
/-- A valid text. -/
structure LnOk (l : List Nm) : Prop where
  len : l.length ≤ 120
  all : ∀ s ∈ l, s.length ≤ 80 ∧ (10 : UInt8) ∉ s
theorem lnF_ok {l : List Nm} (h : (lnF l).1 = 0) : lnF l = (0, 0) ∧ LnOk l := by
  unfold lnF at h ⊢
  split at h
  · cases h
  · rename_i h1
    rw [if_neg h1]
    obtain ⟨h2, h3⟩ := lnFrom_ok l 0 h
    exact ⟨h2, by omega, h3⟩
theorem LnOk.f {l : List Nm} (h : LnOk l) : lnF l = (0, 0) := by
  unfold lnF; rw [if_neg (by have := h.len; omega)]; exact lnFrom_all l 0 h.all
/-- A path clashes with one of the files. -/
def clash (l : List F) (p : Nm) : Bool := l.any fun f => rel f.path p
def it (t : List F) (i : Nat) : F := t[i]?.getD default
theorem it_eq (t : List F) (i : Nat) (h : i < t.length) : t[i] = it t i := by unfold it; rw [List.getElem?_eq_getElem h]; rfl
/-- The error of the file number i. -/
def flC (t : List F) (i : Nat) : Int :=
  if pathOk (it t i).path = false then 12 else if 0 < i ∧ ¬ (it t (i - 1)).path < (it t i).path then 5 else if clash (t.take i) (it t i).path = true then 7 else (lnF (it t i).lines).1
def vlFrom (t : List F) (i : Nat) : Int × Int := if i < t.length then if flC t i ≠ 0 then (flC t i, (i : Int)) else vlFrom t (i + 1) else (0, 0)
termination_by t.length - i
theorem vlFrom_end (t : List F) (i : Nat) (h : t.length ≤ i) : vlFrom t i = (0, 0) := by rw [vlFrom, if_neg (by omega)]
theorem vlFrom_bad (t : List F) (i : Nat) (h : i < t.length) (hc : flC t i ≠ 0) : vlFrom t i = (flC t i, (i : Int)) := by rw [vlFrom, if_pos h, if_pos hc]
theorem vlFrom_next (t : List F) (i : Nat) (h : i < t.length) (hc : flC t i = 0) : vlFrom t i = vlFrom t (i + 1) := by rw [vlFrom, if_pos h, if_neg (by omega)]
/-- The fault of a file tree. -/
def vlF (t : List F) : Int × Int := if 24 < t.length then (2, -1) else vlFrom t 0
/-- A valid file tree. -/
structure VOk (t : List F) : Prop where
  len : t.length ≤ 24
  path : ∀ i, i < t.length → pathOk (it t i).path = true
  lt : ∀ i, i + 1 < t.length → (it t i).path < (it t (i + 1)).path
  far : ∀ i j, i < t.length → j < i → rel (it t j).path (it t i).path = false
  lines : ∀ i, i < t.length → LnOk (it t i).lines
theorem clash_iff (t : List F) (i : Nat) (hi : i ≤ t.length) (p : Nm) : clash (t.take i) p = false ↔ ∀ j, j < i → rel (it t j).path p = false := by
  unfold clash
  rw [List.any_eq_false]
  constructor
  · intro h j hj
    have hj2 : j < (t.take i).length := by simp; omega
    have := h _ (List.getElem_mem hj2)
    rw [List.getElem_take, it_eq t j (by omega)] at this
    simpa using this
  · intro h x hx
    obtain ⟨j, hj, rfl⟩ := List.mem_iff_getElem.1 hx
    rw [List.getElem_take, it_eq t j (by simp at hj; omega)]
    rw [h j (by simp at hj; omega)]; decide
theorem flC_zero {t : List F} {i : Nat} (hi : i < t.length) (h : flC t i = 0) : pathOk (it t i).path = true ∧ (0 < i → (it t (i - 1)).path < (it t i).path) ∧ (∀ j, j < i → rel (it t j).path (it t i).path = false) ∧ LnOk (it t i).lines := by
  unfold flC at h
  split at h
  · cases h
  · rename_i h1
    split at h
    · cases h
    · rename_i h2
      split at h
      · cases h
      · rename_i h3
        refine ⟨by simpa using h1, fun h0 => Classical.byContradiction fun hc => h2 ⟨h0, hc⟩, (clash_iff t i (by omega) _).1 (by simpa using h3), (lnF_ok h).2⟩
theorem vlFrom_ok (t : List F) : ∀ n i, t.length - i ≤ n → (vlFrom t i).1 = 0 → vlFrom t i = (0, 0) ∧ ∀ j, j < t.length → i ≤ j → flC t j = 0
  | n, i, hn, h => by
    by_cases hi : i < t.length
    · by_cases hc : flC t i = 0
      · obtain _ | n := n
        · omega
        · rw [vlFrom_next t i hi hc] at h ⊢
          obtain ⟨h1, h2⟩ := vlFrom_ok t n (i + 1) (by omega) h
          refine ⟨h1, fun j hj hij => ?_⟩
          by_cases e : j = i
          · subst e; exact hc
          · exact h2 j hj (by omega)
      · rw [vlFrom_bad t i hi hc] at h; exact absurd h hc
    · rw [vlFrom_end t i (by omega)]; exact ⟨rfl, fun j hj hij => by omega⟩
theorem vlF_ok {t : List F} (h : (vlF t).1 = 0) : vlF t = (0, 0) ∧ VOk t := by
  unfold vlF at h ⊢
  split at h
  · cases h
  · rename_i hl
    rw [if_neg hl]
    obtain ⟨h1, h2⟩ := vlFrom_ok t _ 0 (Nat.le_refl _) h
    refine ⟨h1, by omega, fun i hi => (flC_zero hi (h2 i hi (Nat.zero_le _))).1, fun i hi => ?_, fun i j hi hj => (flC_zero hi (h2 i hi (Nat.zero_le _))).2.2.1 j hj, fun i hi => (flC_zero hi (h2 i hi (Nat.zero_le _))).2.2.2⟩
    have := (flC_zero hi (h2 (i + 1) hi (Nat.zero_le _))).2.1 (by omega)
    simpa using this
theorem VOk.c {t : List F} (h : VOk t) (i : Nat) (hi : i < t.length) : flC t i = 0 := by
  unfold flC
  rw [if_neg (by rw [h.path i hi]; decide), if_neg, if_neg, (h.lines i hi).f]
  · rw [(clash_iff t i (by omega) _).2 (fun j hj => h.far i j hi hj)]; decide
  · rintro ⟨h0, h1⟩
    have := h.lt (i - 1) (by omega)
    rw [show i - 1 + 1 = i by omega] at this
    exact h1 this
theorem vlFrom_all (t : List F) (h : ∀ i, i < t.length → flC t i = 0) : ∀ n i, t.length - i ≤ n → vlFrom t i = (0, 0)
  | n, i, hn => by
    by_cases hi : i < t.length
    · obtain _ | n := n
      · omega
      · rw [vlFrom_next t i hi (h i hi)]; exact vlFrom_all t h n (i + 1) (by omega)
    · exact vlFrom_end t i (by omega)
theorem VOk.f {t : List F} (h : VOk t) : vlF t = (0, 0) := by
  have := h.len
  unfold vlF; rw [if_neg (by omega)]; exact vlFrom_all t h.c _ 0 (Nat.le_refl _)
theorem LnOk.nil : LnOk [] := ⟨by simp, fun _ h => by cases h⟩
/-- The paths alone. -/
def bare (t : List F) : List F := t.map fun f => ⟨f.path, []⟩
theorem it_bare (t : List F) (i : Nat) (hi : i < t.length) : it (bare t) i = ⟨(it t i).path, []⟩ := by
  rw [← it_eq (bare t) i (by simpa [bare] using hi), ← it_eq t i hi]; simp [bare]
theorem VOk.bare {t : List F} (h : VOk t) : VOk (Tr.bare t) := by
  have hl : (Tr.bare t).length = t.length := by simp [Tr.bare]
  refine ⟨by rw [hl]; exact h.len, fun i hi => ?_, fun i hi => ?_, fun i j hi hj => ?_, fun i hi => ?_⟩
  · rw [it_bare t i (by omega)]; exact h.path i (by omega)
  · rw [it_bare t i (by omega), it_bare t (i + 1) (by omega)]; exact h.lt i (by omega)
  · rw [it_bare t i (by omega), it_bare t j (by omega)]; exact h.far i j (by omega) hj
  · rw [it_bare t i (by omega)]; exact LnOk.nil
/-- One file alone. -/
theorem VOk.one {p : Nm} {l : List Nm} (h : pathOk p = true) (k : LnOk l) : VOk [⟨p, l⟩] := by
  refine ⟨by simp, fun i hi => ?_, fun i hi => by simp at hi, fun i j hi hj => by simp at hi; omega, fun i hi => ?_⟩
  · obtain rfl : i = 0 := by simpa using hi
    exact h
  · obtain rfl : i = 0 := by simpa using hi
    exact k
/-! ### cutting at newlines -/
/-- Cut at newlines; now: what has come of the line at hand. -/
def cutL (now : Nm) : List UInt8 → List Nm × Nm
  | [] => ([], now)
  | c :: l => if c = 10 then (now :: (cutL [] l).1, (cutL [] l).2) else cutL (now ++ [c]) l
def cut (b : List UInt8) : List Nm × Nm := cutL [] b
theorem cutL_no (now : Nm) : ∀ l : List UInt8, 10 ∉ l → cutL now l = ([], now ++ l)
  | [], _ => by simp [cutL]
  | c :: l, h => by
    rw [cutL, if_neg (fun e => h (by simp [e])), cutL_no _ l (fun h2 => h (List.mem_cons_of_mem _ h2))]
    simp
theorem cutL_sep (now : Nm) : ∀ a l : List UInt8, 10 ∉ a → cutL now (a ++ 10 :: l) = ((now ++ a) :: (cut l).1, (cut l).2)
  | [], l, _ => by simp [cutL, cut]
  | c :: a, l, h => by
    rw [List.cons_append, cutL, if_neg (fun e => h (by simp [e])), cutL_sep _ a l (fun h2 => h (List.mem_cons_of_mem _ h2))]
    simp
theorem cut_sep {a : List UInt8} (l : List UInt8) (h : 10 ∉ a) : cut (a ++ 10 :: l) = (a :: (cut l).1, (cut l).2) := by unfold cut; rw [cutL_sep _ _ _ h]; rfl
/-- Lines, each followed by a newline. -/
def joined (l : List Nm) : List UInt8 := l.flatMap fun s => s ++ [10]
theorem joined_snoc (l : List Nm) (s : Nm) : joined (l ++ [s]) = joined l ++ s ++ [10] := by unfold joined; rw [List.flatMap_append]; simp
theorem joined_cons (s : Nm) (l : List Nm) : joined (s :: l) = s ++ 10 :: joined l := by unfold joined; simp
theorem cut_joined : ∀ l : List Nm, (∀ s ∈ l, (10 : UInt8) ∉ s) → cut (joined l) = (l, [])
  | [], _ => rfl
  | s :: l, h => by rw [joined_cons, cut_sep _ (h s (by simp)), cut_joined l (fun x hx => h x (List.mem_cons_of_mem _ hx))]
theorem split10 (l : List UInt8) : 10 ∉ l ∨ ∃ a r, l = a ++ 10 :: r ∧ 10 ∉ a := by
  induction l with
  | nil => exact .inl (by simp)
  | cons c l ih =>
    by_cases hc : c = 10
    · exact .inr ⟨[], l, by simp [hc], by simp⟩
    · rcases ih with h | ⟨a, r, h, ha⟩
      · exact .inl (by simp [h, Ne.symm hc])
      · exact .inr ⟨c :: a, r, by simp [h], by simp [ha, Ne.symm hc]⟩
theorem cut_join (n : Nat) : ∀ (b : List UInt8), b.length ≤ n → joined (cut b).1 ++ (cut b).2 = b := by
  induction n with
  | zero =>
    intro b hb
    obtain rfl : b = [] := List.eq_nil_of_length_eq_zero (by omega)
    rfl
  | succ n ih =>
    intro b hn
    rcases split10 b with h | ⟨a, r, rfl, h⟩
    · unfold cut; rw [cutL_no _ _ h]; simp [joined]
    · rw [cut_sep r h, joined_cons]
      have := ih r (by simp at hn; omega)
      rw [List.append_assoc, List.cons_append, this]
theorem cut_nl (n : Nat) : ∀ (b : List UInt8), b.length ≤ n → (∀ s ∈ (cut b).1, (10 : UInt8) ∉ s) ∧ (10 : UInt8) ∉ (cut b).2 := by
  induction n with
  | zero =>
    intro b hb
    obtain rfl : b = [] := List.eq_nil_of_length_eq_zero (by omega)
    exact ⟨fun _ h => (List.not_mem_nil h).elim, List.not_mem_nil⟩
  | succ n ih =>
    intro b hb
    rcases split10 b with h | ⟨a, r, rfl, h⟩
    · unfold cut; rw [cutL_no _ _ h]; exact ⟨fun _ h => (List.not_mem_nil h).elim, by simpa using h⟩
    · rw [cut_sep r h]
      obtain ⟨h1, h2⟩ := ih r (by simp at hb; omega)
      refine ⟨fun s hs => ?_, h2⟩
      rcases List.mem_cons.1 hs with rfl | hs
      · exact h
      · exact h1 s hs
theorem index10_no : ∀ {l : List UInt8}, 10 ∉ l → Go.Lib.index l [10] = -1
  | [], _ => by simp [Go.Lib.index]
  | c :: l, h => by
    have ih := index10_no (l := l) (fun h2 => h (List.mem_cons_of_mem _ h2))
    have hc : ¬ (10 : UInt8) = c := fun e => h (by simp [e])
    simp [Go.Lib.index, ih, List.isPrefixOf, hc]
theorem index10_sep : ∀ {a : List UInt8} (r : List UInt8), 10 ∉ a → Go.Lib.index (a ++ 10 :: r) [10] = (a.length : Int)
  | [], r, _ => by simp [Go.Lib.index, List.isPrefixOf]
  | c :: a, r, h => by
    have ih := index10_sep (a := a) r (fun h2 => h (List.mem_cons_of_mem _ h2))
    have hc : ¬ (10 : UInt8) = c := fun e => h (by simp [e])
    have hn : ¬ ((a.length : Int) = -1) := by omega
    rw [List.cons_append, Go.Lib.index]
    simp [ih, List.isPrefixOf, hc, hn]
/-- The library's 'Split' at a newline: what is cut if a newline follows. -/
theorem split_cut (n : Nat) : ∀ (b : List UInt8), b.length ≤ n → Go.Lib.splitK [10] 0 (Go.Lib.count b [10]) b = (cut (b ++ [10])).1 := by
  induction n with
  | zero =>
    intro b hb
    obtain rfl : b = [] := List.eq_nil_of_length_eq_zero (by omega)
    rfl
  | succ n ih =>
    intro b hn
    rcases split10 b with h | ⟨a, r, rfl, h⟩
    · rw [Go.Lib.count_miss (index10_no h), cut_sep (a := b) [] h]; rfl
    · have hi := index10_sep r h
      have hd : (a ++ 10 :: r).drop (a.length + ([10] : List UInt8).length) = r := by
        rw [List.drop_append]; simp
      rw [Go.Lib.count_hit (i := a.length) (by simp) hi, hd, Nat.add_comm, Go.Lib.splitK, hi]
      have hm : ¬ ((a.length : Int) == -1) = true := fun e => by have := beq_iff_eq.1 e; omega
      rw [if_neg hm, Int.toNat_natCast, hd, Nat.add_zero, List.take_left' rfl, ih r (by simp at hn; omega), List.append_assoc, List.cons_append, cut_sep _ h]
theorem cut_last (n : Nat) : ∀ (x : List UInt8), x.length ≤ n → (cut (x ++ [10])).2 = [] := by
  induction n with
  | zero =>
    intro b hb
    obtain rfl : b = [] := List.eq_nil_of_length_eq_zero (by omega)
    rfl
  | succ n ih =>
    intro x hn
    rcases split10 x with h | ⟨a, r, rfl, h⟩
    · rw [cut_sep [] h]; rfl
    · rw [List.append_assoc, List.cons_append, cut_sep _ h]
      exact ih r (by simp at hn; omega)
/-- Data that ends with a newline. -/
theorem cut_end_iff (b : List UInt8) : (cut b).2 = [] ↔ b = [] ∨ ∃ x, b = x ++ [10] := by
  constructor
  · intro h
    have hj := cut_join b.length b (Nat.le_refl _)
    rw [h, List.append_nil] at hj
    rcases hc : (cut b).1.reverse with _ | ⟨s, l⟩
    · left
      rw [List.reverse_eq_nil_iff.1 hc] at hj
      exact hj.symm
    · right
      have : (cut b).1 = l.reverse ++ [s] := by rw [← List.reverse_reverse (cut b).1, hc]; simp
      rw [this, joined_snoc] at hj
      exact ⟨joined l.reverse ++ s, hj.symm⟩
  · rintro (rfl | ⟨x, rfl⟩)
    · rfl
    · exact cut_last x.length x (Nat.le_refl _)
end Tr
