/-
  Objects and stores, the plain law. No program in sight.
-/
import Derived.Test.YtiilhnfdlpgllaaPkA
namespace Ob
structure O where
  kind : Int
  links : List Int
  data : List UInt8
instance : Inhabited O := ⟨⟨0, [], []⟩⟩
structure S where
  dig : Int
  ob : O
instance : Inhabited S := ⟨⟨0, default⟩⟩
def lnFrom (ls : List Int) (i : Nat) : Int × Int := if h : i < ls.length then if ls[i] < 0 ∨ 2305843009213693951 ≤ ls[i] then (3, (i : Int)) else lnFrom ls (i + 1) else (0, 0)
termination_by ls.length - i
theorem lnFrom_end (ls : List Int) (i : Nat) (h : ls.length ≤ i) : lnFrom ls i = (0, 0) := by rw [lnFrom, dif_neg (by omega)]
theorem lnFrom_bad (ls : List Int) (i : Nat) (h : i < ls.length) (hc : ls[i] < 0 ∨ 2305843009213693951 ≤ ls[i]) : lnFrom ls i = (3, (i : Int)) := by rw [lnFrom, dif_pos h, if_pos hc]
theorem lnFrom_next (ls : List Int) (i : Nat) (h : i < ls.length) (hc : ¬ (ls[i] < 0 ∨ 2305843009213693951 ≤ ls[i])) : lnFrom ls i = lnFrom ls (i + 1) := by rw [lnFrom, dif_pos h, if_neg hc]
theorem lnFrom_ok (ls : List Int) : ∀ n i, ls.length - i ≤ n → (lnFrom ls i).1 = 0 → lnFrom ls i = (0, 0) ∧ ∀ j (h : j < ls.length), i ≤ j → 0 ≤ ls[j] ∧ ls[j] < 2305843009213693951
  | n, i, hn, h => by
    by_cases hi : i < ls.length
    · by_cases hc : ls[i] < 0 ∨ 2305843009213693951 ≤ ls[i]
      · rw [lnFrom_bad ls i hi hc] at h; cases h
      · obtain _ | n := n
        · omega
        · rw [lnFrom_next ls i hi hc] at h ⊢
          obtain ⟨h1, h2⟩ := lnFrom_ok ls n (i + 1) (by omega) h
          refine ⟨h1, fun j hj hij => ?_⟩
          by_cases e : j = i
          · subst e; omega
          · exact h2 j hj (by omega)
    · rw [lnFrom_end ls i (by omega)]; exact ⟨rfl, fun j hj hij => by omega⟩
theorem lnFrom_all (ls : List Int) (h : ∀ j (h : j < ls.length), 0 ≤ ls[j] ∧ ls[j] < 2305843009213693951) : ∀ n i, ls.length - i ≤ n → lnFrom ls i = (0, 0)
  | n, i, hn => by
    by_cases hi : i < ls.length
    · obtain _ | n := n
      · omega
      · rw [lnFrom_next ls i hi (by have := h i hi; omega)]; exact lnFrom_all ls h n (i + 1) (by omega)
    · exact lnFrom_end ls i (by omega)
/-- The fault of an object. -/
def obF (o : O) : Int × Int :=
  if o.kind < 1 ∨ 3 < o.kind then (4, 0) else if 30 < o.links.length then (2, 0) else if 1000 < o.data.length then (10, 0)
  else if o.kind = 1 ∧ 0 < o.links.length then (5, 0) else lnFrom o.links 0
structure Ok (o : O) : Prop where
  lo : 1 ≤ o.kind
  hi : o.kind ≤ 3
  ln : o.links.length ≤ 30
  dn : o.data.length ≤ 1000
  bl : o.kind = 1 → o.links = []
  all : ∀ j (h : j < o.links.length), 0 ≤ o.links[j] ∧ o.links[j] < 2305843009213693951
theorem obF_ok {o : O} (h : (obF o).1 = 0) : obF o = (0, 0) ∧ Ok o := by
  unfold obF at h ⊢
  split at h
  · cases h
  · rename_i h1
    rw [if_neg h1]
    split at h
    · cases h
    · rename_i h2
      rw [if_neg h2]
      split at h
      · cases h
      · rename_i h3
        rw [if_neg h3]
        split at h
        · cases h
        · rename_i h4
          rw [if_neg h4]
          obtain ⟨h5, h6⟩ := lnFrom_ok _ _ 0 (Nat.le_refl _) h
          refine ⟨h5, by omega, by omega, by omega, by omega, fun hk => List.eq_nil_of_length_eq_zero ?_, fun j hj => h6 j hj (Nat.zero_le _)⟩
          have := fun hh => h4 ⟨hk, hh⟩
          omega
theorem Ok.f {o : O} (h : Ok o) : obF o = (0, 0) := by
  obtain ⟨h1, h2, h3, h4, h5, h6⟩ := h
  unfold obF
  rw [if_neg (by omega), if_neg (by omega), if_neg (by omega), if_neg (by rintro ⟨a, b⟩; rw [h5 a] at b; simp at b)]
  exact lnFrom_all _ h6 _ 0 (Nat.le_refl _)
/-- A number as eight bytes. -/
def wide (n : Nat) : List UInt8 := (List.range 8).map fun j => UInt8.ofNat (n / 256 ^ (7 - j))
@[simp] theorem wide_length (n : Nat) : (wide n).length = 8 := by simp [wide]
def lnB (ls : List Int) (i : Nat) : List UInt8 := (ls.take i).flatMap fun n => wide n.toNat
@[simp] theorem lnB_zero (ls : List Int) : lnB ls 0 = [] := rfl
theorem lnB_succ (ls : List Int) (i : Nat) (h : i < ls.length) : lnB ls (i + 1) = lnB ls i ++ wide ls[i].toNat := by
  unfold lnB; rw [List.take_succ_eq_append_getElem h, List.flatMap_append]; simp
@[simp] theorem lnB_length (ls : List Int) : ∀ i, i ≤ ls.length → (lnB ls i).length = 8 * i
  | 0, _ => rfl
  | i + 1, h => by rw [lnB_succ ls i (by omega), List.length_append, lnB_length ls i (by omega), wide_length]; omega
/-- The bytes that are digested for an object. -/
def bytes (o : O) : List UInt8 := [UInt8.ofNat o.kind.toNat, UInt8.ofNat o.links.length] ++ lnB o.links o.links.length ++ o.data
theorem bytes_length (o : O) : (bytes o).length = 2 + 8 * o.links.length + o.data.length := by simp [bytes]; omega
def dig (o : O) : Nat := Dg.ofL (bytes o)
theorem dig_lt (o : O) : dig o < 2305843009213693951 := Dg.ofTo_lt _ _ (Nat.le_refl _)
/-! ### stores -/
def it (s : List S) (i : Nat) : S := s[i]?.getD default
theorem it_eq (s : List S) (i : Nat) (h : i < s.length) : s[i] = it s i := by unfold it; rw [List.getElem?_eq_getElem h]; rfl
def code (s : List S) (i : Nat) : Int :=
  if (obF (it s i).ob).1 ≠ 0 then (obF (it s i).ob).1 else if ((dig (it s i).ob : Nat) : Int) ≠ (it s i).dig then 18
  else if 0 < i ∧ (it s i).dig ≤ (it s (i - 1)).dig then 5 else 0
def stFrom (s : List S) (i : Nat) : Int × Int := if i < s.length then if code s i ≠ 0 then (code s i, (i : Int)) else stFrom s (i + 1) else (0, 0)
termination_by s.length - i
theorem stFrom_end (s : List S) (i : Nat) (h : s.length ≤ i) : stFrom s i = (0, 0) := by rw [stFrom, if_neg (by omega)]
theorem stFrom_bad (s : List S) (i : Nat) (h : i < s.length) (hc : code s i ≠ 0) : stFrom s i = (code s i, (i : Int)) := by rw [stFrom, if_pos h, if_pos hc]
theorem stFrom_next (s : List S) (i : Nat) (h : i < s.length) (hc : code s i = 0) : stFrom s i = stFrom s (i + 1) := by rw [stFrom, if_pos h, if_neg (by omega)]
def stF (s : List S) : Int × Int := if 40 < s.length then (2, 0) else stFrom s 0
/-- A valid store. -/
structure StOk (s : List S) : Prop where
  len : s.length ≤ 40
  ok : ∀ i, i < s.length → Ok (it s i).ob
  eq : ∀ i, i < s.length → (it s i).dig = ((dig (it s i).ob : Nat) : Int)
  lt : ∀ i, i + 1 < s.length → (it s i).dig < (it s (i + 1)).dig
theorem code_zero {s : List S} {i : Nat} (h : code s i = 0) : Ok (it s i).ob ∧ (it s i).dig = ((dig (it s i).ob : Nat) : Int) ∧ (0 < i → (it s (i - 1)).dig < (it s i).dig) := by
  unfold code at h
  split at h
  · rename_i h1; exact absurd h h1
  · rename_i h1
    split at h
    · cases h
    · rename_i h2
      split at h
      · cases h
      · rename_i h3
        refine ⟨(obF_ok (by simpa using h1)).2, by omega, fun hi => ?_⟩
        have := fun hh => h3 ⟨hi, hh⟩
        omega
theorem stFrom_ok (s : List S) : ∀ n i, s.length - i ≤ n → (stFrom s i).1 = 0 → stFrom s i = (0, 0) ∧ ∀ j, j < s.length → i ≤ j → code s j = 0
  | n, i, hn, h => by
    by_cases hi : i < s.length
    · by_cases hc : code s i = 0
      · obtain _ | n := n
        · omega
        · rw [stFrom_next s i hi hc] at h ⊢
          obtain ⟨h1, h2⟩ := stFrom_ok s n (i + 1) (by omega) h
          refine ⟨h1, fun j hj hij => ?_⟩
          by_cases e : j = i
          · subst e; exact hc
          · exact h2 j hj (by omega)
      · rw [stFrom_bad s i hi hc] at h; exact absurd h hc
    · rw [stFrom_end s i (by omega)]; exact ⟨rfl, fun j hj hij => by omega⟩
theorem stF_ok {s : List S} (h : (stF s).1 = 0) : stF s = (0, 0) ∧ StOk s := by
  unfold stF at h ⊢
  split at h
  · cases h
  · rename_i hl
    rw [if_neg hl]
    obtain ⟨h1, h2⟩ := stFrom_ok s _ 0 (Nat.le_refl _) h
    refine ⟨h1, by omega, fun i hi => (code_zero (h2 i hi (Nat.zero_le _))).1, fun i hi => (code_zero (h2 i hi (Nat.zero_le _))).2.1, fun i hi => ?_⟩
    have := (code_zero (h2 (i + 1) hi (Nat.zero_le _))).2.2 (by omega)
    simpa using this
theorem StOk.code {s : List S} (h : StOk s) (i : Nat) (hi : i < s.length) : Ob.code s i = 0 := by
  unfold Ob.code
  rw [(h.ok i hi).f, if_neg (by simp), if_neg (by rw [h.eq i hi]; simp), if_neg]
  rintro ⟨h0, h1⟩
  have := h.lt (i - 1) (by omega)
  rw [show i - 1 + 1 = i by omega] at this
  omega
theorem stFrom_all (s : List S) (h : ∀ i, i < s.length → code s i = 0) : ∀ n i, s.length - i ≤ n → stFrom s i = (0, 0)
  | n, i, hn => by
    by_cases hi : i < s.length
    · obtain _ | n := n
      · omega
      · rw [stFrom_next s i hi (h i hi)]; exact stFrom_all s h n (i + 1) (by omega)
    · exact stFrom_end s i (by omega)
theorem StOk.f {s : List S} (h : StOk s) : stF s = (0, 0) := by
  have := h.len
  unfold stF; rw [if_neg (by omega)]; exact stFrom_all s h.code _ 0 (Nat.le_refl _)
theorem StOk.mono_ {s : List S} (h : StOk s) : ∀ d i, i + d < s.length → 0 < d → (it s i).dig < (it s (i + d)).dig
  | 0, _, _, hd => by omega
  | 1, i, hi, _ => h.lt i hi
  | d + 2, i, hi, _ => Int.lt_trans (h.mono_ (d + 1) i (by omega) (by omega)) (h.lt (i + (d + 1)) hi)
theorem StOk.mono {s : List S} (h : StOk s) {i j : Nat} (hij : i < j) (hj : j < s.length) : (it s i).dig < (it s j).dig := by
  have := h.mono_ (j - i) i (by omega) (by omega)
  rwa [show i + (j - i) = j by omega] at this
end Ob
