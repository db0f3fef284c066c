/-
  The plain law of the reference's EncodeDelta: its tables hold the longest copies; its second loop is Encode's.
-/
import Derived.Test.YtiphcpibhffdjaaPure
namespace Dc

/-- What the inner loop of the reference holds behind the indices from i on (i rounds are left). -/
def scanR (base rest : List UInt8) : Nat → Nat × Nat
  | 0 => (0, 0)
  | n + 1 => if 0 < cpl (base.drop (base.length - (n + 1))) rest ∧ (scanR base rest n).2 ≤ cpl (base.drop (base.length - (n + 1))) rest then (base.length - (n + 1), cpl (base.drop (base.length - (n + 1))) rest) else scanR base rest n

/-- The first index of the greatest value, from i on. -/
structure IsBest (base rest : List UInt8) (lo hi : Nat) (r : Nat × Nat) : Prop where
  le : ∀ j, lo ≤ j → j < hi → cpl (base.drop j) rest ≤ r.2
  at_ : r = (0, 0) ∨ (lo ≤ r.1 ∧ r.1 < hi ∧ cpl (base.drop r.1) rest = r.2 ∧ 0 < r.2 ∧ ∀ j, lo ≤ j → j < r.1 → cpl (base.drop j) rest < r.2)
theorem IsBest.unique {base rest : List UInt8} {lo hi : Nat} {r s : Nat × Nat} (h : IsBest base rest lo hi r) (k : IsBest base rest lo hi s) : r = s := by
  rcases h.at_ with rfl | ⟨h1, h2, h3, h4, h5⟩
  · rcases k.at_ with rfl | ⟨k1, k2, k3, k4, k5⟩
    · rfl
    · have := h.le s.1 k1 k2
      simp at this; omega
  · rcases k.at_ with rfl | ⟨k1, k2, k3, k4, k5⟩
    · have := k.le r.1 h1 h2
      simp at this; omega
    · have a := h.le s.1 k1 k2
      have b := k.le r.1 h1 h2
      have e2 : r.2 = s.2 := by omega
      have e1 : r.1 = s.1 := by
        rcases Nat.lt_trichotomy r.1 s.1 with hlt | he | hlt
        · have := k5 r.1 h1 hlt; omega
        · exact he
        · have := h5 s.1 k1 hlt; omega
      exact Prod.ext e1 e2
theorem longestTo_best (base rest : List UInt8) : ∀ i, IsBest base rest 0 i (longestTo base rest i)
  | 0 => ⟨fun j _ h => by omega, .inl rfl⟩
  | i + 1 => by
    have ih := longestTo_best base rest i
    simp only [longestTo]
    split
    · rename_i hlt
      refine ⟨fun j _ hj => ?_, .inr ⟨by omega, by simp, rfl, by simp; omega, fun j _ hj => ?_⟩⟩
      · by_cases h : j = i
        · subst h; exact Nat.le_refl _
        · have := ih.le j (by omega) (by omega); simp; omega
      · have := ih.le j (by omega) hj; simp; omega
    · rename_i hlt
      refine ⟨fun j _ hj => ?_, ?_⟩
      · by_cases h : j = i
        · subst h; omega
        · exact ih.le j (by omega) (by omega)
      · rcases ih.at_ with h | ⟨h1, h2, h3, h4, h5⟩
        · exact .inl h
        · exact .inr ⟨h1, by omega, h3, h4, h5⟩
theorem scanR_best (base rest : List UInt8) : ∀ n, n ≤ base.length → IsBest base rest (base.length - n) base.length (scanR base rest n)
  | 0, _ => ⟨fun j h h' => by omega, .inl rfl⟩
  | n + 1, hn => by
    have ih := scanR_best base rest n (by omega)
    simp only [scanR]
    split
    · rename_i hlt
      refine ⟨fun j h1 hj => ?_, .inr ⟨Nat.le_refl _, by simp; omega, rfl, hlt.1, fun j h1 hj => by simp at hj; omega⟩⟩
      by_cases h : j = base.length - (n + 1)
      · subst h; exact Nat.le_refl _
      · have := ih.le j (by omega) hj; simp; omega
    · rename_i hlt
      refine ⟨fun j h1 hj => ?_, ?_⟩
      · by_cases h : j = base.length - (n + 1)
        · subst h; omega
        · exact ih.le j (by omega) hj
      · rcases ih.at_ with h | ⟨h1, h2, h3, h4, h5⟩
        · exact .inl h
        · refine .inr ⟨by omega, h2, h3, h4, fun j hj1 hj2 => ?_⟩
          by_cases h : j = base.length - (n + 1)
          · subst h; omega
          · exact h5 j (by omega) hj2
theorem scanR_all (base rest : List UInt8) : scanR base rest base.length = longest base rest := by
  have h := scanR_best base rest base.length (Nat.le_refl _)
  rw [Nat.sub_self] at h
  exact h.unique (longestTo_best base rest base.length)
/-- A row of the table: the common prefixes of what begins at i and of the letters from k on, out of the next row. -/
theorem cpl_row (base t : List UInt8) (i k : Nat) (hi : i < base.length) (hk : k < t.length) :
    cpl (base.drop i) (t.drop k) = if base[i] = t[k] then cpl (base.drop (i + 1)) (t.drop (k + 1)) + 1 else 0 := by
  rw [List.drop_eq_getElem_cons hi, List.drop_eq_getElem_cons hk]; rfl
theorem longest_nil (base : List UInt8) : longest base [] = (0, 0) := by
  have h := longestTo_best base [] base.length
  rcases h.at_ with h | ⟨_, _, h3, h4, _⟩
  · exact h
  · have := cpl_le_right (base.drop (longestTo base [] base.length).1) []
    simp at this; omega
end Dc
