/-
  Markers: the plain facts of the law.
-/
import Derived.Test.YtebohncdhhikkaaOq4
import Derived.Test.YtebohncdhhikkaaOq8
namespace Oq
open Hs
theorem oAt_stop (h : List Cm) (L : Nat → Bool) : ∀ m k, k < m → oAt h L m k = oAt h L (k + 1) k
  | 0, _, hk => absurd hk (by omega)
  | m + 1, k, hk => by
    by_cases e : k = m
    · subst e; rfl
    · simp only [oAt]
      rw [if_neg e, oAt_stop h L m k (by omega)]
      simp only [oAt]
def Bd (x : N) : Prop := (-1000 ≤ x.left ∧ x.left ≤ 1000) ∧ (-1000 ≤ x.right ∧ x.right ≤ 1000)
theorem bd_fold : ∀ (gs : List Int) (q : List N), (∀ x ∈ q, Bd x) → q.length + 2 * gs.length ≤ 500 → ∀ x ∈ gs.foldl (fun q g => joined 14 q [⟨3, g, 0, 0⟩]) q, Bd x
  | [], q, h, _ => h
  | g :: gs, q, h, hl => by
    rw [List.length_cons] at hl
    refine bd_fold gs (joined 14 q [⟨3, g, 0, 0⟩]) ?_ (by rw [joined_len]; simp only [List.length_cons, List.length_nil]; omega)
    intro x hx
    unfold joined at hx
    rw [List.mem_append, List.mem_append] at hx
    rcases hx with (hx | hx) | hx
    · exact h x hx
    · rw [List.map_cons, List.map_nil, List.mem_singleton] at hx
      subst hx
      have ha : ar 3 = 0 := by decide
      unfold shift Bd
      simp [ha]
    · rw [List.mem_singleton] at hx
      subst hx
      unfold Bd
      simp only [List.length_cons, List.length_nil]
      omega
theorem bd_cq (gs : List Int) (h : gs.length ≤ 8) : ∀ x ∈ cq gs, (-1000 ≤ x.left ∧ x.left ≤ 1000) ∧ (-1000 ≤ x.right ∧ x.right ≤ 1000) := by
  intro x hx
  refine bd_fold gs [⟨2, 0, 0, 0⟩] (fun y hy => ?_) (by simp only [List.length_cons, List.length_nil]; omega) x hx
  rw [List.mem_singleton] at hy; subst hy; unfold Bd; decide
theorem cq_len (gs : List Int) (h : ∀ g ∈ gs, 0 ≤ g ∧ g ≤ 59) : (cq gs).length = 2 * gs.length + 1 := (cq_rev [] gs.length gs rfl h).2.2.1
/-- What the law's last step needs. -/
theorem law_end {h : List Cm} (hok : Ok h) (L : Nat → Bool) (gs : List Int) (hg : gs = ints (selN L h.length)) (hl : gs.length ≤ 8) :
    (cq gs).length = 2 * gs.length + 1 ∧ KOk (lawQ gs) ∧ Oq.run (lawQ gs) 0 [] = some [((lawQ gs).length : Int) - 1] ∧ orph h L h.length = ints (selN (val h (lawQ gs)) h.length) := by
  have h60 := hok.len
  have hb : ∀ g ∈ gs, 0 ≤ g ∧ g ≤ 59 := by
    intro g hgm
    rw [hg] at hgm
    unfold ints at hgm
    rw [List.mem_map] at hgm
    obtain ⟨x, hx, rfl⟩ := hgm
    have := ((selN_mem L _ x).1 hx).1
    omega
  have hc : ∀ i, i < h.length → gs.contains (i : Int) = L i := by
    intro i hi
    have e : gs.contains (i : Int) = true ↔ L i = true := by
      rw [List.contains_iff_mem, hg]
      unfold ints
      rw [List.mem_map]
      constructor
      · rintro ⟨x, hx, e⟩
        have e' : x = i := by omega
        subst e'
        exact ((selN_mem L _ x).1 hx).2
      · intro hL
        exact ⟨i, (selN_mem L _ i).2 ⟨hi, hL⟩, rfl⟩
    cases hA : gs.contains (i : Int) <;> cases hB : L i <;> simp_all
  obtain ⟨h1, h2, h3, h4⟩ := cq_rev h gs.length gs rfl hb
  have w := h1.wrap (k := 9) (by decide) (by decide)
  obtain ⟨_, hk, hv⟩ := Oq.law hok L hb hc hl
  refine ⟨h3, hk, (w.joined h1 (k := 16) (by decide) (by decide)).run, ?_⟩
  unfold orph ints selN
  congr 1
  apply List.filter_congr
  intro x hx
  have hx' : x < h.length := by simpa using hx
  rw [hv x hx', oAt_stop h L h.length x hx']
end Oq
