/-
  Text patches: when they are valid, where they conflict, and their effect. No program in sight.
-/
import Derived.Test.YtjfckjonfpkphaaDoorTrP
namespace Tp
open Tr
/-- A hunk. -/
structure H where
  pos : Int
  old : List Nm
  new : List Nm
deriving DecidableEq, Inhabited
def it (l : List H) (i : Nat) : H := l[i]?.getD default
theorem it_eq (l : List H) (i : Nat) (h : i < l.length) : l[i] = it l i := by unfold it; rw [List.getElem?_eq_getElem h]; rfl
/-- The error of a hunk behind one that ends at e. -/
def hkC (h : H) (e : Int) : Int :=
  if h.pos < 0 ∨ 120 < h.pos then 3 else if (lnF h.old).1 ≠ 0 then (lnF h.old).1 else if (lnF h.new).1 ≠ 0 then (lnF h.new).1
  else if h.old.length + h.new.length = 0 ∨ h.pos ≤ e then 5 else if 120 < h.pos + h.old.length then 3 else 0
/-- The end of a hunk. -/
def en (h : H) : Int := h.pos + h.old.length
/-- The end of the hunk ahead of the one number i. -/
def ea (l : List H) (i : Nat) : Int := if i = 0 then -1 else en (it l (i - 1))
theorem ea_succ (l : List H) (i : Nat) : ea l (i + 1) = en (it l i) := by unfold ea; rw [if_neg (by omega)]; simp
def vlFrom (l : List H) (i : Nat) : Int × Int := if i < l.length then if hkC (it l i) (ea l i) ≠ 0 then (hkC (it l i) (ea l i), (i : Int)) else vlFrom l (i + 1) else (0, 0)
termination_by l.length - i
theorem vlFrom_end (l : List H) (i : Nat) (h : l.length ≤ i) : vlFrom l i = (0, 0) := by rw [vlFrom, if_neg (by omega)]
theorem vlFrom_bad (l : List H) (i : Nat) (h : i < l.length) (hc : hkC (it l i) (ea l i) ≠ 0) : vlFrom l i = (hkC (it l i) (ea l i), (i : Int)) := by rw [vlFrom, if_pos h, if_pos hc]
theorem vlFrom_next (l : List H) (i : Nat) (h : i < l.length) (hc : hkC (it l i) (ea l i) = 0) : vlFrom l i = vlFrom l (i + 1) := by rw [vlFrom, if_pos h, if_neg (by omega)]
/-- The fault of a patch. -/
def vlF (l : List H) : Int × Int := if 130 < l.length then (2, -1) else vlFrom l 0
/-- A valid patch. -/
structure VOk (l : List H) : Prop where
  len : l.length ≤ 130
  all : ∀ i, i < l.length → hkC (it l i) (ea l i) = 0
theorem vlFrom_ok (l : List H) (i : Nat) (h : (vlFrom l i).1 = 0) : vlFrom l i = (0, 0) ∧ ∀ k, i ≤ k → k < l.length → hkC (it l k) (ea l k) = 0 := by
  by_cases hi : i < l.length
  · by_cases hc : hkC (it l i) (ea l i) = 0
    · rw [vlFrom_next l i hi hc] at h ⊢
      obtain ⟨h1, h2⟩ := vlFrom_ok l (i + 1) h
      refine ⟨h1, fun k hk hkl => ?_⟩
      by_cases e : k = i
      · subst e; exact hc
      · exact h2 k (by omega) hkl
    · rw [vlFrom_bad l i hi hc] at h; exact absurd h hc
  · rw [vlFrom_end l i (by omega)]; exact ⟨rfl, fun k hk hkl => by omega⟩
termination_by l.length - i
theorem vlF_ok {l : List H} (h : (vlF l).1 = 0) : vlF l = (0, 0) ∧ VOk l := by
  unfold vlF at h ⊢
  split at h
  · cases h
  · rename_i h1
    rw [if_neg h1]
    obtain ⟨h2, h3⟩ := vlFrom_ok l 0 h
    exact ⟨h2, by omega, fun i hi => h3 i (by omega) hi⟩
structure HOk (h : H) (e : Int) : Prop where
  lo : 0 ≤ h.pos
  hi : h.pos ≤ 120
  old : LnOk h.old
  new : LnOk h.new
  gt : e < h.pos
  top : h.pos + h.old.length ≤ 120
theorem hkC_ok {h : H} {e : Int} (hc : hkC h e = 0) : HOk h e := by
  unfold hkC at hc
  split at hc
  · cases hc
  · split at hc
    · contradiction
    · split at hc
      · contradiction
      · split at hc
        · cases hc
        · split at hc
          · cases hc
          · rename_i h1 h2 h3 h4 h5
            exact ⟨by omega, by omega, (lnF_ok (by omega)).2, (lnF_ok (by omega)).2, by omega, by omega⟩
theorem VOk.h {l : List H} (h : VOk l) (i : Nat) (hi : i < l.length) : HOk (it l i) (ea l i) := hkC_ok (h.all i hi)
/-- The place where the rest of the text begins behind i hunks. -/
def low (l : List H) (i : Nat) : Nat := if i = 0 then 0 else (en (it l (i - 1))).toNat
theorem low_zero (l : List H) : low l 0 = 0 := rfl
theorem low_succ (l : List H) (i : Nat) : low l (i + 1) = (en (it l i)).toNat := by unfold low; rw [if_neg (by omega)]; simp
theorem VOk.low {l : List H} (h : VOk l) (i : Nat) (hi : i < l.length) : low l i ≤ (it l i).pos.toNat := by
  have h1 := h.h i hi
  unfold Tp.low
  split
  · omega
  · rename_i h0
    have h2 := h1.gt
    unfold ea at h2
    rw [if_neg h0] at h2
    have := h1.lo
    omega
/-- The lines occur in a text at a place. -/
def occ (t part : List Nm) (at_ : Int) : Bool := decide (0 ≤ at_) && decide (at_ ≤ t.length) && decide ((part.length : Int) ≤ t.length - at_) && decide ((t.drop at_.toNat).take part.length = part)
/-- The first hunk that does not fit. -/
def cfFrom (l : List H) (t : List Nm) (i : Nat) : Int × Int := if i < l.length then if occ t (it l i).old (it l i).pos = true then cfFrom l t (i + 1) else (19, (i : Int)) else (0, 0)
termination_by l.length - i
theorem cfFrom_end (l : List H) (t : List Nm) (i : Nat) (h : l.length ≤ i) : cfFrom l t i = (0, 0) := by rw [cfFrom, if_neg (by omega)]
theorem cfFrom_bad (l : List H) (t : List Nm) (i : Nat) (h : i < l.length) (hc : occ t (it l i).old (it l i).pos = false) : cfFrom l t i = (19, (i : Int)) := by rw [cfFrom, if_pos h, if_neg (by rw [hc]; decide)]
theorem cfFrom_next (l : List H) (t : List Nm) (i : Nat) (h : i < l.length) (hc : occ t (it l i).old (it l i).pos = true) : cfFrom l t i = cfFrom l t (i + 1) := by rw [cfFrom, if_pos h, if_pos hc]
theorem cfFrom_ok (l : List H) (t : List Nm) (i : Nat) (h : (cfFrom l t i).1 = 0) : cfFrom l t i = (0, 0) ∧ ∀ k, i ≤ k → k < l.length → occ t (it l k).old (it l k).pos = true := by
  by_cases hi : i < l.length
  · cases hc : occ t (it l i).old (it l i).pos with
    | true =>
      rw [cfFrom_next l t i hi hc] at h ⊢
      obtain ⟨h1, h2⟩ := cfFrom_ok l t (i + 1) h
      refine ⟨h1, fun k hk hkl => ?_⟩
      by_cases e : k = i
      · subst e; exact hc
      · exact h2 k (by omega) hkl
    | false => rw [cfFrom_bad l t i hi hc] at h; cases h
  · rw [cfFrom_end l t i (by omega)]; exact ⟨rfl, fun k hk hkl => by omega⟩
termination_by l.length - i
/-- The text behind i hunks. -/
def rw_ (l : List H) (t : List Nm) : Nat → List Nm
  | 0 => []
  | i + 1 => rw_ l t i ++ (t.take (it l i).pos.toNat).drop (low l i) ++ (it l i).new
def raw (l : List H) (t : List Nm) : List Nm := rw_ l t l.length ++ t.drop (low l l.length)
/-- Each hunk fits. -/
def Fits (l : List H) (t : List Nm) : Prop := ∀ i, i < l.length → (it l i).pos + (it l i).old.length ≤ t.length
theorem occ_le {t part : List Nm} {at_ : Int} (h : occ t part at_ = true) : at_ + part.length ≤ t.length := by
  unfold occ at h
  simp only [Bool.and_eq_true, decide_eq_true_eq] at h
  omega
theorem fits_of {l : List H} {t : List Nm} (h : (cfFrom l t 0).1 = 0) : Fits l t := fun i hi => occ_le ((cfFrom_ok l t 0 h).2 i (Nat.zero_le _) hi)
theorem rw_len {l : List H} {t : List Nm} (hv : VOk l) (ht : t.length ≤ 120) : ∀ i, i ≤ l.length → (rw_ l t i).length ≤ i * 240
  | 0, _ => by simp [rw_]
  | i + 1, hi => by
    have h1 := rw_len hv ht i (by omega)
    have h2 := (hv.h i (by omega)).new.len
    rw [rw_, List.length_append, List.length_append, List.length_drop, List.length_take]
    omega
theorem low_le {l : List H} {t : List Nm} (hf : Fits l t) (i : Nat) (hi : i ≤ l.length) : low l i ≤ t.length := by
  unfold low
  split
  · omega
  · have := hf (i - 1) (by omega)
    unfold en; omega
theorem raw_len {l : List H} {t : List Nm} (hv : VOk l) (ht : t.length ≤ 120) : (raw l t).length ≤ 40000 := by
  have h1 := rw_len (t := t) hv ht l.length (Nat.le_refl _)
  have h2 := hv.len
  unfold raw
  rw [List.length_append, List.length_drop]
  omega
/-- What applying a patch to a valid text answers. -/
def apF (l : List H) (t : List Nm) : List Nm × (Int × Int) :=
  if (vlF l).1 ≠ 0 then ([], vlF l) else if (cfFrom l t 0).1 ≠ 0 then ([], cfFrom l t 0) else if 120 < (raw l t).length then ([], (10, -1)) else (raw l t, (0, 0))
theorem apF_v {l : List H} {t : List Nm} (h : (vlF l).1 ≠ 0) : apF l t = ([], vlF l) := if_pos h
theorem apF_c {l : List H} {t : List Nm} (h : (vlF l).1 = 0) (h2 : (cfFrom l t 0).1 ≠ 0) : apF l t = ([], cfFrom l t 0) := by unfold apF; rw [if_neg (not_not_intro h), if_pos h2]
theorem apF_l {l : List H} {t : List Nm} (h : (vlF l).1 = 0) (h2 : (cfFrom l t 0).1 = 0) (h3 : 120 < (raw l t).length) : apF l t = ([], (10, -1)) := by unfold apF; rw [if_neg (not_not_intro h), if_neg (not_not_intro h2), if_pos h3]
theorem apF_k {l : List H} {t : List Nm} (h : (vlF l).1 = 0) (h2 : (cfFrom l t 0).1 = 0) (h3 : ¬ 120 < (raw l t).length) : apF l t = (raw l t, (0, 0)) := by unfold apF; rw [if_neg (not_not_intro h), if_neg (not_not_intro h2), if_neg h3]
theorem apF_zero {l : List H} {t : List Nm} (h : (apF l t).2.1 = 0) : (apF l t).2 = (0, 0) ∧ (apF l t).1.length ≤ 120 := by
  by_cases h1 : (vlF l).1 = 0
  · by_cases h2 : (cfFrom l t 0).1 = 0
    · by_cases h3 : 120 < (raw l t).length
      · rw [apF_l h1 h2 h3] at h; cases h
      · rw [apF_k h1 h2 h3]; exact ⟨rfl, Nat.not_lt.1 h3⟩
    · rw [apF_c h1 h2] at h; exact absurd h h2
  · rw [apF_v h1] at h; exact absurd h h1
theorem apF_bad {l : List H} {t : List Nm} (h : (vlF l).1 ≠ 0) : (apF l t).2.1 ≠ 0 := by rw [apF_v h]; exact h
theorem apF_bad_nil {l : List H} {t : List Nm} (h : (apF l t).2.1 ≠ 0) : (apF l t).1 = [] := by
  by_cases h1 : (vlF l).1 = 0
  · by_cases h2 : (cfFrom l t 0).1 = 0
    · by_cases h3 : 120 < (raw l t).length
      · rw [apF_l h1 h2 h3]
      · rw [apF_k h1 h2 h3] at h; exact absurd rfl h
    · rw [apF_c h1 h2]
  · rw [apF_v h1]
end Tp
