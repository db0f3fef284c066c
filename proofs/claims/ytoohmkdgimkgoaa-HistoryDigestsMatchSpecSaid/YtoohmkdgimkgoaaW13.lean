/-
  Histories: the contracts of Ancestors and Order at every history.
-/
import Derived.Test.YtoohmkdgimkgoaaW12
namespace Go.Proofs.Ytoohmkdgimkgoaa
open Go.RowKit Go.V
set_option linter.unusedVariables false

theorem CV.drew {w : World} {A : Option Addr} {l : List Hs.Cm} (h : CV w A l) : CV w.drew A l := h.drewN 1
theorem below_drew {B : Nat} {a w : World} (h : Below B a w) : Below B a w.drew := below_drewN h 1
theorem not_ok {l : List Hs.Cm} (h : ¬ Hs.Ok l) : (Hs.validate l).1 ≠ 0 := fun hc => h (Hs.validate_ok l hc).2
/-- Bools and a fault. -/
def BRes (w : World) (r : List Bool × (Int × Int)) (e : Ending) (w' : World) : Prop :=
  ∃ A c, e = .returned (.tuple #[.slice A r.1.length c, .agg #[.int .i64 r.2.1, .int .i64 r.2.2]]) ∧ r.1.length ≤ c ∧ BV w' A r.1 ∧ Below w.heap.size w w'
/-- Numbers and a fault. -/
def IRes (w : World) (r : List Int × (Int × Int)) (e : Ending) (w' : World) : Prop :=
  ∃ A c, e = .returned (.tuple #[.slice A r.1.length c, .agg #[.int .i64 r.2.1, .int .i64 r.2.2]]) ∧ r.1.length ≤ c ∧ IV w' A r.1 ∧ Below w.heap.size w w'
theorem BRes.of_none {w w' : World} {r : Int × Int} {e : Ending} (h : NonePost w r e w') : BRes w ([], r) e w' := ⟨none, 0, h.1, Nat.le_refl _, SV.nil, h.2⟩
theorem IRes.of_none {w w' : World} {r : Int × Int} {e : Ending} (h : NonePost w r e w') : IRes w ([], r) e w' := ⟨none, 0, h.1, Nat.le_refl _, SV.nil, h.2⟩
theorem BRes.of_bools {w w' : World} {xs : List Bool} {e : Ending} (h : BoolsPost w xs e w') : BRes w (xs, (0, 0)) e w' := h
theorem IRes.of_ints {w w' : World} {xs : List Int} {e : Ending} (h : IntsPost w xs e w') : IRes w (xs, (0, 0)) e w' := h
def ancRes (l : List Hs.Cm) (n : Int) : List Bool × (Int × Int) :=
  if (Hs.validate l).1 ≠ 0 then ([], Hs.validate l) else if 0 ≤ n ∧ n < l.length then (ancL l n.toNat, (0, 0)) else ([], (6, -1))
def listRes (l : List Hs.Cm) (xs : List Int) : List Int × (Int × Int) := if (Hs.validate l).1 ≠ 0 then ([], Hs.validate l) else (xs, (0, 0))
theorem ancRes_cases (l : List Hs.Cm) (n : Int) : ((ancRes l n).1 = [] ∧ (ancRes l n).2.1 ≠ 0) ∨ (Hs.Ok l ∧ ∃ m : Nat, n = m ∧ m < l.length ∧ ancRes l n = (ancL l m, (0, 0))) := by
  unfold ancRes
  by_cases h : (Hs.validate l).1 = 0
  · rw [if_neg (by simpa using h)]
    by_cases hn : 0 ≤ n ∧ n < l.length
    · rw [if_pos hn]
      exact .inr ⟨(Hs.validate_ok l h).2, n.toNat, by omega, by omega, rfl⟩
    · rw [if_neg hn]; exact .inl ⟨rfl, by decide⟩
  · rw [if_pos h]; exact .inl ⟨rfl, h⟩
theorem listRes_cases (l : List Hs.Cm) (xs : List Int) : ((listRes l xs).1 = [] ∧ (listRes l xs).2.1 ≠ 0 ∧ (listRes l xs).2 = Hs.validate l) ∨ (Hs.Ok l ∧ listRes l xs = (xs, (0, 0))) := by
  unfold listRes
  by_cases h : (Hs.validate l).1 = 0
  · rw [if_neg (by simpa using h)]; exact .inr ⟨(Hs.validate_ok l h).2, rfl⟩
  · rw [if_pos h]; exact .inl ⟨rfl, h, rfl⟩
theorem ancestors_any (w : World) (A : Option Addr) (k : Nat) (l : List Hs.Cm) (n : Int) (hv : CV w A l) (hl : l.length ≤ 9223372036854775807) :
    Calls Try.prog 18 #[.slice A l.length k, .int .i64 n] w (BRes w (ancRes l n)) := by
  unfold ancRes
  by_cases h : (Hs.validate l).1 = 0
  · rw [if_neg (by simpa using h)]
    have hok := (Hs.validate_ok l h).2
    by_cases hn : 0 ≤ n ∧ n < l.length
    · rw [if_pos hn]
      obtain ⟨m, rfl⟩ := Int.eq_ofNat_of_zero_le hn.1
      exact (ancestors_ok w A k l m hv hok (by omega)).mono fun e w' h => .of_bools h
    · rw [if_neg hn]
      exact (ancestors_none w A k l n hv hok hn).mono fun e w' h => .of_none h
  · rw [if_pos h]
    exact (ancestors_bad w A k l n hv hl h).mono fun e w' h => .of_none h
theorem order_any (w : World) (A : Option Addr) (k : Nat) (l : List Hs.Cm) (hv : CV w A l) (hl : l.length ≤ 9223372036854775807) :
    Calls Try.prog 25 #[.slice A l.length k] w (IRes w (listRes l (Hs.ints (Hs.order l)))) := by
  unfold listRes
  by_cases h : (Hs.validate l).1 = 0
  · rw [if_neg (by simpa using h)]
    exact (order_ok w A k l hv (Hs.validate_ok l h).2).mono fun e w' h => .of_ints h
  · rw [if_pos h]
    exact (order_bad w A k l hv hl h).mono fun e w' h => .of_none h
theorem anc_at {w : World} {A : Option Addr} {l : List Hs.Cm} {n : Nat} (h : BV w A (ancL l n)) (i : Nat) (hi : i < l.length) : ∃ b off, A = some ⟨b, off, none⟩ ∧ b < w.heap.size ∧ w.cell? ⟨b, off + i, none⟩ = some (.bool (Hs.reach l n i)) := by
  obtain ⟨b, off, e, hb, hc⟩ := BV.at_ h i (by simp [ancL]; exact hi)
  refine ⟨b, off, e, hb, ?_⟩
  rw [hc]
  congr 2
  exact tab_get _ _ _ _
@[simp] theorem ancL_length (l : List Hs.Cm) (n : Nat) : (ancL l n).length = l.length := by simp [ancL]
theorem nat_at {w wr : World} {A : Option Addr} {o : List Nat} (h : IV w A (Hs.ints o)) (hb : Below w.heap.size w wr) (i : Nat) (hi : i < o.length) : ∃ b off, A = some ⟨b, off, none⟩ ∧ b < w.heap.size ∧ wr.cell? ⟨b, off + i, none⟩ = some (.int .i64 (o[i] : Int)) := by
  obtain ⟨b, off, e, hlt, hc⟩ := h.atIn hb i (by simpa using hi)
  rw [ints_at o i hi] at hc
  exact ⟨b, off, e, hlt, hc⟩
end Go.Proofs.Ytoohmkdgimkgoaa
