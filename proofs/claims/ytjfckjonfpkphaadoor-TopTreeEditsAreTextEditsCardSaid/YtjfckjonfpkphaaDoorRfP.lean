/-
  Paths: their components. No program in sight.
-/
import Derived.Lib.Index
import Derived.Lib.SplitLaws
import Derived.ProofKit
namespace Rf
/-- The components of a name; now: what has come of the one at hand. -/
def cmp (now : List UInt8) : List UInt8 → List (List UInt8)
  | [] => [now]
  | c :: l => if c = 47 then now :: cmp [] l else cmp (now ++ [c]) l
def comps (l : List UInt8) : List (List UInt8) := cmp [] l
theorem cmp_no (now : List UInt8) : ∀ l : List UInt8, 47 ∉ l → cmp now l = [now ++ l]
  | [], _ => by simp [cmp]
  | c :: l, h => by
    rw [cmp, if_neg (fun e => h (by simp [e])), cmp_no _ l (fun h2 => h (List.mem_cons_of_mem _ h2))]
    simp
theorem cmp_sep (now : List UInt8) : ∀ a l : List UInt8, 47 ∉ a → cmp now (a ++ 47 :: l) = (now ++ a) :: comps l
  | [], l, _ => by simp [cmp, comps]
  | c :: a, l, h => by
    rw [List.cons_append, cmp, if_neg (fun e => h (by simp [e])), cmp_sep _ a l (fun h2 => h (List.mem_cons_of_mem _ h2))]
    simp
theorem comps_no {l : List UInt8} (h : 47 ∉ l) : comps l = [l] := by unfold comps; rw [cmp_no _ _ h]; rfl
theorem comps_sep {a : List UInt8} (l : List UInt8) (h : 47 ∉ a) : comps (a ++ 47 :: l) = a :: comps l := by unfold comps; rw [cmp_sep _ _ _ h]; rfl
theorem cmp_len (now : List UInt8) : ∀ l : List UInt8, (cmp now l).length ≤ l.length + 1
  | [] => by simp [cmp]
  | c :: l => by
    rw [cmp]; split
    · have := cmp_len [] l; simp; omega
    · have := cmp_len (now ++ [c]) l; simp; omega
theorem comps_len (l : List UInt8) : (comps l).length ≤ l.length + 1 := cmp_len [] l
theorem cmp_mem : ∀ (now l : List UInt8) (x : List UInt8), x ∈ cmp now l → x.length ≤ now.length + l.length
  | now, [], x, h => by simp [cmp] at h; subst h; simp
  | now, c :: l, x, h => by
    rw [cmp] at h; split at h
    · rcases List.mem_cons.1 h with rfl | h
      · omega
      · have := cmp_mem [] l x h; simp at this ⊢; omega
    · have := cmp_mem (now ++ [c]) l x h; simp at this ⊢; omega
theorem comps_mem (l x : List UInt8) (h : x ∈ comps l) : x.length ≤ l.length := by have := cmp_mem [] l x h; simpa using this
theorem comps_ne (l : List UInt8) : comps l ≠ [] := by
  unfold comps
  generalize ([] : List UInt8) = now
  induction l generalizing now with
  | nil => simp [cmp]
  | cons c l ih => rw [cmp]; split <;> simp [ih]
/-- A list is without a slash, or it is split at the first one. -/
theorem split47 (l : List UInt8) : 47 ∉ l ∨ ∃ a r, l = a ++ 47 :: r ∧ 47 ∉ a := by
  induction l with
  | nil => exact .inl (by simp)
  | cons c l ih =>
    by_cases hc : c = 47
    · exact .inr ⟨[], l, by simp [hc], by simp⟩
    · rcases ih with h | ⟨a, r, h, ha⟩
      · exact .inl (by simp [h, Ne.symm hc])
      · exact .inr ⟨c :: a, r, by simp [h], by simp [ha, Ne.symm hc]⟩
/-! ### where a slash is -/
theorem index_no : ∀ {l : List UInt8}, 47 ∉ l → Go.Lib.index l [47] = -1
  | [], _ => by simp [Go.Lib.index]
  | c :: l, h => by
    have ih := index_no (l := l) (fun h2 => h (List.mem_cons_of_mem _ h2))
    have hc : ¬ (47 : UInt8) = c := fun e => h (by simp [e])
    simp [Go.Lib.index, ih, List.isPrefixOf, hc]
theorem index_sep : ∀ {a : List UInt8} (r : List UInt8), 47 ∉ a → Go.Lib.index (a ++ 47 :: r) [47] = (a.length : Int)
  | [], r, _ => by simp [Go.Lib.index, List.isPrefixOf]
  | c :: a, r, h => by
    have ih := index_sep (a := a) r (fun h2 => h (List.mem_cons_of_mem _ h2))
    have hc : ¬ (47 : UInt8) = c := fun e => h (by simp [e])
    have hn : ¬ ((a.length : Int) = -1) := by omega
    rw [List.cons_append, Go.Lib.index]
    simp [ih, List.isPrefixOf, hc, hn]
end Rf
