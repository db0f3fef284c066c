/-
  The merge queue in plain Lean: tests start one after the other.
-/
import Derived.Test.YtinebbleilnejaaMqP
namespace Mq
/-- The first i tests have started. -/
def stTo (es : List E) : Nat → List E
  | 0 => es
  | i + 1 => match es[i]? with
    | none => stTo es i
    | some e => (stTo es i).set i (start e ((es.take i).map (·.c)))
theorem stTo_len (es : List E) : ∀ i, (stTo es i).length = es.length
  | 0 => rfl
  | i + 1 => by
    rw [stTo]
    split
    · exact stTo_len es i
    · rw [List.length_set, stTo_len es i]
theorem stTo_at (es : List E) : ∀ (i j : Nat) (h : j < (stTo es i).length) (h' : j < es.length), (stTo es i)[j] = if j < i then start es[j] ((es.take j).map (·.c)) else es[j]
  | 0, j, h, h' => by rw [if_neg (by omega)]; rfl
  | i + 1, j, h, h' => by
    have ih := stTo_at es i j (by rw [stTo_len]; exact h') h'
    by_cases hi : i < es.length
    · have e : stTo es (i + 1) = (stTo es i).set i (start es[i] ((es.take i).map (·.c))) := by rw [stTo, List.getElem?_eq_getElem hi]
      simp only [e]
      rw [List.getElem_set]
      by_cases hij : i = j
      · subst hij; rw [if_pos rfl, if_pos (by omega)]
      · rw [if_neg hij, ih]
        by_cases hlt : j < i
        · rw [if_pos hlt, if_pos (by omega)]
        · rw [if_neg hlt, if_neg (by omega)]
    · have e : stTo es (i + 1) = stTo es i := by rw [stTo, List.getElem?_eq_none (by omega)]
      simp only [e]
      rw [ih, if_pos (by omega), if_pos (by omega)]
theorem stTo_succ (es : List E) (i : Nat) (h : i < es.length) : stTo es (i + 1) = (stTo es i).set i (start es[i] ((es.take i).map (·.c))) := by rw [stTo, List.getElem?_eq_getElem h]
theorem stTo_cur (es : List E) (i : Nat) (h : i < es.length) (h' : i < (stTo es i).length) : (stTo es i)[i] = es[i] := by rw [stTo_at es i i h' h, if_neg (by omega)]
theorem stTo_fill (es : List E) (w : Nat) : stTo es (min w es.length) = fill w es [] := by
  apply List.ext_getElem
  · rw [stTo_len, fill_len]
  · intro j h1 h2
    have h' : j < es.length := by rw [stTo_len] at h1; exact h1
    rw [stTo_at es _ j h1 h', fill_at w es [] j h2 h', List.nil_append]
    by_cases hw : j < w
    · rw [if_pos hw, if_pos (by omega)]
    · rw [if_neg hw, if_neg (by omega)]
/-- The landed change is deleted from the first i lists. -/
def drTo (c : Int) (es : List E) (i : Nat) : List E := (es.take i).map (drop1 c) ++ es.drop i
theorem drTo_len (c : Int) (es : List E) (i : Nat) : (drTo c es i).length = es.length := by unfold drTo; simp; omega
theorem drTo_zero (c : Int) (es : List E) : drTo c es 0 = es := rfl
theorem drTo_all (c : Int) (es : List E) : drTo c es es.length = es.map (drop1 c) := by unfold drTo; simp
theorem drTo_succ (c : Int) (es : List E) (i : Nat) (h : i < es.length) : drTo c es (i + 1) = (drTo c es i).set i (drop1 c es[i]) := by
  unfold drTo
  rw [List.take_succ_eq_append_getElem h, List.map_append, List.set_append_right _ _ (by simp; omega), List.append_assoc]
  congr 1
  rw [List.drop_eq_getElem_cons h]
  have e : i - (List.map (drop1 c) (List.take i es)).length = 0 := by simp; omega
  rw [e]; rfl
theorem drTo_at (c : Int) (es : List E) (i : Nat) (h : i < es.length) (h' : i < (drTo c es i).length) : (drTo c es i)[i] = es[i] := by
  have e : (drTo c es i)[i]? = some es[i] := by
    unfold drTo
    rw [List.getElem?_append_right (by simp; omega)]
    have e : i - (List.map (drop1 c) (List.take i es)).length = 0 := by simp; omega
    rw [e, List.getElem?_drop, List.getElem?_eq_getElem (by omega)]
    rfl
  rw [List.getElem?_eq_getElem h'] at e
  injection e
end Mq
