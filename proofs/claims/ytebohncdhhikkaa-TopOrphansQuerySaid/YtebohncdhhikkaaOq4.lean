/-
  Markers: walk of 'Orphans', given what 'Validate' tells.
-/
import Derived.Test.YtebohncdhhikkaaOq3
import Derived.Test.YtebohncdhhikkaaOqP
import Derived.Test.YtebohncdhhikkaaPure2
namespace Oq
def lostN (ms : List Mk) (i : Nat) : Bool := lost ms (i : Int)
/-- The orphans among the first m commits. -/
def orph (h : List Hs.Cm) (L : Nat → Bool) (m : Nat) : List Int := ((List.range m).filter fun i => oAt h L (i + 1) i && !L i).map fun (i : Nat) => (i : Int)
theorem orph_succ (h : List Hs.Cm) (L : Nat → Bool) (m : Nat) : orph h L (m + 1) = orph h L m ++ if (oAt h L (m + 1) m && !L m) = true then [(m : Int)] else [] := by
  unfold orph
  rw [List.range_succ, List.filter_append, List.map_append]
  by_cases e : (oAt h L (m + 1) m && !L m) = true
  · rw [if_pos e]; simp [List.filter_cons, e]
  · rw [if_neg e]; simp [List.filter_cons, e]
theorem orph_len (h : List Hs.Cm) (L : Nat → Bool) (m : Nat) : (orph h L m).length ≤ m := by
  unfold orph; rw [List.length_map]; exact Nat.le_trans (List.length_filter_le _ _) (by simp)
/-- The marks of one commit, up to the parent number j. -/
def oIn (h : List Hs.Cm) (L : Nat → Bool) (i j : Nat) : Nat → Bool := fun k => if k = i then ((Hs.pars h i).take j).any (fun p => oAt h L i p || L p) else oAt h L i k
theorem oAt_ge (h : List Hs.Cm) (L : Nat → Bool) : ∀ (m k : Nat), m ≤ k → oAt h L m k = false
  | 0, _, _ => rfl
  | m + 1, k, hk => by simp only [oAt]; rw [if_neg (by omega)]; exact oAt_ge h L m k (by omega)
theorem oIn_zero (h : List Hs.Cm) (L : Nat → Bool) (i : Nat) : oIn h L i 0 = oAt h L i := by
  funext k; unfold oIn
  by_cases e : k = i
  · subst e; rw [if_pos rfl, oAt_ge h L k k (Nat.le_refl _)]; simp
  · rw [if_neg e]
theorem oIn_all (h : List Hs.Cm) (L : Nat → Bool) (i j : Nat) (hj : (Hs.pars h i).length ≤ j) : oIn h L i j = oAt h L (i + 1) := by
  funext k; unfold oIn; rw [List.take_of_length_le hj]; rfl
theorem oIn_succ (h : List Hs.Cm) (L : Nat → Bool) (i j k p : Nat) (hj : j < (Hs.pars h i).length) (hp : (Hs.pars h i)[j] = p) (hpi : p < i) : oIn h L i (j + 1) k = if k = i then (oIn h L i j i || oIn h L i j p || L p) else oIn h L i j k := by
  unfold oIn
  by_cases e : k = i
  · subst e
    rw [if_pos rfl, if_pos rfl, if_pos rfl, if_neg (by omega), List.take_succ_eq_append_getElem hj, List.any_append, hp]
    simp [Bool.or_assoc]
  · rw [if_neg e, if_neg e, if_neg e]
end Oq
namespace Go.Proofs.Ytebohncdhhikkaa
open Go.RowKit Go.V
set_option linter.unusedVariables false

/-- What 'obsolete.Validate' tells. -/
def OvPost (w : World) (l : List Oq.Mk) (e : Ending) (w' : World) : Prop :=
  ∃ c ix : Int, e = .returned (.agg #[.int .i64 c, .int .i64 ix]) ∧ (c = 0 → ix = 0 ∧ l.length ≤ 40 ∧ ∀ i (h : i < l.length), 0 ≤ l[i].old ∧ l[i].old ≤ 59) ∧ Below w.heap.size w w'
/-- What 'Orphans' tells. -/
def OrPost (w : World) (ms : List Oq.Mk) (l : List Hs.Cm) (e : Ending) (w' : World) : Prop :=
  ∃ (cd ix : Int) (A : Option Addr) (os : List Int) (c : Nat), e = .returned (.tuple #[.slice A os.length c, .agg #[.int .i64 cd, .int .i64 ix]]) ∧ (cd ≠ 0 → os = []) ∧
    (cd = 0 → Hs.Ok l ∧ (∀ i (h : i < ms.length), 0 ≤ ms[i].old ∧ ms[i].old ≤ 59) ∧ ms.length ≤ 40 ∧ os = Oq.orph l (Oq.lostN ms) l.length) ∧ IV w' A os ∧ Below w.heap.size w w'
/-- The state of the loops. -/
structure OrSt (w wr : World) (gB gL n : Nat) (f L : Nat → Bool) : Prop where
  fl : Blk wr gB 4 (boolsA (tab n f))
  lo : Blk wr gL 52 (boolsA (tab 60 L))
  rs : Blk wr w.heap.size 28 #[.int .i64 0, .int .i64 0]
  bel : Below w.heap.size w wr
  hB : w.heap.size ≤ gB
theorem OrSt.below {w wr w' : World} {gB gL n : Nat} {f L : Nat → Bool} (h : OrSt w wr gB gL n f L) (hb : Below wr.heap.size wr w') : OrSt w w' gB gL n f L :=
  ⟨h.fl.below hb h.fl.lt, h.lo.below hb h.lo.lt, h.rs.below hb h.rs.lt, h.bel.trans (hb.mono h.bel.size), h.hB⟩
theorem OrSt.set_ {w wr : World} {gB gL n : Nat} {f f' L : Nat → Bool} (h : OrSt w wr gB gL n f L) (i : Nat) (x : Bool) (hf : ∀ j, j < n → f' j = if j = i then x else f j) : OrSt w (wr.setCell ⟨gB, i, none⟩ (.bool x)) gB gL n f' L :=
  ⟨blk_tabB_set h.fl i x hf, h.lo.far (fun e => by have := Blk.ne_ h.lo h.fl (by decide); exact this e) _, h.rs.far (fun e => by have := Blk.ne_ h.rs h.fl (by decide); exact this e) _, h.bel.setCell h.hB _, h.hB⟩
theorem OrSt.congr {w wr : World} {gB gL n : Nat} {f f' L : Nat → Bool} (h : OrSt w wr gB gL n f L) (hf : f' = f) : OrSt w wr gB gL n f' L := hf ▸ h
theorem OrSt.app {w wr w' : World} {gB gL n : Nat} {f L : Nat → Bool} {A : Option Addr} {m c : Nat} {xs : List Value} (h : OrSt w wr gB gL n f L) (o : Obj) (hown : wr.ownsRow w.heap.size 3 1 (.slice A m c) m xs) (hg : (wr.alloc o).grownBy w' (Value.slice A m c).ownBlock) : OrSt w w' gB gL n f L := by
  have ho := hown.alloc o
  exact ⟨(h.fl.alloc o).grown hg (own_blk_ne ho (h.fl.alloc o) (by decide)), (h.lo.alloc o).grown hg (own_blk_ne ho (h.lo.alloc o) (by decide)), (h.rs.alloc o).grown hg (own_blk_ne ho (h.rs.alloc o) (by decide)),
    below_append (h.bel.alloc h.bel.size o) ho hg (Nat.le_refl _) (Nat.le_trans h.bel.size (by simp)), h.hB⟩
theorem own_setCell4 {w wr : World} {gB n i : Nat} {f : Nat → Bool} {A : Option Addr} {m c : Nat} {xs : List Value} (hown : wr.ownsRow w.heap.size 3 1 (.slice A m c) m xs) (hb : Blk wr gB 4 (boolsA (tab n f))) (u : Value) : (wr.setCell ⟨gB, i, none⟩ u).ownsRow w.heap.size 3 1 (.slice A m c) m xs :=
  own_setCell hown (own_blk_ne hown hb (by decide)) u
theorem own_below {w w' : World} {base : Nat} {e : TypeId} {size n : Nat} {v : Value} {xs : List Value} (h : w.ownsRow base e size v n xs) (hb : Below w.heap.size w w') : w'.ownsRow base e size v n xs :=
  h.kept (only_of_below hb none) (by cases hv : v.ownBlock <;> simp)
end Go.Proofs.Ytebohncdhhikkaa
