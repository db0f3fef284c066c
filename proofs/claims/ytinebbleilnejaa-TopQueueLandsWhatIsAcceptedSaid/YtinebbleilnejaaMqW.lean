/-
  The merge queue: the memory of a queue.
-/
import Derived.Test.YtinebbleilnejaaMq5
import Derived.Test.YtinebbleilnejaaView9
namespace Go.Proofs.Ytinebbleilnejaa
open Go.RowKit Go.V
set_option linter.unusedVariables false
/-- The six cells of an entry, whose list lies at the slice v. -/
def cellsOf (x : Mq.E × Value) : List Value := [.int .i64 x.1.c, .int .i64 0, .bool x.1.t, .bool x.1.p, .bool x.1.f, x.2]
def flat (L : List (Mq.E × Value)) : List Value := L.flatMap cellsOf
theorem flat_cons (x : Mq.E × Value) (L : List (Mq.E × Value)) : flat (x :: L) = cellsOf x ++ flat L := rfl
theorem flat_app (L M : List (Mq.E × Value)) : flat (L ++ M) = flat L ++ flat M := List.flatMap_append
theorem flat_len : ∀ L : List (Mq.E × Value), (flat L).length = L.length * 6
  | [] => rfl
  | x :: L => by rw [flat_cons, List.length_append, flat_len L, List.length_cons]; show 6 + _ = _; omega
theorem flat_at : ∀ (L : List (Mq.E × Value)) (j f : Nat) (h : j < L.length) (hf : f < 6), (flat L)[j * 6 + f]? = (cellsOf L[j])[f]?
  | [], j, f, h, _ => absurd h (by simp)
  | x :: L, 0, f, h, hf => by rw [flat_cons, List.getElem?_append_left (by show _ < 6; omega)]; simp
  | x :: L, j + 1, f, h, hf => by
    rw [flat_cons, List.getElem?_append_right (by show 6 ≤ _; omega)]
    have := flat_at L j f (by simpa using h) hf
    rw [show (j + 1) * 6 + f - (cellsOf x).length = j * 6 + f by show (j + 1) * 6 + f - 6 = _; omega]
    simpa using this
theorem flat_set : ∀ (L : List (Mq.E × Value)) (j f : Nat) (h : j < L.length) (hf : f < 6) (u : Value) (y : Mq.E × Value), cellsOf y = (cellsOf L[j]).set f u → (flat L).set (j * 6 + f) u = flat (L.set j y)
  | [], j, f, h, _, _, _, _ => absurd h (by simp)
  | x :: L, 0, f, h, hf, u, y, hy => by
    rw [flat_cons, List.set_append_left _ _ (by show _ < 6; omega)]
    have hy' : cellsOf y = (cellsOf x).set f u := hy
    show (cellsOf x).set (0 * 6 + f) u ++ flat L = cellsOf y ++ flat L
    rw [hy']; simp
  | x :: L, j + 1, f, h, hf, u, y, hy => by
    rw [flat_cons, List.set_append_right _ _ (by show 6 ≤ _; omega)]
    rw [show (j + 1) * 6 + f - (cellsOf x).length = j * 6 + f by show (j + 1) * 6 + f - 6 = _; omega]
    rw [flat_set L j f (by simpa using h) hf u y (by simpa using hy)]
    rfl
theorem own_some {w : World} {B : Nat} {e : TypeId} {size n : Nat} {v : Value} {xs : List Value} (h : w.ownsRow B e size v n xs) (hn : 0 < n) :
    ∃ g c cur, v = .slice (some ⟨g, 0, none⟩) n c ∧ B ≤ g ∧ Blk w g e cur ∧ n ≤ c ∧ c ≤ maxLen ∧ cur.size = c * size ∧ cur.toList.take (n * size) = xs := by
  rcases h.2 with ⟨_, h0⟩ | ⟨g, cap, cur, e1, e2, e3, e4, e5, e6, e7⟩
  · omega
  · exact ⟨g, cap, cur, e1, e2, e3, e4, e5, e6, e7⟩
theorem own_cell {w : World} {B : Nat} {e : TypeId} {size n g c : Nat} {xs : List Value} (h : w.ownsRow B e size (.slice (some ⟨g, 0, none⟩) n c) n xs) (i : Nat) (u : Value) (hu : xs[i]? = some u) :
    w.cell? ⟨g, i, none⟩ = some u ∧ w.frozen? ⟨g, i, none⟩ = false ∧ g < w.heap.size ∧ B ≤ g := by
  rcases h.2 with ⟨h0, _⟩ | ⟨g', cap, cur, e1, e2, e3, e4, e5, e6, e7⟩
  · cases h0
  · injection e1 with e1 _ _
    injection e1 with e1
    injection e1 with e1 _ _
    subst e1
    have hb : Blk w g e cur := e3
    refine ⟨?_, hb.frozen i, hb.lt, e2⟩
    rw [hb.cell, ← Array.getElem?_toList]
    rw [← e7, List.getElem?_take] at hu
    split at hu
    · exact hu
    · cases hu
theorem own_put {w : World} {B : Nat} {e : TypeId} {size n g c : Nat} {xs : List Value} (h : w.ownsRow B e size (.slice (some ⟨g, 0, none⟩) n c) n xs) (i : Nat) (u : Value) (hi : i < xs.length) :
    (w.setCell ⟨g, i, none⟩ u).ownsRow B e size (.slice (some ⟨g, 0, none⟩) n c) n (xs.set i u) := by
  rcases h.2 with ⟨h0, _⟩ | ⟨g', cap, cur, e1, e2, e3, e4, e5, e6, e7⟩
  · cases h0
  · injection e1 with e1 e1n e1c
    injection e1 with e1
    injection e1 with e1 _ _
    subst e1
    subst e1c
    have hb : Blk w g e cur := e3
    refine ⟨by rw [List.length_set]; exact h.1, .inr ⟨g, c, cur.setIfInBounds i u, rfl, e2, hb.set_ i u, e4, e5, by simpa using e6, ?_⟩⟩
    rw [Array.toList_setIfInBounds, List.take_set, e7]
/-- Rows in blocks of their own. -/
def Sp (vs : List Value) : Prop := vs.Pairwise fun a b => ∀ g, a.ownBlock = some g → b.ownBlock ≠ some g
/-- A row of numbers. -/
def IR (B : Nat) (w : World) (v : Value) (l : List Int) : Prop := w.ownsRow B 3 1 v l.length (intsV l)
/-- A queue. -/
structure QS (B : Nat) (wr : World) (gQ : Nat) (win : Int) (ve : Value) (L : List (Mq.E × Value)) (vl vr : Value) (la re : List Int) : Prop where
  q : Blk wr gQ 56 #[ve, vl, vr, .int .i64 win]
  hq : B ≤ gQ
  e : wr.ownsRow B 38 6 ve L.length (flat L)
  l : IR B wr vl la
  r : IR B wr vr re
  a : ∀ j (h : j < L.length), IR B wr L[j].2 L[j].1.a
  sp : Sp (vl :: vr :: L.map (·.2))
section
variable {B : Nat} {wr w' : World} {gQ : Nat} {win : Int} {ve vl vr : Value} {L : List (Mq.E × Value)} {la re : List Int}
/-- The queue where only other blocks change. -/
theorem QS.keep (h : QS B wr gQ win ve L vl vr la re) {row : Option Nat} (hg : wr.grownBy w' row) (h1 : ∀ g, row = some g → g < wr.heap.size → g ≠ gQ ∧ ve.ownBlock ≠ some g ∧ vl.ownBlock ≠ some g ∧ vr.ownBlock ≠ some g ∧ ∀ j (h : j < L.length), L[j].2.ownBlock ≠ some g) : QS B w' gQ win ve L vl vr la re := by
  have hk : ∀ {e : TypeId} {size n : Nat} {v : Value} {xs : List Value}, wr.ownsRow B e size v n xs → (∀ g, row = some g → g < wr.heap.size → v.ownBlock ≠ some g) → w'.ownsRow B e size v n xs := by
    intro e size n v xs ho hne
    refine ho.kept hg ?_
    rcases hv : v.ownBlock with _ | g
    · exact .inl rfl
    · refine .inr fun e2 => ?_
      have hlt := (ho.lt g hv).2
      exact hne g e2.symm hlt hv
  refine ⟨h.q.grown hg (fun e2 => (h1 gQ e2.symm h.q.lt).1 rfl), h.hq, hk h.e fun g e2 e3 => (h1 g e2 e3).2.1, hk h.l fun g e2 e3 => (h1 g e2 e3).2.2.1, hk h.r fun g e2 e3 => (h1 g e2 e3).2.2.2.1, fun j hj => hk (h.a j hj) fun g e2 e3 => (h1 g e2 e3).2.2.2.2 j hj, h.sp⟩
theorem QS.below (h : QS B wr gQ win ve L vl vr la re) (hb : Below wr.heap.size wr w') : QS B w' gQ win ve L vl vr la re := h.keep (only_of_below hb none) fun g e => by cases e
theorem QS.alloc (h : QS B wr gQ win ve L vl vr la re) (o : Obj) : QS B (wr.alloc o) gQ win ve L vl vr la re := h.below (below_alloc1 wr o)
theorem QS.drew (h : QS B wr gQ win ve L vl vr la re) : QS B wr.drew gQ win ve L vl vr la re := h.below (below_drew' (Below.refl _ _))
/-- The cells of entry j. -/
theorem QS.row (h : QS B wr gQ win ve L vl vr la re) (j : Nat) (hj : j < L.length) : ∃ g c, ve = .slice (some ⟨g, 0, none⟩) L.length c ∧ g < wr.heap.size ∧ B ≤ g ∧ g ≠ gQ ∧
    wr.cell? ⟨g, j * 6, none⟩ = some (.int .i64 L[j].1.c) ∧ wr.cell? ⟨g, j * 6 + 1, none⟩ = some (.int .i64 0) ∧ wr.cell? ⟨g, j * 6 + 2, none⟩ = some (.bool L[j].1.t) ∧ wr.cell? ⟨g, j * 6 + 3, none⟩ = some (.bool L[j].1.p) ∧
    wr.cell? ⟨g, j * 6 + 4, none⟩ = some (.bool L[j].1.f) ∧ wr.cell? ⟨g, j * 6 + 5, none⟩ = some L[j].2 ∧ ∀ f, f < 6 → wr.frozen? ⟨g, j * 6 + f, none⟩ = false := by
  obtain ⟨g, c, cur, rfl, h2, h3, _⟩ := own_some h.e (by omega)
  have hat := fun (f : Nat) (hf : f < 6) (u : Value) (hu : (cellsOf L[j])[f]? = some u) => own_cell h.e (j * 6 + f) u ((flat_at L j f hj hf).trans hu)
  have h0 := hat 0 (by omega) _ rfl
  refine ⟨g, c, rfl, h0.2.2.1, h2, fun e => ?_, by simpa using h0.1, (hat 1 (by omega) _ rfl).1, (hat 2 (by omega) _ rfl).1, (hat 3 (by omega) _ rfl).1, (hat 4 (by omega) _ rfl).1, (hat 5 (by omega) _ rfl).1, fun f hf => h3.frozen _⟩
  exact Blk.ne_ h3 h.q (by decide) e
theorem QS.len (h : QS B wr gQ win ve L vl vr la re) : ∃ A c, ve = .slice A L.length c := by
  obtain ⟨A, c, e, _⟩ := own_form h.e
  exact ⟨A, c, e⟩
end
end Go.Proofs.Ytinebbleilnejaa
