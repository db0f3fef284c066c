/-
  The merge queue: the frame of its operations.
-/
import Derived.Test.YtinebbleilnejaaMq10
namespace Go.Proofs.Ytinebbleilnejaa
open Go.RowKit Go.V
set_option linter.unusedVariables false
/-- Only blocks of the queue change: such from B on that hold a queue, entries or numbers. -/
structure Fr (B : Nat) (w w' : World) : Prop where
  os : w'.os = w.os
  tape : w'.tape = w.tape
  output : w'.output = w.output
  size : w.heap.size ≤ w'.heap.size
  chg : ∀ k, k < w.heap.size → w'.heap[k]? = w.heap[k]? ∨ (B ≤ k ∧ ∃ t cs, Blk w k t cs ∧ (t = 56 ∨ t = 38 ∨ t = 3))
section
variable {B : Nat} {w w' w'' : World}
theorem Fr.refl (B : Nat) (w : World) : Fr B w w := ⟨rfl, rfl, rfl, Nat.le_refl _, fun _ _ => .inl rfl⟩
theorem Fr.trans (h : Fr B w w') (k : Fr B w' w'') : Fr B w w'' :=
  ⟨k.os.trans h.os, k.tape.trans h.tape, k.output.trans h.output, Nat.le_trans h.size k.size, fun i hi => by
    rcases h.chg i hi with h1 | h1
    · rcases k.chg i (Nat.lt_of_lt_of_le hi h.size) with h2 | ⟨h2, t, cs, h3, h4⟩
      · exact .inl (h2.trans h1)
      · exact .inr ⟨h2, t, cs, h1.symm.trans h3, h4⟩
    · exact .inr h1⟩
theorem Fr.below (hb : Below w.heap.size w w') : Fr B w w' := ⟨hb.os, hb.tape, hb.output, hb.size, fun i hi => .inl (hb.block i hi)⟩
theorem Fr.set_ {p : Addr} {t : TypeId} {cs : Array Value} (hb : Blk w p.block t cs) (hB : B ≤ p.block) (ht : t = 56 ∨ t = 38 ∨ t = 3) (u : Value) : Fr B w (w.setCell p u) :=
  ⟨rfl, rfl, rfl, by simp, fun i hi => by
    by_cases e : i = p.block
    · subst e; exact .inr ⟨hB, t, cs, hb, ht⟩
    · exact .inl (Below.heap_setCell w p u i e)⟩
theorem Fr.own {e : TypeId} {size n : Nat} {v : Value} {xs : List Value} (h : w.ownsRow B e size v n xs) (he : e = 38 ∨ e = 3) (hg : w.grownBy w' v.ownBlock) : Fr B w w' :=
  ⟨hg.os, hg.tape, hg.output, hg.size, fun i hi => by
    by_cases e1 : v.ownBlock = some i
    · rcases h.2 with ⟨e0, _⟩ | ⟨g, c, cur, e0, hB, hb, _⟩
      · rw [e0] at e1; cases e1
      · rw [e0] at e1
        injection e1 with e1
        have e1' : g = i := e1
        subst e1'
        exact .inr ⟨hB, e, cur, hb, .inr he⟩
    · exact .inl (hg.block i hi (fun e2 => e1 e2.symm))⟩
theorem Fr.two {gQ : Nat} {win : Int} {ve vl vr : Value} {L : List (Mq.E × Value)} {la re : List Int} (h : QS B w gQ win ve L vl vr la re) (ht : Two w w' gQ ve) : Fr B w w' :=
  ⟨ht.os, ht.tape, ht.output, ht.size, fun i hi => by
    by_cases e0 : i = gQ
    · subst e0; exact .inr ⟨h.hq, 56, _, h.q, .inl rfl⟩
    · by_cases e1 : ve.ownBlock = some i
      · rcases h.e.2 with ⟨e2, _⟩ | ⟨g, c, cur, e2, hB, hb, _⟩
        · rw [e2] at e1; cases e1
        · rw [e2] at e1
          injection e1 with e1
          have e1' : g = i := e1
          subst e1'
          exact .inr ⟨hB, 38, cur, hb, .inr (.inl rfl)⟩
      · exact .inl (ht.block i hi e0 e1)⟩
theorem Fr.blk (h : Fr B w w') {g : Nat} {t : TypeId} {cs : Array Value} (hb : Blk w g t cs) (h1 : t ≠ 56) (h2 : t ≠ 38) (h3 : t ≠ 3) : Blk w' g t cs := by
  rcases h.chg g hb.lt with h4 | ⟨_, t', cs', h5, h6⟩
  · exact h4.trans hb
  · unfold Blk at hb h5
    rw [hb] at h5
    injection h5 with h5
    injection h5 with h5 h7
    subst h7
    rcases h6 with h6 | h6 | h6
    · exact absurd h6 h1
    · exact absurd h6 h2
    · exact absurd h6 h3
theorem Fr.low (h : Fr B w w') (hB : B ≤ w.heap.size) : Below B w w' := ⟨h.os, h.tape, h.output, h.size, fun i hi => by
  rcases h.chg i (by omega) with h4 | ⟨h5, _⟩
  · exact h4
  · omega⟩
end
/-- The length of the slice of the entries. -/
def lenAt (w : World) (gQ : Nat) : Nat := match w.cell? ⟨gQ, 0, none⟩ with
  | some (.slice _ n _) => n
  | _ => 0
theorem QS.lenAt_ {B : Nat} {wr : World} {gQ : Nat} {win : Int} {ve vl vr : Value} {L : List (Mq.E × Value)} {la re : List Int} (h : QS B wr gQ win ve L vl vr la re) : lenAt wr gQ = L.length := by
  obtain ⟨A, c, rfl⟩ := h.len
  have := (h.q.cell 0).trans rfl
  unfold lenAt
  rw [this]; rfl
/-- Sizes of a queue in memory. -/
def SzL (L : List (Mq.E × Value)) (la re : List Int) : Prop := L.length ≤ 11 ∧ la.length + L.length ≤ 100 ∧ re.length + L.length ≤ 100 ∧ ∀ j (h : j < L.length), L[j].1.a.length ≤ 100
/-- A row that lies apart from the queue grows. -/
theorem QS.app {B B' : Nat} {wr w' : World} {gQ : Nat} {win : Int} {ve vl vr v : Value} {L : List (Mq.E × Value)} {la re : List Int} {n : Nat} {xs : List Value} (h : QS B wr gQ win ve L vl vr la re) (ho : wr.ownsRow B' 3 1 v n xs)
    (hap : ∀ b ∈ vl :: vr :: L.map (·.2), ∀ g, b.ownBlock = some g → v.ownBlock ≠ some g) (hg : wr.grownBy w' v.ownBlock) : QS B w' gQ win ve L vl vr la re := by
  refine h.keep hg fun g hg' hlt => ⟨fun e => ?_, fun e => ?_, fun e => hap vl (by simp) g e hg', fun e => hap vr (by simp) g e hg', fun j hj e => hap L[j].2 (by simp; exact .inr (.inr ⟨_, L.getElem_mem hj⟩)) g e hg'⟩
  · subst e; exact own_blk_ne ho h.q (by decide) hg'.symm
  · rcases own_ne_own h.e ho (by decide) with h0 | h0
    · rw [h0] at e; cases e
    · exact h0 (e.trans hg'.symm)
theorem QS.lt {B : Nat} {wr : World} {gQ : Nat} {win : Int} {ve vl vr : Value} {L : List (Mq.E × Value)} {la re : List Int} (h : QS B wr gQ win ve L vl vr la re) : ∀ b ∈ vl :: vr :: L.map (·.2), ∀ g, b.ownBlock = some g → g < wr.heap.size := by
  intro b hb g hg
  rcases List.mem_cons.1 hb with rfl | hb
  · exact (h.l.lt g hg).2
  · rcases List.mem_cons.1 hb with rfl | hb
    · exact (h.r.lt g hg).2
    · obtain ⟨x, hx, rfl⟩ := List.mem_map.1 hb
      obtain ⟨j, hj, rfl⟩ := List.getElem_of_mem hx
      exact ((h.a j hj).lt g hg).2
theorem ap_next {vs : List Value} {v v' : Value} {H S : Nat} (hap : ∀ b ∈ vs, ∀ g, b.ownBlock = some g → v.ownBlock ≠ some g) (hlt : ∀ b ∈ vs, ∀ g, b.ownBlock = some g → g < S) (hS : S ≤ H) (hb : v'.ownBlock = v.ownBlock ∨ v'.ownBlock = some H) :
    ∀ b ∈ vs, ∀ g, b.ownBlock = some g → v'.ownBlock ≠ some g := fun b hb' g hg e => by
  rcases hb with hb | hb
  · exact hap b hb' g hg (hb ▸ e)
  · rw [hb] at e; injection e with e; have := hlt b hb' g hg; omega
/-- The row that a copy has made lies apart from all that lay. -/
theorem ap_new {B : Nat} {w w' : World} {e : TypeId} {n : Nat} {v : Value} {xs : List Value} {vs : List Value} (ho : w'.ownsRow w.heap.size e 1 v n xs) (hlt : ∀ b ∈ vs, ∀ g, b.ownBlock = some g → g < w.heap.size) :
    ∀ b ∈ vs, ∀ g, b.ownBlock = some g → v.ownBlock ≠ some g := fun b hb g hg e => by
  have h1 := (ho.lt g e).1
  have h2 := hlt b hb g hg
  omega
end Go.Proofs.Ytinebbleilnejaa
