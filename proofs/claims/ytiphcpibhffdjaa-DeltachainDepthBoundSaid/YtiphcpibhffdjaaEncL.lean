/-
  The row of operations that a call builds, beside blocks of its own that stay as they are (a list of them): what Encode's text has for its one block, for whatever blocks.
-/
import Derived.Test.YtiphcpibhffdjaaWalk6
namespace Go.Proofs.Ytiphcpibhffdjaa
open Go.RowKit Go.V
set_option linter.unusedVariables false

/-- What lies in the rounds of 'Encode': the row of operations. -/
structure EncL (L : List (Nat × TypeId × Array Value)) (w wr : World) (A : Option Addr) (c : Nat) (out : List Dc.Op) (xs : List Value) : Prop where
  own : wr.ownsRow w.heap.size 37 3 (.slice A out.length c) out.length xs
  ops : RowsR (OpO wr w.heap.size wr.heap.size) out xs
  blk : ∀ b ∈ L, Blk wr b.1 b.2.1 b.2.2
  ty : ∀ b ∈ L, b.2.1 ≠ 5 ∧ b.2.1 ≠ 37
  bel : Below w.heap.size w wr
/-- The last operation is an insertion, whose data the call owns apart from the others'. -/
structure OpenL (w wr : World) (out : List Dc.Op) (xs : List Value) (os : List Dc.Op) (ys : List Value) (d : List UInt8) (A : Option Addr) (c base' : Nat) : Prop where
  eo : out = os ++ [⟨0, 0, d⟩]
  ex : xs = ys ++ [.int .i64 0, .int .i64 0, .slice A d.length c]
  ops : RowsR (OpO wr w.heap.size base') os ys
  own : wr.ownsRow base' 5 1 (.slice A d.length c) d.length (bytesV d)
  lo : w.heap.size ≤ base'
  hi : base' ≤ wr.heap.size
def LastL (w wr : World) (out : List Dc.Op) (xs : List Value) (t : List UInt8) : Prop :=
  (∀ o, out.getLast? = some o → 0 < o.len) ∨ ∃ os ys d A c base', OpenL w wr out xs os ys d A c base' ∧ d.length + t.length ≤ 1000

theorem EncL.drewN {L : List (Nat × TypeId × Array Value)} {w wr : World} {A : Option Addr} {c : Nat} {out : List Dc.Op} {xs : List Value} (h : EncL L w wr A c out xs) (n : Nat) : EncL L w (wr.drewN n) A c out xs :=
  ⟨h.own, h.ops, h.blk, h.ty, below_drewN h.bel n⟩
theorem LastL.drewN {w wr : World} {out : List Dc.Op} {xs : List Value} {t : List UInt8} (h : LastL w wr out xs t) (n : Nat) : LastL w (wr.drewN n) out xs t := by
  rcases h with h | ⟨os, ys, d, A, c, b, h, h'⟩
  · exact .inl h
  · exact .inr ⟨os, ys, d, A, c, b, ⟨h.eo, h.ex, h.ops, h.own, h.lo, h.hi⟩, h'⟩

/-- An operation without data is appended to the row. -/
theorem EncL.app {L : List (Nat × TypeId × Array Value)} {w wr w' : World} {A A' : Option Addr} {c c' n : Nat} {out : List Dc.Op} {xs : List Value} {f l : Int} (h : EncL L w wr A c out xs) (ob : Obj)
    (hg : (wr.alloc ob).grownBy w' (Value.slice A out.length c).ownBlock) (hn : n = out.length + 1) (hown : w'.ownsRow w.heap.size 37 3 (.slice A' n c') n (xs ++ [.int .i64 f, .int .i64 l, .slice none 0 0]))
    (hf : I64 f) (hl : I64 l) : EncL L w w' A' c' (out ++ [⟨f, l, []⟩]) (xs ++ [.int .i64 f, .int .i64 l, .slice none 0 0]) := by
  obtain ⟨k1, k2, k3⟩ := app_keep h.own ob hg h.bel.size
  subst hn
  refine ⟨by simpa using hown, ?_, fun b hb => k1 _ _ _ (fun e => (h.ty b hb).2 e.symm) (h.blk b hb), h.ty, k2 _ _ (Nat.le_refl _) h.bel⟩
  refine RowsR.append ?_ (RowsR.one ⟨none, 0, rfl, Nat.le_refl _, by simp, World.ownsRow_nil _ _ _ _, fun g hg => by simp [Value.ownBlock] at hg, hf, hl⟩)
  have h1 : RowsR (OpO (wr.alloc ob) w.heap.size wr.heap.size) out xs := h.ops.mono fun o cs hh => OpO.keepHi (World.grownBy_alloc wr ob none) (fun g hg => by cases hg) (Nat.le_refl _) o cs hh
  exact h1.mono fun o cs hh => OpO.keepType (h.own.alloc ob) (by decide) hg (by omega) o cs hh

/-- The state ahead of 'last.Data = append(last.Data, target[0])'. -/
structure ReadyL (L : List (Nat × TypeId × Array Value)) (w W : World) (g cap : Nat) (os : List Dc.Op) (ys : List Value) (d : List UInt8) (Ad : Option Addr) (cd base' : Nat) : Prop where
  own : W.ownsRow w.heap.size 37 3 (.slice (some ⟨g, 0, none⟩) (os.length + 1) cap) (os.length + 1) (ys ++ [.int .i64 0, .int .i64 0, .slice Ad d.length cd])
  ops : RowsR (OpO W w.heap.size base') os ys
  data : W.ownsRow base' 5 1 (.slice Ad d.length cd) d.length (bytesV d)
  lo : w.heap.size ≤ base'
  hi : base' ≤ W.heap.size
  blk : ∀ b ∈ L, Blk W b.1 b.2.1 b.2.2
  ty : ∀ b ∈ L, b.2.1 ≠ 5 ∧ b.2.1 ≠ 37
  bel : Below w.heap.size w W
theorem ReadyL.ysl {L : List (Nat × TypeId × Array Value)} {w W : World} {g cap : Nat} {os : List Dc.Op} {ys : List Value} {d : List UInt8} {Ad : Option Addr} {cd base' : Nat} (h : ReadyL L w W g cap os ys d Ad cd base') : ys.length = os.length * 3 :=
  h.ops.length OpO.len
theorem ReadyL.cell {L : List (Nat × TypeId × Array Value)} {w W : World} {g cap : Nat} {os : List Dc.Op} {ys : List Value} {d : List UInt8} {Ad : Option Addr} {cd base' : Nat} (h : ReadyL L w W g cap os ys d Ad cd base') : W.cell? ⟨g, os.length * 3 + 2, none⟩ = some (.slice Ad d.length cd) := by
  have := h.own.cellAt (os.length * 3 + 2) (by omega)
  rw [this, ← h.ysl, List.getElem?_append_right (by omega)]
  simp
theorem ReadyL.fro {L : List (Nat × TypeId × Array Value)} {w W : World} {g cap : Nat} {os : List Dc.Op} {ys : List Value} {d : List UInt8} {Ad : Option Addr} {cd base' : Nat} (h : ReadyL L w W g cap os ys d Ad cd base') : W.frozen? ⟨g, os.length * 3 + 2, none⟩ = false := h.own.frozenAt _
theorem ReadyL.drewN {L : List (Nat × TypeId × Array Value)} {w W : World} {g cap : Nat} {os : List Dc.Op} {ys : List Value} {d : List UInt8} {Ad : Option Addr} {cd base' : Nat} (h : ReadyL L w W g cap os ys d Ad cd base') (n : Nat) : ReadyL L w (W.drewN n) g cap os ys d Ad cd base' :=
  ⟨h.own, h.ops, h.data, h.lo, h.hi, h.blk, h.ty, below_drewN h.bel n⟩
theorem ReadyL.alloc {L : List (Nat × TypeId × Array Value)} {w W : World} {g cap : Nat} {os : List Dc.Op} {ys : List Value} {d : List UInt8} {Ad : Option Addr} {cd base' : Nat} (h : ReadyL L w W g cap os ys d Ad cd base') (o : Obj) : ReadyL L w (W.alloc o) g cap os ys d Ad cd base' :=
  ⟨h.own.alloc o, h.ops.mono fun _ _ hh => OpO.keepHi (World.grownBy_alloc W o none) (fun g hg => by cases hg) (Nat.le_refl _) _ _ hh, h.data.alloc o, h.lo, by have := h.hi; simp; omega, fun b hb => (h.blk b hb).alloc o, h.ty, h.bel.alloc h.bel.size o⟩
/-- Behind a new, empty operation. -/
theorem ReadyL.fresh {L : List (Nat × TypeId × Array Value)} {w W : World} {g cap : Nat} {out : List Dc.Op} {xs : List Value} (h : EncL L w W (some ⟨g, 0, none⟩) cap (out ++ [⟨0, 0, []⟩]) (xs ++ [.int .i64 0, .int .i64 0, .slice none 0 0])) :
    ReadyL L w W g cap out xs [] none 0 W.heap.size := by
  refine ⟨by simpa using h.own, ?_, World.ownsRow_nil _ _ _ _, h.bel.size, Nat.le_refl _, h.blk, h.ty, h.bel⟩
  obtain ⟨us, ts, e, h1, h2⟩ := h.ops.split
  have hl := h1.length OpO.len
  obtain ⟨cs, rest, rfl, ⟨A, c, rfl, _⟩, hr⟩ := h2
  simp only [RowsR] at hr
  subst hr
  obtain ⟨e1, _⟩ := List.append_inj' e (by simp)
  rw [e1]; exact h1
/-- Where the last operation is an insertion already. -/
theorem ReadyL.again {L : List (Nat × TypeId × Array Value)} {w wr : World} {A : Option Addr} {c : Nat} {out : List Dc.Op} {xs : List Value} {os : List Dc.Op} {ys : List Value} {d : List UInt8} {Ad : Option Addr} {cd base' : Nat}
    (st : EncL L w wr A c out xs) (op : OpenL w wr out xs os ys d Ad cd base') : ∃ g, A = some ⟨g, 0, none⟩ ∧ ReadyL L w wr g c os ys d Ad cd base' := by
  have e := op.eo
  subst e
  obtain ⟨g, cap, hv, _, _⟩ := st.own.form (by simp)
  injection hv with hv1 hv2 hv3
  subst hv1 hv3
  have := st.own
  rw [op.ex] at this
  exact ⟨g, rfl, by simpa using this, op.ops, op.own, op.lo, op.hi, st.blk, st.ty, st.bel⟩
/-- The cell that the new slice is stored into, behind the append. -/
theorem ReadyL.storeCell {L : List (Nat × TypeId × Array Value)} {w W w' : World} {g cap : Nat} {os : List Dc.Op} {ys : List Value} {d : List UInt8} {Ad : Option Addr} {cd base' : Nat} (h : ReadyL L w W g cap os ys d Ad cd base') (o : Obj)
    (hg : ((W.alloc o).drew).grownBy w' (Value.slice Ad d.length cd).ownBlock) : w'.cell? ⟨g, os.length * 3 + 2, none⟩ = some (.slice Ad d.length cd) := by
  have h2 := (h.alloc o).drewN 1
  have hrow := h2.own.kept hg (own_ne_own h2.own h2.data (by decide))
  rw [hrow.cellAt _ (by omega), ← h.ysl, List.getElem?_append_right (by omega)]
  simp
theorem ReadyL.storeFro {L : List (Nat × TypeId × Array Value)} {w W w' : World} {g cap : Nat} {os : List Dc.Op} {ys : List Value} {d : List UInt8} {Ad : Option Addr} {cd base' : Nat} (h : ReadyL L w W g cap os ys d Ad cd base') (o : Obj)
    (hg : ((W.alloc o).drew).grownBy w' (Value.slice Ad d.length cd).ownBlock) : w'.frozen? ⟨g, os.length * 3 + 2, none⟩ = false := by
  have h2 := (h.alloc o).drewN 1
  have hrow := h2.own.kept hg (own_ne_own h2.own h2.data (by decide))
  exact hrow.frozenAt _
/-- Behind the append onto the data and the store of the new slice. -/
theorem ReadyL.done {L : List (Nat × TypeId × Array Value)} {w W w' : World} {g cap : Nat} {os : List Dc.Op} {ys : List Value} {d : List UInt8} {Ad : Option Addr} {cd base' : Nat} {x : UInt8} {gd cap' : Nat} (h : ReadyL L w W g cap os ys d Ad cd base')
    (hown : w'.ownsRow base' 5 1 (.slice (some ⟨gd, 0, none⟩) (d.length + 1) cap') (d.length + 1) (bytesV d ++ [.int .u8 x.toNat])) (hg : W.grownBy w' (Value.slice Ad d.length cd).ownBlock) (hdl : d.length + 1 ≤ 1000) :
    EncL L w (w'.setCell ⟨g, os.length * 3 + 2, none⟩ (.slice (some ⟨gd, 0, none⟩) (d.length + 1) cap')) (some ⟨g, 0, none⟩) cap (os ++ [⟨0, 0, d ++ [x]⟩]) (ys ++ [.int .i64 0, .int .i64 0, .slice (some ⟨gd, 0, none⟩) (d ++ [x]).length cap']) ∧
    OpenL w (w'.setCell ⟨g, os.length * 3 + 2, none⟩ (.slice (some ⟨gd, 0, none⟩) (d.length + 1) cap')) (os ++ [⟨0, 0, d ++ [x]⟩]) (ys ++ [.int .i64 0, .int .i64 0, .slice (some ⟨gd, 0, none⟩) (d ++ [x]).length cap']) os ys (d ++ [x]) (some ⟨gd, 0, none⟩) cap' base' := by
  have hrow : w'.ownsRow w.heap.size 37 3 (.slice (some ⟨g, 0, none⟩) (os.length + 1) cap) (os.length + 1) (ys ++ [.int .i64 0, .int .i64 0, .slice Ad d.length cd]) :=
    h.own.kept hg (own_ne_own h.own h.data (by decide))
  have hbr : ∀ k, (Value.slice Ad d.length cd).ownBlock = some k → base' ≤ k := fun k hk => (h.data.lt k hk).1
  have hops : RowsR (OpO w' w.heap.size base') os ys := h.ops.mono fun _ _ hh => OpO.keepHi hg hbr (Nat.le_refl _) _ _ hh
  have hblk : ∀ b ∈ L, Blk w' b.1 b.2.1 b.2.2 := fun b hb => (h.blk b hb).grown hg (own_blk_ne h.data (h.blk b hb) (fun e => (h.ty b hb).1 e.symm))
  have hbel : Below w.heap.size w w' := h.bel.grown hg (by have := h.lo; have := h.hi; omega) (fun k hk => by have := hbr k hk; have := h.lo; omega)
  obtain ⟨hst, hgs⟩ := hrow.stored (os.length * 3 + 2) (.slice (some ⟨gd, 0, none⟩) (d.length + 1) cap')
  have hset : (ys ++ [Value.int .i64 0, Value.int .i64 0, Value.slice Ad d.length cd]).set (os.length * 3 + 2) (Value.slice (some ⟨gd, 0, none⟩) (d.length + 1) cap') = ys ++ [Value.int .i64 0, Value.int .i64 0, Value.slice (some ⟨gd, 0, none⟩) (d ++ [x]).length cap'] := by
    rw [← h.ysl, List.set_append_right _ _ (by omega)]; simp
  rw [hset] at hst
  have hgne : ∀ {e size n v us}, w'.ownsRow e 5 size v n us → v.ownBlock = none ∨ v.ownBlock ≠ some g := fun ho => own_ne_own ho hrow (by decide)
  have hdata : (w'.setCell ⟨g, os.length * 3 + 2, none⟩ (.slice (some ⟨gd, 0, none⟩) (d.length + 1) cap')).ownsRow base' 5 1 (.slice (some ⟨gd, 0, none⟩) (d.length + 1) cap') (d.length + 1) (bytesV d ++ [.int .u8 x.toNat]) :=
    hown.kept hgs (hgne hown)
  have hops2 : RowsR (OpO (w'.setCell ⟨g, os.length * 3 + 2, none⟩ (.slice (some ⟨gd, 0, none⟩) (d.length + 1) cap')) w.heap.size base') os ys := hops.mono fun o cs hh => by
    obtain ⟨A, c, e, h1, h2, h3, h4, h5, h6⟩ := hh
    exact ⟨A, c, e, h1, h2, h3.kept hgs (hgne h3), h4, h5, h6⟩
  have hgs37 : ∀ b ∈ L, some b.1 ≠ some g := fun b hb e => own_blk_ne hrow (hblk b hb) (fun e => (h.ty b hb).2 e.symm) (by simpa [Value.ownBlock] using e)
  have hgblk : w.heap.size ≤ g := (hrow.lt g (by simp [Value.ownBlock])).1
  have hsz2 : base' ≤ (w'.setCell ⟨g, os.length * 3 + 2, none⟩ (.slice (some ⟨gd, 0, none⟩) (d.length + 1) cap')).heap.size := by
    have := h.hi; have := hg.size; simp [World.setCell]; omega
  have hdata2 : (w'.setCell ⟨g, os.length * 3 + 2, none⟩ (.slice (some ⟨gd, 0, none⟩) (d.length + 1) cap')).ownsRow base' 5 1 (.slice (some ⟨gd, 0, none⟩) (d ++ [x]).length cap') (d ++ [x]).length (bytesV (d ++ [x])) := by
    simpa [bytesV] using hdata
  refine ⟨⟨by simpa using hst, ?_, fun b hb => (hblk b hb).grown hgs (hgs37 b hb), h.ty, hbel.setCell hgblk _⟩, ⟨rfl, rfl, hops2, hdata2, h.lo, hsz2⟩⟩
  refine RowsR.append ?_ (RowsR.one ⟨some ⟨gd, 0, none⟩, cap', rfl, ?_, by simpa using hdl, ?_, ?_, by simp [I64], by simp [I64]⟩)
  · exact hops2.mono fun o cs hh => by
      obtain ⟨A, c, e, h1, h2, h3, h4, h5, h6⟩ := hh
      exact ⟨A, c, e, h1, h2, h3, fun g hg => by have := h4 g hg; omega, h5, h6⟩
  · obtain ⟨A', c', e, hc, _⟩ := own_form hdata2
    injection e with _ _ e3
    subst e3; exact hc
  · obtain ⟨a1, a2⟩ := hdata2
    refine ⟨a1, ?_⟩
    rcases a2 with a2 | ⟨g', cap2, cur, e, hb, r⟩
    · exact .inl a2
    · exact .inr ⟨g', cap2, cur, e, by have := h.lo; omega, r⟩
  · intro k hk
    exact (hdata2.lt k hk).2


end Go.Proofs.Ytiphcpibhffdjaa
