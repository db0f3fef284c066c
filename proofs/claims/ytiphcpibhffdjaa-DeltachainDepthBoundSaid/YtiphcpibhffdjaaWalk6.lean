/-
  Walks of the delta chain: 'Encode'.
-/
import Derived.Test.YtiphcpibhffdjaaWalk4
import Derived.Deep.RegionHeld3
import Derived.Deep.AppendLies
import Derived.Deep.RegionLaw
namespace Go.Proofs.Ytiphcpibhffdjaa
open Go.RowKit Go.V
set_option linter.unusedVariables false

theorem info37 : (Try.prog.info? 37).map (fun i => (i.zero, i.size, i.bytes)) = some (some (.agg #[.int .i64 0, .int .i64 0, .slice none 0 0]), 3, 40) := by kernel_rfl

/-- A slice value that reads as a delta. -/
def OpsV (w : World) (B : Nat) (v : Value) (ops : List Dc.Op) : Prop :=
  ∃ A c vs, v = .slice A ops.length c ∧ ops.length ≤ c ∧ SV w B A vs ∧ RowsR (OpR w B) ops vs

/-- What 'Encode' computes, with its faults. -/
def encF (base target : List UInt8) : List Dc.Op × (Int × Int) :=
  if 1000 < base.length then ([], (10, 0)) else if 1000 < target.length then ([], (10, 1)) else (Dc.encode base target, (0, 0))
def EncPost (w : World) (r : List Dc.Op × (Int × Int)) (e : Ending) (w' : World) : Prop :=
  ∃ v, e = .returned (.tuple #[v, .agg #[.int .i64 r.2.1, .int .i64 r.2.2]]) ∧ OpsV w' w'.heap.size v r.1 ∧ Below w.heap.size w w'
theorem EncPost.fail_ {w w' : World} {r : List Dc.Op × (Int × Int)} {c i : Int} (h : Hid (r = ([], (c, i)))) (hg : Below w.heap.size w w') :
    EncPost w r (.returned (.tuple #[.slice none 0 0, .agg #[.int .i64 c, .int .i64 i]])) w' := by
  rw [h.out]
  exact ⟨_, rfl, ⟨none, 0, [], rfl, Nat.le_refl _, .inl rfl, rfl⟩, hg⟩

/-- One operation whose data is a row of the call's own, in a block from lo on and below hi. -/
def OpO (w : World) (lo hi : Nat) (o : Dc.Op) (cs : List Value) : Prop :=
  ∃ A c, cs = [.int .i64 o.off, .int .i64 o.len, .slice A o.data.length c] ∧ o.data.length ≤ c ∧ o.data.length ≤ 1000 ∧ w.ownsRow lo 5 1 (.slice A o.data.length c) o.data.length (bytesV o.data) ∧
    (∀ g, (Value.slice A o.data.length c).ownBlock = some g → g < hi) ∧ I64 o.off ∧ I64 o.len
theorem OpO.len {w : World} {lo hi : Nat} (o : Dc.Op) (cs : List Value) (h : OpO w lo hi o cs) : cs.length = 3 := by obtain ⟨A, c, rfl, _⟩ := h; rfl
theorem OpO.toR {w : World} {lo hi : Nat} (o : Dc.Op) (cs : List Value) (h : OpO w lo hi o cs) : OpR w w.heap.size o cs := by
  obtain ⟨A, c, e, h1, h2, h3, h4, h5, h6⟩ := h
  exact ⟨A, c, e, h1, by omega, h5, h6, SV.of_own h3⟩
/-- Kept while a row of another element type grows. -/
theorem OpO.keepType {w w' : World} {lo hi hi' B0 : Nat} {e : TypeId} {size n : Nat} {v : Value} {xs : List Value} (hown : w.ownsRow B0 e size v n xs) (he : 5 ≠ e) (hg : w.grownBy w' v.ownBlock) (hh : hi ≤ hi')
    (o : Dc.Op) (cs : List Value) (h : OpO w lo hi o cs) : OpO w' lo hi' o cs := by
  obtain ⟨A, c, e, h1, h2, h3, h4, h5, h6⟩ := h
  exact ⟨A, c, e, h1, h2, h3.kept hg (own_ne_own h3 hown he), fun g hg => by have := h4 g hg; omega, h5, h6⟩
/-- Kept while a row in a block from hi on is written. -/
theorem OpO.keepHi {w w' : World} {lo hi hi' : Nat} {row : Option Nat} (hg : w.grownBy w' row) (hr : ∀ g, row = some g → hi ≤ g) (hh : hi ≤ hi')
    (o : Dc.Op) (cs : List Value) (h : OpO w lo hi o cs) : OpO w' lo hi' o cs := by
  obtain ⟨A, c, e, h1, h2, h3, h4, h5, h6⟩ := h
  refine ⟨A, c, e, h1, h2, h3.kept hg ?_, fun g hg => by have := h4 g hg; omega, h5, h6⟩
  rcases hv : (Value.slice A o.data.length c).ownBlock with _ | g
  · exact .inl rfl
  · refine .inr (fun e2 => ?_)
    have h1 := h4 g hv
    have h2 := hr g e2.symm
    omega

/-- Kept while a block of another element type is written. -/
theorem OpO.keepNe {w w' : World} {lo hi hi' g : Nat} {t : TypeId} {cs0 : Array Value} (hg : w.grownBy w' (some g)) (hb : Blk w g t cs0) (hh : hi ≤ hi') (o : Dc.Op) (cs : List Value) (h : OpO w lo hi o cs) (ht : 5 ≠ t := by decide) : OpO w' lo hi' o cs := by
  obtain ⟨A, c, e, h1, h2, h3, h4, h5, h6⟩ := h
  exact ⟨A, c, e, h1, h2, h3.kept hg (.inr fun e => own_blk_ne h3 hb ht e.symm), fun g hg => by have := h4 g hg; omega, h5, h6⟩

/-- A delta in blocks of the call's own. -/
def OpsF (w : World) (lo : Nat) (v : Value) (ops : List Dc.Op) : Prop :=
  ∃ A c vs, v = .slice A ops.length c ∧ ops.length ≤ c ∧ w.ownsRow lo 37 3 (.slice A ops.length c) ops.length vs ∧ RowsR (OpO w lo w.heap.size) ops vs
theorem OpsF.toV {w : World} {lo : Nat} {v : Value} {ops : List Dc.Op} (h : OpsF w lo v ops) : OpsV w w.heap.size v ops := by
  obtain ⟨A, c, vs, e, hc, ho, hr⟩ := h
  exact ⟨A, c, vs, e, hc, SV.of_own ho, hr.mono fun o cs hh => OpO.toR o cs hh⟩
def EncPostF (w : World) (r : List Dc.Op × (Int × Int)) (e : Ending) (w' : World) : Prop :=
  ∃ v, e = .returned (.tuple #[v, .agg #[.int .i64 r.2.1, .int .i64 r.2.2]]) ∧ OpsF w' w.heap.size v r.1 ∧ Below w.heap.size w w'
theorem EncPostF.fail_ {w w' : World} {r : List Dc.Op × (Int × Int)} {c i : Int} (h : Hid (r = ([], (c, i)))) (hg : Below w.heap.size w w') :
    EncPostF w r (.returned (.tuple #[.slice none 0 0, .agg #[.int .i64 c, .int .i64 i]])) w' := by
  rw [h.out]
  exact ⟨_, rfl, ⟨none, 0, [], rfl, Nat.le_refl _, World.ownsRow_nil _ _ _ _, rfl⟩, hg⟩

/-- What lies in the rounds of 'Encode': the row of operations. -/
structure EncSt (w wr : World) (A : Option Addr) (c : Nat) (out : List Dc.Op) (xs : List Value) : Prop where
  own : wr.ownsRow w.heap.size 37 3 (.slice A out.length c) out.length xs
  ops : RowsR (OpO wr w.heap.size wr.heap.size) out xs
  blk : Blk wr w.heap.size 26 #[.int .i64 0, .int .i64 0]
  bel : Below w.heap.size w wr
/-- The last operation is an insertion, whose data the call owns apart from the others'. -/
structure OpenSt (w wr : World) (out : List Dc.Op) (xs : List Value) (os : List Dc.Op) (ys : List Value) (d : List UInt8) (A : Option Addr) (c base' : Nat) : Prop where
  eo : out = os ++ [⟨0, 0, d⟩]
  ex : xs = ys ++ [.int .i64 0, .int .i64 0, .slice A d.length c]
  ops : RowsR (OpO wr w.heap.size base') os ys
  own : wr.ownsRow base' 5 1 (.slice A d.length c) d.length (bytesV d)
  lo : w.heap.size ≤ base'
  hi : base' ≤ wr.heap.size
def LastOk (w wr : World) (out : List Dc.Op) (xs : List Value) (t : List UInt8) : Prop :=
  (∀ o, out.getLast? = some o → 0 < o.len) ∨ ∃ os ys d A c base', OpenSt w wr out xs os ys d A c base' ∧ d.length + t.length ≤ 1000

theorem EncSt.drewN {w wr : World} {A : Option Addr} {c : Nat} {out : List Dc.Op} {xs : List Value} (h : EncSt w wr A c out xs) (n : Nat) : EncSt w (wr.drewN n) A c out xs :=
  ⟨h.own, h.ops, h.blk, below_drewN h.bel n⟩
theorem LastOk.drewN {w wr : World} {out : List Dc.Op} {xs : List Value} {t : List UInt8} (h : LastOk w wr out xs t) (n : Nat) : LastOk w (wr.drewN n) out xs t := by
  rcases h with h | ⟨os, ys, d, A, c, b, h, h'⟩
  · exact .inl h
  · exact .inr ⟨os, ys, d, A, c, b, ⟨h.eo, h.ex, h.ops, h.own, h.lo, h.hi⟩, h'⟩

/-- An operation without data is appended to the row. -/
theorem EncSt.app {w wr w' : World} {A A' : Option Addr} {c c' n : Nat} {out : List Dc.Op} {xs : List Value} {f l : Int} (h : EncSt w wr A c out xs) (ob : Obj)
    (hg : (wr.alloc ob).grownBy w' (Value.slice A out.length c).ownBlock) (hn : n = out.length + 1) (hown : w'.ownsRow w.heap.size 37 3 (.slice A' n c') n (xs ++ [.int .i64 f, .int .i64 l, .slice none 0 0]))
    (hf : I64 f) (hl : I64 l) : EncSt w w' A' c' (out ++ [⟨f, l, []⟩]) (xs ++ [.int .i64 f, .int .i64 l, .slice none 0 0]) := by
  obtain ⟨k1, k2, k3⟩ := app_keep h.own ob hg h.bel.size
  subst hn
  refine ⟨by simpa using hown, ?_, k1 _ _ _ (by decide) h.blk, k2 _ _ (Nat.le_refl _) h.bel⟩
  refine RowsR.append ?_ (RowsR.one ⟨none, 0, rfl, Nat.le_refl _, by simp, World.ownsRow_nil _ _ _ _, fun g hg => by simp [Value.ownBlock] at hg, hf, hl⟩)
  have h1 : RowsR (OpO (wr.alloc ob) w.heap.size wr.heap.size) out xs := h.ops.mono fun o cs hh => OpO.keepHi (World.grownBy_alloc wr ob none) (fun g hg => by cases hg) (Nat.le_refl _) o cs hh
  exact h1.mono fun o cs hh => OpO.keepType (h.own.alloc ob) (by decide) hg (by omega) o cs hh

/-- The state ahead of 'last.Data = append(last.Data, target[0])'. -/
structure Ready (w W : World) (g cap : Nat) (os : List Dc.Op) (ys : List Value) (d : List UInt8) (Ad : Option Addr) (cd base' : Nat) : Prop where
  own : W.ownsRow w.heap.size 37 3 (.slice (some ⟨g, 0, none⟩) (os.length + 1) cap) (os.length + 1) (ys ++ [.int .i64 0, .int .i64 0, .slice Ad d.length cd])
  ops : RowsR (OpO W w.heap.size base') os ys
  data : W.ownsRow base' 5 1 (.slice Ad d.length cd) d.length (bytesV d)
  lo : w.heap.size ≤ base'
  hi : base' ≤ W.heap.size
  blk : Blk W w.heap.size 26 #[.int .i64 0, .int .i64 0]
  bel : Below w.heap.size w W
theorem Ready.ysl {w W : World} {g cap : Nat} {os : List Dc.Op} {ys : List Value} {d : List UInt8} {Ad : Option Addr} {cd base' : Nat} (h : Ready w W g cap os ys d Ad cd base') : ys.length = os.length * 3 :=
  h.ops.length OpO.len
theorem Ready.cell {w W : World} {g cap : Nat} {os : List Dc.Op} {ys : List Value} {d : List UInt8} {Ad : Option Addr} {cd base' : Nat} (h : Ready w W g cap os ys d Ad cd base') : W.cell? ⟨g, os.length * 3 + 2, none⟩ = some (.slice Ad d.length cd) := by
  have := h.own.cellAt (os.length * 3 + 2) (by omega)
  rw [this, ← h.ysl, List.getElem?_append_right (by omega)]
  simp
theorem Ready.fro {w W : World} {g cap : Nat} {os : List Dc.Op} {ys : List Value} {d : List UInt8} {Ad : Option Addr} {cd base' : Nat} (h : Ready w W g cap os ys d Ad cd base') : W.frozen? ⟨g, os.length * 3 + 2, none⟩ = false := h.own.frozenAt _
theorem Ready.drewN {w W : World} {g cap : Nat} {os : List Dc.Op} {ys : List Value} {d : List UInt8} {Ad : Option Addr} {cd base' : Nat} (h : Ready w W g cap os ys d Ad cd base') (n : Nat) : Ready w (W.drewN n) g cap os ys d Ad cd base' :=
  ⟨h.own, h.ops, h.data, h.lo, h.hi, h.blk, below_drewN h.bel n⟩
theorem Ready.alloc {w W : World} {g cap : Nat} {os : List Dc.Op} {ys : List Value} {d : List UInt8} {Ad : Option Addr} {cd base' : Nat} (h : Ready w W g cap os ys d Ad cd base') (o : Obj) : Ready w (W.alloc o) g cap os ys d Ad cd base' :=
  ⟨h.own.alloc o, h.ops.mono fun _ _ hh => OpO.keepHi (World.grownBy_alloc W o none) (fun g hg => by cases hg) (Nat.le_refl _) _ _ hh, h.data.alloc o, h.lo, by have := h.hi; simp; omega, h.blk.alloc o, h.bel.alloc h.bel.size o⟩
/-- Behind a new, empty operation. -/
theorem Ready.fresh {w W : World} {g cap : Nat} {out : List Dc.Op} {xs : List Value} (h : EncSt w W (some ⟨g, 0, none⟩) cap (out ++ [⟨0, 0, []⟩]) (xs ++ [.int .i64 0, .int .i64 0, .slice none 0 0])) :
    Ready w W g cap out xs [] none 0 W.heap.size := by
  refine ⟨by simpa using h.own, ?_, World.ownsRow_nil _ _ _ _, h.bel.size, Nat.le_refl _, h.blk, h.bel⟩
  obtain ⟨us, ts, e, h1, h2⟩ := h.ops.split
  have hl := h1.length OpO.len
  obtain ⟨cs, rest, rfl, ⟨A, c, rfl, _⟩, hr⟩ := h2
  simp only [RowsR] at hr
  subst hr
  obtain ⟨e1, _⟩ := List.append_inj' e (by simp)
  rw [e1]; exact h1
/-- Where the last operation is an insertion already. -/
theorem Ready.again {w wr : World} {A : Option Addr} {c : Nat} {out : List Dc.Op} {xs : List Value} {os : List Dc.Op} {ys : List Value} {d : List UInt8} {Ad : Option Addr} {cd base' : Nat}
    (st : EncSt w wr A c out xs) (op : OpenSt w wr out xs os ys d Ad cd base') : ∃ g, A = some ⟨g, 0, none⟩ ∧ Ready w wr g c os ys d Ad cd base' := by
  have e := op.eo
  subst e
  obtain ⟨g, cap, hv, _, _⟩ := st.own.form (by simp)
  injection hv with hv1 hv2 hv3
  subst hv1 hv3
  have := st.own
  rw [op.ex] at this
  exact ⟨g, rfl, by simpa using this, op.ops, op.own, op.lo, op.hi, st.blk, st.bel⟩
/-- The cell that the new slice is stored into, behind the append. -/
theorem Ready.storeCell {w W w' : World} {g cap : Nat} {os : List Dc.Op} {ys : List Value} {d : List UInt8} {Ad : Option Addr} {cd base' : Nat} (h : Ready w W g cap os ys d Ad cd base') (o : Obj)
    (hg : ((W.alloc o).drew).grownBy w' (Value.slice Ad d.length cd).ownBlock) : w'.cell? ⟨g, os.length * 3 + 2, none⟩ = some (.slice Ad d.length cd) := by
  have h2 := (h.alloc o).drewN 1
  have hrow := h2.own.kept hg (own_ne_own h2.own h2.data (by decide))
  rw [hrow.cellAt _ (by omega), ← h.ysl, List.getElem?_append_right (by omega)]
  simp
theorem Ready.storeFro {w W w' : World} {g cap : Nat} {os : List Dc.Op} {ys : List Value} {d : List UInt8} {Ad : Option Addr} {cd base' : Nat} (h : Ready w W g cap os ys d Ad cd base') (o : Obj)
    (hg : ((W.alloc o).drew).grownBy w' (Value.slice Ad d.length cd).ownBlock) : w'.frozen? ⟨g, os.length * 3 + 2, none⟩ = false := by
  have h2 := (h.alloc o).drewN 1
  have hrow := h2.own.kept hg (own_ne_own h2.own h2.data (by decide))
  exact hrow.frozenAt _
/-- Behind the append onto the data and the store of the new slice. -/
theorem Ready.done {w W w' : World} {g cap : Nat} {os : List Dc.Op} {ys : List Value} {d : List UInt8} {Ad : Option Addr} {cd base' : Nat} {x : UInt8} {gd cap' : Nat} (h : Ready w W g cap os ys d Ad cd base')
    (hown : w'.ownsRow base' 5 1 (.slice (some ⟨gd, 0, none⟩) (d.length + 1) cap') (d.length + 1) (bytesV d ++ [.int .u8 x.toNat])) (hg : W.grownBy w' (Value.slice Ad d.length cd).ownBlock) (hdl : d.length + 1 ≤ 1000) :
    EncSt w (w'.setCell ⟨g, os.length * 3 + 2, none⟩ (.slice (some ⟨gd, 0, none⟩) (d.length + 1) cap')) (some ⟨g, 0, none⟩) cap (os ++ [⟨0, 0, d ++ [x]⟩]) (ys ++ [.int .i64 0, .int .i64 0, .slice (some ⟨gd, 0, none⟩) (d ++ [x]).length cap']) ∧
    OpenSt w (w'.setCell ⟨g, os.length * 3 + 2, none⟩ (.slice (some ⟨gd, 0, none⟩) (d.length + 1) cap')) (os ++ [⟨0, 0, d ++ [x]⟩]) (ys ++ [.int .i64 0, .int .i64 0, .slice (some ⟨gd, 0, none⟩) (d ++ [x]).length cap']) os ys (d ++ [x]) (some ⟨gd, 0, none⟩) cap' base' := by
  have hrow : w'.ownsRow w.heap.size 37 3 (.slice (some ⟨g, 0, none⟩) (os.length + 1) cap) (os.length + 1) (ys ++ [.int .i64 0, .int .i64 0, .slice Ad d.length cd]) :=
    h.own.kept hg (own_ne_own h.own h.data (by decide))
  have hbr : ∀ k, (Value.slice Ad d.length cd).ownBlock = some k → base' ≤ k := fun k hk => (h.data.lt k hk).1
  have hops : RowsR (OpO w' w.heap.size base') os ys := h.ops.mono fun _ _ hh => OpO.keepHi hg hbr (Nat.le_refl _) _ _ hh
  have hblk : Blk w' w.heap.size 26 #[.int .i64 0, .int .i64 0] := h.blk.grown hg (own_blk_ne h.data h.blk (by decide))
  have hbel : Below w.heap.size w w' := h.bel.grown hg (by have := h.lo; have := h.hi; omega) (fun k hk => by have := hbr k hk; have := h.lo; omega)
  obtain ⟨hst, hgs⟩ := hrow.stored (os.length * 3 + 2) (.slice (some ⟨gd, 0, none⟩) (d.length + 1) cap')
  have hset : (ys ++ [Value.int .i64 0, Value.int .i64 0, Value.slice Ad d.length cd]).set (os.length * 3 + 2) (Value.slice (some ⟨gd, 0, none⟩) (d.length + 1) cap') = ys ++ [Value.int .i64 0, Value.int .i64 0, Value.slice (some ⟨gd, 0, none⟩) (d ++ [x]).length cap'] := by
    rw [← h.ysl, List.set_append_right _ _ (by omega)]; simp
  rw [hset] at hst
  have hgne : ∀ {e size n v us}, w'.ownsRow e 5 size v n us → v.ownBlock = none ∨ v.ownBlock ≠ some g := fun ho => own_ne_own ho hrow (by decide)
  have hdata : (w'.setCell ⟨g, os.length * 3 + 2, none⟩ (.slice (some ⟨gd, 0, none⟩) (d.length + 1) cap')).ownsRow base' 5 1 (.slice (some ⟨gd, 0, none⟩) (d.length + 1) cap') (d.length + 1) (bytesV d ++ [.int .u8 x.toNat]) :=
    hown.kept hgs (hgne hown)
  have hops2 : RowsR (OpO (w'.setCell ⟨g, os.length * 3 + 2, none⟩ (.slice (some ⟨gd, 0, none⟩) (d.length + 1) cap')) w.heap.size base') os ys := hops.mono fun o cs hh => by
    obtain ⟨A, c, e, h1, h2, h3, h4, h5, h6⟩ := hh
    exact ⟨A, c, e, h1, h2, h3.kept hgs (hgne h3), h4, h5, h6⟩
  have hgs37 : some w.heap.size ≠ some g := fun e => own_blk_ne hrow hblk (by decide) (by simpa [Value.ownBlock] using e)
  have hgblk : w.heap.size ≤ g := (hrow.lt g (by simp [Value.ownBlock])).1
  have hsz2 : base' ≤ (w'.setCell ⟨g, os.length * 3 + 2, none⟩ (.slice (some ⟨gd, 0, none⟩) (d.length + 1) cap')).heap.size := by
    have := h.hi; have := hg.size; simp [World.setCell]; omega
  have hdata2 : (w'.setCell ⟨g, os.length * 3 + 2, none⟩ (.slice (some ⟨gd, 0, none⟩) (d.length + 1) cap')).ownsRow base' 5 1 (.slice (some ⟨gd, 0, none⟩) (d ++ [x]).length cap') (d ++ [x]).length (bytesV (d ++ [x])) := by
    simpa [bytesV] using hdata
  refine ⟨⟨by simpa using hst, ?_, hblk.grown hgs hgs37, hbel.setCell hgblk _⟩, ⟨rfl, rfl, hops2, hdata2, h.lo, hsz2⟩⟩
  refine RowsR.append ?_ (RowsR.one ⟨some ⟨gd, 0, none⟩, cap', rfl, ?_, by simpa using hdl, ?_, ?_, by simp [I64], by simp [I64]⟩)
  · exact hops2.mono fun o cs hh => by
      obtain ⟨A, c, e, h1, h2, h3, h4, h5, h6⟩ := hh
      exact ⟨A, c, e, h1, h2, h3, fun g hg => by have := h4 g hg; omega, h5, h6⟩
  · obtain ⟨A', c', e, hc, _⟩ := own_form hdata2
    injection e with _ _ e3
    subst e3; exact hc
  · obtain ⟨a1, a2⟩ := hdata2
    refine ⟨a1, ?_⟩
    rcases a2 with a2 | ⟨g', cap2, cur, e, hb, r⟩
    · exact .inl a2
    · exact .inr ⟨g', cap2, cur, e, by have := h.lo; omega, r⟩
  · intro k hk
    exact (hdata2.lt k hk).2

def lenOf : Value → Nat
  | .slice _ n _ => n
  | _ => 0

section
variable (w : World) (A1 A2 : Option Addr) (c1 c2 : Nat) (base target : List UInt8)

set_option maxRecDepth 100000 in
set_option maxHeartbeats 8000000 in
theorem encode_fresh (h1 : SV w w.heap.size A1 (bytesV base)) (h2 : SV w w.heap.size A2 (bytesV target)) (hc2 : target.length ≤ c2) (hb : base.length ≤ 9223372036854775807) (ht : target.length ≤ 9223372036854775807) :
    Calls Try.prog 11 #[.slice A1 base.length c1, .slice A2 target.length c2] w (EncPostF w (encF base target)) := by
  obtain ⟨i0, hi0, hz0, hz1, hz2⟩ := info_parts info5
  obtain ⟨i1, hi1, hy0, hy1, hy2⟩ := info_parts info37
  have ix0 : ∀ W, (Instr.index 55 (.agg #[.slice A1 base.length c1, .slice A2 target.length c2]) (.int .i64 0)).run Try.prog W = .ok (.slice A1 base.length c1) W := fun _ => by kernel_rfl
  have ix1 : ∀ W, (Instr.index 55 (.agg #[.slice A1 base.length c1, .slice A2 target.length c2]) (.int .i64 1)).run Try.prog W = .ok (.slice A2 target.length c2) W := fun _ => by kernel_rfl
  by_cases hb1 : 1000 < base.length
  · have H := Lib.hid (show encF base target = ([], (10, 0)) from by unfold encF; rw [if_pos hb1])
    have hb2 : (1000 : Int) < base.length := by omega
    go_enter Try.func11, Try.ntmps11
    go_wp2_with fail
    refine wp_loop_rounds 1 ?_
    rw [rounds_succ]
    go_wp2_with fail
    refine bodyPost_ret (results_tc rfl _ _ w.heap.size (.int .i64 10) (.int .i64 0) rfl (Blk.new _ _ _)) rfl (EncPostF.fail_ H ?_)
    exact (Below.refl _ _).alloc (Nat.le_refl _) _
  · have hb2 : (base.length : Int) ≤ 1000 := by omega
    by_cases ht1 : 1000 < target.length
    · have H := Lib.hid (show encF base target = ([], (10, 1)) from by unfold encF; rw [if_neg hb1, if_pos ht1])
      have ht2 : (1000 : Int) < target.length := by omega
      go_enter Try.func11, Try.ntmps11
      go_wp2_with fail
      refine wp_loop_rounds 2 ?_
      rw [rounds_succ]
      go_wp2_with fail
      rw [rounds_succ]
      go_wp2_with fail
      refine bodyPost_ret (results_tc rfl _ _ w.heap.size (.int .i64 10) (.int .i64 1) rfl (Blk.new _ _ _)) rfl (EncPostF.fail_ H ?_)
      exact (Below.refl _ _).alloc (Nat.le_refl _) _
    · have H := Lib.hid (show encF base target = (Dc.encRest base [] target, (0, 0)) from by unfold encF; rw [if_neg hb1, if_neg ht1]; rfl)
      have ht2 : (target.length : Int) ≤ 1000 := by omega
      have hb3 : base.length ≤ 1000 := by omega
      have ht3 : target.length ≤ 1000 := by omega
      clear hb1 ht1 hb ht
      go_enter Try.func11, Try.ntmps11
      go_wp2_with fail
      refine wp_loop_rounds 3 ?_
      rw [rounds_succ]
      go_wp2_with fail
      rw [rounds_succ]
      go_wp2_with fail
      rw [rounds_succ]
      go_wp2_with fail
      go_loopw [1, 8] (fun tv v wr => ∃ (t : List UInt8) (At : Option Addr) (ct : Nat) (out : List Dc.Op) (Ao : Option Addr) (co : Nat) (xs : List Value), tv = .slice At t.length ct ∧ v = .slice Ao out.length co ∧ t.length ≤ ct ∧
          SV w w.heap.size At (bytesV t) ∧ EncSt w wr Ao co out xs ∧ LastOk w wr out xs t ∧ out.length + t.length ≤ 1000 ∧ Hid (Dc.encRest base [] target = Dc.encRest base out t)) (fun tv _ _ => lenOf tv)
      case atStart => exact ⟨target, A2, c2, [], none, 0, [], rfl, rfl, hc2, h2, ⟨World.ownsRow_nil _ _ _ _, rfl, Blk.new _ _ _, (Below.refl _ _).alloc (Nat.le_refl _) _⟩, .inl (by simp), by simpa using ht3, rfl⟩
      case round =>
        obtain ⟨t, At, ct, out, Ao, co, xs, rfl, rfl, hct, hst, st, hlast, hsum, hgo⟩ := hrel
        obtain ⟨wo, rfl⟩ : ∃ wo : World, wo = wr := ⟨_, rfl⟩
        have hsz := st.bel.size
        by_cases htl : t = []
        · subst htl
          have hc0 := st.blk.cell 0
          have hc1' := st.blk.cell 1
          have hf0 := st.blk.frozen 0
          have hf1 := st.blk.frozen 1
          simp only [List.getElem?_toArray, List.getElem?_cons_zero, List.getElem?_cons_succ] at hc0 hc1'
          go_wp2_with fail
          refine bodyPost_ret (results_tc rfl _ _ w.heap.size (.int .i64 0) (.int .i64 0) rfl (blk_put2 st.blk _ _)) rfl ?_
          have e : encF base target = (out, (0, 0)) := by rw [H.out, hgo.out]; rfl
          rw [e]
          have hne : some w.heap.size ≠ (Value.slice Ao out.length co).ownBlock := own_blk_ne st.own st.blk (by decide)
          obtain ⟨A', c', e1, hcc, _⟩ := own_form st.own
          injection e1 with _ _ e3
          subst e3
          have hb2 := (st.bel.setCell (p := ⟨w.heap.size, 0, none⟩) (by simp) (.int .i64 0)).setCell (p := ⟨w.heap.size, 1, none⟩) (by simp) (.int .i64 0)
          have hG : wo.grownBy ((wo.setCell ⟨w.heap.size, 0, none⟩ (.int .i64 0)).setCell ⟨w.heap.size, 1, none⟩ (.int .i64 0)) (some w.heap.size) := only_setCell (p := ⟨w.heap.size, 1, none⟩) (only_setCell (p := ⟨w.heap.size, 0, none⟩) (World.grownBy.refl _ _) (.inl rfl) _) (.inl rfl) _
          refine ⟨_, rfl, ⟨Ao, co, xs, rfl, hcc, own_setCell (own_setCell st.own hne _) hne _, ?_⟩, hb2⟩
          exact st.ops.mono fun o cs hh => OpO.keepNe hG st.blk (by simp [World.setCell]) o cs hh
        · have htp : 0 < t.length := List.length_pos_iff.2 htl
          have hls := Dc.longest_le base t
          have hstc := hst.below st.bel (Nat.le_refl _)
          have h1c := h1.below st.bel (Nat.le_refl _)
          by_cases hn4 : 4 ≤ (Dc.longest base t).2
          · have hn4' : (4 : Int) ≤ (Dc.longest base t).2 := by omega
            have hgo2 := Lib.hid (hgo.out.trans (Dc.encRest_copy base out t htl hn4))
            have hle1 := hls.1
            have hle2 := hls.2.1
            clear hls
            go_wp2_with (first
              | (go_at_call 24; refine (longest_any _ A1 At c1 ct _ base t h1c hstc hb3 (by omega)).mono ?_; rintro e w' ⟨rfl, nd, rfl⟩)
              | (at_builtin; refine wpList_appN _ rfl (.tmp 37) (.tmp 41) 24 rfl w.heap.size 37 i1 _ 3 40 Try.underlying24 hi1 hy0 hy1 hy2 rfl (by decide) Ao _ co xs rfl ((st.drewN _).own.alloc _) _ _ 1 _ [.int .i64 (Dc.longest base t).1, .int .i64 (Dc.longest base t).2, .slice none 0 0] rfl rfl (SV.lit _ _ _) ?ca ?cb ?cc ?cd ?_))
            case ca => intro u hu; simp at hu; rcases hu with rfl | rfl | rfl <;> rfl
            case cb => simp [maxLen]; omega
            case cc => omega
            case cd => simp; omega
            intro A' c' w2 hown2 hg2 _
            have st2 := EncSt.app (st.drewN nd) _ hg2 rfl hown2 (by unfold I64; omega) (by unfold I64; omega)
            clear hown2 hg2
            go_wp2_with fail
            go_roundw
            case rel =>
              refine ⟨t.drop (Dc.longest base t).2, _, _, out ++ [⟨(Dc.longest base t).1, (Dc.longest base t).2, []⟩], A', c', _, by rw [List.length_drop], by simp, ?_, ?_, st2, .inl ?_, ?_, hgo2⟩
              · simp; omega
              · have := hst.cut (Dc.longest base t).2 (ct = (Dc.longest base t).2) (fun h => by simp; omega)
                simpa [bytesV, List.map_drop] using this
              · simp; omega
              · simp; omega
            case measure => simp [lenOf]; omega
          · have hn4' : ((Dc.longest base t).2 : Int) < 4 := by omega
            obtain ⟨x, t', rfl⟩ : ∃ x t', t = x :: t' := by cases t with
              | nil => exact absurd rfl htl
              | cons x t' => exact ⟨x, t', rfl⟩
            have hgo2 := Lib.hid (hgo.out.trans (Dc.encRest_add base out x t' hn4))
            have hle1 := hls.1
            have hle2 := hls.2.1
            clear hls htl
            simp only [List.length_cons] at hsum hct htp
            obtain ⟨b2, o2, eA, hb2', hcx⟩ := hst.byte 0 (by simp)
            simp only [List.getElem_cons_zero, Nat.add_zero] at hcx
            have hcx1 := (st.bel.cell (p := ⟨b2, o2, none⟩) hb2').trans hcx
            subst eA
            -- what is to be shown of the rest of the round, once the last operation is an insertion
            rcases hlast with hcl | ⟨os, ys, d, Ad, cd, base', op, hdl⟩
            · by_cases hou : out = []
              · subst hou
                have hxs : xs = [] := by have := st.ops; simpa [RowsR] using this
                subst hxs
                go_wp2_with (first
                  | (go_at_call 24; refine (longest_any _ A1 _ c1 ct _ base (x :: t') h1c hstc hb3 (by simp; omega)).mono ?_; rintro e w' ⟨rfl, nd, rfl⟩)
                  | (at_builtin; refine wpList_appN _ rfl (.tmp 59) (.tmp 61) 24 rfl w.heap.size 37 i1 _ 3 40 Try.underlying24 hi1 hy0 hy1 hy2 rfl (by decide) Ao _ co [] rfl ((st.drewN _).own.alloc _) _ _ 1 _ [.int .i64 0, .int .i64 0, .slice none 0 0] rfl rfl (SV.lit _ _ _) ?xa1 ?xb1 ?xc1 ?xd1 ?_))
                case xa1 => intro u hu; simp at hu; rcases hu with rfl | rfl | rfl <;> rfl
                case xb1 => simp [maxLen]; try omega
                case xc1 => first | omega | simp
                case xd1 => simp; omega
                intro A' c' w2 hown2 hg2 _
                have st2 := EncSt.app (st.drewN nd) _ hg2 rfl hown2 (by unfold I64; omega) (by unfold I64; omega)
                obtain ⟨g, cap, hv, _, _⟩ := hown2.form (by simp)
                injection hv with hv1 hv2 hv3
                subst hv1 hv3
                have rd := Ready.fresh st2
                clear hown2 hg2 st2
                have hcD : _ = some _ := rd.cell
                have hfD := rd.fro
                simp only [List.length_nil, Nat.zero_mul, Nat.zero_add] at hcD hfD
                have hcX := (rd.bel.cell (p := ⟨b2, o2, none⟩) hb2').trans hcx
                have hrsz := rd.hi
                go_wp2_with fail
                go_region_law
                  (first | (refine step_app1 _ rfl (.tmp 72) (.tmp 76) 22 rfl _ 5 i0 (.int .u8 0) 1 Try.underlying22 hi0 hz0 hz1 hz2 rfl _ _ _ _ rfl (rd.data.alloc _).drew _ _ (.int .u8 x.toNat) rfl (by simp [World.cell?_alloc_new]) rfl (by simp [maxLen]; try omega) (by first | omega | simp) (by simp; try omega) ?_; intro gd cap' w3 hown3 hg3; have hcS := rd.storeCell _ hg3; have hfS := rd.storeFro _ hg3; simp only [List.length_nil, Nat.zero_mul, Nat.zero_add] at hcS hfS))
                all_goals
                  have hdone := ((rd.alloc _).drewN 1).done hown3 hg3 (by first | omega | simp)
                  have hlast' : LastOk w _ _ _ t' := .inr ⟨_, _, _, _, _, _, hdone.2, by simp; omega⟩
                  have hao : Dc.addB [] x = ([] : List Dc.Op) ++ [⟨0, 0, ([] : List UInt8) ++ [x]⟩] := rfl
                  have HG := Lib.hid (hgo2.out.trans (congrArg (fun o => Dc.encRest base o t') hao))
                  clear hao
                  have hcut := hst.cut 1 (ct = 1) (fun h => .inl (by rw [bytesV_length, List.length_cons]; omega))
                  clear hcS hfS hown3 hg3
                  go_wp2_with fail
                  go_roundw
                  case rel => exact ⟨t', (if ct = 1 then some ⟨b2, o2, none⟩ else some ⟨b2, o2 + 1, none⟩), ct - 1, ([] : List Dc.Op) ++ [⟨0, 0, ([] : List UInt8) ++ [x]⟩], some ⟨g, 0, none⟩, _, _, by simp, by simp, by omega, by simpa [bytesV, Addr.add] using hcut, hdone.1, hlast', by simp; omega, HG⟩
                  case measure => simp [lenOf]
              · have hkp : 0 < out.length := List.length_pos_iff.2 hou
                have hol0 : ((out.length : Int) == 0) = false := by simp; omega
                obtain ⟨g0, cap0, hv0, _, _⟩ := st.own.form hkp
                injection hv0 with hv1 hv2 hv3
                subst hv1 hv3
                obtain ⟨l0, hl0, hcL⟩ : ∃ l0 : Int, 0 < l0 ∧ wo.cell? ⟨g0, (out.length - 1) * 3 + 1, none⟩ = some (.int .i64 l0) := by
                  obtain ⟨cs, ⟨A', c', rfl, _⟩, hu⟩ := st.ops.at_ OpO.len (out.length - 1) (by omega)
                  exact ⟨_, hcl _ (by rw [List.getLast?_eq_getElem?]; exact List.getElem?_eq_getElem (by omega)), (st.own.cellAt _ (by omega)).trans (hu 1 _ rfl)⟩
                have HAO := Lib.hid (show Dc.addB out x = out ++ [⟨0, 0, ([] : List UInt8) ++ [x]⟩] from by
                  unfold Dc.addB
                  rw [List.getLast?_eq_getElem?, List.getElem?_eq_getElem (by omega)]
                  simp only
                  rw [if_pos (hcl _ (by rw [List.getLast?_eq_getElem?]; exact List.getElem?_eq_getElem (by omega)))]
                  rfl)
                clear hcl hou
                go_wp2_with (first
                  | (go_at_call 24; refine (longest_any _ A1 _ c1 ct _ base (x :: t') h1c hstc hb3 (by simp; omega)).mono ?_; rintro e w' ⟨rfl, nd, rfl⟩)
                  | (at_builtin; refine wpList_appN _ rfl (.tmp 59) (.tmp 61) 24 rfl w.heap.size 37 i1 _ 3 40 Try.underlying24 hi1 hy0 hy1 hy2 rfl (by decide) (some ⟨g0, 0, none⟩) _ co xs rfl ((st.drewN _).own.alloc _) _ _ 1 _ [.int .i64 0, .int .i64 0, .slice none 0 0] rfl rfl (SV.lit _ _ _) ?xa2 ?xb2 ?xc2 ?xd2 ?_))
                case xa2 => intro u hu; simp at hu; rcases hu with rfl | rfl | rfl <;> rfl
                case xb2 => simp [maxLen]; try omega
                case xc2 => first | omega | simp
                case xd2 => simp; omega
                intro A' c' w2 hown2 hg2 _
                have st2 := EncSt.app (st.drewN nd) _ hg2 rfl hown2 (by unfold I64; omega) (by unfold I64; omega)
                obtain ⟨g, cap, hv, _, _⟩ := hown2.form (by simp)
                injection hv with hv1 hv2 hv3
                subst hv1 hv3
                have rd := Ready.fresh st2
                clear hown2 hg2 st2
                have hcD : _ = some _ := rd.cell
                have hfD := rd.fro
                have hcX := (rd.bel.cell (p := ⟨b2, o2, none⟩) hb2').trans hcx
                have hrsz := rd.hi
                go_wp2_with fail
                go_region_law
                  (first | (refine step_app1 _ rfl (.tmp 72) (.tmp 76) 22 rfl _ 5 i0 (.int .u8 0) 1 Try.underlying22 hi0 hz0 hz1 hz2 rfl _ _ _ _ rfl (rd.data.alloc _).drew _ _ (.int .u8 x.toNat) rfl (by simp [World.cell?_alloc_new]) rfl (by simp [maxLen]; try omega) (by first | omega | simp) (by simp; try omega) ?_; intro gd cap' w3 hown3 hg3; have hcS := rd.storeCell _ hg3; have hfS := rd.storeFro _ hg3))
                all_goals
                  have hdone := ((rd.alloc _).drewN 1).done hown3 hg3 (by first | omega | simp)
                  have hlast' : LastOk w _ _ _ t' := .inr ⟨_, _, _, _, _, _, hdone.2, by simp; omega⟩
                  have HG := Lib.hid (hgo2.out.trans (congrArg (fun o => Dc.encRest base o t') HAO.out))
                  have hcut := hst.cut 1 (ct = 1) (fun h => .inl (by rw [bytesV_length, List.length_cons]; omega))
                  clear hcS hfS hown3 hg3
                  go_wp2_with fail
                  go_roundw
                  case rel => exact ⟨t', (if ct = 1 then some ⟨b2, o2, none⟩ else some ⟨b2, o2 + 1, none⟩), ct - 1, out ++ [⟨0, 0, ([] : List UInt8) ++ [x]⟩], some ⟨g, 0, none⟩, _, _, by simp, by simp, by omega, by simpa [bytesV, Addr.add] using hcut, hdone.1, hlast', by simp; omega, HG⟩
                  case measure => simp [lenOf]
            · obtain ⟨g, rfl, rd0⟩ := Ready.again st op
              have eo := op.eo
              subst eo
              have HAO := Lib.hid (show Dc.addB (os ++ [⟨0, 0, d⟩]) x = os ++ [⟨0, 0, d ++ [x]⟩] from by
                unfold Dc.addB
                simp)
              have hcL : wo.cell? ⟨g, os.length * 3 + 1, none⟩ = some (.int .i64 0) := by
                rw [rd0.own.cellAt _ (by omega), ← rd0.ysl, List.getElem?_append_right (by omega)]
                simp
              have hol0 : ((os.length : Int) + 1 == 0) = false := by simp; omega
              simp only [List.length_append, List.length_cons, List.length_nil, Nat.zero_add] at hsum
              have hdl2 : d.length + (t'.length + 1) ≤ 1000 := by simpa using hdl
              clear op st
              go_wp2_with (go_at_call 24; refine (longest_any _ A1 _ c1 ct _ base (x :: t') h1c hstc hb3 (by simp; omega)).mono ?_; rintro e w' ⟨rfl, nd, rfl⟩)
              have rd := rd0.drewN nd
              clear rd0 hcL
              generalize wo.drewN nd = W at *
              have hcD : _ = some _ := rd.cell
              have hfD := rd.fro
              have hcX := (rd.bel.cell (p := ⟨b2, o2, none⟩) hb2').trans hcx
              have hgl : g < W.heap.size := World.block_lt_of_cell? W _ hcD
              have hrsz := rd.hi
              go_region_law
                (first | (refine step_app1 _ rfl (.tmp 72) (.tmp 76) 22 rfl _ 5 i0 (.int .u8 0) 1 Try.underlying22 hi0 hz0 hz1 hz2 rfl _ _ _ _ rfl (rd.data.alloc _).drew _ _ (.int .u8 x.toNat) rfl (by simp [World.cell?_alloc_new]) rfl (by simp [maxLen]; try omega) (by first | omega | simp) (by simp; try omega) ?_; intro gd cap' w3 hown3 hg3; have hcS := rd.storeCell _ hg3; have hfS := rd.storeFro _ hg3))
              all_goals
                have hdone := ((rd.alloc _).drewN 1).done hown3 hg3 (by first | omega | simp)
                have hlast' : LastOk w _ _ _ t' := .inr ⟨_, _, _, _, _, _, hdone.2, by simp; omega⟩
                have HG := Lib.hid (hgo2.out.trans (congrArg (fun o => Dc.encRest base o t') HAO.out))
                have hcut := hst.cut 1 (ct = 1) (fun h => .inl (by rw [bytesV_length, List.length_cons]; omega))
                clear hcS hfS hown3 hg3
                go_wp2_with fail
                go_roundw
                case rel => exact ⟨t', (if ct = 1 then some ⟨b2, o2, none⟩ else some ⟨b2, o2 + 1, none⟩), ct - 1, os ++ [⟨0, 0, d ++ [x]⟩], some ⟨g, 0, none⟩, _, _, by simp, by simp, by omega, by simpa [bytesV, Addr.add] using hcut, hdone.1, hlast', by simp; omega, HG⟩
                case measure => simp [lenOf]
theorem encode_any (h1 : SV w w.heap.size A1 (bytesV base)) (h2 : SV w w.heap.size A2 (bytesV target)) (hc2 : target.length ≤ c2) (hb : base.length ≤ 9223372036854775807) (ht : target.length ≤ 9223372036854775807) :
    Calls Try.prog 11 #[.slice A1 base.length c1, .slice A2 target.length c2] w (EncPost w (encF base target)) :=
  (encode_fresh w A1 A2 c1 c2 base target h1 h2 hc2 hb ht).mono fun e w' ⟨v, he, ho, hb⟩ => ⟨v, he, ho.toV, hb⟩
end
end Go.Proofs.Ytiphcpibhffdjaa
