/-
  References: walk of 'Update'.
  References: walk of 'Batch'.
  References: walk of 'Get'.
  Logs: walk of 'states'.
  Logs: walks of 'Replay', 'At', 'Expire'.
-/
import Derived.Test.YtipjejnncnndeaaGreatDoorG12
import Derived.Test.YtipjejnncnndeaaGreatDoorG06
namespace Rf
/-- What 'Update' answers. -/
def upF (s : List R) (u : U) : List R × (Int × Int) := if (rfF s).1 ≠ 0 then ([], rfF s) else if upC s u ≠ 0 then ([], (upC s u, -1)) else (upS s u, (0, 0))
end Rf
namespace Go.Proofs.YtipjejnncnndeaaGreatDoor.RF
open Go.RowKit Go.V Go.Shelf Go.Lib
set_option linter.unusedVariables false

theorem results_26_30 {fn : Func} {a b : Tmp} (h : fn.results = #[.cell a 27, .cell b 33]) (tmps : Array Value) (w : World) (g g' : Nat) (x c i : Value) (ha : tmps.getD a undef = .pointer (some ⟨g, 0, none⟩)) (hb' : tmps.getD b undef = .pointer (some ⟨g', 0, none⟩))
    (hb : Blk w g 27 #[x]) (hc : Blk w g' 33 #[c, i]) : (results fn tmps).run Tryz.prog w = .ok (.tuple #[.agg #[x], .agg #[c, i]]) w := by
  have h0 := hb.cell 0
  have k0 := hc.cell 0
  have k1 := hc.cell 1
  simp only [List.getElem?_toArray, List.getElem?_cons_zero, List.getElem?_cons_succ] at h0 k0 k1
  have ha' : tmps[a]?.getD undef = .pointer (some ⟨g, 0, none⟩) := by simpa using ha
  have hb'' : tmps[b]?.getD undef = .pointer (some ⟨g', 0, none⟩) := by simpa using hb'
  simp [results, h, go_sem, ha', hb'', h0, k0, k1]
theorem put12 {w1 : World} {g1 g2 : Nat} {t1 t2 : TypeId} {a d e : Value} (h1 : Blk w1 g1 t1 #[a]) (h2 : Blk w1 g2 t2 #[d, e]) (hne : g1 ≠ g2) (x u v : Value) :
    Blk (((w1.setCell ⟨g1, 0, none⟩ x).setCell ⟨g2, 0, none⟩ u).setCell ⟨g2, 1, none⟩ v) g1 t1 #[x] ∧
    Blk (((w1.setCell ⟨g1, 0, none⟩ x).setCell ⟨g2, 0, none⟩ u).setCell ⟨g2, 1, none⟩ v) g2 t2 #[u, v] ∧
    ∀ (B : Nat) (w0 : World), B ≤ g1 → B ≤ g2 → Below B w0 w1 → Below B w0 (((w1.setCell ⟨g1, 0, none⟩ x).setCell ⟨g2, 0, none⟩ u).setCell ⟨g2, 1, none⟩ v) :=
  ⟨((by simpa using h1.set_ 0 x : Blk (w1.setCell ⟨g1, 0, none⟩ x) g1 t1 #[x]).far (p := ⟨g2, 0, none⟩) hne u).far (p := ⟨g2, 1, none⟩) hne v,
   blk_put2 (h2.far (p := ⟨g1, 0, none⟩) (Ne.symm hne) x) u v,
   fun B w0 h3 h4 hb => ((hb.setCell (p := ⟨g1, 0, none⟩) h3 _).setCell (p := ⟨g2, 0, none⟩) h4 _).setCell (p := ⟨g2, 1, none⟩) h4 _⟩
/-- The state of 'Update' and 'Batch': the boxes and the results. -/
structure PtSt (w wr : World) (A : Option Addr) (n k : Nat) (ot : TypeId) (ov : Array Value) : Prop where
  bx : Blk wr w.heap.size 27 #[.slice A n k]
  bo : Blk wr (w.heap.size + 1) ot ov
  r1 : Blk wr (w.heap.size + 2) 27 #[.slice none 0 0]
  r2 : Blk wr (w.heap.size + 3) 33 #[.int .i64 0, .int .i64 0]
  bel : Below w.heap.size w wr
section
variable {w wr w' : World} {A : Option Addr} {n k : Nat} {ot : TypeId} {ov : Array Value}
theorem PtSt.below (h : PtSt w wr A n k ot ov) (hb : Below wr.heap.size wr w') : PtSt w w' A n k ot ov :=
  ⟨h.bx.below hb h.bx.lt, h.bo.below hb h.bo.lt, h.r1.below hb h.r1.lt, h.r2.below hb h.r2.lt, h.bel.trans (hb.mono h.bel.size)⟩
theorem PtSt.touch (h : PtSt w wr A n k ot ov) {g : Nat} {row : Option Nat} (ht : TouchS wr w' g row) (hg : w.heap.size + 4 ≤ g) (hr : ∀ b, row = some b → w.heap.size + 4 ≤ b) : PtSt w w' A n k ot ov := by
  have hl := h.r2.lt
  exact ⟨h.bx.touchS ht (by omega) (fun e => by have := hr _ e.symm; omega), h.bo.touchS ht (by omega) (fun e => by have := hr _ e.symm; omega), h.r1.touchS ht (by omega) (fun e => by have := hr _ e.symm; omega), h.r2.touchS ht (by omega) (fun e => by have := hr _ e.symm; omega),
    h.bel.trans (ht.below (by omega) (by omega) (fun k hk => by have := hr k hk; omega))⟩
theorem PtSt.facts (h : PtSt w wr A n k ot ov) : wr.cell? ⟨w.heap.size, 0, none⟩ = some (.slice A n k) ∧ wr.cell? ⟨w.heap.size + 2, 0, none⟩ = some (.slice none 0 0) ∧ wr.frozen? ⟨w.heap.size + 2, 0, none⟩ = false ∧
    wr.cell? ⟨w.heap.size + 3, 0, none⟩ = some (.int .i64 0) ∧ wr.cell? ⟨w.heap.size + 3, 1, none⟩ = some (.int .i64 0) ∧ wr.frozen? ⟨w.heap.size + 3, 0, none⟩ = false ∧ wr.frozen? ⟨w.heap.size + 3, 1, none⟩ = false ∧
    w.heap.size < wr.heap.size ∧ w.heap.size + 1 < wr.heap.size ∧ w.heap.size + 2 < wr.heap.size ∧ w.heap.size + 3 < wr.heap.size :=
  ⟨(h.bx.cell 0).trans rfl, (h.r1.cell 0).trans rfl, h.r1.frozen 0, (h.r2.cell 0).trans rfl, (h.r2.cell 1).trans rfl, h.r2.frozen 0, h.r2.frozen 1, h.bx.lt, h.bo.lt, h.r1.lt, h.r2.lt⟩
end
theorem Mx.fun_ {w : World} (h : Mx w) : ∀ w', Below w.heap.size w w' → Mx w' := fun w' hb => h.below hb
theorem blk_new1 (w : World) (o : Obj) (t : TypeId) (cs : Array Value) : Blk ((w.alloc o).alloc (.cells cs t)) (w.heap.size + 1) t cs := by simpa using Blk.new (w.alloc o) t cs
theorem blk_new2 (w : World) (o o2 : Obj) (t : TypeId) (cs : Array Value) : Blk (((w.alloc o).alloc o2).alloc (.cells cs t)) (w.heap.size + 2) t cs := by simpa using Blk.new ((w.alloc o).alloc o2) t cs
theorem blk_new3 (w : World) (o o2 o3 : Obj) (t : TypeId) (cs : Array Value) : Blk ((((w.alloc o).alloc o2).alloc o3).alloc (.cells cs t)) (w.heap.size + 3) t cs := by simpa using Blk.new (((w.alloc o).alloc o2).alloc o3) t cs
/-- A set and a fault. -/
def UpPost (w : World) (r : List Rf.R × (Int × Int)) (e : Ending) (w' : World) : Prop := ∃ A c, e = .returned (.tuple #[.agg #[.slice A r.1.length c], .agg #[.int .i64 r.2.1, .int .i64 r.2.2]]) ∧ r.1.length ≤ c ∧ SA w' (Under w.heap.size) A (rsV r.1) ∧ Below w.heap.size w w'
theorem UpPost.no {w w' : World} {r : List Rf.R × (Int × Int)} {c i : Int} (h : r = ([], (c, i))) (hb : Below w.heap.size w w') : UpPost w r (.returned (.tuple #[.agg #[.slice none 0 0], .agg #[.int .i64 c, .int .i64 i]])) w' := by
  subst h; exact ⟨none, 0, rfl, Nat.le_refl _, SA.nil, hb⟩
end Go.Proofs.YtipjejnncnndeaaGreatDoor.RF
namespace Rf
/-- What 'Batch' answers. -/
def btF (s : List R) (l : List U) : List R × (Int × Int) := if (rfF s).1 ≠ 0 then ([], rfF s) else if 30 < l.length then ([], (2, -2)) else batF s l 0
theorem batF_end (s : List R) (l : List U) (i k : Nat) (h : l.length ≤ i) : batF s (l.drop i) k = (s, (0, 0)) := by rw [List.drop_eq_nil_of_le h]; rfl
theorem batF_bad (s : List R) (l : List U) (i : Nat) (h : i < l.length) (hc : upC s l[i] ≠ 0) : batF s (l.drop i) i = ([], (upC s l[i], (i : Int))) := by
  rw [List.drop_eq_getElem_cons h, batF, if_pos hc]
theorem batF_next (s : List R) (l : List U) (i : Nat) (h : i < l.length) (hc : upC s l[i] = 0) : batF s (l.drop i) i = batF (upS s l[i]) (l.drop (i + 1)) (i + 1) := by
  rw [List.drop_eq_getElem_cons h, batF, if_neg (by omega)]
end Rf
namespace Go.Proofs.YtipjejnncnndeaaGreatDoor.RF
open Go.RowKit Go.V Go.Shelf Go.Lib
set_option linter.unusedVariables false

/-- The state of 'Batch': the box and the results. -/
structure BtSt (w wr : World) (A : Option Addr) (n k : Nat) : Prop where
  bx : Blk wr w.heap.size 27 #[.slice A n k]
  r1 : Blk wr (w.heap.size + 1) 27 #[.slice none 0 0]
  r2 : Blk wr (w.heap.size + 2) 33 #[.int .i64 0, .int .i64 0]
  bel : Below w.heap.size w wr
section
variable {w wr w' : World} {A : Option Addr} {n k : Nat}
theorem BtSt.below (h : BtSt w wr A n k) (hb : Below wr.heap.size wr w') : BtSt w w' A n k :=
  ⟨h.bx.below hb h.bx.lt, h.r1.below hb h.r1.lt, h.r2.below hb h.r2.lt, h.bel.trans (hb.mono h.bel.size)⟩
theorem BtSt.touch (h : BtSt w wr A n k) {g : Nat} {row : Option Nat} (ht : TouchS wr w' g row) (hg : w.heap.size + 3 ≤ g) (hr : ∀ b, row = some b → w.heap.size + 3 ≤ b) : BtSt w w' A n k := by
  have hl := h.r2.lt
  exact ⟨h.bx.touchS ht (by omega) (fun e => by have := hr _ e.symm; omega), h.r1.touchS ht (by omega) (fun e => by have := hr _ e.symm; omega), h.r2.touchS ht (by omega) (fun e => by have := hr _ e.symm; omega),
    h.bel.trans (ht.below (by omega) (by omega) (fun k hk => by have := hr k hk; omega))⟩
theorem BtSt.facts (h : BtSt w wr A n k) : wr.cell? ⟨w.heap.size, 0, none⟩ = some (.slice A n k) ∧ wr.cell? ⟨w.heap.size + 1, 0, none⟩ = some (.slice none 0 0) ∧ wr.frozen? ⟨w.heap.size + 1, 0, none⟩ = false ∧
    wr.cell? ⟨w.heap.size + 2, 0, none⟩ = some (.int .i64 0) ∧ wr.cell? ⟨w.heap.size + 2, 1, none⟩ = some (.int .i64 0) ∧ wr.frozen? ⟨w.heap.size + 2, 0, none⟩ = false ∧ wr.frozen? ⟨w.heap.size + 2, 1, none⟩ = false ∧
    w.heap.size < wr.heap.size ∧ w.heap.size + 1 < wr.heap.size ∧ w.heap.size + 2 < wr.heap.size :=
  ⟨(h.bx.cell 0).trans rfl, (h.r1.cell 0).trans rfl, h.r1.frozen 0, (h.r2.cell 0).trans rfl, (h.r2.cell 1).trans rfl, h.r2.frozen 0, h.r2.frozen 1, h.bx.lt, h.r1.lt, h.r2.lt⟩
end
end Go.Proofs.YtipjejnncnndeaaGreatDoor.RF
namespace Rf
/-- What 'Get' answers. -/
def getF (s : List R) (n : Nm) : Int × (Int × Int) := if (rfF s).1 ≠ 0 then (0, rfF s) else if nameOk n = false then (0, (12, -1)) else if fnd s n = false then (0, (6, -1)) else ((it s (lb s n)).tgt, (0, 0))
/-- The references whose names begin so. -/
def pre (s : List R) (p : Nm) : List R := s.filter fun x => Go.Lib.hasPrefix x.name p
/-- What 'List' answers. -/
def lsF (s : List R) (p : Nm) : List R × (Int × Int) := if (rfF s).1 ≠ 0 then ([], rfF s) else (pre s p, (0, 0))
end Rf
namespace Go.Proofs.YtipjejnncnndeaaGreatDoor.RF
open Go.RowKit Go.V Go.Shelf Go.Lib
set_option linter.unusedVariables false

theorem results_tc30 {fn : Func} {s a : Tmp} (h : fn.results = #[.tmp s, .cell a 33]) (tmps : Array Value) (w : World) (g : Nat) (x y v : Value) (hv : tmps.getD s undef = v) (ha : tmps.getD a undef = .pointer (some ⟨g, 0, none⟩)) (hb : Blk w g 33 #[x, y]) :
    (results fn tmps).run Tryz.prog w = .ok (.tuple #[v, .agg #[x, y]]) w := by
  have h0 := hb.cell 0
  have h1 := hb.cell 1
  simp only [List.getElem?_toArray, List.getElem?_cons_zero, List.getElem?_cons_succ] at h0 h1
  have ha' : tmps[a]?.getD undef = .pointer (some ⟨g, 0, none⟩) := by simpa using ha
  have hv' : tmps[s]?.getD undef = v := by simpa using hv
  simp [results, h, go_sem, ha', hv', h0, h1]
/-- A box and a fault that is left. -/
structure GtSt (w wr : World) (A : Option Addr) (n k : Nat) : Prop where
  bx : Blk wr w.heap.size 27 #[.slice A n k]
  r2 : Blk wr (w.heap.size + 1) 33 #[.int .i64 0, .int .i64 0]
  bel : Below w.heap.size w wr
section
variable {w wr w' : World} {A : Option Addr} {n k : Nat}
theorem GtSt.below (h : GtSt w wr A n k) (hb : Below wr.heap.size wr w') : GtSt w w' A n k :=
  ⟨h.bx.below hb h.bx.lt, h.r2.below hb h.r2.lt, h.bel.trans (hb.mono h.bel.size)⟩
theorem GtSt.facts (h : GtSt w wr A n k) : wr.cell? ⟨w.heap.size, 0, none⟩ = some (.slice A n k) ∧
    wr.cell? ⟨w.heap.size + 1, 0, none⟩ = some (.int .i64 0) ∧ wr.cell? ⟨w.heap.size + 1, 1, none⟩ = some (.int .i64 0) ∧ wr.frozen? ⟨w.heap.size + 1, 0, none⟩ = false ∧ wr.frozen? ⟨w.heap.size + 1, 1, none⟩ = false ∧
    w.heap.size < wr.heap.size ∧ w.heap.size + 1 < wr.heap.size :=
  ⟨(h.bx.cell 0).trans rfl, (h.r2.cell 0).trans rfl, (h.r2.cell 1).trans rfl, h.r2.frozen 0, h.r2.frozen 1, h.bx.lt, h.r2.lt⟩
theorem GtSt.put (h : GtSt w wr A n k) (u v : Value) : Blk ((wr.setCell ⟨w.heap.size + 1, 0, none⟩ u).setCell ⟨w.heap.size + 1, 1, none⟩ v) (w.heap.size + 1) 33 #[u, v] ∧ Below w.heap.size w ((wr.setCell ⟨w.heap.size + 1, 0, none⟩ u).setCell ⟨w.heap.size + 1, 1, none⟩ v) :=
  ⟨blk_put2 h.r2 u v, (h.bel.setCell (p := ⟨w.heap.size + 1, 0, none⟩) (Nat.le_succ _) u).setCell (p := ⟨w.heap.size + 1, 1, none⟩) (Nat.le_succ _) v⟩
end
/-- A target and a fault. -/
def GtPost (w : World) (r : Int × (Int × Int)) (e : Ending) (w' : World) : Prop := e = .returned (.tuple #[.int .i64 r.1, .agg #[.int .i64 r.2.1, .int .i64 r.2.2]]) ∧ Below w.heap.size w w'
theorem GtPost.mk_ {w w' : World} {r : Int × (Int × Int)} {a b c : Int} (h : r = (a, (b, c))) (hb : Below w.heap.size w w') : GtPost w r (.returned (.tuple #[.int .i64 a, .agg #[.int .i64 b, .int .i64 c]])) w' := by
  subst h; exact ⟨rfl, hb⟩
/-- A row and a fault. -/
def LsPost (w : World) (r : List Rf.R × (Int × Int)) (e : Ending) (w' : World) : Prop := ∃ A c, e = .returned (.tuple #[.slice A r.1.length c, .agg #[.int .i64 r.2.1, .int .i64 r.2.2]]) ∧ r.1.length ≤ c ∧ SA w' (Under w.heap.size) A (rsV r.1) ∧ Below w.heap.size w w'
theorem LsPost.mk_ {w w' : World} {r : List Rf.R × (Int × Int)} {A : Option Addr} {c : Nat} {l : List Rf.R} {a b : Int} (h : r = (l, (a, b))) (hc : l.length ≤ c) (hs : SA w' (Under w.heap.size) A (rsV l)) (hb : Below w.heap.size w w') : LsPost w r (.returned (.tuple #[.slice A l.length c, .agg #[.int .i64 a, .int .i64 b]])) w' := by
  subst h; exact ⟨A, c, rfl, hc, hs, hb⟩
end Go.Proofs.YtipjejnncnndeaaGreatDoor.RF
namespace Rf
/-- The states behind the first entries, from none up to i. -/
def stl (b : List R) (l : List E) (i : Nat) : List (List R) := (List.range (i + 1)).map (stAt b l)
theorem stl_len (b : List R) (l : List E) (i : Nat) : (stl b l i).length = i + 1 := by simp [stl]
theorem stl_get (b : List R) (l : List E) (i j : Nat) (h : j < (stl b l i).length) : (stl b l i)[j] = stAt b l j := by simp [stl]
theorem stl_zero (b : List R) (l : List E) : stl b l 0 = [b] := by simp [stl, stAt_zero]
theorem stl_succ (b : List R) (l : List E) (i : Nat) : stl b l (i + 1) = stl b l i ++ [stAt b l (i + 1)] := by
  unfold stl; rw [List.range_succ, List.map_append]; rfl
/-- What the loop of 'states' keeps. -/
structure Sg (b : List R) (l : List E) (r : Int × Int) (i : Nat) (t : Int) (s : List R) : Prop where
  st : s = stAt b l i
  ok : Ok s
  ap : app b ((l.take i).map E.upd) = some s
  rs : r = lgFrom s t (l.drop i) i
theorem Sg.start {b : List R} {l : List E} (h : Ok b) : Sg b l (lgFrom b 0 l 0) 0 0 b := ⟨(stAt_zero b l).symm, h, by simp [app], by simp⟩
theorem Sg.tm {b : List R} {l : List E} {r : Int × Int} {i : Nat} {t : Int} {s : List R} (h : Sg b l r i t s) (hi : i < l.length) (ht : l[i].time < t ∨ 100000 < l[i].time) : r = (3, (i : Int)) := by
  rw [h.rs, List.drop_eq_getElem_cons hi, lgFrom, if_pos ht]
theorem Sg.bad {b : List R} {l : List E} {r : Int × Int} {i : Nat} {t : Int} {s : List R} (h : Sg b l r i t s) (hi : i < l.length) (ht : ¬ (l[i].time < t ∨ 100000 < l[i].time)) (hc : upC s l[i].upd ≠ 0) : r = (upC s l[i].upd, (i : Int)) := by
  rw [h.rs, List.drop_eq_getElem_cons hi, lgFrom, if_neg ht, if_pos hc]
theorem Sg.next {b : List R} {l : List E} {r : Int × Int} {i : Nat} {t : Int} {s : List R} (h : Sg b l r i t s) (hi : i < l.length) (ht : ¬ (l[i].time < t ∨ 100000 < l[i].time)) (hc : upC s l[i].upd = 0) :
    Sg b l r (i + 1) l[i].time (upS s l[i].upd) := by
  have ha : app b ((l.take (i + 1)).map E.upd) = some (upS s l[i].upd) := by
    rw [List.take_succ_eq_append_getElem hi, List.map_append, app_append, h.ap, Option.bind_some, List.map_singleton, app, if_pos hc, app]
  refine ⟨by unfold stAt; rw [ha]; rfl, h.ok.up (upC_ok.1 hc), ha, ?_⟩
  rw [h.rs, List.drop_eq_getElem_cons hi, lgFrom, if_neg ht, if_neg (by omega)]
theorem Sg.end_ {b : List R} {l : List E} {r : Int × Int} {t : Int} {s : List R} (h : Sg b l r l.length t s) : r = (0, 0) := by
  rw [h.rs, List.drop_length]; rfl
end Rf
namespace Go.V
open Go.RowKit
/-- Rows of references: each slice of vs holds its set, out of X. -/
def StRow (w : World) (X : Nat → Prop) (l : List (List Rf.R)) (vs : List Value) : Prop := vs.length = l.length ∧ ∀ i (h : i < l.length), ∃ A c, vs[i]? = some (.slice A (l[i]).length c) ∧ (l[i]).length ≤ c ∧ SA w X A (Go.Proofs.YtipjejnncnndeaaGreatDoor.RF.rsV l[i])
section
variable {w w' : World} {X X' : Nat → Prop} {l : List (List Rf.R)} {vs : List Value}
theorem StRow.keep (h : StRow w X l vs) (k : Keeps w X w' X') : StRow w' X' l vs := ⟨h.1, fun i hi => by
  obtain ⟨A, c, h1, hc, h2⟩ := h.2 i hi
  exact ⟨A, c, h1, hc, h2.keep k⟩⟩
theorem StRow.snoc {s : List Rf.R} {A : Option Addr} {c : Nat} (h : StRow w X l vs) (hc : s.length ≤ c) (hs : SA w X A (Go.Proofs.YtipjejnncnndeaaGreatDoor.RF.rsV s)) : StRow w X (l ++ [s]) (vs ++ [.slice A s.length c]) := by
  obtain ⟨h1, h2⟩ := h
  refine ⟨by simp [h1], fun i hi => ?_⟩
  by_cases hlt : i < l.length
  · obtain ⟨A', c', k1, k2⟩ := h2 i hlt
    refine ⟨A', c', ?_, ?_⟩
    · rw [List.getElem?_append_left (by omega), List.getElem_append_left hlt]; exact k1
    · rw [List.getElem_append_left hlt]; exact k2
  · have e : i = l.length := by simp at hi; omega
    subst e
    refine ⟨A, c, ?_, ?_, ?_⟩
    · have e1 : (l ++ [s])[l.length] = s := by simp
      rw [e1, List.getElem?_append_right (by omega), h1, Nat.sub_self]; rfl
    · simpa using hc
    · simpa using hs
theorem StRow.one {s : List Rf.R} {A : Option Addr} {c : Nat} (hc : s.length ≤ c) (hs : SA w X A (Go.Proofs.YtipjejnncnndeaaGreatDoor.RF.rsV s)) : StRow w X [s] [.slice A s.length c] := by
  have h : StRow w X [] [] := ⟨rfl, fun i hi => absurd hi (by simp)⟩
  simpa using h.snoc hc hs
end
/-- A block is written, and those below. -/
def Lo (n g : Nat) : Nat → Prop := fun b => b < n ∨ b = g
end Go.V
namespace Go.Proofs.YtipjejnncnndeaaGreatDoor.RF
open Go.RowKit Go.V Go.Shelf Go.Lib
set_option linter.unusedVariables false

structure SsSt (w wr : World) (g base : Nat) (Av : Option Addr) (cv : Nat) (s : List Rf.R) (As : Option Addr) (cs : Nat) (sl : List (List Rf.R)) (vs : List Value) : Prop where
  r2 : Blk wr (w.heap.size + 1) 33 #[.int .i64 0, .int .i64 0]
  rs : RSt wr g base Av cv s
  own : wr.ownsRow (g + 1) 27 1 (.slice As sl.length cs) sl.length vs
  row : StRow wr (Or2 (Lo (w.heap.size + 2) g) (.slice Av s.length cv) (.slice As sl.length cs)) sl vs
  bel : Below w.heap.size w wr
  ord : w.heap.size + 2 ≤ base ∧ base ≤ g
  pos : 0 < sl.length
section
variable {w wr w' : World} {g base : Nat} {Av : Option Addr} {cv : Nat} {s : List Rf.R} {As : Option Addr} {cs : Nat} {sl : List (List Rf.R)} {vs : List Value}
theorem ownBlock_lt {w : World} {base size n : Nat} {e : TypeId} {v : Value} {xs : List Value} (h : w.ownsRow base e size v n xs) (b : Nat) (hb : v.ownBlock = some b) : base ≤ b ∧ b < w.heap.size := h.lt b hb
theorem SsSt.below (h : SsSt w wr g base Av cv s As cs sl vs) (hb : Below wr.heap.size wr w') : SsSt w w' g base Av cv s As cs sl vs :=
  ⟨h.r2.below hb h.r2.lt, h.rs.below hb, own_below h.own hb, h.row.keep (Keeps.below hb fun _ _ h => h), h.bel.trans (hb.mono h.bel.size), h.ord, h.pos⟩
theorem SsSt.ublk (h : SsSt w wr g base Av cv s As cs sl vs) : ∃ gu cur, (Value.slice As sl.length cs).ownBlock = some gu ∧ Blk wr gu 27 cur ∧ g + 1 ≤ gu ∧ some gu ≠ (Value.slice Av s.length cv).ownBlock := by
  obtain ⟨gu, cur, e, _, hg, hb, _⟩ := own_blk h.own h.pos
  subst e
  exact ⟨gu, cur, rfl, hb, hg, own_blk_ne h.rs.own hb hne51⟩
theorem SsSt.step (h : SsSt w wr g base Av cv s As cs sl vs) {Aw : Option Addr} {cw : Nat} {t : List Rf.R} (ht : TouchS wr w' g (Value.slice Av s.length cv).ownBlock) (hr : RSt w' g base Aw cw t) (hf : Fresh wr (.slice Av s.length cv) (.slice Aw t.length cw)) : SsSt w w' g base Aw cw t As cs sl vs := by
  obtain ⟨o1, o2⟩ := h.ord
  obtain ⟨gu, cur, e1, hu, hgu, hne⟩ := h.ublk
  have hv : ∀ b, (Value.slice Av s.length cv).ownBlock = some b → base ≤ b := fun b hb => (h.rs.own.lt b hb).1
  refine ⟨h.r2.touchS ht (by omega) (fun e => by have := hv _ e.symm; omega), hr, ?_, ?_, ?_, h.ord, h.pos⟩
  · obtain ⟨gu', cur', e, _, hg', hb', hc', hm', hs', hx'⟩ := own_blk h.own h.pos
    subst e
    exact own_of_blk (hb'.touchS ht (by omega) (by
      have : gu = gu' := by simpa [Value.ownBlock] using e1.symm
      rw [← this]; exact hne)) hg' hc' hm' hs' hx'
  · refine h.row.keep ⟨ht.size, fun b hb hx => ht.block b hb (fun e => hx (.inl (.inr e))) (fun e => hx (.inr (.inl e.symm))), fun b hb hx hx' => ?_⟩
    rcases hx' with hx' | hx' | hx'
    · exact hx (.inl hx')
    · rcases hf b hx' with h1 | h1
      · exact hx (.inr (.inl h1))
      · omega
    · exact hx (.inr (.inr hx'))
  · exact h.bel.trans (ht.below h.bel.size (by omega) (fun k hk => by have := hv k hk; omega))
theorem SsSt.app (h : SsSt w wr g base Av cv s As cs sl vs) {As2 : Option Addr} {cs2 : Nat} {t : List Rf.R} {At : Option Addr} {ct : Nat} (hg : wr.grownBy w' (Value.slice As sl.length cs).ownBlock)
    (hb : (Value.slice As2 (sl.length + 1) cs2).ownBlock = (Value.slice As sl.length cs).ownBlock ∨ (Value.slice As2 (sl.length + 1) cs2).ownBlock = some wr.heap.size)
    (ho : w'.ownsRow (g + 1) 27 1 (.slice As2 (sl.length + 1) cs2) (sl.length + 1) (vs ++ [.slice At t.length ct]))
    (hct : t.length ≤ ct) (ha : SA wr (Or2 (Lo (w.heap.size + 2) g) (.slice Av s.length cv) (.slice As sl.length cs)) At (rsV t)) : SsSt w w' g base Av cv s As2 cs2 (sl ++ [t]) (vs ++ [.slice At t.length ct]) := by
  obtain ⟨o1, o2⟩ := h.ord
  obtain ⟨gu, cur, e1, hu, hgu, hne⟩ := h.ublk
  have hl : (sl ++ [t]).length = sl.length + 1 := by simp
  have hG : g ≠ gu := by omega
  rw [e1] at hg hb
  refine ⟨h.r2.grown hg (fun e => by injection e with e; omega), ⟨h.rs.blk.grown hg (fun e => by injection e with e; omega), h.rs.own.kept hg (.inr fun e => hne e.symm), Nat.le_trans h.rs.hi hg.size⟩, by rw [hl]; exact ho, ?_, h.bel.grown hg h.bel.size (fun b e => by injection e with e; omega), h.ord, by omega⟩
  rw [hl]
  refine (h.row.snoc hct ha).keep (Keeps.or2b (u := .slice As sl.length cs) (by rw [e1]; exact hg) rfl (by rw [e1]; exact hb))
end
/-- What 'states' leaves. -/
def SsPost (w : World) (b : List Rf.R) (l : List Rf.E) (e : Ending) (w' : World) : Prop :=
  ((Rf.lgF b l).1 ≠ 0 ∧ e = .returned (.tuple #[.slice none 0 0, .agg #[.int .i64 (Rf.lgF b l).1, .int .i64 (Rf.lgF b l).2]]) ∧ Below w.heap.size w w') ∨
  (Rf.LOk b l ∧ ∃ A c vs, e = .returned (.tuple #[.slice A (l.length + 1) c, .agg #[.int .i64 0, .int .i64 0]]) ∧ SA w' (Under w.heap.size) A vs ∧ StRow w' (Under w.heap.size) (Rf.stl b l l.length) vs ∧ Below w.heap.size w w')
theorem info26 : (Tryz.prog.info? 27).map (fun i => (i.zero, i.size, i.bytes)) = some (some (.agg #[.slice none 0 0]), 1, 24) := by kernel_rfl
set_option maxRecDepth 100000 in
set_option maxHeartbeats 64000000 in
theorem states_any (w : World) (hm : Mx w) (A : Option Addr) (k : Nat) (s : List Rf.R) (hv : SA w Free A (rsV s)) (hl64 : s.length ≤ 9223372036854775807) (hk : s.length ≤ k)
    (A2 : Option Addr) (k2 : Nat) (l : List Rf.E) (hv2 : SA w Free A2 (esV l)) :
    Calls Tryz.prog 14 #[.agg #[.slice A s.length k], .slice A2 l.length k2] w (SsPost w s l) := by
  obtain ⟨i0, hi0, hz0, hz1, hz2⟩ := info_parts info26
  have HV := Lib.hid (fun (w1 : World) (hb : Below w.heap.size w w1) => hv.keep (free_below hb))
  have HV2 := Lib.hid (fun (w1 : World) (hb : Below w.heap.size w w1) => hv2.keep (free_below hb))
  have HM := Lib.hid hm.fun_
  have HPF := Lib.hid (Rf.lgF.eq_1 s l)
  have HOKL := Lib.hid (fun h => (Rf.lgF_ok (b := s) (l := l) h).2)
  have HC := Lib.hid (fun (w1 : World) (hb : Below w.heap.size w w1) => validate_any w1 (HM.out _ hb) A k s (HV.out _ hb) hl64 hk)
  have HNO : Hid (∀ c i w', Rf.lgF s l = (c, i) → c ≠ 0 → Below w.heap.size w w' → SsPost w s l (.returned (.tuple #[.slice none 0 0, .agg #[.int .i64 c, .int .i64 i]])) w') := Lib.hid fun c i w' h1 h2 h3 => .inl ⟨by rw [h1]; exact h2, by rw [h1], h3⟩
  have HYES : Hid (∀ A c vs w', Rf.lgF s l = (0, 0) → SA w' (Under w.heap.size) A vs → StRow w' (Under w.heap.size) (Rf.stl s l l.length) vs → Below w.heap.size w w' → SsPost w s l (.returned (.tuple #[.slice A (l.length + 1) c, .agg #[.int .i64 0, .int .i64 0]])) w') :=
    Lib.hid fun A c vs w' h1 h2 h3 h4 => .inr ⟨HOKL.out (by rw [h1]), A, c, vs, rfl, h2, h3, h4⟩
  clear hv hm hv2 HOKL
  generalize SsPost w s l = R at *
  generalize hr : Rf.lgF s l = r at *
  clear hr
  have st0 : GtSt w ((w.alloc (.cells #[.slice A s.length k] 27)).alloc (.cells #[.int .i64 0, .int .i64 0] 33)) A s.length k :=
    ⟨(Blk.new _ _ _).alloc _, blk_new1 _ _ _ _, below_alloc2 _ _ _⟩
  have hsz0 : ((w.alloc (.cells #[.slice A s.length k] 27)).alloc (.cells #[.int .i64 0, .int .i64 0] 33)).heap.size = w.heap.size + 2 := by simp
  go_enter Tryz.func14, Tryz.ntmps14
  go_wp2_with fail
  go_at_call 15
  refine (HC.out _ st0.bel).mono ?_
  rintro e w1 ⟨rfl, hb1⟩
  have st1 := st0.below hb1
  have hsz1 : w.heap.size + 2 ≤ w1.heap.size := by have := hb1.size; omega
  obtain ⟨p0, p1, p2, p3, p4, l0, l1⟩ := st1.facts
  clear hb1 HC st0 hsz0
  by_cases hbad : (Rf.rfF s).1 ≠ 0
  · have H := Lib.hid (show r = ((Rf.rfF s).1, -2) from by rw [HPF.out, if_pos hbad])
    have hb1 : ((Rf.rfF s).1 == 0) = false := by simpa using hbad
    have hb2 : ((Rf.rfF s).1 != 0) = true := by simpa using hbad
    have HR := Lib.hid (fun w' h => HNO.out _ _ w' H.out hbad h)
    clear hbad HPF HV H HNO HYES
    generalize Rf.rfF s = q at *
    obtain ⟨cd, ix⟩ := q
    simp only at hb1 hb2 HR
    go_wp2_with fail
    go_region
    all_goals
      go_wp2_with fail
      obtain ⟨k1, k2⟩ := st1.put (.int .i64 cd) (.int .i64 (-2))
      refine bodyPost_ret (results_tc30 rfl _ _ (w.heap.size + 1) (.int .i64 cd) (.int .i64 (-2)) (.slice none 0 0) rfl rfl ((k1.alloc _).drewN 1)) rfl ?_
      exact HR.out _ (below_drewN' (k2.alloc (by simp [World.setCell]; omega) _) 1)
  · obtain ⟨hz, hok⟩ := Rf.rfF_ok (by simpa using hbad)
    have HP2 := Lib.hid (HPF.out.trans (if_neg hbad))
    rw [hz]
    have st2 := st1.below (below_alloc1 w1 (.cells #[.int .i64 0, .int .i64 0] 33))
    have hsz2 : (w1.alloc (.cells #[.int .i64 0, .int .i64 0] 33)).heap.size = w1.heap.size + 1 := by simp
    clear hz hbad p0 p1 p2 p3 p4 l0 l1 HPF
    obtain ⟨p0, p1, p2, p3, p4, l0, l1⟩ := st2.facts
    by_cases h60 : 60 < l.length
    · have HR := Lib.hid (fun w' h => HNO.out 2 (-1) w' (HP2.out.trans (if_pos h60)) (by decide) h)
      have h60' : (60 : Int) < l.length := by omega
      clear HP2 h60 HNO HYES
      go_wp2_with fail
      obtain ⟨k1, k2⟩ := st2.put (.int .i64 2) (.int .i64 (-1))
      exact bodyPost_ret (results_tc30 rfl _ _ (w.heap.size + 1) (.int .i64 2) (.int .i64 (-1)) (.slice none 0 0) rfl rfl k1) rfl (HR.out _ k2)
    have h60' : ¬ (60 : Int) < l.length := by omega
    have HP3 := Lib.hid (HP2.out.trans (if_neg h60))
    clear HP2
    have hsl := hok.len
    have HCY := Lib.hid (copy_any _ A k s (HV.out _ st2.bel) (by omega))
    have HOK := Lib.hid hok
    clear HV st1 hok
    go_wp2_with fail
    go_at_call 24
    refine HCY.out.mono ?_
    rintro e w3 ⟨A3, c3, rfl, hown3, hb3⟩
    have st4' := st2.below hb3
    have st4 := st4'.below (below_alloc1 w3 (.cells #[.slice A3 s.length c3] 27))
    have hz3 := hb3.size
    have rs4 : RSt (w3.alloc (.cells #[.slice A3 s.length c3] 27)) w3.heap.size (w1.alloc (.cells #[.int .i64 0, .int .i64 0] 33)).heap.size A3 c3 s := ⟨Blk.new _ _ _, hown3.alloc _, Nat.le_trans hz3 (by simp)⟩
    have hbase : w.heap.size + 2 ≤ (w1.alloc (.cells #[.int .i64 0, .int .i64 0] 33)).heap.size := by omega
    have hgb : (w1.alloc (.cells #[.int .i64 0, .int .i64 0] 33)).heap.size ≤ w3.heap.size := hz3
    clear p0 p1 p2 p3 p4 l0 l1 hb3 HCY st2 st4' hz3 hown3
    have HCY2 := Lib.hid (copy_any _ A3 c3 s rs4.view (by omega))
    have c0 : (w3.alloc (.cells #[.slice A3 s.length c3] 27)).cell? ⟨w3.heap.size, 0, none⟩ = some (.slice A3 s.length c3) := (rs4.blk.cell 0).trans rfl
    go_wp2_with fail
    go_at_call 24
    refine HCY2.out.mono ?_
    rintro e w5 ⟨A5, c5, rfl, hown5, hb5⟩
    have rs5 := rs4.below hb5
    have st5 := st4.below hb5
    have hw5 : w3.heap.size + 1 ≤ w5.heap.size := by simpa using hb5.size
    have rs6 := rs5.below (below_alloc1 w5 (.cells #[.slice A5 s.length c5] 27))
    have st6 := st5.below (below_alloc1 w5 (.cells #[.slice A5 s.length c5] 27))
    have hcap5 : s.length ≤ c5 := by
      obtain ⟨A'', c'', e1, hcc, _⟩ := own_form hown5
      injection e1 with _ _ e3
      subst e3; exact hcc
    have s0 : SsSt w (w5.alloc (.cells #[.slice A5 s.length c5] 27)) w3.heap.size (w1.alloc (.cells #[.int .i64 0, .int .i64 0] 33)).heap.size A3 c3 s (some ⟨w5.heap.size, 0, none⟩) 1 (Rf.stl s l 0) [.slice A5 s.length c5] := by
      rw [Rf.stl_zero]
      refine ⟨st6.r2, rs6, own_of_blk (Blk.new w5 27 #[.slice A5 s.length c5]) (by omega) (Nat.le_refl _) (by decide) rfl rfl, StRow.one hcap5 ?_, st6.bel, ⟨hbase, hgb⟩, Nat.one_pos⟩
      refine SA.of_own' (hown5.alloc _) (fun b hb hX => ?_)
      have h1 := hown5.lt b hb
      have h2 : w3.heap.size + 1 ≤ b := by have := h1.1; simpa using this
      rcases hX with (hX | hX) | hX | hX
      · omega
      · omega
      · have := (rs5.own.lt b hX).2
        have h3 := (rs4.own.lt b hX).2
        simp at h3; omega
      · have : w5.heap.size = b := by simpa [Value.ownBlock] using hX
        omega
    clear HCY2 c0 rs4 rs5 rs6 st4 st5 st6 hown5 hb5
    have HSG : Hid (Rf.Sg s l r 0 0 s) := Lib.hid (by rw [HP3.out]; exact Rf.Sg.start HOK.out)
    clear HP3 HOK
    go_wp2_with fail
    generalize (w1.alloc (.cells #[.int .i64 0, .int .i64 0] 33)).heap.size = base at *
    obtain ⟨gc, hgc⟩ : ∃ gc, gc = w3.heap.size := ⟨_, rfl⟩
    simp only [← hgc] at *
    go_loopw [8, 9, 32] (fun sv pv iv wr => ∃ (i : Nat) (As : Option Addr) (cs : Nat) (vs : List Value) (Av : Option Addr) (cv : Nat) (s5 : List Rf.R) (t : Int), i ≤ l.length ∧ iv = .int .i64 i ∧ pv = .int .i64 t ∧ sv = .slice As (Rf.stl s l i).length cs ∧ SsSt w wr gc base Av cv s5 As cs (Rf.stl s l i) vs ∧ Hid (Rf.Sg s l r i t s5)) (fun _ _ iv _ => l.length - (intOf iv).toNat)
    case atStart => exact ⟨0, _, _, _, _, _, _, 0, Nat.zero_le _, rfl, rfl, by rw [Rf.stl_len], s0, HSG⟩
    case round =>
      obtain ⟨i, As, cs, vs, Av, cv, s5, t, hi, rfl, rfl, rfl, st, HB⟩ := hrel
      obtain ⟨wo, rfl⟩ : ∃ wo : World, wo = wr := ⟨_, rfl⟩
      have c0 : wo.cell? ⟨gc, 0, none⟩ = some (.slice Av s5.length cv) := (st.rs.blk.cell 0).trans rfl
      have l0 := st.rs.blk.lt
      have q0 : wo.cell? ⟨w.heap.size + 1, 0, none⟩ = some (.int .i64 0) := (st.r2.cell 0).trans rfl
      have q1 : wo.cell? ⟨w.heap.size + 1, 1, none⟩ = some (.int .i64 0) := (st.r2.cell 1).trans rfl
      have f0 := st.r2.frozen 0
      have f1 := st.r2.frozen 1
      have l1 := st.r2.lt
      have HLEN := Lib.hid (Rf.stl_len s l i)
      by_cases hlt : i < l.length
      · have hlt' : (i : Int) < l.length := by omega
        obtain ⟨b, off, e, hb, _, d0, d1, d2, d3⟩ := esV_row (HV2.out _ st.bel) i hlt
        subst e
        have HT1 := Lib.hid (fun h => HB.out.tm hlt h)
        have HT2 := Lib.hid (fun h h2 => HB.out.bad hlt h h2)
        have HT3 := Lib.hid (fun h h2 => HB.out.next hlt h h2)
        have HOK5 := Lib.hid HB.out.ok
        have hsl5 := HB.out.ok.len
        clear HB
        generalize l[i] = en at *
        obtain ⟨et, un, uo, uw⟩ := en
        simp only at d0 d1 d2 d3 HT1 HT2 HT3
        have st2 := st.below (below_alloc1 wo (.cells #[.int .i64 et, strV un, .int .i64 uo, .int .i64 uw] 80))
        by_cases htm : et < t ∨ 100000 < et
        · have H := Lib.hid (HT1.out htm)
          have HR := Lib.hid (fun w' h => HNO.out 3 i w' H.out (by decide) h)
          have hput := (blk_put2 st.r2 (.int .i64 3) (.int .i64 i)).alloc (.cells #[.int .i64 et, strV un, .int .i64 uo, .int .i64 uw] 80)
          have hbp0 := (st.bel.setCell (p := ⟨w.heap.size + 1, 0, none⟩) (Nat.le_succ _) (.int .i64 3)).setCell (p := ⟨w.heap.size + 1, 1, none⟩) (Nat.le_succ _) (.int .i64 i)
          have hbp := hbp0.alloc hbp0.size (.cells #[.int .i64 et, strV un, .int .i64 uo, .int .i64 uw] 80)
          clear hbp0
          clear HT1 HT2 HT3 H HNO HYES HOK5 st st2
          by_cases h1 : et < t
          · clear htm
            go_wp2_with fail
            exact bodyPost_ret (results_tc30 rfl _ _ (w.heap.size + 1) (.int .i64 3) (.int .i64 i) (.slice none 0 0) rfl rfl hput) rfl (HR.out _ hbp)
          · have h2 : (100000 : Int) < et := by omega
            clear htm
            go_wp2_with fail
            exact bodyPost_ret (results_tc30 rfl _ _ (w.heap.size + 1) (.int .i64 3) (.int .i64 i) (.slice none 0 0) rfl rfl hput) rfl (HR.out _ hbp)
        · have h1 : ¬ et < t := fun h => htm (.inl h)
          have h2 : ¬ (100000 : Int) < et := fun h => htm (.inr h)
          have HT2b := Lib.hid (HT2.out htm)
          have HT3b := Lib.hid (HT3.out htm)
          clear HT1 HT2 HT3 htm
          have HST := Lib.hid (step_any _ (HM.out _ st2.bel) _ _ _ _ s5 ⟨un, uo, uw⟩ st2.rs HOK5.out)
          have eb := Blk.new wo 80 #[.int .i64 et, strV un, .int .i64 uo, .int .i64 uw]
          go_wp2_with fail
          go_at_call 25
          refine HST.out.mono ?_
          rintro e w6 ⟨A6, c6, rfl, rs6, ht6, hf6⟩
          have st6 := st2.step ht6 rs6 hf6
          have eb6 : Blk w6 wo.heap.size 80 #[.int .i64 et, strV un, .int .i64 uo, .int .i64 uw] := eb.touchS ht6 (by omega) (fun e => by have := (st.rs.own.lt _ e.symm).2; omega)
          clear HST st2 st rs6 ht6 hf6 eb c0 l0 q0 q1 f0 f1 l1 d0 d1 d2 d3
          have c0 : w6.cell? ⟨gc, 0, none⟩ = _ := (st6.rs.blk.cell 0).trans rfl
          have l0 := st6.rs.blk.lt
          have q0 : w6.cell? ⟨w.heap.size + 1, 0, none⟩ = some (.int .i64 0) := (st6.r2.cell 0).trans rfl
          have q1 : w6.cell? ⟨w.heap.size + 1, 1, none⟩ = some (.int .i64 0) := (st6.r2.cell 1).trans rfl
          have f0 := st6.r2.frozen 0
          have f1 := st6.r2.frozen 1
          have l1 := st6.r2.lt
          have e0 : w6.cell? ⟨wo.heap.size, 0, none⟩ = some (.int .i64 et) := (eb6.cell 0).trans rfl
          have l2 := eb6.lt
          by_cases hc : Rf.upC s5 ⟨un, uo, uw⟩ = 0
          · rw [if_pos hc] at st6 c0
            have HE := Lib.hid (HT3b.out hc)
            have HSU := Lib.hid (Rf.stl_succ s l i)
            have HS1 := Lib.hid HE.out.st
            have hl6 := HE.out.ok.len
            rw [hc]
            clear HT2b HT3b hc HOK5
            generalize Rf.upS s5 ⟨un, uo, uw⟩ = s6 at *
            have HCY := Lib.hid (copy_any w6 A6 c6 s6 st6.rs.view (by omega))
            go_wp2_with fail
            go_at_call 24
            refine HCY.out.mono ?_
            rintro e w7 ⟨A7, c7, rfl, hown7, hb7⟩
            have st7 := st6.below hb7
            have st8 := st7.below (below_alloc1 w7 (.cells #[.slice A7 s6.length c7] 27))
            have ha8 : SA (w7.alloc (.cells #[.slice A7 s6.length c7] 27)) (Or2 (Lo (w.heap.size + 2) gc) (.slice A6 s6.length c6) (.slice As (Rf.stl s l i).length cs)) A7 (rsV s6) := by
              refine SA.of_own' (hown7.alloc _) (fun b hb hX => ?_)
              have h1 := (hown7.lt b hb).1
              rcases hX with (hX | hX) | hX | hX
              · omega
              · omega
              · have := (st6.rs.own.lt b hX).2; omega
              · have := (st6.own.lt b hX).2; omega
            have hcap7 : s6.length ≤ c7 := by
              obtain ⟨A'', c'', e1, hcc, _⟩ := own_form hown7
              injection e1 with _ _ e3
              subst e3; exact hcc
            have hsv1 := SV.lit w7 #[.slice A7 s6.length c7] 27
            have hub : ∀ b, (Value.slice As (Rf.stl s l i).length cs).ownBlock = some b → gc + 1 ≤ b := fun b hb => (st8.own.lt b hb).1
            have hgl := st7.rs.blk.lt
            clear HCY st6 st7 hown7 hb7 c0 l0 q0 q1 f0 f1 l1 e0 l2 eb6
            have hown8 := st8.own
            generalize Rf.stl s l i = sl at *
            go_wp2_with (first | (at_builtin; refine wpList_appNo _ rfl (.tmp 58) (.tmp 61) 55 rfl (gc + 1) 27 i0 _ 1 24 Tryz.underlying55 hi0 hz0 hz1 hz2 rfl (by decide) As sl.length cs vs rfl hown8 _ _ 1 1 [.slice A7 s6.length c7] rfl rfl hsv1 (by intro v hv; simp at hv; subst hv; rfl) ?ha1 ?hb1 ?hc1 ?_))
            case ha1 => have := HLEN.out; unfold maxLen; omega
            case hb1 => have := HLEN.out; omega
            case hc1 => simp; omega
            intro A9 c9 w9 own9 hg9 _ hbl9
            have st9 := st8.app hg9 (by simpa using hbl9) own9 hcap7 ha8
            rw [HS1.out, ← HSU.out] at st9
            have HL9 := Lib.hid (Rf.stl_len s l (i + 1))
            clear st8 ha8 hown8 own9 hg9 hbl9 hsv1
            go_wp2_with fail
            go_roundw
            case rel => exact ⟨i + 1, A9, c9, _, A6, c6, _, et, by omega, by go_num, rfl, by rw [HL9.out, HLEN.out], st9, by rw [← HS1.out]; exact HE⟩
            case measure => simp [intOf]; omega
          · have H := Lib.hid (HT2b.out hc)
            have HR := Lib.hid (fun w' h => HNO.out _ i w' H.out hc h)
            have hc1 : (Rf.upC s5 ⟨un, uo, uw⟩ != 0) = true := by simpa using hc
            have hc2 : (Rf.upC s5 ⟨un, uo, uw⟩ == 0) = false := by simpa using hc
            have hput := blk_put2 st6.r2 (.int .i64 (Rf.upC s5 ⟨un, uo, uw⟩)) (.int .i64 i)
            have hbp := (st6.bel.setCell (p := ⟨w.heap.size + 1, 0, none⟩) (Nat.le_succ _) (.int .i64 (Rf.upC s5 ⟨un, uo, uw⟩))).setCell (p := ⟨w.heap.size + 1, 1, none⟩) (Nat.le_succ _) (.int .i64 i)
            clear HT2b HT3b H HNO HYES HOK5 st6 hc c0
            generalize Rf.upC s5 ⟨un, uo, uw⟩ = cc at *
            go_wp2_with fail
            exact bodyPost_ret (results_tc30 rfl _ _ (w.heap.size + 1) (.int .i64 cc) (.int .i64 i) (.slice none 0 0) rfl rfl hput) rfl (HR.out _ hbp)
      · obtain rfl : i = l.length := by omega
        have H := Lib.hid HB.out.end_
        have hput := blk_put2 st.r2 (.int .i64 0) (.int .i64 0)
        have hbp := (st.bel.setCell (p := ⟨w.heap.size + 1, 0, none⟩) (Nat.le_succ _) (.int .i64 0)).setCell (p := ⟨w.heap.size + 1, 1, none⟩) (Nat.le_succ _) (.int .i64 0)
        obtain ⟨o1, o2⟩ := st.ord
        have hK : Keeps wo (Or2 (Lo (w.heap.size + 2) gc) (.slice Av s5.length cv) (.slice As (Rf.stl s l l.length).length cs)) ((wo.setCell ⟨w.heap.size + 1, 0, none⟩ (.int .i64 0)).setCell ⟨w.heap.size + 1, 1, none⟩ (.int .i64 0)) (Under w.heap.size) :=
          ((Keeps.setCell wo _ ⟨w.heap.size + 1, 0, none⟩ (.int .i64 0) (.inl (.inl (by simp only; omega)))).trans (Keeps.setCell _ _ ⟨w.heap.size + 1, 1, none⟩ (.int .i64 0) (.inl (.inl (by simp only; omega))))).into (fun b hb => .inl (.inl (by unfold Under at hb; omega)))
        have hne : ∀ (v : Value), v.ownBlock = (Value.slice As (Rf.stl s l l.length).length cs).ownBlock → some (w.heap.size + 1) ≠ v.ownBlock := fun v hv e => by rw [hv] at e; have := (st.own.lt _ e.symm).1; omega
        have hown2 := own_setCell (p := ⟨w.heap.size + 1, 1, none⟩) (own_setCell (p := ⟨w.heap.size + 1, 0, none⟩) st.own (hne _ rfl) (.int .i64 0)) (hne _ rfl) (.int .i64 0)
        have HR := Lib.hid (HYES.out As cs vs _ H.out (SA.of_own' hown2 (fun b hb hU => by have := (st.own.lt b hb).1; unfold Under at hU; omega)) (st.row.keep hK) hbp)
        rw [← HLEN.out] at HR
        clear HB H HNO HYES hK hown2 st
        go_wp2_with fail
        exact bodyPost_ret (results_tc30 rfl _ _ (w.heap.size + 1) (.int .i64 0) (.int .i64 0) (.slice As (Rf.stl s l l.length).length cs) rfl rfl hput) rfl HR.out
end Go.Proofs.YtipjejnncnndeaaGreatDoor.RF
namespace Rf
/-- What 'Replay', 'At', 'Expire' answer. -/
def rpF (b : List R) (l : List E) : List R × (Int × Int) := if (lgF b l).1 ≠ 0 then ([], lgF b l) else (stAt b l l.length, (0, 0))
def atF (b : List R) (l : List E) (t : Int) : List R × (Int × Int) := if (lgF b l).1 ≠ 0 then ([], lgF b l) else if t < 0 ∨ 100000 < t then ([], (3, -3)) else (stAt b l (unt l (t + 1)), (0, 0))
def exF (b : List R) (l : List E) (t : Int) : (List R × List E) × (Int × Int) := if (lgF b l).1 ≠ 0 then (([], []), lgF b l) else if t < 0 ∨ 100000 < t then (([], []), (3, -3)) else ((stAt b l (unt l t), l.drop (unt l t)), (0, 0))
end Rf
namespace Go.V
open Go.RowKit
theorem StRow.get {w : World} {X Y : Nat → Prop} {l : List (List Rf.R)} {vs : List Value} {A : Option Addr} (h : StRow w X l vs) (hA : SA w Y A vs) (i : Nat) (hi : i < l.length) :
    ∃ b off A' c', A = some ⟨b, off, none⟩ ∧ (b < w.heap.size ∧ ¬ Y b) ∧ w.cell? ⟨b, off + i, none⟩ = some (.slice A' (l[i]).length c') ∧ (l[i]).length ≤ c' ∧ SA w X A' (Go.Proofs.YtipjejnncnndeaaGreatDoor.RF.rsV l[i]) := by
  obtain ⟨A', c', h1, h2, h3⟩ := h.2 i hi
  obtain ⟨b, off, e, hb, hy, hc⟩ := hA.at_ (by rw [h.1]; omega)
  exact ⟨b, off, A', c', e, ⟨hb, hy⟩, hc i _ h1, h2, h3⟩
theorem cell_far (w : World) (p : Addr) (v : Value) (b o : Nat) (h : b ≠ p.block) : (w.setCell p v).cell? ⟨b, o, none⟩ = w.cell? ⟨b, o, none⟩ := World.cell?_of_block (Below.heap_setCell w p v b h)
theorem keep3 (w : World) {n m g1 g2 : Nat} (h1 : g1 < n) (h2 : g2 < n) (hm : m ≤ n) (x u v : Value) : Keeps w (Under n) (((w.setCell ⟨g1, 0, none⟩ x).setCell ⟨g2, 0, none⟩ u).setCell ⟨g2, 1, none⟩ v) (Under m) :=
  (((Keeps.setCell w _ ⟨g1, 0, none⟩ x h1).trans (Keeps.setCell _ _ ⟨g2, 0, none⟩ u h2)).trans (Keeps.setCell _ _ ⟨g2, 1, none⟩ v h2)).into fun _ hb => Nat.lt_of_lt_of_le hb hm
end Go.V
namespace Go.Proofs.YtipjejnncnndeaaGreatDoor.RF
open Go.RowKit Go.V Go.Shelf Go.Lib
set_option linter.unusedVariables false

theorem BtSt.new (w : World) (A : Option Addr) (n k : Nat) : BtSt w (((w.alloc (.cells #[.slice A n k] 27)).alloc (.cells #[.slice none 0 0] 27)).alloc (.cells #[.int .i64 0, .int .i64 0] 33)) A n k :=
  ⟨((Blk.new _ _ _).alloc _).alloc _, (blk_new1 _ _ _ _).alloc _, blk_new2 _ _ _ _ _, below_alloc3 _ _ _ _⟩
set_option maxRecDepth 100000 in
set_option maxHeartbeats 32000000 in
theorem replay_any (w : World) (hm : Mx w) (A : Option Addr) (k : Nat) (s : List Rf.R) (hv : SA w Free A (rsV s)) (hl64 : s.length ≤ 9223372036854775807) (hk : s.length ≤ k)
    (A2 : Option Addr) (k2 : Nat) (l : List Rf.E) (hv2 : SA w Free A2 (esV l)) :
    Calls Tryz.prog 6 #[.agg #[.slice A s.length k], .slice A2 l.length k2] w (UpPost w (Rf.rpF s l)) := by
  have HV := Lib.hid (fun (w1 : World) (hb : Below w.heap.size w w1) => hv.keep (free_below hb))
  have HV2 := Lib.hid (fun (w1 : World) (hb : Below w.heap.size w w1) => hv2.keep (free_below hb))
  have HM := Lib.hid hm.fun_
  have HPF := Lib.hid (Rf.rpF.eq_1 s l)
  have HS := Lib.hid (fun (w1 : World) (hb : Below w.heap.size w w1) => states_any w1 (HM.out _ hb) A k s (HV.out _ hb) hl64 hk A2 k2 l (HV2.out _ hb))
  clear hv hm hv2
  generalize hr : Rf.rpF s l = r at *
  clear hr
  have st0 := BtSt.new w A s.length k
  have hsz0 : (((w.alloc (.cells #[.slice A s.length k] 27)).alloc (.cells #[.slice none 0 0] 27)).alloc (.cells #[.int .i64 0, .int .i64 0] 33)).heap.size = w.heap.size + 3 := by simp
  go_enter Tryz.func6, Tryz.ntmps6
  go_wp2_with fail
  go_at_call 14
  refine (HS.out _ st0.bel).mono ?_
  rintro e w1 (⟨hbad, rfl, hb1⟩ | ⟨hok, As, cs, vs, rfl, hA, hrow, hb1⟩)
  · have H := Lib.hid (HPF.out.trans (if_pos hbad))
    have hx1 : ((Rf.lgF s l).1 == 0) = false := by simpa using hbad
    have hx2 : ((Rf.lgF s l).1 != 0) = true := by simpa using hbad
    clear hbad HPF HV HS
    generalize Rf.lgF s l = q at *
    obtain ⟨cd, ix⟩ := q
    simp only at hx1 hx2
    have HR : Hid (∀ w', Below w.heap.size w w' → UpPost w r (.returned (.tuple #[.agg #[.slice none 0 0], .agg #[.int .i64 cd, .int .i64 ix]])) w') := Lib.hid fun w' hb => UpPost.no H.out hb
    clear H
    have st1 := st0.below hb1
    obtain ⟨p0, p1, p2, p3, p4, p5, p6, l0, l1, l2⟩ := st1.facts
    clear st0 hb1 hsz0
    generalize UpPost w r = R at *
    go_wp2_with fail
    go_region
    all_goals
      go_wp2_with fail
      obtain ⟨k1, k2, k3⟩ := put12 st1.r1 st1.r2 (by omega) (.slice none 0 0) (.int .i64 cd) (.int .i64 ix)
      refine bodyPost_ret (results_26_30 rfl _ _ (w.heap.size + 1) (w.heap.size + 2) (.slice none 0 0) (.int .i64 cd) (.int .i64 ix) rfl rfl ((k1.alloc _).drewN 1) ((k2.alloc _).drewN 1)) rfl ?_
      refine HR.out _ ?_
      exact below_drewN' ((k3 _ _ (by omega) (by omega) st1.bel).alloc (by simp [World.setCell]; omega) _) 1
  · have H := Lib.hid (HPF.out.trans (if_neg (by rw [hok.f]; simp)))
    have hlen := hok.len
    rw [hsz0] at hA hrow
    obtain ⟨b, off, A', c', e, ⟨hb, hby⟩, d0, hc', hs'⟩ := hrow.get hA l.length (by rw [Rf.stl_len]; omega)
    rw [Rf.stl_get] at d0 hc' hs'
    subst e
    clear hok HPF HV HS hA hrow
    generalize Rf.stAt s l l.length = x at *
    have st1 := st0.below hb1
    have st2 := st1.below (below_alloc1 w1 (.cells #[.int .i64 0, .int .i64 0] 33))
    have hs2 := hs'.keep (Keeps.alloc w1 _ (.cells #[.int .i64 0, .int .i64 0] 33))
    obtain ⟨p0, p1, p2, p3, p4, p5, p6, l0, l1, l2⟩ := st2.facts
    clear st0 st1 hb1 hsz0 hs'
    go_wp2_with fail
    obtain ⟨k1, k2, k3⟩ := put12 st2.r1 st2.r2 (by omega) (.slice A' x.length c') (.int .i64 0) (.int .i64 0)
    refine bodyPost_ret (results_26_30 rfl _ _ (w.heap.size + 1) (w.heap.size + 2) (.slice A' x.length c') (.int .i64 0) (.int .i64 0) rfl rfl k1 k2) rfl ?_
    rw [H.out]
    exact ⟨A', c', rfl, hc', hs2.keep (keep3 _ (by omega) (by omega) (by omega) _ _ _), k3 _ _ (by omega) (by omega) st2.bel⟩
end Go.Proofs.YtipjejnncnndeaaGreatDoor.RF
