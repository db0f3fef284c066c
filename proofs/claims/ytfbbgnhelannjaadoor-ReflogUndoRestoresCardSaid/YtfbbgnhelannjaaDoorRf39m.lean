/-
  Logs: the library's 'slices.Backward' over a log: its contract as an iterator.
  Logs: walk of 'Undo'.
  ReflogNamesIndependent: the law's walk.
  Two variables made in any order: the last step, whatever the row.
  ReflogUndoRestores: the law's walk.
-/
import Derived.Test.YtfbbgnhelannjaaDoorRf28
import Derived.RangeFuncNested
import Derived.RangeFuncBound
import Derived.RangeFuncCalls
import Derived.RangeFuncLeaves
import Derived.RangeFuncBox
import Derived.Shelf.Abstract
import Derived.Shelf.RegionOpen
import Derived.OwnWalkIn
import Derived.TacticsInMore
import Derived.LoopNIn
import Derived.LoopIn
import Derived.Test.YtfbbgnhelannjaaDoorRf31
import Derived.Test.YtfbbgnhelannjaaDoorRegIn
import Derived.Outline
import Derived.Test.YtfbbgnhelannjaaDoorView14
import Derived.Test.YtfbbgnhelannjaaDoorRf33
import Derived.Test.YtfbbgnhelannjaaDoorRf34
import Derived.Deep.RegionHeld3
import Derived.Test.YtfbbgnhelannjaaDoorRf30
namespace Go.Proofs.YtfbbgnhelannjaaDoor
open Go.RowKit Go.V Go.Shelf Go.Lib
set_option linter.unusedVariables false
attribute [local go_sem] Oper.semAt_some

/-- What comes in a round. -/
def bxV (l : List Rf.E) (x : Nat) : Array Value := #[.int .i64 (x : Int), .agg #[.int .i64 (l[x]?.getD default).time, strV (l[x]?.getD default).upd.name, .int .i64 (l[x]?.getD default).upd.old, .int .i64 (l[x]?.getD default).upd.new]]
def KpE (n₀ Bs : Nat) (W W' : World) : Prop := Below n₀ W W' ∧ W'.heap[Bs]? = W.heap[Bs]?
/-- The numbers from the last one down. -/
def downL (n m : Nat) : List Nat := (List.range m).map fun j => n - 1 - j
theorem downL_succ (n m : Nat) : downL n (m + 1) = downL n m ++ [n - 1 - m] := by unfold downL; rw [List.range_succ, List.map_append]; rfl
set_option maxRecDepth 100000 in
set_option maxHeartbeats 4000000 in
theorem back73_in (F : Fence) (n : Nat) (h73 : F.fn 73) (hro : F.round = none) (hn : 1 ≤ n) (lp Bs : Nat) (w0 : World) (A : Option Addr) (l : List Rf.E) (kc : Nat) (hv : SA w0 Free A (esV l)) (hlen : l.length ≤ 60) (J Jx : List Nat → World → Prop)
    (hY : ∀ pre x W, J pre W → pre.length < l.length → x < l.length → YieldAt F (n - 1) Tryd.prog lp (bxV l x) W fun e W' =>
      (e = .returned (.bool true) ∧ J (pre ++ [x]) W' ∧ KpE w0.heap.size Bs W W') ∨ (e = .returned (.bool false) ∧ Jx (pre ++ [x]) W'))
    (W : World) (hb0 : Below w0.heap.size w0 W) (hBs : Blk W Bs 54 #[.slice A l.length kc]) (h0 : J [] W) :
    CallsIn F n Tryd.prog 73 #[.func (.yield lp) #[] #[], .pointer (some ⟨Bs, 0, none⟩)] W fun e W' => (∃ v, e = .returned v) ∧
      (J (downL l.length l.length) W' ∨ (∃ pre, Jx pre W')) := by
  refine callsIn_of_wp Tryd.func73 rfl h73 ?_ hro
  simp only [Tryd.ntmps73, List.size_toArray, List.length_cons, List.length_nil, Nat.reduceAdd, Nat.reduceSub, Array.replicate_succ, Array.replicate_zero, List.push_toArray, List.append_toArray, List.nil_append, List.cons_append]
  have hB0 := hBs.cell 0
  simp only [List.getElem?_toArray, List.getElem?_cons_zero] at hB0
  gi_wp2
  gi_loopw [3] (fun i wr => ∃ (m : Nat), m ≤ l.length ∧ i = .int .i64 ((l.length : Int) - 1 - m) ∧ J (downL l.length m) wr ∧ Below w0.heap.size w0 wr ∧ Blk wr Bs 54 #[.slice A l.length kc])
    (fun i _ => (intOf i + 1).toNat)
  case atStart => exact ⟨0, Nat.zero_le _, by simp, h0, hb0, hBs⟩
  case round =>
    obtain ⟨m, hm, rfl, hJs, hbr, hBr⟩ := hrel
    have hBr0 := hBr.cell 0
    simp only [List.getElem?_toArray, List.getElem?_cons_zero] at hBr0
    by_cases hlt : m < l.length
    · obtain ⟨r, hr⟩ : ∃ r : Nat, l.length - 1 - m = r := ⟨_, rfl⟩
      have hri : (l.length : Int) - 1 - m = (r : Int) := by omega
      have hrl : r < l.length := by omega
      obtain ⟨b, off, e, hb, _, c0, c1, c2, c3⟩ := esV_row (hv.keep (free_below hbr)) r hrl
      subst e
      have hY' := hY (downL l.length m) r wr hJs (by simp [downL]; omega) hrl
      have HD2 := Lib.hid (show downL l.length (m + 1) = downL l.length m ++ [r] from by rw [downL_succ, hr])
      obtain ⟨fn, tmps, assign, body, hy, hR⟩ := hY'
      simp only [bxV, List.getElem?_eq_getElem hrl, Option.getD_some] at hy
      generalize l[r] = x at *
      rw [hri]
      have HR := Lib.hid hri
      clear hY hri hr
      have hri' : ((r : Int) + 1).toNat = r + 1 := by omega
      have hrn : (r : Int) < l.length := by omega
      gi_wp2
      refine hR.mono ?_
      rintro e W3 (⟨rfl, hJ3, hk3⟩ | ⟨rfl, hJx3⟩)
      · gi_wp2
        go_roundw
        case rel => exact ⟨m + 1, by omega, by have := HR.out; simp; omega, by rw [HD2.out]; exact hJ3, hbr.trans hk3.1, hk3.2.trans hBr⟩
        case measure => first | (simp [intOf]; done) | (simp [intOf]; omega)
      · gi_wp2
        refine bodyPost_ret (results_none rfl _ _ _) rfl ?_
        exact ⟨⟨_, rfl⟩, .inr ⟨_, hJx3⟩⟩
    · obtain rfl : m = l.length := by omega
      gi_wp2
      go_end0
      exact ⟨⟨_, rfl⟩, .inl hJs⟩
end Go.Proofs.YtfbbgnhelannjaaDoor
namespace Rf
/-- The updates that undo the last n entries. -/
def udL (l : List E) : List U := l.reverse.map fun e => inv e.upd
def udF (b : List R) (l : List E) (n : Int) : List U × (Int × Int) := if (lgF b l).1 ≠ 0 then ([], lgF b l) else if n < 0 ∨ (l.length : Int) < n then ([], (3, -3)) else (udL (l.drop (l.length - n.toNat)), (0, 0))
/-- What the rounds have made. -/
def udX (l : List E) (xs : List Nat) : List U := xs.map fun x => inv (l[x]?.getD default).upd
theorem udX_snoc (l : List E) (xs : List Nat) (x : Nat) : udX l (xs ++ [x]) = udX l xs ++ [inv (l[x]?.getD default).upd] := by unfold udX; rw [List.map_append]; rfl
theorem udX_len (l : List E) (xs : List Nat) : (udX l xs).length = xs.length := by simp [udX]
theorem udX_down (l : List E) : udX l ((List.range l.length).map fun j => l.length - 1 - j) = udL l := by
  refine List.ext_getElem (by simp [udX, udL]) fun i h1 h2 => ?_
  have hi : i < l.length := by simpa [udX] using h1
  simp only [udX, udL, List.getElem_map, List.getElem_range, List.getElem_reverse]
  rw [List.getElem?_eq_getElem (by omega)]; rfl
end Rf
namespace Go.Proofs.YtfbbgnhelannjaaDoor
open Go.RowKit Go.V Go.Shelf Go.Lib
set_option linter.unusedVariables false
attribute [local go_sem] Oper.semAt_some

/-- Updates and a fault. -/
def UdPost (w : World) (r : List Rf.U × (Int × Int)) (e : Ending) (w' : World) : Prop := ∃ A c, e = .returned (.tuple #[.slice A r.1.length c, .agg #[.int .i64 r.2.1, .int .i64 r.2.2]]) ∧ r.1.length ≤ c ∧ SA w' (Under w.heap.size) A (usV r.1) ∧ Below w.heap.size w w'
theorem UdPost.mk_ {w w' : World} {r : List Rf.U × (Int × Int)} {A : Option Addr} {c : Nat} {l : List Rf.U} {a b : Int} (h : r = (l, (a, b))) (hc : l.length ≤ c) (hs : SA w' (Under w.heap.size) A (usV l)) (hb : Below w.heap.size w w') : UdPost w r (.returned (.tuple #[.slice A l.length c, .agg #[.int .i64 a, .int .i64 b]])) w' := by
  subst h; exact ⟨A, c, rfl, hc, hs, hb⟩
theorem backward56_in (F : Fence) (n : Nat) (h56 : F.fn 56) (hro : F.round = none) (a : Option Addr) (len cap : Nat) (w : World) :
    CallsIn F n Tryd.prog 56 #[.slice a len cap] w fun e w' => e = .returned (.func (.func 73) #[] #[.pointer (some ⟨w.heap.size, 0, none⟩)]) ∧ w' = w.alloc (.cells #[.slice a len cap] 54) := by
  refine callsIn_of_wp Tryd.func56 rfl h56 ?_ hro
  simp only [Tryd.ntmps56, List.size_toArray, List.length_cons, List.length_nil, Nat.reduceAdd, Nat.reduceSub, Array.replicate_succ, Array.replicate_zero, List.push_toArray, List.append_toArray, List.nil_append, List.cons_append]
  gi_wp2
  go_ret
  exact ⟨rfl, rfl⟩
theorem back_stops73 (F : Fence) (n : Nat) (h73 : F.fn 73) (hro : F.round = none) (hn : 1 ≤ n) (Bs : Nat) (w0 w : World) (A : Option Addr) (l : List Rf.E) (kc : Nat) (hv : SA w0 Free A (esV l)) (hlen : l.length ≤ 60)
    (hb0 : Below w0.heap.size w0 w) (hB : Blk w Bs 54 #[.slice A l.length kc]) :
    SeqStopsK F n Tryd.prog 73 #[.pointer (some ⟨Bs, 0, none⟩)] (bxV l) (KpE w0.heap.size Bs) (fun ys => ys = downL l.length l.length) (fun _ => True) l.length w := fun lp J Jx W hW _ _ hY h0 =>
  (back73_in F n h73 hro hn lp Bs w0 A l kc hv hlen J Jx (fun pre x W h1 h2 _ => hY pre x W h1 h2) W (hb0.trans (hW.mono hb0.size)) (hB.below hW hB.lt) h0).mono fun e W' h => ⟨h.1, h.2.imp (fun h => ⟨_, rfl, h⟩) (fun ⟨p, h⟩ => ⟨p, trivial, h⟩)⟩
theorem kpE_t {n₀ Bs : Nat} {A B C : World} (h : KpE n₀ Bs A B) (k : KpE n₀ Bs B C) : KpE n₀ Bs A C := ⟨h.1.trans k.1, k.2.trans h.2⟩
theorem kpE_b {n₀ Bs : Nat} {w : World} (hn : n₀ ≤ w.heap.size) (hB : Bs < w.heap.size) (W : World) (l : Nat) (o o' : Obj) (hl : w.heap.size ≤ l) (h : W.heap[l]? = some o) (h1 : o.isCells = false) (h2 : o.isWalk = false) : KpE n₀ Bs W (W.putObj l o') :=
  ⟨belowK_b hn W l o o' hl h h1 h2, (grownBy_putObj' W l o').block Bs (by have := (Array.getElem?_eq_some_iff.1 h).1; omega) (fun e => by injection e with e; omega)⟩
theorem own_nocells {w w' : World} {row : Option Nat} {base : Nat} {e : TypeId} {size : Nat} {v : Value} {k : Nat} {xs : List Value} (h : w.ownsRow base e size v k xs) (hg : w.grownBy w' row)
    (hr : ∀ r, row = some r → ∃ o, w.heap[r]? = some o ∧ o.isCells = false) : w'.ownsRow base e size v k xs := by
  refine h.kept hg ?_
  rcases h.2 with ⟨rfl, _⟩ | ⟨g, cap, cur, rfl, _, hgb, _⟩
  · exact .inl rfl
  · refine .inr fun e' => ?_
    obtain ⟨o, ho, hc⟩ := hr g (by simpa [Value.ownBlock] using e'.symm)
    rw [hgb] at ho; cases ho; cases hc
theorem keepsOthers_own {w w' : World} {base : Nat} {e : TypeId} {size : Nat} {v : Value} {k : Nat} {xs : List Value} (h : w.ownsRow base e size v k xs) (hg : w.grownBy w' v.ownBlock) : KeepsOthers w w' :=
  KeepsOthers.of_grownBy hg fun j o ej hj => by
    rcases h.2 with ⟨rfl, _⟩ | ⟨g, cap, cur, rfl, _, hgb, _⟩
    · simp [Value.ownBlock] at ej
    · obtain rfl : g = j := by simpa [Value.ownBlock] using ej
      rw [hgb] at hj; cases hj; rfl
theorem heap_setCell_ne' (W : World) (b o D : Nat) (v : Value) (h : D ≠ b) : (W.setCell ⟨b, o, none⟩ v).heap[D]? = W.heap[D]? := Below.heap_setCell W ⟨b, o, none⟩ v D h
/-- What the rounds keep: the result's cell, the box of 'out', its row. -/
structure UdSt (w wr : World) (gb : Nat) (A : Option Addr) (c : Nat) (o : List Rf.U) : Prop where
  r2 : Blk wr (w.heap.size + 1) 30 #[.int .i64 0, .int .i64 0]
  bo : Blk wr gb 41 #[.slice A o.length c]
  own : wr.ownsRow (gb + 2) 28 3 (.slice A o.length c) o.length (usV o)
  bel : Below w.heap.size w wr
  ord : w.heap.size + 1 < gb
  sz : gb + 2 ≤ wr.heap.size
theorem UdSt.grown {w wr w' : World} {gb : Nat} {A : Option Addr} {c : Nat} {o : List Rf.U} (h : UdSt w wr gb A c o) {row : Option Nat} (hg : wr.grownBy w' row) (hr : ∀ r, row = some r → gb + 2 ≤ r ∧ ∃ o, wr.heap[r]? = some o ∧ o.isCells = false) : UdSt w w' gb A c o := by
  have o1 := h.ord
  exact ⟨h.r2.grown hg (fun e => by have := (hr _ e.symm).1; omega), h.bo.grown hg (fun e => by have := (hr _ e.symm).1; omega), own_nocells h.own hg (fun r e => (hr r e).2), h.bel.grown hg h.bel.size (fun b e => by have := (hr b e).1; omega), o1, Nat.le_trans h.sz hg.size⟩
theorem UdSt.facts {w wr : World} {gb : Nat} {A : Option Addr} {c : Nat} {o : List Rf.U} (h : UdSt w wr gb A c o) : wr.cell? ⟨gb, 0, none⟩ = some (.slice A o.length c) ∧ wr.frozen? ⟨gb, 0, none⟩ = false ∧ gb < wr.heap.size ∧ w.heap.size + 1 < wr.heap.size ∧
    wr.cell? ⟨w.heap.size + 1, 0, none⟩ = some (.int .i64 0) ∧ wr.cell? ⟨w.heap.size + 1, 1, none⟩ = some (.int .i64 0) ∧ wr.frozen? ⟨w.heap.size + 1, 0, none⟩ = false ∧ wr.frozen? ⟨w.heap.size + 1, 1, none⟩ = false :=
  ⟨(h.bo.cell 0).trans rfl, h.bo.frozen 0, h.bo.lt, h.r2.lt, (h.r2.cell 0).trans rfl, (h.r2.cell 1).trans rfl, h.r2.frozen 0, h.r2.frozen 1⟩
set_option maxRecDepth 100000 in
set_option maxHeartbeats 32000000 in
theorem undo_bad (w : World) (hm : Mx w) (A : Option Addr) (k : Nat) (s : List Rf.R) (hv : SA w Free A (rsV s)) (hl64 : s.length ≤ 9223372036854775807) (hk : s.length ≤ k)
    (A2 : Option Addr) (k2 : Nat) (l : List Rf.E) (hv2 : SA w Free A2 (esV l)) (hlen : l.length ≤ 9223372036854775807) (n : Int) (hbad : (Rf.lgF s l).1 ≠ 0 ∨ n < 0 ∨ (l.length : Int) < n) :
    Calls Tryd.prog 39 #[.agg #[.slice A s.length k], .slice A2 l.length k2, .int .i64 n] w (UdPost w (Rf.udF s l n)) := by
  have HV := Lib.hid (fun (w1 : World) (hb : Below w.heap.size w w1) => hv.keep (free_below hb))
  have HV2 := Lib.hid (fun (w1 : World) (hb : Below w.heap.size w w1) => hv2.keep (free_below hb))
  have HM := Lib.hid hm.fun_
  have HPF := Lib.hid (Rf.udF.eq_1 s l n)
  have HS := Lib.hid (fun (w1 : World) (hb : Below w.heap.size w w1) => states_any w1 (HM.out _ hb) A k s (HV.out _ hb) hl64 hk A2 k2 l (HV2.out _ hb))
  have HB := Lib.hid hbad
  clear hv hm hv2 hbad
  generalize hr : Rf.udF s l n = r at *
  clear hr
  have HNO : Hid (∀ c i w', r = ([], (c, i)) → Below w.heap.size w w' → UdPost w r (.returned (.tuple #[.slice none 0 0, .agg #[.int .i64 c, .int .i64 i]])) w') := Lib.hid fun c i w' h hb => UdPost.mk_ (l := []) h (Nat.le_refl _) SA.nil hb
  have bx0 : Blk ((w.alloc (.cells #[.slice A s.length k] 26)).alloc (.cells #[.int .i64 0, .int .i64 0] 30)) (w.heap.size + 1) 30 #[.int .i64 0, .int .i64 0] := blk_new1 _ _ _ _
  have hb0 : Below w.heap.size w ((w.alloc (.cells #[.slice A s.length k] 26)).alloc (.cells #[.int .i64 0, .int .i64 0] 30)) := below_alloc2 _ _ _
  go_enter Tryd.func39, Tryd.ntmps39
  go_wp2_with fail
  go_at_call 52
  refine (HS.out _ hb0).mono ?_
  rintro e w1 (⟨hbad, rfl, hb1⟩ | ⟨hok, As, cs, vs, rfl, hA, hrow, hb1⟩)
  · have H := Lib.hid (HPF.out.trans (if_pos hbad))
    have hx1 : ((Rf.lgF s l).1 == 0) = false := by simpa using hbad
    have hx2 : ((Rf.lgF s l).1 != 0) = true := by simpa using hbad
    clear hbad HPF HV HV2 HS HM HB
    generalize Rf.lgF s l = q at *
    obtain ⟨cd, ix⟩ := q
    simp only at hx1 hx2
    have bx1 := bx0.below hb1 bx0.lt
    have be1 := hb0.trans (hb1.mono hb0.size)
    have p0 := bx1.frozen 0
    have p1 := bx1.frozen 1
    have p2 : w1.cell? ⟨w.heap.size + 1, 0, none⟩ = some (.int .i64 0) := (bx1.cell 0).trans rfl
    have p3 : w1.cell? ⟨w.heap.size + 1, 1, none⟩ = some (.int .i64 0) := (bx1.cell 1).trans rfl
    have l1 := bx1.lt
    have HR := Lib.hid (fun w' hb => HNO.out cd ix w' H.out hb)
    clear bx0 hb0 hb1 H HNO
    generalize UdPost w r = R at *
    go_wp2_with fail
    go_region
    all_goals
      go_wp2_with fail
      refine bodyPost_ret (results_tc30 rfl _ _ (w.heap.size + 1) (.int .i64 cd) (.int .i64 ix) (.slice none 0 0) rfl rfl (((blk_put2 bx1 (.int .i64 cd) (.int .i64 ix)).alloc _).drewN 1)) rfl ?_
      refine HR.out _ ?_
      exact below_drewN' (((be1.setCell (p := ⟨w.heap.size + 1, 0, none⟩) (by simp only; omega) (.int .i64 cd)).setCell (p := ⟨w.heap.size + 1, 1, none⟩) (by simp only; omega) (.int .i64 ix)).alloc (by simp [World.setCell]; omega) _) 1
  · have hcr : n < 0 ∨ (l.length : Int) < n := by
      rcases HB.out with h | h
      · rw [hok.f] at h; exact absurd rfl h
      · exact h
    have H := Lib.hid ((HPF.out.trans (if_neg (by rw [hok.f]; simp))).trans (if_pos hcr))
    have bx1 := bx0.below hb1 bx0.lt
    have be1 := hb0.trans (hb1.mono hb0.size)
    have p0 := bx1.frozen 0
    have p1 := bx1.frozen 1
    have p2 : w1.cell? ⟨w.heap.size + 1, 0, none⟩ = some (.int .i64 0) := (bx1.cell 0).trans rfl
    have p3 : w1.cell? ⟨w.heap.size + 1, 1, none⟩ = some (.int .i64 0) := (bx1.cell 1).trans rfl
    have l1 := bx1.lt
    have HR := Lib.hid (fun w' hb => HNO.out 3 (-3) w' H.out hb)
    clear bx0 hb0 hb1 H HNO HPF HV HV2 HS HM HB hok hA hrow
    generalize UdPost w r = R at *
    rcases Int.lt_or_le n 0 with h0 | h0
    · clear hcr
      go_wp2_with fail
      refine bodyPost_ret (results_tc30 rfl _ _ (w.heap.size + 1) (.int .i64 3) (.int .i64 (-3)) (.slice none 0 0) rfl rfl ((blk_put2 bx1 (.int .i64 3) (.int .i64 (-3))).alloc _)) rfl ?_
      refine HR.out _ ?_
      exact ((be1.setCell (p := ⟨w.heap.size + 1, 0, none⟩) (by simp only; omega) (.int .i64 3)).setCell (p := ⟨w.heap.size + 1, 1, none⟩) (by simp only; omega) (.int .i64 (-3))).alloc (by simp [World.setCell]; omega) _
    · have h1 : (l.length : Int) < n := by omega
      have h2 : ¬ n < 0 := by omega
      clear hcr h0
      go_wp2_with fail
      refine bodyPost_ret (results_tc30 rfl _ _ (w.heap.size + 1) (.int .i64 3) (.int .i64 (-3)) (.slice none 0 0) rfl rfl ((blk_put2 bx1 (.int .i64 3) (.int .i64 (-3))).alloc _)) rfl ?_
      refine HR.out _ ?_
      exact ((be1.setCell (p := ⟨w.heap.size + 1, 0, none⟩) (by simp only; omega) (.int .i64 3)).setCell (p := ⟨w.heap.size + 1, 1, none⟩) (by simp only; omega) (.int .i64 (-3))).alloc (by simp [World.setCell]; omega) _
theorem info28 : (Tryd.prog.info? 28).map (fun i => (i.zero.map (fun z => z.cells.size), i.size, i.bytes)) = some (some 3, 3, 32) := by kernel_rfl
set_option maxRecDepth 100000 in
set_option maxHeartbeats 32000000 in
theorem undo_any (w : World) (hm : Mx w) (A : Option Addr) (k : Nat) (s : List Rf.R) (hv : SA w Free A (rsV s)) (hl64 : s.length ≤ 9223372036854775807) (hk : s.length ≤ k)
    (A2 : Option Addr) (k2 : Nat) (l : List Rf.E) (hv2 : SA w Free A2 (esV l)) (hlen : l.length ≤ 9223372036854775807) (hk2 : l.length ≤ k2) (n : Int) :
    Calls Tryd.prog 39 #[.agg #[.slice A s.length k], .slice A2 l.length k2, .int .i64 n] w (UdPost w (Rf.udF s l n)) := by
  by_cases hbad : (Rf.lgF s l).1 ≠ 0 ∨ n < 0 ∨ (l.length : Int) < n
  · exact undo_bad w hm A k s hv hl64 hk A2 k2 l hv2 hlen n hbad
  obtain ⟨hz, hok⟩ := Rf.lgF_ok (b := s) (l := l) (Classical.not_not.1 fun h => hbad (.inl h))
  obtain ⟨m, rfl⟩ := Int.eq_ofNat_of_zero_le (show 0 ≤ n from Int.not_lt.1 fun h => hbad (.inr (.inl h)))
  have hml : m ≤ l.length := by omega
  have hl60 := hok.len
  have hd0 : (l.drop (l.length - m)).length = m := by simp; omega
  have HPF := Lib.hid (show Rf.udF s l (m : Int) = (Rf.udL (l.drop (l.length - m)), (0, 0)) from by unfold Rf.udF; rw [hz, if_neg (by decide), if_neg (by omega)]; simp)
  have HV := Lib.hid (fun (w1 : World) (hb : Below w.heap.size w w1) => hv.keep (free_below hb))
  have HV2 := Lib.hid (fun (w1 : World) (hb : Below w.heap.size w w1) => hv2.keep (free_below hb))
  have HM := Lib.hid hm.fun_
  have HS := Lib.hid (fun (w1 : World) (hb : Below w.heap.size w w1) => states_any w1 (HM.out _ hb) A k s (HV.out _ hb) hl64 hk A2 k2 l (HV2.out _ hb))
  obtain ⟨kd, hkd⟩ : ∃ kd, kd = k2 - (l.length - m) := ⟨_, rfl⟩
  obtain ⟨Ad, hAd⟩ : ∃ Ad, Ad = (if k2 = l.length - m then A2 else A2.map (·.add ((l.length - m) * 4))) := ⟨_, rfl⟩
  have HVD : Hid (SA w Free Ad (esV (l.drop (l.length - m)))) := Lib.hid (by rw [hAd, esV_drop]; exact hv2.drop _ _ (fun h => .inl (by rw [Fl.len eC_len]; omega)))
  have hs1 : ∀ W, (Instr.slice 54 (.slice A2 l.length k2) (some (.int .i64 ((l.length - m : Nat) : Int))) none none).run Tryd.prog W = .ok (.slice Ad m kd) W := fun W => by
    have := slice_from54 W A2 l.length k2 (l.length - m) (by omega) hk2
    rw [hAd, hkd]; rwa [show l.length - (l.length - m) = m by omega] at this
  have hsub : IntKind.i64.wrap ((l.length : Int) - (m : Int)) = ((l.length - m : Nat) : Int) := by rw [IntWalk.i64_in _ (by omega)]; omega
  have hn0 : ¬ (m : Int) < 0 := by omega
  have hn1 : ¬ (l.length : Int) < (m : Int) := by omega
  clear hkd hAd hv hv2 hm hbad hok
  generalize hd : l.drop (l.length - m) = d at *
  have hdl60 : d.length ≤ 60 := by omega
  subst hd0
  clear hd
  generalize hr : Rf.udF s l (d.length : Int) = r at *
  clear hr
  have hz0' : (Rf.lgF s l).1 = 0 := by rw [hz]
  clear hz
  obtain ⟨i0, z0, hi0, hz0, hz1, hz2, hzs⟩ := info_parts' info28
  have hb0 : Below w.heap.size w ((w.alloc (.cells #[.slice A s.length k] 26)).alloc (.cells #[.int .i64 0, .int .i64 0] 30)) := below_alloc2 _ _ _
  have bx0 : Blk ((w.alloc (.cells #[.slice A s.length k] 26)).alloc (.cells #[.int .i64 0, .int .i64 0] 30)) (w.heap.size + 1) 30 #[.int .i64 0, .int .i64 0] := blk_new1 _ _ _ _
  have HS1 := Lib.hid (HS.out _ hb0)
  clear HS
  refine (callsIn_wide (n := 5)).1 ?_
  refine callsIn_of_wp_marks Tryd.func39 rfl trivial ?_ rfl
  simp only [Tryd.ntmps39, List.size_toArray, List.length_cons, List.length_nil, Nat.reduceAdd, Nat.reduceSub, Array.replicate_succ, Array.replicate_zero, List.push_toArray, List.append_toArray, List.nil_append, List.cons_append]
  gi_wp2_with fail
  refine ⟨trivial, ?_⟩
  gi_at_call 52
  refine (callsIn_wide.2 HS1.out).mono ?_
  rintro e w1 (⟨hbad, rfl, hb1⟩ | ⟨hok, As, cs, vs, rfl, hA, hrow, hb1⟩)
  · exact absurd hz0' hbad
  have bx1 := bx0.below hb1 bx0.lt
  have be1 := hb0.trans (hb1.mono hb0.size)
  clear HS1 hA hrow hb1 bx0 hb0 hok
  have hw1 : w.heap.size + 1 < w1.heap.size := bx1.lt
  gi_wp2_with (refine ⟨trivial, ?_⟩; gi_at_call 56; refine (backward56_in Fence.wide _ trivial rfl _ _ _ _).mono ?_; rintro e w' ⟨rfl, rfl⟩)
  have hbelo := ((be1.alloc be1.size (.cells #[.int .i64 0, .int .i64 0] 30)).alloc (by have := be1.size; simp; omega) (.cells #[.slice none 0 0] 41)).alloc (by have := be1.size; simp; omega) (.cells #[.slice Ad d.length kd] 54)
  have hbox2 : Blk (((w1.alloc (.cells #[.int .i64 0, .int .i64 0] 30)).alloc (.cells #[.slice none 0 0] 41)).alloc (.cells #[.slice Ad d.length kd] 54)) (w1.heap.size + 2) 54 #[.slice Ad d.length kd] := by simpa using Blk.new ((w1.alloc (.cells #[.int .i64 0, .int .i64 0] 30)).alloc (.cells #[.slice none 0 0] 41)) 54 #[.slice Ad d.length kd]
  have st0 : UdSt w (((w1.alloc (.cells #[.int .i64 0, .int .i64 0] 30)).alloc (.cells #[.slice none 0 0] 41)).alloc (.cells #[.slice Ad d.length kd] 54)) (w1.heap.size + 1) none 0 (Rf.udX d []) :=
    ⟨((bx1.alloc _).alloc _).alloc _, (blk_new1 _ _ _ _).alloc _, World.ownsRow_nil _ _ _ _, hbelo, by omega, by simp⟩
  have hszl : (((w1.alloc (.cells #[.int .i64 0, .int .i64 0] 30)).alloc (.cells #[.slice none 0 0] 41)).alloc (.cells #[.slice Ad d.length kd] 54)).heap.size = w1.heap.size + 3 := by simp
  have hbe1 := be1.size
  refine wpIn_rangeFunc_ownH (F := Fence.wide) rfl (by omega : 1 ≤ 5) (gf := 73) (lb := #[.pointer (some ⟨w1.heap.size + 2, 0, none⟩)]) rfl trivial (enters_of Tryd.func73 (by kernel_rfl) rfl)
    (back_stops73 Fence.wide (5 - 1) trivial rfl (by omega) (w1.heap.size + 2) w _ Ad d kd HVD.out hdl60 hbelo hbox2)
    kpE_t (kpE_b (by rw [hszl]; omega) (by rw [hszl]; omega)) (Below.refl _ _) (fun _ => rfl)
    (fun pre W => ∃ A' c', UdSt w W (w1.heap.size + 1) A' c' (Rf.udX d pre))
    (fun _ _ _ => False)
    (fun s W W' row hs hg hr => by obtain ⟨A', c', hs⟩ := hs; exact ⟨A', c', hs.grown hg (fun r e => ⟨by have := (hr r e).1; rw [hszl] at this; omega, (hr r e).2⟩)⟩)
    (fun _ _ _ _ _ hs _ _ => hs)
    ⟨none, 0, st0⟩
    (fun x a' W => ∃ Bx, w1.heap.size + 3 ≤ Bx ∧ Blk W Bx 69 #[.int .i64 (d[x]?.getD default).time, strV (d[x]?.getD default).upd.name, .int .i64 (d[x]?.getD default).upd.old, .int .i64 (d[x]?.getD default).upd.new] ∧ ∃ u25 u26 u31 : Value, a' = { tmps := #[.agg #[.slice A s.length k], .slice A2 l.length k2, .int .i64 d.length, .pointer (some { block := w.heap.size, off := 0 }), undef, undef, .slice none 0 0, .pointer (some { block := w.heap.size + 1, off := 0 }), .slice As (l.length + 1) cs, .pointer (some { block := w1.heap.size, off := 0 }), .pointer (some { block := w1.heap.size + 1, off := 0 }), undef, .pointer (some ⟨Bx, 0, none⟩), undef, .tuple #[.slice As (l.length + 1) cs, .agg #[.int .i64 0, .int .i64 0]], .agg #[.slice A s.length k], .slice A2 l.length k2, .tuple #[.slice As (l.length + 1) cs, .agg #[.int .i64 0, .int .i64 0]], .slice As (l.length + 1) cs, .agg #[.int .i64 0, .int .i64 0], .agg #[.int .i64 0, .int .i64 0], .agg #[.int .i64 0, .int .i64 0], .bool false, undef, .int .i64 d.length, u25, u26, .int .i64 d.length, .slice A2 l.length k2, .int .i64 l.length, .bool false, u31, undef, .slice A2 l.length k2, .slice A2 l.length k2, .int .i64 l.length, .int .i64 d.length, .int .i64 (l.length - d.length : Nat), .slice Ad d.length kd, .func (Fn.func 73) #[] #[.pointer (some { block := w1.heap.size + 1 + 1, off := 0 })], .int .i64 x, .agg #[.int .i64 (d[x]?.getD default).time, strV (d[x]?.getD default).upd.name, .int .i64 (d[x]?.getD default).upd.old, .int .i64 (d[x]?.getD default).upd.new], undef, undef, undef, undef, undef, undef, undef, undef, undef, undef, undef, undef, undef, undef], defers := [] })
    (fun x a' s W W' row ⟨Bx, h1, h2, h3⟩ hg hr => ⟨Bx, h1, h2.grown hg (fun e => by obtain ⟨_, o, ho, hc⟩ := hr Bx e.symm; rw [h2] at ho; cases ho; cases hc), h3⟩)
    ?assign ?body ?done ?stop
  case assign =>
    rintro lr pre x W K ⟨A', c', hi⟩ hK
    simp only [bxV] at *
    have hsz := hi.bel.size
    gi_wp2
    refine hK _ _ ((KeepsOthers.alloc _ _).from _) ⟨(Below.refl _ W).alloc hsz _, Below.heap_alloc _ _ _ (by have := hi.sz; omega)⟩ ⟨A', c', hi.grown (row := none) (World.grownBy_alloc _ _ none) (fun r e => by cases e)⟩ ⟨W.heap.size, by have := hi.sz; omega, Blk.new _ _ _, _, _, _, rfl⟩
  case body =>
    rintro lr pre x a' W hlr ⟨rr, hr⟩ ⟨A', c', hi⟩ ⟨Bx, hBx, bX, u25, u26, u31, rfl⟩ hplt
    have HUX := Lib.hid (Rf.udX_snoc d pre x)
    have hxl : (Rf.udX d pre).length ≤ 60 := by rw [Rf.udX_len]; omega
    generalize d[x]?.getD default = y at *
    obtain ⟨q0, q1, q2, q3, q4, q5, q6, q7⟩ := hi.facts
    have e0 := (bX.cell 0).trans rfl
    have e1 := (bX.cell 1).trans rfl
    have e2 := (bX.cell 2).trans rfl
    have e3 := (bX.cell 3).trans rfl
    have eb := bX.lt
    have hown2 := (hi.own.alloc (.cells #[strV y.upd.name, .int .i64 y.upd.new, .int .i64 y.upd.old] 28)).alloc (.cells #[strV y.upd.name, .int .i64 y.upd.new, .int .i64 y.upd.old] 28)
    have bo2 := (hi.bo.alloc (.cells #[strV y.upd.name, .int .i64 y.upd.new, .int .i64 y.upd.old] 28)).alloc (.cells #[strV y.upd.name, .int .i64 y.upd.new, .int .i64 y.upd.old] 28)
    have br2 := (hi.r2.alloc (.cells #[strV y.upd.name, .int .i64 y.upd.new, .int .i64 y.upd.old] 28)).alloc (.cells #[strV y.upd.name, .int .i64 y.upd.new, .int .i64 y.upd.old] 28)
    have bel2 := hi.bel.trans ((below_alloc2 W (.cells #[strV y.upd.name, .int .i64 y.upd.new, .int .i64 y.upd.old] 28) (.cells #[strV y.upd.name, .int .i64 y.upd.new, .int .i64 y.upd.old] 28)).mono hi.bel.size)
    have ko2 := (KeepsOthers.alloc W (.cells #[strV y.upd.name, .int .i64 y.upd.new, .int .i64 y.upd.old] 28)).trans (KeepsOthers.alloc (W.alloc (.cells #[strV y.upd.name, .int .i64 y.upd.new, .int .i64 y.upd.old] 28)) (.cells #[strV y.upd.name, .int .i64 y.upd.new, .int .i64 y.upd.old] 28))
    have hsz2 : W.heap.size + 2 = ((W.alloc (.cells #[strV y.upd.name, .int .i64 y.upd.new, .int .i64 y.upd.old] 28)).alloc (.cells #[strV y.upd.name, .int .i64 y.upd.new, .int .i64 y.upd.old] 28)).heap.size := by simp
    have kb2 : ((W.alloc (.cells #[strV y.upd.name, .int .i64 y.upd.new, .int .i64 y.upd.old] 28)).alloc (.cells #[strV y.upd.name, .int .i64 y.upd.new, .int .i64 y.upd.old] 28)).heap[w1.heap.size + 2]? = W.heap[w1.heap.size + 2]? := (Below.heap_alloc _ _ _ (by have := hi.sz; simp; omega)).trans (Below.heap_alloc _ _ _ (by have := hi.sz; omega))
    have hcells : ∀ j u, ([strV y.upd.name, .int .i64 y.upd.new, .int .i64 y.upd.old] : List Value)[j]? = some u → ((W.alloc (.cells #[strV y.upd.name, .int .i64 y.upd.new, .int .i64 y.upd.old] 28)).alloc (.cells #[strV y.upd.name, .int .i64 y.upd.new, .int .i64 y.upd.old] 28)).cell? ((⟨W.heap.size + 1, 0, none⟩ : Addr).add j) = some u := by
      intro j u hj
      have := cells_new (W.alloc (.cells #[strV y.upd.name, .int .i64 y.upd.new, .int .i64 y.upd.old] 28)) #[strV y.upd.name, .int .i64 y.upd.new, .int .i64 y.upd.old] 28 j u hj
      rw [show (W.alloc (.cells #[strV y.upd.name, .int .i64 y.upd.new, .int .i64 y.upd.old] 28)).heap.size = W.heap.size + 1 by simp] at this
      by_cases h0 : j = 0
      · subst h0; simpa [Addr.add] using this
      · simpa [Addr.add, h0] using this
    have hwsz := hi.sz
    gi_wp2_with (first | (gi_at_builtin; refine wpListIn_append_own _ rfl (.tmp 50) (.tmp 52) 41 rfl (w1.heap.size + 1 + 2) 28 i0 _ 3 32 Tryd.underlying41 hi0 hz0 hz1 hz2 hzs (by decide) (.slice A' (Rf.udX d pre).length c') _ (usV (Rf.udX d pre)) rfl hown2 ⟨W.heap.size + 1, 0, none⟩ 1 1 [strV y.upd.name, .int .i64 y.upd.new, .int .i64 y.upd.old] rfl rfl hcells (by intro v hv; simp at hv; rcases hv with rfl | rfl | rfl <;> rfl) ?ha ?hb ?hc ?_))
    case ha => unfold maxLen; omega
    case hb => omega
    case hc => rw [← hsz2]; omega
    intro v2 w2 hown3 hg3 _
    obtain ⟨A2', c2', rfl, hc2, _⟩ := own_form hown3
    have hlo : ∀ b, (Value.slice A' (Rf.udX d pre).length c').ownBlock = some b → w1.heap.size + 1 + 2 ≤ b := fun b e => (hown2.lt b e).1
    have bo3 := bo2.grown hg3 (own_blk_ne hown2 bo2 (by decide))
    have br3 := br2.grown hg3 (fun e => by have := hlo _ e.symm; omega)
    have bel3 := bel2.grown hg3 (by rw [← hsz2]; omega) (fun b e => by have := hlo b e; omega)
    have ko3 := ko2.trans (keepsOthers_own hown2 hg3)
    have kb3 : w2.heap[w1.heap.size + 2]? = W.heap[w1.heap.size + 2]? := (hg3.block _ (by rw [← hsz2]; omega) (fun e => by have := hlo _ e.symm; omega)).trans kb2
    have hsz3 : w1.heap.size + 1 + 2 ≤ w2.heap.size := by have := hg3.size; rw [← hsz2] at this; omega
    have s0 := (bo3.cell 0).trans rfl
    have s1 := bo3.frozen 0
    have hlo3 : ∀ b, (Value.slice A2' ((Rf.udX d pre).length + 1) c2').ownBlock = some b → w1.heap.size + 1 + 2 ≤ b := fun b e => (hown3.lt b e).1
    have hne3 : some (w1.heap.size + 1) ≠ (Value.slice A2' ((Rf.udX d pre).length + 1) c2').ownBlock := fun e => by have := hlo3 _ e.symm; omega
    have stN : UdSt w (w2.setCell ⟨w1.heap.size + 1, 0, none⟩ (.slice A2' ((Rf.udX d pre).length + 1) c2')) (w1.heap.size + 1) A2' c2' (Rf.udX d (pre ++ [x])) := by
      rw [HUX.out]
      have hl2 : (Rf.udX d pre ++ [Rf.inv y.upd]).length = (Rf.udX d pre).length + 1 := by simp
      refine ⟨br3.far (p := ⟨w1.heap.size + 1, 0, none⟩) (by simp only; omega) _, ?_, ?_, bel3.setCell (p := ⟨w1.heap.size + 1, 0, none⟩) (by simp only; omega) _, hi.ord, by simp [World.setCell]; omega⟩
      · rw [hl2]; simpa using bo3.set_ 0 _
      · rw [hl2]
        have := own_setCell (p := ⟨w1.heap.size + 1, 0, none⟩) hown3 hne3 (.slice A2' ((Rf.udX d pre).length + 1) c2')
        have e : usV (Rf.udX d pre ++ [Rf.inv y.upd]) = usV (Rf.udX d pre) ++ [strV y.upd.name, .int .i64 y.upd.new, .int .i64 y.upd.old] := by simp [uC, Rf.inv]
        rw [e]; exact this
    have kpN : KpE w.heap.size (w1.heap.size + 2) W (w2.setCell ⟨w1.heap.size + 1, 0, none⟩ (.slice A2' ((Rf.udX d pre).length + 1) c2')) :=
      ⟨((((Below.refl w.heap.size W).alloc hi.bel.size (.cells #[strV y.upd.name, .int .i64 y.upd.new, .int .i64 y.upd.old] 28)).alloc (by have := hi.bel.size; simp; omega) (.cells #[strV y.upd.name, .int .i64 y.upd.new, .int .i64 y.upd.old] 28)).grown hg3 (by rw [← hsz2]; omega) (fun b e => by have := hlo b e; omega)).setCell (p := ⟨w1.heap.size + 1, 0, none⟩) (by simp only; omega) _, (Below.heap_setCell w2 ⟨w1.heap.size + 1, 0, none⟩ _ (w1.heap.size + 2) (by simp)).trans kb3⟩
    clear hg3 hown2 hown3 bo2 br2 bel2 ko2 hcells bel3 br3 bX e0 e1 e2 e3
    gi_wp2
    exact ⟨(ko3.trans (KeepsOthers.setCell _ _ _)).from _, kpN, A2', c2', stN⟩
  case done =>
    rintro D ys W hD hS ⟨A', c', hi⟩ hK
    have hfin : Hid (Rf.udX d ys = Rf.udL d) := Lib.hid (by rw [hS]; exact Rf.udX_down d)
    obtain ⟨q0, q1, q2, q3, q4, q5, q6, q7⟩ := hi.facts
    rw [hszl] at hD
    generalize hxs : Rf.udX d ys = xs at *
    have hcap : xs.length ≤ c' := by
      obtain ⟨A'', c'', e1, hcc, _⟩ := own_form hi.own
      injection e1 with _ _ e3
      subst e3; exact hcc
    have hlo : ∀ b, (Value.slice A' xs.length c').ownBlock = some b → w1.heap.size + 1 + 2 ≤ b := fun b e => (hi.own.lt b e).1
    have hne : some (w.heap.size + 1) ≠ (Value.slice A' xs.length c').ownBlock := fun e => by have := hlo _ e.symm; omega
    have hneD : D ≠ w.heap.size + 1 := by omega
    gi_wp2
    have hKD : ((W.setCell ⟨w.heap.size + 1, 0, none⟩ (.int .i64 0)).setCell ⟨w.heap.size + 1, 1, none⟩ (.int .i64 0)).heap[D]? = some (.deferred (some [])) := (heap_setCell_ne' _ (w.heap.size + 1) 1 D (.int .i64 0) hneD).trans ((heap_setCell_ne' W (w.heap.size + 1) 0 D (.int .i64 0) hneD).trans hK)
    refine ⟨by simp, .inl ⟨_, _, rfl, run_takeDeferred hKD, ?_⟩⟩
    have hg := grownBy_putObj' ((W.setCell ⟨w.heap.size + 1, 0, none⟩ (.int .i64 0)).setCell ⟨w.heap.size + 1, 1, none⟩ (.int .i64 0)) D (.deferred none)
    have r2 := (blk_put2 hi.r2 (.int .i64 0) (.int .i64 0)).grown hg (fun e => by injection e with e; omega)
    have own2 := ownsRow_putObj (own_setCell (p := ⟨w.heap.size + 1, 1, none⟩) (own_setCell (p := ⟨w.heap.size + 1, 0, none⟩) hi.own hne (.int .i64 0)) hne (.int .i64 0)) (.deferred none) hKD rfl
    have bel2 := ((hi.bel.setCell (p := ⟨w.heap.size + 1, 0, none⟩) (by simp only; omega) (.int .i64 0)).setCell (p := ⟨w.heap.size + 1, 1, none⟩) (by simp only; omega) (.int .i64 0)).grown hg (by have := hi.bel.size; simp [World.setCell]; omega) (fun b e => by injection e with e; omega)
    exact ⟨_, results_tc30 rfl _ _ (w.heap.size + 1) (.int .i64 0) (.int .i64 0) (.slice A' xs.length c') rfl rfl r2, UdPost.mk_ (by rw [HPF.out, ← hfin.out]) hcap (SA.of_own' own2 (fun b hb hU => by have := hlo b hb; unfold Under at hU; omega)) bel2⟩
  case stop =>
    rintro D c pre W _ _ h _
    exact h.elim
end Go.Proofs.YtfbbgnhelannjaaDoor
namespace Rf
theorem rpF_cases (b : List R) (l : List E) : ((rpF b l).2.1 ≠ 0 ∧ (rpF b l).1 = []) ∨ (LOk b l ∧ rpF b l = (stAt b l l.length, (0, 0))) := by
  unfold rpF
  by_cases h1 : (lgF b l).1 ≠ 0
  · left; rw [if_pos h1]; exact ⟨h1, rfl⟩
  · right; rw [if_neg h1]
    exact ⟨(lgF_ok (by simpa using h1)).2, rfl⟩
theorem rpF_ok {b : List R} {l : List E} (h : LOk b l) : rpF b l = (stAt b l l.length, (0, 0)) := by
  unfold rpF; rw [h.f, if_neg (by decide)]
theorem ofF_ok {l : List E} (h : l.length ≤ 60) (n : Nm) : ofF l n = (ofL l n, (0, 0)) := by
  unfold ofF; rw [if_neg (by omega)]
/-- The references of one name. -/
def ownR (s : List R) (n : Nm) : List R := s.filter fun x => decide (x.name = n)
theorem ownR_len (s : List R) (n : Nm) : (ownR s n).length ≤ s.length := List.length_filter_le _ _
end Rf
namespace Go.Proofs.YtfbbgnhelannjaaDoor
open Go.RowKit Go.V Go.Shelf Go.Lib
set_option linter.unusedVariables false

theorem size_alloc_le (w : World) (o : Obj) : w.heap.size ≤ (w.alloc o).heap.size := by simp
theorem rC_one (x : Rf.R) : ∀ u ∈ ([strV x.name, .int .i64 x.tgt] : List Value), u.oneCell' = true := by
  intro v hv; simp at hv; rcases hv with rfl | rfl <;> rfl
structure LnSt (w wr : World) (gx kb : Nat) (A : Option Addr) (n k : Nat) (Ax : Option Addr) (xs : List Rf.R) (cx : Nat) (Al : Option Addr) (pl : List Rf.E) (v : Value) : Prop where
  bx : Blk wr w.heap.size 26 #[.slice A n k]
  bX : Blk wr gx 26 #[.slice Ax xs.length cx]
  bo : Blk wr kb 26 #[v]
  rx : SA wr (From kb) Ax (rsV xs)
  rl : SA wr (From kb) Al (esV pl)
  bel : Below w.heap.size w wr
  ord : w.heap.size < kb ∧ gx < kb
section
variable {w wr w' : World} {gx kb : Nat} {A : Option Addr} {n k : Nat} {Ax : Option Addr} {xs : List Rf.R} {cx : Nat} {Al : Option Addr} {pl : List Rf.E} {v : Value}
theorem LnSt.below (h : LnSt w wr gx kb A n k Ax xs cx Al pl v) (hb : Below wr.heap.size wr w') : LnSt w w' gx kb A n k Ax xs cx Al pl v :=
  ⟨h.bx.below hb h.bx.lt, h.bX.below hb h.bX.lt, h.bo.below hb h.bo.lt, h.rx.keep (Keeps.below hb fun _ _ h => h), h.rl.keep (Keeps.below hb fun _ _ h => h), h.bel.trans (hb.mono h.bel.size), h.ord⟩
theorem LnSt.grown (h : LnSt w wr gx kb A n k Ax xs cx Al pl v) {row : Option Nat} (hg : wr.grownBy w' row) (hr : ∀ b, row = some b → kb + 1 ≤ b) : LnSt w w' gx kb A n k Ax xs cx Al pl v := by
  obtain ⟨o1, o2⟩ := h.ord
  exact ⟨h.bx.grown hg (fun e => by have := hr _ e.symm; omega), h.bX.grown hg (fun e => by have := hr _ e.symm; omega), h.bo.grown hg (fun e => by have := hr _ e.symm; omega),
    h.rx.keep (Keeps.grown hg (fun b e _ => by have := hr b e; unfold From; omega) (fun _ _ h => h)), h.rl.keep (Keeps.grown hg (fun b e _ => by have := hr b e; unfold From; omega) (fun _ _ h => h)), h.bel.grown hg h.bel.size (fun b e => by have := hr b e; omega), h.ord⟩
theorem LnSt.set (h : LnSt w wr gx kb A n k Ax xs cx Al pl v) (v2 : Value) : LnSt w (wr.setCell ⟨kb, 0, none⟩ v2) gx kb A n k Ax xs cx Al pl v2 := by
  obtain ⟨o1, o2⟩ := h.ord
  exact ⟨h.bx.far (p := ⟨kb, 0, none⟩) (by simp only; omega) _, h.bX.far (p := ⟨kb, 0, none⟩) (by simp only; omega) _, by simpa using h.bo.set_ 0 v2,
    h.rx.keep (Keeps.setCell wr _ ⟨kb, 0, none⟩ v2 (Nat.le_refl kb)), h.rl.keep (Keeps.setCell wr _ ⟨kb, 0, none⟩ v2 (Nat.le_refl kb)), h.bel.setCell (p := ⟨kb, 0, none⟩) (show w.heap.size ≤ kb by omega) _, h.ord⟩
theorem LnSt.facts (h : LnSt w wr gx kb A n k Ax xs cx Al pl v) : wr.cell? ⟨w.heap.size, 0, none⟩ = some (.slice A n k) ∧ wr.cell? ⟨kb, 0, none⟩ = some v ∧ wr.frozen? ⟨kb, 0, none⟩ = false ∧ wr.cell? ⟨gx, 0, none⟩ = some (.slice Ax xs.length cx) ∧ w.heap.size < wr.heap.size ∧ kb < wr.heap.size ∧ gx < wr.heap.size :=
  ⟨(h.bx.cell 0).trans rfl, (h.bo.cell 0).trans rfl, h.bo.frozen 0, (h.bX.cell 0).trans rfl, h.bx.lt, h.bo.lt, h.bX.lt⟩
end
set_option maxRecDepth 100000 in
set_option maxHeartbeats 64000000 in
theorem law12_any (w : World) (hm : Mx w) (A : Option Addr) (k : Nat) (s : List Rf.R) (hv : SA w Free A (rsV s)) (hl : s.length * 24 ≤ 140737488351232) (hk : s.length ≤ k)
    (A2 : Option Addr) (k2 : Nat) (l : List Rf.E) (hv2 : SA w Free A2 (esV l)) (hl2 : l.length * 40 ≤ 140737488351232) (n : List UInt8) :
    Calls Tryd.prog 12 #[.agg #[.slice A s.length k], .slice A2 l.length k2, strV n] w fun e w' => e = .returned (.bool true) ∧ Below w.heap.size w w' := by
  obtain ⟨i0, hi0, hz0, hz1, hz2⟩ := info_parts info51
  have hM := Lib.hid hm
  have HMX := Lib.hid hm.fun_
  have V0 := Lib.hid hv
  have V2 := Lib.hid hv2
  have HV := Lib.hid (fun (w1 : World) (hb : Below w.heap.size w w1) => hv.keep (free_below hb))
  have HRC := Lib.hid (Rf.rpF_cases s l)
  have HOF := Lib.hid (fun h => Rf.ofF_ok (l := l) h n)
  have H32 := Lib.hid (fun (w1 : World) (hm : Mx w1) (hv : SA w1 Free A (rsV s)) (hv2 : SA w1 Free A2 (esV l)) => replay_any w1 hm A k s hv (by omega) hk A2 k2 l hv2)
  have H38 := Lib.hid (fun (w1 : World) (hv2 : SA w1 Free A2 (esV l)) => of_any w1 A2 k2 l n hv2 (by omega))
  have HNI := Lib.hid (fun (h : Rf.LOk s l) => Rf.names_indep h n)
  clear hm hv hv2
  generalize hr : Rf.rpF s l = r at *
  generalize hq : Rf.ofF l n = q at *
  clear hr hq
  have HB0 := Lib.hid (Below.refl w.heap.size w)
  go_enter Tryd.func12, Tryd.ntmps12
  have bx := Blk.new w 26 #[.slice A s.length k]
  have HBa1 := Lib.hid (HB0.out.alloc HB0.out.size (.cells #[.slice A s.length k] 26))
  replace hM := Lib.hid (hM.out.below (below_alloc1 w (.cells #[.slice A s.length k] 26)))
  replace V0 := Lib.hid (V0.out.keep (Keeps.alloc w _ (.cells #[.slice A s.length k] 26)))
  replace V2 := Lib.hid (V2.out.keep (Keeps.alloc w _ (.cells #[.slice A s.length k] 26)))
  go_wp2_with fail
  go_at_call 31
  refine (logExample_any _ hM.out).mono ?_
  rintro e w1 ⟨rfl, hb1'⟩
  have HBm1 := Lib.hid (HBa1.out.trans (hb1'.mono HBa1.out.size))
  replace bx := bx.below hb1' bx.lt
  replace hM := Lib.hid (hM.out.below hb1')
  replace V0 := Lib.hid (V0.out.keep (free_below hb1'))
  replace V2 := Lib.hid (V2.out.keep (free_below hb1'))
  have bx_l : w.heap.size < w1.heap.size := bx.lt
  have bx_l1 : w.heap.size < w1.heap.size + 1 := Nat.lt_succ_of_lt bx_l
  have bx_l2 : w.heap.size < w1.heap.size + 1 + 1 := Nat.lt_succ_of_lt bx_l1
  have bx_0 : w1.cell? ⟨w.heap.size, 0, none⟩ = some (.slice A s.length k) := (bx.cell 0).trans rfl
  clear hb1'
  obtain ⟨xs, c1, i1⟩ := r
  go_wp2_with fail
  go_at_call 32
  refine (H32.out _ hM.out V0.out V2.out).mono ?_
  rintro e w2 ⟨Ax, cx, rfl, hcx, hsx, hb2'⟩
  have HBm2 := Lib.hid (HBm1.out.trans (hb2'.mono HBm1.out.size))
  replace bx := bx.below hb2' bx.lt
  replace hM := Lib.hid (hM.out.below hb2')
  replace V0 := Lib.hid (V0.out.keep (free_below hb2'))
  replace V2 := Lib.hid (V2.out.keep (free_below hb2'))
  clear bx_l bx_l1 bx_l2 bx_0
  have bx_l : w.heap.size < w2.heap.size := bx.lt
  have bx_l1 : w.heap.size < w2.heap.size + 1 := Nat.lt_succ_of_lt bx_l
  have bx_l2 : w.heap.size < w2.heap.size + 1 + 1 := Nat.lt_succ_of_lt bx_l1
  have bx_0 : w2.cell? ⟨w.heap.size, 0, none⟩ = some (.slice A s.length k) := (bx.cell 0).trans rfl
  have Vx := Lib.hid (hsx.mono (X' := Free) (fun _ h => h.elim))
  clear hsx
  clear hb2'
  simp only at *
  replace bx := bx.alloc (.cells #[.slice Ax xs.length cx] 26)
  have x := Blk.new w2 26 #[.slice Ax xs.length cx]
  have HBa2 := Lib.hid (HBm2.out.alloc HBm2.out.size (.cells #[.slice Ax xs.length cx] 26))
  replace hM := Lib.hid (hM.out.below (below_alloc1 w2 (.cells #[.slice Ax xs.length cx] 26)))
  replace V0 := Lib.hid (V0.out.keep (Keeps.alloc w2 _ (.cells #[.slice Ax xs.length cx] 26)))
  replace V2 := Lib.hid (V2.out.keep (Keeps.alloc w2 _ (.cells #[.slice Ax xs.length cx] 26)))
  replace Vx := Lib.hid (Vx.out.keep (Keeps.alloc w2 _ (.cells #[.slice Ax xs.length cx] 26)))
  replace bx := bx.alloc (.cells #[.int .i64 c1, .int .i64 i1] 30)
  replace x := x.alloc (.cells #[.int .i64 c1, .int .i64 i1] 30)
  have f : Blk ((w2.alloc (.cells #[.slice Ax xs.length cx] 26)).alloc (.cells #[.int .i64 c1, .int .i64 i1] 30)) (w2.heap.size + 1) 30 #[.int .i64 c1, .int .i64 i1] := by simpa using Blk.new (w2.alloc (.cells #[.slice Ax xs.length cx] 26)) 30 #[.int .i64 c1, .int .i64 i1]
  have HBa3 := Lib.hid (HBa2.out.alloc HBa2.out.size (.cells #[.int .i64 c1, .int .i64 i1] 30))
  replace hM := Lib.hid (hM.out.below (below_alloc1 (w2.alloc (.cells #[.slice Ax xs.length cx] 26)) (.cells #[.int .i64 c1, .int .i64 i1] 30)))
  replace V0 := Lib.hid (V0.out.keep (Keeps.alloc (w2.alloc (.cells #[.slice Ax xs.length cx] 26)) _ (.cells #[.int .i64 c1, .int .i64 i1] 30)))
  replace V2 := Lib.hid (V2.out.keep (Keeps.alloc (w2.alloc (.cells #[.slice Ax xs.length cx] 26)) _ (.cells #[.int .i64 c1, .int .i64 i1] 30)))
  replace Vx := Lib.hid (Vx.out.keep (Keeps.alloc (w2.alloc (.cells #[.slice Ax xs.length cx] 26)) _ (.cells #[.int .i64 c1, .int .i64 i1] 30)))
  obtain ⟨pl, c2, i2⟩ := q
  go_wp2_with fail
  go_at_call 38
  refine (H38.out _ V2.out).mono ?_
  rintro e w3 ⟨Al, cl, rfl, hcl, hsl, hb3'⟩
  have HBm3 := Lib.hid (HBa3.out.trans (hb3'.mono HBa3.out.size))
  replace bx := bx.below hb3' bx.lt
  replace x := x.below hb3' x.lt
  replace f := f.below hb3' f.lt
  replace hM := Lib.hid (hM.out.below hb3')
  replace V0 := Lib.hid (V0.out.keep (free_below hb3'))
  replace V2 := Lib.hid (V2.out.keep (free_below hb3'))
  replace Vx := Lib.hid (Vx.out.keep (free_below hb3'))
  clear bx_l bx_l1 bx_l2 bx_0
  have bx_l : w.heap.size < w3.heap.size := bx.lt
  have bx_l1 : w.heap.size < w3.heap.size + 1 := Nat.lt_succ_of_lt bx_l
  have bx_l2 : w.heap.size < w3.heap.size + 1 + 1 := Nat.lt_succ_of_lt bx_l1
  have bx_0 : w3.cell? ⟨w.heap.size, 0, none⟩ = some (.slice A s.length k) := (bx.cell 0).trans rfl
  have x_l : w2.heap.size < w3.heap.size := x.lt
  have x_l1 : w2.heap.size < w3.heap.size + 1 := Nat.lt_succ_of_lt x_l
  have x_l2 : w2.heap.size < w3.heap.size + 1 + 1 := Nat.lt_succ_of_lt x_l1
  have x_0 : w3.cell? ⟨w2.heap.size, 0, none⟩ = some (.slice Ax xs.length cx) := (x.cell 0).trans rfl
  have f_l : w2.heap.size + 1 < w3.heap.size := f.lt
  have f_l1 : w2.heap.size + 1 < w3.heap.size + 1 := Nat.lt_succ_of_lt f_l
  have f_l2 : w2.heap.size + 1 < w3.heap.size + 1 + 1 := Nat.lt_succ_of_lt f_l1
  have f_0 : w3.cell? ⟨w2.heap.size + 1, 0, none⟩ = some (.int .i64 c1) := (f.cell 0).trans rfl
  have f_1 : w3.cell? ⟨w2.heap.size + 1, 1, none⟩ = some (.int .i64 i1) := (f.cell 1).trans rfl
  have Vl := Lib.hid (hsl.mono (X' := Free) (fun _ h => h.elim))
  clear hsl
  clear hb3'
  simp only at *
  have hw3 : w.heap.size < w3.heap.size := bx_l
  have hw4 : w2.heap.size < w3.heap.size := x_l
  replace bx := bx.alloc (.cells #[.int .i64 c2, .int .i64 i2] 30)
  replace x := x.alloc (.cells #[.int .i64 c2, .int .i64 i2] 30)
  replace f := f.alloc (.cells #[.int .i64 c2, .int .i64 i2] 30)
  have g := Blk.new w3 30 #[.int .i64 c2, .int .i64 i2]
  have HBa4 := Lib.hid (HBm3.out.alloc HBm3.out.size (.cells #[.int .i64 c2, .int .i64 i2] 30))
  replace hM := Lib.hid (hM.out.below (below_alloc1 w3 (.cells #[.int .i64 c2, .int .i64 i2] 30)))
  replace V0 := Lib.hid (V0.out.keep (Keeps.alloc w3 _ (.cells #[.int .i64 c2, .int .i64 i2] 30)))
  replace V2 := Lib.hid (V2.out.keep (Keeps.alloc w3 _ (.cells #[.int .i64 c2, .int .i64 i2] 30)))
  replace Vx := Lib.hid (Vx.out.keep (Keeps.alloc w3 _ (.cells #[.int .i64 c2, .int .i64 i2] 30)))
  replace Vl := Lib.hid (Vl.out.keep (Keeps.alloc w3 _ (.cells #[.int .i64 c2, .int .i64 i2] 30)))
  rcases HRC.out with ⟨hc, hx⟩ | ⟨hok, he⟩
  · have hx1 : (c1 == 0) = false := by simpa using hc
    have hx2 : (c1 != 0) = true := by simpa using hc
    subst hx
    clear HRC HOF H32 H38 HNI hc
    go_wp2_with fail
    go_ret
    exact ⟨by simp, HBa4.out⟩
  · injection he with e1 e2
    injection e2 with e2 e3
    subst e2
    subst e3
    have hof := HOF.out hok.len
    injection hof with e4 e5
    injection e5 with e5 e6
    subst e5
    subst e6
    have HE1 := Lib.hid e1
    have HE4 := Lib.hid e4
    have HNI2 := Lib.hid (HNI.out hok)
    have hsl30 := hok.base.len
    have hxl : xs.length ≤ 31 := by rw [e1]; have := (hok.stOk l.length).len; omega
    clear e1 e4 HOF HRC HNI hok H32 H38
    have st0 : LnSt w ((w3.alloc (.cells #[.int .i64 0, .int .i64 0] 30)).alloc (.cells #[.slice none 0 0] 26)) w2.heap.size (w3.heap.size + 1) A s.length k Ax xs cx Al pl (.slice none 0 0) := ⟨bx.alloc _, x.alloc _, by simpa using Blk.new (w3.alloc (.cells #[.int .i64 0, .int .i64 0] 30)) 26 #[.slice none 0 0], Vx.out.keep (Keeps.below (below_alloc1 _ _) (fun b hb hX => by unfold From at hX; simp at hb; omega)), Vl.out.keep (Keeps.below (below_alloc1 _ _) (fun b hb hX => by unfold From at hX; simp at hb; omega)), HBa4.out.alloc HBa4.out.size _, by omega, by omega⟩
    have hown0 := World.ownsRow_nil ((w3.alloc (.cells #[.int .i64 0, .int .i64 0] 30)).alloc (.cells #[.slice none 0 0] 26)) (w3.heap.size + 1 + 1) 51 2
    go_wp2_with fail
    clear bx_l bx_l1 bx_l2 bx_0 x_l x_l1 x_l2 x_0 f_l f_l1 f_l2 f_0 f_1
    clear bx f g x V0 Vl Vx hM V2 HBm1 HBm2 HBm3 HBa1 HBa2 HBa3 HBa4 HB0 hw3 hw4
    obtain ⟨kb, hkb⟩ : ∃ kb, kb = w3.heap.size + 1 := ⟨_, rfl⟩
    obtain ⟨gx, hgx⟩ : ∃ gx, gx = w2.heap.size := ⟨_, rfl⟩
    simp only [← hkb, ← hgx] at *
    go_loopw [12] (fun iv wr => ∃ (i : Nat) (o : List Rf.R) (A' : Option Addr) (c' : Nat), i ≤ s.length ∧ iv = .int .i64 i ∧ o.length ≤ i ∧ Hid (o = Rf.ownR (s.take i) n) ∧ LnSt w wr gx kb A s.length k Ax xs cx Al pl (.slice A' o.length c') ∧ wr.ownsRow (kb + 1) 51 2 (.slice A' o.length c') o.length (rsV o)) (fun iv _ => s.length - (intOf iv).toNat)
    case atStart => exact ⟨0, [], none, 0, Nat.zero_le _, rfl, Nat.le_refl _, Lib.hid rfl, st0, hown0⟩
    case round =>
      obtain ⟨i, o, A', c', hi, rfl, hol, HO, st, hown⟩ := hrel
      obtain ⟨wo, rfl⟩ : ∃ wo : World, wo = wr := ⟨_, rfl⟩
      obtain ⟨a0, a1, a2, a3, l0, l1, l2⟩ := st.facts
      by_cases hlt : i < s.length
      · have hlt' : (i : Int) < s.length := by omega
        obtain ⟨b, off, e, hbb, _, d0, d1⟩ := rsV_row (HV.out _ st.bel) i hlt
        subst e
        have HT : Hid (s.take (i + 1) = s.take i ++ [Rf.it s i]) := Lib.hid (by rw [List.take_succ_eq_append_getElem hlt, Rf.it_eq s i hlt])
        generalize Rf.it s i = x at *
        by_cases hp : x.name = n
        · have HN2 : Hid (o ++ [x] = Rf.ownR (s.take (i + 1)) n) := Lib.hid (by rw [HT.out, HO.out]; unfold Rf.ownR; rw [List.filter_append]; simp [hp])
          have hp1 : (x.name == n) = true := by simpa using hp
          clear HT HO hp
          have h63 : o.length + 1 ≤ maxLen := by unfold maxLen; omega
          have hby : (o.length + 1) * 24 ≤ 140737488355328 := by omega
          have hub : ∀ b, (Value.slice A' o.length c').ownBlock = some b → kb + 1 ≤ b := fun b e => (hown.lt b e).1
          go_wp2_with fail
          go_region_law
            (first
              | (refine step_appNo _ rfl (.tmp 63) (.tmp 69) 24 rfl (kb + 1) 51 i0 _ 2 24 Tryd.underlying24 hi0 hz0 hz1 hz2 rfl (by decide) A' o.length c' (rsV o) rfl (hown.alloc _).drew wo.heap.size 1 [strV x.name, .int .i64 x.tgt] rfl rfl (fun j v hj => cells_new wo #[strV x.name, .int .i64 x.tgt] 51 j v hj) (rC_one x) h63 hby (Nat.le_trans (Nat.succ_le_of_lt l1) (size_alloc_le _ _)) ?_; intro ge ce wz hown4 hg4 hob4; have s4 := (st.below (below_drew' (below_alloc1 wo (.cells #[strV x.name, .int .i64 x.tgt] 51)))).grown hg4 hub; obtain ⟨r0, r1, r2, r3, m0, m1, m2⟩ := s4.facts))
          all_goals
            have hne2 : some kb ≠ (Value.slice (some ⟨ge, 0, none⟩) (o.length + 1) ce).ownBlock := fun e => by have := (hown4.lt _ e.symm).1; omega
            have s5 := s4.set (.slice (some ⟨ge, 0, none⟩) (o.length + 1) ce)
            have own5 := own_setCell (p := ⟨kb, 0, none⟩) hown4 hne2 (.slice (some ⟨ge, 0, none⟩) (o.length + 1) ce)
            have eo5 : rsV o ++ [strV x.name, .int .i64 x.tgt] = rsV (o ++ [x]) := rsV_snoc o x
            rw [eo5] at own5
            have hol3 : (o ++ [x]).length = o.length + 1 := by simp
            clear hown4 hg4 hob4 s4 eo5
            go_wp2_with fail
            go_roundw
            case rel => exact ⟨i + 1, o ++ [x], _, ce, by omega, by go_num, by simp; omega, HN2, by rw [hol3]; exact s5, by rw [hol3]; exact own5⟩
            case measure => simp [intOf]; omega
        · have HN2 : Hid (o = Rf.ownR (s.take (i + 1)) n) := Lib.hid (by rw [HT.out, HO.out]; unfold Rf.ownR; rw [List.filter_append]; simp [hp])
          have hp1 : (x.name == n) = false := by simpa using hp
          clear HT HO hp
          go_wp2_with fail
          go_roundw
          case rel => exact ⟨i + 1, o, A', c', by omega, by go_num, by omega, HN2, st, hown⟩
          case measure => simp [intOf]; omega
      · obtain rfl : i = s.length := by omega
        have hO : o = Rf.ownR s n := by rw [HO.out, List.take_length]
        clear HO
        have hcap : o.length ≤ c' := by
          obtain ⟨A'', c'', e1, hcc, _⟩ := own_form hown
          injection e1 with _ _ e3
          subst e3; exact hcc
        have HRP : Hid (Calls Tryd.prog 32 #[.agg #[.slice A' o.length c'], .slice Al pl.length cl] wo (UpPost wo (Rf.stAt o pl pl.length, (0, 0)))) := Lib.hid (by
          have h := replay_any wo (HMX.out _ st.bel) A' c' o (SA.of_own' hown (fun _ _ h => h)) (by omega) hcap Al cl pl (st.rl.mono (fun _ h => h.elim))
          rw [Rf.rpF_ok (by rw [hO, HE4.out]; exact HNI2.out.1)] at h
          exact h)
        have HTE : Hid (Rf.tgtOf (Rf.stAt o pl pl.length) n = Rf.tgtOf xs n) := Lib.hid (by rw [hO, HE4.out, HE1.out]; exact HNI2.out.2)
        have hyl : (Rf.stAt o pl pl.length).length ≤ 30 := by
          have h := (HNI2.out.1.stOk (Rf.ofL l n).length).len
          rw [hO, HE4.out]; exact h
        clear hO HNI2 HE1 HE4
        generalize Rf.stAt o pl pl.length = ys at *
        go_wp2_with fail
        go_at_call 32
        refine HRP.out.mono ?_
        rintro e w8 ⟨Ay, cy, rfl, hcy, hsy, hb8⟩
        simp only at hcy hsy
        have st8 := st.below hb8
        have st9 := st8.below (below_alloc2 w8 (.cells #[.slice Ay ys.length cy] 26) (.cells #[.int .i64 0, .int .i64 0] 30))
        have hy9 : SA ((w8.alloc (.cells #[.slice Ay ys.length cy] 26)).alloc (.cells #[.int .i64 0, .int .i64 0] 30)) Free Ay (rsV ys) := (hsy.mono (X' := Free) fun _ h => h.elim).keep ((Keeps.alloc _ _ _).trans (Keeps.alloc _ _ _))
        have by9 : Blk ((w8.alloc (.cells #[.slice Ay ys.length cy] 26)).alloc (.cells #[.int .i64 0, .int .i64 0] 30)) w8.heap.size 26 #[.slice Ay ys.length cy] := (Blk.new _ _ _).alloc _
        have bh9 := blk_new1 w8 (.cells #[.slice Ay ys.length cy] 26) 30 #[.int .i64 0, .int .i64 0]
        clear HRP st hb8 hown a0 a1 a2 a3 l0 l1 l2 hsy st8
        go_wp2_with fail
        generalize (w8.alloc (.cells #[.slice Ay ys.length cy] 26)).alloc (.cells #[.int .i64 0, .int .i64 0] 30) = wz at *
        have HK : Hid (∀ w6 : World, Below wz.heap.size wz w6 → w6.cell? ⟨gx, 0, none⟩ = some (.slice Ax xs.length cx) ∧ w6.cell? ⟨w8.heap.size, 0, none⟩ = some (.slice Ay ys.length cy) ∧ w6.cell? ⟨w8.heap.size + 1, 0, none⟩ = some (.int .i64 0)) := Lib.hid fun w6 h6 => ⟨(h6.cell (p := ⟨_, _, none⟩) st9.bX.lt).trans ((st9.bX.cell 0).trans rfl), (h6.cell (p := ⟨_, _, none⟩) by9.lt).trans ((by9.cell 0).trans rfl), (h6.cell (p := ⟨_, _, none⟩) bh9.lt).trans ((bh9.cell 0).trans rfl)⟩
        have hk0 : Below wz.heap.size wz wz.drew := below_drew' (Below.refl _ _)
        have HTX := Lib.hid (fun (w6 : World) (h6 : Below wz.heap.size wz w6) => refTarget_any w6 Ax cx xs n ((st9.rx.mono (X' := Free) fun _ h => h.elim).keep (free_below h6)) (by omega))
        have HTY := Lib.hid (fun (w6 : World) (h6 : Below wz.heap.size wz w6) => by
          have h := refTarget_any w6 Ay cy ys n (hy9.keep (free_below h6)) (by omega)
          rw [HTE.out] at h
          exact h)
        have hbz := Lib.hid st9.bel
        generalize Rf.tgtOf xs n = tg at *
        have htt : (tg == tg) = true := by simp
        clear st9 hy9 by9 bh9 HTE
        go_region_held3 (fun w6 => w6.cell? ⟨gx, 0, none⟩ = some (.slice Ax xs.length cx) ∧ w6.cell? ⟨w8.heap.size, 0, none⟩ = some (.slice Ay ys.length cy) ∧ w6.cell? ⟨w8.heap.size + 1, 0, none⟩ = some (.int .i64 0))
          (first | exact HK.out _ hk0 | exact HK.out _ hk1 | exact HK.out _ hk2)
          (first | (go_at_call 30; (with_reducible refine (HTX.out _ hk0).mono ?_); rintro e v1 ⟨rfl, hv1⟩; have hk1 : Below wz.heap.size wz v1 := hk0.trans (hv1.mono hk0.size)) | (go_at_call 30; (with_reducible refine (HTY.out _ hk1).mono ?_); rintro e v2 ⟨rfl, hv2⟩; have hk2 : Below wz.heap.size wz v2 := hk1.trans (hv2.mono hk1.size)))
        have hbf := hbz.out.trans (hk2.mono hbz.out.size)
        go_wp2_with fail
        go_ret
        exact ⟨by simp, hbf⟩
end Go.Proofs.YtfbbgnhelannjaaDoor
namespace Go.Proofs.YtfbbgnhelannjaaDoor
open Go.RowKit Go.V Go.Shelf Go.Lib
set_option linter.unusedVariables false

section
variable {w0 w9 : World} {rl : List Rf.R} {c i : Int} {A : Option Addr} {k n : Nat}
theorem rs_ne {g : Nat} {t : TypeId} {cs : Array Value} (hs : SA w9 Free A (rsV rl)) (hb : Blk w9 g t cs) (hn : ∀ (j : Nat) v, cs[j]? = some v → ∀ l, v ≠ strV l) {X : Nat → Prop} (hX : SA w9 X A (rsV rl)) : SA w9 (fun b => b = g ∨ X b) A (rsV rl) := by
  rcases rl with _ | ⟨x, rl⟩
  · exact .inl rfl
  · rcases hX with h | ⟨b, off, e, h1, h2, h3⟩
    · cases h
    · refine .inr ⟨b, off, e, h1, ?_, h3⟩
      rintro (rfl | h)
      · have h4 := h3 0 _ rfl
        rw [Nat.add_zero, hb.cell off] at h4
        exact hn _ _ h4 _ rfl
      · exact h2 h
theorem ne_slice (a : Option Addr) (n k : Nat) : ∀ (j : Nat) v, (#[Value.slice a n k] : Array Value)[j]? = some v → ∀ l, v ≠ strV l := by
  rintro (_ | j) v h l
  · simp at h; subst h; simp [strV]
  · simp at h
theorem ne_ints (a b : Int) : ∀ (j : Nat) v, (#[Value.int .i64 a, Value.int .i64 b] : Array Value)[j]? = some v → ∀ l, v ≠ strV l := by
  rintro (_ | _ | j) v h l
  · simp at h; subst h; simp [strV]
  · simp at h; subst h; simp [strV]
  · simp at h
theorem TwoOut.aa2 (hq : Below w0.heap.size w0 w9) (hk : rl.length ≤ k) (hs : SA w9 Free A (rsV rl)) : TwoOut w0 rl c i (.pointer (some ⟨w9.heap.size, 0, none⟩)) (.pointer (some ⟨w9.heap.size + 1, 0, none⟩)) ((w9.alloc (.cells #[.slice A rl.length k] 26)).alloc (.cells #[.int .i64 c, .int .i64 i] 30)) :=
  TwoOut.aa (n := 0) hq hk (hs.mono fun _ h => absurd h (Nat.not_lt_zero _))
theorem TwoOut.ab2 (hq : Below w0.heap.size w0 w9) (hk : rl.length ≤ k) (hs : SA w9 Free A (rsV rl)) : TwoOut w0 rl c i (.pointer (some ⟨w9.heap.size + 1, 0, none⟩)) (.pointer (some ⟨w9.heap.size, 0, none⟩)) ((w9.alloc (.cells #[.int .i64 c, .int .i64 i] 30)).alloc (.cells #[.slice A rl.length k] 26)) :=
  TwoOut.ab (n := 0) hq hk (hs.mono fun _ h => absurd h (Nat.not_lt_zero _))
theorem TwoOut.ba2 {g : Nat} (hq : Below w0.heap.size w0 w9) (hk : rl.length ≤ k) (hs : SA w9 Free A (rsV rl)) (hb : Blk w9 g 26 #[.slice none 0 0]) (h0 : w0.heap.size ≤ g) :
    TwoOut w0 rl c i (.pointer (some ⟨g, 0, none⟩)) (.pointer (some ⟨w9.heap.size, 0, none⟩)) ((w9.setCell ⟨g, 0, none⟩ (.slice A rl.length k)).alloc (.cells #[.int .i64 c, .int .i64 i] 30)) := by
  have hs2 := rs_ne hs hb (ne_slice _ _ _) hs
  have hz : (w9.setCell ⟨g, 0, none⟩ (.slice A rl.length k)).heap.size = w9.heap.size := by simp [World.setCell]
  have hb2 : Below w0.heap.size w0 (w9.setCell ⟨g, 0, none⟩ (.slice A rl.length k)) := hq.setCell h0 _
  refine ⟨g, w9.heap.size, A, k, rfl, rfl, ?_, by rw [← hz]; exact Blk.new _ _ _, ((hs2.keep (Keeps.setCell w9 _ ⟨g, 0, none⟩ (.slice A rl.length k) (.inl rfl))).mono (X' := Free) fun _ h => h.elim).keep (Keeps.alloc _ _ _), hk, hb2.alloc hb2.size _⟩
  exact Blk.alloc (by simpa using hb.set_ 0 (.slice A rl.length k)) _
theorem TwoOut.bb2 {g : Nat} (hq : Below w0.heap.size w0 w9) (hk : rl.length ≤ k) (hs : SA w9 Free A (rsV rl)) (hb : Blk w9 g 30 #[.int .i64 0, .int .i64 0]) (h0 : w0.heap.size ≤ g) :
    TwoOut w0 rl c i (.pointer (some ⟨w9.heap.size, 0, none⟩)) (.pointer (some ⟨g, 0, none⟩)) (((w9.setCell ⟨g, 0, none⟩ (.int .i64 c)).setCell ⟨g, 1, none⟩ (.int .i64 i)).alloc (.cells #[.slice A rl.length k] 26)) := by
  have hs2 := rs_ne hs hb (ne_ints _ _) hs
  have hz : ((w9.setCell ⟨g, 0, none⟩ (.int .i64 c)).setCell ⟨g, 1, none⟩ (.int .i64 i)).heap.size = w9.heap.size := by simp [World.setCell]
  have hb2 : Below w0.heap.size w0 ((w9.setCell ⟨g, 0, none⟩ (.int .i64 c)).setCell ⟨g, 1, none⟩ (.int .i64 i)) := (hq.setCell (p := ⟨g, 0, none⟩) h0 _).setCell (p := ⟨g, 1, none⟩) h0 _
  exact ⟨w9.heap.size, g, A, k, rfl, rfl, by rw [← hz]; exact Blk.new _ _ _, (blk_put2 hb _ _).alloc _, ((hs2.keep ((Keeps.setCell w9 _ ⟨g, 0, none⟩ (.int .i64 c) (.inl rfl)).trans (Keeps.setCell _ _ ⟨g, 1, none⟩ (.int .i64 i) (.inl rfl)))).mono (X' := Free) fun _ h => h.elim).keep (Keeps.alloc _ _ _), hk, hb2.alloc hb2.size _⟩
theorem TwoOut.ca2 {g g' : Nat} (hq : Below w0.heap.size w0 w9) (hk : rl.length ≤ k) (hs : SA w9 Free A (rsV rl)) (hb : Blk w9 g 26 #[.slice none 0 0]) (hb' : Blk w9 g' 30 #[.int .i64 0, .int .i64 0]) (hne : g ≠ g') (h0 : w0.heap.size ≤ g) (h0' : w0.heap.size ≤ g') :
    TwoOut w0 rl c i (.pointer (some ⟨g, 0, none⟩)) (.pointer (some ⟨g', 0, none⟩)) (((w9.setCell ⟨g, 0, none⟩ (.slice A rl.length k)).setCell ⟨g', 0, none⟩ (.int .i64 c)).setCell ⟨g', 1, none⟩ (.int .i64 i)) := by
  have hs2 := rs_ne hs hb (ne_slice _ _ _) (rs_ne hs hb' (ne_ints _ _) hs)
  obtain ⟨k1, k2, k3⟩ := put12 hb hb' hne (.slice A rl.length k) (.int .i64 c) (.int .i64 i)
  exact ⟨g, g', A, k, rfl, rfl, k1, k2, (hs2.keep (((Keeps.setCell w9 _ ⟨g, 0, none⟩ (.slice A rl.length k) (.inl rfl)).trans (Keeps.setCell _ _ ⟨g', 0, none⟩ (.int .i64 c) (.inr (.inl rfl)))).trans (Keeps.setCell _ _ ⟨g', 1, none⟩ (.int .i64 i) (.inr (.inl rfl))))).mono (X' := Free) fun _ h => h.elim, hk, k3 _ _ h0 h0' hq⟩
end
end Go.Proofs.YtfbbgnhelannjaaDoor
namespace Rf
theorem tm_take : ∀ {t : Int} {l : List E} (n : Nat), Tm t l → Tm t (l.take n)
  | t, l, 0, _ => by simp [Tm]
  | t, [], n + 1, _ => by simp [Tm]
  | t, e :: l, n + 1, h => by
    obtain ⟨h1, h2, h3⟩ := h
    rw [List.take_succ_cons]
    exact ⟨h1, h2, tm_take n h3⟩
theorem LOk.take {b : List R} {l : List E} (h : LOk b l) (n : Nat) : LOk b (l.take n) :=
  ⟨h.base, by have := h.len; simp; omega, tm_take n h.tm, ⟨_, h.st n⟩⟩
theorem stAt_take (b : List R) (l : List E) (n : Nat) : stAt b (l.take n) (l.take n).length = stAt b l n := by
  unfold stAt; rw [List.take_length]
theorem udF_cases (b : List R) (l : List E) (n : Int) (h : LOk b l) : ((udF b l n).2.1 ≠ 0) ∨ (0 ≤ n ∧ n ≤ l.length ∧ udF b l n = (udL (l.drop (l.length - n.toNat)), (0, 0))) := by
  unfold udF
  rw [h.f, if_neg (by decide)]
  by_cases h2 : n < 0 ∨ (l.length : Int) < n
  · left; rw [if_pos h2]; decide
  · right; rw [if_neg h2]; exact ⟨by omega, by omega, rfl⟩
theorem udL_app {b : List R} {l : List E} (h : LOk b l) (n : Nat) : app (stAt b l l.length) (udL (l.drop (l.length - n))) = some (stAt b l (l.length - n)) := by
  have := undo_restores h n
  rw [List.map_map] at this
  exact this
theorem udL_len (l : List E) : (udL l).length = l.length := by simp [udL]
end Rf
namespace Go.Proofs.YtfbbgnhelannjaaDoor
open Go.RowKit Go.V Go.Shelf Go.Lib
set_option linter.unusedVariables false

theorem esV_take (l : List Rf.E) (m : Nat) : esV (l.take m) = (esV l).take (m * 4) := Fl.take eC_len m l
theorem slice_to54 (W : World) (A : Option Addr) (n k m : Nat) (h : m ≤ k) : (Instr.slice 54 (.slice A n k) none (some (.int .i64 (m : Int))) none).run Tryd.prog W = .ok (.slice A m k) W := by
  have hu := Tryd.underlying54
  have h1 : (m : Int) ≤ k := by omega
  by_cases hk : k = 0
  · subst hk
    obtain rfl : m = 0 := by omega
    simp [Instr.slice, Instr.sliceBounds, Instr.sliceBound, go_sem, hu]
  · have h2 : ¬ k = 0 := hk
    rcases A with _ | ⟨b, off, _⟩ <;> simp [Instr.slice, Instr.sliceBounds, Instr.sliceBound, go_sem, hu, h1, h2] <;> (intro hh; omega)
set_option maxRecDepth 100000 in
set_option maxHeartbeats 64000000 in
theorem law13_any (w : World) (hm : Mx w) (A : Option Addr) (k : Nat) (s : List Rf.R) (hv : SA w Free A (rsV s)) (hl : s.length * 24 ≤ 140737488351232) (hk : s.length ≤ k)
    (A2 : Option Addr) (k2 : Nat) (l : List Rf.E) (hv2 : SA w Free A2 (esV l)) (hl2 : l.length * 40 ≤ 140737488351232) (hk2 : l.length ≤ k2) (n : Int) :
    Calls Tryd.prog 13 #[.agg #[.slice A s.length k], .slice A2 l.length k2, .int .i64 n] w fun e w' => e = .returned (.bool true) ∧ Below w.heap.size w w' := by
  have hM := Lib.hid hm
  have V0 := Lib.hid hv
  have V2 := Lib.hid hv2
  have HRC := Lib.hid (Rf.rpF_cases s l)
  have HUC := Lib.hid (Rf.udF_cases s l n)
  have H32 := Lib.hid (fun (w1 : World) (hm : Mx w1) (hv : SA w1 Free A (rsV s)) (hv2 : SA w1 Free A2 (esV l)) => replay_any w1 hm A k s hv (by omega) hk A2 k2 l hv2)
  have H39 := Lib.hid (fun (w1 : World) (hm : Mx w1) (hv : SA w1 Free A (rsV s)) (hv2 : SA w1 Free A2 (esV l)) => undo_any w1 hm A k s hv (by omega) hk A2 k2 l hv2 (by omega) hk2 n)
  clear hm hv hv2
  generalize hr : Rf.rpF s l = r at *
  generalize hq : Rf.udF s l n = q at *
  clear hr hq
  have HB0 := Lib.hid (Below.refl w.heap.size w)
  go_enter Tryd.func13, Tryd.ntmps13
  have bx := Blk.new w 26 #[.slice A s.length k]
  have HBa1 := Lib.hid (HB0.out.alloc HB0.out.size (.cells #[.slice A s.length k] 26))
  replace hM := Lib.hid (hM.out.below (below_alloc1 w (.cells #[.slice A s.length k] 26)))
  replace V0 := Lib.hid (V0.out.keep (Keeps.alloc w _ (.cells #[.slice A s.length k] 26)))
  replace V2 := Lib.hid (V2.out.keep (Keeps.alloc w _ (.cells #[.slice A s.length k] 26)))
  go_wp2_with fail
  go_at_call 31
  with_reducible refine (logExample_any _ hM.out).mono ?_
  rintro e w1 ⟨rfl, hb1'⟩
  have HBm1 := Lib.hid (HBa1.out.trans (hb1'.mono HBa1.out.size))
  replace bx := bx.below hb1' bx.lt
  replace hM := Lib.hid (hM.out.below hb1')
  replace V0 := Lib.hid (V0.out.keep (free_below hb1'))
  replace V2 := Lib.hid (V2.out.keep (free_below hb1'))
  have bx_l : w.heap.size < w1.heap.size := bx.lt
  have bx_l1 : w.heap.size < w1.heap.size + 1 := Nat.lt_succ_of_lt bx_l
  have bx_l2 : w.heap.size < w1.heap.size + 1 + 1 := Nat.lt_succ_of_lt bx_l1
  have bx_0 : w1.cell? ⟨w.heap.size, 0, none⟩ = some (.slice A s.length k) := (bx.cell 0).trans rfl
  clear hb1'
  obtain ⟨xs, c1, i1⟩ := r
  go_wp2_with fail
  go_at_call 32
  with_reducible refine (H32.out _ hM.out V0.out V2.out).mono ?_
  rintro e w2 ⟨Ax, cx, rfl, hcx, hsx, hb2'⟩
  have HBm2 := Lib.hid (HBm1.out.trans (hb2'.mono HBm1.out.size))
  replace bx := bx.below hb2' bx.lt
  replace hM := Lib.hid (hM.out.below hb2')
  replace V0 := Lib.hid (V0.out.keep (free_below hb2'))
  replace V2 := Lib.hid (V2.out.keep (free_below hb2'))
  clear bx_l bx_l1 bx_l2 bx_0
  have bx_l : w.heap.size < w2.heap.size := bx.lt
  have bx_l1 : w.heap.size < w2.heap.size + 1 := Nat.lt_succ_of_lt bx_l
  have bx_l2 : w.heap.size < w2.heap.size + 1 + 1 := Nat.lt_succ_of_lt bx_l1
  have bx_0 : w2.cell? ⟨w.heap.size, 0, none⟩ = some (.slice A s.length k) := (bx.cell 0).trans rfl
  have Vx := Lib.hid (hsx.mono (X' := Free) (fun _ h => h.elim))
  clear hsx
  clear hb2'
  simp only at *
  replace bx := bx.alloc (.cells #[.slice Ax xs.length cx] 26)
  have x := Blk.new w2 26 #[.slice Ax xs.length cx]
  have HBa2 := Lib.hid (HBm2.out.alloc HBm2.out.size (.cells #[.slice Ax xs.length cx] 26))
  replace hM := Lib.hid (hM.out.below (below_alloc1 w2 (.cells #[.slice Ax xs.length cx] 26)))
  replace V0 := Lib.hid (V0.out.keep (Keeps.alloc w2 _ (.cells #[.slice Ax xs.length cx] 26)))
  replace V2 := Lib.hid (V2.out.keep (Keeps.alloc w2 _ (.cells #[.slice Ax xs.length cx] 26)))
  replace Vx := Lib.hid (Vx.out.keep (Keeps.alloc w2 _ (.cells #[.slice Ax xs.length cx] 26)))
  replace bx := bx.alloc (.cells #[.int .i64 c1, .int .i64 i1] 30)
  replace x := x.alloc (.cells #[.int .i64 c1, .int .i64 i1] 30)
  have f : Blk ((w2.alloc (.cells #[.slice Ax xs.length cx] 26)).alloc (.cells #[.int .i64 c1, .int .i64 i1] 30)) (w2.heap.size + 1) 30 #[.int .i64 c1, .int .i64 i1] := by simpa using Blk.new (w2.alloc (.cells #[.slice Ax xs.length cx] 26)) 30 #[.int .i64 c1, .int .i64 i1]
  have HBa3 := Lib.hid (HBa2.out.alloc HBa2.out.size (.cells #[.int .i64 c1, .int .i64 i1] 30))
  replace hM := Lib.hid (hM.out.below (below_alloc1 (w2.alloc (.cells #[.slice Ax xs.length cx] 26)) (.cells #[.int .i64 c1, .int .i64 i1] 30)))
  replace V0 := Lib.hid (V0.out.keep (Keeps.alloc (w2.alloc (.cells #[.slice Ax xs.length cx] 26)) _ (.cells #[.int .i64 c1, .int .i64 i1] 30)))
  replace V2 := Lib.hid (V2.out.keep (Keeps.alloc (w2.alloc (.cells #[.slice Ax xs.length cx] 26)) _ (.cells #[.int .i64 c1, .int .i64 i1] 30)))
  replace Vx := Lib.hid (Vx.out.keep (Keeps.alloc (w2.alloc (.cells #[.slice Ax xs.length cx] 26)) _ (.cells #[.int .i64 c1, .int .i64 i1] 30)))
  obtain ⟨us, c2, i2⟩ := q
  go_wp2_with fail
  go_at_call 39
  with_reducible refine (H39.out _ hM.out V0.out V2.out).mono ?_
  rintro e w3 ⟨Au, cu, rfl, hcu, hsu, hb3'⟩
  have HBm3 := Lib.hid (HBa3.out.trans (hb3'.mono HBa3.out.size))
  replace bx := bx.below hb3' bx.lt
  replace x := x.below hb3' x.lt
  replace f := f.below hb3' f.lt
  replace hM := Lib.hid (hM.out.below hb3')
  replace V0 := Lib.hid (V0.out.keep (free_below hb3'))
  replace V2 := Lib.hid (V2.out.keep (free_below hb3'))
  replace Vx := Lib.hid (Vx.out.keep (free_below hb3'))
  clear bx_l bx_l1 bx_l2 bx_0
  have bx_l : w.heap.size < w3.heap.size := bx.lt
  have bx_l1 : w.heap.size < w3.heap.size + 1 := Nat.lt_succ_of_lt bx_l
  have bx_l2 : w.heap.size < w3.heap.size + 1 + 1 := Nat.lt_succ_of_lt bx_l1
  have bx_0 : w3.cell? ⟨w.heap.size, 0, none⟩ = some (.slice A s.length k) := (bx.cell 0).trans rfl
  have x_l : w2.heap.size < w3.heap.size := x.lt
  have x_l1 : w2.heap.size < w3.heap.size + 1 := Nat.lt_succ_of_lt x_l
  have x_l2 : w2.heap.size < w3.heap.size + 1 + 1 := Nat.lt_succ_of_lt x_l1
  have x_0 : w3.cell? ⟨w2.heap.size, 0, none⟩ = some (.slice Ax xs.length cx) := (x.cell 0).trans rfl
  have f_l : w2.heap.size + 1 < w3.heap.size := f.lt
  have f_l1 : w2.heap.size + 1 < w3.heap.size + 1 := Nat.lt_succ_of_lt f_l
  have f_l2 : w2.heap.size + 1 < w3.heap.size + 1 + 1 := Nat.lt_succ_of_lt f_l1
  have f_0 : w3.cell? ⟨w2.heap.size + 1, 0, none⟩ = some (.int .i64 c1) := (f.cell 0).trans rfl
  have f_1 : w3.cell? ⟨w2.heap.size + 1, 1, none⟩ = some (.int .i64 i1) := (f.cell 1).trans rfl
  have Vu := Lib.hid (hsu.mono (X' := Free) (fun _ h => h.elim))
  clear hsu
  clear hb3'
  simp only at *
  replace bx := bx.alloc (.cells #[.int .i64 c2, .int .i64 i2] 30)
  replace x := x.alloc (.cells #[.int .i64 c2, .int .i64 i2] 30)
  replace f := f.alloc (.cells #[.int .i64 c2, .int .i64 i2] 30)
  have g := Blk.new w3 30 #[.int .i64 c2, .int .i64 i2]
  have HBa4 := Lib.hid (HBm3.out.alloc HBm3.out.size (.cells #[.int .i64 c2, .int .i64 i2] 30))
  replace hM := Lib.hid (hM.out.below (below_alloc1 w3 (.cells #[.int .i64 c2, .int .i64 i2] 30)))
  replace V0 := Lib.hid (V0.out.keep (Keeps.alloc w3 _ (.cells #[.int .i64 c2, .int .i64 i2] 30)))
  replace V2 := Lib.hid (V2.out.keep (Keeps.alloc w3 _ (.cells #[.int .i64 c2, .int .i64 i2] 30)))
  replace Vx := Lib.hid (Vx.out.keep (Keeps.alloc w3 _ (.cells #[.int .i64 c2, .int .i64 i2] 30)))
  replace Vu := Lib.hid (Vu.out.keep (Keeps.alloc w3 _ (.cells #[.int .i64 c2, .int .i64 i2] 30)))
  rcases HRC.out with ⟨hc, hx⟩ | ⟨hok, he⟩
  · have hx1 : (c1 == 0) = false := by simpa using hc
    have hx2 : (c1 != 0) = true := by simpa using hc
    subst hx
    clear HRC HUC H32 H39 hc
    go_wp2_with fail
    go_ret
    exact ⟨by simp, HBa4.out⟩
  · injection he with e1 e2
    injection e2 with e2 e3
    subst e2
    subst e3
    have HE1 := Lib.hid e1
    rcases HUC.out hok with hc | ⟨hn0, hn1, he⟩
    · have hx1 : (c2 == 0) = false := by simpa using hc
      have hx2 : (c2 != 0) = true := by simpa using hc
      clear HRC HUC H32 H39 hc e1 HE1 hok
      go_wp2_with fail
      go_ret
      exact ⟨by simp, HBa4.out⟩
    · injection he with e4 e5
      injection e5 with e5 e6
      subst e5
      subst e6
      obtain ⟨m, rfl⟩ := Int.eq_ofNat_of_zero_le hn0
      have hml : m ≤ l.length := by omega
      simp only [Int.toNat_natCast] at e4
      have hul : us.length = m := by rw [e4, Rf.udL_len]; simp; omega
      by_cases hin : m ≤ min l.length 30
      · have hb : (decide (0 ≤ (m : Int)) && decide ((m : Int) ≤ min (l.length : Int) 30)) = true := by rw [Bool.and_eq_true]; exact ⟨by simp, by simp; omega⟩
        have hm30 : m ≤ 30 := by omega
        have hdl : l.length - m ≤ k2 := by omega
        have hsub : IntKind.i64.wrap ((l.length : Int) - (m : Int)) = ((l.length - m : Nat) : Int) := by rw [IntWalk.i64_in _ (by omega)]; omega
        have hxl : xs.length ≤ 30 := by rw [e1]; exact (hok.stOk _).len
        have hyl : (Rf.stAt s l (l.length - m)).length ≤ 30 := (hok.stOk _).len
        have HBT := Lib.hid (fun (w1 : World) (hm : Mx w1) (hv : SA w1 Free Ax (rsV xs)) (hv2 : SA w1 Free Au (usV us)) => by
          have := batch_any w1 hm Ax cx xs hv (by omega) hcx Au cu us hv2
          rw [Rf.btF_ok (by rw [e1]; exact hok.stOk _) (by omega) (by rw [e1, e4]; exact Rf.udL_app hok m), hul] at this
          exact this)
        have HA := Lib.hid (fun (w1 : World) (hm : Mx w1) (hv : SA w1 Free A (rsV s)) (hv2 : SA w1 Free A2 (esV l)) => by
          have := replay_any w1 hm A k s hv (by omega) hk A2 k2 (l.take (l.length - m)) (by rw [esV_take]; exact hv2.take _)
          rw [Rf.rpF_ok (hok.take _), Rf.stAt_take, show (l.take (l.length - m)).length = l.length - m by simp] at this
          exact this)
        clear HRC HUC H32 H39 e1 e4 HE1 hok
        generalize Rf.stAt s l (l.length - m) = y at *
        have hs1 : ∀ W, (Instr.slice 54 (.slice A2 l.length k2) none (some (.int .i64 ((l.length - m : Nat) : Int))) none).run Tryd.prog W = .ok (.slice A2 (l.length - m) k2) W := fun W => slice_to54 W A2 l.length k2 (l.length - m) hdl
        generalize l.length - m = d at *
        go_wp2_with (go_at_call 26; refine (in_any _ _ _ _).mono ?_; rintro e w9 ⟨rfl, hw9⟩; have hw9 := hw9.symm; subst hw9; rw [hb])
        go_at_call 25
        with_reducible refine (HBT.out _ hM.out Vx.out Vu.out).mono ?_
        rintro e w4 ⟨Ab, cb, rfl, hcb, hsb, hb4'⟩
        have HBm4 := Lib.hid (HBa4.out.trans (hb4'.mono HBa4.out.size))
        replace bx := bx.below hb4' bx.lt
        replace x := x.below hb4' x.lt
        replace f := f.below hb4' f.lt
        replace g := g.below hb4' g.lt
        replace hM := Lib.hid (hM.out.below hb4')
        replace V0 := Lib.hid (V0.out.keep (free_below hb4'))
        replace V2 := Lib.hid (V2.out.keep (free_below hb4'))
        replace Vx := Lib.hid (Vx.out.keep (free_below hb4'))
        replace Vu := Lib.hid (Vu.out.keep (free_below hb4'))
        clear bx_l bx_l1 bx_l2 bx_0 x_l x_l1 x_l2 x_0 f_l f_l1 f_l2 f_0 f_1
        have bx_l : w.heap.size < w4.heap.size := bx.lt
        have bx_l1 : w.heap.size < w4.heap.size + 1 := Nat.lt_succ_of_lt bx_l
        have bx_l2 : w.heap.size < w4.heap.size + 1 + 1 := Nat.lt_succ_of_lt bx_l1
        have bx_0 : w4.cell? ⟨w.heap.size, 0, none⟩ = some (.slice A s.length k) := (bx.cell 0).trans rfl
        have x_l : w2.heap.size < w4.heap.size := x.lt
        have x_l1 : w2.heap.size < w4.heap.size + 1 := Nat.lt_succ_of_lt x_l
        have x_l2 : w2.heap.size < w4.heap.size + 1 + 1 := Nat.lt_succ_of_lt x_l1
        have x_0 : w4.cell? ⟨w2.heap.size, 0, none⟩ = some (.slice Ax xs.length cx) := (x.cell 0).trans rfl
        have f_l : w2.heap.size + 1 < w4.heap.size := f.lt
        have f_l1 : w2.heap.size + 1 < w4.heap.size + 1 := Nat.lt_succ_of_lt f_l
        have f_l2 : w2.heap.size + 1 < w4.heap.size + 1 + 1 := Nat.lt_succ_of_lt f_l1
        have f_0 : w4.cell? ⟨w2.heap.size + 1, 0, none⟩ = some (.int .i64 0) := (f.cell 0).trans rfl
        have f_1 : w4.cell? ⟨w2.heap.size + 1, 1, none⟩ = some (.int .i64 0) := (f.cell 1).trans rfl
        have g_l : w3.heap.size < w4.heap.size := g.lt
        have g_l1 : w3.heap.size < w4.heap.size + 1 := Nat.lt_succ_of_lt g_l
        have g_l2 : w3.heap.size < w4.heap.size + 1 + 1 := Nat.lt_succ_of_lt g_l1
        have g_0 : w4.cell? ⟨w3.heap.size, 0, none⟩ = some (.int .i64 0) := (g.cell 0).trans rfl
        have g_1 : w4.cell? ⟨w3.heap.size, 1, none⟩ = some (.int .i64 0) := (g.cell 1).trans rfl
        have Vb := Lib.hid (hsb.mono (X' := Free) (fun _ h => h.elim))
        clear hsb
        clear hb4'
        simp only at *
        replace bx := bx.alloc (.cells #[.slice Ab y.length cb] 26)
        replace x := x.alloc (.cells #[.slice Ab y.length cb] 26)
        replace f := f.alloc (.cells #[.slice Ab y.length cb] 26)
        replace g := g.alloc (.cells #[.slice Ab y.length cb] 26)
        have xb := Blk.new w4 26 #[.slice Ab y.length cb]
        have HBa5 := Lib.hid (HBm4.out.alloc HBm4.out.size (.cells #[.slice Ab y.length cb] 26))
        replace hM := Lib.hid (hM.out.below (below_alloc1 w4 (.cells #[.slice Ab y.length cb] 26)))
        replace V0 := Lib.hid (V0.out.keep (Keeps.alloc w4 _ (.cells #[.slice Ab y.length cb] 26)))
        replace V2 := Lib.hid (V2.out.keep (Keeps.alloc w4 _ (.cells #[.slice Ab y.length cb] 26)))
        replace Vx := Lib.hid (Vx.out.keep (Keeps.alloc w4 _ (.cells #[.slice Ab y.length cb] 26)))
        replace Vu := Lib.hid (Vu.out.keep (Keeps.alloc w4 _ (.cells #[.slice Ab y.length cb] 26)))
        replace Vb := Lib.hid (Vb.out.keep (Keeps.alloc w4 _ (.cells #[.slice Ab y.length cb] 26)))
        replace bx := bx.alloc (.cells #[.int .i64 0, .int .i64 0] 30)
        replace x := x.alloc (.cells #[.int .i64 0, .int .i64 0] 30)
        replace f := f.alloc (.cells #[.int .i64 0, .int .i64 0] 30)
        replace g := g.alloc (.cells #[.int .i64 0, .int .i64 0] 30)
        replace xb := xb.alloc (.cells #[.int .i64 0, .int .i64 0] 30)
        have hb3 : Blk ((w4.alloc (.cells #[.slice Ab y.length cb] 26)).alloc (.cells #[.int .i64 0, .int .i64 0] 30)) (w4.heap.size + 1) 30 #[.int .i64 0, .int .i64 0] := by simpa using Blk.new (w4.alloc (.cells #[.slice Ab y.length cb] 26)) 30 #[.int .i64 0, .int .i64 0]
        have HBa6 := Lib.hid (HBa5.out.alloc HBa5.out.size (.cells #[.int .i64 0, .int .i64 0] 30))
        replace hM := Lib.hid (hM.out.below (below_alloc1 (w4.alloc (.cells #[.slice Ab y.length cb] 26)) (.cells #[.int .i64 0, .int .i64 0] 30)))
        replace V0 := Lib.hid (V0.out.keep (Keeps.alloc (w4.alloc (.cells #[.slice Ab y.length cb] 26)) _ (.cells #[.int .i64 0, .int .i64 0] 30)))
        replace V2 := Lib.hid (V2.out.keep (Keeps.alloc (w4.alloc (.cells #[.slice Ab y.length cb] 26)) _ (.cells #[.int .i64 0, .int .i64 0] 30)))
        replace Vx := Lib.hid (Vx.out.keep (Keeps.alloc (w4.alloc (.cells #[.slice Ab y.length cb] 26)) _ (.cells #[.int .i64 0, .int .i64 0] 30)))
        replace Vu := Lib.hid (Vu.out.keep (Keeps.alloc (w4.alloc (.cells #[.slice Ab y.length cb] 26)) _ (.cells #[.int .i64 0, .int .i64 0] 30)))
        replace Vb := Lib.hid (Vb.out.keep (Keeps.alloc (w4.alloc (.cells #[.slice Ab y.length cb] 26)) _ (.cells #[.int .i64 0, .int .i64 0] 30)))
        go_wp2_with fail
        generalize hwq : (w4.alloc (.cells #[.slice Ab y.length cb] 26)).alloc (.cells #[.int .i64 0, .int .i64 0] 30) = wq at *
        clear hwq
        have hbq := Lib.hid HBa6.out
        have HK : Hid (∀ w6 : World, Below wq.heap.size wq w6 → w6.cell? ⟨w.heap.size, 0, none⟩ = some (.slice A s.length k)) := Lib.hid fun w6 h6 => (h6.cell (p := ⟨_, _, none⟩) bx.lt).trans ((bx.cell 0).trans rfl)
        have HA2 := Lib.hid (fun (wd : World) (hb : Below wq.heap.size wq wd) => HA.out wd (hM.out.below hb) (V0.out.keep (free_below hb)) (V2.out.keep (free_below hb)))
        clear bx_l bx_l1 bx_l2 bx_0 x_l x_l1 x_l2 x_0 f_l f_l1 f_l2 f_0 f_1 g_l g_l1 g_l2 g_0 g_1
        go_cut [13, 14] (fun p q wx => TwoOut wq y 0 0 p q wx)
        case first =>
          refine wp_region_noPanic ?_
          refine wp_region_held_drew (S := (fun w6 : World => w6.cell? ⟨w.heap.size, 0, none⟩ = some (.slice A s.length k))) (by kernel_rfl) ?_ (fun hST => ?_)
          · exact HK.out _ (below_drew' (Below.refl _ _))
          have hq : Below wq.heap.size wq wq.drew := below_drew' (Below.refl _ _)
          generalize wq.drew = WT at *
          refine wpAnyH_take (i := 0) (v := .agg #[.slice A s.length k]) rfl (by kernel_rfl) (by kernel_rfl) (by kernel_rfl) (fun _ _ _ h => h) (Or.inl ⟨by kernel_rfl, ?qT1⟩) (by assumption) ?rqT1
          case qT1 => (intro w hSw; (try dsimp only at hSw); go_simp)
          try simp only [Act.put, List.setIfInBounds_toArray]
          refine wpAnyH_take (i := 1) (v := .slice A2 l.length k2) rfl (by kernel_rfl) (by kernel_rfl) (by kernel_rfl) (fun _ _ _ h => h) (Or.inl ⟨by kernel_rfl, ?qT2⟩) (by assumption) ?rqT2
          case qT2 => (intro w hSw; (try dsimp only at hSw); go_simp)
          try simp only [Act.put, List.setIfInBounds_toArray]
          refine wpAnyH_take (i := 2) (v := .slice A2 l.length k2) rfl (by kernel_rfl) (by kernel_rfl) (by kernel_rfl) (fun _ _ _ h => h) (Or.inl ⟨by kernel_rfl, ?qT3⟩) (by assumption) ?rqT3
          case qT3 => (intro w hSw; (try dsimp only at hSw); go_simp)
          try simp only [Act.put, List.setIfInBounds_toArray]
          refine wpAnyH_take (i := 3) (v := .int .i64 l.length) rfl (by kernel_rfl) (by kernel_rfl) (by kernel_rfl) (fun _ _ _ h => h) (Or.inl ⟨by kernel_rfl, ?qT4⟩) (by assumption) ?rqT4
          case qT4 => (intro w hSw; (try dsimp only at hSw); go_simp)
          try simp only [Act.put, List.setIfInBounds_toArray]
          refine wpAnyH_take (i := 4) (v := .int .i64 m) rfl (by kernel_rfl) (by kernel_rfl) (by kernel_rfl) (fun _ _ _ h => h) (Or.inl ⟨by kernel_rfl, ?qT5⟩) (by assumption) ?rqT5
          case qT5 => (intro w hSw; (try dsimp only at hSw); go_simp)
          try simp only [Act.put, List.setIfInBounds_toArray]
          refine wpAnyH_take (i := 5) (v := .int .i64 d) rfl (by kernel_rfl) (by kernel_rfl) (by kernel_rfl) (fun _ _ _ h => h) (Or.inl ⟨by kernel_rfl, ?qT6⟩) (by assumption) ?rqT6
          case qT6 => (intro w hSw; (try dsimp only at hSw); go_simp)
          try simp only [Act.put, List.setIfInBounds_toArray]
          refine wpAnyH_take (i := 6) (v := .slice A2 d k2) rfl (by kernel_rfl) (by kernel_rfl) (by kernel_rfl) (fun _ _ _ h => h) (Or.inl ⟨by kernel_rfl, ?qT7⟩) (by assumption) ?rqT7
          case qT7 => (intro w hSw; (try dsimp only at hSw); go_simp)
          try simp only [Act.put, List.setIfInBounds_toArray]
          refine wpAnyH_ready (rs := [7, 11, 12]) (by kernel_rfl) (by simp) ?_
          refine AllReadyH.cons rfl (fun K hK => ?sT8) (AllReadyH.cons rfl (fun K hK => ?sT9) (AllReadyH.cons rfl (fun K hK => ?sT10) (AllReadyH.nil)))
          case sT8 =>
            go_simp
            go_at_call 32
            refine (HA2.out _ hq).mono ?_
            rintro e WT11 ⟨Aa, ca, rfl, hca, hsa, hb9⟩
            try go_wp2_with fail
            refine hK.out _ _ ?_ (fun hSS11 => ?_)
            · exact HK.out _ (hq.trans (hb9.mono hq.size))
            clear hK K
            try simp only [Act.put, List.setIfInBounds_toArray]
            replace hq := hq.trans (hb9.mono hq.size)
            clear hb9
            refine wpAnyH_take (i := 8) (v := .tuple #[.agg #[.slice Aa y.length ca], .agg #[.int .i64 0, .int .i64 0]]) rfl (by kernel_rfl) (by kernel_rfl) (by kernel_rfl) (fun _ _ _ h => h) (Or.inl ⟨by kernel_rfl, ?qT12⟩) (by assumption) ?rqT12
            case qT12 => (intro w hSw; (try dsimp only at hSw); go_simp)
            try simp only [Act.put, List.setIfInBounds_toArray]
            refine wpAnyH_take (i := 9) (v := .agg #[.slice Aa y.length ca]) rfl (by kernel_rfl) (by kernel_rfl) (by kernel_rfl) (fun _ _ _ h => h) (Or.inl ⟨by kernel_rfl, ?qT13⟩) (by assumption) ?rqT13
            case qT13 => (intro w hSw; (try dsimp only at hSw); go_simp)
            try simp only [Act.put, List.setIfInBounds_toArray]
            refine wpAnyH_take (i := 10) (v := .agg #[.int .i64 0, .int .i64 0]) rfl (by kernel_rfl) (by kernel_rfl) (by kernel_rfl) (fun _ _ _ h => h) (Or.inl ⟨by kernel_rfl, ?qT14⟩) (by assumption) ?rqT14
            case qT14 => (intro w hSw; (try dsimp only at hSw); go_simp)
            try simp only [Act.put, List.setIfInBounds_toArray]
            refine wpAnyH_ready (rs := [11, 12]) (by kernel_rfl) (by simp) ?_
            refine AllReadyH.cons rfl (fun K hK => ?sT15) (AllReadyH.cons rfl (fun K hK => ?sT16) (AllReadyH.nil))
            case sT15 =>
              go_simp
              refine hK.out _ _ ?_ (fun hSS17 => ?_)
              · exact HK.out _ (hq.alloc hq.size (.cells #[.slice none 0 0] 26))
              clear hK K
              try simp only [Act.put, List.setIfInBounds_toArray]
              have g0A := hq.size
              replace hq := hq.alloc hq.size (.cells #[.slice none 0 0] 26)
              have bA := Blk.new WT11 26 #[.slice none 0 0]
              replace hsa := hsa.keep (Keeps.alloc WT11 _ (.cells #[.slice none 0 0] 26))
              generalize WT11.alloc (.cells #[.slice none 0 0] 26) = WT17 at *
              refine wpAnyH_ready (rs := [12]) (by kernel_rfl) (by simp) ?_
              refine AllReadyH.cons rfl (fun K hK => ?sT18) (AllReadyH.nil)
              case sT18 =>
                go_simp
                refine hK.out _ _ ?_ (fun hSS19 => ?_)
                · exact HK.out _ (hq.alloc hq.size (.cells #[.int .i64 0, .int .i64 0] 30))
                clear hK K
                try simp only [Act.put, List.setIfInBounds_toArray]
                have g0B := hq.size
                replace hq := hq.alloc hq.size (.cells #[.int .i64 0, .int .i64 0] 30)
                have neAB := bA.lt
                replace bA := bA.alloc (.cells #[.int .i64 0, .int .i64 0] 30)
                have bB := Blk.new WT17 30 #[.int .i64 0, .int .i64 0]
                replace hsa := hsa.keep (Keeps.alloc WT17 _ (.cells #[.int .i64 0, .int .i64 0] 30))
                generalize WT17.alloc (.cells #[.int .i64 0, .int .i64 0] 30) = WT19 at *
                refine wpAnyH_ready (rs := [13]) (by kernel_rfl) (by simp) ?_
                refine AllReadyH.cons rfl (fun K hK => ?sT20) AllReadyH.nil
                have bAl := bA.lt
                have bAf0 := bA.frozen 0
                have bAc0 := (bA.cell 0).trans rfl
                have bBl := bB.lt
                have bBf0 := bB.frozen 0
                have bBc0 := (bB.cell 0).trans rfl
                have bBf1 := bB.frozen 1
                have bBc1 := (bB.cell 1).trans rfl
                go_simp
                refine hK.out _ _ ?_ (fun hSS20 => ?_)
                · exact HK.out _ (hq.setCell g0A _)
                clear hK K
                try simp only [Act.put, List.setIfInBounds_toArray]
                refine wpAnyH_ready (rs := [14]) (by kernel_rfl) (by simp) ?_
                refine AllReadyH.cons rfl (fun K hK => ?sT21) AllReadyH.nil
                go_simp
                refine hK.out _ _ ?_ (fun hSS21 => ?_)
                · exact HK.out _ (((hq.setCell g0A _).setCell g0B _).setCell g0B _)
                clear hK K
                try simp only [Act.put, List.setIfInBounds_toArray]
                refine wpAnyH_done (by kernel_rfl) ?_ _
                refine NoPanic.normal ?_
                try go_wp2_with fail
                go_meet
                exact TwoOut.ca2 hq hca (hsa.mono (X' := Free) fun _ h => h.elim) bA bB (by omega) g0A g0B
            case sT16 =>
              go_simp
              refine hK.out _ _ ?_ (fun hSS22 => ?_)
              · exact HK.out _ (hq.alloc hq.size (.cells #[.int .i64 0, .int .i64 0] 30))
              clear hK K
              try simp only [Act.put, List.setIfInBounds_toArray]
              have g0B := hq.size
              replace hq := hq.alloc hq.size (.cells #[.int .i64 0, .int .i64 0] 30)
              have bB := Blk.new WT11 30 #[.int .i64 0, .int .i64 0]
              replace hsa := hsa.keep (Keeps.alloc WT11 _ (.cells #[.int .i64 0, .int .i64 0] 30))
              generalize WT11.alloc (.cells #[.int .i64 0, .int .i64 0] 30) = WT22 at *
              refine wpAnyH_ready (rs := [11]) (by kernel_rfl) (by simp) ?_
              refine AllReadyH.cons rfl (fun K hK => ?sT23) (AllReadyH.nil)
              case sT23 =>
                go_simp
                refine hK.out _ _ ?_ (fun hSS24 => ?_)
                · exact HK.out _ (hq.alloc hq.size (.cells #[.slice none 0 0] 26))
                clear hK K
                try simp only [Act.put, List.setIfInBounds_toArray]
                have g0A := hq.size
                replace hq := hq.alloc hq.size (.cells #[.slice none 0 0] 26)
                have neBA := bB.lt
                replace bB := bB.alloc (.cells #[.slice none 0 0] 26)
                have bA := Blk.new WT22 26 #[.slice none 0 0]
                replace hsa := hsa.keep (Keeps.alloc WT22 _ (.cells #[.slice none 0 0] 26))
                generalize WT22.alloc (.cells #[.slice none 0 0] 26) = WT24 at *
                refine wpAnyH_ready (rs := [13]) (by kernel_rfl) (by simp) ?_
                refine AllReadyH.cons rfl (fun K hK => ?sT25) AllReadyH.nil
                have bAl := bA.lt
                have bAf0 := bA.frozen 0
                have bAc0 := (bA.cell 0).trans rfl
                have bBl := bB.lt
                have bBf0 := bB.frozen 0
                have bBc0 := (bB.cell 0).trans rfl
                have bBf1 := bB.frozen 1
                have bBc1 := (bB.cell 1).trans rfl
                go_simp
                refine hK.out _ _ ?_ (fun hSS25 => ?_)
                · exact HK.out _ (hq.setCell g0A _)
                clear hK K
                try simp only [Act.put, List.setIfInBounds_toArray]
                refine wpAnyH_ready (rs := [14]) (by kernel_rfl) (by simp) ?_
                refine AllReadyH.cons rfl (fun K hK => ?sT26) AllReadyH.nil
                go_simp
                refine hK.out _ _ ?_ (fun hSS26 => ?_)
                · exact HK.out _ (((hq.setCell g0A _).setCell g0B _).setCell g0B _)
                clear hK K
                try simp only [Act.put, List.setIfInBounds_toArray]
                refine wpAnyH_done (by kernel_rfl) ?_ _
                refine NoPanic.normal ?_
                try go_wp2_with fail
                go_meet
                exact TwoOut.ca2 hq hca (hsa.mono (X' := Free) fun _ h => h.elim) bA bB (by omega) g0A g0B
          case sT9 =>
            go_simp
            refine hK.out _ _ ?_ (fun hSS27 => ?_)
            · exact HK.out _ (hq.alloc hq.size (.cells #[.slice none 0 0] 26))
            clear hK K
            try simp only [Act.put, List.setIfInBounds_toArray]
            have g0A := hq.size
            replace hq := hq.alloc hq.size (.cells #[.slice none 0 0] 26)
            have bA := Blk.new WT 26 #[.slice none 0 0]
            generalize WT.alloc (.cells #[.slice none 0 0] 26) = WT27 at *
            refine wpAnyH_ready (rs := [7, 12]) (by kernel_rfl) (by simp) ?_
            refine AllReadyH.cons rfl (fun K hK => ?sT28) (AllReadyH.cons rfl (fun K hK => ?sT29) (AllReadyH.nil))
            case sT28 =>
              go_simp
              go_at_call 32
              refine (HA2.out _ hq).mono ?_
              rintro e WT30 ⟨Aa, ca, rfl, hca, hsa, hb9⟩
              try go_wp2_with fail
              refine hK.out _ _ ?_ (fun hSS30 => ?_)
              · exact HK.out _ (hq.trans (hb9.mono hq.size))
              clear hK K
              try simp only [Act.put, List.setIfInBounds_toArray]
              replace hq := hq.trans (hb9.mono hq.size)
              replace bA := bA.below hb9 bA.lt
              clear hb9
              refine wpAnyH_take (i := 8) (v := .tuple #[.agg #[.slice Aa y.length ca], .agg #[.int .i64 0, .int .i64 0]]) rfl (by kernel_rfl) (by kernel_rfl) (by kernel_rfl) (fun _ _ _ h => h) (Or.inl ⟨by kernel_rfl, ?qT31⟩) (by assumption) ?rqT31
              case qT31 => (intro w hSw; (try dsimp only at hSw); go_simp)
              try simp only [Act.put, List.setIfInBounds_toArray]
              refine wpAnyH_take (i := 9) (v := .agg #[.slice Aa y.length ca]) rfl (by kernel_rfl) (by kernel_rfl) (by kernel_rfl) (fun _ _ _ h => h) (Or.inl ⟨by kernel_rfl, ?qT32⟩) (by assumption) ?rqT32
              case qT32 => (intro w hSw; (try dsimp only at hSw); go_simp)
              try simp only [Act.put, List.setIfInBounds_toArray]
              refine wpAnyH_take (i := 10) (v := .agg #[.int .i64 0, .int .i64 0]) rfl (by kernel_rfl) (by kernel_rfl) (by kernel_rfl) (fun _ _ _ h => h) (Or.inl ⟨by kernel_rfl, ?qT33⟩) (by assumption) ?rqT33
              case qT33 => (intro w hSw; (try dsimp only at hSw); go_simp)
              try simp only [Act.put, List.setIfInBounds_toArray]
              refine wpAnyH_ready (rs := [12]) (by kernel_rfl) (by simp) ?_
              refine AllReadyH.cons rfl (fun K hK => ?sT34) (AllReadyH.nil)
              case sT34 =>
                go_simp
                refine hK.out _ _ ?_ (fun hSS35 => ?_)
                · exact HK.out _ (hq.alloc hq.size (.cells #[.int .i64 0, .int .i64 0] 30))
                clear hK K
                try simp only [Act.put, List.setIfInBounds_toArray]
                have g0B := hq.size
                replace hq := hq.alloc hq.size (.cells #[.int .i64 0, .int .i64 0] 30)
                have neAB := bA.lt
                replace bA := bA.alloc (.cells #[.int .i64 0, .int .i64 0] 30)
                have bB := Blk.new WT30 30 #[.int .i64 0, .int .i64 0]
                replace hsa := hsa.keep (Keeps.alloc WT30 _ (.cells #[.int .i64 0, .int .i64 0] 30))
                generalize WT30.alloc (.cells #[.int .i64 0, .int .i64 0] 30) = WT35 at *
                refine wpAnyH_ready (rs := [13]) (by kernel_rfl) (by simp) ?_
                refine AllReadyH.cons rfl (fun K hK => ?sT36) AllReadyH.nil
                have bAl := bA.lt
                have bAf0 := bA.frozen 0
                have bAc0 := (bA.cell 0).trans rfl
                have bBl := bB.lt
                have bBf0 := bB.frozen 0
                have bBc0 := (bB.cell 0).trans rfl
                have bBf1 := bB.frozen 1
                have bBc1 := (bB.cell 1).trans rfl
                go_simp
                refine hK.out _ _ ?_ (fun hSS36 => ?_)
                · exact HK.out _ (hq.setCell g0A _)
                clear hK K
                try simp only [Act.put, List.setIfInBounds_toArray]
                refine wpAnyH_ready (rs := [14]) (by kernel_rfl) (by simp) ?_
                refine AllReadyH.cons rfl (fun K hK => ?sT37) AllReadyH.nil
                go_simp
                refine hK.out _ _ ?_ (fun hSS37 => ?_)
                · exact HK.out _ (((hq.setCell g0A _).setCell g0B _).setCell g0B _)
                clear hK K
                try simp only [Act.put, List.setIfInBounds_toArray]
                refine wpAnyH_done (by kernel_rfl) ?_ _
                refine NoPanic.normal ?_
                try go_wp2_with fail
                go_meet
                exact TwoOut.ca2 hq hca (hsa.mono (X' := Free) fun _ h => h.elim) bA bB (by omega) g0A g0B
            case sT29 =>
              go_simp
              refine hK.out _ _ ?_ (fun hSS38 => ?_)
              · exact HK.out _ (hq.alloc hq.size (.cells #[.int .i64 0, .int .i64 0] 30))
              clear hK K
              try simp only [Act.put, List.setIfInBounds_toArray]
              have g0B := hq.size
              replace hq := hq.alloc hq.size (.cells #[.int .i64 0, .int .i64 0] 30)
              have neAB := bA.lt
              replace bA := bA.alloc (.cells #[.int .i64 0, .int .i64 0] 30)
              have bB := Blk.new WT27 30 #[.int .i64 0, .int .i64 0]
              generalize WT27.alloc (.cells #[.int .i64 0, .int .i64 0] 30) = WT38 at *
              refine wpAnyH_ready (rs := [7]) (by kernel_rfl) (by simp) ?_
              refine AllReadyH.cons rfl (fun K hK => ?sT39) (AllReadyH.nil)
              case sT39 =>
                go_simp
                go_at_call 32
                refine (HA2.out _ hq).mono ?_
                rintro e WT40 ⟨Aa, ca, rfl, hca, hsa, hb9⟩
                try go_wp2_with fail
                refine hK.out _ _ ?_ (fun hSS40 => ?_)
                · exact HK.out _ (hq.trans (hb9.mono hq.size))
                clear hK K
                try simp only [Act.put, List.setIfInBounds_toArray]
                replace hq := hq.trans (hb9.mono hq.size)
                replace bA := bA.below hb9 bA.lt
                replace bB := bB.below hb9 bB.lt
                clear hb9
                refine wpAnyH_take (i := 8) (v := .tuple #[.agg #[.slice Aa y.length ca], .agg #[.int .i64 0, .int .i64 0]]) rfl (by kernel_rfl) (by kernel_rfl) (by kernel_rfl) (fun _ _ _ h => h) (Or.inl ⟨by kernel_rfl, ?qT41⟩) (by assumption) ?rqT41
                case qT41 => (intro w hSw; (try dsimp only at hSw); go_simp)
                try simp only [Act.put, List.setIfInBounds_toArray]
                refine wpAnyH_take (i := 9) (v := .agg #[.slice Aa y.length ca]) rfl (by kernel_rfl) (by kernel_rfl) (by kernel_rfl) (fun _ _ _ h => h) (Or.inl ⟨by kernel_rfl, ?qT42⟩) (by assumption) ?rqT42
                case qT42 => (intro w hSw; (try dsimp only at hSw); go_simp)
                try simp only [Act.put, List.setIfInBounds_toArray]
                refine wpAnyH_take (i := 10) (v := .agg #[.int .i64 0, .int .i64 0]) rfl (by kernel_rfl) (by kernel_rfl) (by kernel_rfl) (fun _ _ _ h => h) (Or.inl ⟨by kernel_rfl, ?qT43⟩) (by assumption) ?rqT43
                case qT43 => (intro w hSw; (try dsimp only at hSw); go_simp)
                try simp only [Act.put, List.setIfInBounds_toArray]
                refine wpAnyH_ready (rs := [13]) (by kernel_rfl) (by simp) ?_
                refine AllReadyH.cons rfl (fun K hK => ?sT44) AllReadyH.nil
                have bAl := bA.lt
                have bAf0 := bA.frozen 0
                have bAc0 := (bA.cell 0).trans rfl
                have bBl := bB.lt
                have bBf0 := bB.frozen 0
                have bBc0 := (bB.cell 0).trans rfl
                have bBf1 := bB.frozen 1
                have bBc1 := (bB.cell 1).trans rfl
                go_simp
                refine hK.out _ _ ?_ (fun hSS44 => ?_)
                · exact HK.out _ (hq.setCell g0A _)
                clear hK K
                try simp only [Act.put, List.setIfInBounds_toArray]
                refine wpAnyH_ready (rs := [14]) (by kernel_rfl) (by simp) ?_
                refine AllReadyH.cons rfl (fun K hK => ?sT45) AllReadyH.nil
                go_simp
                refine hK.out _ _ ?_ (fun hSS45 => ?_)
                · exact HK.out _ (((hq.setCell g0A _).setCell g0B _).setCell g0B _)
                clear hK K
                try simp only [Act.put, List.setIfInBounds_toArray]
                refine wpAnyH_done (by kernel_rfl) ?_ _
                refine NoPanic.normal ?_
                try go_wp2_with fail
                go_meet
                exact TwoOut.ca2 hq hca (hsa.mono (X' := Free) fun _ h => h.elim) bA bB (by omega) g0A g0B
          case sT10 =>
            go_simp
            refine hK.out _ _ ?_ (fun hSS46 => ?_)
            · exact HK.out _ (hq.alloc hq.size (.cells #[.int .i64 0, .int .i64 0] 30))
            clear hK K
            try simp only [Act.put, List.setIfInBounds_toArray]
            have g0B := hq.size
            replace hq := hq.alloc hq.size (.cells #[.int .i64 0, .int .i64 0] 30)
            have bB := Blk.new WT 30 #[.int .i64 0, .int .i64 0]
            generalize WT.alloc (.cells #[.int .i64 0, .int .i64 0] 30) = WT46 at *
            refine wpAnyH_ready (rs := [7, 11]) (by kernel_rfl) (by simp) ?_
            refine AllReadyH.cons rfl (fun K hK => ?sT47) (AllReadyH.cons rfl (fun K hK => ?sT48) (AllReadyH.nil))
            case sT47 =>
              go_simp
              go_at_call 32
              refine (HA2.out _ hq).mono ?_
              rintro e WT49 ⟨Aa, ca, rfl, hca, hsa, hb9⟩
              try go_wp2_with fail
              refine hK.out _ _ ?_ (fun hSS49 => ?_)
              · exact HK.out _ (hq.trans (hb9.mono hq.size))
              clear hK K
              try simp only [Act.put, List.setIfInBounds_toArray]
              replace hq := hq.trans (hb9.mono hq.size)
              replace bB := bB.below hb9 bB.lt
              clear hb9
              refine wpAnyH_take (i := 8) (v := .tuple #[.agg #[.slice Aa y.length ca], .agg #[.int .i64 0, .int .i64 0]]) rfl (by kernel_rfl) (by kernel_rfl) (by kernel_rfl) (fun _ _ _ h => h) (Or.inl ⟨by kernel_rfl, ?qT50⟩) (by assumption) ?rqT50
              case qT50 => (intro w hSw; (try dsimp only at hSw); go_simp)
              try simp only [Act.put, List.setIfInBounds_toArray]
              refine wpAnyH_take (i := 9) (v := .agg #[.slice Aa y.length ca]) rfl (by kernel_rfl) (by kernel_rfl) (by kernel_rfl) (fun _ _ _ h => h) (Or.inl ⟨by kernel_rfl, ?qT51⟩) (by assumption) ?rqT51
              case qT51 => (intro w hSw; (try dsimp only at hSw); go_simp)
              try simp only [Act.put, List.setIfInBounds_toArray]
              refine wpAnyH_take (i := 10) (v := .agg #[.int .i64 0, .int .i64 0]) rfl (by kernel_rfl) (by kernel_rfl) (by kernel_rfl) (fun _ _ _ h => h) (Or.inl ⟨by kernel_rfl, ?qT52⟩) (by assumption) ?rqT52
              case qT52 => (intro w hSw; (try dsimp only at hSw); go_simp)
              try simp only [Act.put, List.setIfInBounds_toArray]
              refine wpAnyH_ready (rs := [11]) (by kernel_rfl) (by simp) ?_
              refine AllReadyH.cons rfl (fun K hK => ?sT53) (AllReadyH.nil)
              case sT53 =>
                go_simp
                refine hK.out _ _ ?_ (fun hSS54 => ?_)
                · exact HK.out _ (hq.alloc hq.size (.cells #[.slice none 0 0] 26))
                clear hK K
                try simp only [Act.put, List.setIfInBounds_toArray]
                have g0A := hq.size
                replace hq := hq.alloc hq.size (.cells #[.slice none 0 0] 26)
                have neBA := bB.lt
                replace bB := bB.alloc (.cells #[.slice none 0 0] 26)
                have bA := Blk.new WT49 26 #[.slice none 0 0]
                replace hsa := hsa.keep (Keeps.alloc WT49 _ (.cells #[.slice none 0 0] 26))
                generalize WT49.alloc (.cells #[.slice none 0 0] 26) = WT54 at *
                refine wpAnyH_ready (rs := [13]) (by kernel_rfl) (by simp) ?_
                refine AllReadyH.cons rfl (fun K hK => ?sT55) AllReadyH.nil
                have bAl := bA.lt
                have bAf0 := bA.frozen 0
                have bAc0 := (bA.cell 0).trans rfl
                have bBl := bB.lt
                have bBf0 := bB.frozen 0
                have bBc0 := (bB.cell 0).trans rfl
                have bBf1 := bB.frozen 1
                have bBc1 := (bB.cell 1).trans rfl
                go_simp
                refine hK.out _ _ ?_ (fun hSS55 => ?_)
                · exact HK.out _ (hq.setCell g0A _)
                clear hK K
                try simp only [Act.put, List.setIfInBounds_toArray]
                refine wpAnyH_ready (rs := [14]) (by kernel_rfl) (by simp) ?_
                refine AllReadyH.cons rfl (fun K hK => ?sT56) AllReadyH.nil
                go_simp
                refine hK.out _ _ ?_ (fun hSS56 => ?_)
                · exact HK.out _ (((hq.setCell g0A _).setCell g0B _).setCell g0B _)
                clear hK K
                try simp only [Act.put, List.setIfInBounds_toArray]
                refine wpAnyH_done (by kernel_rfl) ?_ _
                refine NoPanic.normal ?_
                try go_wp2_with fail
                go_meet
                exact TwoOut.ca2 hq hca (hsa.mono (X' := Free) fun _ h => h.elim) bA bB (by omega) g0A g0B
            case sT48 =>
              go_simp
              refine hK.out _ _ ?_ (fun hSS57 => ?_)
              · exact HK.out _ (hq.alloc hq.size (.cells #[.slice none 0 0] 26))
              clear hK K
              try simp only [Act.put, List.setIfInBounds_toArray]
              have g0A := hq.size
              replace hq := hq.alloc hq.size (.cells #[.slice none 0 0] 26)
              have neBA := bB.lt
              replace bB := bB.alloc (.cells #[.slice none 0 0] 26)
              have bA := Blk.new WT46 26 #[.slice none 0 0]
              generalize WT46.alloc (.cells #[.slice none 0 0] 26) = WT57 at *
              refine wpAnyH_ready (rs := [7]) (by kernel_rfl) (by simp) ?_
              refine AllReadyH.cons rfl (fun K hK => ?sT58) (AllReadyH.nil)
              case sT58 =>
                go_simp
                go_at_call 32
                refine (HA2.out _ hq).mono ?_
                rintro e WT59 ⟨Aa, ca, rfl, hca, hsa, hb9⟩
                try go_wp2_with fail
                refine hK.out _ _ ?_ (fun hSS59 => ?_)
                · exact HK.out _ (hq.trans (hb9.mono hq.size))
                clear hK K
                try simp only [Act.put, List.setIfInBounds_toArray]
                replace hq := hq.trans (hb9.mono hq.size)
                replace bA := bA.below hb9 bA.lt
                replace bB := bB.below hb9 bB.lt
                clear hb9
                refine wpAnyH_take (i := 8) (v := .tuple #[.agg #[.slice Aa y.length ca], .agg #[.int .i64 0, .int .i64 0]]) rfl (by kernel_rfl) (by kernel_rfl) (by kernel_rfl) (fun _ _ _ h => h) (Or.inl ⟨by kernel_rfl, ?qT60⟩) (by assumption) ?rqT60
                case qT60 => (intro w hSw; (try dsimp only at hSw); go_simp)
                try simp only [Act.put, List.setIfInBounds_toArray]
                refine wpAnyH_take (i := 9) (v := .agg #[.slice Aa y.length ca]) rfl (by kernel_rfl) (by kernel_rfl) (by kernel_rfl) (fun _ _ _ h => h) (Or.inl ⟨by kernel_rfl, ?qT61⟩) (by assumption) ?rqT61
                case qT61 => (intro w hSw; (try dsimp only at hSw); go_simp)
                try simp only [Act.put, List.setIfInBounds_toArray]
                refine wpAnyH_take (i := 10) (v := .agg #[.int .i64 0, .int .i64 0]) rfl (by kernel_rfl) (by kernel_rfl) (by kernel_rfl) (fun _ _ _ h => h) (Or.inl ⟨by kernel_rfl, ?qT62⟩) (by assumption) ?rqT62
                case qT62 => (intro w hSw; (try dsimp only at hSw); go_simp)
                try simp only [Act.put, List.setIfInBounds_toArray]
                refine wpAnyH_ready (rs := [13]) (by kernel_rfl) (by simp) ?_
                refine AllReadyH.cons rfl (fun K hK => ?sT63) AllReadyH.nil
                have bAl := bA.lt
                have bAf0 := bA.frozen 0
                have bAc0 := (bA.cell 0).trans rfl
                have bBl := bB.lt
                have bBf0 := bB.frozen 0
                have bBc0 := (bB.cell 0).trans rfl
                have bBf1 := bB.frozen 1
                have bBc1 := (bB.cell 1).trans rfl
                go_simp
                refine hK.out _ _ ?_ (fun hSS63 => ?_)
                · exact HK.out _ (hq.setCell g0A _)
                clear hK K
                try simp only [Act.put, List.setIfInBounds_toArray]
                refine wpAnyH_ready (rs := [14]) (by kernel_rfl) (by simp) ?_
                refine AllReadyH.cons rfl (fun K hK => ?sT64) AllReadyH.nil
                go_simp
                refine hK.out _ _ ?_ (fun hSS64 => ?_)
                · exact HK.out _ (((hq.setCell g0A _).setCell g0B _).setCell g0B _)
                clear hK K
                try simp only [Act.put, List.setIfInBounds_toArray]
                refine wpAnyH_done (by kernel_rfl) ?_ _
                refine NoPanic.normal ?_
                try go_wp2_with fail
                go_meet
                exact TwoOut.ca2 hq hca (hsa.mono (X' := Free) fun _ h => h.elim) bA bB (by omega) g0A g0B
        case rest =>
          obtain ⟨gr, gt, Az, kz, rfl, rfl, bc, bd, hsz, hkz, hbd⟩ := hcut
          obtain ⟨wb, rfl⟩ : ∃ wb : World, wb = wc := ⟨_, rfl⟩
          have hbw2 := Lib.hid (hbq.out.trans (hbd.mono hbq.out.size))
          replace xb := xb.below hbd xb.lt
          replace hb3 := hb3.below hbd hb3.lt
          replace Vb := Lib.hid (Vb.out.keep (free_below hbd))
          have x0 := (xb.cell 0).trans rfl
          have x1 := xb.lt
          have y0 := (hb3.cell 0).trans rfl
          have y1 := hb3.lt
          have c0 : wb.cell? ⟨gr, 0, none⟩ = some (.slice Az y.length kz) := (bc.cell 0).trans rfl
          have c1 := bc.lt
          have d0 : wb.cell? ⟨gt, 0, none⟩ = some (.int .i64 0) := (bd.cell 0).trans rfl
          have d1 := bd.lt
          have HST := Lib.hid (refStores_any wb Ab Az cb kz y y Vb.out hsz (by omega) (by omega))
          clear HK HA HA2 hbd hbq bc bd g f x bx hsz xb hb3 V0 V2 Vx Vu Vb hM hs1
          go_wp2_with fail
          go_at_call 22
          refine HST.out.mono ?_
          rintro e w9 ⟨rfl, hb9⟩
          go_wp2_with fail
          go_ret
          exact ⟨by simp, hbw2.out.trans (hb9.mono hbw2.out.size)⟩
      · have hb : (decide (0 ≤ (m : Int)) && decide ((m : Int) ≤ min (l.length : Int) 30)) = false := by
          rw [Bool.and_eq_false_iff]; right; simp; omega
        clear hin HRC HUC H32 H39 e1 HE1 hok e4
        go_wp2_with (go_at_call 26; refine (in_any _ _ _ _).mono ?_; rintro e w9 ⟨rfl, hw9⟩; have hw9 := hw9.symm; subst hw9; rw [hb])
        go_ret
        exact ⟨by simp, HBa4.out⟩
end Go.Proofs.YtfbbgnhelannjaaDoor
