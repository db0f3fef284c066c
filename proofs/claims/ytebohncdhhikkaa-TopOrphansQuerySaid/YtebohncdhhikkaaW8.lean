/-
  Histories: the library's 'slices.Backward' over a slice of commits: its contract as an iterator.
-/
import Derived.Test.YtebohncdhhikkaaHView
import Derived.RangeFuncNested
import Derived.RangeFuncBound
import Derived.RangeFuncCalls
import Derived.RangeFuncLeaves
import Derived.RangeFuncBox
import Derived.Shelf.Abstract
import Derived.Shelf.RegionOpen
import Derived.OwnWalkIn
import Derived.TacticsInMore
import Derived.LoopNIn
import Derived.LoopIn
namespace Go.Proofs.Ytebohncdhhikkaa
open Go.RowKit Go.V Go.Shelf
set_option linter.unusedVariables false
attribute [local go_sem] Oper.semAt_some

/-- What comes in a round: the number of a commit, and where its parents lie. -/
structure CX (w0 : World) (l : List Hs.Cm) where
  ix : Nat
  A : Option Addr
  k : Nat
  lt : ix < l.length
  iv : IV w0 A (Hs.cm l ix).par
def coV (c : Hs.Cm) (A : Option Addr) (k : Nat) : Array Value := #[.slice A c.par.length k, .int .i64 c.au, .int .i64 c.tm, .int .i64 c.tr, .string c.msg]
def cxV {w0 : World} {l : List Hs.Cm} (x : CX w0 l) : Array Value := #[.int .i64 (x.ix : Int), .agg (coV (Hs.cm l x.ix) x.A x.k)]
/-- What a round that goes on keeps. -/
def KpB (n₀ Bs : Nat) (W W' : World) : Prop := Below n₀ W W' ∧ W'.heap[Bs]? = W.heap[Bs]?
theorem kpB_t {n₀ Bs : Nat} {A B C : World} (h : KpB n₀ Bs A B) (k : KpB n₀ Bs B C) : KpB n₀ Bs A C := ⟨h.1.trans k.1, k.2.trans h.2⟩
theorem kpB_b {n₀ Bs : Nat} {w : World} (hn : n₀ ≤ w.heap.size) (hB : Bs < w.heap.size) (W : World) (l : Nat) (o o' : Obj) (hl : w.heap.size ≤ l) (h : W.heap[l]? = some o) (h1 : o.isCells = false) (h2 : o.isWalk = false) : KpB n₀ Bs W (W.putObj l o') :=
  ⟨belowK_b hn W l o o' hl h h1 h2, (grownBy_putObj' W l o').block Bs (by have := (Array.getElem?_eq_some_iff.1 h).1; omega) (fun e => by injection e with e; omega)⟩
def descX {w0 : World} {l : List Hs.Cm} (xs : List (CX w0 l)) : Prop := xs.map CX.ix = Hs.descL l.length l.length

set_option maxRecDepth 100000 in
set_option maxHeartbeats 4000000 in
theorem back1_in (F : Fence) (n : Nat) (h54 : F.fn 54) (hro : F.round = none) (hn : 1 ≤ n) (lp Bs : Nat) (w0 : World) (A : Option Addr) (l : List Hs.Cm) (kc : Nat) (hv : CV w0 A l) (hlen : l.length ≤ 60) (J Jx : List (CX w0 l) → World → Prop)
    (hY : ∀ pre x W, J pre W → pre.length < l.length → YieldAt F (n - 1) Try.prog lp (cxV x) W fun e W' =>
      (e = .returned (.bool true) ∧ J (pre ++ [x]) W' ∧ KpB w0.heap.size Bs W W') ∨ (e = .returned (.bool false) ∧ Jx (pre ++ [x]) W'))
    (W : World) (hb0 : Below w0.heap.size w0 W) (hBs : Blk W Bs 23 #[.slice A l.length kc]) (h0 : J [] W) :
    CallsIn F n Try.prog 54 #[.func (.yield lp) #[] #[], .pointer (some ⟨Bs, 0, none⟩)] W fun e W' => (∃ v, e = .returned v) ∧
      ((∃ ys, descX ys ∧ J ys W') ∨ (∃ pre, True ∧ Jx pre W')) := by
  refine callsIn_of_wp Try.func54 rfl h54 ?_ hro
  simp only [Try.ntmps54, List.size_toArray, List.length_cons, List.length_nil, Nat.reduceAdd, Nat.reduceSub, Array.replicate_succ, Array.replicate_zero, List.push_toArray, List.append_toArray, List.nil_append, List.cons_append]
  have hB0 := hBs.cell 0
  simp only [List.getElem?_toArray, List.getElem?_cons_zero] at hB0
  gi_wp2
  gi_loopw [3] (fun i wr => ∃ (m : Nat) (pre : List (CX w0 l)), m ≤ l.length ∧ i = .int .i64 ((l.length : Int) - 1 - m) ∧ Hid (pre.map CX.ix = Hs.descL l.length m) ∧ Hid (pre.length = m) ∧ J pre wr ∧ Below w0.heap.size w0 wr ∧ Blk wr Bs 23 #[.slice A l.length kc])
    (fun i _ => (intOf i + 1).toNat)
  case atStart => exact ⟨0, [], Nat.zero_le _, by simp, rfl, rfl, h0, hb0, hBs⟩
  case round =>
    obtain ⟨m, pre, hm, rfl, HD, HL, hJs, hbr, hBr⟩ := hrel
    have hBr0 := hBr.cell 0
    simp only [List.getElem?_toArray, List.getElem?_cons_zero] at hBr0
    by_cases hlt : m < l.length
    · obtain ⟨r, hr⟩ : ∃ r : Nat, l.length - 1 - m = r := ⟨_, rfl⟩
      have hri : (l.length : Int) - 1 - m = (r : Int) := by omega
      have hrl : r < l.length := by omega
      obtain ⟨b, off, Ap, kp, e, hb, c0, c1, c2, c3, c4, hok, hip⟩ := hv.rowIn hbr r hrl
      subst e
      rw [Hs.cm_eq l r hrl] at c0 c1 c2 c3 c4 hip
      have hY' := hY pre (CX.mk r Ap kp hrl hip) wr hJs (by rw [HL.out]; exact hlt)
      have HD2 := Lib.hid (show (pre ++ [CX.mk r Ap kp hrl hip]).map CX.ix = Hs.descL l.length (m + 1) from by
        rw [Hs.descL_succ, List.map_append, HD.out, hr]; rfl)
      have HL2 := Lib.hid (show (pre ++ [CX.mk r Ap kp hrl hip]).length = m + 1 from by rw [List.length_append, HL.out]; rfl)
      obtain ⟨fn, tmps, assign, body, hy, hR⟩ := hY'
      simp only [cxV, coV] at hy
      rw [hri]
      have HR := Lib.hid hri
      clear hY hri hr
      have hri' : ((r : Int) + 1).toNat = r + 1 := by omega
      have hrn : (r : Int) < l.length := by omega
      gi_wp2
      refine hR.mono ?_
      rintro e W3 (⟨rfl, hJ3, hk3⟩ | ⟨rfl, hJx3⟩)
      · gi_wp2
        go_roundw
        case rel => exact ⟨m + 1, _, by omega, by have := HR.out; simp; omega, HD2, HL2, hJ3, hbr.trans hk3.1, hk3.2.trans hBr⟩
        case measure => first | (simp [intOf]; done) | (simp [intOf]; omega)
      · gi_wp2
        refine bodyPost_ret (results_none rfl _ _ _) rfl ?_
        exact ⟨⟨_, rfl⟩, .inr ⟨_, trivial, hJx3⟩⟩
    · obtain rfl : m = l.length := by omega
      gi_wp2
      go_end0
      exact ⟨⟨_, rfl⟩, .inl ⟨_, HD.out, hJs⟩⟩
end Go.Proofs.Ytebohncdhhikkaa
