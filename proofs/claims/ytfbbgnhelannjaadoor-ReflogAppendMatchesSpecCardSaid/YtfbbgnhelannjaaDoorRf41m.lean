/-
  Logs: walk of 'Append'.
  Logs: the library's 'slices.Backward' over a log: its contract as an iterator.
  Logs: walk of 'Undo'.
  ReflogAppendMatchesSpec: the law's walk.
-/
import Derived.Test.YtfbbgnhelannjaaDoorRf34
import Derived.Test.YtfbbgnhelannjaaDoorRf27
import Derived.Test.YtfbbgnhelannjaaDoorView14
import Derived.Deep.RegionHeld3
import Derived.Deep.DeepCutAuto
import Derived.Test.YtfbbgnhelannjaaDoorRf28
import Derived.RangeFuncNested
import Derived.RangeFuncBound
import Derived.RangeFuncCalls
import Derived.RangeFuncLeaves
import Derived.RangeFuncBox
import Derived.Shelf.Abstract
import Derived.Shelf.RegionOpen
import Derived.OwnWalkIn
import Derived.TacticsInMore
import Derived.LoopNIn
import Derived.LoopIn
import Derived.Test.YtfbbgnhelannjaaDoorRf31
import Derived.Test.YtfbbgnhelannjaaDoorRegIn
import Derived.Outline
import Derived.Test.YtfbbgnhelannjaaDoorRf35
import Derived.Test.YtfbbgnhelannjaaDoorRf32
import Derived.Test.YtfbbgnhelannjaaDoorView16
import Derived.Deep.RegionLaw
namespace Rf
/-- What 'Append' answers. -/
def apF (b : List R) (l : List E) (e : E) : List E × (Int × Int) := if (lgF b l).1 ≠ 0 then ([], lgF b l) else if (lgF b (l ++ [e])).1 ≠ 0 then ([], lgF b (l ++ [e])) else (l ++ [e], (0, 0))
end Rf
namespace Go.Proofs.YtfbbgnhelannjaaDoor
open Go.RowKit Go.V Go.Shelf Go.Lib
set_option linter.unusedVariables false

/-- The boxes of 'Append'. -/
structure ApSt (w wr : World) (A : Option Addr) (n k : Nat) (et : Int) (un : List UInt8) (uo uw : Int) : Prop where
  bx : Blk wr w.heap.size 26 #[.slice A n k]
  be : Blk wr (w.heap.size + 1) 69 #[.int .i64 et, strV un, .int .i64 uo, .int .i64 uw]
  r2 : Blk wr (w.heap.size + 2) 30 #[.int .i64 0, .int .i64 0]
  bel : Below w.heap.size w wr
section
variable {w wr w' : World} {A : Option Addr} {n k : Nat} {et : Int} {un : List UInt8} {uo uw : Int}
theorem ApSt.below (h : ApSt w wr A n k et un uo uw) (hb : Below wr.heap.size wr w') : ApSt w w' A n k et un uo uw :=
  ⟨h.bx.below hb h.bx.lt, h.be.below hb h.be.lt, h.r2.below hb h.r2.lt, h.bel.trans (hb.mono h.bel.size)⟩
theorem ApSt.grown (h : ApSt w wr A n k et un uo uw) {row : Option Nat} (hg : wr.grownBy w' row) (hr : ∀ b, row = some b → w.heap.size + 3 ≤ b) : ApSt w w' A n k et un uo uw :=
  ⟨h.bx.grown hg (fun e => by have := hr _ e.symm; omega), h.be.grown hg (fun e => by have := hr _ e.symm; omega), h.r2.grown hg (fun e => by have := hr _ e.symm; omega), h.bel.grown hg h.bel.size (fun b e => by have := hr b e; omega)⟩
theorem ApSt.facts (h : ApSt w wr A n k et un uo uw) : wr.cell? ⟨w.heap.size, 0, none⟩ = some (.slice A n k) ∧
    wr.cell? ⟨w.heap.size + 1, 0, none⟩ = some (.int .i64 et) ∧ wr.cell? ⟨w.heap.size + 1, 1, none⟩ = some (strV un) ∧ wr.cell? ⟨w.heap.size + 1, 2, none⟩ = some (.int .i64 uo) ∧ wr.cell? ⟨w.heap.size + 1, 3, none⟩ = some (.int .i64 uw) ∧
    wr.cell? ⟨w.heap.size + 2, 0, none⟩ = some (.int .i64 0) ∧ wr.cell? ⟨w.heap.size + 2, 1, none⟩ = some (.int .i64 0) ∧ wr.frozen? ⟨w.heap.size + 2, 0, none⟩ = false ∧ wr.frozen? ⟨w.heap.size + 2, 1, none⟩ = false ∧
    w.heap.size < wr.heap.size ∧ w.heap.size + 1 < wr.heap.size ∧ w.heap.size + 2 < wr.heap.size :=
  ⟨(h.bx.cell 0).trans rfl, (h.be.cell 0).trans rfl, (h.be.cell 1).trans rfl, (h.be.cell 2).trans rfl, (h.be.cell 3).trans rfl, (h.r2.cell 0).trans rfl, (h.r2.cell 1).trans rfl, h.r2.frozen 0, h.r2.frozen 1, h.bx.lt, h.be.lt, h.r2.lt⟩
theorem ApSt.put (h : ApSt w wr A n k et un uo uw) (u v : Value) : Blk ((wr.setCell ⟨w.heap.size + 2, 0, none⟩ u).setCell ⟨w.heap.size + 2, 1, none⟩ v) (w.heap.size + 2) 30 #[u, v] ∧ Below w.heap.size w ((wr.setCell ⟨w.heap.size + 2, 0, none⟩ u).setCell ⟨w.heap.size + 2, 1, none⟩ v) :=
  ⟨blk_put2 h.r2 u v, (h.bel.setCell (p := ⟨w.heap.size + 2, 0, none⟩) (by simp only; omega) u).setCell (p := ⟨w.heap.size + 2, 1, none⟩) (by simp only; omega) v⟩
end
theorem eC_one (et : Int) (un : List UInt8) (uo uw : Int) : ∀ u ∈ ([.int .i64 et, strV un, .int .i64 uo, .int .i64 uw] : List Value), u.oneCell' = true := by
  intro v hv; simp at hv; rcases hv with rfl | rfl | rfl | rfl <;> rfl
theorem size_alloc_le' (w : World) (o : Obj) : w.heap.size ≤ (w.alloc o).heap.size := by simp
set_option maxRecDepth 100000 in
set_option maxHeartbeats 32000000 in
theorem append_any (w : World) (hm : Mx w) (A : Option Addr) (k : Nat) (s : List Rf.R) (hv : SA w Free A (rsV s)) (hl64 : s.length ≤ 9223372036854775807) (hk : s.length ≤ k)
    (A2 : Option Addr) (k2 : Nat) (l : List Rf.E) (hv2 : SA w Free A2 (esV l)) (en : Rf.E) :
    Calls Tryd.prog 40 #[.agg #[.slice A s.length k], .slice A2 l.length k2, .agg #[.int .i64 en.time, strV en.upd.name, .int .i64 en.upd.old, .int .i64 en.upd.new]] w (OfPost w (Rf.apF s l en)) := by
  obtain ⟨i0, z0, hi0, hz0, hz1, hz2, hzs⟩ := info_parts' info69
  have HV := Lib.hid (fun (w1 : World) (hb : Below w.heap.size w w1) => hv.keep (free_below hb))
  have HV2 := Lib.hid (fun (w1 : World) (hb : Below w.heap.size w w1) => hv2.keep (free_below hb))
  have HM := Lib.hid hm.fun_
  have HPF := Lib.hid (Rf.apF.eq_1 s l en)
  have HS := Lib.hid (fun (w1 : World) (hb : Below w.heap.size w w1) => states_any w1 (HM.out _ hb) A k s (HV.out _ hb) hl64 hk A2 k2 l (HV2.out _ hb))
  have HCL := Lib.hid (fun (hl : l.length ≤ 60) (w1 : World) (hb : Below w.heap.size w w1) => clone55_any w1 A2 k2 l (HV2.out _ hb) (by omega))
  have HS2 := Lib.hid (fun (w1 : World) (hb : Below w.heap.size w w1) (A3 : Option Addr) (k3 : Nat) (hv3 : SA w1 Free A3 (esV (l ++ [en]))) => states_any w1 (HM.out _ hb) A k s (HV.out _ hb) hl64 hk A3 k3 (l ++ [en]) hv3)
  clear hv hm hv2
  generalize hr : Rf.apF s l en = r at *
  clear hr
  have HNO : Hid (∀ c i w', r = ([], (c, i)) → Below w.heap.size w w' → OfPost w r (.returned (.tuple #[.slice none 0 0, .agg #[.int .i64 c, .int .i64 i]])) w') := Lib.hid fun c i w' h hb => OfPost.mk_ (l := []) h (Nat.le_refl _) SA.nil hb
  have HSN := Lib.hid (show esV l ++ [.int .i64 en.time, strV en.upd.name, .int .i64 en.upd.old, .int .i64 en.upd.new] = esV (l ++ [en]) from esV_snoc l en)
  have HYES : Hid (∀ A' c' w', r = (l ++ [en], (0, 0)) → l.length + 1 ≤ c' → SA w' (Under w.heap.size) A' (esV (l ++ [en])) → Below w.heap.size w w' → OfPost w r (.returned (.tuple #[.slice A' (l.length + 1) c', .agg #[.int .i64 0, .int .i64 0]])) w') := Lib.hid fun A' c' w' h hc hs hb => by
    have := OfPost.mk_ h (A := A') (c := c') (by simpa using hc) hs hb
    simpa using this
  have hnl : Hid ((l ++ [en]).length = l.length + 1) := Lib.hid (by simp)
  obtain ⟨et, un, uo, uw⟩ := en
  simp only at *
  have st0 : ApSt w (((w.alloc (.cells #[.slice A s.length k] 26)).alloc (.cells #[.int .i64 et, strV un, .int .i64 uo, .int .i64 uw] 69)).alloc (.cells #[.int .i64 0, .int .i64 0] 30)) A s.length k et un uo uw :=
    ⟨((Blk.new _ _ _).alloc _).alloc _, (blk_new1 _ _ _ _).alloc _, blk_new2 _ _ _ _ _, below_alloc3 _ _ _ _⟩
  have hsz0 : (((w.alloc (.cells #[.slice A s.length k] 26)).alloc (.cells #[.int .i64 et, strV un, .int .i64 uo, .int .i64 uw] 69)).alloc (.cells #[.int .i64 0, .int .i64 0] 30)).heap.size = w.heap.size + 3 := by simp
  go_enter Tryd.func40, Tryd.ntmps40
  go_wp2_with fail
  go_at_call 52
  refine (HS.out _ st0.bel).mono ?_
  rintro e w1 (⟨hbad, rfl, hb1⟩ | ⟨hok, As, cs, vs, rfl, hA, hrow, hb1⟩)
  · have H := Lib.hid (HPF.out.trans (if_pos hbad))
    have hx1 : ((Rf.lgF s l).1 == 0) = false := by simpa using hbad
    have hx2 : ((Rf.lgF s l).1 != 0) = true := by simpa using hbad
    clear hbad HPF HV HS HS2 HCL
    generalize Rf.lgF s l = q at *
    obtain ⟨cd, ix⟩ := q
    simp only at hx1 hx2
    have HR := Lib.hid (fun w' hb => HNO.out cd ix w' H.out hb)
    clear H HNO HYES
    have st1 := st0.below hb1
    obtain ⟨p0, p1, p2, p3, p4, p5, p6, p7, p8, l0, l1, l2⟩ := st1.facts
    clear st0 hb1 hsz0
    go_wp2_with fail
    go_region
    all_goals
      go_wp2_with fail
      obtain ⟨k1, k2⟩ := st1.put (.int .i64 cd) (.int .i64 ix)
      refine bodyPost_ret (results_tc30 rfl _ _ (w.heap.size + 2) (.int .i64 cd) (.int .i64 ix) (.slice none 0 0) rfl rfl ((k1.alloc _).drewN 1)) rfl ?_
      exact HR.out _ (below_drewN' (k2.alloc (by simp [World.setCell]; omega) _) 1)
  · have HP2 := Lib.hid (HPF.out.trans (if_neg (by rw [hok.f]; simp)))
    have hlen := hok.len
    have st1 := st0.below hb1
    have st2 := st1.below (below_alloc1 w1 (.cells #[.int .i64 0, .int .i64 0] 30))
    have hsz1 : w.heap.size + 3 ≤ (w1.alloc (.cells #[.int .i64 0, .int .i64 0] 30)).heap.size := by have := hb1.size; simp at this ⊢; omega
    have HCL2 := Lib.hid (HCL.out hlen)
    clear HPF HV HS st0 st1 hb1 hsz0 hok HCL hA hrow
    obtain ⟨p0, p1, p2, p3, p4, p5, p6, p7, p8, l0, l1, l2⟩ := st2.facts
    go_wp2_with fail
    generalize w1.alloc (.cells #[.int .i64 0, .int .i64 0] 30) = wq at *
    have hq0 : Below wq.heap.size wq wq.drew := below_drew' (Below.refl _ _)
    have hq1 : Below wq.heap.size wq (wq.alloc (.cells #[.int .i64 et, strV un, .int .i64 uo, .int .i64 uw] 69)).drew := below_drew' (below_alloc1 _ _)
    have HC0 := Lib.hid (HCL2.out wq.drew (st2.bel.trans (hq0.mono st2.bel.size)))
    have HC1 := Lib.hid (HCL2.out (wq.alloc (.cells #[.int .i64 et, strV un, .int .i64 uo, .int .i64 uw] 69)).drew (st2.bel.trans (hq1.mono st2.bel.size)))
    have h63 : l.length + 1 ≤ maxLen := by unfold maxLen; omega
    have hby : (l.length + 1) * 40 ≤ 140737488355328 := by omega
    clear HCL2
    go_cut [10] (fun p wx => ∃ A' c', p = .slice A' (l.length + 1) c' ∧ l.length + 1 ≤ c' ∧ ApSt w wx A s.length k et un uo uw ∧ SA wx (Under (w.heap.size + 3)) A' (esV l ++ [.int .i64 et, strV un, .int .i64 uo, .int .i64 uw]))
    case first =>
      go_region_law (first
        | (go_simp; go_at_call 55; (with_reducible refine HC0.out.mono ?_); rintro e w5 ⟨A5, c5, rfl, hown5, hb5⟩; have hk1 : Below wq.heap.size wq w5 := hq0.trans (hb5.mono hq0.size); have st5 := st2.below hk1; have hbs5 : wq.heap.size ≤ w5.heap.size := hk1.size; obtain ⟨q0, q1, q2, q3, q4, q5, q6, q7, q8, m0, m1, m2⟩ := st5.facts)
        | (go_simp; go_at_call 55; (with_reducible refine HC1.out.mono ?_); rintro e w5 ⟨A5, c5, rfl, hown5, hb5⟩; have hk1 : Below wq.heap.size wq w5 := hq1.trans (hb5.mono hq1.size); have st5 := st2.below hk1; have hbs5 : wq.heap.size ≤ w5.heap.size := hk1.size; have blit : Blk w5 wq.heap.size 69 #[.int .i64 et, strV un, .int .i64 uo, .int .i64 uw] := (show Blk (wq.alloc (.cells #[.int .i64 et, strV un, .int .i64 uo, .int .i64 uw] 69)).drew wq.heap.size 69 #[.int .i64 et, strV un, .int .i64 uo, .int .i64 uw] from Blk.new _ _ _).below hb5 (show wq.heap.size < (wq.alloc (.cells #[.int .i64 et, strV un, .int .i64 uo, .int .i64 uw] 69)).heap.size by simp); obtain ⟨q0, q1, q2, q3, q4, q5, q6, q7, q8, m0, m1, m2⟩ := st5.facts)
        | (refine step_appNo _ rfl (.tmp 24) (.tmp 26) 54 rfl _ 69 i0 _ 4 40 Tryd.underlying54 hi0 hz0 hz1 hz2 hzs (by decide) A5 l.length c5 (esV l) rfl (hown5.alloc (.cells #[.int .i64 et, strV un, .int .i64 uo, .int .i64 uw] 69)) w5.heap.size 1 [.int .i64 et, strV un, .int .i64 uo, .int .i64 uw] rfl rfl (fun j v hj => cells_new w5 #[.int .i64 et, strV un, .int .i64 uo, .int .i64 uw] 69 j v hj) (eC_one et un uo uw) h63 hby (Nat.le_trans hb5.size (size_alloc_le' _ _)) ?_; intro ge ce wz hown6 hg6 hob6; have st6 := (st5.below (below_alloc1 w5 (.cells #[.int .i64 et, strV un, .int .i64 uo, .int .i64 uw] 69))).grown hg6 (fun b e => by have h1 := (hown5.lt b e).1; have h2 : wq.heap.size ≤ wq.drew.heap.size := Nat.le_refl _; omega))
        | (refine step_appNo _ rfl (.tmp 24) (.tmp 26) 54 rfl _ 69 i0 _ 4 40 Tryd.underlying54 hi0 hz0 hz1 hz2 hzs (by decide) A5 l.length c5 (esV l) rfl hown5 wq.heap.size 1 [.int .i64 et, strV un, .int .i64 uo, .int .i64 uw] rfl rfl (fun j v hj => by have := blit.cell j; rw [← Array.getElem?_toList] at this; exact this.trans hj) (eC_one et un uo uw) h63 hby hb5.size ?_; intro ge ce wz hown6 hg6 hob6; have st6 := st5.grown hg6 (fun b e => by have h1 := (hown5.lt b e).1; have h2 : wq.heap.size ≤ (wq.alloc (.cells #[.int .i64 et, strV un, .int .i64 uo, .int .i64 uw] 69)).drew.heap.size := hq1.size; omega)))
      all_goals
        go_wp2_with fail
        go_meet
        refine ⟨_, ce, rfl, ?_, st6, SA.of_own' hown6 (fun b hb hX => ?_)⟩
        · obtain ⟨A'', c'', e1, hcc, _⟩ := own_form hown6
          injection e1 with _ _ e3
          subst e3; exact hcc
        · have h1 := (hown6.lt b hb).1
          have h2 : wq.heap.size ≤ wq.drew.heap.size := Nat.le_refl _
          have h3 : wq.heap.size ≤ (wq.alloc (.cells #[.int .i64 et, strV un, .int .i64 uo, .int .i64 uw] 69)).drew.heap.size := hq1.size
          unfold Under at hX
          omega
    case rest =>
      obtain ⟨A', c', rfl, hc', st3, hs3⟩ := hcut
      obtain ⟨wd, rfl⟩ : ∃ wd : World, wd = wc := ⟨_, rfl⟩
      rw [HSN.out] at hs3
      have HS3 : Hid (Calls Tryd.prog 52 #[.agg #[.slice A s.length k], .slice A' (l.length + 1) c'] wd (SsPost wd s (l ++ [⟨et, ⟨un, uo, uw⟩⟩]))) := Lib.hid (by
        have h := HS2.out wd st3.bel A' c' (hs3.mono (fun _ h => h.elim))
        rw [hnl.out] at h
        exact h)
      clear HS2 HC0 HC1 hq0 hq1 p0 p1 p2 p3 p4 p5 p6 p7 p8 l0 l1 l2 st2 HSN hnl
      obtain ⟨p0, p1, p2, p3, p4, p5, p6, p7, p8, l0, l1, l2⟩ := st3.facts
      go_wp2_with fail
      go_at_call 52
      refine HS3.out.mono ?_
      rintro e w6 (⟨hbad2, rfl, hb6⟩ | ⟨hok2, As2, cs2, vs2, rfl, hA6, hrow6, hb6⟩)
      · have H := Lib.hid (HP2.out.trans (if_pos hbad2))
        have hx1 : ((Rf.lgF s (l ++ [⟨et, ⟨un, uo, uw⟩⟩])).1 == 0) = false := by simpa using hbad2
        have hx2 : ((Rf.lgF s (l ++ [⟨et, ⟨un, uo, uw⟩⟩])).1 != 0) = true := by simpa using hbad2
        clear hbad2 HP2 HS3 hs3
        generalize Rf.lgF s (l ++ [⟨et, ⟨un, uo, uw⟩⟩]) = q at *
        obtain ⟨cd, ix⟩ := q
        simp only at hx1 hx2
        have HR := Lib.hid (fun w' hb => HNO.out cd ix w' H.out hb)
        clear H HNO HYES
        have st4 := st3.below hb6
        clear p0 p1 p2 p3 p4 p5 p6 p7 p8 l0 l1 l2 hb6 st3
        obtain ⟨p0, p1, p2, p3, p4, p5, p6, p7, p8, l0, l1, l2⟩ := st4.facts
        go_wp2_with fail
        go_region
        all_goals
          go_wp2_with fail
          obtain ⟨k1, k2⟩ := st4.put (.int .i64 cd) (.int .i64 ix)
          refine bodyPost_ret (results_tc30 rfl _ _ (w.heap.size + 2) (.int .i64 cd) (.int .i64 ix) (.slice none 0 0) rfl rfl ((k1.alloc _).drewN 1)) rfl ?_
          exact HR.out _ (below_drewN' (k2.alloc (by simp [World.setCell]; omega) _) 1)
      · have H := Lib.hid (HP2.out.trans (if_neg (by rw [hok2.f]; simp)))
        have st4 := st3.below hb6
        have st5 := st4.below (below_alloc1 w6 (.cells #[.int .i64 0, .int .i64 0] 30))
        have hs5 := (hs3.keep (Keeps.below hb6 (X' := Under (w.heap.size + 3)) fun _ _ h => h)).keep (Keeps.alloc w6 _ (.cells #[.int .i64 0, .int .i64 0] 30))
        clear HP2 HS3 hs3 hok2 hA6 hrow6 HNO
        clear p0 p1 p2 p3 p4 p5 p6 p7 p8 l0 l1 l2 hb6 st3
        obtain ⟨p0, p1, p2, p3, p4, p5, p6, p7, p8, l0, l1, l2⟩ := st5.facts
        obtain ⟨k1, k2'⟩ := st5.put (.int .i64 0) (.int .i64 0)
        have HR := Lib.hid (HYES.out A' c' _ H.out hc' ((hs5.keep ((Keeps.setCell _ _ ⟨w.heap.size + 2, 0, none⟩ (.int .i64 0) (show w.heap.size + 2 < w.heap.size + 3 by omega)).trans (Keeps.setCell _ _ ⟨w.heap.size + 2, 1, none⟩ (.int .i64 0) (show w.heap.size + 2 < w.heap.size + 3 by omega)))).mono (fun b hb => by unfold Under at *; omega)) k2')
        clear H HYES hs5
        go_wp2_with fail
        exact bodyPost_ret (results_tc30 rfl _ _ (w.heap.size + 2) (.int .i64 0) (.int .i64 0) (.slice A' (l.length + 1) c') rfl rfl k1) rfl HR.out
end Go.Proofs.YtfbbgnhelannjaaDoor
namespace Go.Proofs.YtfbbgnhelannjaaDoor
open Go.RowKit Go.V Go.Shelf Go.Lib
set_option linter.unusedVariables false
attribute [local go_sem] Oper.semAt_some

/-- What comes in a round. -/
def bxV (l : List Rf.E) (x : Nat) : Array Value := #[.int .i64 (x : Int), .agg #[.int .i64 (l[x]?.getD default).time, strV (l[x]?.getD default).upd.name, .int .i64 (l[x]?.getD default).upd.old, .int .i64 (l[x]?.getD default).upd.new]]
def KpE (n₀ Bs : Nat) (W W' : World) : Prop := Below n₀ W W' ∧ W'.heap[Bs]? = W.heap[Bs]?
/-- The numbers from the last one down. -/
def downL (n m : Nat) : List Nat := (List.range m).map fun j => n - 1 - j
theorem downL_succ (n m : Nat) : downL n (m + 1) = downL n m ++ [n - 1 - m] := by unfold downL; rw [List.range_succ, List.map_append]; rfl
set_option maxRecDepth 100000 in
set_option maxHeartbeats 4000000 in
theorem back73_in (F : Fence) (n : Nat) (h73 : F.fn 73) (hro : F.round = none) (hn : 1 ≤ n) (lp Bs : Nat) (w0 : World) (A : Option Addr) (l : List Rf.E) (kc : Nat) (hv : SA w0 Free A (esV l)) (hlen : l.length ≤ 60) (J Jx : List Nat → World → Prop)
    (hY : ∀ pre x W, J pre W → pre.length < l.length → x < l.length → YieldAt F (n - 1) Tryd.prog lp (bxV l x) W fun e W' =>
      (e = .returned (.bool true) ∧ J (pre ++ [x]) W' ∧ KpE w0.heap.size Bs W W') ∨ (e = .returned (.bool false) ∧ Jx (pre ++ [x]) W'))
    (W : World) (hb0 : Below w0.heap.size w0 W) (hBs : Blk W Bs 54 #[.slice A l.length kc]) (h0 : J [] W) :
    CallsIn F n Tryd.prog 73 #[.func (.yield lp) #[] #[], .pointer (some ⟨Bs, 0, none⟩)] W fun e W' => (∃ v, e = .returned v) ∧
      (J (downL l.length l.length) W' ∨ (∃ pre, Jx pre W')) := by
  refine callsIn_of_wp Tryd.func73 rfl h73 ?_ hro
  simp only [Tryd.ntmps73, List.size_toArray, List.length_cons, List.length_nil, Nat.reduceAdd, Nat.reduceSub, Array.replicate_succ, Array.replicate_zero, List.push_toArray, List.append_toArray, List.nil_append, List.cons_append]
  have hB0 := hBs.cell 0
  simp only [List.getElem?_toArray, List.getElem?_cons_zero] at hB0
  gi_wp2
  gi_loopw [3] (fun i wr => ∃ (m : Nat), m ≤ l.length ∧ i = .int .i64 ((l.length : Int) - 1 - m) ∧ J (downL l.length m) wr ∧ Below w0.heap.size w0 wr ∧ Blk wr Bs 54 #[.slice A l.length kc])
    (fun i _ => (intOf i + 1).toNat)
  case atStart => exact ⟨0, Nat.zero_le _, by simp, h0, hb0, hBs⟩
  case round =>
    obtain ⟨m, hm, rfl, hJs, hbr, hBr⟩ := hrel
    have hBr0 := hBr.cell 0
    simp only [List.getElem?_toArray, List.getElem?_cons_zero] at hBr0
    by_cases hlt : m < l.length
    · obtain ⟨r, hr⟩ : ∃ r : Nat, l.length - 1 - m = r := ⟨_, rfl⟩
      have hri : (l.length : Int) - 1 - m = (r : Int) := by omega
      have hrl : r < l.length := by omega
      obtain ⟨b, off, e, hb, _, c0, c1, c2, c3⟩ := esV_row (hv.keep (free_below hbr)) r hrl
      subst e
      have hY' := hY (downL l.length m) r wr hJs (by simp [downL]; omega) hrl
      have HD2 := Lib.hid (show downL l.length (m + 1) = downL l.length m ++ [r] from by rw [downL_succ, hr])
      obtain ⟨fn, tmps, assign, body, hy, hR⟩ := hY'
      simp only [bxV, List.getElem?_eq_getElem hrl, Option.getD_some] at hy
      generalize l[r] = x at *
      rw [hri]
      have HR := Lib.hid hri
      clear hY hri hr
      have hri' : ((r : Int) + 1).toNat = r + 1 := by omega
      have hrn : (r : Int) < l.length := by omega
      gi_wp2
      refine hR.mono ?_
      rintro e W3 (⟨rfl, hJ3, hk3⟩ | ⟨rfl, hJx3⟩)
      · gi_wp2
        go_roundw
        case rel => exact ⟨m + 1, by omega, by have := HR.out; simp; omega, by rw [HD2.out]; exact hJ3, hbr.trans hk3.1, hk3.2.trans hBr⟩
        case measure => first | (simp [intOf]; done) | (simp [intOf]; omega)
      · gi_wp2
        refine bodyPost_ret (results_none rfl _ _ _) rfl ?_
        exact ⟨⟨_, rfl⟩, .inr ⟨_, hJx3⟩⟩
    · obtain rfl : m = l.length := by omega
      gi_wp2
      go_end0
      exact ⟨⟨_, rfl⟩, .inl hJs⟩
end Go.Proofs.YtfbbgnhelannjaaDoor
namespace Rf
/-- The updates that undo the last n entries. -/
def udL (l : List E) : List U := l.reverse.map fun e => inv e.upd
def udF (b : List R) (l : List E) (n : Int) : List U × (Int × Int) := if (lgF b l).1 ≠ 0 then ([], lgF b l) else if n < 0 ∨ (l.length : Int) < n then ([], (3, -3)) else (udL (l.drop (l.length - n.toNat)), (0, 0))
/-- What the rounds have made. -/
def udX (l : List E) (xs : List Nat) : List U := xs.map fun x => inv (l[x]?.getD default).upd
theorem udX_snoc (l : List E) (xs : List Nat) (x : Nat) : udX l (xs ++ [x]) = udX l xs ++ [inv (l[x]?.getD default).upd] := by unfold udX; rw [List.map_append]; rfl
theorem udX_len (l : List E) (xs : List Nat) : (udX l xs).length = xs.length := by simp [udX]
theorem udX_down (l : List E) : udX l ((List.range l.length).map fun j => l.length - 1 - j) = udL l := by
  refine List.ext_getElem (by simp [udX, udL]) fun i h1 h2 => ?_
  have hi : i < l.length := by simpa [udX] using h1
  simp only [udX, udL, List.getElem_map, List.getElem_range, List.getElem_reverse]
  rw [List.getElem?_eq_getElem (by omega)]; rfl
end Rf
namespace Go.Proofs.YtfbbgnhelannjaaDoor
open Go.RowKit Go.V Go.Shelf Go.Lib
set_option linter.unusedVariables false
attribute [local go_sem] Oper.semAt_some

/-- Updates and a fault. -/
def UdPost (w : World) (r : List Rf.U × (Int × Int)) (e : Ending) (w' : World) : Prop := ∃ A c, e = .returned (.tuple #[.slice A r.1.length c, .agg #[.int .i64 r.2.1, .int .i64 r.2.2]]) ∧ r.1.length ≤ c ∧ SA w' (Under w.heap.size) A (usV r.1) ∧ Below w.heap.size w w'
theorem UdPost.mk_ {w w' : World} {r : List Rf.U × (Int × Int)} {A : Option Addr} {c : Nat} {l : List Rf.U} {a b : Int} (h : r = (l, (a, b))) (hc : l.length ≤ c) (hs : SA w' (Under w.heap.size) A (usV l)) (hb : Below w.heap.size w w') : UdPost w r (.returned (.tuple #[.slice A l.length c, .agg #[.int .i64 a, .int .i64 b]])) w' := by
  subst h; exact ⟨A, c, rfl, hc, hs, hb⟩
theorem backward56_in (F : Fence) (n : Nat) (h56 : F.fn 56) (hro : F.round = none) (a : Option Addr) (len cap : Nat) (w : World) :
    CallsIn F n Tryd.prog 56 #[.slice a len cap] w fun e w' => e = .returned (.func (.func 73) #[] #[.pointer (some ⟨w.heap.size, 0, none⟩)]) ∧ w' = w.alloc (.cells #[.slice a len cap] 54) := by
  refine callsIn_of_wp Tryd.func56 rfl h56 ?_ hro
  simp only [Tryd.ntmps56, List.size_toArray, List.length_cons, List.length_nil, Nat.reduceAdd, Nat.reduceSub, Array.replicate_succ, Array.replicate_zero, List.push_toArray, List.append_toArray, List.nil_append, List.cons_append]
  gi_wp2
  go_ret
  exact ⟨rfl, rfl⟩
theorem back_stops73 (F : Fence) (n : Nat) (h73 : F.fn 73) (hro : F.round = none) (hn : 1 ≤ n) (Bs : Nat) (w0 w : World) (A : Option Addr) (l : List Rf.E) (kc : Nat) (hv : SA w0 Free A (esV l)) (hlen : l.length ≤ 60)
    (hb0 : Below w0.heap.size w0 w) (hB : Blk w Bs 54 #[.slice A l.length kc]) :
    SeqStopsK F n Tryd.prog 73 #[.pointer (some ⟨Bs, 0, none⟩)] (bxV l) (KpE w0.heap.size Bs) (fun ys => ys = downL l.length l.length) (fun _ => True) l.length w := fun lp J Jx W hW _ _ hY h0 =>
  (back73_in F n h73 hro hn lp Bs w0 A l kc hv hlen J Jx (fun pre x W h1 h2 _ => hY pre x W h1 h2) W (hb0.trans (hW.mono hb0.size)) (hB.below hW hB.lt) h0).mono fun e W' h => ⟨h.1, h.2.imp (fun h => ⟨_, rfl, h⟩) (fun ⟨p, h⟩ => ⟨p, trivial, h⟩)⟩
theorem kpE_t {n₀ Bs : Nat} {A B C : World} (h : KpE n₀ Bs A B) (k : KpE n₀ Bs B C) : KpE n₀ Bs A C := ⟨h.1.trans k.1, k.2.trans h.2⟩
theorem kpE_b {n₀ Bs : Nat} {w : World} (hn : n₀ ≤ w.heap.size) (hB : Bs < w.heap.size) (W : World) (l : Nat) (o o' : Obj) (hl : w.heap.size ≤ l) (h : W.heap[l]? = some o) (h1 : o.isCells = false) (h2 : o.isWalk = false) : KpE n₀ Bs W (W.putObj l o') :=
  ⟨belowK_b hn W l o o' hl h h1 h2, (grownBy_putObj' W l o').block Bs (by have := (Array.getElem?_eq_some_iff.1 h).1; omega) (fun e => by injection e with e; omega)⟩
theorem own_nocells {w w' : World} {row : Option Nat} {base : Nat} {e : TypeId} {size : Nat} {v : Value} {k : Nat} {xs : List Value} (h : w.ownsRow base e size v k xs) (hg : w.grownBy w' row)
    (hr : ∀ r, row = some r → ∃ o, w.heap[r]? = some o ∧ o.isCells = false) : w'.ownsRow base e size v k xs := by
  refine h.kept hg ?_
  rcases h.2 with ⟨rfl, _⟩ | ⟨g, cap, cur, rfl, _, hgb, _⟩
  · exact .inl rfl
  · refine .inr fun e' => ?_
    obtain ⟨o, ho, hc⟩ := hr g (by simpa [Value.ownBlock] using e'.symm)
    rw [hgb] at ho; cases ho; cases hc
theorem keepsOthers_own {w w' : World} {base : Nat} {e : TypeId} {size : Nat} {v : Value} {k : Nat} {xs : List Value} (h : w.ownsRow base e size v k xs) (hg : w.grownBy w' v.ownBlock) : KeepsOthers w w' :=
  KeepsOthers.of_grownBy hg fun j o ej hj => by
    rcases h.2 with ⟨rfl, _⟩ | ⟨g, cap, cur, rfl, _, hgb, _⟩
    · simp [Value.ownBlock] at ej
    · obtain rfl : g = j := by simpa [Value.ownBlock] using ej
      rw [hgb] at hj; cases hj; rfl
theorem heap_setCell_ne' (W : World) (b o D : Nat) (v : Value) (h : D ≠ b) : (W.setCell ⟨b, o, none⟩ v).heap[D]? = W.heap[D]? := Below.heap_setCell W ⟨b, o, none⟩ v D h
/-- What the rounds keep: the result's cell, the box of 'out', its row. -/
structure UdSt (w wr : World) (gb : Nat) (A : Option Addr) (c : Nat) (o : List Rf.U) : Prop where
  r2 : Blk wr (w.heap.size + 1) 30 #[.int .i64 0, .int .i64 0]
  bo : Blk wr gb 41 #[.slice A o.length c]
  own : wr.ownsRow (gb + 2) 28 3 (.slice A o.length c) o.length (usV o)
  bel : Below w.heap.size w wr
  ord : w.heap.size + 1 < gb
  sz : gb + 2 ≤ wr.heap.size
theorem UdSt.grown {w wr w' : World} {gb : Nat} {A : Option Addr} {c : Nat} {o : List Rf.U} (h : UdSt w wr gb A c o) {row : Option Nat} (hg : wr.grownBy w' row) (hr : ∀ r, row = some r → gb + 2 ≤ r ∧ ∃ o, wr.heap[r]? = some o ∧ o.isCells = false) : UdSt w w' gb A c o := by
  have o1 := h.ord
  exact ⟨h.r2.grown hg (fun e => by have := (hr _ e.symm).1; omega), h.bo.grown hg (fun e => by have := (hr _ e.symm).1; omega), own_nocells h.own hg (fun r e => (hr r e).2), h.bel.grown hg h.bel.size (fun b e => by have := (hr b e).1; omega), o1, Nat.le_trans h.sz hg.size⟩
theorem UdSt.facts {w wr : World} {gb : Nat} {A : Option Addr} {c : Nat} {o : List Rf.U} (h : UdSt w wr gb A c o) : wr.cell? ⟨gb, 0, none⟩ = some (.slice A o.length c) ∧ wr.frozen? ⟨gb, 0, none⟩ = false ∧ gb < wr.heap.size ∧ w.heap.size + 1 < wr.heap.size ∧
    wr.cell? ⟨w.heap.size + 1, 0, none⟩ = some (.int .i64 0) ∧ wr.cell? ⟨w.heap.size + 1, 1, none⟩ = some (.int .i64 0) ∧ wr.frozen? ⟨w.heap.size + 1, 0, none⟩ = false ∧ wr.frozen? ⟨w.heap.size + 1, 1, none⟩ = false :=
  ⟨(h.bo.cell 0).trans rfl, h.bo.frozen 0, h.bo.lt, h.r2.lt, (h.r2.cell 0).trans rfl, (h.r2.cell 1).trans rfl, h.r2.frozen 0, h.r2.frozen 1⟩
set_option maxRecDepth 100000 in
set_option maxHeartbeats 32000000 in
theorem undo_bad (w : World) (hm : Mx w) (A : Option Addr) (k : Nat) (s : List Rf.R) (hv : SA w Free A (rsV s)) (hl64 : s.length ≤ 9223372036854775807) (hk : s.length ≤ k)
    (A2 : Option Addr) (k2 : Nat) (l : List Rf.E) (hv2 : SA w Free A2 (esV l)) (hlen : l.length ≤ 9223372036854775807) (n : Int) (hbad : (Rf.lgF s l).1 ≠ 0 ∨ n < 0 ∨ (l.length : Int) < n) :
    Calls Tryd.prog 39 #[.agg #[.slice A s.length k], .slice A2 l.length k2, .int .i64 n] w (UdPost w (Rf.udF s l n)) := by
  have HV := Lib.hid (fun (w1 : World) (hb : Below w.heap.size w w1) => hv.keep (free_below hb))
  have HV2 := Lib.hid (fun (w1 : World) (hb : Below w.heap.size w w1) => hv2.keep (free_below hb))
  have HM := Lib.hid hm.fun_
  have HPF := Lib.hid (Rf.udF.eq_1 s l n)
  have HS := Lib.hid (fun (w1 : World) (hb : Below w.heap.size w w1) => states_any w1 (HM.out _ hb) A k s (HV.out _ hb) hl64 hk A2 k2 l (HV2.out _ hb))
  have HB := Lib.hid hbad
  clear hv hm hv2 hbad
  generalize hr : Rf.udF s l n = r at *
  clear hr
  have HNO : Hid (∀ c i w', r = ([], (c, i)) → Below w.heap.size w w' → UdPost w r (.returned (.tuple #[.slice none 0 0, .agg #[.int .i64 c, .int .i64 i]])) w') := Lib.hid fun c i w' h hb => UdPost.mk_ (l := []) h (Nat.le_refl _) SA.nil hb
  have bx0 : Blk ((w.alloc (.cells #[.slice A s.length k] 26)).alloc (.cells #[.int .i64 0, .int .i64 0] 30)) (w.heap.size + 1) 30 #[.int .i64 0, .int .i64 0] := blk_new1 _ _ _ _
  have hb0 : Below w.heap.size w ((w.alloc (.cells #[.slice A s.length k] 26)).alloc (.cells #[.int .i64 0, .int .i64 0] 30)) := below_alloc2 _ _ _
  go_enter Tryd.func39, Tryd.ntmps39
  go_wp2_with fail
  go_at_call 52
  refine (HS.out _ hb0).mono ?_
  rintro e w1 (⟨hbad, rfl, hb1⟩ | ⟨hok, As, cs, vs, rfl, hA, hrow, hb1⟩)
  · have H := Lib.hid (HPF.out.trans (if_pos hbad))
    have hx1 : ((Rf.lgF s l).1 == 0) = false := by simpa using hbad
    have hx2 : ((Rf.lgF s l).1 != 0) = true := by simpa using hbad
    clear hbad HPF HV HV2 HS HM HB
    generalize Rf.lgF s l = q at *
    obtain ⟨cd, ix⟩ := q
    simp only at hx1 hx2
    have bx1 := bx0.below hb1 bx0.lt
    have be1 := hb0.trans (hb1.mono hb0.size)
    have p0 := bx1.frozen 0
    have p1 := bx1.frozen 1
    have p2 : w1.cell? ⟨w.heap.size + 1, 0, none⟩ = some (.int .i64 0) := (bx1.cell 0).trans rfl
    have p3 : w1.cell? ⟨w.heap.size + 1, 1, none⟩ = some (.int .i64 0) := (bx1.cell 1).trans rfl
    have l1 := bx1.lt
    have HR := Lib.hid (fun w' hb => HNO.out cd ix w' H.out hb)
    clear bx0 hb0 hb1 H HNO
    generalize UdPost w r = R at *
    go_wp2_with fail
    go_region
    all_goals
      go_wp2_with fail
      refine bodyPost_ret (results_tc30 rfl _ _ (w.heap.size + 1) (.int .i64 cd) (.int .i64 ix) (.slice none 0 0) rfl rfl (((blk_put2 bx1 (.int .i64 cd) (.int .i64 ix)).alloc _).drewN 1)) rfl ?_
      refine HR.out _ ?_
      exact below_drewN' (((be1.setCell (p := ⟨w.heap.size + 1, 0, none⟩) (by simp only; omega) (.int .i64 cd)).setCell (p := ⟨w.heap.size + 1, 1, none⟩) (by simp only; omega) (.int .i64 ix)).alloc (by simp [World.setCell]; omega) _) 1
  · have hcr : n < 0 ∨ (l.length : Int) < n := by
      rcases HB.out with h | h
      · rw [hok.f] at h; exact absurd rfl h
      · exact h
    have H := Lib.hid ((HPF.out.trans (if_neg (by rw [hok.f]; simp))).trans (if_pos hcr))
    have bx1 := bx0.below hb1 bx0.lt
    have be1 := hb0.trans (hb1.mono hb0.size)
    have p0 := bx1.frozen 0
    have p1 := bx1.frozen 1
    have p2 : w1.cell? ⟨w.heap.size + 1, 0, none⟩ = some (.int .i64 0) := (bx1.cell 0).trans rfl
    have p3 : w1.cell? ⟨w.heap.size + 1, 1, none⟩ = some (.int .i64 0) := (bx1.cell 1).trans rfl
    have l1 := bx1.lt
    have HR := Lib.hid (fun w' hb => HNO.out 3 (-3) w' H.out hb)
    clear bx0 hb0 hb1 H HNO HPF HV HV2 HS HM HB hok hA hrow
    generalize UdPost w r = R at *
    rcases Int.lt_or_le n 0 with h0 | h0
    · clear hcr
      go_wp2_with fail
      refine bodyPost_ret (results_tc30 rfl _ _ (w.heap.size + 1) (.int .i64 3) (.int .i64 (-3)) (.slice none 0 0) rfl rfl ((blk_put2 bx1 (.int .i64 3) (.int .i64 (-3))).alloc _)) rfl ?_
      refine HR.out _ ?_
      exact ((be1.setCell (p := ⟨w.heap.size + 1, 0, none⟩) (by simp only; omega) (.int .i64 3)).setCell (p := ⟨w.heap.size + 1, 1, none⟩) (by simp only; omega) (.int .i64 (-3))).alloc (by simp [World.setCell]; omega) _
    · have h1 : (l.length : Int) < n := by omega
      have h2 : ¬ n < 0 := by omega
      clear hcr h0
      go_wp2_with fail
      refine bodyPost_ret (results_tc30 rfl _ _ (w.heap.size + 1) (.int .i64 3) (.int .i64 (-3)) (.slice none 0 0) rfl rfl ((blk_put2 bx1 (.int .i64 3) (.int .i64 (-3))).alloc _)) rfl ?_
      refine HR.out _ ?_
      exact ((be1.setCell (p := ⟨w.heap.size + 1, 0, none⟩) (by simp only; omega) (.int .i64 3)).setCell (p := ⟨w.heap.size + 1, 1, none⟩) (by simp only; omega) (.int .i64 (-3))).alloc (by simp [World.setCell]; omega) _
theorem info28 : (Tryd.prog.info? 28).map (fun i => (i.zero.map (fun z => z.cells.size), i.size, i.bytes)) = some (some 3, 3, 32) := by kernel_rfl
set_option maxRecDepth 100000 in
set_option maxHeartbeats 32000000 in
theorem undo_any (w : World) (hm : Mx w) (A : Option Addr) (k : Nat) (s : List Rf.R) (hv : SA w Free A (rsV s)) (hl64 : s.length ≤ 9223372036854775807) (hk : s.length ≤ k)
    (A2 : Option Addr) (k2 : Nat) (l : List Rf.E) (hv2 : SA w Free A2 (esV l)) (hlen : l.length ≤ 9223372036854775807) (hk2 : l.length ≤ k2) (n : Int) :
    Calls Tryd.prog 39 #[.agg #[.slice A s.length k], .slice A2 l.length k2, .int .i64 n] w (UdPost w (Rf.udF s l n)) := by
  by_cases hbad : (Rf.lgF s l).1 ≠ 0 ∨ n < 0 ∨ (l.length : Int) < n
  · exact undo_bad w hm A k s hv hl64 hk A2 k2 l hv2 hlen n hbad
  obtain ⟨hz, hok⟩ := Rf.lgF_ok (b := s) (l := l) (Classical.not_not.1 fun h => hbad (.inl h))
  obtain ⟨m, rfl⟩ := Int.eq_ofNat_of_zero_le (show 0 ≤ n from Int.not_lt.1 fun h => hbad (.inr (.inl h)))
  have hml : m ≤ l.length := by omega
  have hl60 := hok.len
  have hd0 : (l.drop (l.length - m)).length = m := by simp; omega
  have HPF := Lib.hid (show Rf.udF s l (m : Int) = (Rf.udL (l.drop (l.length - m)), (0, 0)) from by unfold Rf.udF; rw [hz, if_neg (by decide), if_neg (by omega)]; simp)
  have HV := Lib.hid (fun (w1 : World) (hb : Below w.heap.size w w1) => hv.keep (free_below hb))
  have HV2 := Lib.hid (fun (w1 : World) (hb : Below w.heap.size w w1) => hv2.keep (free_below hb))
  have HM := Lib.hid hm.fun_
  have HS := Lib.hid (fun (w1 : World) (hb : Below w.heap.size w w1) => states_any w1 (HM.out _ hb) A k s (HV.out _ hb) hl64 hk A2 k2 l (HV2.out _ hb))
  obtain ⟨kd, hkd⟩ : ∃ kd, kd = k2 - (l.length - m) := ⟨_, rfl⟩
  obtain ⟨Ad, hAd⟩ : ∃ Ad, Ad = (if k2 = l.length - m then A2 else A2.map (·.add ((l.length - m) * 4))) := ⟨_, rfl⟩
  have HVD : Hid (SA w Free Ad (esV (l.drop (l.length - m)))) := Lib.hid (by rw [hAd, esV_drop]; exact hv2.drop _ _ (fun h => .inl (by rw [Fl.len eC_len]; omega)))
  have hs1 : ∀ W, (Instr.slice 54 (.slice A2 l.length k2) (some (.int .i64 ((l.length - m : Nat) : Int))) none none).run Tryd.prog W = .ok (.slice Ad m kd) W := fun W => by
    have := slice_from54 W A2 l.length k2 (l.length - m) (by omega) hk2
    rw [hAd, hkd]; rwa [show l.length - (l.length - m) = m by omega] at this
  have hsub : IntKind.i64.wrap ((l.length : Int) - (m : Int)) = ((l.length - m : Nat) : Int) := by rw [IntWalk.i64_in _ (by omega)]; omega
  have hn0 : ¬ (m : Int) < 0 := by omega
  have hn1 : ¬ (l.length : Int) < (m : Int) := by omega
  clear hkd hAd hv hv2 hm hbad hok
  generalize hd : l.drop (l.length - m) = d at *
  have hdl60 : d.length ≤ 60 := by omega
  subst hd0
  clear hd
  generalize hr : Rf.udF s l (d.length : Int) = r at *
  clear hr
  have hz0' : (Rf.lgF s l).1 = 0 := by rw [hz]
  clear hz
  obtain ⟨i0, z0, hi0, hz0, hz1, hz2, hzs⟩ := info_parts' info28
  have hb0 : Below w.heap.size w ((w.alloc (.cells #[.slice A s.length k] 26)).alloc (.cells #[.int .i64 0, .int .i64 0] 30)) := below_alloc2 _ _ _
  have bx0 : Blk ((w.alloc (.cells #[.slice A s.length k] 26)).alloc (.cells #[.int .i64 0, .int .i64 0] 30)) (w.heap.size + 1) 30 #[.int .i64 0, .int .i64 0] := blk_new1 _ _ _ _
  have HS1 := Lib.hid (HS.out _ hb0)
  clear HS
  refine (callsIn_wide (n := 5)).1 ?_
  refine callsIn_of_wp_marks Tryd.func39 rfl trivial ?_ rfl
  simp only [Tryd.ntmps39, List.size_toArray, List.length_cons, List.length_nil, Nat.reduceAdd, Nat.reduceSub, Array.replicate_succ, Array.replicate_zero, List.push_toArray, List.append_toArray, List.nil_append, List.cons_append]
  gi_wp2_with fail
  refine ⟨trivial, ?_⟩
  gi_at_call 52
  refine (callsIn_wide.2 HS1.out).mono ?_
  rintro e w1 (⟨hbad, rfl, hb1⟩ | ⟨hok, As, cs, vs, rfl, hA, hrow, hb1⟩)
  · exact absurd hz0' hbad
  have bx1 := bx0.below hb1 bx0.lt
  have be1 := hb0.trans (hb1.mono hb0.size)
  clear HS1 hA hrow hb1 bx0 hb0 hok
  have hw1 : w.heap.size + 1 < w1.heap.size := bx1.lt
  gi_wp2_with (refine ⟨trivial, ?_⟩; gi_at_call 56; refine (backward56_in Fence.wide _ trivial rfl _ _ _ _).mono ?_; rintro e w' ⟨rfl, rfl⟩)
  have hbelo := ((be1.alloc be1.size (.cells #[.int .i64 0, .int .i64 0] 30)).alloc (by have := be1.size; simp; omega) (.cells #[.slice none 0 0] 41)).alloc (by have := be1.size; simp; omega) (.cells #[.slice Ad d.length kd] 54)
  have hbox2 : Blk (((w1.alloc (.cells #[.int .i64 0, .int .i64 0] 30)).alloc (.cells #[.slice none 0 0] 41)).alloc (.cells #[.slice Ad d.length kd] 54)) (w1.heap.size + 2) 54 #[.slice Ad d.length kd] := by simpa using Blk.new ((w1.alloc (.cells #[.int .i64 0, .int .i64 0] 30)).alloc (.cells #[.slice none 0 0] 41)) 54 #[.slice Ad d.length kd]
  have st0 : UdSt w (((w1.alloc (.cells #[.int .i64 0, .int .i64 0] 30)).alloc (.cells #[.slice none 0 0] 41)).alloc (.cells #[.slice Ad d.length kd] 54)) (w1.heap.size + 1) none 0 (Rf.udX d []) :=
    ⟨((bx1.alloc _).alloc _).alloc _, (blk_new1 _ _ _ _).alloc _, World.ownsRow_nil _ _ _ _, hbelo, by omega, by simp⟩
  have hszl : (((w1.alloc (.cells #[.int .i64 0, .int .i64 0] 30)).alloc (.cells #[.slice none 0 0] 41)).alloc (.cells #[.slice Ad d.length kd] 54)).heap.size = w1.heap.size + 3 := by simp
  have hbe1 := be1.size
  refine wpIn_rangeFunc_ownH (F := Fence.wide) rfl (by omega : 1 ≤ 5) (gf := 73) (lb := #[.pointer (some ⟨w1.heap.size + 2, 0, none⟩)]) rfl trivial (enters_of Tryd.func73 (by kernel_rfl) rfl)
    (back_stops73 Fence.wide (5 - 1) trivial rfl (by omega) (w1.heap.size + 2) w _ Ad d kd HVD.out hdl60 hbelo hbox2)
    kpE_t (kpE_b (by rw [hszl]; omega) (by rw [hszl]; omega)) (Below.refl _ _) (fun _ => rfl)
    (fun pre W => ∃ A' c', UdSt w W (w1.heap.size + 1) A' c' (Rf.udX d pre))
    (fun _ _ _ => False)
    (fun s W W' row hs hg hr => by obtain ⟨A', c', hs⟩ := hs; exact ⟨A', c', hs.grown hg (fun r e => ⟨by have := (hr r e).1; rw [hszl] at this; omega, (hr r e).2⟩)⟩)
    (fun _ _ _ _ _ hs _ _ => hs)
    ⟨none, 0, st0⟩
    (fun x a' W => ∃ Bx, w1.heap.size + 3 ≤ Bx ∧ Blk W Bx 69 #[.int .i64 (d[x]?.getD default).time, strV (d[x]?.getD default).upd.name, .int .i64 (d[x]?.getD default).upd.old, .int .i64 (d[x]?.getD default).upd.new] ∧ ∃ u25 u26 u31 : Value, a' = { tmps := #[.agg #[.slice A s.length k], .slice A2 l.length k2, .int .i64 d.length, .pointer (some { block := w.heap.size, off := 0 }), undef, undef, .slice none 0 0, .pointer (some { block := w.heap.size + 1, off := 0 }), .slice As (l.length + 1) cs, .pointer (some { block := w1.heap.size, off := 0 }), .pointer (some { block := w1.heap.size + 1, off := 0 }), undef, .pointer (some ⟨Bx, 0, none⟩), undef, .tuple #[.slice As (l.length + 1) cs, .agg #[.int .i64 0, .int .i64 0]], .agg #[.slice A s.length k], .slice A2 l.length k2, .tuple #[.slice As (l.length + 1) cs, .agg #[.int .i64 0, .int .i64 0]], .slice As (l.length + 1) cs, .agg #[.int .i64 0, .int .i64 0], .agg #[.int .i64 0, .int .i64 0], .agg #[.int .i64 0, .int .i64 0], .bool false, undef, .int .i64 d.length, u25, u26, .int .i64 d.length, .slice A2 l.length k2, .int .i64 l.length, .bool false, u31, undef, .slice A2 l.length k2, .slice A2 l.length k2, .int .i64 l.length, .int .i64 d.length, .int .i64 (l.length - d.length : Nat), .slice Ad d.length kd, .func (Fn.func 73) #[] #[.pointer (some { block := w1.heap.size + 1 + 1, off := 0 })], .int .i64 x, .agg #[.int .i64 (d[x]?.getD default).time, strV (d[x]?.getD default).upd.name, .int .i64 (d[x]?.getD default).upd.old, .int .i64 (d[x]?.getD default).upd.new], undef, undef, undef, undef, undef, undef, undef, undef, undef, undef, undef, undef, undef, undef], defers := [] })
    (fun x a' s W W' row ⟨Bx, h1, h2, h3⟩ hg hr => ⟨Bx, h1, h2.grown hg (fun e => by obtain ⟨_, o, ho, hc⟩ := hr Bx e.symm; rw [h2] at ho; cases ho; cases hc), h3⟩)
    ?assign ?body ?done ?stop
  case assign =>
    rintro lr pre x W K ⟨A', c', hi⟩ hK
    simp only [bxV] at *
    have hsz := hi.bel.size
    gi_wp2
    refine hK _ _ ((KeepsOthers.alloc _ _).from _) ⟨(Below.refl _ W).alloc hsz _, Below.heap_alloc _ _ _ (by have := hi.sz; omega)⟩ ⟨A', c', hi.grown (row := none) (World.grownBy_alloc _ _ none) (fun r e => by cases e)⟩ ⟨W.heap.size, by have := hi.sz; omega, Blk.new _ _ _, _, _, _, rfl⟩
  case body =>
    rintro lr pre x a' W hlr ⟨rr, hr⟩ ⟨A', c', hi⟩ ⟨Bx, hBx, bX, u25, u26, u31, rfl⟩ hplt
    have HUX := Lib.hid (Rf.udX_snoc d pre x)
    have hxl : (Rf.udX d pre).length ≤ 60 := by rw [Rf.udX_len]; omega
    generalize d[x]?.getD default = y at *
    obtain ⟨q0, q1, q2, q3, q4, q5, q6, q7⟩ := hi.facts
    have e0 := (bX.cell 0).trans rfl
    have e1 := (bX.cell 1).trans rfl
    have e2 := (bX.cell 2).trans rfl
    have e3 := (bX.cell 3).trans rfl
    have eb := bX.lt
    have hown2 := (hi.own.alloc (.cells #[strV y.upd.name, .int .i64 y.upd.new, .int .i64 y.upd.old] 28)).alloc (.cells #[strV y.upd.name, .int .i64 y.upd.new, .int .i64 y.upd.old] 28)
    have bo2 := (hi.bo.alloc (.cells #[strV y.upd.name, .int .i64 y.upd.new, .int .i64 y.upd.old] 28)).alloc (.cells #[strV y.upd.name, .int .i64 y.upd.new, .int .i64 y.upd.old] 28)
    have br2 := (hi.r2.alloc (.cells #[strV y.upd.name, .int .i64 y.upd.new, .int .i64 y.upd.old] 28)).alloc (.cells #[strV y.upd.name, .int .i64 y.upd.new, .int .i64 y.upd.old] 28)
    have bel2 := hi.bel.trans ((below_alloc2 W (.cells #[strV y.upd.name, .int .i64 y.upd.new, .int .i64 y.upd.old] 28) (.cells #[strV y.upd.name, .int .i64 y.upd.new, .int .i64 y.upd.old] 28)).mono hi.bel.size)
    have ko2 := (KeepsOthers.alloc W (.cells #[strV y.upd.name, .int .i64 y.upd.new, .int .i64 y.upd.old] 28)).trans (KeepsOthers.alloc (W.alloc (.cells #[strV y.upd.name, .int .i64 y.upd.new, .int .i64 y.upd.old] 28)) (.cells #[strV y.upd.name, .int .i64 y.upd.new, .int .i64 y.upd.old] 28))
    have hsz2 : W.heap.size + 2 = ((W.alloc (.cells #[strV y.upd.name, .int .i64 y.upd.new, .int .i64 y.upd.old] 28)).alloc (.cells #[strV y.upd.name, .int .i64 y.upd.new, .int .i64 y.upd.old] 28)).heap.size := by simp
    have kb2 : ((W.alloc (.cells #[strV y.upd.name, .int .i64 y.upd.new, .int .i64 y.upd.old] 28)).alloc (.cells #[strV y.upd.name, .int .i64 y.upd.new, .int .i64 y.upd.old] 28)).heap[w1.heap.size + 2]? = W.heap[w1.heap.size + 2]? := (Below.heap_alloc _ _ _ (by have := hi.sz; simp; omega)).trans (Below.heap_alloc _ _ _ (by have := hi.sz; omega))
    have hcells : ∀ j u, ([strV y.upd.name, .int .i64 y.upd.new, .int .i64 y.upd.old] : List Value)[j]? = some u → ((W.alloc (.cells #[strV y.upd.name, .int .i64 y.upd.new, .int .i64 y.upd.old] 28)).alloc (.cells #[strV y.upd.name, .int .i64 y.upd.new, .int .i64 y.upd.old] 28)).cell? ((⟨W.heap.size + 1, 0, none⟩ : Addr).add j) = some u := by
      intro j u hj
      have := cells_new (W.alloc (.cells #[strV y.upd.name, .int .i64 y.upd.new, .int .i64 y.upd.old] 28)) #[strV y.upd.name, .int .i64 y.upd.new, .int .i64 y.upd.old] 28 j u hj
      rw [show (W.alloc (.cells #[strV y.upd.name, .int .i64 y.upd.new, .int .i64 y.upd.old] 28)).heap.size = W.heap.size + 1 by simp] at this
      by_cases h0 : j = 0
      · subst h0; simpa [Addr.add] using this
      · simpa [Addr.add, h0] using this
    have hwsz := hi.sz
    gi_wp2_with (first | (gi_at_builtin; refine wpListIn_append_own _ rfl (.tmp 50) (.tmp 52) 41 rfl (w1.heap.size + 1 + 2) 28 i0 _ 3 32 Tryd.underlying41 hi0 hz0 hz1 hz2 hzs (by decide) (.slice A' (Rf.udX d pre).length c') _ (usV (Rf.udX d pre)) rfl hown2 ⟨W.heap.size + 1, 0, none⟩ 1 1 [strV y.upd.name, .int .i64 y.upd.new, .int .i64 y.upd.old] rfl rfl hcells (by intro v hv; simp at hv; rcases hv with rfl | rfl | rfl <;> rfl) ?ha ?hb ?hc ?_))
    case ha => unfold maxLen; omega
    case hb => omega
    case hc => rw [← hsz2]; omega
    intro v2 w2 hown3 hg3 _
    obtain ⟨A2', c2', rfl, hc2, _⟩ := own_form hown3
    have hlo : ∀ b, (Value.slice A' (Rf.udX d pre).length c').ownBlock = some b → w1.heap.size + 1 + 2 ≤ b := fun b e => (hown2.lt b e).1
    have bo3 := bo2.grown hg3 (own_blk_ne hown2 bo2 (by decide))
    have br3 := br2.grown hg3 (fun e => by have := hlo _ e.symm; omega)
    have bel3 := bel2.grown hg3 (by rw [← hsz2]; omega) (fun b e => by have := hlo b e; omega)
    have ko3 := ko2.trans (keepsOthers_own hown2 hg3)
    have kb3 : w2.heap[w1.heap.size + 2]? = W.heap[w1.heap.size + 2]? := (hg3.block _ (by rw [← hsz2]; omega) (fun e => by have := hlo _ e.symm; omega)).trans kb2
    have hsz3 : w1.heap.size + 1 + 2 ≤ w2.heap.size := by have := hg3.size; rw [← hsz2] at this; omega
    have s0 := (bo3.cell 0).trans rfl
    have s1 := bo3.frozen 0
    have hlo3 : ∀ b, (Value.slice A2' ((Rf.udX d pre).length + 1) c2').ownBlock = some b → w1.heap.size + 1 + 2 ≤ b := fun b e => (hown3.lt b e).1
    have hne3 : some (w1.heap.size + 1) ≠ (Value.slice A2' ((Rf.udX d pre).length + 1) c2').ownBlock := fun e => by have := hlo3 _ e.symm; omega
    have stN : UdSt w (w2.setCell ⟨w1.heap.size + 1, 0, none⟩ (.slice A2' ((Rf.udX d pre).length + 1) c2')) (w1.heap.size + 1) A2' c2' (Rf.udX d (pre ++ [x])) := by
      rw [HUX.out]
      have hl2 : (Rf.udX d pre ++ [Rf.inv y.upd]).length = (Rf.udX d pre).length + 1 := by simp
      refine ⟨br3.far (p := ⟨w1.heap.size + 1, 0, none⟩) (by simp only; omega) _, ?_, ?_, bel3.setCell (p := ⟨w1.heap.size + 1, 0, none⟩) (by simp only; omega) _, hi.ord, by simp [World.setCell]; omega⟩
      · rw [hl2]; simpa using bo3.set_ 0 _
      · rw [hl2]
        have := own_setCell (p := ⟨w1.heap.size + 1, 0, none⟩) hown3 hne3 (.slice A2' ((Rf.udX d pre).length + 1) c2')
        have e : usV (Rf.udX d pre ++ [Rf.inv y.upd]) = usV (Rf.udX d pre) ++ [strV y.upd.name, .int .i64 y.upd.new, .int .i64 y.upd.old] := by simp [uC, Rf.inv]
        rw [e]; exact this
    have kpN : KpE w.heap.size (w1.heap.size + 2) W (w2.setCell ⟨w1.heap.size + 1, 0, none⟩ (.slice A2' ((Rf.udX d pre).length + 1) c2')) :=
      ⟨((((Below.refl w.heap.size W).alloc hi.bel.size (.cells #[strV y.upd.name, .int .i64 y.upd.new, .int .i64 y.upd.old] 28)).alloc (by have := hi.bel.size; simp; omega) (.cells #[strV y.upd.name, .int .i64 y.upd.new, .int .i64 y.upd.old] 28)).grown hg3 (by rw [← hsz2]; omega) (fun b e => by have := hlo b e; omega)).setCell (p := ⟨w1.heap.size + 1, 0, none⟩) (by simp only; omega) _, (Below.heap_setCell w2 ⟨w1.heap.size + 1, 0, none⟩ _ (w1.heap.size + 2) (by simp)).trans kb3⟩
    clear hg3 hown2 hown3 bo2 br2 bel2 ko2 hcells bel3 br3 bX e0 e1 e2 e3
    gi_wp2
    exact ⟨(ko3.trans (KeepsOthers.setCell _ _ _)).from _, kpN, A2', c2', stN⟩
  case done =>
    rintro D ys W hD hS ⟨A', c', hi⟩ hK
    have hfin : Hid (Rf.udX d ys = Rf.udL d) := Lib.hid (by rw [hS]; exact Rf.udX_down d)
    obtain ⟨q0, q1, q2, q3, q4, q5, q6, q7⟩ := hi.facts
    rw [hszl] at hD
    generalize hxs : Rf.udX d ys = xs at *
    have hcap : xs.length ≤ c' := by
      obtain ⟨A'', c'', e1, hcc, _⟩ := own_form hi.own
      injection e1 with _ _ e3
      subst e3; exact hcc
    have hlo : ∀ b, (Value.slice A' xs.length c').ownBlock = some b → w1.heap.size + 1 + 2 ≤ b := fun b e => (hi.own.lt b e).1
    have hne : some (w.heap.size + 1) ≠ (Value.slice A' xs.length c').ownBlock := fun e => by have := hlo _ e.symm; omega
    have hneD : D ≠ w.heap.size + 1 := by omega
    gi_wp2
    have hKD : ((W.setCell ⟨w.heap.size + 1, 0, none⟩ (.int .i64 0)).setCell ⟨w.heap.size + 1, 1, none⟩ (.int .i64 0)).heap[D]? = some (.deferred (some [])) := (heap_setCell_ne' _ (w.heap.size + 1) 1 D (.int .i64 0) hneD).trans ((heap_setCell_ne' W (w.heap.size + 1) 0 D (.int .i64 0) hneD).trans hK)
    refine ⟨by simp, .inl ⟨_, _, rfl, run_takeDeferred hKD, ?_⟩⟩
    have hg := grownBy_putObj' ((W.setCell ⟨w.heap.size + 1, 0, none⟩ (.int .i64 0)).setCell ⟨w.heap.size + 1, 1, none⟩ (.int .i64 0)) D (.deferred none)
    have r2 := (blk_put2 hi.r2 (.int .i64 0) (.int .i64 0)).grown hg (fun e => by injection e with e; omega)
    have own2 := ownsRow_putObj (own_setCell (p := ⟨w.heap.size + 1, 1, none⟩) (own_setCell (p := ⟨w.heap.size + 1, 0, none⟩) hi.own hne (.int .i64 0)) hne (.int .i64 0)) (.deferred none) hKD rfl
    have bel2 := ((hi.bel.setCell (p := ⟨w.heap.size + 1, 0, none⟩) (by simp only; omega) (.int .i64 0)).setCell (p := ⟨w.heap.size + 1, 1, none⟩) (by simp only; omega) (.int .i64 0)).grown hg (by have := hi.bel.size; simp [World.setCell]; omega) (fun b e => by injection e with e; omega)
    exact ⟨_, results_tc30 rfl _ _ (w.heap.size + 1) (.int .i64 0) (.int .i64 0) (.slice A' xs.length c') rfl rfl r2, UdPost.mk_ (by rw [HPF.out, ← hfin.out]) hcap (SA.of_own' own2 (fun b hb hU => by have := hlo b hb; unfold Under at hU; omega)) bel2⟩
  case stop =>
    rintro D c pre W _ _ h _
    exact h.elim
end Go.Proofs.YtfbbgnhelannjaaDoor
namespace Rf
theorem rr_snd (b : List R) (l : List E) (n : Int) : (rrF b l n).2 = lgF b l := by
  unfold rrF; split
  · rfl
  · rename_i h
    exact (lgF_ok (Classical.not_not.1 h)).1.symm
theorem lgF_long {b : List R} {l : List E} (h : 60 < l.length) : (lgF b l).1 ≠ 0 := fun h0 => by have := (lgF_ok h0).2.len; omega
theorem ap_bad {b : List R} {l : List E} (h : (lgF b l).1 ≠ 0) (e : E) (n : Int) : apF b l e = ([], lgF b l) ∧ udF b l n = ([], lgF b l) := ⟨if_pos h, if_pos h⟩
theorem ap_cases (b : List R) (l : List E) (e : E) (h : (lgF b l).1 = 0) : ((lgF b (l ++ [e])).1 ≠ 0 ∧ apF b l e = ([], lgF b (l ++ [e]))) ∨ (lgF b (l ++ [e]) = (0, 0) ∧ apF b l e = (l ++ [e], (0, 0))) := by
  unfold apF
  rw [if_neg (fun h' => h' h)]
  by_cases h2 : (lgF b (l ++ [e])).1 ≠ 0
  · exact .inl ⟨h2, if_pos h2⟩
  · exact .inr ⟨(lgF_ok (Classical.not_not.1 h2)).1, if_neg h2⟩
theorem ud_cases (b : List R) (l : List E) (n : Int) (h : (lgF b l).1 = 0) : ((n < 0 ∨ (l.length : Int) < n) ∧ udF b l n = ([], (3, -3))) ∨ (0 ≤ n ∧ n ≤ l.length ∧ udF b l n = (udL (l.drop (l.length - n.toNat)), (0, 0))) := by
  unfold udF
  rw [if_neg (fun h' => h' h)]
  by_cases h2 : n < 0 ∨ (l.length : Int) < n
  · exact .inl ⟨h2, if_pos h2⟩
  · exact .inr ⟨by omega, by omega, if_neg h2⟩
theorem udL_len' (l : List E) : (udL l).length = l.length := by simp [udL]
theorem udL_get (l : List E) (m i : Nat) (hm : m ≤ l.length) (hi : i < m) (h : i < (udL (l.drop (l.length - m))).length) : (udL (l.drop (l.length - m)))[i] = inv (l[l.length - 1 - i]'(by omega)).upd := by
  simp only [udL, List.getElem_map, List.getElem_reverse, List.getElem_drop, List.length_drop]
  have e : l.length - m + (l.length - (l.length - m) - 1 - i) = l.length - 1 - i := by omega
  simp only [e]
end Rf
namespace Go.Proofs.YtfbbgnhelannjaaDoor
open Go.RowKit Go.V Go.Shelf Go.Lib
set_option linter.unusedVariables false

def enV (x : Rf.E) : Array Value := #[.int .i64 x.time, strV x.upd.name, .int .i64 x.upd.old, .int .i64 x.upd.new]
theorem enV_one (et : Int) (un : List UInt8) (uo uw : Int) : ∀ u ∈ ([.int .i64 et, strV un, .int .i64 uo, .int .i64 uw] : List Value), u.oneCell' = true := by
  intro v hv; simp at hv; rcases hv with rfl | rfl | rfl | rfl <;> rfl
theorem sa_ne {w : World} {A : Option Addr} {vs : List Value} {g : Nat} {t : TypeId} {cs : Array Value} (hs : SA w Free A vs) (hb : Blk w g t cs) (hn : ∀ (j : Nat) v, cs[j]? = some v → ∀ l, v ≠ strV l) (hh : vs = [] ∨ ∃ (j : Nat) (n : List UInt8), vs[j]? = some (strV n)) : SA w (fun b => b = g) A vs := by
  rcases hh with rfl | ⟨j, n, hj⟩
  · exact .inl rfl
  · rcases hs with h | ⟨b, off, e, h1, h2, h3⟩
    · subst h; cases hj
    · refine .inr ⟨b, off, e, h1, ?_, h3⟩
      rintro rfl
      have h4 := h3 j _ hj
      rw [hb.cell (off + j)] at h4
      exact hn _ _ h4 _ rfl
theorem ints_ne (a b : Int) : ∀ (j : Nat) v, (#[Value.int .i64 a, Value.int .i64 b] : Array Value)[j]? = some v → ∀ l, v ≠ strV l := by
  rintro (_ | _ | j) v h l
  · simp at h; subst h; simp [strV]
  · simp at h; subst h; simp [strV]
  · simp at h
theorem es_head (l : List Rf.E) : esV l = [] ∨ ∃ (j : Nat) (n : List UInt8), (esV l)[j]? = some (strV n) := by
  rcases l with _ | ⟨x, l⟩
  · exact .inl rfl
  · exact .inr ⟨1, x.upd.name, rfl⟩
theorem us_head (l : List Rf.U) : usV l = [] ∨ ∃ (j : Nat) (n : List UInt8), (usV l)[j]? = some (strV n) := by
  rcases l with _ | ⟨x, l⟩
  · exact .inl rfl
  · exact .inr ⟨0, x.name, rfl⟩
theorem sa_set2 {w : World} {A : Option Addr} {vs : List Value} {g : Nat} {x y : Int} (hs : SA w Free A vs) (hb : Blk w g 30 #[.int .i64 x, .int .i64 y]) (hh : vs = [] ∨ ∃ (j : Nat) (n : List UInt8), vs[j]? = some (strV n)) (p q : Value) : SA ((w.setCell ⟨g, 0, none⟩ p).setCell ⟨g, 1, none⟩ q) Free A vs :=
  ((sa_ne hs hb (ints_ne x y) hh).keep ((Keeps.setCell w (fun b => b = g) ⟨g, 0, none⟩ p rfl).trans (Keeps.setCell _ (fun b => b = g) ⟨g, 1, none⟩ q rfl))).mono fun _ h => h.elim
set_option maxRecDepth 100000 in
set_option maxHeartbeats 64000000 in
theorem law14_any (w : World) (hm : Mx w) (A : Option Addr) (k : Nat) (s : List Rf.R) (hv : SA w Free A (rsV s)) (hl : s.length * 24 ≤ 140737488351232) (hk : s.length ≤ k)
    (A2 : Option Addr) (k2 : Nat) (l : List Rf.E) (hv2 : SA w Free A2 (esV l)) (hl2 : l.length * 40 ≤ 140737488351232) (hk2 : l.length ≤ k2) (et : Int) (un : List UInt8) (uo uw : Int) (n : Int) :
    Calls Tryd.prog 14 #[.agg #[.slice A s.length k], .slice A2 l.length k2, .agg #[.int .i64 et, strV un, .int .i64 uo, .int .i64 uw], .int .i64 n] w fun e w' => e = .returned (.bool true) ∧ Below w.heap.size w w' := by
  obtain ⟨i0, z0, hi0, hz0, hz1, hz2, hzs⟩ := info_parts' info69
  have hM := Lib.hid hm
  have V0 := Lib.hid hv
  have V2 := Lib.hid hv2
  have H40 := Lib.hid (fun (w1 : World) (hm : Mx w1) (hv : SA w1 Free A (rsV s)) (hv2 : SA w1 Free A2 (esV l)) => append_any w1 hm A k s hv (by omega) hk A2 k2 l hv2 ⟨et, un, uo, uw⟩)
  have H38 := Lib.hid (fun (w1 : World) (hv2 : SA w1 Free A2 (esV l)) => of_any w1 A2 k2 l un hv2 (by omega))
  have H39 := Lib.hid (fun (w1 : World) (hm : Mx w1) (hv : SA w1 Free A (rsV s)) (hv2 : SA w1 Free A2 (esV l)) => undo_any w1 hm A k s hv (by omega) hk A2 k2 l hv2 (by omega) hk2 n)
  have H35 := Lib.hid (fun (w1 : World) (hv : SA w1 Free A (rsV s)) (hv2 : SA w1 Free A2 (esV l)) => replayRefs_any w1 A k s hv (by omega) hk A2 k2 l hv2 0)
  have H35b := Lib.hid (fun (A3 : Option Addr) (k3 : Nat) (w1 : World) (hv : SA w1 Free A (rsV s)) (hv3 : SA w1 Free A3 (esV (l ++ [⟨et, un, uo, uw⟩]))) => by
    have := replayRefs_any w1 A k s hv (by omega) hk A3 k3 (l ++ [⟨et, un, uo, uw⟩]) hv3 0
    rwa [List.length_append, List.length_singleton] at this)
  have HRB := Lib.hid (Rf.rr_snd s (l ++ [⟨et, un, uo, uw⟩]) 0)
  have HRA := Lib.hid (Rf.rr_snd s l 0)
  have HAB := Lib.hid (fun (h : (Rf.lgF s l).1 ≠ 0) => Rf.ap_bad h ⟨et, un, uo, uw⟩ n)
  have HAC := Lib.hid (fun (h : (Rf.lgF s l).1 = 0) => Rf.ap_cases s l ⟨et, un, uo, uw⟩ h)
  have HUC := Lib.hid (fun (h : (Rf.lgF s l).1 = 0) => Rf.ud_cases s l n h)
  have HOF := Lib.hid (Rf.ofF.eq_1 l un)
  have HLG := Lib.hid (Rf.lgF_ok (b := s) (l := l))
  have HLL := Lib.hid (Rf.lgF_long (b := s) (l := l))
  clear hm hv hv2
  generalize Rf.apF s l ⟨et, un, uo, uw⟩ = r1 at *
  generalize Rf.ofF l un = r2 at *
  generalize Rf.udF s l n = r3 at *
  generalize Rf.rrF s l 0 = r4 at *
  generalize Rf.rrF s (l ++ [⟨et, un, uo, uw⟩]) 0 = r5 at *
  have HB0 := Lib.hid (Below.refl w.heap.size w)
  go_enter Tryd.func14, Tryd.ntmps14
  have bx := Blk.new w 26 #[.slice A s.length k]
  have HBa1 := Lib.hid (HB0.out.alloc HB0.out.size (.cells #[.slice A s.length k] 26))
  replace hM := Lib.hid (hM.out.below (below_alloc1 w (.cells #[.slice A s.length k] 26)))
  replace V0 := Lib.hid (V0.out.keep (Keeps.alloc w _ (.cells #[.slice A s.length k] 26)))
  replace V2 := Lib.hid (V2.out.keep (Keeps.alloc w _ (.cells #[.slice A s.length k] 26)))
  replace bx := bx.alloc (.cells #[.int .i64 et, strV un, .int .i64 uo, .int .i64 uw] 69)
  have be : Blk ((w.alloc (.cells #[.slice A s.length k] 26)).alloc (.cells #[.int .i64 et, strV un, .int .i64 uo, .int .i64 uw] 69)) (w.heap.size + 1) 69 #[.int .i64 et, strV un, .int .i64 uo, .int .i64 uw] := by simpa using Blk.new (w.alloc (.cells #[.slice A s.length k] 26)) 69 #[.int .i64 et, strV un, .int .i64 uo, .int .i64 uw]
  have HBa2 := Lib.hid (HBa1.out.alloc HBa1.out.size (.cells #[.int .i64 et, strV un, .int .i64 uo, .int .i64 uw] 69))
  replace hM := Lib.hid (hM.out.below (below_alloc1 (w.alloc (.cells #[.slice A s.length k] 26)) (.cells #[.int .i64 et, strV un, .int .i64 uo, .int .i64 uw] 69)))
  replace V0 := Lib.hid (V0.out.keep (Keeps.alloc (w.alloc (.cells #[.slice A s.length k] 26)) _ (.cells #[.int .i64 et, strV un, .int .i64 uo, .int .i64 uw] 69)))
  replace V2 := Lib.hid (V2.out.keep (Keeps.alloc (w.alloc (.cells #[.slice A s.length k] 26)) _ (.cells #[.int .i64 et, strV un, .int .i64 uo, .int .i64 uw] 69)))
  go_wp2_with fail
  go_at_call 31
  with_reducible refine (logExample_any _ hM.out).mono ?_
  rintro e w1 ⟨rfl, hb1'⟩
  have HBm1 := Lib.hid (HBa2.out.trans (hb1'.mono HBa2.out.size))
  replace bx := bx.below hb1' bx.lt
  replace be := be.below hb1' be.lt
  replace hM := Lib.hid (hM.out.below hb1')
  replace V0 := Lib.hid (V0.out.keep (free_below hb1'))
  replace V2 := Lib.hid (V2.out.keep (free_below hb1'))
  have bx_l : w.heap.size < w1.heap.size := bx.lt
  have bx_l1 : w.heap.size < w1.heap.size + 1 := Nat.lt_succ_of_lt bx_l
  have bx_l2 : w.heap.size < w1.heap.size + 1 + 1 := Nat.lt_succ_of_lt bx_l1
  have bx_0 : w1.cell? ⟨w.heap.size, 0, none⟩ = some (.slice A s.length k) := (bx.cell 0).trans rfl
  have be_l : w.heap.size + 1 < w1.heap.size := be.lt
  have be_l1 : w.heap.size + 1 < w1.heap.size + 1 := Nat.lt_succ_of_lt be_l
  have be_l2 : w.heap.size + 1 < w1.heap.size + 1 + 1 := Nat.lt_succ_of_lt be_l1
  have be_0 : w1.cell? ⟨w.heap.size + 1, 0, none⟩ = some (.int .i64 et) := (be.cell 0).trans rfl
  have be_1 : w1.cell? ⟨w.heap.size + 1, 1, none⟩ = some (strV un) := (be.cell 1).trans rfl
  have be_2 : w1.cell? ⟨w.heap.size + 1, 2, none⟩ = some (.int .i64 uo) := (be.cell 2).trans rfl
  have be_3 : w1.cell? ⟨w.heap.size + 1, 3, none⟩ = some (.int .i64 uw) := (be.cell 3).trans rfl
  clear hb1'
  obtain ⟨xs, c1, i1⟩ := r1
  go_wp2_with fail
  go_at_call 40
  with_reducible refine (H40.out _ hM.out V0.out V2.out).mono ?_
  rintro e w2 ⟨Ax, cx, rfl, hcx, hsx, hb2'⟩
  have HBm2 := Lib.hid (HBm1.out.trans (hb2'.mono HBm1.out.size))
  replace bx := bx.below hb2' bx.lt
  replace be := be.below hb2' be.lt
  replace hM := Lib.hid (hM.out.below hb2')
  replace V0 := Lib.hid (V0.out.keep (free_below hb2'))
  replace V2 := Lib.hid (V2.out.keep (free_below hb2'))
  clear bx_l bx_l1 bx_l2 bx_0 be_l be_l1 be_l2 be_0 be_1 be_2 be_3
  have bx_l : w.heap.size < w2.heap.size := bx.lt
  have bx_l1 : w.heap.size < w2.heap.size + 1 := Nat.lt_succ_of_lt bx_l
  have bx_l2 : w.heap.size < w2.heap.size + 1 + 1 := Nat.lt_succ_of_lt bx_l1
  have bx_0 : w2.cell? ⟨w.heap.size, 0, none⟩ = some (.slice A s.length k) := (bx.cell 0).trans rfl
  have be_l : w.heap.size + 1 < w2.heap.size := be.lt
  have be_l1 : w.heap.size + 1 < w2.heap.size + 1 := Nat.lt_succ_of_lt be_l
  have be_l2 : w.heap.size + 1 < w2.heap.size + 1 + 1 := Nat.lt_succ_of_lt be_l1
  have be_0 : w2.cell? ⟨w.heap.size + 1, 0, none⟩ = some (.int .i64 et) := (be.cell 0).trans rfl
  have be_1 : w2.cell? ⟨w.heap.size + 1, 1, none⟩ = some (strV un) := (be.cell 1).trans rfl
  have be_2 : w2.cell? ⟨w.heap.size + 1, 2, none⟩ = some (.int .i64 uo) := (be.cell 2).trans rfl
  have be_3 : w2.cell? ⟨w.heap.size + 1, 3, none⟩ = some (.int .i64 uw) := (be.cell 3).trans rfl
  have Vx := Lib.hid (hsx.mono (X' := Free) (fun _ h => h.elim))
  clear hsx
  clear hb2'
  simp only at *
  replace bx := bx.alloc (.cells #[.int .i64 c1, .int .i64 i1] 30)
  replace be := be.alloc (.cells #[.int .i64 c1, .int .i64 i1] 30)
  have f := Blk.new w2 30 #[.int .i64 c1, .int .i64 i1]
  have HBa3 := Lib.hid (HBm2.out.alloc HBm2.out.size (.cells #[.int .i64 c1, .int .i64 i1] 30))
  replace hM := Lib.hid (hM.out.below (below_alloc1 w2 (.cells #[.int .i64 c1, .int .i64 i1] 30)))
  replace V0 := Lib.hid (V0.out.keep (Keeps.alloc w2 _ (.cells #[.int .i64 c1, .int .i64 i1] 30)))
  replace V2 := Lib.hid (V2.out.keep (Keeps.alloc w2 _ (.cells #[.int .i64 c1, .int .i64 i1] 30)))
  replace Vx := Lib.hid (Vx.out.keep (Keeps.alloc w2 _ (.cells #[.int .i64 c1, .int .i64 i1] 30)))
  obtain ⟨ms, c2, i2⟩ := r2
  go_wp2_with fail
  go_at_call 38
  with_reducible refine (H38.out _ V2.out).mono ?_
  rintro e w3 ⟨Am, cm, rfl, hcm, hsm, hb3'⟩
  have HBm3 := Lib.hid (HBa3.out.trans (hb3'.mono HBa3.out.size))
  replace bx := bx.below hb3' bx.lt
  replace be := be.below hb3' be.lt
  replace f := f.below hb3' f.lt
  replace hM := Lib.hid (hM.out.below hb3')
  replace V0 := Lib.hid (V0.out.keep (free_below hb3'))
  replace V2 := Lib.hid (V2.out.keep (free_below hb3'))
  replace Vx := Lib.hid (Vx.out.keep (free_below hb3'))
  clear bx_l bx_l1 bx_l2 bx_0 be_l be_l1 be_l2 be_0 be_1 be_2 be_3
  have bx_l : w.heap.size < w3.heap.size := bx.lt
  have bx_l1 : w.heap.size < w3.heap.size + 1 := Nat.lt_succ_of_lt bx_l
  have bx_l2 : w.heap.size < w3.heap.size + 1 + 1 := Nat.lt_succ_of_lt bx_l1
  have bx_0 : w3.cell? ⟨w.heap.size, 0, none⟩ = some (.slice A s.length k) := (bx.cell 0).trans rfl
  have be_l : w.heap.size + 1 < w3.heap.size := be.lt
  have be_l1 : w.heap.size + 1 < w3.heap.size + 1 := Nat.lt_succ_of_lt be_l
  have be_l2 : w.heap.size + 1 < w3.heap.size + 1 + 1 := Nat.lt_succ_of_lt be_l1
  have be_0 : w3.cell? ⟨w.heap.size + 1, 0, none⟩ = some (.int .i64 et) := (be.cell 0).trans rfl
  have be_1 : w3.cell? ⟨w.heap.size + 1, 1, none⟩ = some (strV un) := (be.cell 1).trans rfl
  have be_2 : w3.cell? ⟨w.heap.size + 1, 2, none⟩ = some (.int .i64 uo) := (be.cell 2).trans rfl
  have be_3 : w3.cell? ⟨w.heap.size + 1, 3, none⟩ = some (.int .i64 uw) := (be.cell 3).trans rfl
  have f_l : w2.heap.size < w3.heap.size := f.lt
  have f_l1 : w2.heap.size < w3.heap.size + 1 := Nat.lt_succ_of_lt f_l
  have f_l2 : w2.heap.size < w3.heap.size + 1 + 1 := Nat.lt_succ_of_lt f_l1
  have f_0 : w3.cell? ⟨w2.heap.size, 0, none⟩ = some (.int .i64 c1) := (f.cell 0).trans rfl
  have f_1 : w3.cell? ⟨w2.heap.size, 1, none⟩ = some (.int .i64 i1) := (f.cell 1).trans rfl
  have Vm := Lib.hid (hsm.mono (X' := Free) (fun _ h => h.elim))
  clear hsm
  clear hb3'
  simp only at *
  replace bx := bx.alloc (.cells #[.int .i64 c2, .int .i64 i2] 30)
  replace be := be.alloc (.cells #[.int .i64 c2, .int .i64 i2] 30)
  replace f := f.alloc (.cells #[.int .i64 c2, .int .i64 i2] 30)
  have g := Blk.new w3 30 #[.int .i64 c2, .int .i64 i2]
  have HBa4 := Lib.hid (HBm3.out.alloc HBm3.out.size (.cells #[.int .i64 c2, .int .i64 i2] 30))
  replace hM := Lib.hid (hM.out.below (below_alloc1 w3 (.cells #[.int .i64 c2, .int .i64 i2] 30)))
  replace V0 := Lib.hid (V0.out.keep (Keeps.alloc w3 _ (.cells #[.int .i64 c2, .int .i64 i2] 30)))
  replace V2 := Lib.hid (V2.out.keep (Keeps.alloc w3 _ (.cells #[.int .i64 c2, .int .i64 i2] 30)))
  replace Vx := Lib.hid (Vx.out.keep (Keeps.alloc w3 _ (.cells #[.int .i64 c2, .int .i64 i2] 30)))
  replace Vm := Lib.hid (Vm.out.keep (Keeps.alloc w3 _ (.cells #[.int .i64 c2, .int .i64 i2] 30)))
  obtain ⟨us, c3, i3⟩ := r3
  go_wp2_with fail
  go_at_call 39
  with_reducible refine (H39.out _ hM.out V0.out V2.out).mono ?_
  rintro e w4 ⟨Au, cu, rfl, hcu, hsu, hb4'⟩
  have HBm4 := Lib.hid (HBa4.out.trans (hb4'.mono HBa4.out.size))
  replace bx := bx.below hb4' bx.lt
  replace be := be.below hb4' be.lt
  replace f := f.below hb4' f.lt
  replace g := g.below hb4' g.lt
  replace hM := Lib.hid (hM.out.below hb4')
  replace V0 := Lib.hid (V0.out.keep (free_below hb4'))
  replace V2 := Lib.hid (V2.out.keep (free_below hb4'))
  replace Vx := Lib.hid (Vx.out.keep (free_below hb4'))
  replace Vm := Lib.hid (Vm.out.keep (free_below hb4'))
  clear bx_l bx_l1 bx_l2 bx_0 be_l be_l1 be_l2 be_0 be_1 be_2 be_3 f_l f_l1 f_l2 f_0 f_1
  have bx_l : w.heap.size < w4.heap.size := bx.lt
  have bx_l1 : w.heap.size < w4.heap.size + 1 := Nat.lt_succ_of_lt bx_l
  have bx_l2 : w.heap.size < w4.heap.size + 1 + 1 := Nat.lt_succ_of_lt bx_l1
  have bx_0 : w4.cell? ⟨w.heap.size, 0, none⟩ = some (.slice A s.length k) := (bx.cell 0).trans rfl
  have be_l : w.heap.size + 1 < w4.heap.size := be.lt
  have be_l1 : w.heap.size + 1 < w4.heap.size + 1 := Nat.lt_succ_of_lt be_l
  have be_l2 : w.heap.size + 1 < w4.heap.size + 1 + 1 := Nat.lt_succ_of_lt be_l1
  have be_0 : w4.cell? ⟨w.heap.size + 1, 0, none⟩ = some (.int .i64 et) := (be.cell 0).trans rfl
  have be_1 : w4.cell? ⟨w.heap.size + 1, 1, none⟩ = some (strV un) := (be.cell 1).trans rfl
  have be_2 : w4.cell? ⟨w.heap.size + 1, 2, none⟩ = some (.int .i64 uo) := (be.cell 2).trans rfl
  have be_3 : w4.cell? ⟨w.heap.size + 1, 3, none⟩ = some (.int .i64 uw) := (be.cell 3).trans rfl
  have f_l : w2.heap.size < w4.heap.size := f.lt
  have f_l1 : w2.heap.size < w4.heap.size + 1 := Nat.lt_succ_of_lt f_l
  have f_l2 : w2.heap.size < w4.heap.size + 1 + 1 := Nat.lt_succ_of_lt f_l1
  have f_0 : w4.cell? ⟨w2.heap.size, 0, none⟩ = some (.int .i64 c1) := (f.cell 0).trans rfl
  have f_1 : w4.cell? ⟨w2.heap.size, 1, none⟩ = some (.int .i64 i1) := (f.cell 1).trans rfl
  have g_l : w3.heap.size < w4.heap.size := g.lt
  have g_l1 : w3.heap.size < w4.heap.size + 1 := Nat.lt_succ_of_lt g_l
  have g_l2 : w3.heap.size < w4.heap.size + 1 + 1 := Nat.lt_succ_of_lt g_l1
  have g_0 : w4.cell? ⟨w3.heap.size, 0, none⟩ = some (.int .i64 c2) := (g.cell 0).trans rfl
  have g_1 : w4.cell? ⟨w3.heap.size, 1, none⟩ = some (.int .i64 i2) := (g.cell 1).trans rfl
  have Vu := Lib.hid (hsu.mono (X' := Free) (fun _ h => h.elim))
  clear hsu
  clear hb4'
  simp only at *
  replace bx := bx.alloc (.cells #[.int .i64 c3, .int .i64 i3] 30)
  replace be := be.alloc (.cells #[.int .i64 c3, .int .i64 i3] 30)
  replace f := f.alloc (.cells #[.int .i64 c3, .int .i64 i3] 30)
  replace g := g.alloc (.cells #[.int .i64 c3, .int .i64 i3] 30)
  have h := Blk.new w4 30 #[.int .i64 c3, .int .i64 i3]
  have HBa5 := Lib.hid (HBm4.out.alloc HBm4.out.size (.cells #[.int .i64 c3, .int .i64 i3] 30))
  replace hM := Lib.hid (hM.out.below (below_alloc1 w4 (.cells #[.int .i64 c3, .int .i64 i3] 30)))
  replace V0 := Lib.hid (V0.out.keep (Keeps.alloc w4 _ (.cells #[.int .i64 c3, .int .i64 i3] 30)))
  replace V2 := Lib.hid (V2.out.keep (Keeps.alloc w4 _ (.cells #[.int .i64 c3, .int .i64 i3] 30)))
  replace Vx := Lib.hid (Vx.out.keep (Keeps.alloc w4 _ (.cells #[.int .i64 c3, .int .i64 i3] 30)))
  replace Vm := Lib.hid (Vm.out.keep (Keeps.alloc w4 _ (.cells #[.int .i64 c3, .int .i64 i3] 30)))
  replace Vu := Lib.hid (Vu.out.keep (Keeps.alloc w4 _ (.cells #[.int .i64 c3, .int .i64 i3] 30)))
  obtain ⟨ys, c4, i4⟩ := r4
  go_wp2_with fail
  go_at_call 35
  with_reducible refine (H35.out _ V0.out V2.out).mono ?_
  rintro e w5 ⟨Ay, cy, rfl, hcy, hsy, hb5'⟩
  have HBm5 := Lib.hid (HBa5.out.trans (hb5'.mono HBa5.out.size))
  replace bx := bx.below hb5' bx.lt
  replace be := be.below hb5' be.lt
  replace f := f.below hb5' f.lt
  replace g := g.below hb5' g.lt
  replace h := h.below hb5' h.lt
  replace hM := Lib.hid (hM.out.below hb5')
  replace V0 := Lib.hid (V0.out.keep (free_below hb5'))
  replace V2 := Lib.hid (V2.out.keep (free_below hb5'))
  replace Vx := Lib.hid (Vx.out.keep (free_below hb5'))
  replace Vm := Lib.hid (Vm.out.keep (free_below hb5'))
  replace Vu := Lib.hid (Vu.out.keep (free_below hb5'))
  clear bx_l bx_l1 bx_l2 bx_0 be_l be_l1 be_l2 be_0 be_1 be_2 be_3 f_l f_l1 f_l2 f_0 f_1 g_l g_l1 g_l2 g_0 g_1
  have bx_l : w.heap.size < w5.heap.size := bx.lt
  have bx_l1 : w.heap.size < w5.heap.size + 1 := Nat.lt_succ_of_lt bx_l
  have bx_l2 : w.heap.size < w5.heap.size + 1 + 1 := Nat.lt_succ_of_lt bx_l1
  have bx_0 : w5.cell? ⟨w.heap.size, 0, none⟩ = some (.slice A s.length k) := (bx.cell 0).trans rfl
  have be_l : w.heap.size + 1 < w5.heap.size := be.lt
  have be_l1 : w.heap.size + 1 < w5.heap.size + 1 := Nat.lt_succ_of_lt be_l
  have be_l2 : w.heap.size + 1 < w5.heap.size + 1 + 1 := Nat.lt_succ_of_lt be_l1
  have be_0 : w5.cell? ⟨w.heap.size + 1, 0, none⟩ = some (.int .i64 et) := (be.cell 0).trans rfl
  have be_1 : w5.cell? ⟨w.heap.size + 1, 1, none⟩ = some (strV un) := (be.cell 1).trans rfl
  have be_2 : w5.cell? ⟨w.heap.size + 1, 2, none⟩ = some (.int .i64 uo) := (be.cell 2).trans rfl
  have be_3 : w5.cell? ⟨w.heap.size + 1, 3, none⟩ = some (.int .i64 uw) := (be.cell 3).trans rfl
  have f_l : w2.heap.size < w5.heap.size := f.lt
  have f_l1 : w2.heap.size < w5.heap.size + 1 := Nat.lt_succ_of_lt f_l
  have f_l2 : w2.heap.size < w5.heap.size + 1 + 1 := Nat.lt_succ_of_lt f_l1
  have f_0 : w5.cell? ⟨w2.heap.size, 0, none⟩ = some (.int .i64 c1) := (f.cell 0).trans rfl
  have f_1 : w5.cell? ⟨w2.heap.size, 1, none⟩ = some (.int .i64 i1) := (f.cell 1).trans rfl
  have g_l : w3.heap.size < w5.heap.size := g.lt
  have g_l1 : w3.heap.size < w5.heap.size + 1 := Nat.lt_succ_of_lt g_l
  have g_l2 : w3.heap.size < w5.heap.size + 1 + 1 := Nat.lt_succ_of_lt g_l1
  have g_0 : w5.cell? ⟨w3.heap.size, 0, none⟩ = some (.int .i64 c2) := (g.cell 0).trans rfl
  have g_1 : w5.cell? ⟨w3.heap.size, 1, none⟩ = some (.int .i64 i2) := (g.cell 1).trans rfl
  have h_l : w4.heap.size < w5.heap.size := h.lt
  have h_l1 : w4.heap.size < w5.heap.size + 1 := Nat.lt_succ_of_lt h_l
  have h_l2 : w4.heap.size < w5.heap.size + 1 + 1 := Nat.lt_succ_of_lt h_l1
  have h_0 : w5.cell? ⟨w4.heap.size, 0, none⟩ = some (.int .i64 c3) := (h.cell 0).trans rfl
  have h_1 : w5.cell? ⟨w4.heap.size, 1, none⟩ = some (.int .i64 i3) := (h.cell 1).trans rfl
  clear hb5'
  simp only at *
  clear hsy hcy
  have nbx : w.heap.size < w5.heap.size := bx_l
  have nbe : w.heap.size + 1 < w5.heap.size := be_l
  have nf : w2.heap.size < w5.heap.size := f_l
  have ng : w3.heap.size < w5.heap.size := g_l
  have nh : w4.heap.size < w5.heap.size := h_l
  replace bx := bx.alloc (.cells #[.slice Ay ys.length cy] 26)
  replace be := be.alloc (.cells #[.slice Ay ys.length cy] 26)
  replace f := f.alloc (.cells #[.slice Ay ys.length cy] 26)
  replace g := g.alloc (.cells #[.slice Ay ys.length cy] 26)
  replace h := h.alloc (.cells #[.slice Ay ys.length cy] 26)
  have by_ := Blk.new w5 26 #[.slice Ay ys.length cy]
  have HBa6 := Lib.hid (HBm5.out.alloc HBm5.out.size (.cells #[.slice Ay ys.length cy] 26))
  replace hM := Lib.hid (hM.out.below (below_alloc1 w5 (.cells #[.slice Ay ys.length cy] 26)))
  replace V0 := Lib.hid (V0.out.keep (Keeps.alloc w5 _ (.cells #[.slice Ay ys.length cy] 26)))
  replace V2 := Lib.hid (V2.out.keep (Keeps.alloc w5 _ (.cells #[.slice Ay ys.length cy] 26)))
  replace Vx := Lib.hid (Vx.out.keep (Keeps.alloc w5 _ (.cells #[.slice Ay ys.length cy] 26)))
  replace Vm := Lib.hid (Vm.out.keep (Keeps.alloc w5 _ (.cells #[.slice Ay ys.length cy] 26)))
  replace Vu := Lib.hid (Vu.out.keep (Keeps.alloc w5 _ (.cells #[.slice Ay ys.length cy] 26)))
  replace bx := bx.alloc (.cells #[.int .i64 c4, .int .i64 i4] 30)
  replace be := be.alloc (.cells #[.int .i64 c4, .int .i64 i4] 30)
  replace f := f.alloc (.cells #[.int .i64 c4, .int .i64 i4] 30)
  replace g := g.alloc (.cells #[.int .i64 c4, .int .i64 i4] 30)
  replace h := h.alloc (.cells #[.int .i64 c4, .int .i64 i4] 30)
  replace by_ := by_.alloc (.cells #[.int .i64 c4, .int .i64 i4] 30)
  have bw : Blk ((w5.alloc (.cells #[.slice Ay ys.length cy] 26)).alloc (.cells #[.int .i64 c4, .int .i64 i4] 30)) (w5.heap.size + 1) 30 #[.int .i64 c4, .int .i64 i4] := by simpa using Blk.new (w5.alloc (.cells #[.slice Ay ys.length cy] 26)) 30 #[.int .i64 c4, .int .i64 i4]
  have HBa7 := Lib.hid (HBa6.out.alloc HBa6.out.size (.cells #[.int .i64 c4, .int .i64 i4] 30))
  replace hM := Lib.hid (hM.out.below (below_alloc1 (w5.alloc (.cells #[.slice Ay ys.length cy] 26)) (.cells #[.int .i64 c4, .int .i64 i4] 30)))
  replace V0 := Lib.hid (V0.out.keep (Keeps.alloc (w5.alloc (.cells #[.slice Ay ys.length cy] 26)) _ (.cells #[.int .i64 c4, .int .i64 i4] 30)))
  replace V2 := Lib.hid (V2.out.keep (Keeps.alloc (w5.alloc (.cells #[.slice Ay ys.length cy] 26)) _ (.cells #[.int .i64 c4, .int .i64 i4] 30)))
  replace Vx := Lib.hid (Vx.out.keep (Keeps.alloc (w5.alloc (.cells #[.slice Ay ys.length cy] 26)) _ (.cells #[.int .i64 c4, .int .i64 i4] 30)))
  replace Vm := Lib.hid (Vm.out.keep (Keeps.alloc (w5.alloc (.cells #[.slice Ay ys.length cy] 26)) _ (.cells #[.int .i64 c4, .int .i64 i4] 30)))
  replace Vu := Lib.hid (Vu.out.keep (Keeps.alloc (w5.alloc (.cells #[.slice Ay ys.length cy] 26)) _ (.cells #[.int .i64 c4, .int .i64 i4] 30)))
  replace bx := bx.alloc (.cells #[.int .i64 c4, .int .i64 i4] 30)
  replace be := be.alloc (.cells #[.int .i64 c4, .int .i64 i4] 30)
  replace f := f.alloc (.cells #[.int .i64 c4, .int .i64 i4] 30)
  replace g := g.alloc (.cells #[.int .i64 c4, .int .i64 i4] 30)
  replace h := h.alloc (.cells #[.int .i64 c4, .int .i64 i4] 30)
  replace by_ := by_.alloc (.cells #[.int .i64 c4, .int .i64 i4] 30)
  replace bw := bw.alloc (.cells #[.int .i64 c4, .int .i64 i4] 30)
  have bv : Blk (((w5.alloc (.cells #[.slice Ay ys.length cy] 26)).alloc (.cells #[.int .i64 c4, .int .i64 i4] 30)).alloc (.cells #[.int .i64 c4, .int .i64 i4] 30)) (w5.heap.size + 2) 30 #[.int .i64 c4, .int .i64 i4] := by simpa using Blk.new ((w5.alloc (.cells #[.slice Ay ys.length cy] 26)).alloc (.cells #[.int .i64 c4, .int .i64 i4] 30)) 30 #[.int .i64 c4, .int .i64 i4]
  have HBa8 := Lib.hid (HBa7.out.alloc HBa7.out.size (.cells #[.int .i64 c4, .int .i64 i4] 30))
  replace hM := Lib.hid (hM.out.below (below_alloc1 ((w5.alloc (.cells #[.slice Ay ys.length cy] 26)).alloc (.cells #[.int .i64 c4, .int .i64 i4] 30)) (.cells #[.int .i64 c4, .int .i64 i4] 30)))
  replace V0 := Lib.hid (V0.out.keep (Keeps.alloc ((w5.alloc (.cells #[.slice Ay ys.length cy] 26)).alloc (.cells #[.int .i64 c4, .int .i64 i4] 30)) _ (.cells #[.int .i64 c4, .int .i64 i4] 30)))
  replace V2 := Lib.hid (V2.out.keep (Keeps.alloc ((w5.alloc (.cells #[.slice Ay ys.length cy] 26)).alloc (.cells #[.int .i64 c4, .int .i64 i4] 30)) _ (.cells #[.int .i64 c4, .int .i64 i4] 30)))
  replace Vx := Lib.hid (Vx.out.keep (Keeps.alloc ((w5.alloc (.cells #[.slice Ay ys.length cy] 26)).alloc (.cells #[.int .i64 c4, .int .i64 i4] 30)) _ (.cells #[.int .i64 c4, .int .i64 i4] 30)))
  replace Vm := Lib.hid (Vm.out.keep (Keeps.alloc ((w5.alloc (.cells #[.slice Ay ys.length cy] 26)).alloc (.cells #[.int .i64 c4, .int .i64 i4] 30)) _ (.cells #[.int .i64 c4, .int .i64 i4] 30)))
  replace Vu := Lib.hid (Vu.out.keep (Keeps.alloc ((w5.alloc (.cells #[.slice Ay ys.length cy] 26)).alloc (.cells #[.int .i64 c4, .int .i64 i4] 30)) _ (.cells #[.int .i64 c4, .int .i64 i4] 30)))
  clear H40 H38 H39 H35
  have HRA2 := Lib.hid HRA.out.symm
  clear HRA
  by_cases hbad : (Rf.lgF s l).1 ≠ 0
  · by_cases hlen : 60 < l.length
    · obtain ⟨e1, e3⟩ := HAB.out hbad
      have e4 := HRA2.out
      clear HAB HAC HUC HRA2 H35b HRB HLG HLL
      generalize Rf.lgF s l = q at *
      obtain ⟨cd, ix⟩ := q
      simp only at hbad
      injection e4 with e4 f4
      subst e4
      subst f4
      injection e1 with e1 f1
      injection f1 with f1 g1
      subst e1
      replace f1 := f1.symm
      subst f1
      replace g1 := g1.symm
      subst g1
      injection e3 with e3 f3
      injection f3 with f3 g3
      subst e3
      replace f3 := f3.symm
      subst f3
      replace g3 := g3.symm
      subst g3
      have hx1 : (cd == 0) = false := by simpa using hbad
      have hx2 : (cd != 0) = true := by simpa using hbad
      have hcc : (cd == cd) = true := by simp
      have hii : (ix == ix) = true := by simp
      have hcn : (cd != cd) = false := by simp
      have hin : (ix != ix) = false := by simp
      clear hbad
      have e2 := HOF.out.trans (if_pos hlen)
      clear HOF
      injection e2 with e2 f2
      injection f2 with f2 g2
      subst e2
      subst f2
      subst g2
      have hlen' : (60 : Int) < l.length := by omega
      clear hlen
      go_wp2_with fail
      generalize hwq : ((w5.alloc (.cells #[.slice Ay ys.length cy] 26)).alloc (.cells #[.int .i64 cd, .int .i64 ix] 30)).alloc (.cells #[.int .i64 cd, .int .i64 ix] 30) = wp at *
      clear hwq
      clear bx_l bx_l1 bx_l2 bx_0 be_l be_l1 be_l2 be_0 be_1 be_2 be_3 f_l f_l1 f_l2 f_0 f_1 g_l g_l1 g_l2 g_0 g_1 h_l h_l1 h_l2 h_0 h_1
      have hq0 : Below wp.heap.size wp wp.drew := below_drew' (Below.refl _ _)
      have HQQ : Hid (∀ w6 : World, Below wp.heap.size wp w6 → w6.cell? ⟨w3.heap.size, 0, none⟩ = some (.int .i64 2) ∧ w6.cell? ⟨w3.heap.size, 1, none⟩ = some (.int .i64 (-1))) := Lib.hid fun w6 h6 => ⟨(h6.cell (p := ⟨_, _, none⟩) g.lt).trans ((g.cell 0).trans rfl), (h6.cell (p := ⟨_, _, none⟩) g.lt).trans ((g.cell 1).trans rfl)⟩
      go_region_held3 (fun w6 => w6.cell? ⟨w3.heap.size, 0, none⟩ = some (.int .i64 2) ∧ w6.cell? ⟨w3.heap.size, 1, none⟩ = some (.int .i64 (-1))) (first | exact HQQ.out _ hq0 | exact HQQ.out _ hq1) (first | (go_at_call 21; (with_reducible refine (fault_b _ _ _).mono ?_); rintro e v5 ⟨rfl, hv5⟩; have hq1 : Below wp.heap.size wp v5 := hq0.trans (hv5.mono hq0.size)))
      clear HQQ
      have HBm16 := Lib.hid (HBa8.out.trans (hq1.mono HBa8.out.size))
      replace bx := bx.below hq1 bx.lt
      replace be := be.below hq1 be.lt
      replace f := f.below hq1 f.lt
      replace g := g.below hq1 g.lt
      replace h := h.below hq1 h.lt
      replace by_ := by_.below hq1 by_.lt
      replace bw := bw.below hq1 bw.lt
      replace bv := bv.below hq1 bv.lt
      replace hM := Lib.hid (hM.out.below hq1)
      replace V0 := Lib.hid (V0.out.keep (free_below hq1))
      replace V2 := Lib.hid (V2.out.keep (free_below hq1))
      replace Vx := Lib.hid (Vx.out.keep (free_below hq1))
      replace Vm := Lib.hid (Vm.out.keep (free_below hq1))
      replace Vu := Lib.hid (Vu.out.keep (free_below hq1))
      have bx_l : w.heap.size < v5.heap.size := bx.lt
      have bx_l1 : w.heap.size < v5.heap.size + 1 := Nat.lt_succ_of_lt bx_l
      have bx_l2 : w.heap.size < v5.heap.size + 1 + 1 := Nat.lt_succ_of_lt bx_l1
      have bx_0 : v5.cell? ⟨w.heap.size, 0, none⟩ = some (.slice A s.length k) := (bx.cell 0).trans rfl
      have be_l : w.heap.size + 1 < v5.heap.size := be.lt
      have be_l1 : w.heap.size + 1 < v5.heap.size + 1 := Nat.lt_succ_of_lt be_l
      have be_l2 : w.heap.size + 1 < v5.heap.size + 1 + 1 := Nat.lt_succ_of_lt be_l1
      have be_0 : v5.cell? ⟨w.heap.size + 1, 0, none⟩ = some (.int .i64 et) := (be.cell 0).trans rfl
      have be_1 : v5.cell? ⟨w.heap.size + 1, 1, none⟩ = some (strV un) := (be.cell 1).trans rfl
      have be_2 : v5.cell? ⟨w.heap.size + 1, 2, none⟩ = some (.int .i64 uo) := (be.cell 2).trans rfl
      have be_3 : v5.cell? ⟨w.heap.size + 1, 3, none⟩ = some (.int .i64 uw) := (be.cell 3).trans rfl
      have f_l : w2.heap.size < v5.heap.size := f.lt
      have f_l1 : w2.heap.size < v5.heap.size + 1 := Nat.lt_succ_of_lt f_l
      have f_l2 : w2.heap.size < v5.heap.size + 1 + 1 := Nat.lt_succ_of_lt f_l1
      have f_0 : v5.cell? ⟨w2.heap.size, 0, none⟩ = some (.int .i64 cd) := (f.cell 0).trans rfl
      have f_1 : v5.cell? ⟨w2.heap.size, 1, none⟩ = some (.int .i64 ix) := (f.cell 1).trans rfl
      have g_l : w3.heap.size < v5.heap.size := g.lt
      have g_l1 : w3.heap.size < v5.heap.size + 1 := Nat.lt_succ_of_lt g_l
      have g_l2 : w3.heap.size < v5.heap.size + 1 + 1 := Nat.lt_succ_of_lt g_l1
      have g_0 : v5.cell? ⟨w3.heap.size, 0, none⟩ = some (.int .i64 2) := (g.cell 0).trans rfl
      have g_1 : v5.cell? ⟨w3.heap.size, 1, none⟩ = some (.int .i64 (-1)) := (g.cell 1).trans rfl
      have h_l : w4.heap.size < v5.heap.size := h.lt
      have h_l1 : w4.heap.size < v5.heap.size + 1 := Nat.lt_succ_of_lt h_l
      have h_l2 : w4.heap.size < v5.heap.size + 1 + 1 := Nat.lt_succ_of_lt h_l1
      have h_0 : v5.cell? ⟨w4.heap.size, 0, none⟩ = some (.int .i64 cd) := (h.cell 0).trans rfl
      have h_1 : v5.cell? ⟨w4.heap.size, 1, none⟩ = some (.int .i64 ix) := (h.cell 1).trans rfl
      have by__l : w5.heap.size < v5.heap.size := by_.lt
      have by__l1 : w5.heap.size < v5.heap.size + 1 := Nat.lt_succ_of_lt by__l
      have by__l2 : w5.heap.size < v5.heap.size + 1 + 1 := Nat.lt_succ_of_lt by__l1
      have by__0 : v5.cell? ⟨w5.heap.size, 0, none⟩ = some (.slice Ay ys.length cy) := (by_.cell 0).trans rfl
      have bw_l : w5.heap.size + 1 < v5.heap.size := bw.lt
      have bw_l1 : w5.heap.size + 1 < v5.heap.size + 1 := Nat.lt_succ_of_lt bw_l
      have bw_l2 : w5.heap.size + 1 < v5.heap.size + 1 + 1 := Nat.lt_succ_of_lt bw_l1
      have bw_0 : v5.cell? ⟨w5.heap.size + 1, 0, none⟩ = some (.int .i64 cd) := (bw.cell 0).trans rfl
      have bw_f0 : v5.frozen? ⟨w5.heap.size + 1, 0, none⟩ = false := bw.frozen 0
      have bw_1 : v5.cell? ⟨w5.heap.size + 1, 1, none⟩ = some (.int .i64 ix) := (bw.cell 1).trans rfl
      have bw_f1 : v5.frozen? ⟨w5.heap.size + 1, 1, none⟩ = false := bw.frozen 1
      have bv_l : w5.heap.size + 2 < v5.heap.size := bv.lt
      have bv_l1 : w5.heap.size + 2 < v5.heap.size + 1 := Nat.lt_succ_of_lt bv_l
      have bv_l2 : w5.heap.size + 2 < v5.heap.size + 1 + 1 := Nat.lt_succ_of_lt bv_l1
      have bv_0 : v5.cell? ⟨w5.heap.size + 2, 0, none⟩ = some (.int .i64 cd) := (bv.cell 0).trans rfl
      have bv_f0 : v5.frozen? ⟨w5.heap.size + 2, 0, none⟩ = false := bv.frozen 0
      have bv_1 : v5.cell? ⟨w5.heap.size + 2, 1, none⟩ = some (.int .i64 ix) := (bv.cell 1).trans rfl
      have bv_f1 : v5.frozen? ⟨w5.heap.size + 2, 1, none⟩ = false := bv.frozen 1
      clear hq0 hq1 hv5
      go_wp2_with fail
      generalize hwq : v5 = wq at *
      clear hwq
      clear bx_l bx_l1 bx_l2 bx_0 be_l be_l1 be_l2 be_0 be_1 be_2 be_3 f_l f_l1 f_l2 f_0 f_1 g_l g_l1 g_l2 g_0 g_1 h_l h_l1 h_l2 h_0 h_1 by__l by__l1 by__l2 by__0 bw_l bw_l1 bw_l2 bw_0 bw_f0 bw_1 bw_f1 bv_l bv_l1 bv_l2 bv_0 bv_f0 bv_1 bv_f1
      have be0 := be.lt
      have be1 : wq.cell? ⟨w.heap.size + 1, 0, none⟩ = some (.int .i64 et) := (be.cell 0).trans rfl
      have be2 : wq.cell? ⟨w.heap.size + 1, 1, none⟩ = some (strV un) := (be.cell 1).trans rfl
      have be3 : wq.cell? ⟨w.heap.size + 1, 2, none⟩ = some (.int .i64 uo) := (be.cell 2).trans rfl
      have be4 : wq.cell? ⟨w.heap.size + 1, 3, none⟩ = some (.int .i64 uw) := (be.cell 3).trans rfl
      have h63 : 0 + l.length ≤ maxLen := by unfold maxLen; omega
      have hby : (0 + l.length) * 40 ≤ 140737488355328 := by omega
      have h63' : l.length + 1 ≤ maxLen := by unfold maxLen; omega
      have hby' : (l.length + 1) * 40 ≤ 140737488355328 := by omega
      have hvl : (esV l).length = l.length * 4 := Fl.len eC_len l
      have hsnoc : esV l ++ [.int .i64 et, strV un, .int .i64 uo, .int .i64 uw] = esV (l ++ [⟨et, un, uo, uw⟩]) := esV_snoc l ⟨et, un, uo, uw⟩
      have HK : Hid (∀ w6 : World, Below wq.heap.size wq w6 → w6.cell? ⟨w.heap.size + 1, 0, none⟩ = some (.int .i64 et) ∧ w6.cell? ⟨w.heap.size + 1, 1, none⟩ = some (strV un) ∧ w6.cell? ⟨w.heap.size + 1, 2, none⟩ = some (.int .i64 uo) ∧ w6.cell? ⟨w.heap.size + 1, 3, none⟩ = some (.int .i64 uw)) := Lib.hid fun w6 h6 => ⟨((be.below h6 be.lt).cell 0).trans rfl, ((be.below h6 be.lt).cell 1).trans rfl, ((be.below h6 be.lt).cell 2).trans rfl, ((be.below h6 be.lt).cell 3).trans rfl⟩
      go_cut [20] (fun p wz => ∃ A' c', p = .slice A' (l.length + 1) c' ∧ l.length + 1 ≤ c' ∧ SA wz Free A' (esV (l ++ [⟨et, un, uo, uw⟩])) ∧ Below wq.heap.size wq wz)
      case first =>
        refine wp_region_noPanic ?_
        refine wp_region_held_drew (S := (fun w6 : World => w6.cell? ⟨w.heap.size + 1, 0, none⟩ = some (.int .i64 et) ∧ w6.cell? ⟨w.heap.size + 1, 1, none⟩ = some (strV un) ∧ w6.cell? ⟨w.heap.size + 1, 2, none⟩ = some (.int .i64 uo) ∧ w6.cell? ⟨w.heap.size + 1, 3, none⟩ = some (.int .i64 uw))) (by kernel_rfl) ?_ (fun hX0 => ?_)
        · exact HK.out _ (below_drew' (Below.refl _ _))
        have hq : Below wq.heap.size wq wq.drew := below_drew' (Below.refl _ _)
        generalize wq.drew = WT at *
        refine wpAnyH_take (i := 0) (v := .slice A2 l.length k2) rfl (by kernel_rfl) (by kernel_rfl) (by kernel_rfl) (fun _ _ _ h => h) (Or.inl ⟨by kernel_rfl, ?qm0_1⟩) (by assumption) ?rqm0_1
        case qm0_1 => (intro w hSw; (try dsimp only at hSw); go_simp)
        try simp only [Act.put, List.setIfInBounds_toArray]
        refine wpAnyH_take (i := 2) (v := .agg #[.int .i64 et, strV un, .int .i64 uo, .int .i64 uw]) rfl (by kernel_rfl) (by kernel_rfl) (by kernel_rfl) (fun _ _ _ h => h) (Or.inl ⟨by kernel_rfl, ?qm2_1⟩) (by assumption) ?rqm2_1
        case qm2_1 => (intro w hSw; obtain ⟨s0, s1, s2, s3⟩ := hSw; go_simp)
        try simp only [Act.put, List.setIfInBounds_toArray]
        refine wpAnyH_ready (rs := [1, 3]) (by kernel_rfl) (by simp) ?_
        refine AllReadyH.cons rfl (fun K hK => ?sm1_1) (AllReadyH.cons rfl (fun K hK => ?sm3_1) AllReadyH.nil)
        case sm1_1 =>
          refine step_appM _ rfl _ (.tmp 97) 54 rfl wq.heap.size 69 i0 _ 4 40 Tryd.underlying54 hi0 hz0 hz1 hz2 hzs (by decide) none 0 0 [] rfl (World.ownsRow_nil _ _ _ _) _ A2 l.length k2 (esV l) rfl hvl (V2.out.keep (free_below hq)).sv (esV_one' _) h63 hby hq.size ?_
          intro A5 c5 w5 hown5 hg5 hc5
          simp only [Nat.zero_add, List.nil_append] at hown5 hc5 ⊢
          refine hK.out _ _ ?_ (fun hX1 => ?_)
          · exact HK.out _ (hq.grown hg5 hq.size (fun b e => by cases e))
          clear hK K
          try simp only [Act.put, List.setIfInBounds_toArray]
          replace hq := hq.grown hg5 hq.size (fun b e => by cases e)
          refine wpAnyH_ready (rs := [3]) (by kernel_rfl) (by simp) ?_
          refine AllReadyH.cons rfl (fun K hK => ?sm13_1) AllReadyH.nil
          go_simp
          refine hK.out _ _ ?_ (fun hX2 => ?_)
          · exact HK.out _ (hq.alloc hq.size (.cells #[.int .i64 et, strV un, .int .i64 uo, .int .i64 uw] 69))
          clear hK K
          try simp only [Act.put, List.setIfInBounds_toArray]
          have hlt5 := (hown5.alloc (.cells #[.int .i64 et, strV un, .int .i64 uo, .int .i64 uw] 69)).lt
          replace hq := hq.alloc hq.size (.cells #[.int .i64 et, strV un, .int .i64 uo, .int .i64 uw] 69)
          refine wpAnyH_ready (rs := [4]) (by kernel_rfl) (by simp) ?_
          refine AllReadyH.cons rfl (fun K hK => ?sm14_1) AllReadyH.nil
          refine step_appNo _ rfl (.tmp 98) (.tmp 100) 54 rfl wq.heap.size 69 i0 _ 4 40 Tryd.underlying54 hi0 hz0 hz1 hz2 hzs (by decide) A5 l.length c5 (esV l) rfl (hown5.alloc (.cells #[.int .i64 et, strV un, .int .i64 uo, .int .i64 uw] 69)) w5.heap.size 1 [.int .i64 et, strV un, .int .i64 uo, .int .i64 uw] rfl rfl (fun j v hj => cells_new w5 #[.int .i64 et, strV un, .int .i64 uo, .int .i64 uw] 69 j v hj) (enV_one et un uo uw) h63' hby' hq.size ?_
          intro ge ce wz hown6 hg6 hob6
          refine hK.out _ _ ?_ (fun hX6 => ?_)
          · exact HK.out _ (hq.grown hg6 hq.size (fun b e => (hlt5 b e).1))
          clear hK K
          try simp only [Act.put, List.setIfInBounds_toArray]
          refine wpAnyH_ready (rs := [5]) (by kernel_rfl) (by simp) ?_
          refine AllReadyH.cons rfl (fun K hK => ?sm15_1) AllReadyH.nil
          go_simp
          refine hK.out _ _ ?_ (fun hX7 => ?_)
          · exact HK.out _ (hq.grown hg6 hq.size (fun b e => (hlt5 b e).1))
          clear hK K
          try simp only [Act.put, List.setIfInBounds_toArray]
          refine wpAnyH_done (by kernel_rfl) ?_ _
          refine NoPanic.normal ?_
          try go_wp2_with fail
          go_meet
          refine ⟨_, ce, rfl, ?_, SA.of_own' (X := Free) (hsnoc ▸ hown6) (fun _ _ h => h), hq.grown hg6 hq.size (fun b e => (hlt5 b e).1)⟩
          obtain ⟨A'', c'', e1, hcc, _⟩ := own_form hown6; injection e1 with _ _ e3; subst e3; exact hcc
        case sm3_1 =>
          go_simp
          refine hK.out _ _ ?_ (fun hX1 => ?_)
          · exact HK.out _ (hq.alloc hq.size (.cells #[.int .i64 et, strV un, .int .i64 uo, .int .i64 uw] 69))
          clear hK K
          try simp only [Act.put, List.setIfInBounds_toArray]
          replace hq := hq.alloc hq.size (.cells #[.int .i64 et, strV un, .int .i64 uo, .int .i64 uw] 69)
          have bl := Blk.new WT 69 #[.int .i64 et, strV un, .int .i64 uo, .int .i64 uw]
          generalize WT.alloc (.cells #[.int .i64 et, strV un, .int .i64 uo, .int .i64 uw] 69) = WU at *
          refine wpAnyH_ready (rs := [1]) (by kernel_rfl) (by simp) ?_
          refine AllReadyH.cons rfl (fun K hK => ?sm31_1) AllReadyH.nil
          refine step_appM _ rfl _ (.tmp 97) 54 rfl wq.heap.size 69 i0 _ 4 40 Tryd.underlying54 hi0 hz0 hz1 hz2 hzs (by decide) none 0 0 [] rfl (World.ownsRow_nil _ _ _ _) _ A2 l.length k2 (esV l) rfl hvl (V2.out.keep (free_below hq)).sv (esV_one' _) h63 hby hq.size ?_
          intro A5 c5 w5 hown5 hg5 hc5
          simp only [Nat.zero_add, List.nil_append] at hown5 hc5 ⊢
          refine hK.out _ _ ?_ (fun hX2 => ?_)
          · exact HK.out _ (hq.grown hg5 hq.size (fun b e => by cases e))
          clear hK K
          try simp only [Act.put, List.setIfInBounds_toArray]
          replace hq := hq.grown hg5 hq.size (fun b e => by cases e)
          replace bl := bl.grown hg5 (fun e => by cases e)
          have hlt5 := hown5.lt
          refine wpAnyH_ready (rs := [4]) (by kernel_rfl) (by simp) ?_
          refine AllReadyH.cons rfl (fun K hK => ?sm34_1) AllReadyH.nil
          refine step_appNo _ rfl (.tmp 98) (.tmp 100) 54 rfl wq.heap.size 69 i0 _ 4 40 Tryd.underlying54 hi0 hz0 hz1 hz2 hzs (by decide) A5 l.length c5 (esV l) rfl hown5 WT.heap.size 1 [.int .i64 et, strV un, .int .i64 uo, .int .i64 uw] rfl rfl (fun j v hj => (bl.cell j).trans (by rw [← Array.getElem?_toList]; exact hj)) (enV_one et un uo uw) h63' hby' hq.size ?_
          intro ge ce wz hown6 hg6 hob6
          refine hK.out _ _ ?_ (fun hX6 => ?_)
          · exact HK.out _ (hq.grown hg6 hq.size (fun b e => (hlt5 b e).1))
          clear hK K
          try simp only [Act.put, List.setIfInBounds_toArray]
          refine wpAnyH_ready (rs := [5]) (by kernel_rfl) (by simp) ?_
          refine AllReadyH.cons rfl (fun K hK => ?sm35_1) AllReadyH.nil
          go_simp
          refine hK.out _ _ ?_ (fun hX7 => ?_)
          · exact HK.out _ (hq.grown hg6 hq.size (fun b e => (hlt5 b e).1))
          clear hK K
          try simp only [Act.put, List.setIfInBounds_toArray]
          refine wpAnyH_done (by kernel_rfl) ?_ _
          refine NoPanic.normal ?_
          try go_wp2_with fail
          go_meet
          refine ⟨_, ce, rfl, ?_, SA.of_own' (X := Free) (hsnoc ▸ hown6) (fun _ _ h => h), hq.grown hg6 hq.size (fun b e => (hlt5 b e).1)⟩
          obtain ⟨A'', c'', e1, hcc, _⟩ := own_form hown6; injection e1 with _ _ e3; subst e3; exact hcc
      case rest =>
        obtain ⟨Ae, ke, rfl, hke, hse, hbc⟩ := hcut
        obtain ⟨wa, rfl⟩ : ∃ wa : World, wa = wc := ⟨_, rfl⟩
        clear be0 be1 be2 be3 be4 HK
        have Ve := Lib.hid hse
        clear hse
        have HBm37 := Lib.hid (HBm16.out.trans (hbc.mono HBm16.out.size))
        replace bx := bx.below hbc bx.lt
        replace be := be.below hbc be.lt
        replace f := f.below hbc f.lt
        replace g := g.below hbc g.lt
        replace h := h.below hbc h.lt
        replace by_ := by_.below hbc by_.lt
        replace bw := bw.below hbc bw.lt
        replace bv := bv.below hbc bv.lt
        replace hM := Lib.hid (hM.out.below hbc)
        replace V0 := Lib.hid (V0.out.keep (free_below hbc))
        replace V2 := Lib.hid (V2.out.keep (free_below hbc))
        replace Vx := Lib.hid (Vx.out.keep (free_below hbc))
        replace Vm := Lib.hid (Vm.out.keep (free_below hbc))
        replace Vu := Lib.hid (Vu.out.keep (free_below hbc))
        have bx_l : w.heap.size < wa.heap.size := bx.lt
        have bx_l1 : w.heap.size < wa.heap.size + 1 := Nat.lt_succ_of_lt bx_l
        have bx_l2 : w.heap.size < wa.heap.size + 1 + 1 := Nat.lt_succ_of_lt bx_l1
        have bx_0 : wa.cell? ⟨w.heap.size, 0, none⟩ = some (.slice A s.length k) := (bx.cell 0).trans rfl
        have be_l : w.heap.size + 1 < wa.heap.size := be.lt
        have be_l1 : w.heap.size + 1 < wa.heap.size + 1 := Nat.lt_succ_of_lt be_l
        have be_l2 : w.heap.size + 1 < wa.heap.size + 1 + 1 := Nat.lt_succ_of_lt be_l1
        have be_0 : wa.cell? ⟨w.heap.size + 1, 0, none⟩ = some (.int .i64 et) := (be.cell 0).trans rfl
        have be_1 : wa.cell? ⟨w.heap.size + 1, 1, none⟩ = some (strV un) := (be.cell 1).trans rfl
        have be_2 : wa.cell? ⟨w.heap.size + 1, 2, none⟩ = some (.int .i64 uo) := (be.cell 2).trans rfl
        have be_3 : wa.cell? ⟨w.heap.size + 1, 3, none⟩ = some (.int .i64 uw) := (be.cell 3).trans rfl
        have f_l : w2.heap.size < wa.heap.size := f.lt
        have f_l1 : w2.heap.size < wa.heap.size + 1 := Nat.lt_succ_of_lt f_l
        have f_l2 : w2.heap.size < wa.heap.size + 1 + 1 := Nat.lt_succ_of_lt f_l1
        have f_0 : wa.cell? ⟨w2.heap.size, 0, none⟩ = some (.int .i64 cd) := (f.cell 0).trans rfl
        have f_1 : wa.cell? ⟨w2.heap.size, 1, none⟩ = some (.int .i64 ix) := (f.cell 1).trans rfl
        have g_l : w3.heap.size < wa.heap.size := g.lt
        have g_l1 : w3.heap.size < wa.heap.size + 1 := Nat.lt_succ_of_lt g_l
        have g_l2 : w3.heap.size < wa.heap.size + 1 + 1 := Nat.lt_succ_of_lt g_l1
        have g_0 : wa.cell? ⟨w3.heap.size, 0, none⟩ = some (.int .i64 2) := (g.cell 0).trans rfl
        have g_1 : wa.cell? ⟨w3.heap.size, 1, none⟩ = some (.int .i64 (-1)) := (g.cell 1).trans rfl
        have h_l : w4.heap.size < wa.heap.size := h.lt
        have h_l1 : w4.heap.size < wa.heap.size + 1 := Nat.lt_succ_of_lt h_l
        have h_l2 : w4.heap.size < wa.heap.size + 1 + 1 := Nat.lt_succ_of_lt h_l1
        have h_0 : wa.cell? ⟨w4.heap.size, 0, none⟩ = some (.int .i64 cd) := (h.cell 0).trans rfl
        have h_1 : wa.cell? ⟨w4.heap.size, 1, none⟩ = some (.int .i64 ix) := (h.cell 1).trans rfl
        have by__l : w5.heap.size < wa.heap.size := by_.lt
        have by__l1 : w5.heap.size < wa.heap.size + 1 := Nat.lt_succ_of_lt by__l
        have by__l2 : w5.heap.size < wa.heap.size + 1 + 1 := Nat.lt_succ_of_lt by__l1
        have by__0 : wa.cell? ⟨w5.heap.size, 0, none⟩ = some (.slice Ay ys.length cy) := (by_.cell 0).trans rfl
        have bw_l : w5.heap.size + 1 < wa.heap.size := bw.lt
        have bw_l1 : w5.heap.size + 1 < wa.heap.size + 1 := Nat.lt_succ_of_lt bw_l
        have bw_l2 : w5.heap.size + 1 < wa.heap.size + 1 + 1 := Nat.lt_succ_of_lt bw_l1
        have bw_0 : wa.cell? ⟨w5.heap.size + 1, 0, none⟩ = some (.int .i64 cd) := (bw.cell 0).trans rfl
        have bw_f0 : wa.frozen? ⟨w5.heap.size + 1, 0, none⟩ = false := bw.frozen 0
        have bw_1 : wa.cell? ⟨w5.heap.size + 1, 1, none⟩ = some (.int .i64 ix) := (bw.cell 1).trans rfl
        have bw_f1 : wa.frozen? ⟨w5.heap.size + 1, 1, none⟩ = false := bw.frozen 1
        have bv_l : w5.heap.size + 2 < wa.heap.size := bv.lt
        have bv_l1 : w5.heap.size + 2 < wa.heap.size + 1 := Nat.lt_succ_of_lt bv_l
        have bv_l2 : w5.heap.size + 2 < wa.heap.size + 1 + 1 := Nat.lt_succ_of_lt bv_l1
        have bv_0 : wa.cell? ⟨w5.heap.size + 2, 0, none⟩ = some (.int .i64 cd) := (bv.cell 0).trans rfl
        have bv_f0 : wa.frozen? ⟨w5.heap.size + 2, 0, none⟩ = false := bv.frozen 0
        have bv_1 : wa.cell? ⟨w5.heap.size + 2, 1, none⟩ = some (.int .i64 ix) := (bv.cell 1).trans rfl
        have bv_f1 : wa.frozen? ⟨w5.heap.size + 2, 1, none⟩ = false := bv.frozen 1
        clear hbc
        have LN := Lib.hid (logs_any wa Ax none cx 0 [] [] Vx.out SA.nil (by simp) (by simp))
        simp only [List.length_nil] at LN
        go_wp2_with fail
        go_at_call 37
        with_reducible refine (LN.out).mono ?_
        rintro e w38 ⟨rfl, hb38'⟩
        have HBm38 := Lib.hid (HBm37.out.trans (hb38'.mono HBm37.out.size))
        replace bx := bx.below hb38' bx.lt
        replace be := be.below hb38' be.lt
        replace f := f.below hb38' f.lt
        replace g := g.below hb38' g.lt
        replace h := h.below hb38' h.lt
        replace by_ := by_.below hb38' by_.lt
        replace bw := bw.below hb38' bw.lt
        replace bv := bv.below hb38' bv.lt
        replace hM := Lib.hid (hM.out.below hb38')
        replace V0 := Lib.hid (V0.out.keep (free_below hb38'))
        replace V2 := Lib.hid (V2.out.keep (free_below hb38'))
        replace Vx := Lib.hid (Vx.out.keep (free_below hb38'))
        replace Vm := Lib.hid (Vm.out.keep (free_below hb38'))
        replace Vu := Lib.hid (Vu.out.keep (free_below hb38'))
        replace Ve := Lib.hid (Ve.out.keep (free_below hb38'))
        clear bx_l bx_l1 bx_l2 bx_0 be_l be_l1 be_l2 be_0 be_1 be_2 be_3 f_l f_l1 f_l2 f_0 f_1 g_l g_l1 g_l2 g_0 g_1 h_l h_l1 h_l2 h_0 h_1 by__l by__l1 by__l2 by__0 bw_l bw_l1 bw_l2 bw_0 bw_f0 bw_1 bw_f1 bv_l bv_l1 bv_l2 bv_0 bv_f0 bv_1 bv_f1
        have bx_l : w.heap.size < w38.heap.size := bx.lt
        have bx_l1 : w.heap.size < w38.heap.size + 1 := Nat.lt_succ_of_lt bx_l
        have bx_l2 : w.heap.size < w38.heap.size + 1 + 1 := Nat.lt_succ_of_lt bx_l1
        have bx_0 : w38.cell? ⟨w.heap.size, 0, none⟩ = some (.slice A s.length k) := (bx.cell 0).trans rfl
        have be_l : w.heap.size + 1 < w38.heap.size := be.lt
        have be_l1 : w.heap.size + 1 < w38.heap.size + 1 := Nat.lt_succ_of_lt be_l
        have be_l2 : w.heap.size + 1 < w38.heap.size + 1 + 1 := Nat.lt_succ_of_lt be_l1
        have be_0 : w38.cell? ⟨w.heap.size + 1, 0, none⟩ = some (.int .i64 et) := (be.cell 0).trans rfl
        have be_1 : w38.cell? ⟨w.heap.size + 1, 1, none⟩ = some (strV un) := (be.cell 1).trans rfl
        have be_2 : w38.cell? ⟨w.heap.size + 1, 2, none⟩ = some (.int .i64 uo) := (be.cell 2).trans rfl
        have be_3 : w38.cell? ⟨w.heap.size + 1, 3, none⟩ = some (.int .i64 uw) := (be.cell 3).trans rfl
        have f_l : w2.heap.size < w38.heap.size := f.lt
        have f_l1 : w2.heap.size < w38.heap.size + 1 := Nat.lt_succ_of_lt f_l
        have f_l2 : w2.heap.size < w38.heap.size + 1 + 1 := Nat.lt_succ_of_lt f_l1
        have f_0 : w38.cell? ⟨w2.heap.size, 0, none⟩ = some (.int .i64 cd) := (f.cell 0).trans rfl
        have f_1 : w38.cell? ⟨w2.heap.size, 1, none⟩ = some (.int .i64 ix) := (f.cell 1).trans rfl
        have g_l : w3.heap.size < w38.heap.size := g.lt
        have g_l1 : w3.heap.size < w38.heap.size + 1 := Nat.lt_succ_of_lt g_l
        have g_l2 : w3.heap.size < w38.heap.size + 1 + 1 := Nat.lt_succ_of_lt g_l1
        have g_0 : w38.cell? ⟨w3.heap.size, 0, none⟩ = some (.int .i64 2) := (g.cell 0).trans rfl
        have g_1 : w38.cell? ⟨w3.heap.size, 1, none⟩ = some (.int .i64 (-1)) := (g.cell 1).trans rfl
        have h_l : w4.heap.size < w38.heap.size := h.lt
        have h_l1 : w4.heap.size < w38.heap.size + 1 := Nat.lt_succ_of_lt h_l
        have h_l2 : w4.heap.size < w38.heap.size + 1 + 1 := Nat.lt_succ_of_lt h_l1
        have h_0 : w38.cell? ⟨w4.heap.size, 0, none⟩ = some (.int .i64 cd) := (h.cell 0).trans rfl
        have h_1 : w38.cell? ⟨w4.heap.size, 1, none⟩ = some (.int .i64 ix) := (h.cell 1).trans rfl
        have by__l : w5.heap.size < w38.heap.size := by_.lt
        have by__l1 : w5.heap.size < w38.heap.size + 1 := Nat.lt_succ_of_lt by__l
        have by__l2 : w5.heap.size < w38.heap.size + 1 + 1 := Nat.lt_succ_of_lt by__l1
        have by__0 : w38.cell? ⟨w5.heap.size, 0, none⟩ = some (.slice Ay ys.length cy) := (by_.cell 0).trans rfl
        have bw_l : w5.heap.size + 1 < w38.heap.size := bw.lt
        have bw_l1 : w5.heap.size + 1 < w38.heap.size + 1 := Nat.lt_succ_of_lt bw_l
        have bw_l2 : w5.heap.size + 1 < w38.heap.size + 1 + 1 := Nat.lt_succ_of_lt bw_l1
        have bw_0 : w38.cell? ⟨w5.heap.size + 1, 0, none⟩ = some (.int .i64 cd) := (bw.cell 0).trans rfl
        have bw_f0 : w38.frozen? ⟨w5.heap.size + 1, 0, none⟩ = false := bw.frozen 0
        have bw_1 : w38.cell? ⟨w5.heap.size + 1, 1, none⟩ = some (.int .i64 ix) := (bw.cell 1).trans rfl
        have bw_f1 : w38.frozen? ⟨w5.heap.size + 1, 1, none⟩ = false := bw.frozen 1
        have bv_l : w5.heap.size + 2 < w38.heap.size := bv.lt
        have bv_l1 : w5.heap.size + 2 < w38.heap.size + 1 := Nat.lt_succ_of_lt bv_l
        have bv_l2 : w5.heap.size + 2 < w38.heap.size + 1 + 1 := Nat.lt_succ_of_lt bv_l1
        have bv_0 : w38.cell? ⟨w5.heap.size + 2, 0, none⟩ = some (.int .i64 cd) := (bv.cell 0).trans rfl
        have bv_f0 : w38.frozen? ⟨w5.heap.size + 2, 0, none⟩ = false := bv.frozen 0
        have bv_1 : w38.cell? ⟨w5.heap.size + 2, 1, none⟩ = some (.int .i64 ix) := (bv.cell 1).trans rfl
        have bv_f1 : w38.frozen? ⟨w5.heap.size + 2, 1, none⟩ = false := bv.frozen 1
        clear hb38'
        go_wp2_with fail
        go_ret
        exact ⟨by simp, HBm38.out⟩
    · obtain ⟨e1, e3⟩ := HAB.out hbad
      have e4 := HRA2.out
      clear HAB HAC HUC HRA2 H35b HRB HLG HLL
      generalize Rf.lgF s l = q at *
      obtain ⟨cd, ix⟩ := q
      simp only at hbad
      injection e4 with e4 f4
      subst e4
      subst f4
      injection e1 with e1 f1
      injection f1 with f1 g1
      subst e1
      replace f1 := f1.symm
      subst f1
      replace g1 := g1.symm
      subst g1
      injection e3 with e3 f3
      injection f3 with f3 g3
      subst e3
      replace f3 := f3.symm
      subst f3
      replace g3 := g3.symm
      subst g3
      have hx1 : (cd == 0) = false := by simpa using hbad
      have hx2 : (cd != 0) = true := by simpa using hbad
      have hcc : (cd == cd) = true := by simp
      have hii : (ix == ix) = true := by simp
      have hcn : (cd != cd) = false := by simp
      have hin : (ix != ix) = false := by simp
      clear hbad
      have e2 := HOF.out.trans (if_neg (by omega))
      clear HOF
      injection e2 with e2 f2
      injection f2 with f2 g2
      subst f2
      subst g2
      have hms : Hid (ms = Rf.ofL l un) := Lib.hid e2
      clear e2
      have hlen' : ¬ (60 : Int) < l.length := by omega
      go_wp2_with fail
      generalize hwq : ((w5.alloc (.cells #[.slice Ay ys.length cy] 26)).alloc (.cells #[.int .i64 cd, .int .i64 ix] 30)).alloc (.cells #[.int .i64 cd, .int .i64 ix] 30) = wl at *
      clear hwq
      have hbl0 := Below.refl wl.heap.size wl
      clear bx_l bx_l1 bx_l2 bx_0 be_l be_l1 be_l2 be_0 be_1 be_2 be_3 f_l f_l1 f_l2 f_0 f_1 g_l g_l1 g_l2 g_0 g_1 h_l h_l1 h_l2 h_0 h_1
      go_loopw [18, 19] (fun ov iv wr => ∃ (i : Nat) (o : List Rf.E) (A' : Option Addr) (c' : Nat), i ≤ l.length ∧ iv = .int .i64 i ∧ ov = .slice A' o.length c' ∧ o.length ≤ i ∧ Hid (o = Rf.ofL (l.take i) un) ∧ Below wl.heap.size wl wr ∧ wr.ownsRow wl.heap.size 69 4 (.slice A' o.length c') o.length (esV o)) (fun _ iv _ => l.length - (intOf iv).toNat)
      case atStart => exact ⟨0, [], none, 0, Nat.zero_le _, rfl, rfl, Nat.le_refl _, Lib.hid rfl, hbl0, World.ownsRow_nil _ _ _ _⟩
      case round =>
        obtain ⟨i, o, A', c', hi, rfl, rfl, hol, HO, hbr, hown⟩ := hrel
        obtain ⟨wo, rfl⟩ : ∃ wo : World, wo = wr := ⟨_, rfl⟩
        by_cases hlt : i < l.length
        · have hlt' : (i : Int) < l.length := by omega
          obtain ⟨b, off, e, hbb, _, d0, d1, d2, d3⟩ := esV_row (V2.out.keep (free_below hbr)) i hlt
          subst e
          have e0 := (be.below hbr be.lt).lt
          have e1 : wo.cell? ⟨w.heap.size + 1, 1, none⟩ = some (strV un) := ((be.below hbr be.lt).cell 1).trans rfl
          have HT : Hid (l.take (i + 1) = l.take i ++ [l[i]]) := Lib.hid (List.take_succ_eq_append_getElem hlt)
          generalize l[i] = x at *
          by_cases hp : x.upd.name = un
          · have HN2 : Hid (o ++ [x] = Rf.ofL (l.take (i + 1)) un) := Lib.hid (by rw [HT.out, HO.out]; unfold Rf.ofL; rw [List.filter_append]; simp [hp])
            have hp1 : (x.upd.name == un) = true := by simpa using hp
            clear HT HO hp
            go_wp2_with fail
            go_quiet (fail)
            have hbz : Below wl.heap.size wl (wo.drewN nq) := below_drewN' hbr nq
            have hownz : (wo.drewN nq).ownsRow wl.heap.size 69 4 (.slice A' o.length c') o.length (esV o) := hown
            replace d0 : (wo.drewN nq).cell? _ = _ := d0
            replace d1 : (wo.drewN nq).cell? _ = _ := d1
            replace d2 : (wo.drewN nq).cell? _ = _ := d2
            replace d3 : (wo.drewN nq).cell? _ = _ := d3
            replace e1 : (wo.drewN nq).cell? _ = _ := e1
            replace hbb : _ < (wo.drewN nq).heap.size := hbb
            replace e0 : _ < (wo.drewN nq).heap.size := e0
            clear hown hbr
            generalize wo.drewN nq = wz at *
            have hsv1 : SV (wz.alloc (.cells #[.int .i64 x.time, strV x.upd.name, .int .i64 x.upd.old, .int .i64 x.upd.new] 69)) (wz.heap.size + 1) (some ⟨wz.heap.size, 0, none⟩) [.int .i64 x.time, strV x.upd.name, .int .i64 x.upd.old, .int .i64 x.upd.new] := by simpa using SV.lit wz #[.int .i64 x.time, strV x.upd.name, .int .i64 x.upd.old, .int .i64 x.upd.new] 69
            go_wp2_with (first | (at_builtin; refine wpList_appN _ rfl (.tmp 81) (.tmp 86) 54 rfl wl.heap.size 69 i0 _ 4 40 Tryd.underlying54 hi0 hz0 hz1 hz2 hzs (by decide) A' o.length c' (esV o) rfl (hownz.alloc (.cells #[.int .i64 x.time, strV x.upd.name, .int .i64 x.upd.old, .int .i64 x.upd.new] 69)) _ _ 1 1 [.int .i64 x.time, strV x.upd.name, .int .i64 x.upd.old, .int .i64 x.upd.new] rfl rfl hsv1 (enV_one _ _ _ _) ?ha1_2 ?hb1_2 ?hc1_2 ?_))
            case ha1_2 => unfold maxLen; omega
            case hb1_2 => omega
            case hc1_2 => have := hbz.size; simp; omega
            intro A9 c9 w9 own9 hg9 _
            have hr9 : ∀ b, (Value.slice A' o.length c').ownBlock = some b → wl.heap.size ≤ b := fun b e => (hownz.lt b e).1
            have hb9 := (hbz.alloc hbz.size (.cells #[.int .i64 x.time, strV x.upd.name, .int .i64 x.upd.old, .int .i64 x.upd.new] 69)).grown hg9 (by have := hbz.size; simp; omega) (fun b e => hr9 b e)
            rw [esV_snoc] at own9
            have hol3 : (o ++ [x]).length = o.length + 1 := by simp
            clear hg9 hsv1 d0 d1 d2 d3 e0 e1 hbz hownz
            go_wp2_with fail
            go_roundw
            case rel => exact ⟨i + 1, o ++ [x], A9, c9, by omega, by go_num, by rw [hol3], by simp; omega, HN2, hb9, by rw [hol3]; exact own9⟩
            case measure => simp [intOf]; omega
          · have HN2 : Hid (o = Rf.ofL (l.take (i + 1)) un) := Lib.hid (by rw [HT.out, HO.out]; unfold Rf.ofL; rw [List.filter_append]; simp [hp])
            have hp1 : (x.upd.name == un) = false := by simpa using hp
            clear HT HO hp
            go_wp2_with fail
            go_quiet (fail)
            go_wp2_with fail
            go_roundw
            case rel => exact ⟨i + 1, o, A', c', by omega, by go_num, rfl, by omega, HN2, below_drewN' hbr _, hown⟩
            case measure => simp [intOf]; omega
        · obtain rfl : i = l.length := by omega
          obtain rfl : o = ms := by rw [HO.out, hms.out, List.take_length]
          have Vo := Lib.hid (SA.of_own' (X := Free) hown (fun _ _ h => h))
          clear HO hown hms hbl0
          have hml : o.length ≤ 60 := by omega
          have HBm46 := Lib.hid (HBa8.out.trans (hbr.mono HBa8.out.size))
          replace bx := bx.below hbr bx.lt
          replace be := be.below hbr be.lt
          replace f := f.below hbr f.lt
          replace g := g.below hbr g.lt
          replace h := h.below hbr h.lt
          replace by_ := by_.below hbr by_.lt
          replace bw := bw.below hbr bw.lt
          replace bv := bv.below hbr bv.lt
          replace hM := Lib.hid (hM.out.below hbr)
          replace V0 := Lib.hid (V0.out.keep (free_below hbr))
          replace V2 := Lib.hid (V2.out.keep (free_below hbr))
          replace Vx := Lib.hid (Vx.out.keep (free_below hbr))
          replace Vm := Lib.hid (Vm.out.keep (free_below hbr))
          replace Vu := Lib.hid (Vu.out.keep (free_below hbr))
          have bx_l : w.heap.size < wo.heap.size := bx.lt
          have bx_l1 : w.heap.size < wo.heap.size + 1 := Nat.lt_succ_of_lt bx_l
          have bx_l2 : w.heap.size < wo.heap.size + 1 + 1 := Nat.lt_succ_of_lt bx_l1
          have bx_0 : wo.cell? ⟨w.heap.size, 0, none⟩ = some (.slice A s.length k) := (bx.cell 0).trans rfl
          have be_l : w.heap.size + 1 < wo.heap.size := be.lt
          have be_l1 : w.heap.size + 1 < wo.heap.size + 1 := Nat.lt_succ_of_lt be_l
          have be_l2 : w.heap.size + 1 < wo.heap.size + 1 + 1 := Nat.lt_succ_of_lt be_l1
          have be_0 : wo.cell? ⟨w.heap.size + 1, 0, none⟩ = some (.int .i64 et) := (be.cell 0).trans rfl
          have be_1 : wo.cell? ⟨w.heap.size + 1, 1, none⟩ = some (strV un) := (be.cell 1).trans rfl
          have be_2 : wo.cell? ⟨w.heap.size + 1, 2, none⟩ = some (.int .i64 uo) := (be.cell 2).trans rfl
          have be_3 : wo.cell? ⟨w.heap.size + 1, 3, none⟩ = some (.int .i64 uw) := (be.cell 3).trans rfl
          have f_l : w2.heap.size < wo.heap.size := f.lt
          have f_l1 : w2.heap.size < wo.heap.size + 1 := Nat.lt_succ_of_lt f_l
          have f_l2 : w2.heap.size < wo.heap.size + 1 + 1 := Nat.lt_succ_of_lt f_l1
          have f_0 : wo.cell? ⟨w2.heap.size, 0, none⟩ = some (.int .i64 cd) := (f.cell 0).trans rfl
          have f_1 : wo.cell? ⟨w2.heap.size, 1, none⟩ = some (.int .i64 ix) := (f.cell 1).trans rfl
          have g_l : w3.heap.size < wo.heap.size := g.lt
          have g_l1 : w3.heap.size < wo.heap.size + 1 := Nat.lt_succ_of_lt g_l
          have g_l2 : w3.heap.size < wo.heap.size + 1 + 1 := Nat.lt_succ_of_lt g_l1
          have g_0 : wo.cell? ⟨w3.heap.size, 0, none⟩ = some (.int .i64 0) := (g.cell 0).trans rfl
          have g_1 : wo.cell? ⟨w3.heap.size, 1, none⟩ = some (.int .i64 0) := (g.cell 1).trans rfl
          have h_l : w4.heap.size < wo.heap.size := h.lt
          have h_l1 : w4.heap.size < wo.heap.size + 1 := Nat.lt_succ_of_lt h_l
          have h_l2 : w4.heap.size < wo.heap.size + 1 + 1 := Nat.lt_succ_of_lt h_l1
          have h_0 : wo.cell? ⟨w4.heap.size, 0, none⟩ = some (.int .i64 cd) := (h.cell 0).trans rfl
          have h_1 : wo.cell? ⟨w4.heap.size, 1, none⟩ = some (.int .i64 ix) := (h.cell 1).trans rfl
          have by__l : w5.heap.size < wo.heap.size := by_.lt
          have by__l1 : w5.heap.size < wo.heap.size + 1 := Nat.lt_succ_of_lt by__l
          have by__l2 : w5.heap.size < wo.heap.size + 1 + 1 := Nat.lt_succ_of_lt by__l1
          have by__0 : wo.cell? ⟨w5.heap.size, 0, none⟩ = some (.slice Ay ys.length cy) := (by_.cell 0).trans rfl
          have bw_l : w5.heap.size + 1 < wo.heap.size := bw.lt
          have bw_l1 : w5.heap.size + 1 < wo.heap.size + 1 := Nat.lt_succ_of_lt bw_l
          have bw_l2 : w5.heap.size + 1 < wo.heap.size + 1 + 1 := Nat.lt_succ_of_lt bw_l1
          have bw_0 : wo.cell? ⟨w5.heap.size + 1, 0, none⟩ = some (.int .i64 cd) := (bw.cell 0).trans rfl
          have bw_f0 : wo.frozen? ⟨w5.heap.size + 1, 0, none⟩ = false := bw.frozen 0
          have bw_1 : wo.cell? ⟨w5.heap.size + 1, 1, none⟩ = some (.int .i64 ix) := (bw.cell 1).trans rfl
          have bw_f1 : wo.frozen? ⟨w5.heap.size + 1, 1, none⟩ = false := bw.frozen 1
          have bv_l : w5.heap.size + 2 < wo.heap.size := bv.lt
          have bv_l1 : w5.heap.size + 2 < wo.heap.size + 1 := Nat.lt_succ_of_lt bv_l
          have bv_l2 : w5.heap.size + 2 < wo.heap.size + 1 + 1 := Nat.lt_succ_of_lt bv_l1
          have bv_0 : wo.cell? ⟨w5.heap.size + 2, 0, none⟩ = some (.int .i64 cd) := (bv.cell 0).trans rfl
          have bv_f0 : wo.frozen? ⟨w5.heap.size + 2, 0, none⟩ = false := bv.frozen 0
          have bv_1 : wo.cell? ⟨w5.heap.size + 2, 1, none⟩ = some (.int .i64 ix) := (bv.cell 1).trans rfl
          have bv_f1 : wo.frozen? ⟨w5.heap.size + 2, 1, none⟩ = false := bv.frozen 1
          clear hbr
          go_wp2_with fail
          go_at_call 37
          with_reducible refine (logs_any _ Am A' cm c' o o Vm.out Vo.out (by omega) (by omega)).mono ?_
          rintro e w47 ⟨rfl, hb47'⟩
          have HBm47 := Lib.hid (HBm46.out.trans (hb47'.mono HBm46.out.size))
          replace bx := bx.below hb47' bx.lt
          replace be := be.below hb47' be.lt
          replace f := f.below hb47' f.lt
          replace g := g.below hb47' g.lt
          replace h := h.below hb47' h.lt
          replace by_ := by_.below hb47' by_.lt
          replace bw := bw.below hb47' bw.lt
          replace bv := bv.below hb47' bv.lt
          replace hM := Lib.hid (hM.out.below hb47')
          replace V0 := Lib.hid (V0.out.keep (free_below hb47'))
          replace V2 := Lib.hid (V2.out.keep (free_below hb47'))
          replace Vx := Lib.hid (Vx.out.keep (free_below hb47'))
          replace Vm := Lib.hid (Vm.out.keep (free_below hb47'))
          replace Vu := Lib.hid (Vu.out.keep (free_below hb47'))
          clear bx_l bx_l1 bx_l2 bx_0 be_l be_l1 be_l2 be_0 be_1 be_2 be_3 f_l f_l1 f_l2 f_0 f_1 g_l g_l1 g_l2 g_0 g_1 h_l h_l1 h_l2 h_0 h_1 by__l by__l1 by__l2 by__0 bw_l bw_l1 bw_l2 bw_0 bw_f0 bw_1 bw_f1 bv_l bv_l1 bv_l2 bv_0 bv_f0 bv_1 bv_f1
          have bx_l : w.heap.size < w47.heap.size := bx.lt
          have bx_l1 : w.heap.size < w47.heap.size + 1 := Nat.lt_succ_of_lt bx_l
          have bx_l2 : w.heap.size < w47.heap.size + 1 + 1 := Nat.lt_succ_of_lt bx_l1
          have bx_0 : w47.cell? ⟨w.heap.size, 0, none⟩ = some (.slice A s.length k) := (bx.cell 0).trans rfl
          have be_l : w.heap.size + 1 < w47.heap.size := be.lt
          have be_l1 : w.heap.size + 1 < w47.heap.size + 1 := Nat.lt_succ_of_lt be_l
          have be_l2 : w.heap.size + 1 < w47.heap.size + 1 + 1 := Nat.lt_succ_of_lt be_l1
          have be_0 : w47.cell? ⟨w.heap.size + 1, 0, none⟩ = some (.int .i64 et) := (be.cell 0).trans rfl
          have be_1 : w47.cell? ⟨w.heap.size + 1, 1, none⟩ = some (strV un) := (be.cell 1).trans rfl
          have be_2 : w47.cell? ⟨w.heap.size + 1, 2, none⟩ = some (.int .i64 uo) := (be.cell 2).trans rfl
          have be_3 : w47.cell? ⟨w.heap.size + 1, 3, none⟩ = some (.int .i64 uw) := (be.cell 3).trans rfl
          have f_l : w2.heap.size < w47.heap.size := f.lt
          have f_l1 : w2.heap.size < w47.heap.size + 1 := Nat.lt_succ_of_lt f_l
          have f_l2 : w2.heap.size < w47.heap.size + 1 + 1 := Nat.lt_succ_of_lt f_l1
          have f_0 : w47.cell? ⟨w2.heap.size, 0, none⟩ = some (.int .i64 cd) := (f.cell 0).trans rfl
          have f_1 : w47.cell? ⟨w2.heap.size, 1, none⟩ = some (.int .i64 ix) := (f.cell 1).trans rfl
          have g_l : w3.heap.size < w47.heap.size := g.lt
          have g_l1 : w3.heap.size < w47.heap.size + 1 := Nat.lt_succ_of_lt g_l
          have g_l2 : w3.heap.size < w47.heap.size + 1 + 1 := Nat.lt_succ_of_lt g_l1
          have g_0 : w47.cell? ⟨w3.heap.size, 0, none⟩ = some (.int .i64 0) := (g.cell 0).trans rfl
          have g_1 : w47.cell? ⟨w3.heap.size, 1, none⟩ = some (.int .i64 0) := (g.cell 1).trans rfl
          have h_l : w4.heap.size < w47.heap.size := h.lt
          have h_l1 : w4.heap.size < w47.heap.size + 1 := Nat.lt_succ_of_lt h_l
          have h_l2 : w4.heap.size < w47.heap.size + 1 + 1 := Nat.lt_succ_of_lt h_l1
          have h_0 : w47.cell? ⟨w4.heap.size, 0, none⟩ = some (.int .i64 cd) := (h.cell 0).trans rfl
          have h_1 : w47.cell? ⟨w4.heap.size, 1, none⟩ = some (.int .i64 ix) := (h.cell 1).trans rfl
          have by__l : w5.heap.size < w47.heap.size := by_.lt
          have by__l1 : w5.heap.size < w47.heap.size + 1 := Nat.lt_succ_of_lt by__l
          have by__l2 : w5.heap.size < w47.heap.size + 1 + 1 := Nat.lt_succ_of_lt by__l1
          have by__0 : w47.cell? ⟨w5.heap.size, 0, none⟩ = some (.slice Ay ys.length cy) := (by_.cell 0).trans rfl
          have bw_l : w5.heap.size + 1 < w47.heap.size := bw.lt
          have bw_l1 : w5.heap.size + 1 < w47.heap.size + 1 := Nat.lt_succ_of_lt bw_l
          have bw_l2 : w5.heap.size + 1 < w47.heap.size + 1 + 1 := Nat.lt_succ_of_lt bw_l1
          have bw_0 : w47.cell? ⟨w5.heap.size + 1, 0, none⟩ = some (.int .i64 cd) := (bw.cell 0).trans rfl
          have bw_f0 : w47.frozen? ⟨w5.heap.size + 1, 0, none⟩ = false := bw.frozen 0
          have bw_1 : w47.cell? ⟨w5.heap.size + 1, 1, none⟩ = some (.int .i64 ix) := (bw.cell 1).trans rfl
          have bw_f1 : w47.frozen? ⟨w5.heap.size + 1, 1, none⟩ = false := bw.frozen 1
          have bv_l : w5.heap.size + 2 < w47.heap.size := bv.lt
          have bv_l1 : w5.heap.size + 2 < w47.heap.size + 1 := Nat.lt_succ_of_lt bv_l
          have bv_l2 : w5.heap.size + 2 < w47.heap.size + 1 + 1 := Nat.lt_succ_of_lt bv_l1
          have bv_0 : w47.cell? ⟨w5.heap.size + 2, 0, none⟩ = some (.int .i64 cd) := (bv.cell 0).trans rfl
          have bv_f0 : w47.frozen? ⟨w5.heap.size + 2, 0, none⟩ = false := bv.frozen 0
          have bv_1 : w47.cell? ⟨w5.heap.size + 2, 1, none⟩ = some (.int .i64 ix) := (bv.cell 1).trans rfl
          have bv_f1 : w47.frozen? ⟨w5.heap.size + 2, 1, none⟩ = false := bv.frozen 1
          clear hb47'
          clear Vo
          go_wp2_with fail
          generalize hwq : w47 = wq at *
          clear hwq
          clear bx_l bx_l1 bx_l2 bx_0 be_l be_l1 be_l2 be_0 be_1 be_2 be_3 f_l f_l1 f_l2 f_0 f_1 g_l g_l1 g_l2 g_0 g_1 h_l h_l1 h_l2 h_0 h_1 by__l by__l1 by__l2 by__0 bw_l bw_l1 bw_l2 bw_0 bw_f0 bw_1 bw_f1 bv_l bv_l1 bv_l2 bv_0 bv_f0 bv_1 bv_f1
          have be0 := be.lt
          have be1 : wq.cell? ⟨w.heap.size + 1, 0, none⟩ = some (.int .i64 et) := (be.cell 0).trans rfl
          have be2 : wq.cell? ⟨w.heap.size + 1, 1, none⟩ = some (strV un) := (be.cell 1).trans rfl
          have be3 : wq.cell? ⟨w.heap.size + 1, 2, none⟩ = some (.int .i64 uo) := (be.cell 2).trans rfl
          have be4 : wq.cell? ⟨w.heap.size + 1, 3, none⟩ = some (.int .i64 uw) := (be.cell 3).trans rfl
          have h63 : 0 + l.length ≤ maxLen := by unfold maxLen; omega
          have hby : (0 + l.length) * 40 ≤ 140737488355328 := by omega
          have h63' : l.length + 1 ≤ maxLen := by unfold maxLen; omega
          have hby' : (l.length + 1) * 40 ≤ 140737488355328 := by omega
          have hvl : (esV l).length = l.length * 4 := Fl.len eC_len l
          have hsnoc : esV l ++ [.int .i64 et, strV un, .int .i64 uo, .int .i64 uw] = esV (l ++ [⟨et, un, uo, uw⟩]) := esV_snoc l ⟨et, un, uo, uw⟩
          have HK : Hid (∀ w6 : World, Below wq.heap.size wq w6 → w6.cell? ⟨w.heap.size + 1, 0, none⟩ = some (.int .i64 et) ∧ w6.cell? ⟨w.heap.size + 1, 1, none⟩ = some (strV un) ∧ w6.cell? ⟨w.heap.size + 1, 2, none⟩ = some (.int .i64 uo) ∧ w6.cell? ⟨w.heap.size + 1, 3, none⟩ = some (.int .i64 uw)) := Lib.hid fun w6 h6 => ⟨((be.below h6 be.lt).cell 0).trans rfl, ((be.below h6 be.lt).cell 1).trans rfl, ((be.below h6 be.lt).cell 2).trans rfl, ((be.below h6 be.lt).cell 3).trans rfl⟩
          go_cut [20] (fun p wz => ∃ A' c', p = .slice A' (l.length + 1) c' ∧ l.length + 1 ≤ c' ∧ SA wz Free A' (esV (l ++ [⟨et, un, uo, uw⟩])) ∧ Below wq.heap.size wq wz)
          case first =>
            refine wp_region_noPanic ?_
            refine wp_region_held_drew (S := (fun w6 : World => w6.cell? ⟨w.heap.size + 1, 0, none⟩ = some (.int .i64 et) ∧ w6.cell? ⟨w.heap.size + 1, 1, none⟩ = some (strV un) ∧ w6.cell? ⟨w.heap.size + 1, 2, none⟩ = some (.int .i64 uo) ∧ w6.cell? ⟨w.heap.size + 1, 3, none⟩ = some (.int .i64 uw))) (by kernel_rfl) ?_ (fun hX0 => ?_)
            · exact HK.out _ (below_drew' (Below.refl _ _))
            have hq : Below wq.heap.size wq wq.drew := below_drew' (Below.refl _ _)
            generalize wq.drew = WT at *
            refine wpAnyH_take (i := 0) (v := .slice A2 l.length k2) rfl (by kernel_rfl) (by kernel_rfl) (by kernel_rfl) (fun _ _ _ h => h) (Or.inl ⟨by kernel_rfl, ?qm0_3⟩) (by assumption) ?rqm0_3
            case qm0_3 => (intro w hSw; (try dsimp only at hSw); go_simp)
            try simp only [Act.put, List.setIfInBounds_toArray]
            refine wpAnyH_take (i := 2) (v := .agg #[.int .i64 et, strV un, .int .i64 uo, .int .i64 uw]) rfl (by kernel_rfl) (by kernel_rfl) (by kernel_rfl) (fun _ _ _ h => h) (Or.inl ⟨by kernel_rfl, ?qm2_3⟩) (by assumption) ?rqm2_3
            case qm2_3 => (intro w hSw; obtain ⟨s0, s1, s2, s3⟩ := hSw; go_simp)
            try simp only [Act.put, List.setIfInBounds_toArray]
            refine wpAnyH_ready (rs := [1, 3]) (by kernel_rfl) (by simp) ?_
            refine AllReadyH.cons rfl (fun K hK => ?sm1_3) (AllReadyH.cons rfl (fun K hK => ?sm3_3) AllReadyH.nil)
            case sm1_3 =>
              refine step_appM _ rfl _ (.tmp 97) 54 rfl wq.heap.size 69 i0 _ 4 40 Tryd.underlying54 hi0 hz0 hz1 hz2 hzs (by decide) none 0 0 [] rfl (World.ownsRow_nil _ _ _ _) _ A2 l.length k2 (esV l) rfl hvl (V2.out.keep (free_below hq)).sv (esV_one' _) h63 hby hq.size ?_
              intro A5 c5 w5 hown5 hg5 hc5
              simp only [Nat.zero_add, List.nil_append] at hown5 hc5 ⊢
              refine hK.out _ _ ?_ (fun hX1 => ?_)
              · exact HK.out _ (hq.grown hg5 hq.size (fun b e => by cases e))
              clear hK K
              try simp only [Act.put, List.setIfInBounds_toArray]
              replace hq := hq.grown hg5 hq.size (fun b e => by cases e)
              refine wpAnyH_ready (rs := [3]) (by kernel_rfl) (by simp) ?_
              refine AllReadyH.cons rfl (fun K hK => ?sm13_3) AllReadyH.nil
              go_simp
              refine hK.out _ _ ?_ (fun hX2 => ?_)
              · exact HK.out _ (hq.alloc hq.size (.cells #[.int .i64 et, strV un, .int .i64 uo, .int .i64 uw] 69))
              clear hK K
              try simp only [Act.put, List.setIfInBounds_toArray]
              have hlt5 := (hown5.alloc (.cells #[.int .i64 et, strV un, .int .i64 uo, .int .i64 uw] 69)).lt
              replace hq := hq.alloc hq.size (.cells #[.int .i64 et, strV un, .int .i64 uo, .int .i64 uw] 69)
              refine wpAnyH_ready (rs := [4]) (by kernel_rfl) (by simp) ?_
              refine AllReadyH.cons rfl (fun K hK => ?sm14_3) AllReadyH.nil
              refine step_appNo _ rfl (.tmp 98) (.tmp 100) 54 rfl wq.heap.size 69 i0 _ 4 40 Tryd.underlying54 hi0 hz0 hz1 hz2 hzs (by decide) A5 l.length c5 (esV l) rfl (hown5.alloc (.cells #[.int .i64 et, strV un, .int .i64 uo, .int .i64 uw] 69)) w5.heap.size 1 [.int .i64 et, strV un, .int .i64 uo, .int .i64 uw] rfl rfl (fun j v hj => cells_new w5 #[.int .i64 et, strV un, .int .i64 uo, .int .i64 uw] 69 j v hj) (enV_one et un uo uw) h63' hby' hq.size ?_
              intro ge ce wz hown6 hg6 hob6
              refine hK.out _ _ ?_ (fun hX6 => ?_)
              · exact HK.out _ (hq.grown hg6 hq.size (fun b e => (hlt5 b e).1))
              clear hK K
              try simp only [Act.put, List.setIfInBounds_toArray]
              refine wpAnyH_ready (rs := [5]) (by kernel_rfl) (by simp) ?_
              refine AllReadyH.cons rfl (fun K hK => ?sm15_3) AllReadyH.nil
              go_simp
              refine hK.out _ _ ?_ (fun hX7 => ?_)
              · exact HK.out _ (hq.grown hg6 hq.size (fun b e => (hlt5 b e).1))
              clear hK K
              try simp only [Act.put, List.setIfInBounds_toArray]
              refine wpAnyH_done (by kernel_rfl) ?_ _
              refine NoPanic.normal ?_
              try go_wp2_with fail
              go_meet
              refine ⟨_, ce, rfl, ?_, SA.of_own' (X := Free) (hsnoc ▸ hown6) (fun _ _ h => h), hq.grown hg6 hq.size (fun b e => (hlt5 b e).1)⟩
              obtain ⟨A'', c'', e1, hcc, _⟩ := own_form hown6; injection e1 with _ _ e3; subst e3; exact hcc
            case sm3_3 =>
              go_simp
              refine hK.out _ _ ?_ (fun hX1 => ?_)
              · exact HK.out _ (hq.alloc hq.size (.cells #[.int .i64 et, strV un, .int .i64 uo, .int .i64 uw] 69))
              clear hK K
              try simp only [Act.put, List.setIfInBounds_toArray]
              replace hq := hq.alloc hq.size (.cells #[.int .i64 et, strV un, .int .i64 uo, .int .i64 uw] 69)
              have bl := Blk.new WT 69 #[.int .i64 et, strV un, .int .i64 uo, .int .i64 uw]
              generalize WT.alloc (.cells #[.int .i64 et, strV un, .int .i64 uo, .int .i64 uw] 69) = WU at *
              refine wpAnyH_ready (rs := [1]) (by kernel_rfl) (by simp) ?_
              refine AllReadyH.cons rfl (fun K hK => ?sm31_3) AllReadyH.nil
              refine step_appM _ rfl _ (.tmp 97) 54 rfl wq.heap.size 69 i0 _ 4 40 Tryd.underlying54 hi0 hz0 hz1 hz2 hzs (by decide) none 0 0 [] rfl (World.ownsRow_nil _ _ _ _) _ A2 l.length k2 (esV l) rfl hvl (V2.out.keep (free_below hq)).sv (esV_one' _) h63 hby hq.size ?_
              intro A5 c5 w5 hown5 hg5 hc5
              simp only [Nat.zero_add, List.nil_append] at hown5 hc5 ⊢
              refine hK.out _ _ ?_ (fun hX2 => ?_)
              · exact HK.out _ (hq.grown hg5 hq.size (fun b e => by cases e))
              clear hK K
              try simp only [Act.put, List.setIfInBounds_toArray]
              replace hq := hq.grown hg5 hq.size (fun b e => by cases e)
              replace bl := bl.grown hg5 (fun e => by cases e)
              have hlt5 := hown5.lt
              refine wpAnyH_ready (rs := [4]) (by kernel_rfl) (by simp) ?_
              refine AllReadyH.cons rfl (fun K hK => ?sm34_3) AllReadyH.nil
              refine step_appNo _ rfl (.tmp 98) (.tmp 100) 54 rfl wq.heap.size 69 i0 _ 4 40 Tryd.underlying54 hi0 hz0 hz1 hz2 hzs (by decide) A5 l.length c5 (esV l) rfl hown5 WT.heap.size 1 [.int .i64 et, strV un, .int .i64 uo, .int .i64 uw] rfl rfl (fun j v hj => (bl.cell j).trans (by rw [← Array.getElem?_toList]; exact hj)) (enV_one et un uo uw) h63' hby' hq.size ?_
              intro ge ce wz hown6 hg6 hob6
              refine hK.out _ _ ?_ (fun hX6 => ?_)
              · exact HK.out _ (hq.grown hg6 hq.size (fun b e => (hlt5 b e).1))
              clear hK K
              try simp only [Act.put, List.setIfInBounds_toArray]
              refine wpAnyH_ready (rs := [5]) (by kernel_rfl) (by simp) ?_
              refine AllReadyH.cons rfl (fun K hK => ?sm35_3) AllReadyH.nil
              go_simp
              refine hK.out _ _ ?_ (fun hX7 => ?_)
              · exact HK.out _ (hq.grown hg6 hq.size (fun b e => (hlt5 b e).1))
              clear hK K
              try simp only [Act.put, List.setIfInBounds_toArray]
              refine wpAnyH_done (by kernel_rfl) ?_ _
              refine NoPanic.normal ?_
              try go_wp2_with fail
              go_meet
              refine ⟨_, ce, rfl, ?_, SA.of_own' (X := Free) (hsnoc ▸ hown6) (fun _ _ h => h), hq.grown hg6 hq.size (fun b e => (hlt5 b e).1)⟩
              obtain ⟨A'', c'', e1, hcc, _⟩ := own_form hown6; injection e1 with _ _ e3; subst e3; exact hcc
          case rest =>
            obtain ⟨Ae, ke, rfl, hke, hse, hbc⟩ := hcut
            obtain ⟨wa, rfl⟩ : ∃ wa : World, wa = wc := ⟨_, rfl⟩
            clear be0 be1 be2 be3 be4 HK
            have Ve := Lib.hid hse
            clear hse
            have HBm68 := Lib.hid (HBm47.out.trans (hbc.mono HBm47.out.size))
            replace bx := bx.below hbc bx.lt
            replace be := be.below hbc be.lt
            replace f := f.below hbc f.lt
            replace g := g.below hbc g.lt
            replace h := h.below hbc h.lt
            replace by_ := by_.below hbc by_.lt
            replace bw := bw.below hbc bw.lt
            replace bv := bv.below hbc bv.lt
            replace hM := Lib.hid (hM.out.below hbc)
            replace V0 := Lib.hid (V0.out.keep (free_below hbc))
            replace V2 := Lib.hid (V2.out.keep (free_below hbc))
            replace Vx := Lib.hid (Vx.out.keep (free_below hbc))
            replace Vm := Lib.hid (Vm.out.keep (free_below hbc))
            replace Vu := Lib.hid (Vu.out.keep (free_below hbc))
            have bx_l : w.heap.size < wa.heap.size := bx.lt
            have bx_l1 : w.heap.size < wa.heap.size + 1 := Nat.lt_succ_of_lt bx_l
            have bx_l2 : w.heap.size < wa.heap.size + 1 + 1 := Nat.lt_succ_of_lt bx_l1
            have bx_0 : wa.cell? ⟨w.heap.size, 0, none⟩ = some (.slice A s.length k) := (bx.cell 0).trans rfl
            have be_l : w.heap.size + 1 < wa.heap.size := be.lt
            have be_l1 : w.heap.size + 1 < wa.heap.size + 1 := Nat.lt_succ_of_lt be_l
            have be_l2 : w.heap.size + 1 < wa.heap.size + 1 + 1 := Nat.lt_succ_of_lt be_l1
            have be_0 : wa.cell? ⟨w.heap.size + 1, 0, none⟩ = some (.int .i64 et) := (be.cell 0).trans rfl
            have be_1 : wa.cell? ⟨w.heap.size + 1, 1, none⟩ = some (strV un) := (be.cell 1).trans rfl
            have be_2 : wa.cell? ⟨w.heap.size + 1, 2, none⟩ = some (.int .i64 uo) := (be.cell 2).trans rfl
            have be_3 : wa.cell? ⟨w.heap.size + 1, 3, none⟩ = some (.int .i64 uw) := (be.cell 3).trans rfl
            have f_l : w2.heap.size < wa.heap.size := f.lt
            have f_l1 : w2.heap.size < wa.heap.size + 1 := Nat.lt_succ_of_lt f_l
            have f_l2 : w2.heap.size < wa.heap.size + 1 + 1 := Nat.lt_succ_of_lt f_l1
            have f_0 : wa.cell? ⟨w2.heap.size, 0, none⟩ = some (.int .i64 cd) := (f.cell 0).trans rfl
            have f_1 : wa.cell? ⟨w2.heap.size, 1, none⟩ = some (.int .i64 ix) := (f.cell 1).trans rfl
            have g_l : w3.heap.size < wa.heap.size := g.lt
            have g_l1 : w3.heap.size < wa.heap.size + 1 := Nat.lt_succ_of_lt g_l
            have g_l2 : w3.heap.size < wa.heap.size + 1 + 1 := Nat.lt_succ_of_lt g_l1
            have g_0 : wa.cell? ⟨w3.heap.size, 0, none⟩ = some (.int .i64 0) := (g.cell 0).trans rfl
            have g_1 : wa.cell? ⟨w3.heap.size, 1, none⟩ = some (.int .i64 0) := (g.cell 1).trans rfl
            have h_l : w4.heap.size < wa.heap.size := h.lt
            have h_l1 : w4.heap.size < wa.heap.size + 1 := Nat.lt_succ_of_lt h_l
            have h_l2 : w4.heap.size < wa.heap.size + 1 + 1 := Nat.lt_succ_of_lt h_l1
            have h_0 : wa.cell? ⟨w4.heap.size, 0, none⟩ = some (.int .i64 cd) := (h.cell 0).trans rfl
            have h_1 : wa.cell? ⟨w4.heap.size, 1, none⟩ = some (.int .i64 ix) := (h.cell 1).trans rfl
            have by__l : w5.heap.size < wa.heap.size := by_.lt
            have by__l1 : w5.heap.size < wa.heap.size + 1 := Nat.lt_succ_of_lt by__l
            have by__l2 : w5.heap.size < wa.heap.size + 1 + 1 := Nat.lt_succ_of_lt by__l1
            have by__0 : wa.cell? ⟨w5.heap.size, 0, none⟩ = some (.slice Ay ys.length cy) := (by_.cell 0).trans rfl
            have bw_l : w5.heap.size + 1 < wa.heap.size := bw.lt
            have bw_l1 : w5.heap.size + 1 < wa.heap.size + 1 := Nat.lt_succ_of_lt bw_l
            have bw_l2 : w5.heap.size + 1 < wa.heap.size + 1 + 1 := Nat.lt_succ_of_lt bw_l1
            have bw_0 : wa.cell? ⟨w5.heap.size + 1, 0, none⟩ = some (.int .i64 cd) := (bw.cell 0).trans rfl
            have bw_f0 : wa.frozen? ⟨w5.heap.size + 1, 0, none⟩ = false := bw.frozen 0
            have bw_1 : wa.cell? ⟨w5.heap.size + 1, 1, none⟩ = some (.int .i64 ix) := (bw.cell 1).trans rfl
            have bw_f1 : wa.frozen? ⟨w5.heap.size + 1, 1, none⟩ = false := bw.frozen 1
            have bv_l : w5.heap.size + 2 < wa.heap.size := bv.lt
            have bv_l1 : w5.heap.size + 2 < wa.heap.size + 1 := Nat.lt_succ_of_lt bv_l
            have bv_l2 : w5.heap.size + 2 < wa.heap.size + 1 + 1 := Nat.lt_succ_of_lt bv_l1
            have bv_0 : wa.cell? ⟨w5.heap.size + 2, 0, none⟩ = some (.int .i64 cd) := (bv.cell 0).trans rfl
            have bv_f0 : wa.frozen? ⟨w5.heap.size + 2, 0, none⟩ = false := bv.frozen 0
            have bv_1 : wa.cell? ⟨w5.heap.size + 2, 1, none⟩ = some (.int .i64 ix) := (bv.cell 1).trans rfl
            have bv_f1 : wa.frozen? ⟨w5.heap.size + 2, 1, none⟩ = false := bv.frozen 1
            clear hbc
            have LN := Lib.hid (logs_any wa Ax none cx 0 [] [] Vx.out SA.nil (by simp) (by simp))
            simp only [List.length_nil] at LN
            go_wp2_with fail
            go_at_call 37
            with_reducible refine (LN.out).mono ?_
            rintro e w69 ⟨rfl, hb69'⟩
            have HBm69 := Lib.hid (HBm68.out.trans (hb69'.mono HBm68.out.size))
            replace bx := bx.below hb69' bx.lt
            replace be := be.below hb69' be.lt
            replace f := f.below hb69' f.lt
            replace g := g.below hb69' g.lt
            replace h := h.below hb69' h.lt
            replace by_ := by_.below hb69' by_.lt
            replace bw := bw.below hb69' bw.lt
            replace bv := bv.below hb69' bv.lt
            replace hM := Lib.hid (hM.out.below hb69')
            replace V0 := Lib.hid (V0.out.keep (free_below hb69'))
            replace V2 := Lib.hid (V2.out.keep (free_below hb69'))
            replace Vx := Lib.hid (Vx.out.keep (free_below hb69'))
            replace Vm := Lib.hid (Vm.out.keep (free_below hb69'))
            replace Vu := Lib.hid (Vu.out.keep (free_below hb69'))
            replace Ve := Lib.hid (Ve.out.keep (free_below hb69'))
            clear bx_l bx_l1 bx_l2 bx_0 be_l be_l1 be_l2 be_0 be_1 be_2 be_3 f_l f_l1 f_l2 f_0 f_1 g_l g_l1 g_l2 g_0 g_1 h_l h_l1 h_l2 h_0 h_1 by__l by__l1 by__l2 by__0 bw_l bw_l1 bw_l2 bw_0 bw_f0 bw_1 bw_f1 bv_l bv_l1 bv_l2 bv_0 bv_f0 bv_1 bv_f1
            have bx_l : w.heap.size < w69.heap.size := bx.lt
            have bx_l1 : w.heap.size < w69.heap.size + 1 := Nat.lt_succ_of_lt bx_l
            have bx_l2 : w.heap.size < w69.heap.size + 1 + 1 := Nat.lt_succ_of_lt bx_l1
            have bx_0 : w69.cell? ⟨w.heap.size, 0, none⟩ = some (.slice A s.length k) := (bx.cell 0).trans rfl
            have be_l : w.heap.size + 1 < w69.heap.size := be.lt
            have be_l1 : w.heap.size + 1 < w69.heap.size + 1 := Nat.lt_succ_of_lt be_l
            have be_l2 : w.heap.size + 1 < w69.heap.size + 1 + 1 := Nat.lt_succ_of_lt be_l1
            have be_0 : w69.cell? ⟨w.heap.size + 1, 0, none⟩ = some (.int .i64 et) := (be.cell 0).trans rfl
            have be_1 : w69.cell? ⟨w.heap.size + 1, 1, none⟩ = some (strV un) := (be.cell 1).trans rfl
            have be_2 : w69.cell? ⟨w.heap.size + 1, 2, none⟩ = some (.int .i64 uo) := (be.cell 2).trans rfl
            have be_3 : w69.cell? ⟨w.heap.size + 1, 3, none⟩ = some (.int .i64 uw) := (be.cell 3).trans rfl
            have f_l : w2.heap.size < w69.heap.size := f.lt
            have f_l1 : w2.heap.size < w69.heap.size + 1 := Nat.lt_succ_of_lt f_l
            have f_l2 : w2.heap.size < w69.heap.size + 1 + 1 := Nat.lt_succ_of_lt f_l1
            have f_0 : w69.cell? ⟨w2.heap.size, 0, none⟩ = some (.int .i64 cd) := (f.cell 0).trans rfl
            have f_1 : w69.cell? ⟨w2.heap.size, 1, none⟩ = some (.int .i64 ix) := (f.cell 1).trans rfl
            have g_l : w3.heap.size < w69.heap.size := g.lt
            have g_l1 : w3.heap.size < w69.heap.size + 1 := Nat.lt_succ_of_lt g_l
            have g_l2 : w3.heap.size < w69.heap.size + 1 + 1 := Nat.lt_succ_of_lt g_l1
            have g_0 : w69.cell? ⟨w3.heap.size, 0, none⟩ = some (.int .i64 0) := (g.cell 0).trans rfl
            have g_1 : w69.cell? ⟨w3.heap.size, 1, none⟩ = some (.int .i64 0) := (g.cell 1).trans rfl
            have h_l : w4.heap.size < w69.heap.size := h.lt
            have h_l1 : w4.heap.size < w69.heap.size + 1 := Nat.lt_succ_of_lt h_l
            have h_l2 : w4.heap.size < w69.heap.size + 1 + 1 := Nat.lt_succ_of_lt h_l1
            have h_0 : w69.cell? ⟨w4.heap.size, 0, none⟩ = some (.int .i64 cd) := (h.cell 0).trans rfl
            have h_1 : w69.cell? ⟨w4.heap.size, 1, none⟩ = some (.int .i64 ix) := (h.cell 1).trans rfl
            have by__l : w5.heap.size < w69.heap.size := by_.lt
            have by__l1 : w5.heap.size < w69.heap.size + 1 := Nat.lt_succ_of_lt by__l
            have by__l2 : w5.heap.size < w69.heap.size + 1 + 1 := Nat.lt_succ_of_lt by__l1
            have by__0 : w69.cell? ⟨w5.heap.size, 0, none⟩ = some (.slice Ay ys.length cy) := (by_.cell 0).trans rfl
            have bw_l : w5.heap.size + 1 < w69.heap.size := bw.lt
            have bw_l1 : w5.heap.size + 1 < w69.heap.size + 1 := Nat.lt_succ_of_lt bw_l
            have bw_l2 : w5.heap.size + 1 < w69.heap.size + 1 + 1 := Nat.lt_succ_of_lt bw_l1
            have bw_0 : w69.cell? ⟨w5.heap.size + 1, 0, none⟩ = some (.int .i64 cd) := (bw.cell 0).trans rfl
            have bw_f0 : w69.frozen? ⟨w5.heap.size + 1, 0, none⟩ = false := bw.frozen 0
            have bw_1 : w69.cell? ⟨w5.heap.size + 1, 1, none⟩ = some (.int .i64 ix) := (bw.cell 1).trans rfl
            have bw_f1 : w69.frozen? ⟨w5.heap.size + 1, 1, none⟩ = false := bw.frozen 1
            have bv_l : w5.heap.size + 2 < w69.heap.size := bv.lt
            have bv_l1 : w5.heap.size + 2 < w69.heap.size + 1 := Nat.lt_succ_of_lt bv_l
            have bv_l2 : w5.heap.size + 2 < w69.heap.size + 1 + 1 := Nat.lt_succ_of_lt bv_l1
            have bv_0 : w69.cell? ⟨w5.heap.size + 2, 0, none⟩ = some (.int .i64 cd) := (bv.cell 0).trans rfl
            have bv_f0 : w69.frozen? ⟨w5.heap.size + 2, 0, none⟩ = false := bv.frozen 0
            have bv_1 : w69.cell? ⟨w5.heap.size + 2, 1, none⟩ = some (.int .i64 ix) := (bv.cell 1).trans rfl
            have bv_f1 : w69.frozen? ⟨w5.heap.size + 2, 1, none⟩ = false := bv.frozen 1
            clear hb69'
            go_wp2_with fail
            go_ret
            exact ⟨by simp, HBm69.out⟩
  · have hz := Classical.not_not.1 hbad
    obtain ⟨hz2', hok⟩ := HLG.out hz
    have hlen := hok.len
    have hac := HAC.out hz
    have huc := HUC.out hz
    have HAC2 := Lib.hid hac
    have HUC2 := Lib.hid huc
    have e4 := HRA2.out
    rw [hz2'] at e4
    injection e4 with e4 f4
    subst e4
    subst f4
    clear hac huc HAB HAC HUC HRA2 HLG HLL hbad hz hz2' hok
    have e2 := HOF.out.trans (if_neg (by omega))
    clear HOF
    injection e2 with e2 f2
    injection f2 with f2 g2
    subst f2
    subst g2
    have hms : Hid (ms = Rf.ofL l un) := Lib.hid e2
    clear e2
    have hlen' : ¬ (60 : Int) < l.length := by omega
    go_wp2_with fail
    generalize hwq : ((w5.alloc (.cells #[.slice Ay ys.length cy] 26)).alloc (.cells #[.int .i64 0, .int .i64 0] 30)).alloc (.cells #[.int .i64 0, .int .i64 0] 30) = wl at *
    clear hwq
    have hbl0 := Below.refl wl.heap.size wl
    clear bx_l bx_l1 bx_l2 bx_0 be_l be_l1 be_l2 be_0 be_1 be_2 be_3 f_l f_l1 f_l2 f_0 f_1 g_l g_l1 g_l2 g_0 g_1 h_l h_l1 h_l2 h_0 h_1
    go_loopw [18, 19] (fun ov iv wr => ∃ (i : Nat) (o : List Rf.E) (A' : Option Addr) (c' : Nat), i ≤ l.length ∧ iv = .int .i64 i ∧ ov = .slice A' o.length c' ∧ o.length ≤ i ∧ Hid (o = Rf.ofL (l.take i) un) ∧ Below wl.heap.size wl wr ∧ wr.ownsRow wl.heap.size 69 4 (.slice A' o.length c') o.length (esV o)) (fun _ iv _ => l.length - (intOf iv).toNat)
    case atStart => exact ⟨0, [], none, 0, Nat.zero_le _, rfl, rfl, Nat.le_refl _, Lib.hid rfl, hbl0, World.ownsRow_nil _ _ _ _⟩
    case round =>
      obtain ⟨i, o, A', c', hi, rfl, rfl, hol, HO, hbr, hown⟩ := hrel
      obtain ⟨wo, rfl⟩ : ∃ wo : World, wo = wr := ⟨_, rfl⟩
      by_cases hlt : i < l.length
      · have hlt' : (i : Int) < l.length := by omega
        obtain ⟨b, off, e, hbb, _, d0, d1, d2, d3⟩ := esV_row (V2.out.keep (free_below hbr)) i hlt
        subst e
        have e0 := (be.below hbr be.lt).lt
        have e1 : wo.cell? ⟨w.heap.size + 1, 1, none⟩ = some (strV un) := ((be.below hbr be.lt).cell 1).trans rfl
        have HT : Hid (l.take (i + 1) = l.take i ++ [l[i]]) := Lib.hid (List.take_succ_eq_append_getElem hlt)
        generalize l[i] = x at *
        by_cases hp : x.upd.name = un
        · have HN2 : Hid (o ++ [x] = Rf.ofL (l.take (i + 1)) un) := Lib.hid (by rw [HT.out, HO.out]; unfold Rf.ofL; rw [List.filter_append]; simp [hp])
          have hp1 : (x.upd.name == un) = true := by simpa using hp
          clear HT HO hp
          go_wp2_with fail
          go_quiet (fail)
          have hbz : Below wl.heap.size wl (wo.drewN nq) := below_drewN' hbr nq
          have hownz : (wo.drewN nq).ownsRow wl.heap.size 69 4 (.slice A' o.length c') o.length (esV o) := hown
          replace d0 : (wo.drewN nq).cell? _ = _ := d0
          replace d1 : (wo.drewN nq).cell? _ = _ := d1
          replace d2 : (wo.drewN nq).cell? _ = _ := d2
          replace d3 : (wo.drewN nq).cell? _ = _ := d3
          replace e1 : (wo.drewN nq).cell? _ = _ := e1
          replace hbb : _ < (wo.drewN nq).heap.size := hbb
          replace e0 : _ < (wo.drewN nq).heap.size := e0
          clear hown hbr
          generalize wo.drewN nq = wz at *
          have hsv1 : SV (wz.alloc (.cells #[.int .i64 x.time, strV x.upd.name, .int .i64 x.upd.old, .int .i64 x.upd.new] 69)) (wz.heap.size + 1) (some ⟨wz.heap.size, 0, none⟩) [.int .i64 x.time, strV x.upd.name, .int .i64 x.upd.old, .int .i64 x.upd.new] := by simpa using SV.lit wz #[.int .i64 x.time, strV x.upd.name, .int .i64 x.upd.old, .int .i64 x.upd.new] 69
          go_wp2_with (first | (at_builtin; refine wpList_appN _ rfl (.tmp 81) (.tmp 86) 54 rfl wl.heap.size 69 i0 _ 4 40 Tryd.underlying54 hi0 hz0 hz1 hz2 hzs (by decide) A' o.length c' (esV o) rfl (hownz.alloc (.cells #[.int .i64 x.time, strV x.upd.name, .int .i64 x.upd.old, .int .i64 x.upd.new] 69)) _ _ 1 1 [.int .i64 x.time, strV x.upd.name, .int .i64 x.upd.old, .int .i64 x.upd.new] rfl rfl hsv1 (enV_one _ _ _ _) ?ha1_4 ?hb1_4 ?hc1_4 ?_))
          case ha1_4 => unfold maxLen; omega
          case hb1_4 => omega
          case hc1_4 => have := hbz.size; simp; omega
          intro A9 c9 w9 own9 hg9 _
          have hr9 : ∀ b, (Value.slice A' o.length c').ownBlock = some b → wl.heap.size ≤ b := fun b e => (hownz.lt b e).1
          have hb9 := (hbz.alloc hbz.size (.cells #[.int .i64 x.time, strV x.upd.name, .int .i64 x.upd.old, .int .i64 x.upd.new] 69)).grown hg9 (by have := hbz.size; simp; omega) (fun b e => hr9 b e)
          rw [esV_snoc] at own9
          have hol3 : (o ++ [x]).length = o.length + 1 := by simp
          clear hg9 hsv1 d0 d1 d2 d3 e0 e1 hbz hownz
          go_wp2_with fail
          go_roundw
          case rel => exact ⟨i + 1, o ++ [x], A9, c9, by omega, by go_num, by rw [hol3], by simp; omega, HN2, hb9, by rw [hol3]; exact own9⟩
          case measure => simp [intOf]; omega
        · have HN2 : Hid (o = Rf.ofL (l.take (i + 1)) un) := Lib.hid (by rw [HT.out, HO.out]; unfold Rf.ofL; rw [List.filter_append]; simp [hp])
          have hp1 : (x.upd.name == un) = false := by simpa using hp
          clear HT HO hp
          go_wp2_with fail
          go_quiet (fail)
          go_wp2_with fail
          go_roundw
          case rel => exact ⟨i + 1, o, A', c', by omega, by go_num, rfl, by omega, HN2, below_drewN' hbr _, hown⟩
          case measure => simp [intOf]; omega
      · obtain rfl : i = l.length := by omega
        obtain rfl : o = ms := by rw [HO.out, hms.out, List.take_length]
        have Vo := Lib.hid (SA.of_own' (X := Free) hown (fun _ _ h => h))
        clear HO hown hms hbl0
        have hml : o.length ≤ 60 := by omega
        have HBm46 := Lib.hid (HBa8.out.trans (hbr.mono HBa8.out.size))
        replace bx := bx.below hbr bx.lt
        replace be := be.below hbr be.lt
        replace f := f.below hbr f.lt
        replace g := g.below hbr g.lt
        replace h := h.below hbr h.lt
        replace by_ := by_.below hbr by_.lt
        replace bw := bw.below hbr bw.lt
        replace bv := bv.below hbr bv.lt
        replace hM := Lib.hid (hM.out.below hbr)
        replace V0 := Lib.hid (V0.out.keep (free_below hbr))
        replace V2 := Lib.hid (V2.out.keep (free_below hbr))
        replace Vx := Lib.hid (Vx.out.keep (free_below hbr))
        replace Vm := Lib.hid (Vm.out.keep (free_below hbr))
        replace Vu := Lib.hid (Vu.out.keep (free_below hbr))
        have bx_l : w.heap.size < wo.heap.size := bx.lt
        have bx_l1 : w.heap.size < wo.heap.size + 1 := Nat.lt_succ_of_lt bx_l
        have bx_l2 : w.heap.size < wo.heap.size + 1 + 1 := Nat.lt_succ_of_lt bx_l1
        have bx_0 : wo.cell? ⟨w.heap.size, 0, none⟩ = some (.slice A s.length k) := (bx.cell 0).trans rfl
        have be_l : w.heap.size + 1 < wo.heap.size := be.lt
        have be_l1 : w.heap.size + 1 < wo.heap.size + 1 := Nat.lt_succ_of_lt be_l
        have be_l2 : w.heap.size + 1 < wo.heap.size + 1 + 1 := Nat.lt_succ_of_lt be_l1
        have be_0 : wo.cell? ⟨w.heap.size + 1, 0, none⟩ = some (.int .i64 et) := (be.cell 0).trans rfl
        have be_1 : wo.cell? ⟨w.heap.size + 1, 1, none⟩ = some (strV un) := (be.cell 1).trans rfl
        have be_2 : wo.cell? ⟨w.heap.size + 1, 2, none⟩ = some (.int .i64 uo) := (be.cell 2).trans rfl
        have be_3 : wo.cell? ⟨w.heap.size + 1, 3, none⟩ = some (.int .i64 uw) := (be.cell 3).trans rfl
        have f_l : w2.heap.size < wo.heap.size := f.lt
        have f_l1 : w2.heap.size < wo.heap.size + 1 := Nat.lt_succ_of_lt f_l
        have f_l2 : w2.heap.size < wo.heap.size + 1 + 1 := Nat.lt_succ_of_lt f_l1
        have f_0 : wo.cell? ⟨w2.heap.size, 0, none⟩ = some (.int .i64 c1) := (f.cell 0).trans rfl
        have f_1 : wo.cell? ⟨w2.heap.size, 1, none⟩ = some (.int .i64 i1) := (f.cell 1).trans rfl
        have g_l : w3.heap.size < wo.heap.size := g.lt
        have g_l1 : w3.heap.size < wo.heap.size + 1 := Nat.lt_succ_of_lt g_l
        have g_l2 : w3.heap.size < wo.heap.size + 1 + 1 := Nat.lt_succ_of_lt g_l1
        have g_0 : wo.cell? ⟨w3.heap.size, 0, none⟩ = some (.int .i64 0) := (g.cell 0).trans rfl
        have g_1 : wo.cell? ⟨w3.heap.size, 1, none⟩ = some (.int .i64 0) := (g.cell 1).trans rfl
        have h_l : w4.heap.size < wo.heap.size := h.lt
        have h_l1 : w4.heap.size < wo.heap.size + 1 := Nat.lt_succ_of_lt h_l
        have h_l2 : w4.heap.size < wo.heap.size + 1 + 1 := Nat.lt_succ_of_lt h_l1
        have h_0 : wo.cell? ⟨w4.heap.size, 0, none⟩ = some (.int .i64 c3) := (h.cell 0).trans rfl
        have h_1 : wo.cell? ⟨w4.heap.size, 1, none⟩ = some (.int .i64 i3) := (h.cell 1).trans rfl
        have by__l : w5.heap.size < wo.heap.size := by_.lt
        have by__l1 : w5.heap.size < wo.heap.size + 1 := Nat.lt_succ_of_lt by__l
        have by__l2 : w5.heap.size < wo.heap.size + 1 + 1 := Nat.lt_succ_of_lt by__l1
        have by__0 : wo.cell? ⟨w5.heap.size, 0, none⟩ = some (.slice Ay ys.length cy) := (by_.cell 0).trans rfl
        have bw_l : w5.heap.size + 1 < wo.heap.size := bw.lt
        have bw_l1 : w5.heap.size + 1 < wo.heap.size + 1 := Nat.lt_succ_of_lt bw_l
        have bw_l2 : w5.heap.size + 1 < wo.heap.size + 1 + 1 := Nat.lt_succ_of_lt bw_l1
        have bw_0 : wo.cell? ⟨w5.heap.size + 1, 0, none⟩ = some (.int .i64 0) := (bw.cell 0).trans rfl
        have bw_f0 : wo.frozen? ⟨w5.heap.size + 1, 0, none⟩ = false := bw.frozen 0
        have bw_1 : wo.cell? ⟨w5.heap.size + 1, 1, none⟩ = some (.int .i64 0) := (bw.cell 1).trans rfl
        have bw_f1 : wo.frozen? ⟨w5.heap.size + 1, 1, none⟩ = false := bw.frozen 1
        have bv_l : w5.heap.size + 2 < wo.heap.size := bv.lt
        have bv_l1 : w5.heap.size + 2 < wo.heap.size + 1 := Nat.lt_succ_of_lt bv_l
        have bv_l2 : w5.heap.size + 2 < wo.heap.size + 1 + 1 := Nat.lt_succ_of_lt bv_l1
        have bv_0 : wo.cell? ⟨w5.heap.size + 2, 0, none⟩ = some (.int .i64 0) := (bv.cell 0).trans rfl
        have bv_f0 : wo.frozen? ⟨w5.heap.size + 2, 0, none⟩ = false := bv.frozen 0
        have bv_1 : wo.cell? ⟨w5.heap.size + 2, 1, none⟩ = some (.int .i64 0) := (bv.cell 1).trans rfl
        have bv_f1 : wo.frozen? ⟨w5.heap.size + 2, 1, none⟩ = false := bv.frozen 1
        clear hbr
        go_wp2_with fail
        go_at_call 37
        with_reducible refine (logs_any _ Am A' cm c' o o Vm.out Vo.out (by omega) (by omega)).mono ?_
        rintro e w47 ⟨rfl, hb47'⟩
        have HBm47 := Lib.hid (HBm46.out.trans (hb47'.mono HBm46.out.size))
        replace bx := bx.below hb47' bx.lt
        replace be := be.below hb47' be.lt
        replace f := f.below hb47' f.lt
        replace g := g.below hb47' g.lt
        replace h := h.below hb47' h.lt
        replace by_ := by_.below hb47' by_.lt
        replace bw := bw.below hb47' bw.lt
        replace bv := bv.below hb47' bv.lt
        replace hM := Lib.hid (hM.out.below hb47')
        replace V0 := Lib.hid (V0.out.keep (free_below hb47'))
        replace V2 := Lib.hid (V2.out.keep (free_below hb47'))
        replace Vx := Lib.hid (Vx.out.keep (free_below hb47'))
        replace Vm := Lib.hid (Vm.out.keep (free_below hb47'))
        replace Vu := Lib.hid (Vu.out.keep (free_below hb47'))
        clear bx_l bx_l1 bx_l2 bx_0 be_l be_l1 be_l2 be_0 be_1 be_2 be_3 f_l f_l1 f_l2 f_0 f_1 g_l g_l1 g_l2 g_0 g_1 h_l h_l1 h_l2 h_0 h_1 by__l by__l1 by__l2 by__0 bw_l bw_l1 bw_l2 bw_0 bw_f0 bw_1 bw_f1 bv_l bv_l1 bv_l2 bv_0 bv_f0 bv_1 bv_f1
        have bx_l : w.heap.size < w47.heap.size := bx.lt
        have bx_l1 : w.heap.size < w47.heap.size + 1 := Nat.lt_succ_of_lt bx_l
        have bx_l2 : w.heap.size < w47.heap.size + 1 + 1 := Nat.lt_succ_of_lt bx_l1
        have bx_0 : w47.cell? ⟨w.heap.size, 0, none⟩ = some (.slice A s.length k) := (bx.cell 0).trans rfl
        have be_l : w.heap.size + 1 < w47.heap.size := be.lt
        have be_l1 : w.heap.size + 1 < w47.heap.size + 1 := Nat.lt_succ_of_lt be_l
        have be_l2 : w.heap.size + 1 < w47.heap.size + 1 + 1 := Nat.lt_succ_of_lt be_l1
        have be_0 : w47.cell? ⟨w.heap.size + 1, 0, none⟩ = some (.int .i64 et) := (be.cell 0).trans rfl
        have be_1 : w47.cell? ⟨w.heap.size + 1, 1, none⟩ = some (strV un) := (be.cell 1).trans rfl
        have be_2 : w47.cell? ⟨w.heap.size + 1, 2, none⟩ = some (.int .i64 uo) := (be.cell 2).trans rfl
        have be_3 : w47.cell? ⟨w.heap.size + 1, 3, none⟩ = some (.int .i64 uw) := (be.cell 3).trans rfl
        have f_l : w2.heap.size < w47.heap.size := f.lt
        have f_l1 : w2.heap.size < w47.heap.size + 1 := Nat.lt_succ_of_lt f_l
        have f_l2 : w2.heap.size < w47.heap.size + 1 + 1 := Nat.lt_succ_of_lt f_l1
        have f_0 : w47.cell? ⟨w2.heap.size, 0, none⟩ = some (.int .i64 c1) := (f.cell 0).trans rfl
        have f_1 : w47.cell? ⟨w2.heap.size, 1, none⟩ = some (.int .i64 i1) := (f.cell 1).trans rfl
        have g_l : w3.heap.size < w47.heap.size := g.lt
        have g_l1 : w3.heap.size < w47.heap.size + 1 := Nat.lt_succ_of_lt g_l
        have g_l2 : w3.heap.size < w47.heap.size + 1 + 1 := Nat.lt_succ_of_lt g_l1
        have g_0 : w47.cell? ⟨w3.heap.size, 0, none⟩ = some (.int .i64 0) := (g.cell 0).trans rfl
        have g_1 : w47.cell? ⟨w3.heap.size, 1, none⟩ = some (.int .i64 0) := (g.cell 1).trans rfl
        have h_l : w4.heap.size < w47.heap.size := h.lt
        have h_l1 : w4.heap.size < w47.heap.size + 1 := Nat.lt_succ_of_lt h_l
        have h_l2 : w4.heap.size < w47.heap.size + 1 + 1 := Nat.lt_succ_of_lt h_l1
        have h_0 : w47.cell? ⟨w4.heap.size, 0, none⟩ = some (.int .i64 c3) := (h.cell 0).trans rfl
        have h_1 : w47.cell? ⟨w4.heap.size, 1, none⟩ = some (.int .i64 i3) := (h.cell 1).trans rfl
        have by__l : w5.heap.size < w47.heap.size := by_.lt
        have by__l1 : w5.heap.size < w47.heap.size + 1 := Nat.lt_succ_of_lt by__l
        have by__l2 : w5.heap.size < w47.heap.size + 1 + 1 := Nat.lt_succ_of_lt by__l1
        have by__0 : w47.cell? ⟨w5.heap.size, 0, none⟩ = some (.slice Ay ys.length cy) := (by_.cell 0).trans rfl
        have bw_l : w5.heap.size + 1 < w47.heap.size := bw.lt
        have bw_l1 : w5.heap.size + 1 < w47.heap.size + 1 := Nat.lt_succ_of_lt bw_l
        have bw_l2 : w5.heap.size + 1 < w47.heap.size + 1 + 1 := Nat.lt_succ_of_lt bw_l1
        have bw_0 : w47.cell? ⟨w5.heap.size + 1, 0, none⟩ = some (.int .i64 0) := (bw.cell 0).trans rfl
        have bw_f0 : w47.frozen? ⟨w5.heap.size + 1, 0, none⟩ = false := bw.frozen 0
        have bw_1 : w47.cell? ⟨w5.heap.size + 1, 1, none⟩ = some (.int .i64 0) := (bw.cell 1).trans rfl
        have bw_f1 : w47.frozen? ⟨w5.heap.size + 1, 1, none⟩ = false := bw.frozen 1
        have bv_l : w5.heap.size + 2 < w47.heap.size := bv.lt
        have bv_l1 : w5.heap.size + 2 < w47.heap.size + 1 := Nat.lt_succ_of_lt bv_l
        have bv_l2 : w5.heap.size + 2 < w47.heap.size + 1 + 1 := Nat.lt_succ_of_lt bv_l1
        have bv_0 : w47.cell? ⟨w5.heap.size + 2, 0, none⟩ = some (.int .i64 0) := (bv.cell 0).trans rfl
        have bv_f0 : w47.frozen? ⟨w5.heap.size + 2, 0, none⟩ = false := bv.frozen 0
        have bv_1 : w47.cell? ⟨w5.heap.size + 2, 1, none⟩ = some (.int .i64 0) := (bv.cell 1).trans rfl
        have bv_f1 : w47.frozen? ⟨w5.heap.size + 2, 1, none⟩ = false := bv.frozen 1
        clear hb47'
        clear Vo
        go_wp2_with fail
        generalize hwq : w47 = wq at *
        clear hwq
        clear bx_l bx_l1 bx_l2 bx_0 be_l be_l1 be_l2 be_0 be_1 be_2 be_3 f_l f_l1 f_l2 f_0 f_1 g_l g_l1 g_l2 g_0 g_1 h_l h_l1 h_l2 h_0 h_1 by__l by__l1 by__l2 by__0 bw_l bw_l1 bw_l2 bw_0 bw_f0 bw_1 bw_f1 bv_l bv_l1 bv_l2 bv_0 bv_f0 bv_1 bv_f1
        have be0 := be.lt
        have be1 : wq.cell? ⟨w.heap.size + 1, 0, none⟩ = some (.int .i64 et) := (be.cell 0).trans rfl
        have be2 : wq.cell? ⟨w.heap.size + 1, 1, none⟩ = some (strV un) := (be.cell 1).trans rfl
        have be3 : wq.cell? ⟨w.heap.size + 1, 2, none⟩ = some (.int .i64 uo) := (be.cell 2).trans rfl
        have be4 : wq.cell? ⟨w.heap.size + 1, 3, none⟩ = some (.int .i64 uw) := (be.cell 3).trans rfl
        have h63 : 0 + l.length ≤ maxLen := by unfold maxLen; omega
        have hby : (0 + l.length) * 40 ≤ 140737488355328 := by omega
        have h63' : l.length + 1 ≤ maxLen := by unfold maxLen; omega
        have hby' : (l.length + 1) * 40 ≤ 140737488355328 := by omega
        have hvl : (esV l).length = l.length * 4 := Fl.len eC_len l
        have hsnoc : esV l ++ [.int .i64 et, strV un, .int .i64 uo, .int .i64 uw] = esV (l ++ [⟨et, un, uo, uw⟩]) := esV_snoc l ⟨et, un, uo, uw⟩
        have HK : Hid (∀ w6 : World, Below wq.heap.size wq w6 → w6.cell? ⟨w.heap.size + 1, 0, none⟩ = some (.int .i64 et) ∧ w6.cell? ⟨w.heap.size + 1, 1, none⟩ = some (strV un) ∧ w6.cell? ⟨w.heap.size + 1, 2, none⟩ = some (.int .i64 uo) ∧ w6.cell? ⟨w.heap.size + 1, 3, none⟩ = some (.int .i64 uw)) := Lib.hid fun w6 h6 => ⟨((be.below h6 be.lt).cell 0).trans rfl, ((be.below h6 be.lt).cell 1).trans rfl, ((be.below h6 be.lt).cell 2).trans rfl, ((be.below h6 be.lt).cell 3).trans rfl⟩
        go_cut [20] (fun p wz => ∃ A' c', p = .slice A' (l.length + 1) c' ∧ l.length + 1 ≤ c' ∧ SA wz Free A' (esV (l ++ [⟨et, un, uo, uw⟩])) ∧ Below wq.heap.size wq wz)
        case first =>
          refine wp_region_noPanic ?_
          refine wp_region_held_drew (S := (fun w6 : World => w6.cell? ⟨w.heap.size + 1, 0, none⟩ = some (.int .i64 et) ∧ w6.cell? ⟨w.heap.size + 1, 1, none⟩ = some (strV un) ∧ w6.cell? ⟨w.heap.size + 1, 2, none⟩ = some (.int .i64 uo) ∧ w6.cell? ⟨w.heap.size + 1, 3, none⟩ = some (.int .i64 uw))) (by kernel_rfl) ?_ (fun hX0 => ?_)
          · exact HK.out _ (below_drew' (Below.refl _ _))
          have hq : Below wq.heap.size wq wq.drew := below_drew' (Below.refl _ _)
          generalize wq.drew = WT at *
          refine wpAnyH_take (i := 0) (v := .slice A2 l.length k2) rfl (by kernel_rfl) (by kernel_rfl) (by kernel_rfl) (fun _ _ _ h => h) (Or.inl ⟨by kernel_rfl, ?qm0_5⟩) (by assumption) ?rqm0_5
          case qm0_5 => (intro w hSw; (try dsimp only at hSw); go_simp)
          try simp only [Act.put, List.setIfInBounds_toArray]
          refine wpAnyH_take (i := 2) (v := .agg #[.int .i64 et, strV un, .int .i64 uo, .int .i64 uw]) rfl (by kernel_rfl) (by kernel_rfl) (by kernel_rfl) (fun _ _ _ h => h) (Or.inl ⟨by kernel_rfl, ?qm2_5⟩) (by assumption) ?rqm2_5
          case qm2_5 => (intro w hSw; obtain ⟨s0, s1, s2, s3⟩ := hSw; go_simp)
          try simp only [Act.put, List.setIfInBounds_toArray]
          refine wpAnyH_ready (rs := [1, 3]) (by kernel_rfl) (by simp) ?_
          refine AllReadyH.cons rfl (fun K hK => ?sm1_5) (AllReadyH.cons rfl (fun K hK => ?sm3_5) AllReadyH.nil)
          case sm1_5 =>
            refine step_appM _ rfl _ (.tmp 97) 54 rfl wq.heap.size 69 i0 _ 4 40 Tryd.underlying54 hi0 hz0 hz1 hz2 hzs (by decide) none 0 0 [] rfl (World.ownsRow_nil _ _ _ _) _ A2 l.length k2 (esV l) rfl hvl (V2.out.keep (free_below hq)).sv (esV_one' _) h63 hby hq.size ?_
            intro A5 c5 w5 hown5 hg5 hc5
            simp only [Nat.zero_add, List.nil_append] at hown5 hc5 ⊢
            refine hK.out _ _ ?_ (fun hX1 => ?_)
            · exact HK.out _ (hq.grown hg5 hq.size (fun b e => by cases e))
            clear hK K
            try simp only [Act.put, List.setIfInBounds_toArray]
            replace hq := hq.grown hg5 hq.size (fun b e => by cases e)
            refine wpAnyH_ready (rs := [3]) (by kernel_rfl) (by simp) ?_
            refine AllReadyH.cons rfl (fun K hK => ?sm13_5) AllReadyH.nil
            go_simp
            refine hK.out _ _ ?_ (fun hX2 => ?_)
            · exact HK.out _ (hq.alloc hq.size (.cells #[.int .i64 et, strV un, .int .i64 uo, .int .i64 uw] 69))
            clear hK K
            try simp only [Act.put, List.setIfInBounds_toArray]
            have hlt5 := (hown5.alloc (.cells #[.int .i64 et, strV un, .int .i64 uo, .int .i64 uw] 69)).lt
            replace hq := hq.alloc hq.size (.cells #[.int .i64 et, strV un, .int .i64 uo, .int .i64 uw] 69)
            refine wpAnyH_ready (rs := [4]) (by kernel_rfl) (by simp) ?_
            refine AllReadyH.cons rfl (fun K hK => ?sm14_5) AllReadyH.nil
            refine step_appNo _ rfl (.tmp 98) (.tmp 100) 54 rfl wq.heap.size 69 i0 _ 4 40 Tryd.underlying54 hi0 hz0 hz1 hz2 hzs (by decide) A5 l.length c5 (esV l) rfl (hown5.alloc (.cells #[.int .i64 et, strV un, .int .i64 uo, .int .i64 uw] 69)) w5.heap.size 1 [.int .i64 et, strV un, .int .i64 uo, .int .i64 uw] rfl rfl (fun j v hj => cells_new w5 #[.int .i64 et, strV un, .int .i64 uo, .int .i64 uw] 69 j v hj) (enV_one et un uo uw) h63' hby' hq.size ?_
            intro ge ce wz hown6 hg6 hob6
            refine hK.out _ _ ?_ (fun hX6 => ?_)
            · exact HK.out _ (hq.grown hg6 hq.size (fun b e => (hlt5 b e).1))
            clear hK K
            try simp only [Act.put, List.setIfInBounds_toArray]
            refine wpAnyH_ready (rs := [5]) (by kernel_rfl) (by simp) ?_
            refine AllReadyH.cons rfl (fun K hK => ?sm15_5) AllReadyH.nil
            go_simp
            refine hK.out _ _ ?_ (fun hX7 => ?_)
            · exact HK.out _ (hq.grown hg6 hq.size (fun b e => (hlt5 b e).1))
            clear hK K
            try simp only [Act.put, List.setIfInBounds_toArray]
            refine wpAnyH_done (by kernel_rfl) ?_ _
            refine NoPanic.normal ?_
            try go_wp2_with fail
            go_meet
            refine ⟨_, ce, rfl, ?_, SA.of_own' (X := Free) (hsnoc ▸ hown6) (fun _ _ h => h), hq.grown hg6 hq.size (fun b e => (hlt5 b e).1)⟩
            obtain ⟨A'', c'', e1, hcc, _⟩ := own_form hown6; injection e1 with _ _ e3; subst e3; exact hcc
          case sm3_5 =>
            go_simp
            refine hK.out _ _ ?_ (fun hX1 => ?_)
            · exact HK.out _ (hq.alloc hq.size (.cells #[.int .i64 et, strV un, .int .i64 uo, .int .i64 uw] 69))
            clear hK K
            try simp only [Act.put, List.setIfInBounds_toArray]
            replace hq := hq.alloc hq.size (.cells #[.int .i64 et, strV un, .int .i64 uo, .int .i64 uw] 69)
            have bl := Blk.new WT 69 #[.int .i64 et, strV un, .int .i64 uo, .int .i64 uw]
            generalize WT.alloc (.cells #[.int .i64 et, strV un, .int .i64 uo, .int .i64 uw] 69) = WU at *
            refine wpAnyH_ready (rs := [1]) (by kernel_rfl) (by simp) ?_
            refine AllReadyH.cons rfl (fun K hK => ?sm31_5) AllReadyH.nil
            refine step_appM _ rfl _ (.tmp 97) 54 rfl wq.heap.size 69 i0 _ 4 40 Tryd.underlying54 hi0 hz0 hz1 hz2 hzs (by decide) none 0 0 [] rfl (World.ownsRow_nil _ _ _ _) _ A2 l.length k2 (esV l) rfl hvl (V2.out.keep (free_below hq)).sv (esV_one' _) h63 hby hq.size ?_
            intro A5 c5 w5 hown5 hg5 hc5
            simp only [Nat.zero_add, List.nil_append] at hown5 hc5 ⊢
            refine hK.out _ _ ?_ (fun hX2 => ?_)
            · exact HK.out _ (hq.grown hg5 hq.size (fun b e => by cases e))
            clear hK K
            try simp only [Act.put, List.setIfInBounds_toArray]
            replace hq := hq.grown hg5 hq.size (fun b e => by cases e)
            replace bl := bl.grown hg5 (fun e => by cases e)
            have hlt5 := hown5.lt
            refine wpAnyH_ready (rs := [4]) (by kernel_rfl) (by simp) ?_
            refine AllReadyH.cons rfl (fun K hK => ?sm34_5) AllReadyH.nil
            refine step_appNo _ rfl (.tmp 98) (.tmp 100) 54 rfl wq.heap.size 69 i0 _ 4 40 Tryd.underlying54 hi0 hz0 hz1 hz2 hzs (by decide) A5 l.length c5 (esV l) rfl hown5 WT.heap.size 1 [.int .i64 et, strV un, .int .i64 uo, .int .i64 uw] rfl rfl (fun j v hj => (bl.cell j).trans (by rw [← Array.getElem?_toList]; exact hj)) (enV_one et un uo uw) h63' hby' hq.size ?_
            intro ge ce wz hown6 hg6 hob6
            refine hK.out _ _ ?_ (fun hX6 => ?_)
            · exact HK.out _ (hq.grown hg6 hq.size (fun b e => (hlt5 b e).1))
            clear hK K
            try simp only [Act.put, List.setIfInBounds_toArray]
            refine wpAnyH_ready (rs := [5]) (by kernel_rfl) (by simp) ?_
            refine AllReadyH.cons rfl (fun K hK => ?sm35_5) AllReadyH.nil
            go_simp
            refine hK.out _ _ ?_ (fun hX7 => ?_)
            · exact HK.out _ (hq.grown hg6 hq.size (fun b e => (hlt5 b e).1))
            clear hK K
            try simp only [Act.put, List.setIfInBounds_toArray]
            refine wpAnyH_done (by kernel_rfl) ?_ _
            refine NoPanic.normal ?_
            try go_wp2_with fail
            go_meet
            refine ⟨_, ce, rfl, ?_, SA.of_own' (X := Free) (hsnoc ▸ hown6) (fun _ _ h => h), hq.grown hg6 hq.size (fun b e => (hlt5 b e).1)⟩
            obtain ⟨A'', c'', e1, hcc, _⟩ := own_form hown6; injection e1 with _ _ e3; subst e3; exact hcc
        case rest =>
          obtain ⟨Ae, ke, rfl, hke, hse, hbc⟩ := hcut
          obtain ⟨wa, rfl⟩ : ∃ wa : World, wa = wc := ⟨_, rfl⟩
          clear be0 be1 be2 be3 be4 HK
          have Ve := Lib.hid hse
          clear hse
          have HBm68 := Lib.hid (HBm47.out.trans (hbc.mono HBm47.out.size))
          replace bx := bx.below hbc bx.lt
          replace be := be.below hbc be.lt
          replace f := f.below hbc f.lt
          replace g := g.below hbc g.lt
          replace h := h.below hbc h.lt
          replace by_ := by_.below hbc by_.lt
          replace bw := bw.below hbc bw.lt
          replace bv := bv.below hbc bv.lt
          replace hM := Lib.hid (hM.out.below hbc)
          replace V0 := Lib.hid (V0.out.keep (free_below hbc))
          replace V2 := Lib.hid (V2.out.keep (free_below hbc))
          replace Vx := Lib.hid (Vx.out.keep (free_below hbc))
          replace Vm := Lib.hid (Vm.out.keep (free_below hbc))
          replace Vu := Lib.hid (Vu.out.keep (free_below hbc))
          have bx_l : w.heap.size < wa.heap.size := bx.lt
          have bx_l1 : w.heap.size < wa.heap.size + 1 := Nat.lt_succ_of_lt bx_l
          have bx_l2 : w.heap.size < wa.heap.size + 1 + 1 := Nat.lt_succ_of_lt bx_l1
          have bx_0 : wa.cell? ⟨w.heap.size, 0, none⟩ = some (.slice A s.length k) := (bx.cell 0).trans rfl
          have be_l : w.heap.size + 1 < wa.heap.size := be.lt
          have be_l1 : w.heap.size + 1 < wa.heap.size + 1 := Nat.lt_succ_of_lt be_l
          have be_l2 : w.heap.size + 1 < wa.heap.size + 1 + 1 := Nat.lt_succ_of_lt be_l1
          have be_0 : wa.cell? ⟨w.heap.size + 1, 0, none⟩ = some (.int .i64 et) := (be.cell 0).trans rfl
          have be_1 : wa.cell? ⟨w.heap.size + 1, 1, none⟩ = some (strV un) := (be.cell 1).trans rfl
          have be_2 : wa.cell? ⟨w.heap.size + 1, 2, none⟩ = some (.int .i64 uo) := (be.cell 2).trans rfl
          have be_3 : wa.cell? ⟨w.heap.size + 1, 3, none⟩ = some (.int .i64 uw) := (be.cell 3).trans rfl
          have f_l : w2.heap.size < wa.heap.size := f.lt
          have f_l1 : w2.heap.size < wa.heap.size + 1 := Nat.lt_succ_of_lt f_l
          have f_l2 : w2.heap.size < wa.heap.size + 1 + 1 := Nat.lt_succ_of_lt f_l1
          have f_0 : wa.cell? ⟨w2.heap.size, 0, none⟩ = some (.int .i64 c1) := (f.cell 0).trans rfl
          have f_1 : wa.cell? ⟨w2.heap.size, 1, none⟩ = some (.int .i64 i1) := (f.cell 1).trans rfl
          have g_l : w3.heap.size < wa.heap.size := g.lt
          have g_l1 : w3.heap.size < wa.heap.size + 1 := Nat.lt_succ_of_lt g_l
          have g_l2 : w3.heap.size < wa.heap.size + 1 + 1 := Nat.lt_succ_of_lt g_l1
          have g_0 : wa.cell? ⟨w3.heap.size, 0, none⟩ = some (.int .i64 0) := (g.cell 0).trans rfl
          have g_1 : wa.cell? ⟨w3.heap.size, 1, none⟩ = some (.int .i64 0) := (g.cell 1).trans rfl
          have h_l : w4.heap.size < wa.heap.size := h.lt
          have h_l1 : w4.heap.size < wa.heap.size + 1 := Nat.lt_succ_of_lt h_l
          have h_l2 : w4.heap.size < wa.heap.size + 1 + 1 := Nat.lt_succ_of_lt h_l1
          have h_0 : wa.cell? ⟨w4.heap.size, 0, none⟩ = some (.int .i64 c3) := (h.cell 0).trans rfl
          have h_1 : wa.cell? ⟨w4.heap.size, 1, none⟩ = some (.int .i64 i3) := (h.cell 1).trans rfl
          have by__l : w5.heap.size < wa.heap.size := by_.lt
          have by__l1 : w5.heap.size < wa.heap.size + 1 := Nat.lt_succ_of_lt by__l
          have by__l2 : w5.heap.size < wa.heap.size + 1 + 1 := Nat.lt_succ_of_lt by__l1
          have by__0 : wa.cell? ⟨w5.heap.size, 0, none⟩ = some (.slice Ay ys.length cy) := (by_.cell 0).trans rfl
          have bw_l : w5.heap.size + 1 < wa.heap.size := bw.lt
          have bw_l1 : w5.heap.size + 1 < wa.heap.size + 1 := Nat.lt_succ_of_lt bw_l
          have bw_l2 : w5.heap.size + 1 < wa.heap.size + 1 + 1 := Nat.lt_succ_of_lt bw_l1
          have bw_0 : wa.cell? ⟨w5.heap.size + 1, 0, none⟩ = some (.int .i64 0) := (bw.cell 0).trans rfl
          have bw_f0 : wa.frozen? ⟨w5.heap.size + 1, 0, none⟩ = false := bw.frozen 0
          have bw_1 : wa.cell? ⟨w5.heap.size + 1, 1, none⟩ = some (.int .i64 0) := (bw.cell 1).trans rfl
          have bw_f1 : wa.frozen? ⟨w5.heap.size + 1, 1, none⟩ = false := bw.frozen 1
          have bv_l : w5.heap.size + 2 < wa.heap.size := bv.lt
          have bv_l1 : w5.heap.size + 2 < wa.heap.size + 1 := Nat.lt_succ_of_lt bv_l
          have bv_l2 : w5.heap.size + 2 < wa.heap.size + 1 + 1 := Nat.lt_succ_of_lt bv_l1
          have bv_0 : wa.cell? ⟨w5.heap.size + 2, 0, none⟩ = some (.int .i64 0) := (bv.cell 0).trans rfl
          have bv_f0 : wa.frozen? ⟨w5.heap.size + 2, 0, none⟩ = false := bv.frozen 0
          have bv_1 : wa.cell? ⟨w5.heap.size + 2, 1, none⟩ = some (.int .i64 0) := (bv.cell 1).trans rfl
          have bv_f1 : wa.frozen? ⟨w5.heap.size + 2, 1, none⟩ = false := bv.frozen 1
          clear hbc
          obtain ⟨zs, c5, i5⟩ := r5
          go_wp2_with fail
          go_at_call 35
          with_reducible refine (H35b.out _ _ _ V0.out Ve.out).mono ?_
          rintro e w69 ⟨Az, cz, rfl, hcz, hsz, hb69'⟩
          have HBm69 := Lib.hid (HBm68.out.trans (hb69'.mono HBm68.out.size))
          replace bx := bx.below hb69' bx.lt
          replace be := be.below hb69' be.lt
          replace f := f.below hb69' f.lt
          replace g := g.below hb69' g.lt
          replace h := h.below hb69' h.lt
          replace by_ := by_.below hb69' by_.lt
          replace bw := bw.below hb69' bw.lt
          replace bv := bv.below hb69' bv.lt
          replace hM := Lib.hid (hM.out.below hb69')
          replace V0 := Lib.hid (V0.out.keep (free_below hb69'))
          replace V2 := Lib.hid (V2.out.keep (free_below hb69'))
          replace Vx := Lib.hid (Vx.out.keep (free_below hb69'))
          replace Vm := Lib.hid (Vm.out.keep (free_below hb69'))
          replace Vu := Lib.hid (Vu.out.keep (free_below hb69'))
          replace Ve := Lib.hid (Ve.out.keep (free_below hb69'))
          clear bx_l bx_l1 bx_l2 bx_0 be_l be_l1 be_l2 be_0 be_1 be_2 be_3 f_l f_l1 f_l2 f_0 f_1 g_l g_l1 g_l2 g_0 g_1 h_l h_l1 h_l2 h_0 h_1 by__l by__l1 by__l2 by__0 bw_l bw_l1 bw_l2 bw_0 bw_f0 bw_1 bw_f1 bv_l bv_l1 bv_l2 bv_0 bv_f0 bv_1 bv_f1
          have bx_l : w.heap.size < w69.heap.size := bx.lt
          have bx_l1 : w.heap.size < w69.heap.size + 1 := Nat.lt_succ_of_lt bx_l
          have bx_l2 : w.heap.size < w69.heap.size + 1 + 1 := Nat.lt_succ_of_lt bx_l1
          have bx_0 : w69.cell? ⟨w.heap.size, 0, none⟩ = some (.slice A s.length k) := (bx.cell 0).trans rfl
          have be_l : w.heap.size + 1 < w69.heap.size := be.lt
          have be_l1 : w.heap.size + 1 < w69.heap.size + 1 := Nat.lt_succ_of_lt be_l
          have be_l2 : w.heap.size + 1 < w69.heap.size + 1 + 1 := Nat.lt_succ_of_lt be_l1
          have be_0 : w69.cell? ⟨w.heap.size + 1, 0, none⟩ = some (.int .i64 et) := (be.cell 0).trans rfl
          have be_1 : w69.cell? ⟨w.heap.size + 1, 1, none⟩ = some (strV un) := (be.cell 1).trans rfl
          have be_2 : w69.cell? ⟨w.heap.size + 1, 2, none⟩ = some (.int .i64 uo) := (be.cell 2).trans rfl
          have be_3 : w69.cell? ⟨w.heap.size + 1, 3, none⟩ = some (.int .i64 uw) := (be.cell 3).trans rfl
          have f_l : w2.heap.size < w69.heap.size := f.lt
          have f_l1 : w2.heap.size < w69.heap.size + 1 := Nat.lt_succ_of_lt f_l
          have f_l2 : w2.heap.size < w69.heap.size + 1 + 1 := Nat.lt_succ_of_lt f_l1
          have f_0 : w69.cell? ⟨w2.heap.size, 0, none⟩ = some (.int .i64 c1) := (f.cell 0).trans rfl
          have f_1 : w69.cell? ⟨w2.heap.size, 1, none⟩ = some (.int .i64 i1) := (f.cell 1).trans rfl
          have g_l : w3.heap.size < w69.heap.size := g.lt
          have g_l1 : w3.heap.size < w69.heap.size + 1 := Nat.lt_succ_of_lt g_l
          have g_l2 : w3.heap.size < w69.heap.size + 1 + 1 := Nat.lt_succ_of_lt g_l1
          have g_0 : w69.cell? ⟨w3.heap.size, 0, none⟩ = some (.int .i64 0) := (g.cell 0).trans rfl
          have g_1 : w69.cell? ⟨w3.heap.size, 1, none⟩ = some (.int .i64 0) := (g.cell 1).trans rfl
          have h_l : w4.heap.size < w69.heap.size := h.lt
          have h_l1 : w4.heap.size < w69.heap.size + 1 := Nat.lt_succ_of_lt h_l
          have h_l2 : w4.heap.size < w69.heap.size + 1 + 1 := Nat.lt_succ_of_lt h_l1
          have h_0 : w69.cell? ⟨w4.heap.size, 0, none⟩ = some (.int .i64 c3) := (h.cell 0).trans rfl
          have h_1 : w69.cell? ⟨w4.heap.size, 1, none⟩ = some (.int .i64 i3) := (h.cell 1).trans rfl
          have by__l : w5.heap.size < w69.heap.size := by_.lt
          have by__l1 : w5.heap.size < w69.heap.size + 1 := Nat.lt_succ_of_lt by__l
          have by__l2 : w5.heap.size < w69.heap.size + 1 + 1 := Nat.lt_succ_of_lt by__l1
          have by__0 : w69.cell? ⟨w5.heap.size, 0, none⟩ = some (.slice Ay ys.length cy) := (by_.cell 0).trans rfl
          have bw_l : w5.heap.size + 1 < w69.heap.size := bw.lt
          have bw_l1 : w5.heap.size + 1 < w69.heap.size + 1 := Nat.lt_succ_of_lt bw_l
          have bw_l2 : w5.heap.size + 1 < w69.heap.size + 1 + 1 := Nat.lt_succ_of_lt bw_l1
          have bw_0 : w69.cell? ⟨w5.heap.size + 1, 0, none⟩ = some (.int .i64 0) := (bw.cell 0).trans rfl
          have bw_f0 : w69.frozen? ⟨w5.heap.size + 1, 0, none⟩ = false := bw.frozen 0
          have bw_1 : w69.cell? ⟨w5.heap.size + 1, 1, none⟩ = some (.int .i64 0) := (bw.cell 1).trans rfl
          have bw_f1 : w69.frozen? ⟨w5.heap.size + 1, 1, none⟩ = false := bw.frozen 1
          have bv_l : w5.heap.size + 2 < w69.heap.size := bv.lt
          have bv_l1 : w5.heap.size + 2 < w69.heap.size + 1 := Nat.lt_succ_of_lt bv_l
          have bv_l2 : w5.heap.size + 2 < w69.heap.size + 1 + 1 := Nat.lt_succ_of_lt bv_l1
          have bv_0 : w69.cell? ⟨w5.heap.size + 2, 0, none⟩ = some (.int .i64 0) := (bv.cell 0).trans rfl
          have bv_f0 : w69.frozen? ⟨w5.heap.size + 2, 0, none⟩ = false := bv.frozen 0
          have bv_1 : w69.cell? ⟨w5.heap.size + 2, 1, none⟩ = some (.int .i64 0) := (bv.cell 1).trans rfl
          have bv_f1 : w69.frozen? ⟨w5.heap.size + 2, 1, none⟩ = false := bv.frozen 1
          clear hb69'
          simp only at *
          clear hsz hcz H35b
          have e5 := HRB.out
          clear HRB
          rcases HAC2.out with ⟨hc5, e1⟩ | ⟨hc5, e1⟩
          · rw [← e5] at hc5 e1
            simp only at hc5
            injection e1 with e1 f1
            injection f1 with f1 g1
            subst e1
            subst f1
            subst g1
            clear HAC2 e5
            have hx1 : (c1 == 0) = false := by simpa using hc5
            have hx2 : (c1 != 0) = true := by simpa using hc5
            have hcc : (c1 != c1) = false := by simp
            have hii : (i1 != i1) = false := by simp
            have hcc2 : (c1 == c1) = true := by simp
            have hii2 : (i1 == i1) = true := by simp
            clear hc5
            have SB := Lib.hid ((HBm69.out.setCell (p := ⟨w5.heap.size + 1, 0, none⟩) (by simp only; omega) (.int .i64 c1)).setCell (p := ⟨w5.heap.size + 1, 1, none⟩) (by simp only; omega) (.int .i64 i1))
            have neabx : ¬ (w.heap.size = w5.heap.size + 1) := by omega
            have nebbx : ¬ (w5.heap.size + 1 = w.heap.size) := by omega
            have neabe : ¬ (w.heap.size + 1 = w5.heap.size + 1) := by omega
            have nebbe : ¬ (w5.heap.size + 1 = w.heap.size + 1) := by omega
            have necbe : ¬ (w.heap.size = w5.heap.size) := by omega
            have nedbe : ¬ (w5.heap.size = w.heap.size) := by omega
            have neaf : ¬ (w2.heap.size = w5.heap.size + 1) := by omega
            have nebf : ¬ (w5.heap.size + 1 = w2.heap.size) := by omega
            have neag : ¬ (w3.heap.size = w5.heap.size + 1) := by omega
            have nebg : ¬ (w5.heap.size + 1 = w3.heap.size) := by omega
            have neah : ¬ (w4.heap.size = w5.heap.size + 1) := by omega
            have nebh : ¬ (w5.heap.size + 1 = w4.heap.size) := by omega
            have neaby_ : ¬ (w5.heap.size = w5.heap.size + 1) := by omega
            have nebby_ : ¬ (w5.heap.size + 1 = w5.heap.size) := by omega
            have neabv : ¬ (w5.heap.size + 2 = w5.heap.size + 1) := by omega
            have nebbv : ¬ (w5.heap.size + 1 = w5.heap.size + 2) := by omega
            go_wp2_with fail
            have bw0 := bw
            replace bx := (bx.far (p := ⟨w5.heap.size + 1, 0, none⟩) (by simp only; omega) (.int .i64 c1)).far (p := ⟨w5.heap.size + 1, 1, none⟩) (by simp only; omega) (.int .i64 i1)
            replace be := (be.far (p := ⟨w5.heap.size + 1, 0, none⟩) (by simp only; omega) (.int .i64 c1)).far (p := ⟨w5.heap.size + 1, 1, none⟩) (by simp only; omega) (.int .i64 i1)
            replace f := (f.far (p := ⟨w5.heap.size + 1, 0, none⟩) (by simp only; omega) (.int .i64 c1)).far (p := ⟨w5.heap.size + 1, 1, none⟩) (by simp only; omega) (.int .i64 i1)
            replace g := (g.far (p := ⟨w5.heap.size + 1, 0, none⟩) (by simp only; omega) (.int .i64 c1)).far (p := ⟨w5.heap.size + 1, 1, none⟩) (by simp only; omega) (.int .i64 i1)
            replace h := (h.far (p := ⟨w5.heap.size + 1, 0, none⟩) (by simp only; omega) (.int .i64 c1)).far (p := ⟨w5.heap.size + 1, 1, none⟩) (by simp only; omega) (.int .i64 i1)
            replace by_ := (by_.far (p := ⟨w5.heap.size + 1, 0, none⟩) (by simp only; omega) (.int .i64 c1)).far (p := ⟨w5.heap.size + 1, 1, none⟩) (by simp only; omega) (.int .i64 i1)
            replace bw := blk_put2 bw (.int .i64 c1) (.int .i64 i1)
            replace bv := (bv.far (p := ⟨w5.heap.size + 1, 0, none⟩) (by simp only; omega) (.int .i64 c1)).far (p := ⟨w5.heap.size + 1, 1, none⟩) (by simp only; omega) (.int .i64 i1)
            replace V2 := Lib.hid (sa_set2 V2.out bw0 (es_head _) (.int .i64 c1) (.int .i64 i1))
            replace Vx := Lib.hid (sa_set2 Vx.out bw0 (es_head _) (.int .i64 c1) (.int .i64 i1))
            replace Ve := Lib.hid (sa_set2 Ve.out bw0 (es_head _) (.int .i64 c1) (.int .i64 i1))
            replace Vu := Lib.hid (sa_set2 Vu.out bw0 (us_head _) (.int .i64 c1) (.int .i64 i1))
            clear V0 Vm hM bw0
            clear bx_l bx_l1 bx_l2 bx_0 be_l be_l1 be_l2 be_0 be_1 be_2 be_3 f_l f_l1 f_l2 f_0 f_1 g_l g_l1 g_l2 g_0 g_1 h_l h_l1 h_l2 h_0 h_1 by__l by__l1 by__l2 by__0 bw_l bw_l1 bw_l2 bw_0 bw_f0 bw_1 bw_f1 bv_l bv_l1 bv_l2 bv_0 bv_f0 bv_1 bv_f1
            generalize ((w69.setCell ⟨w5.heap.size + 1, 0, none⟩ (.int .i64 c1)).setCell ⟨w5.heap.size + 1, 1, none⟩ (.int .i64 i1)) = wy at *
            have bx_l : w.heap.size < wy.heap.size := bx.lt
            have bx_l1 : w.heap.size < wy.heap.size + 1 := Nat.lt_succ_of_lt bx_l
            have bx_l2 : w.heap.size < wy.heap.size + 1 + 1 := Nat.lt_succ_of_lt bx_l1
            have bx_0 : wy.cell? ⟨w.heap.size, 0, none⟩ = some (.slice A s.length k) := (bx.cell 0).trans rfl
            have be_l : w.heap.size + 1 < wy.heap.size := be.lt
            have be_l1 : w.heap.size + 1 < wy.heap.size + 1 := Nat.lt_succ_of_lt be_l
            have be_l2 : w.heap.size + 1 < wy.heap.size + 1 + 1 := Nat.lt_succ_of_lt be_l1
            have be_0 : wy.cell? ⟨w.heap.size + 1, 0, none⟩ = some (.int .i64 et) := (be.cell 0).trans rfl
            have be_1 : wy.cell? ⟨w.heap.size + 1, 1, none⟩ = some (strV un) := (be.cell 1).trans rfl
            have be_2 : wy.cell? ⟨w.heap.size + 1, 2, none⟩ = some (.int .i64 uo) := (be.cell 2).trans rfl
            have be_3 : wy.cell? ⟨w.heap.size + 1, 3, none⟩ = some (.int .i64 uw) := (be.cell 3).trans rfl
            have f_l : w2.heap.size < wy.heap.size := f.lt
            have f_l1 : w2.heap.size < wy.heap.size + 1 := Nat.lt_succ_of_lt f_l
            have f_l2 : w2.heap.size < wy.heap.size + 1 + 1 := Nat.lt_succ_of_lt f_l1
            have f_0 : wy.cell? ⟨w2.heap.size, 0, none⟩ = some (.int .i64 c1) := (f.cell 0).trans rfl
            have f_1 : wy.cell? ⟨w2.heap.size, 1, none⟩ = some (.int .i64 i1) := (f.cell 1).trans rfl
            have g_l : w3.heap.size < wy.heap.size := g.lt
            have g_l1 : w3.heap.size < wy.heap.size + 1 := Nat.lt_succ_of_lt g_l
            have g_l2 : w3.heap.size < wy.heap.size + 1 + 1 := Nat.lt_succ_of_lt g_l1
            have g_0 : wy.cell? ⟨w3.heap.size, 0, none⟩ = some (.int .i64 0) := (g.cell 0).trans rfl
            have g_1 : wy.cell? ⟨w3.heap.size, 1, none⟩ = some (.int .i64 0) := (g.cell 1).trans rfl
            have h_l : w4.heap.size < wy.heap.size := h.lt
            have h_l1 : w4.heap.size < wy.heap.size + 1 := Nat.lt_succ_of_lt h_l
            have h_l2 : w4.heap.size < wy.heap.size + 1 + 1 := Nat.lt_succ_of_lt h_l1
            have h_0 : wy.cell? ⟨w4.heap.size, 0, none⟩ = some (.int .i64 c3) := (h.cell 0).trans rfl
            have h_1 : wy.cell? ⟨w4.heap.size, 1, none⟩ = some (.int .i64 i3) := (h.cell 1).trans rfl
            have by__l : w5.heap.size < wy.heap.size := by_.lt
            have by__l1 : w5.heap.size < wy.heap.size + 1 := Nat.lt_succ_of_lt by__l
            have by__l2 : w5.heap.size < wy.heap.size + 1 + 1 := Nat.lt_succ_of_lt by__l1
            have by__0 : wy.cell? ⟨w5.heap.size, 0, none⟩ = some (.slice Ay ys.length cy) := (by_.cell 0).trans rfl
            have bw_l : w5.heap.size + 1 < wy.heap.size := bw.lt
            have bw_l1 : w5.heap.size + 1 < wy.heap.size + 1 := Nat.lt_succ_of_lt bw_l
            have bw_l2 : w5.heap.size + 1 < wy.heap.size + 1 + 1 := Nat.lt_succ_of_lt bw_l1
            have bw_0 : wy.cell? ⟨w5.heap.size + 1, 0, none⟩ = some (.int .i64 c1) := (bw.cell 0).trans rfl
            have bw_f0 : wy.frozen? ⟨w5.heap.size + 1, 0, none⟩ = false := bw.frozen 0
            have bw_1 : wy.cell? ⟨w5.heap.size + 1, 1, none⟩ = some (.int .i64 i1) := (bw.cell 1).trans rfl
            have bw_f1 : wy.frozen? ⟨w5.heap.size + 1, 1, none⟩ = false := bw.frozen 1
            have bv_l : w5.heap.size + 2 < wy.heap.size := bv.lt
            have bv_l1 : w5.heap.size + 2 < wy.heap.size + 1 := Nat.lt_succ_of_lt bv_l
            have bv_l2 : w5.heap.size + 2 < wy.heap.size + 1 + 1 := Nat.lt_succ_of_lt bv_l1
            have bv_0 : wy.cell? ⟨w5.heap.size + 2, 0, none⟩ = some (.int .i64 0) := (bv.cell 0).trans rfl
            have bv_f0 : wy.frozen? ⟨w5.heap.size + 2, 0, none⟩ = false := bv.frozen 0
            have bv_1 : wy.cell? ⟨w5.heap.size + 2, 1, none⟩ = some (.int .i64 0) := (bv.cell 1).trans rfl
            have bv_f1 : wy.frozen? ⟨w5.heap.size + 2, 1, none⟩ = false := bv.frozen 1
            have LN := Lib.hid (logs_any wy Ax none cx 0 [] [] Vx.out SA.nil (by simp) (by simp))
            simp only [List.length_nil] at LN
            go_wp2_with fail
            go_at_call 37
            with_reducible refine (LN.out).mono ?_
            rintro e w70 ⟨rfl, hb70'⟩
            have HBm70 := Lib.hid (SB.out.trans (hb70'.mono SB.out.size))
            replace bx := bx.below hb70' bx.lt
            replace be := be.below hb70' be.lt
            replace f := f.below hb70' f.lt
            replace g := g.below hb70' g.lt
            replace h := h.below hb70' h.lt
            replace by_ := by_.below hb70' by_.lt
            replace bw := bw.below hb70' bw.lt
            replace bv := bv.below hb70' bv.lt
            replace V2 := Lib.hid (V2.out.keep (free_below hb70'))
            replace Vx := Lib.hid (Vx.out.keep (free_below hb70'))
            replace Ve := Lib.hid (Ve.out.keep (free_below hb70'))
            replace Vu := Lib.hid (Vu.out.keep (free_below hb70'))
            clear bx_l bx_l1 bx_l2 bx_0 be_l be_l1 be_l2 be_0 be_1 be_2 be_3 f_l f_l1 f_l2 f_0 f_1 g_l g_l1 g_l2 g_0 g_1 h_l h_l1 h_l2 h_0 h_1 by__l by__l1 by__l2 by__0 bw_l bw_l1 bw_l2 bw_0 bw_f0 bw_1 bw_f1 bv_l bv_l1 bv_l2 bv_0 bv_f0 bv_1 bv_f1
            have bx_l : w.heap.size < w70.heap.size := bx.lt
            have bx_l1 : w.heap.size < w70.heap.size + 1 := Nat.lt_succ_of_lt bx_l
            have bx_l2 : w.heap.size < w70.heap.size + 1 + 1 := Nat.lt_succ_of_lt bx_l1
            have bx_0 : w70.cell? ⟨w.heap.size, 0, none⟩ = some (.slice A s.length k) := (bx.cell 0).trans rfl
            have be_l : w.heap.size + 1 < w70.heap.size := be.lt
            have be_l1 : w.heap.size + 1 < w70.heap.size + 1 := Nat.lt_succ_of_lt be_l
            have be_l2 : w.heap.size + 1 < w70.heap.size + 1 + 1 := Nat.lt_succ_of_lt be_l1
            have be_0 : w70.cell? ⟨w.heap.size + 1, 0, none⟩ = some (.int .i64 et) := (be.cell 0).trans rfl
            have be_1 : w70.cell? ⟨w.heap.size + 1, 1, none⟩ = some (strV un) := (be.cell 1).trans rfl
            have be_2 : w70.cell? ⟨w.heap.size + 1, 2, none⟩ = some (.int .i64 uo) := (be.cell 2).trans rfl
            have be_3 : w70.cell? ⟨w.heap.size + 1, 3, none⟩ = some (.int .i64 uw) := (be.cell 3).trans rfl
            have f_l : w2.heap.size < w70.heap.size := f.lt
            have f_l1 : w2.heap.size < w70.heap.size + 1 := Nat.lt_succ_of_lt f_l
            have f_l2 : w2.heap.size < w70.heap.size + 1 + 1 := Nat.lt_succ_of_lt f_l1
            have f_0 : w70.cell? ⟨w2.heap.size, 0, none⟩ = some (.int .i64 c1) := (f.cell 0).trans rfl
            have f_1 : w70.cell? ⟨w2.heap.size, 1, none⟩ = some (.int .i64 i1) := (f.cell 1).trans rfl
            have g_l : w3.heap.size < w70.heap.size := g.lt
            have g_l1 : w3.heap.size < w70.heap.size + 1 := Nat.lt_succ_of_lt g_l
            have g_l2 : w3.heap.size < w70.heap.size + 1 + 1 := Nat.lt_succ_of_lt g_l1
            have g_0 : w70.cell? ⟨w3.heap.size, 0, none⟩ = some (.int .i64 0) := (g.cell 0).trans rfl
            have g_1 : w70.cell? ⟨w3.heap.size, 1, none⟩ = some (.int .i64 0) := (g.cell 1).trans rfl
            have h_l : w4.heap.size < w70.heap.size := h.lt
            have h_l1 : w4.heap.size < w70.heap.size + 1 := Nat.lt_succ_of_lt h_l
            have h_l2 : w4.heap.size < w70.heap.size + 1 + 1 := Nat.lt_succ_of_lt h_l1
            have h_0 : w70.cell? ⟨w4.heap.size, 0, none⟩ = some (.int .i64 c3) := (h.cell 0).trans rfl
            have h_1 : w70.cell? ⟨w4.heap.size, 1, none⟩ = some (.int .i64 i3) := (h.cell 1).trans rfl
            have by__l : w5.heap.size < w70.heap.size := by_.lt
            have by__l1 : w5.heap.size < w70.heap.size + 1 := Nat.lt_succ_of_lt by__l
            have by__l2 : w5.heap.size < w70.heap.size + 1 + 1 := Nat.lt_succ_of_lt by__l1
            have by__0 : w70.cell? ⟨w5.heap.size, 0, none⟩ = some (.slice Ay ys.length cy) := (by_.cell 0).trans rfl
            have bw_l : w5.heap.size + 1 < w70.heap.size := bw.lt
            have bw_l1 : w5.heap.size + 1 < w70.heap.size + 1 := Nat.lt_succ_of_lt bw_l
            have bw_l2 : w5.heap.size + 1 < w70.heap.size + 1 + 1 := Nat.lt_succ_of_lt bw_l1
            have bw_0 : w70.cell? ⟨w5.heap.size + 1, 0, none⟩ = some (.int .i64 c1) := (bw.cell 0).trans rfl
            have bw_f0 : w70.frozen? ⟨w5.heap.size + 1, 0, none⟩ = false := bw.frozen 0
            have bw_1 : w70.cell? ⟨w5.heap.size + 1, 1, none⟩ = some (.int .i64 i1) := (bw.cell 1).trans rfl
            have bw_f1 : w70.frozen? ⟨w5.heap.size + 1, 1, none⟩ = false := bw.frozen 1
            have bv_l : w5.heap.size + 2 < w70.heap.size := bv.lt
            have bv_l1 : w5.heap.size + 2 < w70.heap.size + 1 := Nat.lt_succ_of_lt bv_l
            have bv_l2 : w5.heap.size + 2 < w70.heap.size + 1 + 1 := Nat.lt_succ_of_lt bv_l1
            have bv_0 : w70.cell? ⟨w5.heap.size + 2, 0, none⟩ = some (.int .i64 0) := (bv.cell 0).trans rfl
            have bv_f0 : w70.frozen? ⟨w5.heap.size + 2, 0, none⟩ = false := bv.frozen 0
            have bv_1 : w70.cell? ⟨w5.heap.size + 2, 1, none⟩ = some (.int .i64 0) := (bv.cell 1).trans rfl
            have bv_f1 : w70.frozen? ⟨w5.heap.size + 2, 1, none⟩ = false := bv.frozen 1
            clear hb70'
            rcases HUC2.out with ⟨hnn, e3⟩ | ⟨hn0, hn1, e3⟩
            · injection e3 with e3 f3
              injection f3 with f3 g3
              subst e3
              subst f3
              subst g3
              clear HUC2
              have hb : (decide (0 ≤ n) && decide (n ≤ (l.length : Int))) = false := by
                rw [Bool.and_eq_false_iff]
                rcases hnn with h | h
                · left; simp; omega
                · right; simp; omega
              clear hnn
              go_wp2_with fail
              go_at_call 26
              refine (in_any _ _ _ _).mono ?_
              rintro e w9 ⟨rfl, hw9⟩
              have hw9 := hw9.symm
              subst hw9
              rw [hb]
              go_wp2_with fail
              go_at_call 21
              refine (fault_b _ _ _).mono ?_
              rintro e w8 ⟨rfl, hb8'⟩
              have HBm171 := Lib.hid (HBm70.out.trans (hb8'.mono HBm70.out.size))
              replace bx := bx.below hb8' bx.lt
              replace be := be.below hb8' be.lt
              replace f := f.below hb8' f.lt
              replace g := g.below hb8' g.lt
              replace h := h.below hb8' h.lt
              replace by_ := by_.below hb8' by_.lt
              replace bw := bw.below hb8' bw.lt
              replace bv := bv.below hb8' bv.lt
              replace V2 := Lib.hid (V2.out.keep (free_below hb8'))
              replace Vx := Lib.hid (Vx.out.keep (free_below hb8'))
              replace Ve := Lib.hid (Ve.out.keep (free_below hb8'))
              replace Vu := Lib.hid (Vu.out.keep (free_below hb8'))
              clear bx_l bx_l1 bx_l2 bx_0 be_l be_l1 be_l2 be_0 be_1 be_2 be_3 f_l f_l1 f_l2 f_0 f_1 g_l g_l1 g_l2 g_0 g_1 h_l h_l1 h_l2 h_0 h_1 by__l by__l1 by__l2 by__0 bw_l bw_l1 bw_l2 bw_0 bw_f0 bw_1 bw_f1 bv_l bv_l1 bv_l2 bv_0 bv_f0 bv_1 bv_f1
              have bx_l : w.heap.size < w8.heap.size := bx.lt
              have bx_l1 : w.heap.size < w8.heap.size + 1 := Nat.lt_succ_of_lt bx_l
              have bx_l2 : w.heap.size < w8.heap.size + 1 + 1 := Nat.lt_succ_of_lt bx_l1
              have bx_0 : w8.cell? ⟨w.heap.size, 0, none⟩ = some (.slice A s.length k) := (bx.cell 0).trans rfl
              have be_l : w.heap.size + 1 < w8.heap.size := be.lt
              have be_l1 : w.heap.size + 1 < w8.heap.size + 1 := Nat.lt_succ_of_lt be_l
              have be_l2 : w.heap.size + 1 < w8.heap.size + 1 + 1 := Nat.lt_succ_of_lt be_l1
              have be_0 : w8.cell? ⟨w.heap.size + 1, 0, none⟩ = some (.int .i64 et) := (be.cell 0).trans rfl
              have be_1 : w8.cell? ⟨w.heap.size + 1, 1, none⟩ = some (strV un) := (be.cell 1).trans rfl
              have be_2 : w8.cell? ⟨w.heap.size + 1, 2, none⟩ = some (.int .i64 uo) := (be.cell 2).trans rfl
              have be_3 : w8.cell? ⟨w.heap.size + 1, 3, none⟩ = some (.int .i64 uw) := (be.cell 3).trans rfl
              have f_l : w2.heap.size < w8.heap.size := f.lt
              have f_l1 : w2.heap.size < w8.heap.size + 1 := Nat.lt_succ_of_lt f_l
              have f_l2 : w2.heap.size < w8.heap.size + 1 + 1 := Nat.lt_succ_of_lt f_l1
              have f_0 : w8.cell? ⟨w2.heap.size, 0, none⟩ = some (.int .i64 c1) := (f.cell 0).trans rfl
              have f_1 : w8.cell? ⟨w2.heap.size, 1, none⟩ = some (.int .i64 i1) := (f.cell 1).trans rfl
              have g_l : w3.heap.size < w8.heap.size := g.lt
              have g_l1 : w3.heap.size < w8.heap.size + 1 := Nat.lt_succ_of_lt g_l
              have g_l2 : w3.heap.size < w8.heap.size + 1 + 1 := Nat.lt_succ_of_lt g_l1
              have g_0 : w8.cell? ⟨w3.heap.size, 0, none⟩ = some (.int .i64 0) := (g.cell 0).trans rfl
              have g_1 : w8.cell? ⟨w3.heap.size, 1, none⟩ = some (.int .i64 0) := (g.cell 1).trans rfl
              have h_l : w4.heap.size < w8.heap.size := h.lt
              have h_l1 : w4.heap.size < w8.heap.size + 1 := Nat.lt_succ_of_lt h_l
              have h_l2 : w4.heap.size < w8.heap.size + 1 + 1 := Nat.lt_succ_of_lt h_l1
              have h_0 : w8.cell? ⟨w4.heap.size, 0, none⟩ = some (.int .i64 3) := (h.cell 0).trans rfl
              have h_1 : w8.cell? ⟨w4.heap.size, 1, none⟩ = some (.int .i64 (-3)) := (h.cell 1).trans rfl
              have by__l : w5.heap.size < w8.heap.size := by_.lt
              have by__l1 : w5.heap.size < w8.heap.size + 1 := Nat.lt_succ_of_lt by__l
              have by__l2 : w5.heap.size < w8.heap.size + 1 + 1 := Nat.lt_succ_of_lt by__l1
              have by__0 : w8.cell? ⟨w5.heap.size, 0, none⟩ = some (.slice Ay ys.length cy) := (by_.cell 0).trans rfl
              have bw_l : w5.heap.size + 1 < w8.heap.size := bw.lt
              have bw_l1 : w5.heap.size + 1 < w8.heap.size + 1 := Nat.lt_succ_of_lt bw_l
              have bw_l2 : w5.heap.size + 1 < w8.heap.size + 1 + 1 := Nat.lt_succ_of_lt bw_l1
              have bw_0 : w8.cell? ⟨w5.heap.size + 1, 0, none⟩ = some (.int .i64 c1) := (bw.cell 0).trans rfl
              have bw_f0 : w8.frozen? ⟨w5.heap.size + 1, 0, none⟩ = false := bw.frozen 0
              have bw_1 : w8.cell? ⟨w5.heap.size + 1, 1, none⟩ = some (.int .i64 i1) := (bw.cell 1).trans rfl
              have bw_f1 : w8.frozen? ⟨w5.heap.size + 1, 1, none⟩ = false := bw.frozen 1
              have bv_l : w5.heap.size + 2 < w8.heap.size := bv.lt
              have bv_l1 : w5.heap.size + 2 < w8.heap.size + 1 := Nat.lt_succ_of_lt bv_l
              have bv_l2 : w5.heap.size + 2 < w8.heap.size + 1 + 1 := Nat.lt_succ_of_lt bv_l1
              have bv_0 : w8.cell? ⟨w5.heap.size + 2, 0, none⟩ = some (.int .i64 0) := (bv.cell 0).trans rfl
              have bv_f0 : w8.frozen? ⟨w5.heap.size + 2, 0, none⟩ = false := bv.frozen 0
              have bv_1 : w8.cell? ⟨w5.heap.size + 2, 1, none⟩ = some (.int .i64 0) := (bv.cell 1).trans rfl
              have bv_f1 : w8.frozen? ⟨w5.heap.size + 2, 1, none⟩ = false := bv.frozen 1
              clear hb8'
              go_wp2_with fail
              go_ret
              exact ⟨by simp, (HBm171.out.setCell (p := ⟨w5.heap.size + 2, 0, none⟩) (by simp only; omega) _).setCell (p := ⟨w5.heap.size + 2, 1, none⟩) (by simp only; omega) _⟩
            · injection e3 with e3 f3
              injection f3 with f3 g3
              subst f3
              subst g3
              clear HUC2
              obtain ⟨m, rfl⟩ := Int.eq_ofNat_of_zero_le hn0
              have hml2 : m ≤ l.length := by omega
              simp only [Int.toNat_natCast] at e3
              have hb : (decide (0 ≤ (m : Int)) && decide ((m : Int) ≤ (l.length : Int))) = true := by rw [Bool.and_eq_true]; exact ⟨by simp, by simpa using hml2⟩
              have hul : us.length = m := by rw [e3, Rf.udL_len']; simp; omega
              have HGET := Lib.hid (fun (i : Nat) (hi : i < us.length) => show us[i] = Rf.inv (l[l.length - 1 - i]'(by omega)).upd from by subst e3; exact Rf.udL_get l m i hml2 (by omega) hi)
              clear e3 hn0
              subst hul
              have hnn : ((us.length : Int) != (us.length : Int)) = false := by simp
              go_wp2_with fail
              go_at_call 26
              refine (in_any _ _ _ _).mono ?_
              rintro e w9 ⟨rfl, hw9⟩
              have hw9 := hw9.symm
              subst hw9
              rw [hb]
              go_wp2_with fail
              have hbL0 := Below.refl (w70).heap.size (w70)
              go_loopw [21] (fun iv wr => ∃ i : Nat, i ≤ us.length ∧ iv = .int .i64 i ∧ Below (w70).heap.size (w70) wr) (fun iv _ => us.length - (intOf iv).toNat)
              case atStart => exact ⟨0, Nat.zero_le _, rfl, hbL0⟩
              case round =>
                obtain ⟨i, hi, rfl, hbr⟩ := hrel
                obtain ⟨wo2, rfl⟩ : ∃ wo2 : World, wo2 = wr := ⟨_, rfl⟩
                by_cases hlt : i < us.length
                · have hlt' : (i : Int) < us.length := by omega
                  have hj : l.length - 1 - i < l.length := by omega
                  obtain ⟨b, off, e, hbb, _, d0, d1, d2, d3⟩ := esV_row (V2.out.keep (free_below hbr)) (l.length - 1 - i) hj
                  subst e
                  obtain ⟨b', off', e, hbb', _, u0, u1, u2⟩ := usV_row (Vu.out.keep (free_below hbr)) i hlt
                  subst e
                  rw [HGET.out i hlt] at u0 u1 u2
                  simp only [Rf.inv] at u0 u1 u2
                  have hsub1 : IntKind.i64.wrap ((l.length : Int) - 1) = (l.length : Int) - 1 := IntWalk.i64_in _ (by omega)
                  have hsub : IntKind.i64.wrap ((l.length : Int) - 1 - (i : Int)) = ((l.length - 1 - i : Nat) : Int) := by rw [IntWalk.i64_in _ (by omega)]; omega
                  have hj' : ((l.length - 1 - i : Nat) : Int) < l.length := by omega
                  generalize l[l.length - 1 - i] = x at *
                  generalize l.length - 1 - i = j at *
                  obtain ⟨xt, xn, xo, xw⟩ := x
                  simp only at d0 d1 d2 d3 u0 u1 u2
                  have hal := below_alloc1 wo2 (.cells #[strV xn, .int .i64 xo, .int .i64 xw] 28)
                  have k1 : (xn != xn) = false := by simp
                  have k2' : (xo != xo) = false := by simp
                  have k3 : (xw != xw) = false := by simp
                  have k4 : (xn == xn) = true := by simp
                  have k5 : (xo == xo) = true := by simp
                  have k6 : (xw == xw) = true := by simp
                  go_wp2_with fail
                  go_quiet (fail)
                  go_wp2_with fail
                  go_roundw
                  case rel => exact ⟨i + 1, by omega, by go_num, below_drewN' (hbr.trans (hal.mono hbr.size)) _⟩
                  case measure => simp [intOf]; omega
                · obtain rfl : i = us.length := by omega
                  go_wp2_with fail
                  go_ret
                  exact ⟨by simp, HBm70.out.trans (hbr.mono HBm70.out.size)⟩
          · rw [← e5] at hc5
            injection hc5 with h5 h6
            subst h5
            subst h6
            injection e1 with e1 f1
            injection f1 with f1 g1
            subst e1
            subst f1
            subst g1
            clear HAC2 e5
            have SB := Lib.hid ((HBm69.out.setCell (p := ⟨w5.heap.size + 1, 0, none⟩) (by simp only; omega) (.int .i64 0)).setCell (p := ⟨w5.heap.size + 1, 1, none⟩) (by simp only; omega) (.int .i64 0))
            have neabx : ¬ (w.heap.size = w5.heap.size + 1) := by omega
            have nebbx : ¬ (w5.heap.size + 1 = w.heap.size) := by omega
            have neabe : ¬ (w.heap.size + 1 = w5.heap.size + 1) := by omega
            have nebbe : ¬ (w5.heap.size + 1 = w.heap.size + 1) := by omega
            have necbe : ¬ (w.heap.size = w5.heap.size) := by omega
            have nedbe : ¬ (w5.heap.size = w.heap.size) := by omega
            have neaf : ¬ (w2.heap.size = w5.heap.size + 1) := by omega
            have nebf : ¬ (w5.heap.size + 1 = w2.heap.size) := by omega
            have neag : ¬ (w3.heap.size = w5.heap.size + 1) := by omega
            have nebg : ¬ (w5.heap.size + 1 = w3.heap.size) := by omega
            have neah : ¬ (w4.heap.size = w5.heap.size + 1) := by omega
            have nebh : ¬ (w5.heap.size + 1 = w4.heap.size) := by omega
            have neaby_ : ¬ (w5.heap.size = w5.heap.size + 1) := by omega
            have nebby_ : ¬ (w5.heap.size + 1 = w5.heap.size) := by omega
            have neabv : ¬ (w5.heap.size + 2 = w5.heap.size + 1) := by omega
            have nebbv : ¬ (w5.heap.size + 1 = w5.heap.size + 2) := by omega
            go_wp2_with fail
            have bw0 := bw
            replace bx := (bx.far (p := ⟨w5.heap.size + 1, 0, none⟩) (by simp only; omega) (.int .i64 0)).far (p := ⟨w5.heap.size + 1, 1, none⟩) (by simp only; omega) (.int .i64 0)
            replace be := (be.far (p := ⟨w5.heap.size + 1, 0, none⟩) (by simp only; omega) (.int .i64 0)).far (p := ⟨w5.heap.size + 1, 1, none⟩) (by simp only; omega) (.int .i64 0)
            replace f := (f.far (p := ⟨w5.heap.size + 1, 0, none⟩) (by simp only; omega) (.int .i64 0)).far (p := ⟨w5.heap.size + 1, 1, none⟩) (by simp only; omega) (.int .i64 0)
            replace g := (g.far (p := ⟨w5.heap.size + 1, 0, none⟩) (by simp only; omega) (.int .i64 0)).far (p := ⟨w5.heap.size + 1, 1, none⟩) (by simp only; omega) (.int .i64 0)
            replace h := (h.far (p := ⟨w5.heap.size + 1, 0, none⟩) (by simp only; omega) (.int .i64 0)).far (p := ⟨w5.heap.size + 1, 1, none⟩) (by simp only; omega) (.int .i64 0)
            replace by_ := (by_.far (p := ⟨w5.heap.size + 1, 0, none⟩) (by simp only; omega) (.int .i64 0)).far (p := ⟨w5.heap.size + 1, 1, none⟩) (by simp only; omega) (.int .i64 0)
            replace bw := blk_put2 bw (.int .i64 0) (.int .i64 0)
            replace bv := (bv.far (p := ⟨w5.heap.size + 1, 0, none⟩) (by simp only; omega) (.int .i64 0)).far (p := ⟨w5.heap.size + 1, 1, none⟩) (by simp only; omega) (.int .i64 0)
            replace V2 := Lib.hid (sa_set2 V2.out bw0 (es_head _) (.int .i64 0) (.int .i64 0))
            replace Vx := Lib.hid (sa_set2 Vx.out bw0 (es_head _) (.int .i64 0) (.int .i64 0))
            replace Ve := Lib.hid (sa_set2 Ve.out bw0 (es_head _) (.int .i64 0) (.int .i64 0))
            replace Vu := Lib.hid (sa_set2 Vu.out bw0 (us_head _) (.int .i64 0) (.int .i64 0))
            clear V0 Vm hM bw0
            clear bx_l bx_l1 bx_l2 bx_0 be_l be_l1 be_l2 be_0 be_1 be_2 be_3 f_l f_l1 f_l2 f_0 f_1 g_l g_l1 g_l2 g_0 g_1 h_l h_l1 h_l2 h_0 h_1 by__l by__l1 by__l2 by__0 bw_l bw_l1 bw_l2 bw_0 bw_f0 bw_1 bw_f1 bv_l bv_l1 bv_l2 bv_0 bv_f0 bv_1 bv_f1
            generalize ((w69.setCell ⟨w5.heap.size + 1, 0, none⟩ (.int .i64 0)).setCell ⟨w5.heap.size + 1, 1, none⟩ (.int .i64 0)) = wy at *
            have bx_l : w.heap.size < wy.heap.size := bx.lt
            have bx_l1 : w.heap.size < wy.heap.size + 1 := Nat.lt_succ_of_lt bx_l
            have bx_l2 : w.heap.size < wy.heap.size + 1 + 1 := Nat.lt_succ_of_lt bx_l1
            have bx_0 : wy.cell? ⟨w.heap.size, 0, none⟩ = some (.slice A s.length k) := (bx.cell 0).trans rfl
            have be_l : w.heap.size + 1 < wy.heap.size := be.lt
            have be_l1 : w.heap.size + 1 < wy.heap.size + 1 := Nat.lt_succ_of_lt be_l
            have be_l2 : w.heap.size + 1 < wy.heap.size + 1 + 1 := Nat.lt_succ_of_lt be_l1
            have be_0 : wy.cell? ⟨w.heap.size + 1, 0, none⟩ = some (.int .i64 et) := (be.cell 0).trans rfl
            have be_1 : wy.cell? ⟨w.heap.size + 1, 1, none⟩ = some (strV un) := (be.cell 1).trans rfl
            have be_2 : wy.cell? ⟨w.heap.size + 1, 2, none⟩ = some (.int .i64 uo) := (be.cell 2).trans rfl
            have be_3 : wy.cell? ⟨w.heap.size + 1, 3, none⟩ = some (.int .i64 uw) := (be.cell 3).trans rfl
            have f_l : w2.heap.size < wy.heap.size := f.lt
            have f_l1 : w2.heap.size < wy.heap.size + 1 := Nat.lt_succ_of_lt f_l
            have f_l2 : w2.heap.size < wy.heap.size + 1 + 1 := Nat.lt_succ_of_lt f_l1
            have f_0 : wy.cell? ⟨w2.heap.size, 0, none⟩ = some (.int .i64 0) := (f.cell 0).trans rfl
            have f_1 : wy.cell? ⟨w2.heap.size, 1, none⟩ = some (.int .i64 0) := (f.cell 1).trans rfl
            have g_l : w3.heap.size < wy.heap.size := g.lt
            have g_l1 : w3.heap.size < wy.heap.size + 1 := Nat.lt_succ_of_lt g_l
            have g_l2 : w3.heap.size < wy.heap.size + 1 + 1 := Nat.lt_succ_of_lt g_l1
            have g_0 : wy.cell? ⟨w3.heap.size, 0, none⟩ = some (.int .i64 0) := (g.cell 0).trans rfl
            have g_1 : wy.cell? ⟨w3.heap.size, 1, none⟩ = some (.int .i64 0) := (g.cell 1).trans rfl
            have h_l : w4.heap.size < wy.heap.size := h.lt
            have h_l1 : w4.heap.size < wy.heap.size + 1 := Nat.lt_succ_of_lt h_l
            have h_l2 : w4.heap.size < wy.heap.size + 1 + 1 := Nat.lt_succ_of_lt h_l1
            have h_0 : wy.cell? ⟨w4.heap.size, 0, none⟩ = some (.int .i64 c3) := (h.cell 0).trans rfl
            have h_1 : wy.cell? ⟨w4.heap.size, 1, none⟩ = some (.int .i64 i3) := (h.cell 1).trans rfl
            have by__l : w5.heap.size < wy.heap.size := by_.lt
            have by__l1 : w5.heap.size < wy.heap.size + 1 := Nat.lt_succ_of_lt by__l
            have by__l2 : w5.heap.size < wy.heap.size + 1 + 1 := Nat.lt_succ_of_lt by__l1
            have by__0 : wy.cell? ⟨w5.heap.size, 0, none⟩ = some (.slice Ay ys.length cy) := (by_.cell 0).trans rfl
            have bw_l : w5.heap.size + 1 < wy.heap.size := bw.lt
            have bw_l1 : w5.heap.size + 1 < wy.heap.size + 1 := Nat.lt_succ_of_lt bw_l
            have bw_l2 : w5.heap.size + 1 < wy.heap.size + 1 + 1 := Nat.lt_succ_of_lt bw_l1
            have bw_0 : wy.cell? ⟨w5.heap.size + 1, 0, none⟩ = some (.int .i64 0) := (bw.cell 0).trans rfl
            have bw_f0 : wy.frozen? ⟨w5.heap.size + 1, 0, none⟩ = false := bw.frozen 0
            have bw_1 : wy.cell? ⟨w5.heap.size + 1, 1, none⟩ = some (.int .i64 0) := (bw.cell 1).trans rfl
            have bw_f1 : wy.frozen? ⟨w5.heap.size + 1, 1, none⟩ = false := bw.frozen 1
            have bv_l : w5.heap.size + 2 < wy.heap.size := bv.lt
            have bv_l1 : w5.heap.size + 2 < wy.heap.size + 1 := Nat.lt_succ_of_lt bv_l
            have bv_l2 : w5.heap.size + 2 < wy.heap.size + 1 + 1 := Nat.lt_succ_of_lt bv_l1
            have bv_0 : wy.cell? ⟨w5.heap.size + 2, 0, none⟩ = some (.int .i64 0) := (bv.cell 0).trans rfl
            have bv_f0 : wy.frozen? ⟨w5.heap.size + 2, 0, none⟩ = false := bv.frozen 0
            have bv_1 : wy.cell? ⟨w5.heap.size + 2, 1, none⟩ = some (.int .i64 0) := (bv.cell 1).trans rfl
            have bv_f1 : wy.frozen? ⟨w5.heap.size + 2, 1, none⟩ = false := bv.frozen 1
            have LN := Lib.hid (logs_any wy Ax Ae cx ke _ _ Vx.out Ve.out (by simp; omega) (by simp; omega))
            simp only [List.length_append, List.length_singleton] at LN
            go_wp2_with fail
            go_at_call 37
            with_reducible refine (LN.out).mono ?_
            rintro e w70 ⟨rfl, hb70'⟩
            have HBm70 := Lib.hid (SB.out.trans (hb70'.mono SB.out.size))
            replace bx := bx.below hb70' bx.lt
            replace be := be.below hb70' be.lt
            replace f := f.below hb70' f.lt
            replace g := g.below hb70' g.lt
            replace h := h.below hb70' h.lt
            replace by_ := by_.below hb70' by_.lt
            replace bw := bw.below hb70' bw.lt
            replace bv := bv.below hb70' bv.lt
            replace V2 := Lib.hid (V2.out.keep (free_below hb70'))
            replace Vx := Lib.hid (Vx.out.keep (free_below hb70'))
            replace Ve := Lib.hid (Ve.out.keep (free_below hb70'))
            replace Vu := Lib.hid (Vu.out.keep (free_below hb70'))
            clear bx_l bx_l1 bx_l2 bx_0 be_l be_l1 be_l2 be_0 be_1 be_2 be_3 f_l f_l1 f_l2 f_0 f_1 g_l g_l1 g_l2 g_0 g_1 h_l h_l1 h_l2 h_0 h_1 by__l by__l1 by__l2 by__0 bw_l bw_l1 bw_l2 bw_0 bw_f0 bw_1 bw_f1 bv_l bv_l1 bv_l2 bv_0 bv_f0 bv_1 bv_f1
            have bx_l : w.heap.size < w70.heap.size := bx.lt
            have bx_l1 : w.heap.size < w70.heap.size + 1 := Nat.lt_succ_of_lt bx_l
            have bx_l2 : w.heap.size < w70.heap.size + 1 + 1 := Nat.lt_succ_of_lt bx_l1
            have bx_0 : w70.cell? ⟨w.heap.size, 0, none⟩ = some (.slice A s.length k) := (bx.cell 0).trans rfl
            have be_l : w.heap.size + 1 < w70.heap.size := be.lt
            have be_l1 : w.heap.size + 1 < w70.heap.size + 1 := Nat.lt_succ_of_lt be_l
            have be_l2 : w.heap.size + 1 < w70.heap.size + 1 + 1 := Nat.lt_succ_of_lt be_l1
            have be_0 : w70.cell? ⟨w.heap.size + 1, 0, none⟩ = some (.int .i64 et) := (be.cell 0).trans rfl
            have be_1 : w70.cell? ⟨w.heap.size + 1, 1, none⟩ = some (strV un) := (be.cell 1).trans rfl
            have be_2 : w70.cell? ⟨w.heap.size + 1, 2, none⟩ = some (.int .i64 uo) := (be.cell 2).trans rfl
            have be_3 : w70.cell? ⟨w.heap.size + 1, 3, none⟩ = some (.int .i64 uw) := (be.cell 3).trans rfl
            have f_l : w2.heap.size < w70.heap.size := f.lt
            have f_l1 : w2.heap.size < w70.heap.size + 1 := Nat.lt_succ_of_lt f_l
            have f_l2 : w2.heap.size < w70.heap.size + 1 + 1 := Nat.lt_succ_of_lt f_l1
            have f_0 : w70.cell? ⟨w2.heap.size, 0, none⟩ = some (.int .i64 0) := (f.cell 0).trans rfl
            have f_1 : w70.cell? ⟨w2.heap.size, 1, none⟩ = some (.int .i64 0) := (f.cell 1).trans rfl
            have g_l : w3.heap.size < w70.heap.size := g.lt
            have g_l1 : w3.heap.size < w70.heap.size + 1 := Nat.lt_succ_of_lt g_l
            have g_l2 : w3.heap.size < w70.heap.size + 1 + 1 := Nat.lt_succ_of_lt g_l1
            have g_0 : w70.cell? ⟨w3.heap.size, 0, none⟩ = some (.int .i64 0) := (g.cell 0).trans rfl
            have g_1 : w70.cell? ⟨w3.heap.size, 1, none⟩ = some (.int .i64 0) := (g.cell 1).trans rfl
            have h_l : w4.heap.size < w70.heap.size := h.lt
            have h_l1 : w4.heap.size < w70.heap.size + 1 := Nat.lt_succ_of_lt h_l
            have h_l2 : w4.heap.size < w70.heap.size + 1 + 1 := Nat.lt_succ_of_lt h_l1
            have h_0 : w70.cell? ⟨w4.heap.size, 0, none⟩ = some (.int .i64 c3) := (h.cell 0).trans rfl
            have h_1 : w70.cell? ⟨w4.heap.size, 1, none⟩ = some (.int .i64 i3) := (h.cell 1).trans rfl
            have by__l : w5.heap.size < w70.heap.size := by_.lt
            have by__l1 : w5.heap.size < w70.heap.size + 1 := Nat.lt_succ_of_lt by__l
            have by__l2 : w5.heap.size < w70.heap.size + 1 + 1 := Nat.lt_succ_of_lt by__l1
            have by__0 : w70.cell? ⟨w5.heap.size, 0, none⟩ = some (.slice Ay ys.length cy) := (by_.cell 0).trans rfl
            have bw_l : w5.heap.size + 1 < w70.heap.size := bw.lt
            have bw_l1 : w5.heap.size + 1 < w70.heap.size + 1 := Nat.lt_succ_of_lt bw_l
            have bw_l2 : w5.heap.size + 1 < w70.heap.size + 1 + 1 := Nat.lt_succ_of_lt bw_l1
            have bw_0 : w70.cell? ⟨w5.heap.size + 1, 0, none⟩ = some (.int .i64 0) := (bw.cell 0).trans rfl
            have bw_f0 : w70.frozen? ⟨w5.heap.size + 1, 0, none⟩ = false := bw.frozen 0
            have bw_1 : w70.cell? ⟨w5.heap.size + 1, 1, none⟩ = some (.int .i64 0) := (bw.cell 1).trans rfl
            have bw_f1 : w70.frozen? ⟨w5.heap.size + 1, 1, none⟩ = false := bw.frozen 1
            have bv_l : w5.heap.size + 2 < w70.heap.size := bv.lt
            have bv_l1 : w5.heap.size + 2 < w70.heap.size + 1 := Nat.lt_succ_of_lt bv_l
            have bv_l2 : w5.heap.size + 2 < w70.heap.size + 1 + 1 := Nat.lt_succ_of_lt bv_l1
            have bv_0 : w70.cell? ⟨w5.heap.size + 2, 0, none⟩ = some (.int .i64 0) := (bv.cell 0).trans rfl
            have bv_f0 : w70.frozen? ⟨w5.heap.size + 2, 0, none⟩ = false := bv.frozen 0
            have bv_1 : w70.cell? ⟨w5.heap.size + 2, 1, none⟩ = some (.int .i64 0) := (bv.cell 1).trans rfl
            have bv_f1 : w70.frozen? ⟨w5.heap.size + 2, 1, none⟩ = false := bv.frozen 1
            clear hb70'
            rcases HUC2.out with ⟨hnn, e3⟩ | ⟨hn0, hn1, e3⟩
            · injection e3 with e3 f3
              injection f3 with f3 g3
              subst e3
              subst f3
              subst g3
              clear HUC2
              have hb : (decide (0 ≤ n) && decide (n ≤ (l.length : Int))) = false := by
                rw [Bool.and_eq_false_iff]
                rcases hnn with h | h
                · left; simp; omega
                · right; simp; omega
              clear hnn
              go_wp2_with fail
              go_at_call 26
              refine (in_any _ _ _ _).mono ?_
              rintro e w9 ⟨rfl, hw9⟩
              have hw9 := hw9.symm
              subst hw9
              rw [hb]
              go_wp2_with fail
              go_at_call 21
              refine (fault_b _ _ _).mono ?_
              rintro e w8 ⟨rfl, hb8'⟩
              have HBm171 := Lib.hid (HBm70.out.trans (hb8'.mono HBm70.out.size))
              replace bx := bx.below hb8' bx.lt
              replace be := be.below hb8' be.lt
              replace f := f.below hb8' f.lt
              replace g := g.below hb8' g.lt
              replace h := h.below hb8' h.lt
              replace by_ := by_.below hb8' by_.lt
              replace bw := bw.below hb8' bw.lt
              replace bv := bv.below hb8' bv.lt
              replace V2 := Lib.hid (V2.out.keep (free_below hb8'))
              replace Vx := Lib.hid (Vx.out.keep (free_below hb8'))
              replace Ve := Lib.hid (Ve.out.keep (free_below hb8'))
              replace Vu := Lib.hid (Vu.out.keep (free_below hb8'))
              clear bx_l bx_l1 bx_l2 bx_0 be_l be_l1 be_l2 be_0 be_1 be_2 be_3 f_l f_l1 f_l2 f_0 f_1 g_l g_l1 g_l2 g_0 g_1 h_l h_l1 h_l2 h_0 h_1 by__l by__l1 by__l2 by__0 bw_l bw_l1 bw_l2 bw_0 bw_f0 bw_1 bw_f1 bv_l bv_l1 bv_l2 bv_0 bv_f0 bv_1 bv_f1
              have bx_l : w.heap.size < w8.heap.size := bx.lt
              have bx_l1 : w.heap.size < w8.heap.size + 1 := Nat.lt_succ_of_lt bx_l
              have bx_l2 : w.heap.size < w8.heap.size + 1 + 1 := Nat.lt_succ_of_lt bx_l1
              have bx_0 : w8.cell? ⟨w.heap.size, 0, none⟩ = some (.slice A s.length k) := (bx.cell 0).trans rfl
              have be_l : w.heap.size + 1 < w8.heap.size := be.lt
              have be_l1 : w.heap.size + 1 < w8.heap.size + 1 := Nat.lt_succ_of_lt be_l
              have be_l2 : w.heap.size + 1 < w8.heap.size + 1 + 1 := Nat.lt_succ_of_lt be_l1
              have be_0 : w8.cell? ⟨w.heap.size + 1, 0, none⟩ = some (.int .i64 et) := (be.cell 0).trans rfl
              have be_1 : w8.cell? ⟨w.heap.size + 1, 1, none⟩ = some (strV un) := (be.cell 1).trans rfl
              have be_2 : w8.cell? ⟨w.heap.size + 1, 2, none⟩ = some (.int .i64 uo) := (be.cell 2).trans rfl
              have be_3 : w8.cell? ⟨w.heap.size + 1, 3, none⟩ = some (.int .i64 uw) := (be.cell 3).trans rfl
              have f_l : w2.heap.size < w8.heap.size := f.lt
              have f_l1 : w2.heap.size < w8.heap.size + 1 := Nat.lt_succ_of_lt f_l
              have f_l2 : w2.heap.size < w8.heap.size + 1 + 1 := Nat.lt_succ_of_lt f_l1
              have f_0 : w8.cell? ⟨w2.heap.size, 0, none⟩ = some (.int .i64 0) := (f.cell 0).trans rfl
              have f_1 : w8.cell? ⟨w2.heap.size, 1, none⟩ = some (.int .i64 0) := (f.cell 1).trans rfl
              have g_l : w3.heap.size < w8.heap.size := g.lt
              have g_l1 : w3.heap.size < w8.heap.size + 1 := Nat.lt_succ_of_lt g_l
              have g_l2 : w3.heap.size < w8.heap.size + 1 + 1 := Nat.lt_succ_of_lt g_l1
              have g_0 : w8.cell? ⟨w3.heap.size, 0, none⟩ = some (.int .i64 0) := (g.cell 0).trans rfl
              have g_1 : w8.cell? ⟨w3.heap.size, 1, none⟩ = some (.int .i64 0) := (g.cell 1).trans rfl
              have h_l : w4.heap.size < w8.heap.size := h.lt
              have h_l1 : w4.heap.size < w8.heap.size + 1 := Nat.lt_succ_of_lt h_l
              have h_l2 : w4.heap.size < w8.heap.size + 1 + 1 := Nat.lt_succ_of_lt h_l1
              have h_0 : w8.cell? ⟨w4.heap.size, 0, none⟩ = some (.int .i64 3) := (h.cell 0).trans rfl
              have h_1 : w8.cell? ⟨w4.heap.size, 1, none⟩ = some (.int .i64 (-3)) := (h.cell 1).trans rfl
              have by__l : w5.heap.size < w8.heap.size := by_.lt
              have by__l1 : w5.heap.size < w8.heap.size + 1 := Nat.lt_succ_of_lt by__l
              have by__l2 : w5.heap.size < w8.heap.size + 1 + 1 := Nat.lt_succ_of_lt by__l1
              have by__0 : w8.cell? ⟨w5.heap.size, 0, none⟩ = some (.slice Ay ys.length cy) := (by_.cell 0).trans rfl
              have bw_l : w5.heap.size + 1 < w8.heap.size := bw.lt
              have bw_l1 : w5.heap.size + 1 < w8.heap.size + 1 := Nat.lt_succ_of_lt bw_l
              have bw_l2 : w5.heap.size + 1 < w8.heap.size + 1 + 1 := Nat.lt_succ_of_lt bw_l1
              have bw_0 : w8.cell? ⟨w5.heap.size + 1, 0, none⟩ = some (.int .i64 0) := (bw.cell 0).trans rfl
              have bw_f0 : w8.frozen? ⟨w5.heap.size + 1, 0, none⟩ = false := bw.frozen 0
              have bw_1 : w8.cell? ⟨w5.heap.size + 1, 1, none⟩ = some (.int .i64 0) := (bw.cell 1).trans rfl
              have bw_f1 : w8.frozen? ⟨w5.heap.size + 1, 1, none⟩ = false := bw.frozen 1
              have bv_l : w5.heap.size + 2 < w8.heap.size := bv.lt
              have bv_l1 : w5.heap.size + 2 < w8.heap.size + 1 := Nat.lt_succ_of_lt bv_l
              have bv_l2 : w5.heap.size + 2 < w8.heap.size + 1 + 1 := Nat.lt_succ_of_lt bv_l1
              have bv_0 : w8.cell? ⟨w5.heap.size + 2, 0, none⟩ = some (.int .i64 0) := (bv.cell 0).trans rfl
              have bv_f0 : w8.frozen? ⟨w5.heap.size + 2, 0, none⟩ = false := bv.frozen 0
              have bv_1 : w8.cell? ⟨w5.heap.size + 2, 1, none⟩ = some (.int .i64 0) := (bv.cell 1).trans rfl
              have bv_f1 : w8.frozen? ⟨w5.heap.size + 2, 1, none⟩ = false := bv.frozen 1
              clear hb8'
              go_wp2_with fail
              go_ret
              exact ⟨by simp, (HBm171.out.setCell (p := ⟨w5.heap.size + 2, 0, none⟩) (by simp only; omega) _).setCell (p := ⟨w5.heap.size + 2, 1, none⟩) (by simp only; omega) _⟩
            · injection e3 with e3 f3
              injection f3 with f3 g3
              subst f3
              subst g3
              clear HUC2
              obtain ⟨m, rfl⟩ := Int.eq_ofNat_of_zero_le hn0
              have hml2 : m ≤ l.length := by omega
              simp only [Int.toNat_natCast] at e3
              have hb : (decide (0 ≤ (m : Int)) && decide ((m : Int) ≤ (l.length : Int))) = true := by rw [Bool.and_eq_true]; exact ⟨by simp, by simpa using hml2⟩
              have hul : us.length = m := by rw [e3, Rf.udL_len']; simp; omega
              have HGET := Lib.hid (fun (i : Nat) (hi : i < us.length) => show us[i] = Rf.inv (l[l.length - 1 - i]'(by omega)).upd from by subst e3; exact Rf.udL_get l m i hml2 (by omega) hi)
              clear e3 hn0
              subst hul
              have hnn : ((us.length : Int) != (us.length : Int)) = false := by simp
              go_wp2_with fail
              go_at_call 26
              refine (in_any _ _ _ _).mono ?_
              rintro e w9 ⟨rfl, hw9⟩
              have hw9 := hw9.symm
              subst hw9
              rw [hb]
              go_wp2_with fail
              have hbL0 := Below.refl (w70).heap.size (w70)
              go_loopw [21] (fun iv wr => ∃ i : Nat, i ≤ us.length ∧ iv = .int .i64 i ∧ Below (w70).heap.size (w70) wr) (fun iv _ => us.length - (intOf iv).toNat)
              case atStart => exact ⟨0, Nat.zero_le _, rfl, hbL0⟩
              case round =>
                obtain ⟨i, hi, rfl, hbr⟩ := hrel
                obtain ⟨wo2, rfl⟩ : ∃ wo2 : World, wo2 = wr := ⟨_, rfl⟩
                by_cases hlt : i < us.length
                · have hlt' : (i : Int) < us.length := by omega
                  have hj : l.length - 1 - i < l.length := by omega
                  obtain ⟨b, off, e, hbb, _, d0, d1, d2, d3⟩ := esV_row (V2.out.keep (free_below hbr)) (l.length - 1 - i) hj
                  subst e
                  obtain ⟨b', off', e, hbb', _, u0, u1, u2⟩ := usV_row (Vu.out.keep (free_below hbr)) i hlt
                  subst e
                  rw [HGET.out i hlt] at u0 u1 u2
                  simp only [Rf.inv] at u0 u1 u2
                  have hsub1 : IntKind.i64.wrap ((l.length : Int) - 1) = (l.length : Int) - 1 := IntWalk.i64_in _ (by omega)
                  have hsub : IntKind.i64.wrap ((l.length : Int) - 1 - (i : Int)) = ((l.length - 1 - i : Nat) : Int) := by rw [IntWalk.i64_in _ (by omega)]; omega
                  have hj' : ((l.length - 1 - i : Nat) : Int) < l.length := by omega
                  generalize l[l.length - 1 - i] = x at *
                  generalize l.length - 1 - i = j at *
                  obtain ⟨xt, xn, xo, xw⟩ := x
                  simp only at d0 d1 d2 d3 u0 u1 u2
                  have hal := below_alloc1 wo2 (.cells #[strV xn, .int .i64 xo, .int .i64 xw] 28)
                  have k1 : (xn != xn) = false := by simp
                  have k2' : (xo != xo) = false := by simp
                  have k3 : (xw != xw) = false := by simp
                  have k4 : (xn == xn) = true := by simp
                  have k5 : (xo == xo) = true := by simp
                  have k6 : (xw == xw) = true := by simp
                  go_wp2_with fail
                  go_quiet (fail)
                  go_wp2_with fail
                  go_roundw
                  case rel => exact ⟨i + 1, by omega, by go_num, below_drewN' (hbr.trans (hal.mono hbr.size)) _⟩
                  case measure => simp [intOf]; omega
                · obtain rfl : i = us.length := by omega
                  go_wp2_with fail
                  go_ret
                  exact ⟨by simp, HBm70.out.trans (hbr.mono HBm70.out.size)⟩
end Go.Proofs.YtfbbgnhelannjaaDoor
