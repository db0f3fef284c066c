/-
  References: walk of 'Update'.
-/
import Derived.Test.YtfbbgnhelannjaaDoorRf15
namespace Rf
/-- What 'Update' answers. -/
def upF (s : List R) (u : U) : List R × (Int × Int) := if (rfF s).1 ≠ 0 then ([], rfF s) else if upC s u ≠ 0 then ([], (upC s u, -1)) else (upS s u, (0, 0))
end Rf
namespace Go.Proofs.YtfbbgnhelannjaaDoor
open Go.RowKit Go.V Go.Shelf Go.Lib
set_option linter.unusedVariables false

theorem results_26_30 {fn : Func} {a b : Tmp} (h : fn.results = #[.cell a 26, .cell b 30]) (tmps : Array Value) (w : World) (g g' : Nat) (x c i : Value) (ha : tmps.getD a undef = .pointer (some ⟨g, 0, none⟩)) (hb' : tmps.getD b undef = .pointer (some ⟨g', 0, none⟩))
    (hb : Blk w g 26 #[x]) (hc : Blk w g' 30 #[c, i]) : (results fn tmps).run Tryd.prog w = .ok (.tuple #[.agg #[x], .agg #[c, i]]) w := by
  have h0 := hb.cell 0
  have k0 := hc.cell 0
  have k1 := hc.cell 1
  simp only [List.getElem?_toArray, List.getElem?_cons_zero, List.getElem?_cons_succ] at h0 k0 k1
  have ha' : tmps[a]?.getD undef = .pointer (some ⟨g, 0, none⟩) := by simpa using ha
  have hb'' : tmps[b]?.getD undef = .pointer (some ⟨g', 0, none⟩) := by simpa using hb'
  simp [results, h, go_sem, ha', hb'', h0, k0, k1]
theorem put12 {w1 : World} {g1 g2 : Nat} {t1 t2 : TypeId} {a d e : Value} (h1 : Blk w1 g1 t1 #[a]) (h2 : Blk w1 g2 t2 #[d, e]) (hne : g1 ≠ g2) (x u v : Value) :
    Blk (((w1.setCell ⟨g1, 0, none⟩ x).setCell ⟨g2, 0, none⟩ u).setCell ⟨g2, 1, none⟩ v) g1 t1 #[x] ∧
    Blk (((w1.setCell ⟨g1, 0, none⟩ x).setCell ⟨g2, 0, none⟩ u).setCell ⟨g2, 1, none⟩ v) g2 t2 #[u, v] ∧
    ∀ (B : Nat) (w0 : World), B ≤ g1 → B ≤ g2 → Below B w0 w1 → Below B w0 (((w1.setCell ⟨g1, 0, none⟩ x).setCell ⟨g2, 0, none⟩ u).setCell ⟨g2, 1, none⟩ v) :=
  ⟨((by simpa using h1.set_ 0 x : Blk (w1.setCell ⟨g1, 0, none⟩ x) g1 t1 #[x]).far (p := ⟨g2, 0, none⟩) hne u).far (p := ⟨g2, 1, none⟩) hne v,
   blk_put2 (h2.far (p := ⟨g1, 0, none⟩) (Ne.symm hne) x) u v,
   fun B w0 h3 h4 hb => ((hb.setCell (p := ⟨g1, 0, none⟩) h3 _).setCell (p := ⟨g2, 0, none⟩) h4 _).setCell (p := ⟨g2, 1, none⟩) h4 _⟩
/-- The state of 'Update' and 'Batch': the boxes and the results. -/
structure PtSt (w wr : World) (A : Option Addr) (n k : Nat) (ot : TypeId) (ov : Array Value) : Prop where
  bx : Blk wr w.heap.size 26 #[.slice A n k]
  bo : Blk wr (w.heap.size + 1) ot ov
  r1 : Blk wr (w.heap.size + 2) 26 #[.slice none 0 0]
  r2 : Blk wr (w.heap.size + 3) 30 #[.int .i64 0, .int .i64 0]
  bel : Below w.heap.size w wr
section
variable {w wr w' : World} {A : Option Addr} {n k : Nat} {ot : TypeId} {ov : Array Value}
theorem PtSt.below (h : PtSt w wr A n k ot ov) (hb : Below wr.heap.size wr w') : PtSt w w' A n k ot ov :=
  ⟨h.bx.below hb h.bx.lt, h.bo.below hb h.bo.lt, h.r1.below hb h.r1.lt, h.r2.below hb h.r2.lt, h.bel.trans (hb.mono h.bel.size)⟩
theorem PtSt.touch (h : PtSt w wr A n k ot ov) {g : Nat} {row : Option Nat} (ht : TouchS wr w' g row) (hg : w.heap.size + 4 ≤ g) (hr : ∀ b, row = some b → w.heap.size + 4 ≤ b) : PtSt w w' A n k ot ov := by
  have hl := h.r2.lt
  exact ⟨h.bx.touchS ht (by omega) (fun e => by have := hr _ e.symm; omega), h.bo.touchS ht (by omega) (fun e => by have := hr _ e.symm; omega), h.r1.touchS ht (by omega) (fun e => by have := hr _ e.symm; omega), h.r2.touchS ht (by omega) (fun e => by have := hr _ e.symm; omega),
    h.bel.trans (ht.below (by omega) (by omega) (fun k hk => by have := hr k hk; omega))⟩
theorem PtSt.facts (h : PtSt w wr A n k ot ov) : wr.cell? ⟨w.heap.size, 0, none⟩ = some (.slice A n k) ∧ wr.cell? ⟨w.heap.size + 2, 0, none⟩ = some (.slice none 0 0) ∧ wr.frozen? ⟨w.heap.size + 2, 0, none⟩ = false ∧
    wr.cell? ⟨w.heap.size + 3, 0, none⟩ = some (.int .i64 0) ∧ wr.cell? ⟨w.heap.size + 3, 1, none⟩ = some (.int .i64 0) ∧ wr.frozen? ⟨w.heap.size + 3, 0, none⟩ = false ∧ wr.frozen? ⟨w.heap.size + 3, 1, none⟩ = false ∧
    w.heap.size < wr.heap.size ∧ w.heap.size + 1 < wr.heap.size ∧ w.heap.size + 2 < wr.heap.size ∧ w.heap.size + 3 < wr.heap.size :=
  ⟨(h.bx.cell 0).trans rfl, (h.r1.cell 0).trans rfl, h.r1.frozen 0, (h.r2.cell 0).trans rfl, (h.r2.cell 1).trans rfl, h.r2.frozen 0, h.r2.frozen 1, h.bx.lt, h.bo.lt, h.r1.lt, h.r2.lt⟩
end
theorem Mx.fun_ {w : World} (h : Mx w) : ∀ w', Below w.heap.size w w' → Mx w' := fun w' hb => h.below hb
theorem blk_new1 (w : World) (o : Obj) (t : TypeId) (cs : Array Value) : Blk ((w.alloc o).alloc (.cells cs t)) (w.heap.size + 1) t cs := by simpa using Blk.new (w.alloc o) t cs
theorem blk_new2 (w : World) (o o2 : Obj) (t : TypeId) (cs : Array Value) : Blk (((w.alloc o).alloc o2).alloc (.cells cs t)) (w.heap.size + 2) t cs := by simpa using Blk.new ((w.alloc o).alloc o2) t cs
theorem blk_new3 (w : World) (o o2 o3 : Obj) (t : TypeId) (cs : Array Value) : Blk ((((w.alloc o).alloc o2).alloc o3).alloc (.cells cs t)) (w.heap.size + 3) t cs := by simpa using Blk.new (((w.alloc o).alloc o2).alloc o3) t cs
/-- A set and a fault. -/
def UpPost (w : World) (r : List Rf.R × (Int × Int)) (e : Ending) (w' : World) : Prop := ∃ A c, e = .returned (.tuple #[.agg #[.slice A r.1.length c], .agg #[.int .i64 r.2.1, .int .i64 r.2.2]]) ∧ r.1.length ≤ c ∧ SA w' (Under w.heap.size) A (rsV r.1) ∧ Below w.heap.size w w'
theorem UpPost.no {w w' : World} {r : List Rf.R × (Int × Int)} {c i : Int} (h : r = ([], (c, i))) (hb : Below w.heap.size w w') : UpPost w r (.returned (.tuple #[.agg #[.slice none 0 0], .agg #[.int .i64 c, .int .i64 i]])) w' := by
  subst h; exact ⟨none, 0, rfl, Nat.le_refl _, SA.nil, hb⟩
set_option maxRecDepth 100000 in
set_option maxHeartbeats 16000000 in
theorem update_any (w : World) (hm : Mx w) (A : Option Addr) (k : Nat) (s : List Rf.R) (u : Rf.U) (hv : SA w Free A (rsV s)) (hl64 : s.length ≤ 9223372036854775807) (hk : s.length ≤ k) :
    Calls Tryd.prog 18 #[.agg #[.slice A s.length k], .agg #[strV u.name, .int .i64 u.old, .int .i64 u.new]] w (UpPost w (Rf.upF s u)) := by
  have HV := Lib.hid (fun (w1 : World) (hb : Below w.heap.size w w1) => hv.keep (free_below hb))
  have HM := Lib.hid hm.fun_
  have HPF := Lib.hid (Rf.upF.eq_1 s u)
  have HC := Lib.hid (fun (w1 : World) (hb : Below w.heap.size w w1) => validate_any w1 (HM.out _ hb) A k s (HV.out _ hb) hl64 hk)
  clear hv hm
  generalize hr : Rf.upF s u = r at *
  clear hr
  obtain ⟨un, uo, uw⟩ := u
  have st0 : PtSt w ((((w.alloc (.cells #[.slice A s.length k] 26)).alloc (.cells #[strV un, .int .i64 uo, .int .i64 uw] 28)).alloc (.cells #[.slice none 0 0] 26)).alloc (.cells #[.int .i64 0, .int .i64 0] 30)) A s.length k 28 #[strV un, .int .i64 uo, .int .i64 uw] :=
    ⟨(((Blk.new _ _ _).alloc _).alloc _).alloc _, ((blk_new1 _ _ _ _).alloc _).alloc _, (blk_new2 _ _ _ _ _).alloc _, blk_new3 _ _ _ _ _ _, (below_alloc3 _ _ _ _).alloc (by simp; omega) _⟩
  go_enter Tryd.func18, Tryd.ntmps18
  go_wp2_with fail
  go_at_call 29
  refine (HC.out _ st0.bel).mono ?_
  rintro e w1 ⟨rfl, hb1⟩
  have st1 := st0.below hb1
  obtain ⟨p0, p1, p2, p3, p4, p5, p6, l0, l1, l2, l3⟩ := st1.facts
  clear hb1 HC st0
  by_cases hbad : (Rf.rfF s).1 ≠ 0
  · have H := Lib.hid (show r = ([], Rf.rfF s) from by rw [HPF.out, if_pos hbad])
    have hb1 : ((Rf.rfF s).1 == 0) = false := by simpa using hbad
    have hb2 : ((Rf.rfF s).1 != 0) = true := by simpa using hbad
    clear hbad HPF HV
    generalize Rf.rfF s = q at *
    obtain ⟨cd, ix⟩ := q
    simp only at hb1 hb2
    have HR : Hid (∀ w', Below w.heap.size w w' → UpPost w r (.returned (.tuple #[.agg #[.slice none 0 0], .agg #[.int .i64 cd, .int .i64 ix]])) w') := Lib.hid fun w' hb => UpPost.no H.out hb
    clear H
    generalize UpPost w r = R at *
    go_wp2_with fail
    go_region
    all_goals
      go_wp2_with fail
      obtain ⟨k1, k2, k3⟩ := put12 st1.r1 st1.r2 (by omega) (.slice none 0 0) (.int .i64 cd) (.int .i64 ix)
      refine bodyPost_ret (results_26_30 rfl _ _ (w.heap.size + 2) (w.heap.size + 3) (.slice none 0 0) (.int .i64 cd) (.int .i64 ix) rfl rfl ((k1.alloc _).drewN 1) ((k2.alloc _).drewN 1)) rfl ?_
      refine HR.out _ ?_
      exact below_drewN' ((k3 _ _ (by omega) (by omega) st1.bel).alloc (by simp [World.setCell]; omega) _) 1
  · obtain ⟨hz, hok⟩ := Rf.rfF_ok (by simpa using hbad)
    have HP2 := Lib.hid (HPF.out.trans (if_neg hbad))
    rw [hz]
    have st2 := st1.below (below_alloc1 w1 (.cells #[.int .i64 0, .int .i64 0] 30))
    clear hz hbad p0 p1 p2 p3 p4 p5 p6 l0 l1 l2 l3 HPF
    obtain ⟨p0, p1, p2, p3, p4, p5, p6, l0, l1, l2, l3⟩ := st2.facts
    have hsl := hok.len
    have HCY := Lib.hid (copy_any _ A k s (HV.out _ st2.bel) (by omega))
    clear HV st1
    go_wp2_with fail
    go_at_call 44
    refine HCY.out.mono ?_
    rintro e w3 ⟨A3, c3, rfl, hown3, hb3⟩
    have st4' := st2.below hb3
    have st4 := st4'.below (below_alloc1 w3 (.cells #[.slice A3 s.length c3] 26))
    have hz3 := hb3.size
    have l4' := st4'.r2.lt
    have l2' := st2.r2.lt
    have rs4 : RSt (w3.alloc (.cells #[.slice A3 s.length c3] 26)) w3.heap.size (w1.alloc (.cells #[.int .i64 0, .int .i64 0] 30)).heap.size A3 c3 s := ⟨Blk.new _ _ _, hown3.alloc _, Nat.le_trans hz3 (by simp)⟩
    have HST := Lib.hid (step_any _ (HM.out _ st4.bel) _ _ _ _ s ⟨un, uo, uw⟩ rs4 hok)
    have hrow : ∀ b, (Value.slice A3 s.length c3).ownBlock = some b → w.heap.size + 4 ≤ b := fun b hb => by have := (hown3.lt b hb).1; omega
    clear p0 p1 p2 p3 p4 p5 p6 l0 l1 l2 l3
    obtain ⟨p0, p1, p2, p3, p4, p5, p6, l0, l1, l2, l3⟩ := st4.facts
    obtain ⟨q0, q1, q2, q3, q4, q5, q6, m0, m1, m2, m3⟩ := st4'.facts
    have po0 : w3.cell? ⟨w.heap.size + 1, 0, none⟩ = some (strV un) := (st4'.bo.cell 0).trans rfl
    have po1 : w3.cell? ⟨w.heap.size + 1, 1, none⟩ = some (.int .i64 uo) := (st4'.bo.cell 1).trans rfl
    have po2 : w3.cell? ⟨w.heap.size + 1, 2, none⟩ = some (.int .i64 uw) := (st4'.bo.cell 2).trans rfl
    clear hb3 HCY rs4
    go_wp2_with fail
    go_at_call 45
    refine HST.out.mono ?_
    rintro e w5 ⟨A5, c5, rfl, rs5, ht5, _⟩
    have st5 := st4.touch ht5 (by omega) hrow
    have g0 : w5.cell? ⟨w3.heap.size, 0, none⟩ = _ := (rs5.blk.cell 0).trans rfl
    have gl := rs5.blk.lt
    clear ht5 HST st4 st4' p0 p1 p2 p3 p4 p5 p6 l0 l1 l2 l3 q0 q1 q2 q3 q4 q5 q6 m0 m1 m2 m3 po0 po1 po2
    obtain ⟨p0, p1, p2, p3, p4, p5, p6, l0, l1, l2, l3⟩ := st5.facts
    by_cases hc : Rf.upC s ⟨un, uo, uw⟩ = 0
    · rw [if_pos hc] at rs5 g0
      have H := Lib.hid (HP2.out.trans (if_neg (fun h => h hc)))
      rw [hc]
      clear HP2 hc
      have hcap : (Rf.upS s ⟨un, uo, uw⟩).length ≤ c5 := by
        obtain ⟨A', c', e1, hcc, _⟩ := own_form rs5.own
        injection e1 with _ _ e3
        subst e3; exact hcc
      generalize Rf.upS s ⟨un, uo, uw⟩ = s5 at *
      go_wp2_with fail
      obtain ⟨k1, k2, k3⟩ := put12 st5.r1 st5.r2 (by omega) (.slice A5 s5.length c5) (.int .i64 0) (.int .i64 0)
      refine bodyPost_ret (results_26_30 rfl _ _ (w.heap.size + 2) (w.heap.size + 3) (.slice A5 s5.length c5) (.int .i64 0) (.int .i64 0) rfl rfl k1 k2) rfl ?_
      rw [H.out]
      have hlo : ∀ b, (Value.slice A5 s5.length c5).ownBlock = some b → w.heap.size + 4 ≤ b := fun b hb => by have := (rs5.own.lt b hb).1; omega
      have hne1 : some (w.heap.size + 2) ≠ (Value.slice A5 s5.length c5).ownBlock := fun e => by have := hlo _ e.symm; omega
      have hne2 : some (w.heap.size + 3) ≠ (Value.slice A5 s5.length c5).ownBlock := fun e => by have := hlo _ e.symm; omega
      refine ⟨A5, c5, rfl, hcap, ?_, k3 _ _ (by omega) (by omega) st5.bel⟩
      exact SA.of_own' (own_setCell (own_setCell (own_setCell rs5.own hne1 _) hne2 _) hne2 _) (fun b hb hU => by have := hlo b hb; unfold Under at hU; omega)
    · have HR : Hid (∀ w', Below w.heap.size w w' → UpPost w r (.returned (.tuple #[.agg #[.slice none 0 0], .agg #[.int .i64 (Rf.upC s ⟨un, uo, uw⟩), .int .i64 (-1)]])) w') := Lib.hid fun w' hb => UpPost.no (HP2.out.trans (if_pos hc)) hb
      have hc1 : (Rf.upC s ⟨un, uo, uw⟩ != 0) = true := by simpa using hc
      have hc2 : (Rf.upC s ⟨un, uo, uw⟩ == 0) = false := by simpa using hc
      clear HP2 hc g0 rs5
      generalize Rf.upC s ⟨un, uo, uw⟩ = cd at *
      generalize UpPost w r = R at *
      go_wp2_with fail
      obtain ⟨k1, k2, k3⟩ := put12 st5.r1 st5.r2 (by omega) (.slice none 0 0) (.int .i64 cd) (.int .i64 (-1))
      refine bodyPost_ret (results_26_30 rfl _ _ (w.heap.size + 2) (w.heap.size + 3) (.slice none 0 0) (.int .i64 cd) (.int .i64 (-1)) rfl rfl k1 k2) rfl ?_
      exact HR.out _ (k3 _ _ (by omega) (by omega) st5.bel)
end Go.Proofs.YtfbbgnhelannjaaDoor
