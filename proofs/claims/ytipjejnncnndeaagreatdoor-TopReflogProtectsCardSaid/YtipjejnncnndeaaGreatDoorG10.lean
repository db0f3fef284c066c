/-
  Objects: walk of 'Put'.
  Garbage collection: the states of the loops of 'Collect'.
  Garbage collection: walk of 'Collect' where there is no lease.
  Packs: walk of 'entry'.
-/
import Derived.Test.YtipjejnncnndeaaGreatDoorG09
import Derived.Test.YtipjejnncnndeaaGreatDoorG05
import Derived.Test.YtipjejnncnndeaaGreatDoorG08
import Derived.Test.YtipjejnncnndeaaGreatDoorG02
namespace Ob
/-- What 'Put' answers. -/
def putF (s : List S) (o : O) : List S × Int × (Int × Int) :=
  if (stF s).1 ≠ 0 then ([], 0, stF s) else if (obF o).1 ≠ 0 then ([], 0, ((obF o).1, -1)) else if addOk s (dig o) o = false then ([], 0, (19, -1))
  else if 40 < (addS s (dig o) o).length then ([], 0, (14, -1)) else (addS s (dig o) o, dig o, (0, 0))
end Ob
namespace Go.Proofs.YtipjejnncnndeaaGreatDoor
open Go.RowKit Go.V
set_option linter.unusedVariables false

theorem blk_new2 (w : World) (o o' : Obj) (t : TypeId) (cs : Array Value) : Blk (((w.alloc o).alloc o').alloc (.cells cs t)) (w.heap.size + 2) t cs := by
  simpa using Blk.new ((w.alloc o).alloc o') t cs
theorem results_24_t_28 {fn : Func} {a b t : Tmp} (h : fn.results = #[.cell a 24, .tmp t, .cell b 33]) (tmps : Array Value) (w : World) (g g' : Nat) (x c i : Value) (ha : tmps.getD a undef = .pointer (some ⟨g, 0, none⟩)) (hb' : tmps.getD b undef = .pointer (some ⟨g', 0, none⟩))
    (hb : Blk w g 24 #[x]) (hc : Blk w g' 33 #[c, i]) : (results fn tmps).run Tryz.prog w = .ok (.tuple #[.agg #[x], tmps.getD t undef, .agg #[c, i]]) w := by
  have h0 := hb.cell 0
  have k0 := hc.cell 0
  have k1 := hc.cell 1
  simp only [List.getElem?_toArray, List.getElem?_cons_zero, List.getElem?_cons_succ] at h0 k0 k1
  have ha' : tmps[a]?.getD undef = .pointer (some ⟨g, 0, none⟩) := by simpa using ha
  have hb'' : tmps[b]?.getD undef = .pointer (some ⟨g', 0, none⟩) := by simpa using hb'
  simp [results, h, go_sem, ha', hb'', h0, k0, k1]
theorem put12 {w1 : World} {g1 g2 : Nat} {t1 t2 : TypeId} {a d e : Value} (h1 : Blk w1 g1 t1 #[a]) (h2 : Blk w1 g2 t2 #[d, e]) (hne : g1 ≠ g2) (x u v : Value) :
    Blk (((w1.setCell ⟨g1, 0, none⟩ x).setCell ⟨g2, 0, none⟩ u).setCell ⟨g2, 1, none⟩ v) g1 t1 #[x] ∧
    Blk (((w1.setCell ⟨g1, 0, none⟩ x).setCell ⟨g2, 0, none⟩ u).setCell ⟨g2, 1, none⟩ v) g2 t2 #[u, v] ∧
    ∀ (B : Nat) (w0 : World), B ≤ g1 → B ≤ g2 → Below B w0 w1 → Below B w0 (((w1.setCell ⟨g1, 0, none⟩ x).setCell ⟨g2, 0, none⟩ u).setCell ⟨g2, 1, none⟩ v) :=
  ⟨((by simpa using h1.set_ 0 x : Blk (w1.setCell ⟨g1, 0, none⟩ x) g1 t1 #[x]).far (p := ⟨g2, 0, none⟩) hne u).far (p := ⟨g2, 1, none⟩) hne v,
   blk_put2 (h2.far (p := ⟨g1, 0, none⟩) (Ne.symm hne) x) u v,
   fun B w0 h3 h4 hb => ((hb.setCell (p := ⟨g1, 0, none⟩) h3 _).setCell (p := ⟨g2, 0, none⟩) h4 _).setCell (p := ⟨g2, 1, none⟩) h4 _⟩
/-- The state of 'Put': its boxes and results. -/
structure PtSt (w wr : World) (A : Option Addr) (n k : Nat) (ov : Array Value) : Prop where
  bx : Blk wr w.heap.size 24 #[.slice A n k]
  bo : Blk wr (w.heap.size + 1) 48 ov
  r1 : Blk wr (w.heap.size + 2) 24 #[.slice none 0 0]
  r2 : Blk wr (w.heap.size + 3) 33 #[.int .i64 0, .int .i64 0]
  bel : Below w.heap.size w wr
section
variable {w wr w' : World} {A : Option Addr} {n k : Nat} {ov : Array Value}
theorem PtSt.below (h : PtSt w wr A n k ov) (hb : Below wr.heap.size wr w') : PtSt w w' A n k ov :=
  ⟨h.bx.below hb h.bx.lt, h.bo.below hb h.bo.lt, h.r1.below hb h.r1.lt, h.r2.below hb h.r2.lt, h.bel.trans (hb.mono h.bel.size)⟩
theorem PtSt.touch (h : PtSt w wr A n k ov) {g : Nat} {row : Option Nat} (ht : TouchS wr w' g row) (hg : w.heap.size + 4 ≤ g) (hr : ∀ b, row = some b → w.heap.size + 4 ≤ b) : PtSt w w' A n k ov := by
  have hl := h.r2.lt
  exact ⟨h.bx.touchS ht (by omega) (fun e => by have := hr _ e.symm; omega), h.bo.touchS ht (by omega) (fun e => by have := hr _ e.symm; omega), h.r1.touchS ht (by omega) (fun e => by have := hr _ e.symm; omega), h.r2.touchS ht (by omega) (fun e => by have := hr _ e.symm; omega),
    h.bel.trans (ht.below (by omega) (by omega) (fun k hk => by have := hr k hk; omega))⟩
theorem PtSt.facts (h : PtSt w wr A n k ov) : wr.cell? ⟨w.heap.size, 0, none⟩ = some (.slice A n k) ∧ wr.cell? ⟨w.heap.size + 2, 0, none⟩ = some (.slice none 0 0) ∧ wr.frozen? ⟨w.heap.size + 2, 0, none⟩ = false ∧
    wr.cell? ⟨w.heap.size + 3, 0, none⟩ = some (.int .i64 0) ∧ wr.cell? ⟨w.heap.size + 3, 1, none⟩ = some (.int .i64 0) ∧ wr.frozen? ⟨w.heap.size + 3, 0, none⟩ = false ∧ wr.frozen? ⟨w.heap.size + 3, 1, none⟩ = false ∧
    w.heap.size < wr.heap.size ∧ w.heap.size + 1 < wr.heap.size ∧ w.heap.size + 2 < wr.heap.size ∧ w.heap.size + 3 < wr.heap.size :=
  ⟨(h.bx.cell 0).trans rfl, (h.r1.cell 0).trans rfl, h.r1.frozen 0, (h.r2.cell 0).trans rfl, (h.r2.cell 1).trans rfl, h.r2.frozen 0, h.r2.frozen 1, h.bx.lt, h.bo.lt, h.r1.lt, h.r2.lt⟩
end
def PtPost (w : World) (r : List Ob.S × Int × (Int × Int)) (e : Ending) (w' : World) : Prop := ∃ A c, e = .returned (.tuple #[stV A r.1.length c, .int .i64 r.2.1, .agg #[.int .i64 r.2.2.1, .int .i64 r.2.2.2]]) ∧ r.1.length ≤ c ∧ StV w' (Under w.heap.size) A r.1 ∧ Below w.heap.size w w'
theorem PtPost.no {w w' : World} {r : List Ob.S × Int × (Int × Int)} {c i : Int} (h : r = ([], 0, (c, i))) (hb : Below w.heap.size w w') : PtPost w r (.returned (.tuple #[.agg #[.slice none 0 0], .int .i64 0, .agg #[.int .i64 c, .int .i64 i]])) w' := by
  subst h; exact ⟨none, 0, rfl, Nat.le_refl _, ⟨[], SA.nil, rfl⟩, hb⟩
set_option maxRecDepth 100000 in
set_option maxHeartbeats 16000000 in
theorem put_any (w : World) (A : Option Addr) (k : Nat) (s : List Ob.S) (o : Ob.O) (Al : Option Addr) (kl : Nat) (Ad : Option Addr) (kd : Nat) (hv : StV w Free A s) (hl64 : s.length ≤ 9223372036854775807) (ho : ObA w Free o Al kl Ad kd) :
    Calls Tryz.prog 9 #[stV A s.length k, obV o Al kl Ad kd] w (PtPost w (Ob.putF s o)) := by
  have HV := Lib.hid (fun (w1 : World) (hb : Below w.heap.size w w1) => hv.keep (free_below hb))
  have HO := Lib.hid (fun (w1 : World) (hb : Below w.heap.size w w1) => ho.keep (free_below hb))
  have HPF := Lib.hid (Ob.putF.eq_1 s o)
  have HC := Lib.hid (fun (w1 : World) (hb : Below w.heap.size w w1) => validate_any w1 A k s (HV.out _ hb) hl64)
  clear hv ho
  generalize hr : Ob.putF s o = r at *
  clear hr
  obtain ⟨kk, ls, da⟩ := o
  have st0 : PtSt w ((((w.alloc (.cells #[.slice A s.length k] 24)).alloc (.cells #[.int .i64 kk, .slice Al ls.length kl, .slice Ad da.length kd] 48)).alloc (.cells #[.slice none 0 0] 24)).alloc (.cells #[.int .i64 0, .int .i64 0] 33)) A s.length k #[.int .i64 kk, .slice Al ls.length kl, .slice Ad da.length kd] :=
    ⟨(((Blk.new _ _ _).alloc _).alloc _).alloc _, ((blk_new1 _ _ _ _).alloc _).alloc _, (blk_new2 _ _ _ _ _).alloc _, by simpa using Blk.new (((w.alloc (.cells #[.slice A s.length k] 24)).alloc (.cells #[.int .i64 kk, .slice Al ls.length kl, .slice Ad da.length kd] 48)).alloc (.cells #[.slice none 0 0] 24)) 33 #[.int .i64 0, .int .i64 0], (below_alloc3 _ _ _ _).alloc (by simp; omega) _⟩
  go_enter Tryz.func9, Tryz.ntmps9
  go_wp2_with fail
  go_at_call 11
  refine (HC.out _ st0.bel).mono ?_
  rintro e w1 ⟨rfl, hb1⟩
  have st1 := st0.below hb1
  obtain ⟨p0, p1, p2, p3, p4, p5, p6, l0, l1, l2, l3⟩ := st1.facts
  clear hb1 HC st0
  by_cases hbad : (Ob.stF s).1 ≠ 0
  · have H := Lib.hid (show r = ([], 0, Ob.stF s) from by rw [HPF.out, if_pos hbad])
    have hb1 : ((Ob.stF s).1 == 0) = false := by simpa using hbad
    have hb2 : ((Ob.stF s).1 != 0) = true := by simpa using hbad
    clear hbad HPF HV HO
    generalize Ob.stF s = q at *
    obtain ⟨cd, ix⟩ := q
    simp only at hb1 hb2
    have HR : Hid (∀ w', Below w.heap.size w w' → PtPost w r (.returned (.tuple #[.agg #[.slice none 0 0], .int .i64 0, .agg #[.int .i64 cd, .int .i64 ix]])) w') := Lib.hid fun w' hb => PtPost.no H.out hb
    clear H
    generalize PtPost w r = R at *
    go_wp2_with fail
    go_region
    all_goals
      go_wp2_with fail
      obtain ⟨k1, k2, k3⟩ := put12 st1.r1 st1.r2 (by omega) (.slice none 0 0) (.int .i64 cd) (.int .i64 ix)
      refine bodyPost_ret (results_24_t_28 rfl _ _ (w.heap.size + 2) (w.heap.size + 3) (.slice none 0 0) (.int .i64 cd) (.int .i64 ix) rfl rfl ((k1.alloc _).drewN 1) ((k2.alloc _).drewN 1)) rfl ?_
      refine HR.out _ ?_
      exact Go.V.below_drewN ((k3 _ _ (by omega) (by omega) st1.bel).alloc (by simp [World.setCell]; omega) _) 1
  · obtain ⟨hz, hok⟩ := Ob.stF_ok (by simpa using hbad)
    have HP2 := Lib.hid (HPF.out.trans (if_neg hbad))
    rw [hz]
    have st2 := st1.below (below_alloc1 w1 (.cells #[.int .i64 0, .int .i64 0] 33))
    clear hz hbad p0 p1 p2 p3 p4 p5 p6 l0 l1 l2 l3 HPF
    obtain ⟨p0, p1, p2, p3, p4, p5, p6, l0, l1, l2, l3⟩ := st2.facts
    have po0 := st2.bo.cell 0
    have po1 := st2.bo.cell 1
    have po2 := st2.bo.cell 2
    simp only [List.getElem?_toArray, List.getElem?_cons_zero, List.getElem?_cons_succ] at po0 po1 po2
    have hol := st2.bo.lt
    by_cases hob : (Ob.obF ⟨kk, ls, da⟩).1 ≠ 0
    · have HD := Lib.hid (digest_bad _ ⟨kk, ls, da⟩ Al kl Ad kd (HO.out _ st2.bel) hob)
      have H := Lib.hid (HP2.out.trans (if_pos hob))
      have hb1 : ((Ob.obF ⟨kk, ls, da⟩).1 == 0) = false := by simpa using hob
      have hb2 : ((Ob.obF ⟨kk, ls, da⟩).1 != 0) = true := by simpa using hob
      clear hob HV HO hok HP2
      generalize Ob.obF ⟨kk, ls, da⟩ = q at *
      obtain ⟨cd, ix⟩ := q
      simp only at hb1 hb2 H
      have HR : Hid (∀ w', Below w.heap.size w w' → PtPost w r (.returned (.tuple #[.agg #[.slice none 0 0], .int .i64 0, .agg #[.int .i64 cd, .int .i64 (-1)]])) w') := Lib.hid fun w' hb => PtPost.no H.out hb
      clear H
      generalize PtPost w r = R at *
      go_wp2_with fail
      go_at_call 18
      refine HD.out.mono ?_
      rintro e w2 ⟨rfl, hb2'⟩
      have st3 := st2.below hb2'
      obtain ⟨p0, p1, p2, p3, p4, p5, p6, l0, l1, l2, l3⟩ := st3.facts
      clear hb2' HD st2 st1
      go_wp2_with fail
      go_region
      all_goals
        go_wp2_with fail
        obtain ⟨k1, k2, k3⟩ := put12 st3.r1 st3.r2 (by omega) (.slice none 0 0) (.int .i64 cd) (.int .i64 (-1))
        refine bodyPost_ret (results_24_t_28 rfl _ _ (w.heap.size + 2) (w.heap.size + 3) (.slice none 0 0) (.int .i64 cd) (.int .i64 (-1)) rfl rfl ((k1.alloc _).drewN 1) ((k2.alloc _).drewN 1)) rfl ?_
        refine HR.out _ ?_
        exact Go.V.below_drewN ((k3 _ _ (by omega) (by omega) st3.bel).alloc (by simp [World.setCell]; omega) _) 1
    · have hobk := (Ob.obF_ok (by simpa using hob)).2
      have HD := Lib.hid (digest_ok _ ⟨kk, ls, da⟩ Al kl Ad kd (HO.out _ st2.bel) hobk)
      have HP3 := Lib.hid (HP2.out.trans (if_neg hob))
      have hdl := Ob.dig_lt ⟨kk, ls, da⟩
      have HCY := Lib.hid (fun (w' : World) (hb : Below w.heap.size w w') => copy_any w' A k s (HV.out _ hb) (by have := hok.len; omega) (fun i hi => by have := (hok.ok i hi).ln; omega))
      have HSO := Lib.hid hok.sorted
      have hsl := hok.len
      have hln := hobk.ln
      simp only at hln
      clear hob HP2 hobk hok HV st1
      generalize hdg : ((Ob.dig ⟨kk, ls, da⟩ : Nat) : Int) = dg at *
      have hd64 : I64 dg := by rw [← hdg]; unfold I64; omega
      clear hdl hdg
      go_wp2_with fail
      go_at_call 18
      refine HD.out.mono ?_
      rintro e w2 ⟨rfl, hb2'⟩
      have st3 := (st2.below hb2').below (below_alloc1 w2 (.cells #[.int .i64 0, .int .i64 0] 33))
      clear p0 p1 p2 p3 p4 p5 p6 l0 l1 l2 l3 po0 po1 po2 hol
      obtain ⟨p0, p1, p2, p3, p4, p5, p6, l0, l1, l2, l3⟩ := st3.facts
      have st3' := st2.below hb2'
      obtain ⟨q0, q1, q2, q3, q4, q5, q6, m0, m1, m2, m3⟩ := st3'.facts
      clear hb2' HD st2
      go_wp2_with fail
      go_at_call 17
      refine (HCY.out _ st3.bel).mono ?_
      rintro e w3 ⟨A3, c3, xs, rfl, hown3, hb3⟩
      have st4' := st3.below hb3
      have st4 := st4'.below (below_alloc1 w3 (.cells #[.slice A3 s.length c3] 24))
      have hz3 := hb3.size
      have out4 : OutSt (w3.alloc (.cells #[.slice A3 s.length c3] 24)) w3.heap.size (w2.alloc (.cells #[.int .i64 0, .int .i64 0] 33)).heap.size (fun b => Under (w2.alloc (.cells #[.int .i64 0, .int .i64 0] 33)).heap.size b ∨ b = w3.heap.size) A3 c3 s xs :=
        ⟨Blk.new _ _ _, hown3.own.alloc _, hown3.rows.mono (StR.keep (Keeps.below (below_alloc1 _ _) (fun b hb h => by
          rcases h with (h | h) | h
          · exact .inl h
          · omega
          · exact .inr h))), .inr rfl, Nat.le_trans hz3 (size_alloc_le _ _)⟩
      have hXs : ∀ b, (Under (w2.alloc (.cells #[.int .i64 0, .int .i64 0] 33)).heap.size b ∨ b = w3.heap.size) → b < (w3.alloc (.cells #[.slice A3 s.length c3] 24)).heap.size := fun b hb => by
        rcases hb with hb | hb
        · exact Nat.lt_of_lt_of_le hb (Nat.le_trans hz3 (size_alloc_le _ _))
        · simp; omega
      have HAD := Lib.hid (add_any _ _ _ _ _ _ _ _ dg ⟨kk, ls, da⟩ Al kl Ad kd out4 hXs HSO.out (by omega) hd64 (HO.out _ st4.bel) (by simp only; omega))
      have hrowlo : ∀ b, (Value.slice A3 s.length c3).ownBlock = some b → w.heap.size + 4 ≤ b := fun b hb => by
        have h1 := (hown3.own.lt b hb).1
        have h2 : w.heap.size + 3 < (w2.alloc (.cells #[.int .i64 0, .int .i64 0] 33)).heap.size := l3
        omega
      clear p0 p1 p2 p3 p4 p5 p6 l0 l1 l2 l3 q0 q1 q2 q3 q4 q5 q6 m0 m1 m2 m3
      obtain ⟨p0, p1, p2, p3, p4, p5, p6, l0, l1, l2, l3⟩ := st4.facts
      obtain ⟨q0, q1, q2, q3, q4, q5, q6, m0, m1, m2, m3⟩ := st4'.facts
      have po0 := st4'.bo.cell 0
      have po1 := st4'.bo.cell 1
      have po2 := st4'.bo.cell 2
      simp only [List.getElem?_toArray, List.getElem?_cons_zero, List.getElem?_cons_succ] at po0 po1 po2
      clear hb3 HCY hown3 out4 hXs HSO
      go_wp2_with fail
      go_at_call 19
      refine HAD.out.mono ?_
      rintro e w4 ⟨A4, c4, xs4, rfl, out4, ht4⟩
      have st5 := st4.touch ht4 (by omega) hrowlo
      have g0 := out4.blk.cell 0
      have gl := out4.blk.lt
      simp only [List.getElem?_toArray, List.getElem?_cons_zero] at g0
      clear ht4 HAD st4 st4' p0 p1 p2 p3 p4 p5 p6 l0 l1 l2 l3 q0 q1 q2 q3 q4 q5 q6 po0 po1 po2
      obtain ⟨p0, p1, p2, p3, p4, p5, p6, l0, l1, l2, l3⟩ := st5.facts
      by_cases hok : Ob.addOk s dg ⟨kk, ls, da⟩ = false
      · have HR : Hid (∀ w', Below w.heap.size w w' → PtPost w r (.returned (.tuple #[.agg #[.slice none 0 0], .int .i64 0, .agg #[.int .i64 19, .int .i64 (-1)]])) w') := Lib.hid fun w' hb => PtPost.no (HP3.out.trans (if_pos hok)) hb
        rw [hok]
        clear hok HP3
        generalize PtPost w r = R at *
        go_wp2_with fail
        obtain ⟨k1, k2, k3⟩ := put12 st5.r1 st5.r2 (by omega) (.slice none 0 0) (.int .i64 19) (.int .i64 (-1))
        refine bodyPost_ret (results_24_t_28 rfl _ _ (w.heap.size + 2) (w.heap.size + 3) (.slice none 0 0) (.int .i64 19) (.int .i64 (-1)) rfl rfl k1 k2) rfl ?_
        exact HR.out _ (k3 _ _ (by omega) (by omega) st5.bel)
      · have HP4 := Lib.hid (HP3.out.trans (if_neg hok))
        have hok2 : Ob.addOk s dg ⟨kk, ls, da⟩ = true := by simpa using hok
        rw [hok2]
        clear hok hok2 HP3
        have hcap : (Ob.addS s dg ⟨kk, ls, da⟩).length ≤ c4 := by
          obtain ⟨A', c', e1, hcc, _⟩ := own_form out4.own
          injection e1 with _ _ e3
          subst e3
          exact hcc
        generalize Ob.addS s dg ⟨kk, ls, da⟩ = s4 at *
        by_cases h40 : 40 < s4.length
        · have HR : Hid (∀ w', Below w.heap.size w w' → PtPost w r (.returned (.tuple #[.agg #[.slice none 0 0], .int .i64 0, .agg #[.int .i64 14, .int .i64 (-1)]])) w') := Lib.hid fun w' hb => PtPost.no (HP4.out.trans (if_pos h40)) hb
          have h40' : (40 : Int) < s4.length := by omega
          clear HP4
          generalize PtPost w r = R at *
          go_wp2_with fail
          obtain ⟨k1, k2, k3⟩ := put12 st5.r1 st5.r2 (by omega) (.slice none 0 0) (.int .i64 14) (.int .i64 (-1))
          refine bodyPost_ret (results_24_t_28 rfl _ _ (w.heap.size + 2) (w.heap.size + 3) (.slice none 0 0) (.int .i64 14) (.int .i64 (-1)) rfl rfl k1 k2) rfl ?_
          exact HR.out _ (k3 _ _ (by omega) (by omega) st5.bel)
        · have H := Lib.hid (HP4.out.trans (if_neg h40))
          have h40' : ¬ (40 : Int) < s4.length := by omega
          clear HP4 h40
          go_wp2_with fail
          obtain ⟨k1, k2, k3⟩ := put12 st5.r1 st5.r2 (by omega) (.slice A4 s4.length c4) (.int .i64 0) (.int .i64 0)
          refine bodyPost_ret (results_24_t_28 rfl _ _ (w.heap.size + 2) (w.heap.size + 3) (.slice A4 s4.length c4) (.int .i64 0) (.int .i64 0) rfl rfl k1 k2) rfl ?_
          rw [H.out]
          have hb2 : w.heap.size + 4 ≤ (w2.alloc (.cells #[.int .i64 0, .int .i64 0] 33)).heap.size := st3.r2.lt
          have hu1 : Under (w2.alloc (.cells #[.int .i64 0, .int .i64 0] 33)).heap.size (w.heap.size + 2) := by unfold Under; omega
          have hu2 : Under (w2.alloc (.cells #[.int .i64 0, .int .i64 0] 33)).heap.size (w.heap.size + 3) := by unfold Under; omega
          have hkp := (((Keeps.setCell w4 (Or1 (fun b => Under (w2.alloc (.cells #[.int .i64 0, .int .i64 0] 33)).heap.size b ∨ b = w3.heap.size) (.slice A4 s4.length c4)) ⟨w.heap.size + 2, 0, none⟩ (.slice A4 s4.length c4) (.inl (.inl hu1))).trans (Keeps.setCell _ _ ⟨w.heap.size + 3, 0, none⟩ (.int .i64 0) (.inl (.inl hu2)))).trans (Keeps.setCell _ _ ⟨w.heap.size + 3, 1, none⟩ (.int .i64 0) (.inl (.inl hu2)))).into (X'' := Under w.heap.size) (fun b hb => .inl (.inl (by unfold Under at *; omega)))
          have hne1 : some (w.heap.size + 2) ≠ (Value.slice A4 s4.length c4).ownBlock := fun e => by have := (out4.own.lt _ e.symm).1; omega
          have hne2 : some (w.heap.size + 3) ≠ (Value.slice A4 s4.length c4).ownBlock := fun e => by have := (out4.own.lt _ e.symm).1; omega
          refine ⟨A4, c4, rfl, hcap, ⟨xs4, ?_, out4.rows.mono (StR.keep hkp)⟩, k3 _ _ (by omega) (by omega) st5.bel⟩
          exact SA.of_own' (own_setCell (own_setCell (own_setCell out4.own hne1 _) hne2 _) hne2 _) (fun b hb hU => by have := (out4.own.lt b hb).1; unfold Under at hU; omega)
end Go.Proofs.YtipjejnncnndeaaGreatDoor
namespace Gc
open Ob
theorem keep_take (s : List S) (m : Int → Bool) (i : Nat) (hi : i < s.length) : keep (s.take (i + 1)) m = keep (s.take i) m ++ (if m (it s i).dig = true then [it s i] else []) := by
  unfold keep
  rw [List.take_succ_eq_append_getElem hi, List.filter_append, it_eq s i hi]
  congr 1
  by_cases h : m (it s i).dig = true <;> simp [h]
theorem keep_len (s : List S) (m : Int → Bool) (i : Nat) : (keep (s.take i) m).length ≤ i := Nat.le_trans (List.length_filter_le _ _) (by simp; omega)
end Gc
namespace Go.Proofs.YtipjejnncnndeaaGreatDoor
open Go.RowKit Go.V
set_option linter.unusedVariables false

/-- The blocks up to g and those from B on. -/
def XB (g B : Nat) : Nat → Prop := fun x => x ≤ g ∨ B ≤ x
theorem SA.outB {w : World} {X : Nat → Prop} {A : Option Addr} {vs : List Value} {g : Nat} (h : SA w X A vs) (hX : ∀ b, b ≤ g → X b) : SA w (XB g w.heap.size) A vs := by
  rcases h with h | ⟨b, off, e, hb, hx, hc⟩
  · exact .inl h
  · refine .inr ⟨b, off, e, hb, ?_, hc⟩
    rintro (h1 | h1)
    · exact hx (hX b h1)
    · omega
theorem ObA.outB {w : World} {X : Nat → Prop} {o : Ob.O} {Al : Option Addr} {kl : Nat} {Ad : Option Addr} {kd g : Nat} (h : ObA w X o Al kl Ad kd) (hX : ∀ b, b ≤ g → X b) : ObA w (XB g w.heap.size) o Al kl Ad kd :=
  ⟨h.kind, h.all, h.lk, h.dk, h.ll, h.dl, SA.outB h.ls hX, SA.outB h.ds hX⟩
/-- A store of the call's own: all of it lies between g and the heap's end. -/
theorem OwnSt.outB {w : World} {base g : Nat} {A : Option Addr} {c : Nat} {s : List Ob.S} {xs : List Value} (h : OwnSt w base (Under base) A c s xs) (hg : g < base) : StV w (XB g w.heap.size) A s :=
  ⟨xs, SA.outB (SA.of_own h.own (fun b hb => hb)) (fun b hb => by show b < base; omega), h.rows.mono fun x cs ⟨Al, kl, Ad, kd, e, h1, h2⟩ => ⟨Al, kl, Ad, kd, e, h1, ObA.outB h2 (fun b hb => .inl (by show b < base; omega))⟩⟩
/-- The state of 'Collect': the parameters' copies and the results' cells. -/
structure ClSt (w wr : World) (A : Option Addr) (n k : Nat) (A2 : Option Addr) (n2 k2 : Nat) : Prop where
  b0 : Blk wr w.heap.size 24 #[.slice A n k]
  b1 : Blk wr (w.heap.size + 1) 27 #[.slice A2 n2 k2]
  r1 : Blk wr (w.heap.size + 2) 24 #[.slice none 0 0]
  r2 : Blk wr (w.heap.size + 3) 33 #[.int .i64 0, .int .i64 0]
  bel : Below w.heap.size w wr
section
variable {w wr w' : World} {A : Option Addr} {n k : Nat} {A2 : Option Addr} {n2 k2 : Nat}
theorem ClSt.below (h : ClSt w wr A n k A2 n2 k2) (hb : Below wr.heap.size wr w') : ClSt w w' A n k A2 n2 k2 :=
  ⟨h.b0.below hb h.b0.lt, h.b1.below hb h.b1.lt, h.r1.below hb h.r1.lt, h.r2.below hb h.r2.lt, h.bel.trans (hb.mono h.bel.size)⟩
theorem ClSt.grown {row : Option Nat} (h : ClSt w wr A n k A2 n2 k2) (hg : wr.grownBy w' row) (hr : ∀ b, row = some b → w.heap.size + 4 ≤ b) : ClSt w w' A n k A2 n2 k2 :=
  ⟨h.b0.grown hg (fun e => by have := hr _ e.symm; omega), h.b1.grown hg (fun e => by have := hr _ e.symm; omega), h.r1.grown hg (fun e => by have := hr _ e.symm; omega), h.r2.grown hg (fun e => by have := hr _ e.symm; omega),
    h.bel.grown hg h.bel.size (fun j hj => by have := hr _ hj; omega)⟩
theorem ClSt.set (h : ClSt w wr A n k A2 n2 k2) {p : Addr} (hp : w.heap.size + 4 ≤ p.block) (u : Value) : ClSt w (wr.setCell p u) A n k A2 n2 k2 :=
  ⟨h.b0.far (by omega) u, h.b1.far (by omega) u, h.r1.far (by omega) u, h.r2.far (by omega) u, h.bel.setCell (by omega) u⟩
theorem ClSt.facts (h : ClSt w wr A n k A2 n2 k2) : wr.cell? ⟨w.heap.size, 0, none⟩ = some (.slice A n k) ∧ wr.cell? ⟨w.heap.size + 1, 0, none⟩ = some (.slice A2 n2 k2) ∧ wr.cell? ⟨w.heap.size + 2, 0, none⟩ = some (.slice none 0 0) ∧ wr.frozen? ⟨w.heap.size + 2, 0, none⟩ = false ∧
    wr.cell? ⟨w.heap.size + 3, 0, none⟩ = some (.int .i64 0) ∧ wr.cell? ⟨w.heap.size + 3, 1, none⟩ = some (.int .i64 0) ∧ wr.frozen? ⟨w.heap.size + 3, 0, none⟩ = false ∧ wr.frozen? ⟨w.heap.size + 3, 1, none⟩ = false ∧
    w.heap.size < wr.heap.size ∧ w.heap.size + 1 < wr.heap.size ∧ w.heap.size + 2 < wr.heap.size ∧ w.heap.size + 3 < wr.heap.size :=
  ⟨(h.b0.cell 0).trans rfl, (h.b1.cell 0).trans rfl, (h.r1.cell 0).trans rfl, h.r1.frozen _, (h.r2.cell 0).trans rfl, (h.r2.cell 1).trans rfl, h.r2.frozen _, h.r2.frozen _, h.b0.lt, h.b1.lt, h.r1.lt, h.r2.lt⟩
theorem ClSt.new (w : World) (A : Option Addr) (n k : Nat) (A2 : Option Addr) (n2 k2 : Nat) : ClSt w ((((w.alloc (.cells #[.slice A n k] 24)).alloc (.cells #[.slice A2 n2 k2] 27)).alloc (.cells #[.slice none 0 0] 24)).alloc (.cells #[.int .i64 0, .int .i64 0] 33)) A n k A2 n2 k2 :=
  ⟨(((Blk.new _ _ _).alloc _).alloc _).alloc _, ((blk_new1 _ _ _ _).alloc _).alloc _, (blk_new2 _ _ _ _ _).alloc _, by simpa using Blk.new (((w.alloc (.cells #[.slice A n k] 24)).alloc (.cells #[.slice A2 n2 k2] 27)).alloc (.cells #[.slice none 0 0] 24)) 33 #[.int .i64 0, .int .i64 0], (below_alloc3 _ _ _ _).alloc (by simp; omega) _⟩
end
/-- The state of the loop over the references. -/
structure C1St (w wr : World) (A : Option Addr) (n k : Nat) (A2 : Option Addr) (k2 : Nat) (R : List Rf.R) (i : Nat) (At : Option Addr) (ct : Nat) : Prop where
  st : ClSt w wr A n k A2 R.length k2
  own : wr.ownsRow (w.heap.size + 4) 3 1 (.slice At i ct) i (intsV ((R.take i).map Rf.R.tgt))
theorem C1St.app {w wr w3 : World} {A : Option Addr} {n k : Nat} {A2 : Option Addr} {k2 : Nat} {R : List Rf.R} {i : Nat} {At : Option Addr} {ct : Nat} (h : C1St w wr A n k A2 k2 R i At ct) (hi : i < R.length) (o1 o2 : Obj) {A' : Option Addr} {k' : Nat}
    (hown : w3.ownsRow (w.heap.size + 4) 3 1 (.slice A' (i + 1) k') (i + 1) (intsV ((R.take i).map Rf.R.tgt) ++ [.int .i64 (Rf.it R i).tgt])) (hg : ((wr.alloc o1).alloc o2).grownBy w3 (Value.slice At i ct).ownBlock) : C1St w w3 A n k A2 k2 R (i + 1) A' k' := by
  refine ⟨((h.st.below (below_alloc1 _ o1)).below (below_alloc1 _ o2)).grown hg (fun b hb => (h.own.lt b hb).1), ?_⟩
  rw [List.take_succ_eq_append_getElem hi, List.map_append, intsV_append, Rf.it_eq R i hi]
  exact hown
/-- The state of the loop over the copied objects. g: the variable that holds what is kept; the rows of the call's own lie from B on. -/
structure C3St (w wr : World) (A : Option Addr) (n k : Nat) (A2 : Option Addr) (n2 k2 g B b n0 : Nat) (m : Int → Bool) (s : List Ob.S) (A5 : Option Addr) (i : Nat) (Ao : Option Addr) (ko : Nat) (xs : List Value) (Ag : Option Addr) (kg : Nat) (gs : List Int) : Prop where
  st : ClSt w wr A n k A2 n2 k2
  set : SetV wr b n0 m
  src : StV wr (XB g B) A5 s
  out : Blk wr g 24 #[.slice Ao (Gc.keep (s.take i) m).length ko]
  own : wr.ownsRow B 65 4 (.slice Ao (Gc.keep (s.take i) m).length ko) (Gc.keep (s.take i) m).length xs
  rows : RowsR (StR wr (XB g B)) (Gc.keep (s.take i) m) xs
  own2 : wr.ownsRow B 3 1 (.slice Ag gs.length kg) gs.length (intsV gs)
  gn : gs.length ≤ i
  hi : B ≤ wr.heap.size
  hbg : b < g
  hgB : g < B
  hwg : w.heap.size + 4 ≤ g
section
variable {w wr w' w3 : World} {A : Option Addr} {n k : Nat} {A2 : Option Addr} {n2 k2 g B b n0 : Nat} {m : Int → Bool} {s : List Ob.S} {A5 : Option Addr} {i : Nat} {Ao : Option Addr} {ko : Nat} {xs : List Value} {Ag : Option Addr} {kg : Nat} {gs : List Int}
theorem C3St.below (h : C3St w wr A n k A2 n2 k2 g B b n0 m s A5 i Ao ko xs Ag kg gs) (hb : Below wr.heap.size wr w') : C3St w w' A n k A2 n2 k2 g B b n0 m s A5 i Ao ko xs Ag kg gs := by
  have hk : Keeps wr (XB g B) w' (XB g B) := Keeps.below hb (fun _ _ h => h)
  refine ⟨h.st.below hb, h.set.below hb, h.src.keep hk, h.out.below hb h.out.lt, h.own.kept (only_of_below hb none) ?_, h.rows.mono (StR.keep hk), h.own2.kept (only_of_below hb none) ?_, h.gn, Nat.le_trans h.hi hb.size, h.hbg, h.hgB, h.hwg⟩
  · cases hv : (Value.slice Ao (Gc.keep (s.take i) m).length ko).ownBlock <;> simp
  · cases hv : (Value.slice Ag gs.length kg).ownBlock <;> simp
theorem C3St.keeps (h : C3St w wr A n k A2 n2 k2 g B b n0 m s A5 i Ao ko xs Ag kg gs) {row : Option Nat} (hg : wr.grownBy w3 row) (hr : ∀ j, row = some j → B ≤ j) : Keeps wr (XB g B) w3 (XB g B) :=
  Keeps.grown hg (fun j hj _ => .inr (hr j hj)) (fun _ _ h => h)
theorem C3St.app (h : C3St w wr A n k A2 n2 k2 g B b n0 m s A5 i Ao ko xs Ag kg gs) (hi : i < s.length) (hm : m (Ob.it s i).dig = true) {A' : Option Addr} {k' : Nat} {cs : List Value} (hcs : StR wr (XB g B) (Ob.it s i) cs)
    (hg : wr.grownBy w3 (Value.slice Ao (Gc.keep (s.take i) m).length ko).ownBlock)
    (hown : w3.ownsRow B 65 4 (.slice A' ((Gc.keep (s.take i) m).length + 1) k') ((Gc.keep (s.take i) m).length + 1) (xs ++ cs)) :
    C3St w (w3.setCell ⟨g, 0, none⟩ (.slice A' ((Gc.keep (s.take i) m).length + 1) k')) A n k A2 n2 k2 g B b n0 m s A5 (i + 1) A' k' (xs ++ cs) Ag kg gs := by
  have hr : ∀ j, (Value.slice Ao (Gc.keep (s.take i) m).length ko).ownBlock = some j → B ≤ j := fun j hj => (h.own.lt j hj).1
  have hkp := (h.keeps hg hr).trans (Keeps.setCell w3 (XB g B) ⟨g, 0, none⟩ (.slice A' ((Gc.keep (s.take i) m).length + 1) k') (.inl (Nat.le_refl _)))
  have hk1 : Gc.keep (s.take (i + 1)) m = Gc.keep (s.take i) m ++ [Ob.it s i] := by rw [Gc.keep_take s m i hi, if_pos hm]
  have hgB := h.hgB
  have hne := own_ne_own h.own h.own2 (by decide)
  have hl1 : (Gc.keep (s.take (i + 1)) m).length = (Gc.keep (s.take i) m).length + 1 := by rw [hk1]; simp
  have out3 := h.out.grown hg (fun e => by have := hr _ e.symm; omega)
  refine ⟨(h.st.grown hg (fun j hj => by have := hr j hj; have := h.hwg; omega)).set h.hwg _, (h.set.kept hg (fun e => by have := hr _ e.symm; have := h.hbg; omega)).setCell (by have := h.hbg; show b ≠ g; omega) _, h.src.keep hkp, ?_, ?_, ?_, ?_, by have := h.gn; omega, ?_, h.hbg, h.hgB, h.hwg⟩
  · rw [hl1]; simpa using out3.set_ 0 (.slice A' ((Gc.keep (s.take i) m).length + 1) k')
  · rw [hl1]
    exact own_setCell hown (fun e => by have := (hown.lt _ e.symm).1; simp at this; omega) _
  · rw [hk1]
    exact (h.rows.mono (StR.keep hkp)).append (RowsR.one (StR.keep hkp _ _ hcs))
  · refine own_setCell (h.own2.kept hg ?_) (fun e => by have := (h.own2.lt _ e.symm).1; simp at this; omega) _
    rcases own_ne_own h.own2 h.own (by decide) with e | e
    · exact .inl e
    · exact .inr e
  · have := hg.size; have := h.hi; simp [World.setCell]; omega
theorem C3St.gone (h : C3St w wr A n k A2 n2 k2 g B b n0 m s A5 i Ao ko xs Ag kg gs) (hi : i < s.length) (hm : m (Ob.it s i).dig = false) {A' : Option Addr} {k' : Nat} {d : Int}
    (hg : wr.grownBy w3 (Value.slice Ag gs.length kg).ownBlock)
    (hown : w3.ownsRow B 3 1 (.slice A' (gs.length + 1) k') (gs.length + 1) (intsV gs ++ [.int .i64 d])) :
    C3St w w3 A n k A2 n2 k2 g B b n0 m s A5 (i + 1) Ao ko xs A' k' (gs ++ [d]) := by
  have hr : ∀ j, (Value.slice Ag gs.length kg).ownBlock = some j → B ≤ j := fun j hj => (h.own2.lt j hj).1
  have hkp := h.keeps hg hr
  have hk1 : Gc.keep (s.take (i + 1)) m = Gc.keep (s.take i) m := by rw [Gc.keep_take s m i hi, if_neg (by simp [hm])]; simp
  have hgB := h.hgB
  refine ⟨h.st.grown hg (fun j hj => by have := hr j hj; have := h.hwg; omega), h.set.kept hg (fun e => by have := hr _ e.symm; have := h.hbg; omega), h.src.keep hkp, ?_, ?_, ?_, ?_, by have := h.gn; simp; omega, Nat.le_trans h.hi hg.size, h.hbg, h.hgB, h.hwg⟩
  · rw [hk1]; exact h.out.grown hg (fun e => by have := hr _ e.symm; omega)
  · rw [hk1]
    refine h.own.kept hg ?_
    rcases own_ne_own h.own h.own2 (by decide) with e | e
    · exact .inl e
    · exact .inr e
  · rw [hk1]; exact h.rows.mono (StR.keep hkp)
  · simpa [intsV] using hown
end
end Go.Proofs.YtipjejnncnndeaaGreatDoor
namespace Go.Proofs.YtipjejnncnndeaaGreatDoor
open Go.RowKit Go.V
set_option linter.unusedVariables false

/-- What 'Collect' answers: a fault, or the objects that are reached from the references. -/
def ClPost (w : World) (s : List Ob.S) (R : List Rf.R) (e : Ending) (w' : World) : Prop :=
  (∃ c i, c ≠ 0 ∧ e = .returned (.tuple #[.agg #[.slice none 0 0], .slice none 0 0, .agg #[.int .i64 c, .int .i64 i]]) ∧ Below w.heap.size w w') ∨
  (Ob.StOk s ∧ Rf.Ok R ∧ ∃ m A k Ag ng kg, (∀ d, m d = true ↔ Gc.Rc s (R.map Rf.R.tgt) d) ∧ e = .returned (.tuple #[.agg #[.slice A (Gc.keep s m).length k], .slice Ag ng kg, .agg #[.int .i64 0, .int .i64 0]]) ∧ StV w' (Under w.heap.size) A (Gc.keep s m) ∧ Below w.heap.size w w')
set_option maxRecDepth 100000 in
set_option maxHeartbeats 32000000 in
theorem collect_any (w : World) (hm : RF.Mx w) (A : Option Addr) (k : Nat) (s : List Ob.S) (hv : StV w Free A s) (hl64 : s.length ≤ 9223372036854775807) (A2 : Option Addr) (k2 : Nat) (R : List Rf.R) (hr : SA w Free A2 (RF.rsV R)) (hrl : R.length ≤ 9223372036854775807) (hk2 : R.length ≤ k2) :
    Calls Tryz.prog 7 #[stV A s.length k, .agg #[.slice A2 R.length k2], .slice none 0 0, .int .i64 0] w (ClPost w s R) := by
  have HV := Lib.hid (fun (w1 : World) (hb : Below w.heap.size w w1) => validate_any w1 A k s (hv.keep (free_below hb)) hl64)
  have HRV := Lib.hid (fun (w1 : World) (hb : Below w.heap.size w w1) => RF.validate_any w1 (hm.below hb) A2 k2 R (hr.keep (free_below hb)) hrl hk2)
  have HRC := Lib.hid (fun (hok : Ob.StOk s) (w1 : World) (hb : Below w.heap.size w w1) => reach_any w1 A k s (hv := hv.keep (free_below hb)) (hok := hok))
  have HCO := Lib.hid (fun (hok : Ob.StOk s) (w1 : World) (hb : Below w.heap.size w w1) => copy_any w1 A k s (hv.keep (free_below hb)) (by have := hok.len; omega) (fun i hi => by have := (hok.ok i hi).ln; omega))
  have HRR := Lib.hid (fun (w1 : World) (hb : Below w.heap.size w w1) i hi => RF.rsV_row (hr.keep (free_below hb)) (w := w1) i hi)
  obtain ⟨i0, hi0, hz0, hz1, hz2⟩ := info_parts info3
  have st0 := ClSt.new w A s.length k A2 R.length k2
  clear hv hr hm
  go_enter Tryz.func7, Tryz.ntmps7
  go_wp2_with fail
  go_at_call 11
  refine (HV.out _ st0.bel).mono ?_
  rintro e w1 ⟨rfl, hb1⟩
  have st1 := st0.below hb1
  obtain ⟨p0, p1, p2, p3, p4, p5, p6, p7, l0, l1, l2, l3⟩ := st1.facts
  clear st0 hb1
  by_cases hbad : (Ob.stF s).1 = 0
  · obtain ⟨h00, hok⟩ := Ob.stF_ok hbad
    rw [h00]
    have st2 := st1.below (below_alloc1 w1 (.cells #[.int .i64 0, .int .i64 0] 33))
    clear hbad h00 st1
    go_wp2_with fail
    go_at_call 15
    refine (HRV.out _ st2.bel).mono ?_
    rintro e w2 ⟨rfl, hb2⟩
    have st3 := st2.below hb2
    clear p0 p1 p2 p3 p4 p5 p6 p7 l0 l1 l2 l3 hb2 st2
    obtain ⟨p0, p1, p2, p3, p4, p5, p6, p7, l0, l1, l2, l3⟩ := st3.facts
    by_cases hbad : (Rf.rfF R).1 = 0
    · obtain ⟨h00, hrok⟩ := Rf.rfF_ok hbad
      rw [h00]
      have st4 := st3.below (below_alloc1 w2 (.cells #[.int .i64 0, .int .i64 0] 33))
      clear hbad h00 st3
      go_wp2_with fail
      go_at_call 16
      refine (noLease_any _).mono ?_
      rintro e w3 ⟨rfl, hb3⟩
      have st5 := (st4.below hb3).below (below_alloc1 w3 (.cells #[.int .i64 0, .int .i64 0] 33))
      clear p0 p1 p2 p3 p4 p5 p6 p7 l0 l1 l2 l3
      obtain ⟨p0, p1, p2, p3, p4, p5, p6, p7, l0, l1, l2, l3⟩ := (st4.below hb3).facts
      clear hb3 st4 HV HRV
      have h30 := hrok.len
      have HRK := Lib.hid hrok
      clear hrok
      go_wp2_with fail
      go_loopw [51, 14] (fun iv rv wr => ∃ (i : Nat) (At : Option Addr) (ct : Nat), i ≤ R.length ∧ iv = .int .i64 i ∧ rv = .slice At i ct ∧ C1St w wr A s.length k A2 k2 R i At ct) (fun iv _ _ => R.length - (intOf iv).toNat)
      case atStart => exact ⟨0, none, 0, Nat.zero_le _, rfl, rfl, st5, World.ownsRow_nil _ _ _ _⟩
      case round =>
        obtain ⟨i, At, ct, hi, rfl, rfl, c1⟩ := hrel
        obtain ⟨wo, rfl⟩ : ∃ wo : World, wo = wr := ⟨_, rfl⟩
        clear st5 p0 p1 p2 p3 p4 p5 p6 p7 l0 l1 l2 l3
        by_cases hil : i < R.length
        · have hil' : (i : Int) < R.length := by omega
          obtain ⟨b, off, e, hb, _, d0, d1⟩ := HRR.out wo c1.st.bel i hil
          subst e
          have own2 := (c1.own.alloc (.cells #[RF.strV (Rf.it R i).name, .int .i64 (Rf.it R i).tgt] 41)).alloc (.cells #[.int .i64 (Rf.it R i).tgt] 3)
          have HAP := Lib.hid (fun (w3 : World) (A' : Option Addr) (k' : Nat) (h1 : w3.ownsRow (w.heap.size + 4) 3 1 (.slice A' (i + 1) k') (i + 1) (intsV ((R.take i).map Rf.R.tgt) ++ [.int .i64 (Rf.it R i).tgt]))
            (h2 : ((wo.alloc (.cells #[RF.strV (Rf.it R i).name, .int .i64 (Rf.it R i).tgt] 41)).alloc (.cells #[.int .i64 (Rf.it R i).tgt] 3)).grownBy w3 (Value.slice At i ct).ownBlock) => c1.app hil _ _ h1 h2)
          have hszw := c1.st.r2.lt
          generalize hnm : (Rf.it R i).name = nm at *
          generalize htg : (Rf.it R i).tgt = tg at *
          have hu : ((wo.alloc (.cells #[RF.strV nm, .int .i64 tg] 41)).alloc (.cells #[.int .i64 tg] 3)).cell? ⟨wo.heap.size + 1, 0, none⟩ = some (.int .i64 tg) := by
            have := (Blk.new (wo.alloc (.cells #[RF.strV nm, .int .i64 tg] 41)) 3 #[.int .i64 tg]).cell 0
            have e1 : (wo.alloc (.cells #[RF.strV nm, .int .i64 tg] 41)).heap.size = wo.heap.size + 1 := by simp
            rw [e1] at this
            exact this.trans rfl
          have h63 : i + 1 ≤ maxLen := by unfold maxLen; omega
          have hby : (i + 1) * 8 ≤ 140737488355328 := by omega
          have hbase : w.heap.size + 4 ≤ ((wo.alloc (.cells #[RF.strV nm, .int .i64 tg] 41)).alloc (.cells #[.int .i64 tg] 3)).heap.size := by simp; omega
          clear c1 htg
          go_wp2_with (first
            | (at_builtin; refine wpList_app1 _ rfl (.tmp 55) (.tmp 58) 31 rfl (w.heap.size + 4) 3 i0 (.int .i64 0) 8 Tryz.underlying31 hi0 hz0 hz1 hz2 rfl At i ct _ rfl own2 (wo.heap.size + 1) 1 (.int .i64 tg) rfl hu rfl h63 hby hbase ?_; intro A' k' w4 hown4 hg4 hk4))
          refine ⟨⟨i + 1, A', k', by omega, by go_num, rfl, HAP.out _ _ _ hown4 hg4⟩, ?_⟩
          simp [intOf]; omega
        · obtain rfl : i = R.length := by omega
          have st6 := c1.st
          have hown := c1.own
          rw [List.take_length] at hown
          have hszw := st6.r2.lt
          have HSV := Lib.hid (show SA wo Free At (intsV (R.map Rf.R.tgt)) from SA.of_own' hown (fun _ _ h => h))
          have HRE := Lib.hid (HRC.out hok wo st6.bel At ct (R.map Rf.R.tgt) HSV.out (by simp; omega) (fun d hd => by
            obtain ⟨x, hx, rfl⟩ := List.mem_map.1 hd
            have := HRK.out.tgt x hx
            unfold Rf.dgOk at this
            simp at this
            unfold I64; omega))
          rw [List.length_map] at HRE
          obtain ⟨p0, p1, p2, p3, p4, p5, p6, p7, l0, l1, l2, l3⟩ := st6.facts
          clear c1 hown HSV
          go_wp2_with fail
          refine wp_loop_rounds 1 ?_
          rw [rounds_succ]
          go_wp2_with fail
          go_at_call 13
          refine HRE.out.mono ?_
          rintro e w4 ⟨b, n, m, rfl, hset, hm, hn, hbl, hb4⟩
          have st7 := st6.below hb4
          have hbl4 := hset.lt
          have HCP := Lib.hid (HCO.out hok (w4.alloc (.cells #[.slice none 0 0] 24)) (st7.bel.alloc st7.bel.size _))
          clear p0 p1 p2 p3 p4 p5 p6 p7 l0 l1 l2 l3 HRE HRC HRR st6 hb4
          obtain ⟨p0, p1, p2, p3, p4, p5, p6, p7, l0, l1, l2, l3⟩ := st7.facts
          go_wp2_with fail
          go_at_call 17
          refine HCP.out.mono ?_
          rintro e w5 ⟨A5, c5, xs5, rfl, hst5, hb5⟩
          have hsrc := OwnSt.outB (g := w4.heap.size) hst5 (by simp)
          have hgB : w4.heap.size < w5.heap.size := by have := hb5.size; simp at this; omega
          have c30 : C3St w w5 A s.length k A2 R.length k2 w4.heap.size w5.heap.size b n m s A5 0 none 0 [] none 0 [] :=
            ⟨(st7.below (below_alloc1 w4 _)).below hb5, (hset.alloc _).below hb5, hsrc, by simpa [Gc.keep] using (Blk.new w4 24 #[.slice none 0 0]).below hb5 (by simp), by simpa [Gc.keep] using World.ownsRow_nil w5 w5.heap.size 65 4, by simp [Gc.keep, RowsR],
              World.ownsRow_nil _ _ _ _, Nat.le_refl _, Nat.le_refl _, hbl4, hgB, st7.r2.lt⟩
          have HEND := Lib.hid (fun (wr : World) (Ao : Option Addr) (ko : Nat) (Ag : Option Addr) (ng kg : Nat) (hs : StV wr (Under w.heap.size) Ao (Gc.keep s m)) (hb : Below w.heap.size w wr) =>
            (show ClPost w s R (.returned (.tuple #[.agg #[.slice Ao (Gc.keep s m).length ko], .slice Ag ng kg, .agg #[.int .i64 0, .int .i64 0]])) wr from .inr ⟨hok, HRK.out, m, Ao, ko, Ag, ng, kg, hm, rfl, hs, hb⟩))
          have hfd : ∀ (x : Value) (W : World), (Instr.field 24 (.agg #[x]) 0).run Tryz.prog W = .ok x W := fun _ _ => by kernel_rfl
          have hl40 := hok.len
          obtain ⟨i1, hj0, hy0, hy1, hy2⟩ := info_parts info46
          clear p0 p1 p2 p3 p4 p5 p6 p7 l0 l1 l2 l3 hset hm hst5 hsrc st7 HCP HCO HRK
          generalize ClPost w s R = RR at *
          go_wp2_with fail
          go_loopw [84, 21] (fun iv gv wr => ∃ (i : Nat) (Ao : Option Addr) (ko : Nat) (xs : List Value) (Ag : Option Addr) (kg : Nat) (gs : List Int), i ≤ s.length ∧ iv = .int .i64 i ∧ gv = .slice Ag gs.length kg ∧ C3St w wr A s.length k A2 R.length k2 w4.heap.size w5.heap.size b n m s A5 i Ao ko xs Ag kg gs) (fun iv _ _ => s.length - (intOf iv).toNat)
          case atStart => exact ⟨0, none, 0, [], none, 0, [], Nat.zero_le _, rfl, rfl, c30⟩
          case round =>
            obtain ⟨i, Ao, ko, xs, Ag, kg, gs, hi, rfl, rfl, c3⟩ := hrel
            obtain ⟨wo, rfl⟩ : ∃ wo : World, wo = wr := ⟨_, rfl⟩
            clear c30
            by_cases hil : i < s.length
            · have hil' : (i : Int) < s.length := by omega
              obtain ⟨b', off, Al, kl, Ad, kd, e, hb', _, d0, d1, d2, d3, hx, hob⟩ := c3.src.row i hil
              subst e
              have hobX := (show StR wo (XB w4.heap.size w5.heap.size) (Ob.it s i) [.int .i64 (Ob.it s i).dig, .int .i64 (Ob.it s i).ob.kind, .slice Al (Ob.it s i).ob.links.length kl, .slice Ad (Ob.it s i).ob.data.length kd] from ⟨Al, kl, Ad, kd, rfl, hx, hob⟩)
              have hno := Gc.keep_len s m i
              have hmea : ∀ j : Nat, j = i + 1 → s.length - (intOf (.int .i64 (j : Int))).toNat < s.length - (intOf (.int .i64 (i : Int))).toNat := fun j hj => by simp [intOf]; omega
              have HC := Lib.hid (fun (o1 o2 : Obj) => (c3.below (below_alloc1 _ o1)).below (below_alloc1 _ o2))
              have HXX := Lib.hid (fun (o1 o2 : Obj) => StR.keep ((Keeps.alloc wo (XB w4.heap.size w5.heap.size) o1).trans (Keeps.alloc _ _ o2)) _ _ hobX)
              have HLK := Lib.hid (fun (o1 : Obj) => (c3.set.alloc o1).look hx)
              have hgn := c3.gn
              have hhi := c3.hi
              have hg0 := c3.out.cell 0
              have hgl := c3.out.lt
              simp only [List.getElem?_toArray, List.getElem?_cons_zero] at hg0
              clear hob hx hobX
              by_cases hm1 : m (Ob.it s i).dig = true
              · have HAP := Lib.hid (fun (o1 o2 : Obj) (w3 : World) (A' : Option Addr) (k' : Nat) hg hown => (HC.out o1 o2).app (w3 := w3) (A' := A') (k' := k') hil hm1 (HXX.out o1 o2) hg hown)
                have HOW := Lib.hid (fun (o1 o2 : Obj) => (HC.out o1 o2).own)
                have HOU := Lib.hid (fun (o1 o2 : Obj) (w3 : World) (hg : ((wo.alloc o1).alloc o2).grownBy w3 (Value.slice Ao (Gc.keep (s.take i) m).length ko).ownBlock) => (HC.out o1 o2).out.grown hg (fun e => by have := ((HC.out o1 o2).own.lt _ e.symm).1; omega))
                clear c3 HC HXX
                rw [hm1] at HLK
                generalize (Gc.keep (s.take i) m).length = no at *
                generalize hxx : Ob.it s i = x at *
                clear hxx hm1
                obtain ⟨xd, kk, ls, da⟩ := x
                simp only at *
                have hlk := HLK.out (.cells #[.int .i64 xd, .int .i64 kk, .slice Al ls.length kl, .slice Ad da.length kd] 65)
                have how := HOW.out (.cells #[.int .i64 xd, .int .i64 kk, .slice Al ls.length kl, .slice Ad da.length kd] 65) (.cells #[.int .i64 xd, .int .i64 kk, .slice Al ls.length kl, .slice Ad da.length kd] 65)
                have h63 : no + 1 ≤ maxLen := by unfold maxLen; omega
                have hby : (no + 1) * 64 ≤ 140737488355328 := by omega
                have hbase : w5.heap.size ≤ ((wo.alloc (.cells #[.int .i64 xd, .int .i64 kk, .slice Al ls.length kl, .slice Ad da.length kd] 65)).alloc (.cells #[.int .i64 xd, .int .i64 kk, .slice Al ls.length kl, .slice Ad da.length kd] 65)).heap.size := by simp; omega
                have hsv : SV ((wo.alloc (.cells #[.int .i64 xd, .int .i64 kk, .slice Al ls.length kl, .slice Ad da.length kd] 65)).alloc (.cells #[.int .i64 xd, .int .i64 kk, .slice Al ls.length kl, .slice Ad da.length kd] 65)) (((wo.alloc (.cells #[.int .i64 xd, .int .i64 kk, .slice Al ls.length kl, .slice Ad da.length kd] 65)).alloc (.cells #[.int .i64 xd, .int .i64 kk, .slice Al ls.length kl, .slice Ad da.length kd] 65))).heap.size (some ⟨wo.heap.size + 1, 0, none⟩) [.int .i64 xd, .int .i64 kk, .slice Al ls.length kl, .slice Ad da.length kd] := by
                  have h := (SA.of_blk (X := Free) (Blk.new (wo.alloc (.cells #[.int .i64 xd, .int .i64 kk, .slice Al ls.length kl, .slice Ad da.length kd] 65)) 65 #[.int .i64 xd, .int .i64 kk, .slice Al ls.length kl, .slice Ad da.length kd]) id).sv
                  have e1 : (wo.alloc (.cells #[.int .i64 xd, .int .i64 kk, .slice Al ls.length kl, .slice Ad da.length kd] 65)).heap.size = wo.heap.size + 1 := by simp
                  rw [e1] at h
                  exact h
                clear HLK HOW HEND
                go_wp2_with (first
                  | (at_builtin; refine wpList_appN _ rfl (.tmp 93) (.tmp 95) 22 rfl w5.heap.size 65 i1 _ 4 64 Tryz.underlying22 hj0 hy0 hy1 hy2 rfl (by decide) Ao no ko xs rfl how _ (some ⟨wo.heap.size + 1, 0, none⟩) 1 1 [.int .i64 xd, .int .i64 kk, .slice Al ls.length kl, .slice Ad da.length kd] rfl rfl hsv (st_one _ _ _ _ _ _ _ _) h63 hby hbase ?_; intro A' k' w6 hown6 hg6 hk6; have o6 := HOU.out _ _ _ hg6; have q0 := (o6.cell 0).trans rfl; have q1 := o6.frozen 0; have q2 := o6.lt))
                exact ⟨⟨i + 1, A', k', _, Ag, kg, gs, by omega, by go_num, rfl, HAP.out _ _ _ _ _ hg6 hown6⟩, by simpa using hmea (i + 1) rfl⟩
              · have hm1' : m (Ob.it s i).dig = false := by simpa using hm1
                have HAP := Lib.hid (fun (o1 o2 : Obj) (w3 : World) (A' : Option Addr) (k' : Nat) hg hown => (HC.out o1 o2).gone (w3 := w3) (A' := A') (k' := k') (d := (Ob.it s i).dig) hil hm1' hg hown)
                have HOW := Lib.hid (fun (o1 o2 : Obj) => (HC.out o1 o2).own2)
                clear c3 HC HXX
                rw [hm1'] at HLK
                generalize (Gc.keep (s.take i) m).length = no at *
                generalize hxx : Ob.it s i = x at *
                clear hxx hm1 hm1'
                obtain ⟨xd, kk, ls, da⟩ := x
                simp only at *
                have hlk := HLK.out (.cells #[.int .i64 xd, .int .i64 kk, .slice Al ls.length kl, .slice Ad da.length kd] 65)
                have how := HOW.out (.cells #[.int .i64 xd, .int .i64 kk, .slice Al ls.length kl, .slice Ad da.length kd] 65) (.cells #[.int .i64 xd] 3)
                have h63 : gs.length + 1 ≤ maxLen := by unfold maxLen; omega
                have hby : (gs.length + 1) * 8 ≤ 140737488355328 := by omega
                have hbase : w5.heap.size ≤ ((wo.alloc (.cells #[.int .i64 xd, .int .i64 kk, .slice Al ls.length kl, .slice Ad da.length kd] 65)).alloc (.cells #[.int .i64 xd] 3)).heap.size := by simp; omega
                have hu : ((wo.alloc (.cells #[.int .i64 xd, .int .i64 kk, .slice Al ls.length kl, .slice Ad da.length kd] 65)).alloc (.cells #[.int .i64 xd] 3)).cell? ⟨wo.heap.size + 1, 0, none⟩ = some (.int .i64 xd) := by
                  have h := (Blk.new (wo.alloc (.cells #[.int .i64 xd, .int .i64 kk, .slice Al ls.length kl, .slice Ad da.length kd] 65)) 3 #[.int .i64 xd]).cell 0
                  have e1 : (wo.alloc (.cells #[.int .i64 xd, .int .i64 kk, .slice Al ls.length kl, .slice Ad da.length kd] 65)).heap.size = wo.heap.size + 1 := by simp
                  rw [e1] at h
                  exact h.trans rfl
                clear HLK HOW HEND
                go_wp2_with (first
                  | (at_builtin; refine wpList_app1 _ rfl (.tmp 98) (.tmp 101) 31 rfl w5.heap.size 3 i0 (.int .i64 0) 8 Tryz.underlying31 hi0 hz0 hz1 hz2 rfl Ag gs.length kg (intsV gs) rfl how (wo.heap.size + 1) 1 (.int .i64 xd) rfl hu rfl h63 hby hbase ?_; intro A' k' w6 hown6 hg6 hk6))
                exact ⟨⟨i + 1, Ao, ko, xs, A', k', gs ++ [xd], by omega, by go_num, by simp, HAP.out _ _ _ _ _ hg6 hown6⟩, by simpa using hmea (i + 1) rfl⟩
            · obtain rfl : i = s.length := by omega
              have hown := c3.own
              have hrows := c3.rows
              have hwg := c3.hwg
              have hg0 := c3.out.cell 0
              have hgl := c3.out.lt
              have st := c3.st
              rw [List.take_length] at hown hrows hg0
              simp only [List.getElem?_toArray, List.getElem?_cons_zero] at hg0
              obtain ⟨p0, p1, p2, p3, p4, p5, p6, p7, l0, l1, l2, l3⟩ := st.facts
              clear c3
              generalize hno : (Gc.keep s m).length = no at *
              go_wp2_with fail
              obtain ⟨k1, k2', k3⟩ := put12 st.r1 st.r2 (by omega) (.slice Ao no ko) (.int .i64 0) (.int .i64 0)
              refine bodyPost_ret (results_24_t_28 rfl _ _ (w.heap.size + 2) (w.heap.size + 3) (.slice Ao no ko) (.int .i64 0) (.int .i64 0) rfl rfl k1 k2') rfl ?_
              refine HEND.out _ Ao ko Ag gs.length kg ?_ (k3 _ _ (by omega) (by omega) st.bel)
              have hkp := ((Keeps.setCell wo (XB w4.heap.size w5.heap.size) ⟨w.heap.size + 2, 0, none⟩ (.slice Ao no ko) (.inl (by show w.heap.size + 2 ≤ _; omega))).trans (Keeps.setCell _ _ ⟨w.heap.size + 3, 0, none⟩ (.int .i64 0) (.inl (by show w.heap.size + 3 ≤ _; omega)))).trans (Keeps.setCell _ _ ⟨w.heap.size + 3, 1, none⟩ (.int .i64 0) (.inl (by show w.heap.size + 3 ≤ _; omega)))
              refine ⟨xs, ?_, hrows.mono (StR.keep (hkp.into fun x hx => .inl (by unfold Under at hx; omega)))⟩
              have hsa := SA.of_own' (X := Under (w.heap.size + 4)) hown (fun x hx hU => by have := (hown.lt x hx).1; unfold Under at hU; omega)
              have hkq := ((Keeps.setCell wo (Under (w.heap.size + 4)) ⟨w.heap.size + 2, 0, none⟩ (.slice Ao no ko) (by show w.heap.size + 2 < _; omega)).trans (Keeps.setCell _ _ ⟨w.heap.size + 3, 0, none⟩ (.int .i64 0) (by show w.heap.size + 3 < _; omega))).trans (Keeps.setCell _ _ ⟨w.heap.size + 3, 1, none⟩ (.int .i64 0) (by show w.heap.size + 3 < _; omega))
              exact hsa.keep (hkq.into fun x hx => by unfold Under at *; omega)
    · generalize Rf.rfF R = q at *
      obtain ⟨cd, ix⟩ := q
      simp only at hbad
      have hx1 : (cd == 0) = false := by simpa using hbad
      have hx2 : (cd != 0) = true := by simpa using hbad
      have HR : Hid (∀ w', Below w.heap.size w w' → ClPost w s R (.returned (.tuple #[.agg #[.slice none 0 0], .slice none 0 0, .agg #[.int .i64 cd, .int .i64 (-1)]])) w') := Lib.hid fun w' hb => .inl ⟨cd, -1, hbad, rfl, hb⟩
      clear hbad HRV HRC HCO HRR HV
      generalize ClPost w s R = RR at *
      go_wp2_with fail
      go_region
      all_goals
        go_wp2_with fail
        obtain ⟨k1, k2, k3⟩ := put12 st3.r1 st3.r2 (by omega) (.slice none 0 0) (.int .i64 cd) (.int .i64 (-1))
        refine bodyPost_ret (results_24_t_28 rfl _ _ (w.heap.size + 2) (w.heap.size + 3) (.slice none 0 0) (.int .i64 cd) (.int .i64 (-1)) rfl rfl ((k1.alloc _).drewN 1) ((k2.alloc _).drewN 1)) rfl ?_
        refine HR.out _ ?_
        exact Go.V.below_drewN ((k3 _ _ (by omega) (by omega) st3.bel).alloc (by simp [World.setCell]; omega) _) 1
  · generalize Ob.stF s = q at *
    obtain ⟨cd, ix⟩ := q
    simp only at hbad
    have hx1 : (cd == 0) = false := by simpa using hbad
    have hx2 : (cd != 0) = true := by simpa using hbad
    have HR : Hid (∀ w', Below w.heap.size w w' → ClPost w s R (.returned (.tuple #[.agg #[.slice none 0 0], .slice none 0 0, .agg #[.int .i64 cd, .int .i64 ix]])) w') := Lib.hid fun w' hb => .inl ⟨cd, ix, hbad, rfl, hb⟩
    clear hbad HRV HRC HCO HRR HV
    generalize ClPost w s R = RR at *
    go_wp2_with fail
    go_region
    all_goals
      go_wp2_with fail
      obtain ⟨k1, k2, k3⟩ := put12 st1.r1 st1.r2 (by omega) (.slice none 0 0) (.int .i64 cd) (.int .i64 ix)
      refine bodyPost_ret (results_24_t_28 rfl _ _ (w.heap.size + 2) (w.heap.size + 3) (.slice none 0 0) (.int .i64 cd) (.int .i64 ix) rfl rfl ((k1.alloc _).drewN 1) ((k2.alloc _).drewN 1)) rfl ?_
      refine HR.out _ ?_
      exact Go.V.below_drewN ((k3 _ _ (by omega) (by omega) st1.bel).alloc (by simp [World.setCell]; omega) _) 1
end Go.Proofs.YtipjejnncnndeaaGreatDoor
namespace Go.Proofs.YtipjejnncnndeaaGreatDoor
open Go.RowKit Go.V
set_option linter.unusedVariables false

def hd4 (o : Ob.O) : List UInt8 := [UInt8.ofNat o.kind.toNat, UInt8.ofNat o.links.length, UInt8.ofNat (o.data.length / 256), UInt8.ofNat o.data.length]
/-- The entry of an object in a pack. -/
def Ob.ent (o : Ob.O) : List UInt8 := hd4 o ++ Ob.lnB o.links o.links.length ++ o.data
theorem Ob.ent_length (o : Ob.O) : (Ob.ent o).length = 4 + 8 * o.links.length + o.data.length := by simp [Ob.ent, hd4]; omega
theorem ent_eq (o : Ob.O) : Ob.ent o = hd4 o ++ Ob.lnB o.links o.links.length ++ o.data := rfl
theorem hd4_cells {o : Ob.O} (ho : Ob.Ok o) : bytesV (hd4 o) = [.int .u8 o.kind, .int .u8 (o.links.length : Int), .int .u8 ((o.data.length : Int) / 256), .int .u8 ((o.data.length : Int) % 256)] := by
  have h1 := ho.lo
  have h2 := ho.hi
  have h3 := ho.ln
  obtain ⟨k, hk⟩ := Int.eq_ofNat_of_zero_le (show 0 ≤ o.kind by omega)
  simp only [hd4, bytesV, List.map_cons, List.map_nil, u8_int]
  rw [hk, Int.toNat_natCast]
  have e1 : (k : Int) % 256 = k := by omega
  have e2 : (o.links.length : Int) % 256 = o.links.length := by omega
  have h4 := ho.dn
  have e3 : ((o.data.length / 256 : Nat) : Int) % 256 = (o.data.length : Int) / 256 := by omega
  rw [e1, e2, e3]
/-- The state of the loop of 'Bytes'. -/
structure EnSt (w wr : World) (o : Ob.O) (Al : Option Addr) (kl : Nat) (Ad : Option Addr) (kd : Nat) (j : Nat) (A : Option Addr) (c : Nat) : Prop where
  own : wr.ownsRow (w.heap.size + 1) 5 1 (.slice A (4 + 8 * j) c) (4 + 8 * j) (bytesV (hd4 o ++ Ob.lnB o.links j))
  box : Blk wr w.heap.size 48 #[.int .i64 o.kind, .slice Al o.links.length kl, .slice Ad o.data.length kd]
  bel : Below w.heap.size w wr
set_option maxRecDepth 100000 in
set_option maxHeartbeats 8000000 in
theorem entry_any (w : World) (o : Ob.O) (Al : Option Addr) (kl : Nat) (Ad : Option Addr) (kd : Nat) (ho : ObA w Free o Al kl Ad kd) (hok : Ob.Ok o) :
    Calls Tryz.prog 35 #[obV o Al kl Ad kd] w (BtPost w (Ob.ent o)) := by
  obtain ⟨i0, hi0, hz0, hz1, hz2⟩ := info_parts info5
  have HL := Lib.hid (fun (w' : World) (hb : Below w.heap.size w w') => (ho.ls.keep (free_below hb)).sv)
  have HD := Lib.hid (fun (w' : World) (hb : Below w.heap.size w w') => (ho.ds.keep (free_below hb)).sv)
  have HALL := Lib.hid hok.all
  have hk1 := hok.lo
  have hk2 := hok.hi
  have hl30 := hok.ln
  have hl30' : (o.links.length : Int) ≤ 30 := by omega
  have hd1000 := hok.dn
  have HE := Lib.hid (ent_eq o)
  have HBL := Lib.hid (Ob.ent_length o)
  have HH := hd4_cells hok
  have st0 : EnSt w ((w.alloc (.cells #[.int .i64 o.kind, .slice Al o.links.length kl, .slice Ad o.data.length kd] 48)).alloc (.cells #[.int .u8 o.kind, .int .u8 (o.links.length : Int), .int .u8 ((o.data.length : Int) / 256), .int .u8 ((o.data.length : Int) % 256)] 5)) o Al kl Ad kd 0 (some ⟨w.heap.size + 1, 0, none⟩) 4 := by
    refine ⟨?_, (Blk.new _ _ _).alloc _, below_alloc2 _ _ _⟩
    have := World.ownsRow_lit (base := w.heap.size + 1) (size := 1) (e := 5) (w.alloc (.cells #[.int .i64 o.kind, .slice Al o.links.length kl, .slice Ad o.data.length kd] 48)) #[.int .u8 o.kind, .int .u8 (o.links.length : Int), .int .u8 ((o.data.length : Int) / 256), .int .u8 ((o.data.length : Int) % 256)] 4 (by simp) (by simp [maxLen]) rfl
    rw [Ob.lnB_zero, List.append_nil, HH]
    simpa using this
  clear ho hok HH
  obtain ⟨kk, ls, da⟩ := o
  simp only at *
  have hkm : kk % 256 = kk := by omega
  go_enter Tryz.func35, Tryz.ntmps35
  go_wp2_with fail
  go_loopw [3, 26] (fun vv jv wr => ∃ (j : Nat) (A : Option Addr) (c : Nat), j ≤ ls.length ∧ vv = .slice A (4 + 8 * j) c ∧ jv = .int .i64 j ∧ EnSt w wr ⟨kk, ls, da⟩ Al kl Ad kd j A c) (fun _ jv _ => ls.length - (intOf jv).toNat)
  case atStart => exact ⟨0, _, 4, Nat.zero_le _, rfl, rfl, st0⟩
  case round =>
    obtain ⟨j, A, c, hj, rfl, rfl, st⟩ := hrel
    obtain ⟨wo, rfl⟩ : ∃ wo : World, wo = wr := ⟨_, rfl⟩
    have hsz := st.bel.size
    have hbl := st.box.lt
    by_cases hlt : j < ls.length
    · have hlt' : (j : Int) < ls.length := by omega
      obtain ⟨b, off, e, hb, hc⟩ := (HL.out _ st.bel).int j hlt
      subst e
      obtain ⟨hr0, hr1⟩ := HALL.out j hlt
      obtain ⟨m, hm⟩ := Int.eq_ofNat_of_zero_le hr0
      have hs := Ob.lnB_succ ls j hlt
      rw [hm] at hc
      rw [hm, Int.toNat_natCast] at hs
      have HS := Lib.hid hs
      have hmb : m < 2305843009213693951 := by omega
      clear hm hs hr0 hr1
      go_wp2_with fail
      go_at_call 36
      refine (big_any wo m hmb).mono ?_
      rintro e w2 ⟨A2, c2, rfl, hc2, _, hown2, hb2⟩
      have hbw := st.bel.trans (hb2.mono hsz)
      have hown := st.own.kept (only_of_below hb2 none) (by cases hv : (Value.slice A (4 + 8 * j) c).ownBlock <;> simp)
      have hbox := st.box.below hb2 hbl
      have hz2' := hb2.size
      have hsv2 := SV.of_own hown2
      simp only [Ob.wide_length]
      rw [Ob.wide_length] at hc2
      clear st hown2 hb2
      go_wp2_with (first | (at_builtin; refine wpList_appNo _ rfl (.tmp 30) (.tmp 32) 46 rfl (w.heap.size + 1) 5 i0 _ 1 1 Tryz.underlying46 hi0 hz0 hz1 hz2 rfl (by decide) A (4 + 8 * j) c _ rfl hown _ A2 8 c2 _ rfl (by simp) hsv2 (bytesV_one _) ?ha ?hb ?hc ?_))
      case ha => simp [maxLen]; omega
      case hb => omega
      case hc => omega
      intro A' c' w' hown' hg hc' _
      have hbw' := hbw.grown hg hbw.size (fun k hk => by have := (hown.lt k hk).1; omega)
      have hbox' := hbox.grown hg (own_blk_ne hown hbox (by decide))
      have st2 : EnSt w w' ⟨kk, ls, da⟩ _ kl Ad kd (j + 1) A' c' := ⟨by rw [show 4 + 8 * (j + 1) = 4 + 8 * j + 8 by omega]; simp only [HS.out, bytesV_app] at hown' ⊢; exact hown', hbox', hbw'⟩
      clear hown' hown hg hsv2 hbw hbox
      go_wp2_with fail
      go_roundw
      case rel => exact ⟨j + 1, A', c', by omega, rfl, by go_num, st2⟩
      case measure => simp [intOf]; omega
    · obtain rfl : j = ls.length := by omega
      have hbx := st.box.cell 2
      simp only [List.getElem?_toArray, List.getElem?_cons_zero, List.getElem?_cons_succ] at hbx
      have hdv := HD.out _ st.bel
      have hown := st.own
      have hbel := st.bel
      clear st st0
      go_wp2_with (first | (at_builtin; refine wpList_appNo _ rfl (.tmp 35) (.tmp 37) 46 rfl (w.heap.size + 1) 5 i0 _ 1 1 Tryz.underlying46 hi0 hz0 hz1 hz2 rfl (by decide) A (4 + 8 * ls.length) c _ rfl hown _ Ad da.length kd _ rfl (by simp) hdv (bytesV_one _) ?hd ?he ?hf ?_))
      case hd => simp [maxLen]; omega
      case he => omega
      case hf => omega
      intro A' c' w' hown' hg hc' _
      have hbw' := hbel.grown hg hbel.size (fun k hk => by have := (hown.lt k hk).1; omega)
      have hown2 : w'.ownsRow (w.heap.size + 1) 5 1 (.slice A' (4 + 8 * ls.length + da.length) c') (4 + 8 * ls.length + da.length) (bytesV (Ob.ent ⟨kk, ls, da⟩)) := by
        rw [HE.out]; simp only [bytesV_app, List.append_assoc] at hown' ⊢; exact hown'
      have hm : c' ≤ maxLen := by
        obtain ⟨_, _, e, _, hm⟩ := own_form hown'
        injection e with _ _ e2
        rw [e2]; exact hm
      have hbn : (Ob.ent ⟨kk, ls, da⟩).length = 4 + 8 * ls.length + da.length := HBL.out
      clear hown hg
      go_wp2_with fail
      go_ret
      refine ⟨A', c', ret_eq (by rw [hbn]; rfl), by rw [hbn]; exact hc', hm, ?_, hbw'⟩
      rw [hbn]
      exact own_more hown2 (by omega)
end Go.Proofs.YtipjejnncnndeaaGreatDoor
