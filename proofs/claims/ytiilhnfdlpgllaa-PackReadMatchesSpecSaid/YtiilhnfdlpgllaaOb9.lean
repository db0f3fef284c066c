/-
  Objects: walk of 'Put'.
-/
import Derived.Test.YtiilhnfdlpgllaaOb7
import Derived.Test.YtiilhnfdlpgllaaOb8
namespace Ob
/-- What 'Put' answers. -/
def putF (s : List S) (o : O) : List S × Int × (Int × Int) :=
  if (stF s).1 ≠ 0 then ([], 0, stF s) else if (obF o).1 ≠ 0 then ([], 0, ((obF o).1, -1)) else if addOk s (dig o) o = false then ([], 0, (19, -1))
  else if 40 < (addS s (dig o) o).length then ([], 0, (14, -1)) else (addS s (dig o) o, dig o, (0, 0))
end Ob
namespace Go.Proofs.Ytiilhnfdlpgllaa
open Go.RowKit Go.V
set_option linter.unusedVariables false

theorem results_24_t_28 {fn : Func} {a b t : Tmp} (h : fn.results = #[.cell a 24, .tmp t, .cell b 28]) (tmps : Array Value) (w : World) (g g' : Nat) (x c i : Value) (ha : tmps.getD a undef = .pointer (some ⟨g, 0, none⟩)) (hb' : tmps.getD b undef = .pointer (some ⟨g', 0, none⟩))
    (hb : Blk w g 24 #[x]) (hc : Blk w g' 28 #[c, i]) : (results fn tmps).run Try.prog w = .ok (.tuple #[.agg #[x], tmps.getD t undef, .agg #[c, i]]) w := by
  have h0 := hb.cell 0
  have k0 := hc.cell 0
  have k1 := hc.cell 1
  simp only [List.getElem?_toArray, List.getElem?_cons_zero, List.getElem?_cons_succ] at h0 k0 k1
  have ha' : tmps[a]?.getD undef = .pointer (some ⟨g, 0, none⟩) := by simpa using ha
  have hb'' : tmps[b]?.getD undef = .pointer (some ⟨g', 0, none⟩) := by simpa using hb'
  simp [results, h, go_sem, ha', hb'', h0, k0, k1]
theorem put12 {w1 : World} {g1 g2 : Nat} {t1 t2 : TypeId} {a d e : Value} (h1 : Blk w1 g1 t1 #[a]) (h2 : Blk w1 g2 t2 #[d, e]) (hne : g1 ≠ g2) (x u v : Value) :
    Blk (((w1.setCell ⟨g1, 0, none⟩ x).setCell ⟨g2, 0, none⟩ u).setCell ⟨g2, 1, none⟩ v) g1 t1 #[x] ∧
    Blk (((w1.setCell ⟨g1, 0, none⟩ x).setCell ⟨g2, 0, none⟩ u).setCell ⟨g2, 1, none⟩ v) g2 t2 #[u, v] ∧
    ∀ (B : Nat) (w0 : World), B ≤ g1 → B ≤ g2 → Below B w0 w1 → Below B w0 (((w1.setCell ⟨g1, 0, none⟩ x).setCell ⟨g2, 0, none⟩ u).setCell ⟨g2, 1, none⟩ v) :=
  ⟨((by simpa using h1.set_ 0 x : Blk (w1.setCell ⟨g1, 0, none⟩ x) g1 t1 #[x]).far (p := ⟨g2, 0, none⟩) hne u).far (p := ⟨g2, 1, none⟩) hne v,
   blk_put2 (h2.far (p := ⟨g1, 0, none⟩) (Ne.symm hne) x) u v,
   fun B w0 h3 h4 hb => ((hb.setCell (p := ⟨g1, 0, none⟩) h3 _).setCell (p := ⟨g2, 0, none⟩) h4 _).setCell (p := ⟨g2, 1, none⟩) h4 _⟩
/-- The state of 'Put': its boxes and results. -/
structure PtSt (w wr : World) (A : Option Addr) (n k : Nat) (ov : Array Value) : Prop where
  bx : Blk wr w.heap.size 24 #[.slice A n k]
  bo : Blk wr (w.heap.size + 1) 44 ov
  r1 : Blk wr (w.heap.size + 2) 24 #[.slice none 0 0]
  r2 : Blk wr (w.heap.size + 3) 28 #[.int .i64 0, .int .i64 0]
  bel : Below w.heap.size w wr
section
variable {w wr w' : World} {A : Option Addr} {n k : Nat} {ov : Array Value}
theorem PtSt.below (h : PtSt w wr A n k ov) (hb : Below wr.heap.size wr w') : PtSt w w' A n k ov :=
  ⟨h.bx.below hb h.bx.lt, h.bo.below hb h.bo.lt, h.r1.below hb h.r1.lt, h.r2.below hb h.r2.lt, h.bel.trans (hb.mono h.bel.size)⟩
theorem PtSt.touch (h : PtSt w wr A n k ov) {g : Nat} {row : Option Nat} (ht : TouchS wr w' g row) (hg : w.heap.size + 4 ≤ g) (hr : ∀ b, row = some b → w.heap.size + 4 ≤ b) : PtSt w w' A n k ov := by
  have hl := h.r2.lt
  exact ⟨h.bx.touchS ht (by omega) (fun e => by have := hr _ e.symm; omega), h.bo.touchS ht (by omega) (fun e => by have := hr _ e.symm; omega), h.r1.touchS ht (by omega) (fun e => by have := hr _ e.symm; omega), h.r2.touchS ht (by omega) (fun e => by have := hr _ e.symm; omega),
    h.bel.trans (ht.below (by omega) (by omega) (fun k hk => by have := hr k hk; omega))⟩
theorem PtSt.facts (h : PtSt w wr A n k ov) : wr.cell? ⟨w.heap.size, 0, none⟩ = some (.slice A n k) ∧ wr.cell? ⟨w.heap.size + 2, 0, none⟩ = some (.slice none 0 0) ∧ wr.frozen? ⟨w.heap.size + 2, 0, none⟩ = false ∧
    wr.cell? ⟨w.heap.size + 3, 0, none⟩ = some (.int .i64 0) ∧ wr.cell? ⟨w.heap.size + 3, 1, none⟩ = some (.int .i64 0) ∧ wr.frozen? ⟨w.heap.size + 3, 0, none⟩ = false ∧ wr.frozen? ⟨w.heap.size + 3, 1, none⟩ = false ∧
    w.heap.size < wr.heap.size ∧ w.heap.size + 1 < wr.heap.size ∧ w.heap.size + 2 < wr.heap.size ∧ w.heap.size + 3 < wr.heap.size :=
  ⟨(h.bx.cell 0).trans rfl, (h.r1.cell 0).trans rfl, h.r1.frozen 0, (h.r2.cell 0).trans rfl, (h.r2.cell 1).trans rfl, h.r2.frozen 0, h.r2.frozen 1, h.bx.lt, h.bo.lt, h.r1.lt, h.r2.lt⟩
end
def PtPost (w : World) (r : List Ob.S × Int × (Int × Int)) (e : Ending) (w' : World) : Prop := ∃ A c, e = .returned (.tuple #[stV A r.1.length c, .int .i64 r.2.1, .agg #[.int .i64 r.2.2.1, .int .i64 r.2.2.2]]) ∧ r.1.length ≤ c ∧ StV w' (Under w.heap.size) A r.1 ∧ Below w.heap.size w w'
theorem PtPost.no {w w' : World} {r : List Ob.S × Int × (Int × Int)} {c i : Int} (h : r = ([], 0, (c, i))) (hb : Below w.heap.size w w') : PtPost w r (.returned (.tuple #[.agg #[.slice none 0 0], .int .i64 0, .agg #[.int .i64 c, .int .i64 i]])) w' := by
  subst h; exact ⟨none, 0, rfl, Nat.le_refl _, ⟨[], SA.nil, rfl⟩, hb⟩
set_option maxRecDepth 100000 in
set_option maxHeartbeats 16000000 in
theorem put_any (w : World) (A : Option Addr) (k : Nat) (s : List Ob.S) (o : Ob.O) (Al : Option Addr) (kl : Nat) (Ad : Option Addr) (kd : Nat) (hv : StV w Free A s) (hl64 : s.length ≤ 9223372036854775807) (ho : ObA w Free o Al kl Ad kd) :
    Calls Try.prog 33 #[stV A s.length k, obV o Al kl Ad kd] w (PtPost w (Ob.putF s o)) := by
  have HV := Lib.hid (fun (w1 : World) (hb : Below w.heap.size w w1) => hv.keep (free_below hb))
  have HO := Lib.hid (fun (w1 : World) (hb : Below w.heap.size w w1) => ho.keep (free_below hb))
  have HPF := Lib.hid (Ob.putF.eq_1 s o)
  have HC := Lib.hid (fun (w1 : World) (hb : Below w.heap.size w w1) => validate_any w1 A k s (HV.out _ hb) hl64)
  clear hv ho
  generalize hr : Ob.putF s o = r at *
  clear hr
  obtain ⟨kk, ls, da⟩ := o
  have st0 : PtSt w ((((w.alloc (.cells #[.slice A s.length k] 24)).alloc (.cells #[.int .i64 kk, .slice Al ls.length kl, .slice Ad da.length kd] 44)).alloc (.cells #[.slice none 0 0] 24)).alloc (.cells #[.int .i64 0, .int .i64 0] 28)) A s.length k #[.int .i64 kk, .slice Al ls.length kl, .slice Ad da.length kd] :=
    ⟨(((Blk.new _ _ _).alloc _).alloc _).alloc _, ((blk_new1 _ _ _ _).alloc _).alloc _, (blk_new2 _ _ _ _ _).alloc _, by simpa using Blk.new (((w.alloc (.cells #[.slice A s.length k] 24)).alloc (.cells #[.int .i64 kk, .slice Al ls.length kl, .slice Ad da.length kd] 44)).alloc (.cells #[.slice none 0 0] 24)) 28 #[.int .i64 0, .int .i64 0], (below_alloc3 _ _ _ _).alloc (by simp; omega) _⟩
  go_enter Try.func33, Try.ntmps33
  go_wp2_with fail
  go_at_call 32
  refine (HC.out _ st0.bel).mono ?_
  rintro e w1 ⟨rfl, hb1⟩
  have st1 := st0.below hb1
  obtain ⟨p0, p1, p2, p3, p4, p5, p6, l0, l1, l2, l3⟩ := st1.facts
  clear hb1 HC st0
  by_cases hbad : (Ob.stF s).1 ≠ 0
  · have H := Lib.hid (show r = ([], 0, Ob.stF s) from by rw [HPF.out, if_pos hbad])
    have hb1 : ((Ob.stF s).1 == 0) = false := by simpa using hbad
    have hb2 : ((Ob.stF s).1 != 0) = true := by simpa using hbad
    clear hbad HPF HV HO
    generalize Ob.stF s = q at *
    obtain ⟨cd, ix⟩ := q
    simp only at hb1 hb2
    have HR : Hid (∀ w', Below w.heap.size w w' → PtPost w r (.returned (.tuple #[.agg #[.slice none 0 0], .int .i64 0, .agg #[.int .i64 cd, .int .i64 ix]])) w') := Lib.hid fun w' hb => PtPost.no H.out hb
    clear H
    generalize PtPost w r = R at *
    go_wp2_with fail
    go_region
    all_goals
      go_wp2_with fail
      obtain ⟨k1, k2, k3⟩ := put12 st1.r1 st1.r2 (by omega) (.slice none 0 0) (.int .i64 cd) (.int .i64 ix)
      refine bodyPost_ret (results_24_t_28 rfl _ _ (w.heap.size + 2) (w.heap.size + 3) (.slice none 0 0) (.int .i64 cd) (.int .i64 ix) rfl rfl ((k1.alloc _).drewN 1) ((k2.alloc _).drewN 1)) rfl ?_
      refine HR.out _ ?_
      exact below_drewN ((k3 _ _ (by omega) (by omega) st1.bel).alloc (by simp [World.setCell]; omega) _) 1
  · obtain ⟨hz, hok⟩ := Ob.stF_ok (by simpa using hbad)
    have HP2 := Lib.hid (HPF.out.trans (if_neg hbad))
    rw [hz]
    have st2 := st1.below (below_alloc1 w1 (.cells #[.int .i64 0, .int .i64 0] 28))
    clear hz hbad p0 p1 p2 p3 p4 p5 p6 l0 l1 l2 l3 HPF
    obtain ⟨p0, p1, p2, p3, p4, p5, p6, l0, l1, l2, l3⟩ := st2.facts
    have po0 := st2.bo.cell 0
    have po1 := st2.bo.cell 1
    have po2 := st2.bo.cell 2
    simp only [List.getElem?_toArray, List.getElem?_cons_zero, List.getElem?_cons_succ] at po0 po1 po2
    have hol := st2.bo.lt
    by_cases hob : (Ob.obF ⟨kk, ls, da⟩).1 ≠ 0
    · have HD := Lib.hid (digest_bad _ ⟨kk, ls, da⟩ Al kl Ad kd (HO.out _ st2.bel) hob)
      have H := Lib.hid (HP2.out.trans (if_pos hob))
      have hb1 : ((Ob.obF ⟨kk, ls, da⟩).1 == 0) = false := by simpa using hob
      have hb2 : ((Ob.obF ⟨kk, ls, da⟩).1 != 0) = true := by simpa using hob
      clear hob HV HO hok HP2
      generalize Ob.obF ⟨kk, ls, da⟩ = q at *
      obtain ⟨cd, ix⟩ := q
      simp only at hb1 hb2 H
      have HR : Hid (∀ w', Below w.heap.size w w' → PtPost w r (.returned (.tuple #[.agg #[.slice none 0 0], .int .i64 0, .agg #[.int .i64 cd, .int .i64 (-1)]])) w') := Lib.hid fun w' hb => PtPost.no H.out hb
      clear H
      generalize PtPost w r = R at *
      go_wp2_with fail
      go_at_call 29
      refine HD.out.mono ?_
      rintro e w2 ⟨rfl, hb2'⟩
      have st3 := st2.below hb2'
      obtain ⟨p0, p1, p2, p3, p4, p5, p6, l0, l1, l2, l3⟩ := st3.facts
      clear hb2' HD st2 st1
      go_wp2_with fail
      go_region
      all_goals
        go_wp2_with fail
        obtain ⟨k1, k2, k3⟩ := put12 st3.r1 st3.r2 (by omega) (.slice none 0 0) (.int .i64 cd) (.int .i64 (-1))
        refine bodyPost_ret (results_24_t_28 rfl _ _ (w.heap.size + 2) (w.heap.size + 3) (.slice none 0 0) (.int .i64 cd) (.int .i64 (-1)) rfl rfl ((k1.alloc _).drewN 1) ((k2.alloc _).drewN 1)) rfl ?_
        refine HR.out _ ?_
        exact below_drewN ((k3 _ _ (by omega) (by omega) st3.bel).alloc (by simp [World.setCell]; omega) _) 1
    · have hobk := (Ob.obF_ok (by simpa using hob)).2
      have HD := Lib.hid (digest_ok _ ⟨kk, ls, da⟩ Al kl Ad kd (HO.out _ st2.bel) hobk)
      have HP3 := Lib.hid (HP2.out.trans (if_neg hob))
      have hdl := Ob.dig_lt ⟨kk, ls, da⟩
      have HCY := Lib.hid (fun (w' : World) (hb : Below w.heap.size w w') => copy_any w' A k s (HV.out _ hb) (by have := hok.len; omega) (fun i hi => by have := (hok.ok i hi).ln; omega))
      have HSO := Lib.hid hok.sorted
      have hsl := hok.len
      have hln := hobk.ln
      simp only at hln
      clear hob HP2 hobk hok HV st1
      generalize hdg : ((Ob.dig ⟨kk, ls, da⟩ : Nat) : Int) = dg at *
      have hd64 : I64 dg := by rw [← hdg]; unfold I64; omega
      clear hdl hdg
      go_wp2_with fail
      go_at_call 29
      refine HD.out.mono ?_
      rintro e w2 ⟨rfl, hb2'⟩
      have st3 := (st2.below hb2').below (below_alloc1 w2 (.cells #[.int .i64 0, .int .i64 0] 28))
      clear p0 p1 p2 p3 p4 p5 p6 l0 l1 l2 l3 po0 po1 po2 hol
      obtain ⟨p0, p1, p2, p3, p4, p5, p6, l0, l1, l2, l3⟩ := st3.facts
      have st3' := st2.below hb2'
      obtain ⟨q0, q1, q2, q3, q4, q5, q6, m0, m1, m2, m3⟩ := st3'.facts
      clear hb2' HD st2
      go_wp2_with fail
      go_at_call 48
      refine (HCY.out _ st3.bel).mono ?_
      rintro e w3 ⟨A3, c3, xs, rfl, hown3, hb3⟩
      have st4' := st3.below hb3
      have st4 := st4'.below (below_alloc1 w3 (.cells #[.slice A3 s.length c3] 24))
      have hz3 := hb3.size
      have out4 : OutSt (w3.alloc (.cells #[.slice A3 s.length c3] 24)) w3.heap.size (w2.alloc (.cells #[.int .i64 0, .int .i64 0] 28)).heap.size (fun b => Under (w2.alloc (.cells #[.int .i64 0, .int .i64 0] 28)).heap.size b ∨ b = w3.heap.size) A3 c3 s xs :=
        ⟨Blk.new _ _ _, hown3.own.alloc _, hown3.rows.mono (StR.keep (Keeps.below (below_alloc1 _ _) (fun b hb h => by
          rcases h with (h | h) | h
          · exact .inl h
          · omega
          · exact .inr h))), .inr rfl, Nat.le_trans hz3 (size_alloc_le _ _)⟩
      have hXs : ∀ b, (Under (w2.alloc (.cells #[.int .i64 0, .int .i64 0] 28)).heap.size b ∨ b = w3.heap.size) → b < (w3.alloc (.cells #[.slice A3 s.length c3] 24)).heap.size := fun b hb => by
        rcases hb with hb | hb
        · exact Nat.lt_of_lt_of_le hb (Nat.le_trans hz3 (size_alloc_le _ _))
        · simp; omega
      have HAD := Lib.hid (add_any _ _ _ _ _ _ _ _ dg ⟨kk, ls, da⟩ Al kl Ad kd out4 hXs HSO.out (by omega) hd64 (HO.out _ st4.bel) (by simp only; omega))
      have hrowlo : ∀ b, (Value.slice A3 s.length c3).ownBlock = some b → w.heap.size + 4 ≤ b := fun b hb => by
        have h1 := (hown3.own.lt b hb).1
        have h2 : w.heap.size + 3 < (w2.alloc (.cells #[.int .i64 0, .int .i64 0] 28)).heap.size := l3
        omega
      clear p0 p1 p2 p3 p4 p5 p6 l0 l1 l2 l3 q0 q1 q2 q3 q4 q5 q6 m0 m1 m2 m3
      obtain ⟨p0, p1, p2, p3, p4, p5, p6, l0, l1, l2, l3⟩ := st4.facts
      obtain ⟨q0, q1, q2, q3, q4, q5, q6, m0, m1, m2, m3⟩ := st4'.facts
      have po0 := st4'.bo.cell 0
      have po1 := st4'.bo.cell 1
      have po2 := st4'.bo.cell 2
      simp only [List.getElem?_toArray, List.getElem?_cons_zero, List.getElem?_cons_succ] at po0 po1 po2
      clear hb3 HCY hown3 out4 hXs HSO
      go_wp2_with fail
      go_at_call 49
      refine HAD.out.mono ?_
      rintro e w4 ⟨A4, c4, xs4, rfl, out4, ht4⟩
      have st5 := st4.touch ht4 (by omega) hrowlo
      have g0 := out4.blk.cell 0
      have gl := out4.blk.lt
      simp only [List.getElem?_toArray, List.getElem?_cons_zero] at g0
      clear ht4 HAD st4 st4' p0 p1 p2 p3 p4 p5 p6 l0 l1 l2 l3 q0 q1 q2 q3 q4 q5 q6 po0 po1 po2
      obtain ⟨p0, p1, p2, p3, p4, p5, p6, l0, l1, l2, l3⟩ := st5.facts
      by_cases hok : Ob.addOk s dg ⟨kk, ls, da⟩ = false
      · have HR : Hid (∀ w', Below w.heap.size w w' → PtPost w r (.returned (.tuple #[.agg #[.slice none 0 0], .int .i64 0, .agg #[.int .i64 19, .int .i64 (-1)]])) w') := Lib.hid fun w' hb => PtPost.no (HP3.out.trans (if_pos hok)) hb
        rw [hok]
        clear hok HP3
        generalize PtPost w r = R at *
        go_wp2_with fail
        obtain ⟨k1, k2, k3⟩ := put12 st5.r1 st5.r2 (by omega) (.slice none 0 0) (.int .i64 19) (.int .i64 (-1))
        refine bodyPost_ret (results_24_t_28 rfl _ _ (w.heap.size + 2) (w.heap.size + 3) (.slice none 0 0) (.int .i64 19) (.int .i64 (-1)) rfl rfl k1 k2) rfl ?_
        exact HR.out _ (k3 _ _ (by omega) (by omega) st5.bel)
      · have HP4 := Lib.hid (HP3.out.trans (if_neg hok))
        have hok2 : Ob.addOk s dg ⟨kk, ls, da⟩ = true := by simpa using hok
        rw [hok2]
        clear hok hok2 HP3
        have hcap : (Ob.addS s dg ⟨kk, ls, da⟩).length ≤ c4 := by
          obtain ⟨A', c', e1, hcc, _⟩ := own_form out4.own
          injection e1 with _ _ e3
          subst e3
          exact hcc
        generalize Ob.addS s dg ⟨kk, ls, da⟩ = s4 at *
        by_cases h40 : 40 < s4.length
        · have HR : Hid (∀ w', Below w.heap.size w w' → PtPost w r (.returned (.tuple #[.agg #[.slice none 0 0], .int .i64 0, .agg #[.int .i64 14, .int .i64 (-1)]])) w') := Lib.hid fun w' hb => PtPost.no (HP4.out.trans (if_pos h40)) hb
          have h40' : (40 : Int) < s4.length := by omega
          clear HP4
          generalize PtPost w r = R at *
          go_wp2_with fail
          obtain ⟨k1, k2, k3⟩ := put12 st5.r1 st5.r2 (by omega) (.slice none 0 0) (.int .i64 14) (.int .i64 (-1))
          refine bodyPost_ret (results_24_t_28 rfl _ _ (w.heap.size + 2) (w.heap.size + 3) (.slice none 0 0) (.int .i64 14) (.int .i64 (-1)) rfl rfl k1 k2) rfl ?_
          exact HR.out _ (k3 _ _ (by omega) (by omega) st5.bel)
        · have H := Lib.hid (HP4.out.trans (if_neg h40))
          have h40' : ¬ (40 : Int) < s4.length := by omega
          clear HP4 h40
          go_wp2_with fail
          obtain ⟨k1, k2, k3⟩ := put12 st5.r1 st5.r2 (by omega) (.slice A4 s4.length c4) (.int .i64 0) (.int .i64 0)
          refine bodyPost_ret (results_24_t_28 rfl _ _ (w.heap.size + 2) (w.heap.size + 3) (.slice A4 s4.length c4) (.int .i64 0) (.int .i64 0) rfl rfl k1 k2) rfl ?_
          rw [H.out]
          have hb2 : w.heap.size + 4 ≤ (w2.alloc (.cells #[.int .i64 0, .int .i64 0] 28)).heap.size := st3.r2.lt
          have hu1 : Under (w2.alloc (.cells #[.int .i64 0, .int .i64 0] 28)).heap.size (w.heap.size + 2) := by unfold Under; omega
          have hu2 : Under (w2.alloc (.cells #[.int .i64 0, .int .i64 0] 28)).heap.size (w.heap.size + 3) := by unfold Under; omega
          have hkp := (((Keeps.setCell w4 (Or1 (fun b => Under (w2.alloc (.cells #[.int .i64 0, .int .i64 0] 28)).heap.size b ∨ b = w3.heap.size) (.slice A4 s4.length c4)) ⟨w.heap.size + 2, 0, none⟩ (.slice A4 s4.length c4) (.inl (.inl hu1))).trans (Keeps.setCell _ _ ⟨w.heap.size + 3, 0, none⟩ (.int .i64 0) (.inl (.inl hu2)))).trans (Keeps.setCell _ _ ⟨w.heap.size + 3, 1, none⟩ (.int .i64 0) (.inl (.inl hu2)))).into (X'' := Under w.heap.size) (fun b hb => .inl (.inl (by unfold Under at *; omega)))
          have hne1 : some (w.heap.size + 2) ≠ (Value.slice A4 s4.length c4).ownBlock := fun e => by have := (out4.own.lt _ e.symm).1; omega
          have hne2 : some (w.heap.size + 3) ≠ (Value.slice A4 s4.length c4).ownBlock := fun e => by have := (out4.own.lt _ e.symm).1; omega
          refine ⟨A4, c4, rfl, hcap, ⟨xs4, ?_, out4.rows.mono (StR.keep hkp)⟩, k3 _ _ (by omega) (by omega) st5.bel⟩
          exact SA.of_own' (own_setCell (own_setCell (own_setCell out4.own hne1 _) hne2 _) hne2 _) (fun b hb hU => by have := (out4.own.lt b hb).1; unfold Under at hU; omega)
end Go.Proofs.Ytiilhnfdlpgllaa
