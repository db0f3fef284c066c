/-
  Logs: walk of 'Expire'.
-/
import Derived.Test.YtfbbgnhelannjaaDoorRf29
import Derived.Deep.RegionHeld3
namespace Go.Proofs.YtfbbgnhelannjaaDoor
open Go.RowKit Go.V Go.Shelf Go.Lib
set_option linter.unusedVariables false

theorem slice_from54 (W : World) (A : Option Addr) (n k m : Nat) (h : m ≤ n) (hk : n ≤ k) : (Instr.slice 54 (.slice A n k) (some (.int .i64 (m : Int))) none none).run Tryd.prog W = .ok (.slice (if k = m then A else A.map (·.add (m * 4))) (n - m) (k - m)) W := by
  have hu := Tryd.underlying54
  have h1 : (m : Int) ≤ n := by omega
  by_cases hk : k = m
  · simp [Instr.slice, Instr.sliceBounds, Instr.sliceBound, go_sem, hk] <;> (intro hh; omega)
  · simp [Instr.slice, Instr.sliceBounds, Instr.sliceBound, go_sem, hk] <;> (intro hh; omega)
theorem esV_drop (l : List Rf.E) (m : Nat) : esV (l.drop m) = (esV l).drop (m * 4) := Fl.drop eC_len m l
theorem results_26_t_30 {fn : Func} {a b t : Tmp} (h : fn.results = #[.cell a 26, .tmp t, .cell b 30]) (tmps : Array Value) (w : World) (g g' : Nat) (x c i v : Value) (ha : tmps.getD a undef = .pointer (some ⟨g, 0, none⟩)) (hv : tmps.getD t undef = v) (hb' : tmps.getD b undef = .pointer (some ⟨g', 0, none⟩))
    (hb : Blk w g 26 #[x]) (hc : Blk w g' 30 #[c, i]) : (results fn tmps).run Tryd.prog w = .ok (.tuple #[.agg #[x], v, .agg #[c, i]]) w := by
  have h0 := hb.cell 0
  have k0 := hc.cell 0
  have k1 := hc.cell 1
  simp only [List.getElem?_toArray, List.getElem?_cons_zero, List.getElem?_cons_succ] at h0 k0 k1
  have ha' : tmps[a]?.getD undef = .pointer (some ⟨g, 0, none⟩) := by simpa using ha
  have hb'' : tmps[b]?.getD undef = .pointer (some ⟨g', 0, none⟩) := by simpa using hb'
  have hv' : tmps[t]?.getD undef = v := by simpa using hv
  simp [results, h, go_sem, ha', hb'', hv', h0, k0, k1]
/-- A set, a log and a fault. -/
def ExPost (w : World) (r : (List Rf.R × List Rf.E) × (Int × Int)) (e : Ending) (w' : World) : Prop := ∃ A c A2 c2, e = .returned (.tuple #[.agg #[.slice A r.1.1.length c], .slice A2 r.1.2.length c2, .agg #[.int .i64 r.2.1, .int .i64 r.2.2]]) ∧
  r.1.1.length ≤ c ∧ r.1.2.length ≤ c2 ∧ SA w' (Under w.heap.size) A (rsV r.1.1) ∧ SA w' (Under w.heap.size) A2 (esV r.1.2) ∧ Below w.heap.size w w'
theorem ExPost.no {w w' : World} {r : (List Rf.R × List Rf.E) × (Int × Int)} {c i : Int} (h : r = (([], []), (c, i))) (hb : Below w.heap.size w w') : ExPost w r (.returned (.tuple #[.agg #[.slice none 0 0], .slice none 0 0, .agg #[.int .i64 c, .int .i64 i]])) w' := by
  subst h; exact ⟨none, 0, none, 0, rfl, Nat.le_refl _, Nat.le_refl _, SA.nil, SA.nil, hb⟩
theorem ExPost.yes {w w' : World} {r : (List Rf.R × List Rf.E) × (Int × Int)} {x : List Rf.R} {y : List Rf.E} {A A2 : Option Addr} {c c2 : Nat} (h : r = ((x, y), (0, 0))) (h1 : x.length ≤ c) (h2 : y.length ≤ c2) (h3 : SA w' (Under w.heap.size) A (rsV x)) (h4 : SA w' (Under w.heap.size) A2 (esV y)) (hb : Below w.heap.size w w') :
    ExPost w r (.returned (.tuple #[.agg #[.slice A x.length c], .slice A2 y.length c2, .agg #[.int .i64 0, .int .i64 0]])) w' := by
  subst h; exact ⟨A, c, A2, c2, rfl, h1, h2, h3, h4, hb⟩
set_option maxRecDepth 100000 in
set_option maxHeartbeats 32000000 in
theorem expire_any (w : World) (hm : Mx w) (A : Option Addr) (k : Nat) (s : List Rf.R) (hv : SA w Free A (rsV s)) (hl64 : s.length ≤ 9223372036854775807) (hk : s.length ≤ k)
    (A2 : Option Addr) (k2 : Nat) (l : List Rf.E) (hv2 : SA w Free A2 (esV l)) (hk2 : l.length ≤ k2) (t : Int) :
    Calls Tryd.prog 34 #[.agg #[.slice A s.length k], .slice A2 l.length k2, .int .i64 t] w (ExPost w (Rf.exF s l t)) := by
  have HV := Lib.hid (fun (w1 : World) (hb : Below w.heap.size w w1) => hv.keep (free_below hb))
  have HV2 := Lib.hid (fun (w1 : World) (hb : Below w.heap.size w w1) => hv2.keep (free_below hb))
  have HM := Lib.hid hm.fun_
  have HPF := Lib.hid (Rf.exF.eq_1 s l t)
  have HS := Lib.hid (fun (w1 : World) (hb : Below w.heap.size w w1) => states_any w1 (HM.out _ hb) A k s (HV.out _ hb) hl64 hk A2 k2 l (HV2.out _ hb))
  have HCT := Lib.hid (fun (w1 : World) => checkTime_any w1 t)
  have HCF := Lib.hid (Rf.ctF.eq_1 t)
  have HUN := Lib.hid (fun (hl : l.length ≤ 60) (w1 : World) (hb : Below w.heap.size w w1) => until_any w1 A2 k2 l t (HV2.out _ hb) (by omega))
  have HCL := Lib.hid (fun (hl : l.length ≤ 60) (n : Nat) (hn : n ≤ l.length) (w1 : World) (hb : Below w.heap.size w w1) => clone55_any w1 (if k2 = n then A2 else A2.map (·.add (n * 4))) (k2 - n) (l.drop n) (by rw [esV_drop]; exact (HV2.out _ hb).drop _ _ (fun h => .inl (by rw [Fl.len eC_len]; omega))) (by simp; omega))
  clear hv hm hv2
  generalize hr : Rf.exF s l t = r at *
  clear hr
  have st0 := BtSt.new w A s.length k
  have hsz0 : (((w.alloc (.cells #[.slice A s.length k] 26)).alloc (.cells #[.slice none 0 0] 26)).alloc (.cells #[.int .i64 0, .int .i64 0] 30)).heap.size = w.heap.size + 3 := by simp
  go_enter Tryd.func34, Tryd.ntmps34
  go_wp2_with fail
  go_at_call 52
  refine (HS.out _ st0.bel).mono ?_
  rintro e w1 (⟨hbad, rfl, hb1⟩ | ⟨hok, As, cs, vs, rfl, hA, hrow, hb1⟩)
  · have H := Lib.hid (HPF.out.trans (if_pos hbad))
    have hx1 : ((Rf.lgF s l).1 == 0) = false := by simpa using hbad
    have hx2 : ((Rf.lgF s l).1 != 0) = true := by simpa using hbad
    clear hbad HPF HV HS HCT HCF HUN HCL
    generalize Rf.lgF s l = q at *
    obtain ⟨cd, ix⟩ := q
    simp only at hx1 hx2
    have HR : Hid (∀ w', Below w.heap.size w w' → ExPost w r (.returned (.tuple #[.agg #[.slice none 0 0], .slice none 0 0, .agg #[.int .i64 cd, .int .i64 ix]])) w') := Lib.hid fun w' hb => ExPost.no H.out hb
    clear H
    have st1 := st0.below hb1
    obtain ⟨p0, p1, p2, p3, p4, p5, p6, l0, l1, l2⟩ := st1.facts
    clear st0 hb1 hsz0
    generalize ExPost w r = R at *
    go_wp2_with fail
    go_region
    all_goals
      go_wp2_with fail
      obtain ⟨k1, k2, k3⟩ := put12 st1.r1 st1.r2 (by omega) (.slice none 0 0) (.int .i64 cd) (.int .i64 ix)
      refine bodyPost_ret (results_26_t_30 rfl _ _ (w.heap.size + 1) (w.heap.size + 2) (.slice none 0 0) (.int .i64 cd) (.int .i64 ix) (.slice none 0 0) rfl rfl rfl ((k1.alloc _).drewN 1) ((k2.alloc _).drewN 1)) rfl ?_
      refine HR.out _ ?_
      exact below_drewN' ((k3 _ _ (by omega) (by omega) st1.bel).alloc (by simp [World.setCell]; omega) _) 1
  · have HP2 := Lib.hid (HPF.out.trans (if_neg (by rw [hok.f]; simp)))
    have hlen := hok.len
    rw [hsz0] at hA hrow
    have st1 := st0.below hb1
    have st2 := st1.below (below_alloc1 w1 (.cells #[.int .i64 0, .int .i64 0] 30))
    have hA2 := hA.keep (Keeps.alloc w1 _ (.cells #[.int .i64 0, .int .i64 0] 30))
    have hrow2 := hrow.keep (Keeps.alloc w1 _ (.cells #[.int .i64 0, .int .i64 0] 30))
    have HUN2 := Lib.hid (HUN.out hlen)
    have HCL2 := Lib.hid (HCL.out hlen (Rf.unt l t) (Rf.unt_le l t))
    clear HPF HV HS st0 st1 hb1 hsz0 hok HUN HCL hA hrow
    go_wp2_with fail
    go_at_call 53
    refine (HCT.out _).mono ?_
    rintro e w3 ⟨rfl, hb3⟩
    have st3 := st2.below hb3
    have hA3 := hA2.keep (Keeps.below hb3 (X' := Under (w.heap.size + 3)) fun _ _ h => h)
    have hrow3 := hrow2.keep (Keeps.below hb3 (X' := Under (w.heap.size + 3)) fun _ _ h => h)
    clear st2 hb3 hA2 hrow2 HCT
    by_cases ht : t < 0 ∨ 100000 < t
    · have H := Lib.hid (HP2.out.trans (if_pos ht))
      have HR : Hid (∀ w', Below w.heap.size w w' → ExPost w r (.returned (.tuple #[.agg #[.slice none 0 0], .slice none 0 0, .agg #[.int .i64 3, .int .i64 (-3)]])) w') := Lib.hid fun w' hb => ExPost.no H.out hb
      rw [HCF.out, if_pos ht]
      clear H ht HP2 HCF HUN2 HCL2
      obtain ⟨p0, p1, p2, p3, p4, p5, p6, l0, l1, l2⟩ := st3.facts
      generalize ExPost w r = R at *
      go_wp2_with fail
      go_region
      all_goals
        go_wp2_with fail
        obtain ⟨k1, k2, k3⟩ := put12 st3.r1 st3.r2 (by omega) (.slice none 0 0) (.int .i64 3) (.int .i64 (-3))
        refine bodyPost_ret (results_26_t_30 rfl _ _ (w.heap.size + 1) (w.heap.size + 2) (.slice none 0 0) (.int .i64 3) (.int .i64 (-3)) (.slice none 0 0) rfl rfl rfl ((k1.alloc _).drewN 1) ((k2.alloc _).drewN 1)) rfl ?_
        refine HR.out _ ?_
        exact below_drewN' ((k3 _ _ (by omega) (by omega) st3.bel).alloc (by simp [World.setCell]; omega) _) 1
    · have H := Lib.hid (HP2.out.trans (if_neg ht))
      rw [HCF.out, if_neg ht]
      have st4 := st3.below (below_alloc1 w3 (.cells #[.int .i64 0, .int .i64 0] 30))
      have hA4 := hA3.keep (Keeps.alloc w3 _ (.cells #[.int .i64 0, .int .i64 0] 30))
      have hrow4 := hrow3.keep (Keeps.alloc w3 _ (.cells #[.int .i64 0, .int .i64 0] 30))
      have hu := Rf.unt_le l t
      obtain ⟨b, off, A', c', e, ⟨hb, hby⟩, d0, hc', hs'⟩ := hrow4.get hA4 (Rf.unt l t) (by rw [Rf.stl_len]; omega)
      rw [Rf.stl_get] at d0 hc' hs'
      subst e
      have hdl : (l.drop (Rf.unt l t)).length = l.length - Rf.unt l t := by simp
      clear HP2 HCF ht hA3 hrow3 hA4 hrow4 st3
      generalize hx : Rf.stAt s l (Rf.unt l t) = x at *
      clear hx
      have HUN3 := Lib.hid (HUN2.out _ st4.bel)
      clear HUN2
      have HSL := Lib.hid (fun W => slice_from54 W A2 l.length k2 (Rf.unt l t) hu hk2)
      generalize Rf.unt l t = n at *
      have hn1 : (n : Int) < l.length + 1 := by omega
      have hn2 : (n : Int) ≤ l.length := by omega
      go_wp2_with fail
      generalize w3.alloc (.cells #[.int .i64 0, .int .i64 0] 30) = w4 at *
      obtain ⟨p0, p1, p2, p3, p4, p5, p6, l0, l1, l2⟩ := st4.facts
      have hsl := HSL.out
      have hk0 : Below w4.heap.size w4 w4.drew := below_drew' (Below.refl _ _)
      have HK : Hid (∀ w6 : World, Below w4.heap.size w4 w6 → w6.cell? ⟨b, off + n, none⟩ = some (.slice A' x.length c')) := Lib.hid fun w6 h6 => (h6.cell (p := ⟨_, _, none⟩) hb).trans d0
      have HCL3 := Lib.hid (HCL2.out w4.drew (st4.bel.trans (hk0.mono st4.bel.size)))
      clear HSL HCL2
      go_at_call 54
      refine HUN3.out.mono ?_
      rintro e w9 ⟨rfl, hw9⟩
      have hw9 := hw9.symm
      subst hw9
      rw [hdl] at HCL3
      generalize (if k2 = n then A2 else A2.map (·.add (n * 4))) = Ax at *
      have hby1 : b ≠ w.heap.size + 1 := fun e => hby (by unfold Under; omega)
      have hby2 : b ≠ w.heap.size + 1 + 1 := fun e => hby (by unfold Under; omega)
      go_wp2_with fail
      go_region_held3 (fun w6 => w6.cell? ⟨b, off + n, none⟩ = some (.slice A' x.length c'))
        (first | exact HK.out _ hk0 | exact HK.out _ hk1 | exact (cell_far _ _ _ _ _ hby1).trans (HK.out _ hk1) | exact (cell_far _ _ _ _ _ hby2).trans ((cell_far _ _ _ _ _ hby2).trans ((cell_far _ _ _ _ _ hby1).trans (HK.out _ hk1))))
        (first | (go_at_call 55; (with_reducible refine HCL3.out.mono ?_); rintro e w5 ⟨A5, c5, rfl, hown5, hb5⟩; have hk1 : Below w4.heap.size w4 w5 := hk0.trans (hb5.mono hk0.size); have st5 := st4.below hk1; obtain ⟨r0, r1, r2, r3, r4, r5, r6, m0, m1, m2⟩ := st5.facts))
      have hcap5 : (l.drop n).length ≤ c5 := by
        obtain ⟨A'', c'', e1, hcc, _⟩ := own_form hown5
        injection e1 with _ _ e3
        subst e3; rw [hdl]; exact hcc
      go_wp2_with fail
      obtain ⟨k1, k2', k3⟩ := put12 st5.r1 st5.r2 (by omega) (.slice A' x.length c') (.int .i64 0) (.int .i64 0)
      rw [← hdl] at *
      refine bodyPost_ret (results_26_t_30 rfl _ _ (w.heap.size + 1) (w.heap.size + 2) (.slice A' x.length c') (.int .i64 0) (.int .i64 0) (.slice A5 (l.drop n).length c5) rfl rfl rfl k1 k2') rfl ?_
      refine ExPost.yes H.out hc' hcap5 ((hs'.keep (Keeps.below hk1 (X' := Under (w.heap.size + 3)) fun _ _ h => h)).keep (keep3 _ (by omega) (by omega) (by omega) _ _ _)) ?_ (k3 _ _ (by omega) (by omega) st5.bel)
      exact (SA.of_own' (X := Under (w.heap.size + 3)) hown5 (fun b hb hX => by have h1 : w4.heap.size ≤ b := (hown5.lt b hb).1; unfold Under at hX; omega)).keep (keep3 _ (by omega) (by omega) (by omega) _ _ _)
end Go.Proofs.YtfbbgnhelannjaaDoor
