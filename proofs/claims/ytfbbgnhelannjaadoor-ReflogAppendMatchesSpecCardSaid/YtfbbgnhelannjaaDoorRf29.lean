/-
  Logs: walks of 'Replay', 'At', 'Expire'.
-/
import Derived.Test.YtfbbgnhelannjaaDoorRf27
import Derived.Test.YtfbbgnhelannjaaDoorRf28
namespace Rf
/-- What 'Replay', 'At', 'Expire' answer. -/
def rpF (b : List R) (l : List E) : List R × (Int × Int) := if (lgF b l).1 ≠ 0 then ([], lgF b l) else (stAt b l l.length, (0, 0))
def atF (b : List R) (l : List E) (t : Int) : List R × (Int × Int) := if (lgF b l).1 ≠ 0 then ([], lgF b l) else if t < 0 ∨ 100000 < t then ([], (3, -3)) else (stAt b l (unt l (t + 1)), (0, 0))
def exF (b : List R) (l : List E) (t : Int) : (List R × List E) × (Int × Int) := if (lgF b l).1 ≠ 0 then (([], []), lgF b l) else if t < 0 ∨ 100000 < t then (([], []), (3, -3)) else ((stAt b l (unt l t), l.drop (unt l t)), (0, 0))
end Rf
namespace Go.V
open Go.RowKit
theorem StRow.get {w : World} {X Y : Nat → Prop} {l : List (List Rf.R)} {vs : List Value} {A : Option Addr} (h : StRow w X l vs) (hA : SA w Y A vs) (i : Nat) (hi : i < l.length) :
    ∃ b off A' c', A = some ⟨b, off, none⟩ ∧ (b < w.heap.size ∧ ¬ Y b) ∧ w.cell? ⟨b, off + i, none⟩ = some (.slice A' (l[i]).length c') ∧ (l[i]).length ≤ c' ∧ SA w X A' (Go.Proofs.YtfbbgnhelannjaaDoor.rsV l[i]) := by
  obtain ⟨A', c', h1, h2, h3⟩ := h.2 i hi
  obtain ⟨b, off, e, hb, hy, hc⟩ := hA.at_ (by rw [h.1]; omega)
  exact ⟨b, off, A', c', e, ⟨hb, hy⟩, hc i _ h1, h2, h3⟩
theorem cell_far (w : World) (p : Addr) (v : Value) (b o : Nat) (h : b ≠ p.block) : (w.setCell p v).cell? ⟨b, o, none⟩ = w.cell? ⟨b, o, none⟩ := World.cell?_of_block (Below.heap_setCell w p v b h)
theorem keep3 (w : World) {n m g1 g2 : Nat} (h1 : g1 < n) (h2 : g2 < n) (hm : m ≤ n) (x u v : Value) : Keeps w (Under n) (((w.setCell ⟨g1, 0, none⟩ x).setCell ⟨g2, 0, none⟩ u).setCell ⟨g2, 1, none⟩ v) (Under m) :=
  (((Keeps.setCell w _ ⟨g1, 0, none⟩ x h1).trans (Keeps.setCell _ _ ⟨g2, 0, none⟩ u h2)).trans (Keeps.setCell _ _ ⟨g2, 1, none⟩ v h2)).into fun _ hb => Nat.lt_of_lt_of_le hb hm
end Go.V
namespace Go.Proofs.YtfbbgnhelannjaaDoor
open Go.RowKit Go.V Go.Shelf Go.Lib
set_option linter.unusedVariables false

theorem BtSt.new (w : World) (A : Option Addr) (n k : Nat) : BtSt w (((w.alloc (.cells #[.slice A n k] 26)).alloc (.cells #[.slice none 0 0] 26)).alloc (.cells #[.int .i64 0, .int .i64 0] 30)) A n k :=
  ⟨((Blk.new _ _ _).alloc _).alloc _, (blk_new1 _ _ _ _).alloc _, blk_new2 _ _ _ _ _, below_alloc3 _ _ _ _⟩
set_option maxRecDepth 100000 in
set_option maxHeartbeats 32000000 in
theorem replay_any (w : World) (hm : Mx w) (A : Option Addr) (k : Nat) (s : List Rf.R) (hv : SA w Free A (rsV s)) (hl64 : s.length ≤ 9223372036854775807) (hk : s.length ≤ k)
    (A2 : Option Addr) (k2 : Nat) (l : List Rf.E) (hv2 : SA w Free A2 (esV l)) :
    Calls Tryd.prog 32 #[.agg #[.slice A s.length k], .slice A2 l.length k2] w (UpPost w (Rf.rpF s l)) := by
  have HV := Lib.hid (fun (w1 : World) (hb : Below w.heap.size w w1) => hv.keep (free_below hb))
  have HV2 := Lib.hid (fun (w1 : World) (hb : Below w.heap.size w w1) => hv2.keep (free_below hb))
  have HM := Lib.hid hm.fun_
  have HPF := Lib.hid (Rf.rpF.eq_1 s l)
  have HS := Lib.hid (fun (w1 : World) (hb : Below w.heap.size w w1) => states_any w1 (HM.out _ hb) A k s (HV.out _ hb) hl64 hk A2 k2 l (HV2.out _ hb))
  clear hv hm hv2
  generalize hr : Rf.rpF s l = r at *
  clear hr
  have st0 := BtSt.new w A s.length k
  have hsz0 : (((w.alloc (.cells #[.slice A s.length k] 26)).alloc (.cells #[.slice none 0 0] 26)).alloc (.cells #[.int .i64 0, .int .i64 0] 30)).heap.size = w.heap.size + 3 := by simp
  go_enter Tryd.func32, Tryd.ntmps32
  go_wp2_with fail
  go_at_call 52
  refine (HS.out _ st0.bel).mono ?_
  rintro e w1 (⟨hbad, rfl, hb1⟩ | ⟨hok, As, cs, vs, rfl, hA, hrow, hb1⟩)
  · have H := Lib.hid (HPF.out.trans (if_pos hbad))
    have hx1 : ((Rf.lgF s l).1 == 0) = false := by simpa using hbad
    have hx2 : ((Rf.lgF s l).1 != 0) = true := by simpa using hbad
    clear hbad HPF HV HS
    generalize Rf.lgF s l = q at *
    obtain ⟨cd, ix⟩ := q
    simp only at hx1 hx2
    have HR : Hid (∀ w', Below w.heap.size w w' → UpPost w r (.returned (.tuple #[.agg #[.slice none 0 0], .agg #[.int .i64 cd, .int .i64 ix]])) w') := Lib.hid fun w' hb => UpPost.no H.out hb
    clear H
    have st1 := st0.below hb1
    obtain ⟨p0, p1, p2, p3, p4, p5, p6, l0, l1, l2⟩ := st1.facts
    clear st0 hb1 hsz0
    generalize UpPost w r = R at *
    go_wp2_with fail
    go_region
    all_goals
      go_wp2_with fail
      obtain ⟨k1, k2, k3⟩ := put12 st1.r1 st1.r2 (by omega) (.slice none 0 0) (.int .i64 cd) (.int .i64 ix)
      refine bodyPost_ret (results_26_30 rfl _ _ (w.heap.size + 1) (w.heap.size + 2) (.slice none 0 0) (.int .i64 cd) (.int .i64 ix) rfl rfl ((k1.alloc _).drewN 1) ((k2.alloc _).drewN 1)) rfl ?_
      refine HR.out _ ?_
      exact below_drewN' ((k3 _ _ (by omega) (by omega) st1.bel).alloc (by simp [World.setCell]; omega) _) 1
  · have H := Lib.hid (HPF.out.trans (if_neg (by rw [hok.f]; simp)))
    have hlen := hok.len
    rw [hsz0] at hA hrow
    obtain ⟨b, off, A', c', e, ⟨hb, hby⟩, d0, hc', hs'⟩ := hrow.get hA l.length (by rw [Rf.stl_len]; omega)
    rw [Rf.stl_get] at d0 hc' hs'
    subst e
    clear hok HPF HV HS hA hrow
    generalize Rf.stAt s l l.length = x at *
    have st1 := st0.below hb1
    have st2 := st1.below (below_alloc1 w1 (.cells #[.int .i64 0, .int .i64 0] 30))
    have hs2 := hs'.keep (Keeps.alloc w1 _ (.cells #[.int .i64 0, .int .i64 0] 30))
    obtain ⟨p0, p1, p2, p3, p4, p5, p6, l0, l1, l2⟩ := st2.facts
    clear st0 st1 hb1 hsz0 hs'
    go_wp2_with fail
    obtain ⟨k1, k2, k3⟩ := put12 st2.r1 st2.r2 (by omega) (.slice A' x.length c') (.int .i64 0) (.int .i64 0)
    refine bodyPost_ret (results_26_30 rfl _ _ (w.heap.size + 1) (w.heap.size + 2) (.slice A' x.length c') (.int .i64 0) (.int .i64 0) rfl rfl k1 k2) rfl ?_
    rw [H.out]
    exact ⟨A', c', rfl, hc', hs2.keep (keep3 _ (by omega) (by omega) (by omega) _ _ _), k3 _ _ (by omega) (by omega) st2.bel⟩
set_option maxRecDepth 100000 in
set_option maxHeartbeats 32000000 in
theorem at_any (w : World) (hm : Mx w) (A : Option Addr) (k : Nat) (s : List Rf.R) (hv : SA w Free A (rsV s)) (hl64 : s.length ≤ 9223372036854775807) (hk : s.length ≤ k)
    (A2 : Option Addr) (k2 : Nat) (l : List Rf.E) (hv2 : SA w Free A2 (esV l)) (t : Int) :
    Calls Tryd.prog 33 #[.agg #[.slice A s.length k], .slice A2 l.length k2, .int .i64 t] w (UpPost w (Rf.atF s l t)) := by
  have HV := Lib.hid (fun (w1 : World) (hb : Below w.heap.size w w1) => hv.keep (free_below hb))
  have HV2 := Lib.hid (fun (w1 : World) (hb : Below w.heap.size w w1) => hv2.keep (free_below hb))
  have HM := Lib.hid hm.fun_
  have HPF := Lib.hid (Rf.atF.eq_1 s l t)
  have HS := Lib.hid (fun (w1 : World) (hb : Below w.heap.size w w1) => states_any w1 (HM.out _ hb) A k s (HV.out _ hb) hl64 hk A2 k2 l (HV2.out _ hb))
  have HCT := Lib.hid (fun (w1 : World) => checkTime_any w1 t)
  have HCF := Lib.hid (Rf.ctF.eq_1 t)
  have HUN := Lib.hid (fun (hl : l.length ≤ 60) (w1 : World) (hb : Below w.heap.size w w1) => until_any w1 A2 k2 l (t + 1) (HV2.out _ hb) (by omega))
  clear hv hm hv2
  generalize hr : Rf.atF s l t = r at *
  clear hr
  have st0 := BtSt.new w A s.length k
  have hsz0 : (((w.alloc (.cells #[.slice A s.length k] 26)).alloc (.cells #[.slice none 0 0] 26)).alloc (.cells #[.int .i64 0, .int .i64 0] 30)).heap.size = w.heap.size + 3 := by simp
  go_enter Tryd.func33, Tryd.ntmps33
  go_wp2_with fail
  go_at_call 52
  refine (HS.out _ st0.bel).mono ?_
  rintro e w1 (⟨hbad, rfl, hb1⟩ | ⟨hok, As, cs, vs, rfl, hA, hrow, hb1⟩)
  · have H := Lib.hid (HPF.out.trans (if_pos hbad))
    have hx1 : ((Rf.lgF s l).1 == 0) = false := by simpa using hbad
    have hx2 : ((Rf.lgF s l).1 != 0) = true := by simpa using hbad
    clear hbad HPF HV HS HCT HCF HUN
    generalize Rf.lgF s l = q at *
    obtain ⟨cd, ix⟩ := q
    simp only at hx1 hx2
    have HR : Hid (∀ w', Below w.heap.size w w' → UpPost w r (.returned (.tuple #[.agg #[.slice none 0 0], .agg #[.int .i64 cd, .int .i64 ix]])) w') := Lib.hid fun w' hb => UpPost.no H.out hb
    clear H
    have st1 := st0.below hb1
    obtain ⟨p0, p1, p2, p3, p4, p5, p6, l0, l1, l2⟩ := st1.facts
    clear st0 hb1 hsz0
    generalize UpPost w r = R at *
    go_wp2_with fail
    go_region
    all_goals
      go_wp2_with fail
      obtain ⟨k1, k2, k3⟩ := put12 st1.r1 st1.r2 (by omega) (.slice none 0 0) (.int .i64 cd) (.int .i64 ix)
      refine bodyPost_ret (results_26_30 rfl _ _ (w.heap.size + 1) (w.heap.size + 2) (.slice none 0 0) (.int .i64 cd) (.int .i64 ix) rfl rfl ((k1.alloc _).drewN 1) ((k2.alloc _).drewN 1)) rfl ?_
      refine HR.out _ ?_
      exact below_drewN' ((k3 _ _ (by omega) (by omega) st1.bel).alloc (by simp [World.setCell]; omega) _) 1
  · have HP2 := Lib.hid (HPF.out.trans (if_neg (by rw [hok.f]; simp)))
    have hlen := hok.len
    rw [hsz0] at hA hrow
    have st1 := st0.below hb1
    have st2 := st1.below (below_alloc1 w1 (.cells #[.int .i64 0, .int .i64 0] 30))
    have hA2 := hA.keep (Keeps.alloc w1 _ (.cells #[.int .i64 0, .int .i64 0] 30))
    have hrow2 := hrow.keep (Keeps.alloc w1 _ (.cells #[.int .i64 0, .int .i64 0] 30))
    have HUN2 := Lib.hid (HUN.out hlen)
    clear HPF HV HS st0 st1 hb1 hsz0 hok HUN hA hrow
    go_wp2_with fail
    go_at_call 53
    refine (HCT.out _).mono ?_
    rintro e w3 ⟨rfl, hb3⟩
    have st3 := st2.below hb3
    have hA3 := hA2.keep (Keeps.below hb3 (X' := Under (w.heap.size + 3)) fun _ _ h => h)
    have hrow3 := hrow2.keep (Keeps.below hb3 (X' := Under (w.heap.size + 3)) fun _ _ h => h)
    clear st2 hb3 hA2 hrow2 HCT
    by_cases ht : t < 0 ∨ 100000 < t
    · have H := Lib.hid (HP2.out.trans (if_pos ht))
      have HR : Hid (∀ w', Below w.heap.size w w' → UpPost w r (.returned (.tuple #[.agg #[.slice none 0 0], .agg #[.int .i64 3, .int .i64 (-3)]])) w') := Lib.hid fun w' hb => UpPost.no H.out hb
      rw [HCF.out, if_pos ht]
      clear H ht HP2 HCF HUN2
      obtain ⟨p0, p1, p2, p3, p4, p5, p6, l0, l1, l2⟩ := st3.facts
      generalize UpPost w r = R at *
      go_wp2_with fail
      go_region
      all_goals
        go_wp2_with fail
        obtain ⟨k1, k2, k3⟩ := put12 st3.r1 st3.r2 (by omega) (.slice none 0 0) (.int .i64 3) (.int .i64 (-3))
        refine bodyPost_ret (results_26_30 rfl _ _ (w.heap.size + 1) (w.heap.size + 2) (.slice none 0 0) (.int .i64 3) (.int .i64 (-3)) rfl rfl ((k1.alloc _).drewN 1) ((k2.alloc _).drewN 1)) rfl ?_
        refine HR.out _ ?_
        exact below_drewN' ((k3 _ _ (by omega) (by omega) st3.bel).alloc (by simp [World.setCell]; omega) _) 1
    · have H := Lib.hid (HP2.out.trans (if_neg ht))
      rw [HCF.out, if_neg ht]
      have st4 := st3.below (below_alloc1 w3 (.cells #[.int .i64 0, .int .i64 0] 30))
      have hA4 := hA3.keep (Keeps.alloc w3 _ (.cells #[.int .i64 0, .int .i64 0] 30))
      have hrow4 := hrow3.keep (Keeps.alloc w3 _ (.cells #[.int .i64 0, .int .i64 0] 30))
      have hu := Rf.unt_le l (t + 1)
      obtain ⟨b, off, A', c', e, ⟨hb, hby⟩, d0, hc', hs'⟩ := hrow4.get hA4 (Rf.unt l (t + 1)) (by rw [Rf.stl_len]; omega)
      rw [Rf.stl_get] at d0 hc' hs'
      subst e
      have hadd : IntKind.i64.wrap (t + 1) = t + 1 := IntWalk.i64_in _ (by omega)
      clear HP2 HCF ht hA3 hrow3 hA4 hrow4 st3
      generalize hx : Rf.stAt s l (Rf.unt l (t + 1)) = x at *
      clear hx
      have HUN3 := Lib.hid (HUN2.out _ st4.bel)
      clear HUN2
      generalize Rf.unt l (t + 1) = n at *
      have hn1 : (n : Int) < l.length + 1 := by omega
      obtain ⟨p0, p1, p2, p3, p4, p5, p6, l0, l1, l2⟩ := st4.facts
      go_wp2_with fail
      go_at_call 54
      refine HUN3.out.mono ?_
      rintro e w9 ⟨rfl, hw9⟩
      have hw9 := hw9.symm
      subst hw9
      go_wp2_with fail
      obtain ⟨k1, k2, k3⟩ := put12 st4.r1 st4.r2 (by omega) (.slice A' x.length c') (.int .i64 0) (.int .i64 0)
      refine bodyPost_ret (results_26_30 rfl _ _ (w.heap.size + 1) (w.heap.size + 2) (.slice A' x.length c') (.int .i64 0) (.int .i64 0) rfl rfl k1 k2) rfl ?_
      rw [H.out]
      exact ⟨A', c', rfl, hc', hs'.keep (keep3 _ (by omega) (by omega) (by omega) _ _ _), k3 _ _ (by omega) (by omega) st4.bel⟩
end Go.Proofs.YtfbbgnhelannjaaDoor
