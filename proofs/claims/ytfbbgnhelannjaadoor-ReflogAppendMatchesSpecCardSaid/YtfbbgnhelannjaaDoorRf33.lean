/-
  Logs: the example; ReflogExpireKeepsStates: the law's walk.
-/
import Derived.Test.YtfbbgnhelannjaaDoorRf31
import Derived.Test.YtfbbgnhelannjaaDoorRf32
namespace Rf
def exL : List E := [⟨3, ⟨[97], -1, 5⟩⟩, ⟨5, ⟨[97], 5, 6⟩⟩]
theorem exL_ok : LOk [] exL := ⟨ok_nil, by decide, by simp [exL, Tm], ⟨[⟨[97], 6⟩], by decide +kernel⟩⟩
theorem exL_rp : rpF [] exL = ([⟨[97], 6⟩], (0, 0)) := by
  have h : stAt [] exL exL.length = [⟨[97], 6⟩] := by decide +kernel
  unfold rpF; rw [exL_ok.f, if_neg (by decide), h]
theorem exL_at : atF [] exL 4 = ([⟨[97], 5⟩], (0, 0)) := by
  have h : stAt [] exL (unt exL (4 + 1)) = [⟨[97], 5⟩] := by decide +kernel
  unfold atF; rw [exL_ok.f, if_neg (by decide), if_neg (by decide), h]
theorem exF_cases (b : List R) (l : List E) (t : Int) : ((exF b l t).2.1 ≠ 0 ∧ (exF b l t).1.1 = []) ∨ (LOk b l ∧ 0 ≤ t ∧ t ≤ 100000 ∧ exF b l t = ((stAt b l (unt l t), l.drop (unt l t)), (0, 0))) := by
  unfold exF
  by_cases h1 : (lgF b l).1 ≠ 0
  · left; rw [if_pos h1]; exact ⟨h1, rfl⟩
  · rw [if_neg h1]
    by_cases h2 : t < 0 ∨ 100000 < t
    · left; rw [if_pos h2]; exact ⟨by decide, rfl⟩
    · right; rw [if_neg h2]
      exact ⟨(lgF_ok (by simpa using h1)).2, by omega, by omega, rfl⟩
theorem atF_cases (b : List R) (l : List E) (t : Int) : ((atF b l t).2.1 ≠ 0 ∧ (atF b l t).1 = []) ∨ (LOk b l ∧ 0 ≤ t ∧ t ≤ 100000 ∧ atF b l t = (stAt b l (unt l (t + 1)), (0, 0))) := by
  unfold atF
  by_cases h1 : (lgF b l).1 ≠ 0
  · left; rw [if_pos h1]; exact ⟨h1, rfl⟩
  · rw [if_neg h1]
    by_cases h2 : t < 0 ∨ 100000 < t
    · left; rw [if_pos h2]; exact ⟨by decide, rfl⟩
    · right; rw [if_neg h2]
      exact ⟨(lgF_ok (by simpa using h1)).2, by omega, by omega, rfl⟩
theorem atF_ok {b : List R} {l : List E} (h : LOk b l) {t : Int} (h0 : 0 ≤ t) (h1 : t ≤ 100000) : atF b l t = (stAt b l (unt l (t + 1)), (0, 0)) := by
  unfold atF; rw [h.f, if_neg (by decide), if_neg (by omega)]
end Rf
namespace Go.Proofs.YtfbbgnhelannjaaDoor
open Go.RowKit Go.V Go.Shelf Go.Lib
set_option linter.unusedVariables false

set_option maxRecDepth 100000 in
set_option maxHeartbeats 16000000 in
theorem logExample_any (w : World) (hm : Mx w) : Calls Tryd.prog 31 #[] w fun e w' => e = .returned (.bool true) ∧ Below w.heap.size w w' := by
  have hM := Lib.hid hm
  clear hm
  have HB0 := Lib.hid (Below.refl w.heap.size w)
  go_enter Tryd.func31, Tryd.ntmps31
  have lg := Blk.new w 69 #[.int .i64 3, .string ⟨#[97]⟩, .int .i64 (-1), .int .i64 5, .int .i64 5, .string ⟨#[97]⟩, .int .i64 5, .int .i64 6]
  have HBa1 := Lib.hid (HB0.out.alloc HB0.out.size (.cells #[.int .i64 3, .string ⟨#[97]⟩, .int .i64 (-1), .int .i64 5, .int .i64 5, .string ⟨#[97]⟩, .int .i64 5, .int .i64 6] 69))
  replace hM := Lib.hid (hM.out.below (below_alloc1 w (.cells #[.int .i64 3, .string ⟨#[97]⟩, .int .i64 (-1), .int .i64 5, .int .i64 5, .string ⟨#[97]⟩, .int .i64 5, .int .i64 6] 69)))
  have VL := Lib.hid (show SA _ Free (some ⟨w.heap.size, 0, none⟩) (esV Rf.exL) from SA.of_blk lg (fun h => h))
  have HU := Lib.hid (replay_any (w.alloc (.cells #[.int .i64 3, .string ⟨#[97]⟩, .int .i64 (-1), .int .i64 5, .int .i64 5, .string ⟨#[97]⟩, .int .i64 5, .int .i64 6] 69)) hM.out none 0 [] SA.nil (by simp) (by simp) (some ⟨w.heap.size, 0, none⟩) 2 Rf.exL VL.out)
  rw [Rf.exL_rp] at HU
  go_wp2_with fail
  go_at_call 32
  refine (HU.out).mono ?_
  rintro e w1 ⟨A1, c1, rfl, hc1, hs1, hb1'⟩
  have HBm1 := Lib.hid (HBa1.out.trans (hb1'.mono HBa1.out.size))
  replace lg := lg.below hb1' lg.lt
  replace hM := Lib.hid (hM.out.below hb1')
  replace VL := Lib.hid (VL.out.keep (free_below hb1'))
  have lg_l : w.heap.size < w1.heap.size := lg.lt
  have lg_l1 : w.heap.size < w1.heap.size + 1 := Nat.lt_succ_of_lt lg_l
  have lg_l2 : w.heap.size < w1.heap.size + 1 + 1 := Nat.lt_succ_of_lt lg_l1
  have lg_0 : w1.cell? ⟨w.heap.size, 0, none⟩ = some (.int .i64 3) := (lg.cell 0).trans rfl
  have lg_1 : w1.cell? ⟨w.heap.size, 1, none⟩ = some (.string ⟨#[97]⟩) := (lg.cell 1).trans rfl
  have lg_2 : w1.cell? ⟨w.heap.size, 2, none⟩ = some (.int .i64 (-1)) := (lg.cell 2).trans rfl
  have lg_3 : w1.cell? ⟨w.heap.size, 3, none⟩ = some (.int .i64 5) := (lg.cell 3).trans rfl
  have lg_4 : w1.cell? ⟨w.heap.size, 4, none⟩ = some (.int .i64 5) := (lg.cell 4).trans rfl
  have lg_5 : w1.cell? ⟨w.heap.size, 5, none⟩ = some (.string ⟨#[97]⟩) := (lg.cell 5).trans rfl
  have lg_6 : w1.cell? ⟨w.heap.size, 6, none⟩ = some (.int .i64 5) := (lg.cell 6).trans rfl
  have lg_7 : w1.cell? ⟨w.heap.size, 7, none⟩ = some (.int .i64 6) := (lg.cell 7).trans rfl
  have V1 := Lib.hid (hs1.mono (X' := Free) (fun _ h => h.elim))
  clear hs1
  clear hb1'
  replace lg := lg.alloc (.cells #[.slice A1 1 c1] 26)
  have x1 := Blk.new w1 26 #[.slice A1 1 c1]
  have HBa2 := Lib.hid (HBm1.out.alloc HBm1.out.size (.cells #[.slice A1 1 c1] 26))
  replace hM := Lib.hid (hM.out.below (below_alloc1 w1 (.cells #[.slice A1 1 c1] 26)))
  replace VL := Lib.hid (VL.out.keep (Keeps.alloc w1 _ (.cells #[.slice A1 1 c1] 26)))
  replace V1 := Lib.hid (V1.out.keep (Keeps.alloc w1 _ (.cells #[.slice A1 1 c1] 26)))
  replace lg := lg.alloc (.cells #[.int .i64 0, .int .i64 0] 30)
  replace x1 := x1.alloc (.cells #[.int .i64 0, .int .i64 0] 30)
  have x2 : Blk ((w1.alloc (.cells #[.slice A1 1 c1] 26)).alloc (.cells #[.int .i64 0, .int .i64 0] 30)) (w1.heap.size + 1) 30 #[.int .i64 0, .int .i64 0] := by simpa using Blk.new (w1.alloc (.cells #[.slice A1 1 c1] 26)) 30 #[.int .i64 0, .int .i64 0]
  have HBa3 := Lib.hid (HBa2.out.alloc HBa2.out.size (.cells #[.int .i64 0, .int .i64 0] 30))
  replace hM := Lib.hid (hM.out.below (below_alloc1 (w1.alloc (.cells #[.slice A1 1 c1] 26)) (.cells #[.int .i64 0, .int .i64 0] 30)))
  replace VL := Lib.hid (VL.out.keep (Keeps.alloc (w1.alloc (.cells #[.slice A1 1 c1] 26)) _ (.cells #[.int .i64 0, .int .i64 0] 30)))
  replace V1 := Lib.hid (V1.out.keep (Keeps.alloc (w1.alloc (.cells #[.slice A1 1 c1] 26)) _ (.cells #[.int .i64 0, .int .i64 0] 30)))
  clear HU
  have HU := Lib.hid (at_any ((w1.alloc (.cells #[.slice A1 1 c1] 26)).alloc (.cells #[.int .i64 0, .int .i64 0] 30)) hM.out none 0 [] SA.nil (by simp) (by simp) (some ⟨w.heap.size, 0, none⟩) 2 Rf.exL VL.out 4)
  rw [Rf.exL_at] at HU
  go_wp2_with fail
  go_at_call 33
  refine (HU.out).mono ?_
  rintro e w2 ⟨A2, c2, rfl, hc2, hs2, hb2'⟩
  have HBm2 := Lib.hid (HBa3.out.trans (hb2'.mono HBa3.out.size))
  replace lg := lg.below hb2' lg.lt
  replace x1 := x1.below hb2' x1.lt
  replace x2 := x2.below hb2' x2.lt
  replace hM := Lib.hid (hM.out.below hb2')
  replace VL := Lib.hid (VL.out.keep (free_below hb2'))
  replace V1 := Lib.hid (V1.out.keep (free_below hb2'))
  clear lg_l lg_l1 lg_l2 lg_0 lg_1 lg_2 lg_3 lg_4 lg_5 lg_6 lg_7
  have lg_l : w.heap.size < w2.heap.size := lg.lt
  have lg_l1 : w.heap.size < w2.heap.size + 1 := Nat.lt_succ_of_lt lg_l
  have lg_l2 : w.heap.size < w2.heap.size + 1 + 1 := Nat.lt_succ_of_lt lg_l1
  have lg_0 : w2.cell? ⟨w.heap.size, 0, none⟩ = some (.int .i64 3) := (lg.cell 0).trans rfl
  have lg_1 : w2.cell? ⟨w.heap.size, 1, none⟩ = some (.string ⟨#[97]⟩) := (lg.cell 1).trans rfl
  have lg_2 : w2.cell? ⟨w.heap.size, 2, none⟩ = some (.int .i64 (-1)) := (lg.cell 2).trans rfl
  have lg_3 : w2.cell? ⟨w.heap.size, 3, none⟩ = some (.int .i64 5) := (lg.cell 3).trans rfl
  have lg_4 : w2.cell? ⟨w.heap.size, 4, none⟩ = some (.int .i64 5) := (lg.cell 4).trans rfl
  have lg_5 : w2.cell? ⟨w.heap.size, 5, none⟩ = some (.string ⟨#[97]⟩) := (lg.cell 5).trans rfl
  have lg_6 : w2.cell? ⟨w.heap.size, 6, none⟩ = some (.int .i64 5) := (lg.cell 6).trans rfl
  have lg_7 : w2.cell? ⟨w.heap.size, 7, none⟩ = some (.int .i64 6) := (lg.cell 7).trans rfl
  have x1_l : w1.heap.size < w2.heap.size := x1.lt
  have x1_l1 : w1.heap.size < w2.heap.size + 1 := Nat.lt_succ_of_lt x1_l
  have x1_l2 : w1.heap.size < w2.heap.size + 1 + 1 := Nat.lt_succ_of_lt x1_l1
  have x1_0 : w2.cell? ⟨w1.heap.size, 0, none⟩ = some (.slice A1 1 c1) := (x1.cell 0).trans rfl
  have x2_l : w1.heap.size + 1 < w2.heap.size := x2.lt
  have x2_l1 : w1.heap.size + 1 < w2.heap.size + 1 := Nat.lt_succ_of_lt x2_l
  have x2_l2 : w1.heap.size + 1 < w2.heap.size + 1 + 1 := Nat.lt_succ_of_lt x2_l1
  have x2_0 : w2.cell? ⟨w1.heap.size + 1, 0, none⟩ = some (.int .i64 0) := (x2.cell 0).trans rfl
  have x2_1 : w2.cell? ⟨w1.heap.size + 1, 1, none⟩ = some (.int .i64 0) := (x2.cell 1).trans rfl
  have V2 := Lib.hid (hs2.mono (X' := Free) (fun _ h => h.elim))
  clear hs2
  clear hb2'
  replace lg := lg.alloc (.cells #[.slice A2 1 c2] 26)
  replace x1 := x1.alloc (.cells #[.slice A2 1 c2] 26)
  replace x2 := x2.alloc (.cells #[.slice A2 1 c2] 26)
  have x3 := Blk.new w2 26 #[.slice A2 1 c2]
  have HBa4 := Lib.hid (HBm2.out.alloc HBm2.out.size (.cells #[.slice A2 1 c2] 26))
  replace hM := Lib.hid (hM.out.below (below_alloc1 w2 (.cells #[.slice A2 1 c2] 26)))
  replace VL := Lib.hid (VL.out.keep (Keeps.alloc w2 _ (.cells #[.slice A2 1 c2] 26)))
  replace V1 := Lib.hid (V1.out.keep (Keeps.alloc w2 _ (.cells #[.slice A2 1 c2] 26)))
  replace V2 := Lib.hid (V2.out.keep (Keeps.alloc w2 _ (.cells #[.slice A2 1 c2] 26)))
  replace lg := lg.alloc (.cells #[.int .i64 0, .int .i64 0] 30)
  replace x1 := x1.alloc (.cells #[.int .i64 0, .int .i64 0] 30)
  replace x2 := x2.alloc (.cells #[.int .i64 0, .int .i64 0] 30)
  replace x3 := x3.alloc (.cells #[.int .i64 0, .int .i64 0] 30)
  have x4 : Blk ((w2.alloc (.cells #[.slice A2 1 c2] 26)).alloc (.cells #[.int .i64 0, .int .i64 0] 30)) (w2.heap.size + 1) 30 #[.int .i64 0, .int .i64 0] := by simpa using Blk.new (w2.alloc (.cells #[.slice A2 1 c2] 26)) 30 #[.int .i64 0, .int .i64 0]
  have HBa5 := Lib.hid (HBa4.out.alloc HBa4.out.size (.cells #[.int .i64 0, .int .i64 0] 30))
  replace hM := Lib.hid (hM.out.below (below_alloc1 (w2.alloc (.cells #[.slice A2 1 c2] 26)) (.cells #[.int .i64 0, .int .i64 0] 30)))
  replace VL := Lib.hid (VL.out.keep (Keeps.alloc (w2.alloc (.cells #[.slice A2 1 c2] 26)) _ (.cells #[.int .i64 0, .int .i64 0] 30)))
  replace V1 := Lib.hid (V1.out.keep (Keeps.alloc (w2.alloc (.cells #[.slice A2 1 c2] 26)) _ (.cells #[.int .i64 0, .int .i64 0] 30)))
  replace V2 := Lib.hid (V2.out.keep (Keeps.alloc (w2.alloc (.cells #[.slice A2 1 c2] 26)) _ (.cells #[.int .i64 0, .int .i64 0] 30)))
  obtain ⟨b1, o1, rfl, hb1, _, _, d1⟩ := rsV_row V1.out 0 (by simp)
  obtain ⟨b2, o2, rfl, hb2, _, _, d2⟩ := rsV_row V2.out 0 (by simp)
  replace d1 : _ = some (Value.int .i64 6) := d1
  replace d2 : _ = some (Value.int .i64 5) := d2
  simp only [Nat.zero_mul, Nat.add_zero] at d1 d2
  go_wp2_with fail
  go_ret
  exact ⟨by simp, HBa5.out⟩
set_option maxRecDepth 100000 in
set_option maxHeartbeats 32000000 in
theorem law11_any (w : World) (hm : Mx w) (A : Option Addr) (k : Nat) (s : List Rf.R) (hv : SA w Free A (rsV s)) (hl : s.length * 24 ≤ 140737488351232) (hk : s.length ≤ k)
    (A2 : Option Addr) (k2 : Nat) (l : List Rf.E) (hv2 : SA w Free A2 (esV l)) (hl2 : l.length * 40 ≤ 140737488351232) (hk2 : l.length ≤ k2) (t u : Int) :
    Calls Tryd.prog 11 #[.agg #[.slice A s.length k], .slice A2 l.length k2, .int .i64 t, .int .i64 u] w fun e w' => e = .returned (.bool true) ∧ Below w.heap.size w w' := by
  have hM := Lib.hid hm
  have V0 := Lib.hid hv
  have V2 := Lib.hid hv2
  have HEC := Lib.hid (Rf.exF_cases s l t)
  have HAC := Lib.hid (Rf.atF_cases s l u)
  have H34 := Lib.hid (fun (w1 : World) (hm : Mx w1) (hv : SA w1 Free A (rsV s)) (hv2 : SA w1 Free A2 (esV l)) => expire_any w1 hm A k s hv (by omega) hk A2 k2 l hv2 hk2 t)
  have H33 := Lib.hid (fun (w1 : World) (hm : Mx w1) (hv : SA w1 Free A (rsV s)) (hv2 : SA w1 Free A2 (esV l)) => at_any w1 hm A k s hv (by omega) hk A2 k2 l hv2 u)
  have HNX := Lib.hid (fun (h : Rf.LOk s l) (htu : ¬ u < t) (h0 : 0 ≤ t) (h1 : u ≤ 100000) (w1 : World) (hm : Mx w1) (A3 : Option Addr) (c3 : Nat) (hc3 : (Rf.stAt s l (Rf.unt l t)).length ≤ c3) (hv : SA w1 Free A3 (rsV (Rf.stAt s l (Rf.unt l t)))) (A4 : Option Addr) (c4 : Nat) (hv2 : SA w1 Free A4 (esV (l.drop (Rf.unt l t)))) => by
    have := at_any w1 hm A3 c3 _ hv (by have := (h.stOk (Rf.unt l t)).len; omega) hc3 A4 c4 _ hv2 u
    rw [Rf.atF_ok (h.drop (Rf.unt l t)) (by omega) h1, (Rf.expire_keeps h t u (by omega)).2] at this
    exact this)
  clear hm hv hv2
  generalize hr : Rf.exF s l t = r at *
  generalize hq : Rf.atF s l u = q at *
  clear hr hq
  have HB0 := Lib.hid (Below.refl w.heap.size w)
  go_enter Tryd.func11, Tryd.ntmps11
  have bx := Blk.new w 26 #[.slice A s.length k]
  have HBa1 := Lib.hid (HB0.out.alloc HB0.out.size (.cells #[.slice A s.length k] 26))
  replace hM := Lib.hid (hM.out.below (below_alloc1 w (.cells #[.slice A s.length k] 26)))
  replace V0 := Lib.hid (V0.out.keep (Keeps.alloc w _ (.cells #[.slice A s.length k] 26)))
  replace V2 := Lib.hid (V2.out.keep (Keeps.alloc w _ (.cells #[.slice A s.length k] 26)))
  go_wp2_with fail
  go_at_call 31
  refine (logExample_any _ hM.out).mono ?_
  rintro e w1 ⟨rfl, hb1'⟩
  have HBm1 := Lib.hid (HBa1.out.trans (hb1'.mono HBa1.out.size))
  replace bx := bx.below hb1' bx.lt
  replace hM := Lib.hid (hM.out.below hb1')
  replace V0 := Lib.hid (V0.out.keep (free_below hb1'))
  replace V2 := Lib.hid (V2.out.keep (free_below hb1'))
  have bx_l : w.heap.size < w1.heap.size := bx.lt
  have bx_l1 : w.heap.size < w1.heap.size + 1 := Nat.lt_succ_of_lt bx_l
  have bx_l2 : w.heap.size < w1.heap.size + 1 + 1 := Nat.lt_succ_of_lt bx_l1
  have bx_0 : w1.cell? ⟨w.heap.size, 0, none⟩ = some (.slice A s.length k) := (bx.cell 0).trans rfl
  clear hb1'
  obtain ⟨⟨rs, rl⟩, c1, i1⟩ := r
  go_wp2_with fail
  go_at_call 34
  refine (H34.out _ hM.out V0.out V2.out).mono ?_
  rintro e w2 ⟨Ax, cx, Ay, cy, rfl, hcx, hcy, hsx, hsy, hb2'⟩
  have HBm2 := Lib.hid (HBm1.out.trans (hb2'.mono HBm1.out.size))
  replace bx := bx.below hb2' bx.lt
  replace hM := Lib.hid (hM.out.below hb2')
  replace V0 := Lib.hid (V0.out.keep (free_below hb2'))
  replace V2 := Lib.hid (V2.out.keep (free_below hb2'))
  clear bx_l bx_l1 bx_l2 bx_0
  have bx_l : w.heap.size < w2.heap.size := bx.lt
  have bx_l1 : w.heap.size < w2.heap.size + 1 := Nat.lt_succ_of_lt bx_l
  have bx_l2 : w.heap.size < w2.heap.size + 1 + 1 := Nat.lt_succ_of_lt bx_l1
  have bx_0 : w2.cell? ⟨w.heap.size, 0, none⟩ = some (.slice A s.length k) := (bx.cell 0).trans rfl
  have Vx := Lib.hid (hsx.mono (X' := Free) (fun _ h => h.elim))
  clear hsx
  have Vy := Lib.hid (hsy.mono (X' := Free) (fun _ h => h.elim))
  clear hsy
  clear hb2'
  simp only at *
  replace bx := bx.alloc (.cells #[.slice Ax rs.length cx] 26)
  have x := Blk.new w2 26 #[.slice Ax rs.length cx]
  have HBa2 := Lib.hid (HBm2.out.alloc HBm2.out.size (.cells #[.slice Ax rs.length cx] 26))
  replace hM := Lib.hid (hM.out.below (below_alloc1 w2 (.cells #[.slice Ax rs.length cx] 26)))
  replace V0 := Lib.hid (V0.out.keep (Keeps.alloc w2 _ (.cells #[.slice Ax rs.length cx] 26)))
  replace V2 := Lib.hid (V2.out.keep (Keeps.alloc w2 _ (.cells #[.slice Ax rs.length cx] 26)))
  replace Vx := Lib.hid (Vx.out.keep (Keeps.alloc w2 _ (.cells #[.slice Ax rs.length cx] 26)))
  replace Vy := Lib.hid (Vy.out.keep (Keeps.alloc w2 _ (.cells #[.slice Ax rs.length cx] 26)))
  replace bx := bx.alloc (.cells #[.int .i64 c1, .int .i64 i1] 30)
  replace x := x.alloc (.cells #[.int .i64 c1, .int .i64 i1] 30)
  have f : Blk ((w2.alloc (.cells #[.slice Ax rs.length cx] 26)).alloc (.cells #[.int .i64 c1, .int .i64 i1] 30)) (w2.heap.size + 1) 30 #[.int .i64 c1, .int .i64 i1] := by simpa using Blk.new (w2.alloc (.cells #[.slice Ax rs.length cx] 26)) 30 #[.int .i64 c1, .int .i64 i1]
  have HBa3 := Lib.hid (HBa2.out.alloc HBa2.out.size (.cells #[.int .i64 c1, .int .i64 i1] 30))
  replace hM := Lib.hid (hM.out.below (below_alloc1 (w2.alloc (.cells #[.slice Ax rs.length cx] 26)) (.cells #[.int .i64 c1, .int .i64 i1] 30)))
  replace V0 := Lib.hid (V0.out.keep (Keeps.alloc (w2.alloc (.cells #[.slice Ax rs.length cx] 26)) _ (.cells #[.int .i64 c1, .int .i64 i1] 30)))
  replace V2 := Lib.hid (V2.out.keep (Keeps.alloc (w2.alloc (.cells #[.slice Ax rs.length cx] 26)) _ (.cells #[.int .i64 c1, .int .i64 i1] 30)))
  replace Vx := Lib.hid (Vx.out.keep (Keeps.alloc (w2.alloc (.cells #[.slice Ax rs.length cx] 26)) _ (.cells #[.int .i64 c1, .int .i64 i1] 30)))
  replace Vy := Lib.hid (Vy.out.keep (Keeps.alloc (w2.alloc (.cells #[.slice Ax rs.length cx] 26)) _ (.cells #[.int .i64 c1, .int .i64 i1] 30)))
  obtain ⟨qs, c2, i2⟩ := q
  go_wp2_with fail
  go_at_call 33
  refine (H33.out _ hM.out V0.out V2.out).mono ?_
  rintro e w3 ⟨Az, cz, rfl, hcz, hsz, hb3'⟩
  have HBm3 := Lib.hid (HBa3.out.trans (hb3'.mono HBa3.out.size))
  replace bx := bx.below hb3' bx.lt
  replace x := x.below hb3' x.lt
  replace f := f.below hb3' f.lt
  replace hM := Lib.hid (hM.out.below hb3')
  replace V0 := Lib.hid (V0.out.keep (free_below hb3'))
  replace V2 := Lib.hid (V2.out.keep (free_below hb3'))
  replace Vx := Lib.hid (Vx.out.keep (free_below hb3'))
  replace Vy := Lib.hid (Vy.out.keep (free_below hb3'))
  clear bx_l bx_l1 bx_l2 bx_0
  have bx_l : w.heap.size < w3.heap.size := bx.lt
  have bx_l1 : w.heap.size < w3.heap.size + 1 := Nat.lt_succ_of_lt bx_l
  have bx_l2 : w.heap.size < w3.heap.size + 1 + 1 := Nat.lt_succ_of_lt bx_l1
  have bx_0 : w3.cell? ⟨w.heap.size, 0, none⟩ = some (.slice A s.length k) := (bx.cell 0).trans rfl
  have x_l : w2.heap.size < w3.heap.size := x.lt
  have x_l1 : w2.heap.size < w3.heap.size + 1 := Nat.lt_succ_of_lt x_l
  have x_l2 : w2.heap.size < w3.heap.size + 1 + 1 := Nat.lt_succ_of_lt x_l1
  have x_0 : w3.cell? ⟨w2.heap.size, 0, none⟩ = some (.slice Ax rs.length cx) := (x.cell 0).trans rfl
  have f_l : w2.heap.size + 1 < w3.heap.size := f.lt
  have f_l1 : w2.heap.size + 1 < w3.heap.size + 1 := Nat.lt_succ_of_lt f_l
  have f_l2 : w2.heap.size + 1 < w3.heap.size + 1 + 1 := Nat.lt_succ_of_lt f_l1
  have f_0 : w3.cell? ⟨w2.heap.size + 1, 0, none⟩ = some (.int .i64 c1) := (f.cell 0).trans rfl
  have f_1 : w3.cell? ⟨w2.heap.size + 1, 1, none⟩ = some (.int .i64 i1) := (f.cell 1).trans rfl
  have Vz := Lib.hid (hsz.mono (X' := Free) (fun _ h => h.elim))
  clear hsz
  clear hb3'
  simp only at *
  replace bx := bx.alloc (.cells #[.slice Az qs.length cz] 26)
  replace x := x.alloc (.cells #[.slice Az qs.length cz] 26)
  replace f := f.alloc (.cells #[.slice Az qs.length cz] 26)
  have z := Blk.new w3 26 #[.slice Az qs.length cz]
  have HBa4 := Lib.hid (HBm3.out.alloc HBm3.out.size (.cells #[.slice Az qs.length cz] 26))
  replace hM := Lib.hid (hM.out.below (below_alloc1 w3 (.cells #[.slice Az qs.length cz] 26)))
  replace V0 := Lib.hid (V0.out.keep (Keeps.alloc w3 _ (.cells #[.slice Az qs.length cz] 26)))
  replace V2 := Lib.hid (V2.out.keep (Keeps.alloc w3 _ (.cells #[.slice Az qs.length cz] 26)))
  replace Vx := Lib.hid (Vx.out.keep (Keeps.alloc w3 _ (.cells #[.slice Az qs.length cz] 26)))
  replace Vy := Lib.hid (Vy.out.keep (Keeps.alloc w3 _ (.cells #[.slice Az qs.length cz] 26)))
  replace Vz := Lib.hid (Vz.out.keep (Keeps.alloc w3 _ (.cells #[.slice Az qs.length cz] 26)))
  replace bx := bx.alloc (.cells #[.int .i64 c2, .int .i64 i2] 30)
  replace x := x.alloc (.cells #[.int .i64 c2, .int .i64 i2] 30)
  replace f := f.alloc (.cells #[.int .i64 c2, .int .i64 i2] 30)
  replace z := z.alloc (.cells #[.int .i64 c2, .int .i64 i2] 30)
  have g : Blk ((w3.alloc (.cells #[.slice Az qs.length cz] 26)).alloc (.cells #[.int .i64 c2, .int .i64 i2] 30)) (w3.heap.size + 1) 30 #[.int .i64 c2, .int .i64 i2] := by simpa using Blk.new (w3.alloc (.cells #[.slice Az qs.length cz] 26)) 30 #[.int .i64 c2, .int .i64 i2]
  have HBa5 := Lib.hid (HBa4.out.alloc HBa4.out.size (.cells #[.int .i64 c2, .int .i64 i2] 30))
  replace hM := Lib.hid (hM.out.below (below_alloc1 (w3.alloc (.cells #[.slice Az qs.length cz] 26)) (.cells #[.int .i64 c2, .int .i64 i2] 30)))
  replace V0 := Lib.hid (V0.out.keep (Keeps.alloc (w3.alloc (.cells #[.slice Az qs.length cz] 26)) _ (.cells #[.int .i64 c2, .int .i64 i2] 30)))
  replace V2 := Lib.hid (V2.out.keep (Keeps.alloc (w3.alloc (.cells #[.slice Az qs.length cz] 26)) _ (.cells #[.int .i64 c2, .int .i64 i2] 30)))
  replace Vx := Lib.hid (Vx.out.keep (Keeps.alloc (w3.alloc (.cells #[.slice Az qs.length cz] 26)) _ (.cells #[.int .i64 c2, .int .i64 i2] 30)))
  replace Vy := Lib.hid (Vy.out.keep (Keeps.alloc (w3.alloc (.cells #[.slice Az qs.length cz] 26)) _ (.cells #[.int .i64 c2, .int .i64 i2] 30)))
  replace Vz := Lib.hid (Vz.out.keep (Keeps.alloc (w3.alloc (.cells #[.slice Az qs.length cz] 26)) _ (.cells #[.int .i64 c2, .int .i64 i2] 30)))
  rcases HEC.out with ⟨hc, hx⟩ | ⟨hok, ht0, ht1, he⟩
  · have hx1 : (c1 == 0) = false := by simpa using hc
    have hx2 : (c1 != 0) = true := by simpa using hc
    subst hx
    clear HEC HAC H34 H33 HNX hc
    go_wp2_with fail
    go_ret
    exact ⟨by simp, HBa5.out⟩
  · injection he with e1 e2
    injection e1 with e3 e4
    injection e2 with e5 e6
    subst e5
    subst e6
    clear HEC
    rcases HAC.out with ⟨hc, hx⟩ | ⟨_, hu0, hu1, he⟩
    · have hx1 : (c2 == 0) = false := by simpa using hc
      have hx2 : (c2 != 0) = true := by simpa using hc
      subst hx
      clear e3 e4 HAC H34 H33 HNX hc
      go_wp2_with fail
      go_ret
      exact ⟨by simp, HBa5.out⟩
    · injection he with e7 e8
      injection e8 with e8 e9
      subst e8
      subst e9
      clear HAC
      by_cases hut : u < t
      · clear H34 H33 HNX e3 e4 e7
        go_wp2_with fail
        go_ret
        exact ⟨by simp, HBa5.out⟩
      have HN := Lib.hid (HNX.out hok (by omega) ht0 hu1)
      rw [← e3, ← e4, ← e7] at HN
      have hql : qs.length ≤ 30 := by rw [e7]; exact (hok.stOk _).len
      clear HNX H34 H33 hok ht0 ht1 hu0 hu1 e3 e4 e7
      go_wp2_with fail
      go_at_call 33
      refine (HN.out _ hM.out Ax cx hcx Vx.out Ay cy Vy.out).mono ?_
      rintro e w4 ⟨Ap, cp, rfl, hcp, hsp, hb4'⟩
      have HBm4 := Lib.hid (HBa5.out.trans (hb4'.mono HBa5.out.size))
      replace bx := bx.below hb4' bx.lt
      replace x := x.below hb4' x.lt
      replace f := f.below hb4' f.lt
      replace z := z.below hb4' z.lt
      replace g := g.below hb4' g.lt
      replace hM := Lib.hid (hM.out.below hb4')
      replace V0 := Lib.hid (V0.out.keep (free_below hb4'))
      replace V2 := Lib.hid (V2.out.keep (free_below hb4'))
      replace Vx := Lib.hid (Vx.out.keep (free_below hb4'))
      replace Vy := Lib.hid (Vy.out.keep (free_below hb4'))
      replace Vz := Lib.hid (Vz.out.keep (free_below hb4'))
      clear bx_l bx_l1 bx_l2 bx_0 x_l x_l1 x_l2 x_0 f_l f_l1 f_l2 f_0 f_1
      have bx_l : w.heap.size < w4.heap.size := bx.lt
      have bx_l1 : w.heap.size < w4.heap.size + 1 := Nat.lt_succ_of_lt bx_l
      have bx_l2 : w.heap.size < w4.heap.size + 1 + 1 := Nat.lt_succ_of_lt bx_l1
      have bx_0 : w4.cell? ⟨w.heap.size, 0, none⟩ = some (.slice A s.length k) := (bx.cell 0).trans rfl
      have x_l : w2.heap.size < w4.heap.size := x.lt
      have x_l1 : w2.heap.size < w4.heap.size + 1 := Nat.lt_succ_of_lt x_l
      have x_l2 : w2.heap.size < w4.heap.size + 1 + 1 := Nat.lt_succ_of_lt x_l1
      have x_0 : w4.cell? ⟨w2.heap.size, 0, none⟩ = some (.slice Ax rs.length cx) := (x.cell 0).trans rfl
      have f_l : w2.heap.size + 1 < w4.heap.size := f.lt
      have f_l1 : w2.heap.size + 1 < w4.heap.size + 1 := Nat.lt_succ_of_lt f_l
      have f_l2 : w2.heap.size + 1 < w4.heap.size + 1 + 1 := Nat.lt_succ_of_lt f_l1
      have f_0 : w4.cell? ⟨w2.heap.size + 1, 0, none⟩ = some (.int .i64 0) := (f.cell 0).trans rfl
      have f_1 : w4.cell? ⟨w2.heap.size + 1, 1, none⟩ = some (.int .i64 0) := (f.cell 1).trans rfl
      have z_l : w3.heap.size < w4.heap.size := z.lt
      have z_l1 : w3.heap.size < w4.heap.size + 1 := Nat.lt_succ_of_lt z_l
      have z_l2 : w3.heap.size < w4.heap.size + 1 + 1 := Nat.lt_succ_of_lt z_l1
      have z_0 : w4.cell? ⟨w3.heap.size, 0, none⟩ = some (.slice Az qs.length cz) := (z.cell 0).trans rfl
      have g_l : w3.heap.size + 1 < w4.heap.size := g.lt
      have g_l1 : w3.heap.size + 1 < w4.heap.size + 1 := Nat.lt_succ_of_lt g_l
      have g_l2 : w3.heap.size + 1 < w4.heap.size + 1 + 1 := Nat.lt_succ_of_lt g_l1
      have g_0 : w4.cell? ⟨w3.heap.size + 1, 0, none⟩ = some (.int .i64 0) := (g.cell 0).trans rfl
      have g_1 : w4.cell? ⟨w3.heap.size + 1, 1, none⟩ = some (.int .i64 0) := (g.cell 1).trans rfl
      have Vp := Lib.hid (hsp.mono (X' := Free) (fun _ h => h.elim))
      clear hsp
      clear hb4'
      simp only at *
      replace bx := bx.alloc (.cells #[.slice Ap qs.length cp] 26)
      replace x := x.alloc (.cells #[.slice Ap qs.length cp] 26)
      replace f := f.alloc (.cells #[.slice Ap qs.length cp] 26)
      replace z := z.alloc (.cells #[.slice Ap qs.length cp] 26)
      replace g := g.alloc (.cells #[.slice Ap qs.length cp] 26)
      have p := Blk.new w4 26 #[.slice Ap qs.length cp]
      have HBa6 := Lib.hid (HBm4.out.alloc HBm4.out.size (.cells #[.slice Ap qs.length cp] 26))
      replace hM := Lib.hid (hM.out.below (below_alloc1 w4 (.cells #[.slice Ap qs.length cp] 26)))
      replace V0 := Lib.hid (V0.out.keep (Keeps.alloc w4 _ (.cells #[.slice Ap qs.length cp] 26)))
      replace V2 := Lib.hid (V2.out.keep (Keeps.alloc w4 _ (.cells #[.slice Ap qs.length cp] 26)))
      replace Vx := Lib.hid (Vx.out.keep (Keeps.alloc w4 _ (.cells #[.slice Ap qs.length cp] 26)))
      replace Vy := Lib.hid (Vy.out.keep (Keeps.alloc w4 _ (.cells #[.slice Ap qs.length cp] 26)))
      replace Vz := Lib.hid (Vz.out.keep (Keeps.alloc w4 _ (.cells #[.slice Ap qs.length cp] 26)))
      replace Vp := Lib.hid (Vp.out.keep (Keeps.alloc w4 _ (.cells #[.slice Ap qs.length cp] 26)))
      replace bx := bx.alloc (.cells #[.int .i64 0, .int .i64 0] 30)
      replace x := x.alloc (.cells #[.int .i64 0, .int .i64 0] 30)
      replace f := f.alloc (.cells #[.int .i64 0, .int .i64 0] 30)
      replace z := z.alloc (.cells #[.int .i64 0, .int .i64 0] 30)
      replace g := g.alloc (.cells #[.int .i64 0, .int .i64 0] 30)
      replace p := p.alloc (.cells #[.int .i64 0, .int .i64 0] 30)
      have h : Blk ((w4.alloc (.cells #[.slice Ap qs.length cp] 26)).alloc (.cells #[.int .i64 0, .int .i64 0] 30)) (w4.heap.size + 1) 30 #[.int .i64 0, .int .i64 0] := by simpa using Blk.new (w4.alloc (.cells #[.slice Ap qs.length cp] 26)) 30 #[.int .i64 0, .int .i64 0]
      have HBa7 := Lib.hid (HBa6.out.alloc HBa6.out.size (.cells #[.int .i64 0, .int .i64 0] 30))
      replace hM := Lib.hid (hM.out.below (below_alloc1 (w4.alloc (.cells #[.slice Ap qs.length cp] 26)) (.cells #[.int .i64 0, .int .i64 0] 30)))
      replace V0 := Lib.hid (V0.out.keep (Keeps.alloc (w4.alloc (.cells #[.slice Ap qs.length cp] 26)) _ (.cells #[.int .i64 0, .int .i64 0] 30)))
      replace V2 := Lib.hid (V2.out.keep (Keeps.alloc (w4.alloc (.cells #[.slice Ap qs.length cp] 26)) _ (.cells #[.int .i64 0, .int .i64 0] 30)))
      replace Vx := Lib.hid (Vx.out.keep (Keeps.alloc (w4.alloc (.cells #[.slice Ap qs.length cp] 26)) _ (.cells #[.int .i64 0, .int .i64 0] 30)))
      replace Vy := Lib.hid (Vy.out.keep (Keeps.alloc (w4.alloc (.cells #[.slice Ap qs.length cp] 26)) _ (.cells #[.int .i64 0, .int .i64 0] 30)))
      replace Vz := Lib.hid (Vz.out.keep (Keeps.alloc (w4.alloc (.cells #[.slice Ap qs.length cp] 26)) _ (.cells #[.int .i64 0, .int .i64 0] 30)))
      replace Vp := Lib.hid (Vp.out.keep (Keeps.alloc (w4.alloc (.cells #[.slice Ap qs.length cp] 26)) _ (.cells #[.int .i64 0, .int .i64 0] 30)))
      go_wp2_with fail
      go_at_call 22
      refine (refStores_any _ Az Ap cz cp qs qs Vz.out Vp.out (by omega) (by omega)).mono ?_
      rintro e w5 ⟨rfl, hb5'⟩
      have HBm5 := Lib.hid (HBa7.out.trans (hb5'.mono HBa7.out.size))
      replace bx := bx.below hb5' bx.lt
      replace x := x.below hb5' x.lt
      replace f := f.below hb5' f.lt
      replace z := z.below hb5' z.lt
      replace g := g.below hb5' g.lt
      replace p := p.below hb5' p.lt
      replace h := h.below hb5' h.lt
      replace hM := Lib.hid (hM.out.below hb5')
      replace V0 := Lib.hid (V0.out.keep (free_below hb5'))
      replace V2 := Lib.hid (V2.out.keep (free_below hb5'))
      replace Vx := Lib.hid (Vx.out.keep (free_below hb5'))
      replace Vy := Lib.hid (Vy.out.keep (free_below hb5'))
      replace Vz := Lib.hid (Vz.out.keep (free_below hb5'))
      replace Vp := Lib.hid (Vp.out.keep (free_below hb5'))
      clear bx_l bx_l1 bx_l2 bx_0 x_l x_l1 x_l2 x_0 f_l f_l1 f_l2 f_0 f_1 z_l z_l1 z_l2 z_0 g_l g_l1 g_l2 g_0 g_1
      have bx_l : w.heap.size < w5.heap.size := bx.lt
      have bx_l1 : w.heap.size < w5.heap.size + 1 := Nat.lt_succ_of_lt bx_l
      have bx_l2 : w.heap.size < w5.heap.size + 1 + 1 := Nat.lt_succ_of_lt bx_l1
      have bx_0 : w5.cell? ⟨w.heap.size, 0, none⟩ = some (.slice A s.length k) := (bx.cell 0).trans rfl
      have x_l : w2.heap.size < w5.heap.size := x.lt
      have x_l1 : w2.heap.size < w5.heap.size + 1 := Nat.lt_succ_of_lt x_l
      have x_l2 : w2.heap.size < w5.heap.size + 1 + 1 := Nat.lt_succ_of_lt x_l1
      have x_0 : w5.cell? ⟨w2.heap.size, 0, none⟩ = some (.slice Ax rs.length cx) := (x.cell 0).trans rfl
      have f_l : w2.heap.size + 1 < w5.heap.size := f.lt
      have f_l1 : w2.heap.size + 1 < w5.heap.size + 1 := Nat.lt_succ_of_lt f_l
      have f_l2 : w2.heap.size + 1 < w5.heap.size + 1 + 1 := Nat.lt_succ_of_lt f_l1
      have f_0 : w5.cell? ⟨w2.heap.size + 1, 0, none⟩ = some (.int .i64 0) := (f.cell 0).trans rfl
      have f_1 : w5.cell? ⟨w2.heap.size + 1, 1, none⟩ = some (.int .i64 0) := (f.cell 1).trans rfl
      have z_l : w3.heap.size < w5.heap.size := z.lt
      have z_l1 : w3.heap.size < w5.heap.size + 1 := Nat.lt_succ_of_lt z_l
      have z_l2 : w3.heap.size < w5.heap.size + 1 + 1 := Nat.lt_succ_of_lt z_l1
      have z_0 : w5.cell? ⟨w3.heap.size, 0, none⟩ = some (.slice Az qs.length cz) := (z.cell 0).trans rfl
      have g_l : w3.heap.size + 1 < w5.heap.size := g.lt
      have g_l1 : w3.heap.size + 1 < w5.heap.size + 1 := Nat.lt_succ_of_lt g_l
      have g_l2 : w3.heap.size + 1 < w5.heap.size + 1 + 1 := Nat.lt_succ_of_lt g_l1
      have g_0 : w5.cell? ⟨w3.heap.size + 1, 0, none⟩ = some (.int .i64 0) := (g.cell 0).trans rfl
      have g_1 : w5.cell? ⟨w3.heap.size + 1, 1, none⟩ = some (.int .i64 0) := (g.cell 1).trans rfl
      have p_l : w4.heap.size < w5.heap.size := p.lt
      have p_l1 : w4.heap.size < w5.heap.size + 1 := Nat.lt_succ_of_lt p_l
      have p_l2 : w4.heap.size < w5.heap.size + 1 + 1 := Nat.lt_succ_of_lt p_l1
      have p_0 : w5.cell? ⟨w4.heap.size, 0, none⟩ = some (.slice Ap qs.length cp) := (p.cell 0).trans rfl
      have h_l : w4.heap.size + 1 < w5.heap.size := h.lt
      have h_l1 : w4.heap.size + 1 < w5.heap.size + 1 := Nat.lt_succ_of_lt h_l
      have h_l2 : w4.heap.size + 1 < w5.heap.size + 1 + 1 := Nat.lt_succ_of_lt h_l1
      have h_0 : w5.cell? ⟨w4.heap.size + 1, 0, none⟩ = some (.int .i64 0) := (h.cell 0).trans rfl
      have h_1 : w5.cell? ⟨w4.heap.size + 1, 1, none⟩ = some (.int .i64 0) := (h.cell 1).trans rfl
      clear hb5'
      go_wp2_with fail
      go_ret
      exact ⟨by simp, HBm5.out⟩
end Go.Proofs.YtfbbgnhelannjaaDoor
