/-
  RefsUpdateInverse, RefsIndependentUpdatesCommute: the laws' walks.
-/
import Derived.Test.YtfbbgnhelannjaaDoorRf21
namespace Rf
/-- 'Update' goes well, or it leaves nothing. -/
theorem upF_cases (s : List R) (u : U) : ((upF s u).2.1 ≠ 0 ∧ (upF s u).1 = []) ∨ (Ok s ∧ UOk s u ∧ upF s u = (upS s u, (0, 0))) := by
  unfold upF
  by_cases h1 : (rfF s).1 ≠ 0
  · left; rw [if_pos h1]; exact ⟨h1, rfl⟩
  · rw [if_neg h1]
    by_cases h2 : upC s u ≠ 0
    · left; rw [if_pos h2]; exact ⟨h2, rfl⟩
    · right; rw [if_neg h2]
      exact ⟨(rfF_ok (by simpa using h1)).2, upC_ok.1 (by simpa using h2), rfl⟩
theorem upF_ok {s : List R} {u : U} (h : Ok s) (hu : UOk s u) : upF s u = (upS s u, (0, 0)) := by
  unfold upF; rw [h.f, upC_ok.2 hu]; rfl
theorem upS_len {s : List R} (h : Ok s) (u : U) : (upS s u).length ≤ 31 := by
  have h1 := h.lenU u
  have h2 := h.len
  split at h1 <;> split at h1 <;> omega
end Rf
namespace Go.Proofs.YtfbbgnhelannjaaDoor
open Go.RowKit Go.V Go.Shelf Go.Lib
set_option linter.unusedVariables false

set_option maxRecDepth 100000 in
set_option maxHeartbeats 16000000 in
theorem law5_any (w : World) (hm : Mx w) (A : Option Addr) (k : Nat) (s : List Rf.R) (u : Rf.U) (hv : SA w Free A (rsV s)) (hl : s.length * 24 ≤ 140737488351232) (hk : s.length ≤ k) :
    Calls Tryd.prog 5 #[.agg #[.slice A s.length k], .agg #[strV u.name, .int .i64 u.old, .int .i64 u.new]] w fun e w' => e = .returned (.bool true) ∧ Below w.heap.size w w' := by
  have hM := Lib.hid hm
  have V0 := Lib.hid hv
  have HUF := Lib.hid (Rf.upF_cases s u)
  have H18 := Lib.hid (fun (w1 : World) (hm : Mx w1) (hv : SA w1 Free A (rsV s)) => update_any w1 hm A k s u hv (by omega) hk)
  have H22 := Lib.hid (fun (hok : Rf.Ok s) (hu : Rf.UOk s u) (Ax : Option Addr) (cx : Nat) (w1 : World) (hm : Mx w1) (hv : SA w1 Free Ax (rsV (Rf.upS s u))) (hc : (Rf.upS s u).length ≤ cx) => by
    have := update_any w1 hm Ax cx (Rf.upS s u) (Rf.inv u) hv (by have := Rf.upS_len hok u; omega) hc
    rw [Rf.upF_ok (hok.up hu) (hok.undo hu).1, (hok.undo hu).2] at this
    exact this)
  have HST := Lib.hid (fun (w1 : World) (A1 A2 : Option Addr) (c1 c2 : Nat) (h1 : SA w1 Free A1 (rsV s)) (h2 : SA w1 Free A2 (rsV s)) => refStores_any w1 A1 A2 c1 c2 s s h1 h2 (by omega) (by omega))
  clear hm hv
  obtain ⟨un, uo, uw⟩ := u
  simp only [Rf.inv] at *
  have HB0 := Lib.hid (Below.refl w.heap.size w)
  go_enter Tryd.func5, Tryd.ntmps5
  have bx := Blk.new w 26 #[.slice A s.length k]
  have HBa1 := Lib.hid (HB0.out.alloc HB0.out.size (.cells #[.slice A s.length k] 26))
  replace hM := Lib.hid (hM.out.below (below_alloc1 w (.cells #[.slice A s.length k] 26)))
  replace V0 := Lib.hid (V0.out.keep (Keeps.alloc w _ (.cells #[.slice A s.length k] 26)))
  replace bx := bx.alloc (.cells #[strV un, .int .i64 uo, .int .i64 uw] 28)
  have bu : Blk ((w.alloc (.cells #[.slice A s.length k] 26)).alloc (.cells #[strV un, .int .i64 uo, .int .i64 uw] 28)) (w.heap.size + 1) 28 #[strV un, .int .i64 uo, .int .i64 uw] := by simpa using Blk.new (w.alloc (.cells #[.slice A s.length k] 26)) 28 #[strV un, .int .i64 uo, .int .i64 uw]
  have HBa2 := Lib.hid (HBa1.out.alloc HBa1.out.size (.cells #[strV un, .int .i64 uo, .int .i64 uw] 28))
  replace hM := Lib.hid (hM.out.below (below_alloc1 (w.alloc (.cells #[.slice A s.length k] 26)) (.cells #[strV un, .int .i64 uo, .int .i64 uw] 28)))
  replace V0 := Lib.hid (V0.out.keep (Keeps.alloc (w.alloc (.cells #[.slice A s.length k] 26)) _ (.cells #[strV un, .int .i64 uo, .int .i64 uw] 28)))
  go_wp2_with fail
  go_at_call 15
  refine (example_any _ hM.out).mono ?_
  rintro e w1 ⟨rfl, hb1'⟩
  have HBm1 := Lib.hid (HBa2.out.trans (hb1'.mono HBa2.out.size))
  replace bx := bx.below hb1' bx.lt
  replace bu := bu.below hb1' bu.lt
  replace hM := Lib.hid (hM.out.below hb1')
  replace V0 := Lib.hid (V0.out.keep (free_below hb1'))
  have bx_l : w.heap.size < w1.heap.size := bx.lt
  have bx_l1 : w.heap.size < w1.heap.size + 1 := Nat.lt_succ_of_lt bx_l
  have bx_l2 : w.heap.size < w1.heap.size + 1 + 1 := Nat.lt_succ_of_lt bx_l1
  have bx_0 : w1.cell? ⟨w.heap.size, 0, none⟩ = some (.slice A s.length k) := (bx.cell 0).trans rfl
  have bu_l : w.heap.size + 1 < w1.heap.size := bu.lt
  have bu_l1 : w.heap.size + 1 < w1.heap.size + 1 := Nat.lt_succ_of_lt bu_l
  have bu_l2 : w.heap.size + 1 < w1.heap.size + 1 + 1 := Nat.lt_succ_of_lt bu_l1
  have bu_0 : w1.cell? ⟨w.heap.size + 1, 0, none⟩ = some (strV un) := (bu.cell 0).trans rfl
  have bu_1 : w1.cell? ⟨w.heap.size + 1, 1, none⟩ = some (.int .i64 uo) := (bu.cell 1).trans rfl
  have bu_2 : w1.cell? ⟨w.heap.size + 1, 2, none⟩ = some (.int .i64 uw) := (bu.cell 2).trans rfl
  clear hb1'
  rcases HUF.out with ⟨hb1, hb2⟩ | ⟨hok, hu, he⟩
  · clear HUF H22 HST
    generalize Rf.upF s ⟨un, uo, uw⟩ = q at *
    obtain ⟨ql, cd, ix⟩ := q
    simp only at hb1 hb2
    subst hb2
    have hx1 : (cd == 0) = false := by simpa using hb1
    have hx2 : (cd != 0) = true := by simpa using hb1
    clear hb1
    go_wp2_with fail
    go_at_call 18
    refine (H18.out _ hM.out V0.out).mono ?_
    rintro e w2 ⟨Ax, cx, rfl, hcx, hsx, hb2'⟩
    have HBm2 := Lib.hid (HBm1.out.trans (hb2'.mono HBm1.out.size))
    replace bx := bx.below hb2' bx.lt
    replace bu := bu.below hb2' bu.lt
    replace hM := Lib.hid (hM.out.below hb2')
    replace V0 := Lib.hid (V0.out.keep (free_below hb2'))
    clear bx_l bx_l1 bx_l2 bx_0 bu_l bu_l1 bu_l2 bu_0 bu_1 bu_2
    have bx_l : w.heap.size < w2.heap.size := bx.lt
    have bx_l1 : w.heap.size < w2.heap.size + 1 := Nat.lt_succ_of_lt bx_l
    have bx_l2 : w.heap.size < w2.heap.size + 1 + 1 := Nat.lt_succ_of_lt bx_l1
    have bx_0 : w2.cell? ⟨w.heap.size, 0, none⟩ = some (.slice A s.length k) := (bx.cell 0).trans rfl
    have bu_l : w.heap.size + 1 < w2.heap.size := bu.lt
    have bu_l1 : w.heap.size + 1 < w2.heap.size + 1 := Nat.lt_succ_of_lt bu_l
    have bu_l2 : w.heap.size + 1 < w2.heap.size + 1 + 1 := Nat.lt_succ_of_lt bu_l1
    have bu_0 : w2.cell? ⟨w.heap.size + 1, 0, none⟩ = some (strV un) := (bu.cell 0).trans rfl
    have bu_1 : w2.cell? ⟨w.heap.size + 1, 1, none⟩ = some (.int .i64 uo) := (bu.cell 1).trans rfl
    have bu_2 : w2.cell? ⟨w.heap.size + 1, 2, none⟩ = some (.int .i64 uw) := (bu.cell 2).trans rfl
    have Vx := Lib.hid (hsx.mono (X' := Free) (fun _ h => h.elim))
    clear hsx
    clear hb2'
    replace bx := bx.alloc (.cells #[.slice Ax 0 cx] 26)
    replace bu := bu.alloc (.cells #[.slice Ax 0 cx] 26)
    have x := Blk.new w2 26 #[.slice Ax 0 cx]
    have HBa3 := Lib.hid (HBm2.out.alloc HBm2.out.size (.cells #[.slice Ax 0 cx] 26))
    replace hM := Lib.hid (hM.out.below (below_alloc1 w2 (.cells #[.slice Ax 0 cx] 26)))
    replace V0 := Lib.hid (V0.out.keep (Keeps.alloc w2 _ (.cells #[.slice Ax 0 cx] 26)))
    replace Vx := Lib.hid (Vx.out.keep (Keeps.alloc w2 _ (.cells #[.slice Ax 0 cx] 26)))
    replace bx := bx.alloc (.cells #[.int .i64 cd, .int .i64 ix] 30)
    replace bu := bu.alloc (.cells #[.int .i64 cd, .int .i64 ix] 30)
    replace x := x.alloc (.cells #[.int .i64 cd, .int .i64 ix] 30)
    have f : Blk ((w2.alloc (.cells #[.slice Ax 0 cx] 26)).alloc (.cells #[.int .i64 cd, .int .i64 ix] 30)) (w2.heap.size + 1) 30 #[.int .i64 cd, .int .i64 ix] := by simpa using Blk.new (w2.alloc (.cells #[.slice Ax 0 cx] 26)) 30 #[.int .i64 cd, .int .i64 ix]
    have HBa4 := Lib.hid (HBa3.out.alloc HBa3.out.size (.cells #[.int .i64 cd, .int .i64 ix] 30))
    replace hM := Lib.hid (hM.out.below (below_alloc1 (w2.alloc (.cells #[.slice Ax 0 cx] 26)) (.cells #[.int .i64 cd, .int .i64 ix] 30)))
    replace V0 := Lib.hid (V0.out.keep (Keeps.alloc (w2.alloc (.cells #[.slice Ax 0 cx] 26)) _ (.cells #[.int .i64 cd, .int .i64 ix] 30)))
    replace Vx := Lib.hid (Vx.out.keep (Keeps.alloc (w2.alloc (.cells #[.slice Ax 0 cx] 26)) _ (.cells #[.int .i64 cd, .int .i64 ix] 30)))
    go_wp2_with fail
    go_ret
    exact ⟨rfl, HBa4.out⟩
  · have H22b := Lib.hid (H22.out hok hu)
    clear HUF H22
    rw [he] at H18
    clear he hok hu
    generalize Rf.upS s ⟨un, uo, uw⟩ = us at *
    go_wp2_with fail
    go_at_call 18
    refine (H18.out _ hM.out V0.out).mono ?_
    rintro e w2 ⟨Ax, cx, rfl, hcx, hsx, hb2'⟩
    have HBm2 := Lib.hid (HBm1.out.trans (hb2'.mono HBm1.out.size))
    replace bx := bx.below hb2' bx.lt
    replace bu := bu.below hb2' bu.lt
    replace hM := Lib.hid (hM.out.below hb2')
    replace V0 := Lib.hid (V0.out.keep (free_below hb2'))
    clear bx_l bx_l1 bx_l2 bx_0 bu_l bu_l1 bu_l2 bu_0 bu_1 bu_2
    have bx_l : w.heap.size < w2.heap.size := bx.lt
    have bx_l1 : w.heap.size < w2.heap.size + 1 := Nat.lt_succ_of_lt bx_l
    have bx_l2 : w.heap.size < w2.heap.size + 1 + 1 := Nat.lt_succ_of_lt bx_l1
    have bx_0 : w2.cell? ⟨w.heap.size, 0, none⟩ = some (.slice A s.length k) := (bx.cell 0).trans rfl
    have bu_l : w.heap.size + 1 < w2.heap.size := bu.lt
    have bu_l1 : w.heap.size + 1 < w2.heap.size + 1 := Nat.lt_succ_of_lt bu_l
    have bu_l2 : w.heap.size + 1 < w2.heap.size + 1 + 1 := Nat.lt_succ_of_lt bu_l1
    have bu_0 : w2.cell? ⟨w.heap.size + 1, 0, none⟩ = some (strV un) := (bu.cell 0).trans rfl
    have bu_1 : w2.cell? ⟨w.heap.size + 1, 1, none⟩ = some (.int .i64 uo) := (bu.cell 1).trans rfl
    have bu_2 : w2.cell? ⟨w.heap.size + 1, 2, none⟩ = some (.int .i64 uw) := (bu.cell 2).trans rfl
    have Vx := Lib.hid (hsx.mono (X' := Free) (fun _ h => h.elim))
    clear hsx
    clear hb2'
    simp only at hcx
    replace bx := bx.alloc (.cells #[.slice Ax us.length cx] 26)
    replace bu := bu.alloc (.cells #[.slice Ax us.length cx] 26)
    have x := Blk.new w2 26 #[.slice Ax us.length cx]
    have HBa3 := Lib.hid (HBm2.out.alloc HBm2.out.size (.cells #[.slice Ax us.length cx] 26))
    replace hM := Lib.hid (hM.out.below (below_alloc1 w2 (.cells #[.slice Ax us.length cx] 26)))
    replace V0 := Lib.hid (V0.out.keep (Keeps.alloc w2 _ (.cells #[.slice Ax us.length cx] 26)))
    replace Vx := Lib.hid (Vx.out.keep (Keeps.alloc w2 _ (.cells #[.slice Ax us.length cx] 26)))
    replace bx := bx.alloc (.cells #[.int .i64 0, .int .i64 0] 30)
    replace bu := bu.alloc (.cells #[.int .i64 0, .int .i64 0] 30)
    replace x := x.alloc (.cells #[.int .i64 0, .int .i64 0] 30)
    have f : Blk ((w2.alloc (.cells #[.slice Ax us.length cx] 26)).alloc (.cells #[.int .i64 0, .int .i64 0] 30)) (w2.heap.size + 1) 30 #[.int .i64 0, .int .i64 0] := by simpa using Blk.new (w2.alloc (.cells #[.slice Ax us.length cx] 26)) 30 #[.int .i64 0, .int .i64 0]
    have HBa4 := Lib.hid (HBa3.out.alloc HBa3.out.size (.cells #[.int .i64 0, .int .i64 0] 30))
    replace hM := Lib.hid (hM.out.below (below_alloc1 (w2.alloc (.cells #[.slice Ax us.length cx] 26)) (.cells #[.int .i64 0, .int .i64 0] 30)))
    replace V0 := Lib.hid (V0.out.keep (Keeps.alloc (w2.alloc (.cells #[.slice Ax us.length cx] 26)) _ (.cells #[.int .i64 0, .int .i64 0] 30)))
    replace Vx := Lib.hid (Vx.out.keep (Keeps.alloc (w2.alloc (.cells #[.slice Ax us.length cx] 26)) _ (.cells #[.int .i64 0, .int .i64 0] 30)))
    go_wp2_with fail
    go_at_call 18
    refine (H22b.out Ax cx _ hM.out Vx.out hcx).mono ?_
    rintro e w3 ⟨Ay, cy, rfl, hcy, hsy, hb3'⟩
    have HBm3 := Lib.hid (HBa4.out.trans (hb3'.mono HBa4.out.size))
    replace bx := bx.below hb3' bx.lt
    replace bu := bu.below hb3' bu.lt
    replace x := x.below hb3' x.lt
    replace f := f.below hb3' f.lt
    replace hM := Lib.hid (hM.out.below hb3')
    replace V0 := Lib.hid (V0.out.keep (free_below hb3'))
    replace Vx := Lib.hid (Vx.out.keep (free_below hb3'))
    clear bx_l bx_l1 bx_l2 bx_0 bu_l bu_l1 bu_l2 bu_0 bu_1 bu_2
    have bx_l : w.heap.size < w3.heap.size := bx.lt
    have bx_l1 : w.heap.size < w3.heap.size + 1 := Nat.lt_succ_of_lt bx_l
    have bx_l2 : w.heap.size < w3.heap.size + 1 + 1 := Nat.lt_succ_of_lt bx_l1
    have bx_0 : w3.cell? ⟨w.heap.size, 0, none⟩ = some (.slice A s.length k) := (bx.cell 0).trans rfl
    have bu_l : w.heap.size + 1 < w3.heap.size := bu.lt
    have bu_l1 : w.heap.size + 1 < w3.heap.size + 1 := Nat.lt_succ_of_lt bu_l
    have bu_l2 : w.heap.size + 1 < w3.heap.size + 1 + 1 := Nat.lt_succ_of_lt bu_l1
    have bu_0 : w3.cell? ⟨w.heap.size + 1, 0, none⟩ = some (strV un) := (bu.cell 0).trans rfl
    have bu_1 : w3.cell? ⟨w.heap.size + 1, 1, none⟩ = some (.int .i64 uo) := (bu.cell 1).trans rfl
    have bu_2 : w3.cell? ⟨w.heap.size + 1, 2, none⟩ = some (.int .i64 uw) := (bu.cell 2).trans rfl
    have x_l : w2.heap.size < w3.heap.size := x.lt
    have x_l1 : w2.heap.size < w3.heap.size + 1 := Nat.lt_succ_of_lt x_l
    have x_l2 : w2.heap.size < w3.heap.size + 1 + 1 := Nat.lt_succ_of_lt x_l1
    have x_0 : w3.cell? ⟨w2.heap.size, 0, none⟩ = some (.slice Ax us.length cx) := (x.cell 0).trans rfl
    have f_l : w2.heap.size + 1 < w3.heap.size := f.lt
    have f_l1 : w2.heap.size + 1 < w3.heap.size + 1 := Nat.lt_succ_of_lt f_l
    have f_l2 : w2.heap.size + 1 < w3.heap.size + 1 + 1 := Nat.lt_succ_of_lt f_l1
    have f_0 : w3.cell? ⟨w2.heap.size + 1, 0, none⟩ = some (.int .i64 0) := (f.cell 0).trans rfl
    have f_1 : w3.cell? ⟨w2.heap.size + 1, 1, none⟩ = some (.int .i64 0) := (f.cell 1).trans rfl
    have Vy := Lib.hid (hsy.mono (X' := Free) (fun _ h => h.elim))
    clear hsy
    clear hb3'
    replace bx := bx.alloc (.cells #[.slice Ay s.length cy] 26)
    replace bu := bu.alloc (.cells #[.slice Ay s.length cy] 26)
    replace x := x.alloc (.cells #[.slice Ay s.length cy] 26)
    replace f := f.alloc (.cells #[.slice Ay s.length cy] 26)
    have y := Blk.new w3 26 #[.slice Ay s.length cy]
    have HBa5 := Lib.hid (HBm3.out.alloc HBm3.out.size (.cells #[.slice Ay s.length cy] 26))
    replace hM := Lib.hid (hM.out.below (below_alloc1 w3 (.cells #[.slice Ay s.length cy] 26)))
    replace V0 := Lib.hid (V0.out.keep (Keeps.alloc w3 _ (.cells #[.slice Ay s.length cy] 26)))
    replace Vx := Lib.hid (Vx.out.keep (Keeps.alloc w3 _ (.cells #[.slice Ay s.length cy] 26)))
    replace Vy := Lib.hid (Vy.out.keep (Keeps.alloc w3 _ (.cells #[.slice Ay s.length cy] 26)))
    replace bx := bx.alloc (.cells #[.int .i64 0, .int .i64 0] 30)
    replace bu := bu.alloc (.cells #[.int .i64 0, .int .i64 0] 30)
    replace x := x.alloc (.cells #[.int .i64 0, .int .i64 0] 30)
    replace f := f.alloc (.cells #[.int .i64 0, .int .i64 0] 30)
    replace y := y.alloc (.cells #[.int .i64 0, .int .i64 0] 30)
    have g : Blk ((w3.alloc (.cells #[.slice Ay s.length cy] 26)).alloc (.cells #[.int .i64 0, .int .i64 0] 30)) (w3.heap.size + 1) 30 #[.int .i64 0, .int .i64 0] := by simpa using Blk.new (w3.alloc (.cells #[.slice Ay s.length cy] 26)) 30 #[.int .i64 0, .int .i64 0]
    have HBa6 := Lib.hid (HBa5.out.alloc HBa5.out.size (.cells #[.int .i64 0, .int .i64 0] 30))
    replace hM := Lib.hid (hM.out.below (below_alloc1 (w3.alloc (.cells #[.slice Ay s.length cy] 26)) (.cells #[.int .i64 0, .int .i64 0] 30)))
    replace V0 := Lib.hid (V0.out.keep (Keeps.alloc (w3.alloc (.cells #[.slice Ay s.length cy] 26)) _ (.cells #[.int .i64 0, .int .i64 0] 30)))
    replace Vx := Lib.hid (Vx.out.keep (Keeps.alloc (w3.alloc (.cells #[.slice Ay s.length cy] 26)) _ (.cells #[.int .i64 0, .int .i64 0] 30)))
    replace Vy := Lib.hid (Vy.out.keep (Keeps.alloc (w3.alloc (.cells #[.slice Ay s.length cy] 26)) _ (.cells #[.int .i64 0, .int .i64 0] 30)))
    go_wp2_with fail
    go_at_call 22
    refine (HST.out _ A Ay k cy V0.out Vy.out).mono ?_
    rintro e w4 ⟨rfl, hb4'⟩
    have HBm4 := Lib.hid (HBa6.out.trans (hb4'.mono HBa6.out.size))
    replace bx := bx.below hb4' bx.lt
    replace bu := bu.below hb4' bu.lt
    replace x := x.below hb4' x.lt
    replace f := f.below hb4' f.lt
    replace y := y.below hb4' y.lt
    replace g := g.below hb4' g.lt
    replace hM := Lib.hid (hM.out.below hb4')
    replace V0 := Lib.hid (V0.out.keep (free_below hb4'))
    replace Vx := Lib.hid (Vx.out.keep (free_below hb4'))
    replace Vy := Lib.hid (Vy.out.keep (free_below hb4'))
    clear bx_l bx_l1 bx_l2 bx_0 bu_l bu_l1 bu_l2 bu_0 bu_1 bu_2 x_l x_l1 x_l2 x_0 f_l f_l1 f_l2 f_0 f_1
    have bx_l : w.heap.size < w4.heap.size := bx.lt
    have bx_l1 : w.heap.size < w4.heap.size + 1 := Nat.lt_succ_of_lt bx_l
    have bx_l2 : w.heap.size < w4.heap.size + 1 + 1 := Nat.lt_succ_of_lt bx_l1
    have bx_0 : w4.cell? ⟨w.heap.size, 0, none⟩ = some (.slice A s.length k) := (bx.cell 0).trans rfl
    have bu_l : w.heap.size + 1 < w4.heap.size := bu.lt
    have bu_l1 : w.heap.size + 1 < w4.heap.size + 1 := Nat.lt_succ_of_lt bu_l
    have bu_l2 : w.heap.size + 1 < w4.heap.size + 1 + 1 := Nat.lt_succ_of_lt bu_l1
    have bu_0 : w4.cell? ⟨w.heap.size + 1, 0, none⟩ = some (strV un) := (bu.cell 0).trans rfl
    have bu_1 : w4.cell? ⟨w.heap.size + 1, 1, none⟩ = some (.int .i64 uo) := (bu.cell 1).trans rfl
    have bu_2 : w4.cell? ⟨w.heap.size + 1, 2, none⟩ = some (.int .i64 uw) := (bu.cell 2).trans rfl
    have x_l : w2.heap.size < w4.heap.size := x.lt
    have x_l1 : w2.heap.size < w4.heap.size + 1 := Nat.lt_succ_of_lt x_l
    have x_l2 : w2.heap.size < w4.heap.size + 1 + 1 := Nat.lt_succ_of_lt x_l1
    have x_0 : w4.cell? ⟨w2.heap.size, 0, none⟩ = some (.slice Ax us.length cx) := (x.cell 0).trans rfl
    have f_l : w2.heap.size + 1 < w4.heap.size := f.lt
    have f_l1 : w2.heap.size + 1 < w4.heap.size + 1 := Nat.lt_succ_of_lt f_l
    have f_l2 : w2.heap.size + 1 < w4.heap.size + 1 + 1 := Nat.lt_succ_of_lt f_l1
    have f_0 : w4.cell? ⟨w2.heap.size + 1, 0, none⟩ = some (.int .i64 0) := (f.cell 0).trans rfl
    have f_1 : w4.cell? ⟨w2.heap.size + 1, 1, none⟩ = some (.int .i64 0) := (f.cell 1).trans rfl
    have y_l : w3.heap.size < w4.heap.size := y.lt
    have y_l1 : w3.heap.size < w4.heap.size + 1 := Nat.lt_succ_of_lt y_l
    have y_l2 : w3.heap.size < w4.heap.size + 1 + 1 := Nat.lt_succ_of_lt y_l1
    have y_0 : w4.cell? ⟨w3.heap.size, 0, none⟩ = some (.slice Ay s.length cy) := (y.cell 0).trans rfl
    have g_l : w3.heap.size + 1 < w4.heap.size := g.lt
    have g_l1 : w3.heap.size + 1 < w4.heap.size + 1 := Nat.lt_succ_of_lt g_l
    have g_l2 : w3.heap.size + 1 < w4.heap.size + 1 + 1 := Nat.lt_succ_of_lt g_l1
    have g_0 : w4.cell? ⟨w3.heap.size + 1, 0, none⟩ = some (.int .i64 0) := (g.cell 0).trans rfl
    have g_1 : w4.cell? ⟨w3.heap.size + 1, 1, none⟩ = some (.int .i64 0) := (g.cell 1).trans rfl
    clear hb4'
    go_wp2_with fail
    go_ret
    exact ⟨by simp, HBm4.out⟩
set_option maxRecDepth 100000 in
set_option maxHeartbeats 16000000 in
theorem law6_any (w : World) (hm : Mx w) (A : Option Addr) (k : Nat) (s : List Rf.R) (u v : Rf.U) (hv : SA w Free A (rsV s)) (hl : s.length * 24 ≤ 140737488351232) (hk : s.length ≤ k) (hun : u.name.length ≤ 1000000000) (hvn : v.name.length ≤ 1000000000) :
    Calls Tryd.prog 6 #[.agg #[.slice A s.length k], .agg #[strV u.name, .int .i64 u.old, .int .i64 u.new], .agg #[strV v.name, .int .i64 v.old, .int .i64 v.new]] w fun e w' => e = .returned (.bool true) ∧ Below w.heap.size w w' := by
  have hM := Lib.hid hm
  have V0 := Lib.hid hv
  have HUU := Lib.hid (Rf.upF_cases s u)
  have HUV := Lib.hid (Rf.upF_cases s v)
  have H18 := Lib.hid (fun (w1 : World) (hm : Mx w1) (hv : SA w1 Free A (rsV s)) => update_any w1 hm A k s u hv (by omega) hk)
  have H18b := Lib.hid (fun (w1 : World) (hm : Mx w1) (hv : SA w1 Free A (rsV s)) => update_any w1 hm A k s v hv (by omega) hk)
  have HCF := Lib.hid (fun w1 => refConflict_any w1 u.name v.name hun hvn)
  have HCM := Lib.hid (fun (hok : Rf.Ok s) (hl : s.length ≤ 28) (hne : u.name ≠ v.name) (hc : Rf.conf u.name v.name = false) (hu : Rf.UOk s u) (hv : Rf.UOk s v) => hok.comm hl hne hc hu hv)
  have H2 := Lib.hid (fun (hok : Rf.Ok s) (hu : Rf.UOk s u) (hv' : Rf.UOk (Rf.upS s u) v) (Ax : Option Addr) (cx : Nat) (w1 : World) (hm : Mx w1) (hv : SA w1 Free Ax (rsV (Rf.upS s u))) (hc : (Rf.upS s u).length ≤ cx) => by
    have := update_any w1 hm Ax cx (Rf.upS s u) v hv (by have := Rf.upS_len hok u; omega) hc
    rw [Rf.upF_ok (hok.up hu) hv'] at this
    exact this)
  have H3 := Lib.hid (fun (hok : Rf.Ok s) (hu : Rf.UOk s v) (hv' : Rf.UOk (Rf.upS s v) u) (Ax : Option Addr) (cx : Nat) (w1 : World) (hm : Mx w1) (hv : SA w1 Free Ax (rsV (Rf.upS s v))) (hc : (Rf.upS s v).length ≤ cx) => by
    have := update_any w1 hm Ax cx (Rf.upS s v) u hv (by have := Rf.upS_len hok v; omega) hc
    rw [Rf.upF_ok (hok.up hu) hv'] at this
    exact this)
  have HLL := Lib.hid (fun (hok : Rf.Ok s) (hu : Rf.UOk s u) => Rf.upS_len (hok.up hu) v)
  clear hm hv hun hvn
  obtain ⟨un, uo, uw⟩ := u
  obtain ⟨vn, vo, vw⟩ := v
  simp only at *
  have HB0 := Lib.hid (Below.refl w.heap.size w)
  go_enter Tryd.func6, Tryd.ntmps6
  have bx := Blk.new w 26 #[.slice A s.length k]
  have HBa1 := Lib.hid (HB0.out.alloc HB0.out.size (.cells #[.slice A s.length k] 26))
  replace hM := Lib.hid (hM.out.below (below_alloc1 w (.cells #[.slice A s.length k] 26)))
  replace V0 := Lib.hid (V0.out.keep (Keeps.alloc w _ (.cells #[.slice A s.length k] 26)))
  replace bx := bx.alloc (.cells #[strV un, .int .i64 uo, .int .i64 uw] 28)
  have bu : Blk ((w.alloc (.cells #[.slice A s.length k] 26)).alloc (.cells #[strV un, .int .i64 uo, .int .i64 uw] 28)) (w.heap.size + 1) 28 #[strV un, .int .i64 uo, .int .i64 uw] := by simpa using Blk.new (w.alloc (.cells #[.slice A s.length k] 26)) 28 #[strV un, .int .i64 uo, .int .i64 uw]
  have HBa2 := Lib.hid (HBa1.out.alloc HBa1.out.size (.cells #[strV un, .int .i64 uo, .int .i64 uw] 28))
  replace hM := Lib.hid (hM.out.below (below_alloc1 (w.alloc (.cells #[.slice A s.length k] 26)) (.cells #[strV un, .int .i64 uo, .int .i64 uw] 28)))
  replace V0 := Lib.hid (V0.out.keep (Keeps.alloc (w.alloc (.cells #[.slice A s.length k] 26)) _ (.cells #[strV un, .int .i64 uo, .int .i64 uw] 28)))
  replace bx := bx.alloc (.cells #[strV vn, .int .i64 vo, .int .i64 vw] 28)
  replace bu := bu.alloc (.cells #[strV vn, .int .i64 vo, .int .i64 vw] 28)
  have bv : Blk (((w.alloc (.cells #[.slice A s.length k] 26)).alloc (.cells #[strV un, .int .i64 uo, .int .i64 uw] 28)).alloc (.cells #[strV vn, .int .i64 vo, .int .i64 vw] 28)) (w.heap.size + 2) 28 #[strV vn, .int .i64 vo, .int .i64 vw] := by simpa using Blk.new ((w.alloc (.cells #[.slice A s.length k] 26)).alloc (.cells #[strV un, .int .i64 uo, .int .i64 uw] 28)) 28 #[strV vn, .int .i64 vo, .int .i64 vw]
  have HBa3 := Lib.hid (HBa2.out.alloc HBa2.out.size (.cells #[strV vn, .int .i64 vo, .int .i64 vw] 28))
  replace hM := Lib.hid (hM.out.below (below_alloc1 ((w.alloc (.cells #[.slice A s.length k] 26)).alloc (.cells #[strV un, .int .i64 uo, .int .i64 uw] 28)) (.cells #[strV vn, .int .i64 vo, .int .i64 vw] 28)))
  replace V0 := Lib.hid (V0.out.keep (Keeps.alloc ((w.alloc (.cells #[.slice A s.length k] 26)).alloc (.cells #[strV un, .int .i64 uo, .int .i64 uw] 28)) _ (.cells #[strV vn, .int .i64 vo, .int .i64 vw] 28)))
  go_wp2_with fail
  go_at_call 15
  refine (example_any _ hM.out).mono ?_
  rintro e w1 ⟨rfl, hb1'⟩
  have HBm1 := Lib.hid (HBa3.out.trans (hb1'.mono HBa3.out.size))
  replace bx := bx.below hb1' bx.lt
  replace bu := bu.below hb1' bu.lt
  replace bv := bv.below hb1' bv.lt
  replace hM := Lib.hid (hM.out.below hb1')
  replace V0 := Lib.hid (V0.out.keep (free_below hb1'))
  have bx_l : w.heap.size < w1.heap.size := bx.lt
  have bx_l1 : w.heap.size < w1.heap.size + 1 := Nat.lt_succ_of_lt bx_l
  have bx_l2 : w.heap.size < w1.heap.size + 1 + 1 := Nat.lt_succ_of_lt bx_l1
  have bx_0 : w1.cell? ⟨w.heap.size, 0, none⟩ = some (.slice A s.length k) := (bx.cell 0).trans rfl
  have bu_l : w.heap.size + 1 < w1.heap.size := bu.lt
  have bu_l1 : w.heap.size + 1 < w1.heap.size + 1 := Nat.lt_succ_of_lt bu_l
  have bu_l2 : w.heap.size + 1 < w1.heap.size + 1 + 1 := Nat.lt_succ_of_lt bu_l1
  have bu_0 : w1.cell? ⟨w.heap.size + 1, 0, none⟩ = some (strV un) := (bu.cell 0).trans rfl
  have bu_1 : w1.cell? ⟨w.heap.size + 1, 1, none⟩ = some (.int .i64 uo) := (bu.cell 1).trans rfl
  have bu_2 : w1.cell? ⟨w.heap.size + 1, 2, none⟩ = some (.int .i64 uw) := (bu.cell 2).trans rfl
  have bv_l : w.heap.size + 2 < w1.heap.size := bv.lt
  have bv_l1 : w.heap.size + 2 < w1.heap.size + 1 := Nat.lt_succ_of_lt bv_l
  have bv_l2 : w.heap.size + 2 < w1.heap.size + 1 + 1 := Nat.lt_succ_of_lt bv_l1
  have bv_0 : w1.cell? ⟨w.heap.size + 2, 0, none⟩ = some (strV vn) := (bv.cell 0).trans rfl
  have bv_1 : w1.cell? ⟨w.heap.size + 2, 1, none⟩ = some (.int .i64 vo) := (bv.cell 1).trans rfl
  have bv_2 : w1.cell? ⟨w.heap.size + 2, 2, none⟩ = some (.int .i64 vw) := (bv.cell 2).trans rfl
  clear hb1'
  by_cases h28 : 28 < s.length
  · have h28' : (28 : Int) < s.length := by omega
    have h28d : decide ((28 : Int) < s.length) = true := by simp; omega
    clear HUU HUV H18 H18b HCF HCM H2 H3 HLL h28
    go_wp2_with fail
    go_ret
    exact ⟨rfl, HBm1.out⟩
  · have h28' : ¬ (28 : Int) < s.length := by omega
    have h28d : decide ((28 : Int) < s.length) = false := by simp; omega
    by_cases hne : un = vn
    · have hne1 : (un == vn) = true := by simpa using hne
      clear HUU HUV H18 H18b HCF HCM H2 H3 HLL h28 hne
      go_wp2_with fail
      go_ret
      exact ⟨rfl, HBm1.out⟩
    · have hne1 : (un == vn) = false := by simpa using hne
      cases hcf : Rf.conf un vn with
      | true =>
        rw [hcf] at HCF
        clear HUU HUV H18 H18b HCM H2 H3 HLL h28 hne hcf
        go_wp2_with fail
        go_at_call 24
        refine (HCF.out _).mono ?_
        rintro e w9 ⟨rfl, hb9⟩
        go_wp2_with fail
        go_ret
        exact ⟨rfl, HBm1.out.trans (hb9.mono HBm1.out.size)⟩
      | false =>
        rw [hcf] at HCF
        have HCM2 := Lib.hid (fun hok hu hv => HCM.out hok (by omega) hne hcf hu hv)
        clear h28 hne hcf HCM
        go_wp2_with fail
        go_at_call 24
        refine (HCF.out _).mono ?_
        rintro e w2 ⟨rfl, hb2'⟩
        have HBm2 := Lib.hid (HBm1.out.trans (hb2'.mono HBm1.out.size))
        replace bx := bx.below hb2' bx.lt
        replace bu := bu.below hb2' bu.lt
        replace bv := bv.below hb2' bv.lt
        replace hM := Lib.hid (hM.out.below hb2')
        replace V0 := Lib.hid (V0.out.keep (free_below hb2'))
        clear bx_l bx_l1 bx_l2 bx_0 bu_l bu_l1 bu_l2 bu_0 bu_1 bu_2 bv_l bv_l1 bv_l2 bv_0 bv_1 bv_2
        have bx_l : w.heap.size < w2.heap.size := bx.lt
        have bx_l1 : w.heap.size < w2.heap.size + 1 := Nat.lt_succ_of_lt bx_l
        have bx_l2 : w.heap.size < w2.heap.size + 1 + 1 := Nat.lt_succ_of_lt bx_l1
        have bx_0 : w2.cell? ⟨w.heap.size, 0, none⟩ = some (.slice A s.length k) := (bx.cell 0).trans rfl
        have bu_l : w.heap.size + 1 < w2.heap.size := bu.lt
        have bu_l1 : w.heap.size + 1 < w2.heap.size + 1 := Nat.lt_succ_of_lt bu_l
        have bu_l2 : w.heap.size + 1 < w2.heap.size + 1 + 1 := Nat.lt_succ_of_lt bu_l1
        have bu_0 : w2.cell? ⟨w.heap.size + 1, 0, none⟩ = some (strV un) := (bu.cell 0).trans rfl
        have bu_1 : w2.cell? ⟨w.heap.size + 1, 1, none⟩ = some (.int .i64 uo) := (bu.cell 1).trans rfl
        have bu_2 : w2.cell? ⟨w.heap.size + 1, 2, none⟩ = some (.int .i64 uw) := (bu.cell 2).trans rfl
        have bv_l : w.heap.size + 2 < w2.heap.size := bv.lt
        have bv_l1 : w.heap.size + 2 < w2.heap.size + 1 := Nat.lt_succ_of_lt bv_l
        have bv_l2 : w.heap.size + 2 < w2.heap.size + 1 + 1 := Nat.lt_succ_of_lt bv_l1
        have bv_0 : w2.cell? ⟨w.heap.size + 2, 0, none⟩ = some (strV vn) := (bv.cell 0).trans rfl
        have bv_1 : w2.cell? ⟨w.heap.size + 2, 1, none⟩ = some (.int .i64 vo) := (bv.cell 1).trans rfl
        have bv_2 : w2.cell? ⟨w.heap.size + 2, 2, none⟩ = some (.int .i64 vw) := (bv.cell 2).trans rfl
        clear hb2'
        rcases HUU.out with ⟨ha1, ha2⟩ | ⟨hok, hu, he⟩
        · clear HUU HUV HCM2 H2 H3 HLL
          generalize Rf.upF s ⟨un, uo, uw⟩ = q at *
          obtain ⟨ql, cd, ix⟩ := q
          simp only at ha1 ha2
          subst ha2
          have hx1 : (cd == 0) = false := by simpa using ha1
          have hx2 : (cd != 0) = true := by simpa using ha1
          clear ha1
          generalize Rf.upF s ⟨vn, vo, vw⟩ = q2 at *
          obtain ⟨ql2, cd2, ix2⟩ := q2
          simp only at *
          go_wp2_with fail
          go_at_call 18
          refine (H18.out _ hM.out V0.out).mono ?_
          rintro e w3 ⟨Aa, ca, rfl, hca, hsa, hb3'⟩
          have HBm3 := Lib.hid (HBm2.out.trans (hb3'.mono HBm2.out.size))
          replace bx := bx.below hb3' bx.lt
          replace bu := bu.below hb3' bu.lt
          replace bv := bv.below hb3' bv.lt
          replace hM := Lib.hid (hM.out.below hb3')
          replace V0 := Lib.hid (V0.out.keep (free_below hb3'))
          clear bx_l bx_l1 bx_l2 bx_0 bu_l bu_l1 bu_l2 bu_0 bu_1 bu_2 bv_l bv_l1 bv_l2 bv_0 bv_1 bv_2
          have bx_l : w.heap.size < w3.heap.size := bx.lt
          have bx_l1 : w.heap.size < w3.heap.size + 1 := Nat.lt_succ_of_lt bx_l
          have bx_l2 : w.heap.size < w3.heap.size + 1 + 1 := Nat.lt_succ_of_lt bx_l1
          have bx_0 : w3.cell? ⟨w.heap.size, 0, none⟩ = some (.slice A s.length k) := (bx.cell 0).trans rfl
          have bu_l : w.heap.size + 1 < w3.heap.size := bu.lt
          have bu_l1 : w.heap.size + 1 < w3.heap.size + 1 := Nat.lt_succ_of_lt bu_l
          have bu_l2 : w.heap.size + 1 < w3.heap.size + 1 + 1 := Nat.lt_succ_of_lt bu_l1
          have bu_0 : w3.cell? ⟨w.heap.size + 1, 0, none⟩ = some (strV un) := (bu.cell 0).trans rfl
          have bu_1 : w3.cell? ⟨w.heap.size + 1, 1, none⟩ = some (.int .i64 uo) := (bu.cell 1).trans rfl
          have bu_2 : w3.cell? ⟨w.heap.size + 1, 2, none⟩ = some (.int .i64 uw) := (bu.cell 2).trans rfl
          have bv_l : w.heap.size + 2 < w3.heap.size := bv.lt
          have bv_l1 : w.heap.size + 2 < w3.heap.size + 1 := Nat.lt_succ_of_lt bv_l
          have bv_l2 : w.heap.size + 2 < w3.heap.size + 1 + 1 := Nat.lt_succ_of_lt bv_l1
          have bv_0 : w3.cell? ⟨w.heap.size + 2, 0, none⟩ = some (strV vn) := (bv.cell 0).trans rfl
          have bv_1 : w3.cell? ⟨w.heap.size + 2, 1, none⟩ = some (.int .i64 vo) := (bv.cell 1).trans rfl
          have bv_2 : w3.cell? ⟨w.heap.size + 2, 2, none⟩ = some (.int .i64 vw) := (bv.cell 2).trans rfl
          have Va := Lib.hid (hsa.mono (X' := Free) (fun _ h => h.elim))
          clear hsa
          clear hb3'
          replace bx := bx.alloc (.cells #[.slice Aa 0 ca] 26)
          replace bu := bu.alloc (.cells #[.slice Aa 0 ca] 26)
          replace bv := bv.alloc (.cells #[.slice Aa 0 ca] 26)
          have a := Blk.new w3 26 #[.slice Aa 0 ca]
          have HBa4 := Lib.hid (HBm3.out.alloc HBm3.out.size (.cells #[.slice Aa 0 ca] 26))
          replace hM := Lib.hid (hM.out.below (below_alloc1 w3 (.cells #[.slice Aa 0 ca] 26)))
          replace V0 := Lib.hid (V0.out.keep (Keeps.alloc w3 _ (.cells #[.slice Aa 0 ca] 26)))
          replace Va := Lib.hid (Va.out.keep (Keeps.alloc w3 _ (.cells #[.slice Aa 0 ca] 26)))
          replace bx := bx.alloc (.cells #[.int .i64 cd, .int .i64 ix] 30)
          replace bu := bu.alloc (.cells #[.int .i64 cd, .int .i64 ix] 30)
          replace bv := bv.alloc (.cells #[.int .i64 cd, .int .i64 ix] 30)
          replace a := a.alloc (.cells #[.int .i64 cd, .int .i64 ix] 30)
          have f1 : Blk ((w3.alloc (.cells #[.slice Aa 0 ca] 26)).alloc (.cells #[.int .i64 cd, .int .i64 ix] 30)) (w3.heap.size + 1) 30 #[.int .i64 cd, .int .i64 ix] := by simpa using Blk.new (w3.alloc (.cells #[.slice Aa 0 ca] 26)) 30 #[.int .i64 cd, .int .i64 ix]
          have HBa5 := Lib.hid (HBa4.out.alloc HBa4.out.size (.cells #[.int .i64 cd, .int .i64 ix] 30))
          replace hM := Lib.hid (hM.out.below (below_alloc1 (w3.alloc (.cells #[.slice Aa 0 ca] 26)) (.cells #[.int .i64 cd, .int .i64 ix] 30)))
          replace V0 := Lib.hid (V0.out.keep (Keeps.alloc (w3.alloc (.cells #[.slice Aa 0 ca] 26)) _ (.cells #[.int .i64 cd, .int .i64 ix] 30)))
          replace Va := Lib.hid (Va.out.keep (Keeps.alloc (w3.alloc (.cells #[.slice Aa 0 ca] 26)) _ (.cells #[.int .i64 cd, .int .i64 ix] 30)))
          go_wp2_with fail
          go_at_call 18
          refine (H18b.out _ hM.out V0.out).mono ?_
          rintro e w4 ⟨Ab, cb, rfl, hcb, hsb, hb4'⟩
          have HBm4 := Lib.hid (HBa5.out.trans (hb4'.mono HBa5.out.size))
          replace bx := bx.below hb4' bx.lt
          replace bu := bu.below hb4' bu.lt
          replace bv := bv.below hb4' bv.lt
          replace a := a.below hb4' a.lt
          replace f1 := f1.below hb4' f1.lt
          replace hM := Lib.hid (hM.out.below hb4')
          replace V0 := Lib.hid (V0.out.keep (free_below hb4'))
          replace Va := Lib.hid (Va.out.keep (free_below hb4'))
          clear bx_l bx_l1 bx_l2 bx_0 bu_l bu_l1 bu_l2 bu_0 bu_1 bu_2 bv_l bv_l1 bv_l2 bv_0 bv_1 bv_2
          have bx_l : w.heap.size < w4.heap.size := bx.lt
          have bx_l1 : w.heap.size < w4.heap.size + 1 := Nat.lt_succ_of_lt bx_l
          have bx_l2 : w.heap.size < w4.heap.size + 1 + 1 := Nat.lt_succ_of_lt bx_l1
          have bx_0 : w4.cell? ⟨w.heap.size, 0, none⟩ = some (.slice A s.length k) := (bx.cell 0).trans rfl
          have bu_l : w.heap.size + 1 < w4.heap.size := bu.lt
          have bu_l1 : w.heap.size + 1 < w4.heap.size + 1 := Nat.lt_succ_of_lt bu_l
          have bu_l2 : w.heap.size + 1 < w4.heap.size + 1 + 1 := Nat.lt_succ_of_lt bu_l1
          have bu_0 : w4.cell? ⟨w.heap.size + 1, 0, none⟩ = some (strV un) := (bu.cell 0).trans rfl
          have bu_1 : w4.cell? ⟨w.heap.size + 1, 1, none⟩ = some (.int .i64 uo) := (bu.cell 1).trans rfl
          have bu_2 : w4.cell? ⟨w.heap.size + 1, 2, none⟩ = some (.int .i64 uw) := (bu.cell 2).trans rfl
          have bv_l : w.heap.size + 2 < w4.heap.size := bv.lt
          have bv_l1 : w.heap.size + 2 < w4.heap.size + 1 := Nat.lt_succ_of_lt bv_l
          have bv_l2 : w.heap.size + 2 < w4.heap.size + 1 + 1 := Nat.lt_succ_of_lt bv_l1
          have bv_0 : w4.cell? ⟨w.heap.size + 2, 0, none⟩ = some (strV vn) := (bv.cell 0).trans rfl
          have bv_1 : w4.cell? ⟨w.heap.size + 2, 1, none⟩ = some (.int .i64 vo) := (bv.cell 1).trans rfl
          have bv_2 : w4.cell? ⟨w.heap.size + 2, 2, none⟩ = some (.int .i64 vw) := (bv.cell 2).trans rfl
          have a_l : w3.heap.size < w4.heap.size := a.lt
          have a_l1 : w3.heap.size < w4.heap.size + 1 := Nat.lt_succ_of_lt a_l
          have a_l2 : w3.heap.size < w4.heap.size + 1 + 1 := Nat.lt_succ_of_lt a_l1
          have a_0 : w4.cell? ⟨w3.heap.size, 0, none⟩ = some (.slice Aa 0 ca) := (a.cell 0).trans rfl
          have f1_l : w3.heap.size + 1 < w4.heap.size := f1.lt
          have f1_l1 : w3.heap.size + 1 < w4.heap.size + 1 := Nat.lt_succ_of_lt f1_l
          have f1_l2 : w3.heap.size + 1 < w4.heap.size + 1 + 1 := Nat.lt_succ_of_lt f1_l1
          have f1_0 : w4.cell? ⟨w3.heap.size + 1, 0, none⟩ = some (.int .i64 cd) := (f1.cell 0).trans rfl
          have f1_1 : w4.cell? ⟨w3.heap.size + 1, 1, none⟩ = some (.int .i64 ix) := (f1.cell 1).trans rfl
          have Vb := Lib.hid (hsb.mono (X' := Free) (fun _ h => h.elim))
          clear hsb
          clear hb4'
          replace bx := bx.alloc (.cells #[.slice Ab ql2.length cb] 26)
          replace bu := bu.alloc (.cells #[.slice Ab ql2.length cb] 26)
          replace bv := bv.alloc (.cells #[.slice Ab ql2.length cb] 26)
          replace a := a.alloc (.cells #[.slice Ab ql2.length cb] 26)
          replace f1 := f1.alloc (.cells #[.slice Ab ql2.length cb] 26)
          have b := Blk.new w4 26 #[.slice Ab ql2.length cb]
          have HBa6 := Lib.hid (HBm4.out.alloc HBm4.out.size (.cells #[.slice Ab ql2.length cb] 26))
          replace hM := Lib.hid (hM.out.below (below_alloc1 w4 (.cells #[.slice Ab ql2.length cb] 26)))
          replace V0 := Lib.hid (V0.out.keep (Keeps.alloc w4 _ (.cells #[.slice Ab ql2.length cb] 26)))
          replace Va := Lib.hid (Va.out.keep (Keeps.alloc w4 _ (.cells #[.slice Ab ql2.length cb] 26)))
          replace Vb := Lib.hid (Vb.out.keep (Keeps.alloc w4 _ (.cells #[.slice Ab ql2.length cb] 26)))
          replace bx := bx.alloc (.cells #[.int .i64 cd2, .int .i64 ix2] 30)
          replace bu := bu.alloc (.cells #[.int .i64 cd2, .int .i64 ix2] 30)
          replace bv := bv.alloc (.cells #[.int .i64 cd2, .int .i64 ix2] 30)
          replace a := a.alloc (.cells #[.int .i64 cd2, .int .i64 ix2] 30)
          replace f1 := f1.alloc (.cells #[.int .i64 cd2, .int .i64 ix2] 30)
          replace b := b.alloc (.cells #[.int .i64 cd2, .int .i64 ix2] 30)
          have f2 : Blk ((w4.alloc (.cells #[.slice Ab ql2.length cb] 26)).alloc (.cells #[.int .i64 cd2, .int .i64 ix2] 30)) (w4.heap.size + 1) 30 #[.int .i64 cd2, .int .i64 ix2] := by simpa using Blk.new (w4.alloc (.cells #[.slice Ab ql2.length cb] 26)) 30 #[.int .i64 cd2, .int .i64 ix2]
          have HBa7 := Lib.hid (HBa6.out.alloc HBa6.out.size (.cells #[.int .i64 cd2, .int .i64 ix2] 30))
          replace hM := Lib.hid (hM.out.below (below_alloc1 (w4.alloc (.cells #[.slice Ab ql2.length cb] 26)) (.cells #[.int .i64 cd2, .int .i64 ix2] 30)))
          replace V0 := Lib.hid (V0.out.keep (Keeps.alloc (w4.alloc (.cells #[.slice Ab ql2.length cb] 26)) _ (.cells #[.int .i64 cd2, .int .i64 ix2] 30)))
          replace Va := Lib.hid (Va.out.keep (Keeps.alloc (w4.alloc (.cells #[.slice Ab ql2.length cb] 26)) _ (.cells #[.int .i64 cd2, .int .i64 ix2] 30)))
          replace Vb := Lib.hid (Vb.out.keep (Keeps.alloc (w4.alloc (.cells #[.slice Ab ql2.length cb] 26)) _ (.cells #[.int .i64 cd2, .int .i64 ix2] 30)))
          go_wp2_with fail
          go_ret
          exact ⟨rfl, HBa7.out⟩
        · rw [he] at H18
          clear he HUU
          rcases HUV.out with ⟨ha1, ha2⟩ | ⟨_, hv, he⟩
          · clear HUV HCM2 H2 H3 HLL hok hu
            generalize Rf.upS s ⟨un, uo, uw⟩ = us at *
            generalize Rf.upF s ⟨vn, vo, vw⟩ = q at *
            obtain ⟨ql, cd, ix⟩ := q
            simp only at ha1 ha2
            subst ha2
            have hx1 : (cd == 0) = false := by simpa using ha1
            have hx2 : (cd != 0) = true := by simpa using ha1
            clear ha1
            go_wp2_with fail
            go_at_call 18
            refine (H18.out _ hM.out V0.out).mono ?_
            rintro e w3 ⟨Aa, ca, rfl, hca, hsa, hb3'⟩
            have HBm3 := Lib.hid (HBm2.out.trans (hb3'.mono HBm2.out.size))
            replace bx := bx.below hb3' bx.lt
            replace bu := bu.below hb3' bu.lt
            replace bv := bv.below hb3' bv.lt
            replace hM := Lib.hid (hM.out.below hb3')
            replace V0 := Lib.hid (V0.out.keep (free_below hb3'))
            clear bx_l bx_l1 bx_l2 bx_0 bu_l bu_l1 bu_l2 bu_0 bu_1 bu_2 bv_l bv_l1 bv_l2 bv_0 bv_1 bv_2
            have bx_l : w.heap.size < w3.heap.size := bx.lt
            have bx_l1 : w.heap.size < w3.heap.size + 1 := Nat.lt_succ_of_lt bx_l
            have bx_l2 : w.heap.size < w3.heap.size + 1 + 1 := Nat.lt_succ_of_lt bx_l1
            have bx_0 : w3.cell? ⟨w.heap.size, 0, none⟩ = some (.slice A s.length k) := (bx.cell 0).trans rfl
            have bu_l : w.heap.size + 1 < w3.heap.size := bu.lt
            have bu_l1 : w.heap.size + 1 < w3.heap.size + 1 := Nat.lt_succ_of_lt bu_l
            have bu_l2 : w.heap.size + 1 < w3.heap.size + 1 + 1 := Nat.lt_succ_of_lt bu_l1
            have bu_0 : w3.cell? ⟨w.heap.size + 1, 0, none⟩ = some (strV un) := (bu.cell 0).trans rfl
            have bu_1 : w3.cell? ⟨w.heap.size + 1, 1, none⟩ = some (.int .i64 uo) := (bu.cell 1).trans rfl
            have bu_2 : w3.cell? ⟨w.heap.size + 1, 2, none⟩ = some (.int .i64 uw) := (bu.cell 2).trans rfl
            have bv_l : w.heap.size + 2 < w3.heap.size := bv.lt
            have bv_l1 : w.heap.size + 2 < w3.heap.size + 1 := Nat.lt_succ_of_lt bv_l
            have bv_l2 : w.heap.size + 2 < w3.heap.size + 1 + 1 := Nat.lt_succ_of_lt bv_l1
            have bv_0 : w3.cell? ⟨w.heap.size + 2, 0, none⟩ = some (strV vn) := (bv.cell 0).trans rfl
            have bv_1 : w3.cell? ⟨w.heap.size + 2, 1, none⟩ = some (.int .i64 vo) := (bv.cell 1).trans rfl
            have bv_2 : w3.cell? ⟨w.heap.size + 2, 2, none⟩ = some (.int .i64 vw) := (bv.cell 2).trans rfl
            have Va := Lib.hid (hsa.mono (X' := Free) (fun _ h => h.elim))
            clear hsa
            clear hb3'
            replace bx := bx.alloc (.cells #[.slice Aa us.length ca] 26)
            replace bu := bu.alloc (.cells #[.slice Aa us.length ca] 26)
            replace bv := bv.alloc (.cells #[.slice Aa us.length ca] 26)
            have a := Blk.new w3 26 #[.slice Aa us.length ca]
            have HBa4 := Lib.hid (HBm3.out.alloc HBm3.out.size (.cells #[.slice Aa us.length ca] 26))
            replace hM := Lib.hid (hM.out.below (below_alloc1 w3 (.cells #[.slice Aa us.length ca] 26)))
            replace V0 := Lib.hid (V0.out.keep (Keeps.alloc w3 _ (.cells #[.slice Aa us.length ca] 26)))
            replace Va := Lib.hid (Va.out.keep (Keeps.alloc w3 _ (.cells #[.slice Aa us.length ca] 26)))
            replace bx := bx.alloc (.cells #[.int .i64 0, .int .i64 0] 30)
            replace bu := bu.alloc (.cells #[.int .i64 0, .int .i64 0] 30)
            replace bv := bv.alloc (.cells #[.int .i64 0, .int .i64 0] 30)
            replace a := a.alloc (.cells #[.int .i64 0, .int .i64 0] 30)
            have f1 : Blk ((w3.alloc (.cells #[.slice Aa us.length ca] 26)).alloc (.cells #[.int .i64 0, .int .i64 0] 30)) (w3.heap.size + 1) 30 #[.int .i64 0, .int .i64 0] := by simpa using Blk.new (w3.alloc (.cells #[.slice Aa us.length ca] 26)) 30 #[.int .i64 0, .int .i64 0]
            have HBa5 := Lib.hid (HBa4.out.alloc HBa4.out.size (.cells #[.int .i64 0, .int .i64 0] 30))
            replace hM := Lib.hid (hM.out.below (below_alloc1 (w3.alloc (.cells #[.slice Aa us.length ca] 26)) (.cells #[.int .i64 0, .int .i64 0] 30)))
            replace V0 := Lib.hid (V0.out.keep (Keeps.alloc (w3.alloc (.cells #[.slice Aa us.length ca] 26)) _ (.cells #[.int .i64 0, .int .i64 0] 30)))
            replace Va := Lib.hid (Va.out.keep (Keeps.alloc (w3.alloc (.cells #[.slice Aa us.length ca] 26)) _ (.cells #[.int .i64 0, .int .i64 0] 30)))
            go_wp2_with fail
            go_at_call 18
            refine (H18b.out _ hM.out V0.out).mono ?_
            rintro e w4 ⟨Ab, cb, rfl, hcb, hsb, hb4'⟩
            have HBm4 := Lib.hid (HBa5.out.trans (hb4'.mono HBa5.out.size))
            replace bx := bx.below hb4' bx.lt
            replace bu := bu.below hb4' bu.lt
            replace bv := bv.below hb4' bv.lt
            replace a := a.below hb4' a.lt
            replace f1 := f1.below hb4' f1.lt
            replace hM := Lib.hid (hM.out.below hb4')
            replace V0 := Lib.hid (V0.out.keep (free_below hb4'))
            replace Va := Lib.hid (Va.out.keep (free_below hb4'))
            clear bx_l bx_l1 bx_l2 bx_0 bu_l bu_l1 bu_l2 bu_0 bu_1 bu_2 bv_l bv_l1 bv_l2 bv_0 bv_1 bv_2
            have bx_l : w.heap.size < w4.heap.size := bx.lt
            have bx_l1 : w.heap.size < w4.heap.size + 1 := Nat.lt_succ_of_lt bx_l
            have bx_l2 : w.heap.size < w4.heap.size + 1 + 1 := Nat.lt_succ_of_lt bx_l1
            have bx_0 : w4.cell? ⟨w.heap.size, 0, none⟩ = some (.slice A s.length k) := (bx.cell 0).trans rfl
            have bu_l : w.heap.size + 1 < w4.heap.size := bu.lt
            have bu_l1 : w.heap.size + 1 < w4.heap.size + 1 := Nat.lt_succ_of_lt bu_l
            have bu_l2 : w.heap.size + 1 < w4.heap.size + 1 + 1 := Nat.lt_succ_of_lt bu_l1
            have bu_0 : w4.cell? ⟨w.heap.size + 1, 0, none⟩ = some (strV un) := (bu.cell 0).trans rfl
            have bu_1 : w4.cell? ⟨w.heap.size + 1, 1, none⟩ = some (.int .i64 uo) := (bu.cell 1).trans rfl
            have bu_2 : w4.cell? ⟨w.heap.size + 1, 2, none⟩ = some (.int .i64 uw) := (bu.cell 2).trans rfl
            have bv_l : w.heap.size + 2 < w4.heap.size := bv.lt
            have bv_l1 : w.heap.size + 2 < w4.heap.size + 1 := Nat.lt_succ_of_lt bv_l
            have bv_l2 : w.heap.size + 2 < w4.heap.size + 1 + 1 := Nat.lt_succ_of_lt bv_l1
            have bv_0 : w4.cell? ⟨w.heap.size + 2, 0, none⟩ = some (strV vn) := (bv.cell 0).trans rfl
            have bv_1 : w4.cell? ⟨w.heap.size + 2, 1, none⟩ = some (.int .i64 vo) := (bv.cell 1).trans rfl
            have bv_2 : w4.cell? ⟨w.heap.size + 2, 2, none⟩ = some (.int .i64 vw) := (bv.cell 2).trans rfl
            have a_l : w3.heap.size < w4.heap.size := a.lt
            have a_l1 : w3.heap.size < w4.heap.size + 1 := Nat.lt_succ_of_lt a_l
            have a_l2 : w3.heap.size < w4.heap.size + 1 + 1 := Nat.lt_succ_of_lt a_l1
            have a_0 : w4.cell? ⟨w3.heap.size, 0, none⟩ = some (.slice Aa us.length ca) := (a.cell 0).trans rfl
            have f1_l : w3.heap.size + 1 < w4.heap.size := f1.lt
            have f1_l1 : w3.heap.size + 1 < w4.heap.size + 1 := Nat.lt_succ_of_lt f1_l
            have f1_l2 : w3.heap.size + 1 < w4.heap.size + 1 + 1 := Nat.lt_succ_of_lt f1_l1
            have f1_0 : w4.cell? ⟨w3.heap.size + 1, 0, none⟩ = some (.int .i64 0) := (f1.cell 0).trans rfl
            have f1_1 : w4.cell? ⟨w3.heap.size + 1, 1, none⟩ = some (.int .i64 0) := (f1.cell 1).trans rfl
            have Vb := Lib.hid (hsb.mono (X' := Free) (fun _ h => h.elim))
            clear hsb
            clear hb4'
            replace bx := bx.alloc (.cells #[.slice Ab 0 cb] 26)
            replace bu := bu.alloc (.cells #[.slice Ab 0 cb] 26)
            replace bv := bv.alloc (.cells #[.slice Ab 0 cb] 26)
            replace a := a.alloc (.cells #[.slice Ab 0 cb] 26)
            replace f1 := f1.alloc (.cells #[.slice Ab 0 cb] 26)
            have b := Blk.new w4 26 #[.slice Ab 0 cb]
            have HBa6 := Lib.hid (HBm4.out.alloc HBm4.out.size (.cells #[.slice Ab 0 cb] 26))
            replace hM := Lib.hid (hM.out.below (below_alloc1 w4 (.cells #[.slice Ab 0 cb] 26)))
            replace V0 := Lib.hid (V0.out.keep (Keeps.alloc w4 _ (.cells #[.slice Ab 0 cb] 26)))
            replace Va := Lib.hid (Va.out.keep (Keeps.alloc w4 _ (.cells #[.slice Ab 0 cb] 26)))
            replace Vb := Lib.hid (Vb.out.keep (Keeps.alloc w4 _ (.cells #[.slice Ab 0 cb] 26)))
            replace bx := bx.alloc (.cells #[.int .i64 cd, .int .i64 ix] 30)
            replace bu := bu.alloc (.cells #[.int .i64 cd, .int .i64 ix] 30)
            replace bv := bv.alloc (.cells #[.int .i64 cd, .int .i64 ix] 30)
            replace a := a.alloc (.cells #[.int .i64 cd, .int .i64 ix] 30)
            replace f1 := f1.alloc (.cells #[.int .i64 cd, .int .i64 ix] 30)
            replace b := b.alloc (.cells #[.int .i64 cd, .int .i64 ix] 30)
            have f2 : Blk ((w4.alloc (.cells #[.slice Ab 0 cb] 26)).alloc (.cells #[.int .i64 cd, .int .i64 ix] 30)) (w4.heap.size + 1) 30 #[.int .i64 cd, .int .i64 ix] := by simpa using Blk.new (w4.alloc (.cells #[.slice Ab 0 cb] 26)) 30 #[.int .i64 cd, .int .i64 ix]
            have HBa7 := Lib.hid (HBa6.out.alloc HBa6.out.size (.cells #[.int .i64 cd, .int .i64 ix] 30))
            replace hM := Lib.hid (hM.out.below (below_alloc1 (w4.alloc (.cells #[.slice Ab 0 cb] 26)) (.cells #[.int .i64 cd, .int .i64 ix] 30)))
            replace V0 := Lib.hid (V0.out.keep (Keeps.alloc (w4.alloc (.cells #[.slice Ab 0 cb] 26)) _ (.cells #[.int .i64 cd, .int .i64 ix] 30)))
            replace Va := Lib.hid (Va.out.keep (Keeps.alloc (w4.alloc (.cells #[.slice Ab 0 cb] 26)) _ (.cells #[.int .i64 cd, .int .i64 ix] 30)))
            replace Vb := Lib.hid (Vb.out.keep (Keeps.alloc (w4.alloc (.cells #[.slice Ab 0 cb] 26)) _ (.cells #[.int .i64 cd, .int .i64 ix] 30)))
            go_wp2_with fail
            go_ret
            exact ⟨rfl, HBa7.out⟩
          · rw [he] at H18b
            obtain ⟨hu1, hu2, hu3⟩ := HCM2.out hok hu hv
            have HH2 := Lib.hid (H2.out hok hu hu1)
            have HH3 := Lib.hid (H3.out hok hv hu2)
            have hll := HLL.out hok hu
            rw [← hu3] at HH3
            clear he HUV H2 H3 HLL HCM2 hok hu hv hu1 hu2 hu3
            generalize Rf.upS (Rf.upS s ⟨un, uo, uw⟩) ⟨vn, vo, vw⟩ = z at *
            generalize Rf.upS s ⟨un, uo, uw⟩ = us at *
            generalize Rf.upS s ⟨vn, vo, vw⟩ = vs at *
            go_wp2_with fail
            go_at_call 18
            refine (H18.out _ hM.out V0.out).mono ?_
            rintro e w3 ⟨Aa, ca, rfl, hca, hsa, hb3'⟩
            have HBm3 := Lib.hid (HBm2.out.trans (hb3'.mono HBm2.out.size))
            replace bx := bx.below hb3' bx.lt
            replace bu := bu.below hb3' bu.lt
            replace bv := bv.below hb3' bv.lt
            replace hM := Lib.hid (hM.out.below hb3')
            replace V0 := Lib.hid (V0.out.keep (free_below hb3'))
            clear bx_l bx_l1 bx_l2 bx_0 bu_l bu_l1 bu_l2 bu_0 bu_1 bu_2 bv_l bv_l1 bv_l2 bv_0 bv_1 bv_2
            have bx_l : w.heap.size < w3.heap.size := bx.lt
            have bx_l1 : w.heap.size < w3.heap.size + 1 := Nat.lt_succ_of_lt bx_l
            have bx_l2 : w.heap.size < w3.heap.size + 1 + 1 := Nat.lt_succ_of_lt bx_l1
            have bx_0 : w3.cell? ⟨w.heap.size, 0, none⟩ = some (.slice A s.length k) := (bx.cell 0).trans rfl
            have bu_l : w.heap.size + 1 < w3.heap.size := bu.lt
            have bu_l1 : w.heap.size + 1 < w3.heap.size + 1 := Nat.lt_succ_of_lt bu_l
            have bu_l2 : w.heap.size + 1 < w3.heap.size + 1 + 1 := Nat.lt_succ_of_lt bu_l1
            have bu_0 : w3.cell? ⟨w.heap.size + 1, 0, none⟩ = some (strV un) := (bu.cell 0).trans rfl
            have bu_1 : w3.cell? ⟨w.heap.size + 1, 1, none⟩ = some (.int .i64 uo) := (bu.cell 1).trans rfl
            have bu_2 : w3.cell? ⟨w.heap.size + 1, 2, none⟩ = some (.int .i64 uw) := (bu.cell 2).trans rfl
            have bv_l : w.heap.size + 2 < w3.heap.size := bv.lt
            have bv_l1 : w.heap.size + 2 < w3.heap.size + 1 := Nat.lt_succ_of_lt bv_l
            have bv_l2 : w.heap.size + 2 < w3.heap.size + 1 + 1 := Nat.lt_succ_of_lt bv_l1
            have bv_0 : w3.cell? ⟨w.heap.size + 2, 0, none⟩ = some (strV vn) := (bv.cell 0).trans rfl
            have bv_1 : w3.cell? ⟨w.heap.size + 2, 1, none⟩ = some (.int .i64 vo) := (bv.cell 1).trans rfl
            have bv_2 : w3.cell? ⟨w.heap.size + 2, 2, none⟩ = some (.int .i64 vw) := (bv.cell 2).trans rfl
            have Va := Lib.hid (hsa.mono (X' := Free) (fun _ h => h.elim))
            clear hsa
            clear hb3'
            simp only at hca
            replace bx := bx.alloc (.cells #[.slice Aa us.length ca] 26)
            replace bu := bu.alloc (.cells #[.slice Aa us.length ca] 26)
            replace bv := bv.alloc (.cells #[.slice Aa us.length ca] 26)
            have a := Blk.new w3 26 #[.slice Aa us.length ca]
            have HBa4 := Lib.hid (HBm3.out.alloc HBm3.out.size (.cells #[.slice Aa us.length ca] 26))
            replace hM := Lib.hid (hM.out.below (below_alloc1 w3 (.cells #[.slice Aa us.length ca] 26)))
            replace V0 := Lib.hid (V0.out.keep (Keeps.alloc w3 _ (.cells #[.slice Aa us.length ca] 26)))
            replace Va := Lib.hid (Va.out.keep (Keeps.alloc w3 _ (.cells #[.slice Aa us.length ca] 26)))
            replace bx := bx.alloc (.cells #[.int .i64 0, .int .i64 0] 30)
            replace bu := bu.alloc (.cells #[.int .i64 0, .int .i64 0] 30)
            replace bv := bv.alloc (.cells #[.int .i64 0, .int .i64 0] 30)
            replace a := a.alloc (.cells #[.int .i64 0, .int .i64 0] 30)
            have f1 : Blk ((w3.alloc (.cells #[.slice Aa us.length ca] 26)).alloc (.cells #[.int .i64 0, .int .i64 0] 30)) (w3.heap.size + 1) 30 #[.int .i64 0, .int .i64 0] := by simpa using Blk.new (w3.alloc (.cells #[.slice Aa us.length ca] 26)) 30 #[.int .i64 0, .int .i64 0]
            have HBa5 := Lib.hid (HBa4.out.alloc HBa4.out.size (.cells #[.int .i64 0, .int .i64 0] 30))
            replace hM := Lib.hid (hM.out.below (below_alloc1 (w3.alloc (.cells #[.slice Aa us.length ca] 26)) (.cells #[.int .i64 0, .int .i64 0] 30)))
            replace V0 := Lib.hid (V0.out.keep (Keeps.alloc (w3.alloc (.cells #[.slice Aa us.length ca] 26)) _ (.cells #[.int .i64 0, .int .i64 0] 30)))
            replace Va := Lib.hid (Va.out.keep (Keeps.alloc (w3.alloc (.cells #[.slice Aa us.length ca] 26)) _ (.cells #[.int .i64 0, .int .i64 0] 30)))
            go_wp2_with fail
            go_at_call 18
            refine (H18b.out _ hM.out V0.out).mono ?_
            rintro e w4 ⟨Ab, cb, rfl, hcb, hsb, hb4'⟩
            have HBm4 := Lib.hid (HBa5.out.trans (hb4'.mono HBa5.out.size))
            replace bx := bx.below hb4' bx.lt
            replace bu := bu.below hb4' bu.lt
            replace bv := bv.below hb4' bv.lt
            replace a := a.below hb4' a.lt
            replace f1 := f1.below hb4' f1.lt
            replace hM := Lib.hid (hM.out.below hb4')
            replace V0 := Lib.hid (V0.out.keep (free_below hb4'))
            replace Va := Lib.hid (Va.out.keep (free_below hb4'))
            clear bx_l bx_l1 bx_l2 bx_0 bu_l bu_l1 bu_l2 bu_0 bu_1 bu_2 bv_l bv_l1 bv_l2 bv_0 bv_1 bv_2
            have bx_l : w.heap.size < w4.heap.size := bx.lt
            have bx_l1 : w.heap.size < w4.heap.size + 1 := Nat.lt_succ_of_lt bx_l
            have bx_l2 : w.heap.size < w4.heap.size + 1 + 1 := Nat.lt_succ_of_lt bx_l1
            have bx_0 : w4.cell? ⟨w.heap.size, 0, none⟩ = some (.slice A s.length k) := (bx.cell 0).trans rfl
            have bu_l : w.heap.size + 1 < w4.heap.size := bu.lt
            have bu_l1 : w.heap.size + 1 < w4.heap.size + 1 := Nat.lt_succ_of_lt bu_l
            have bu_l2 : w.heap.size + 1 < w4.heap.size + 1 + 1 := Nat.lt_succ_of_lt bu_l1
            have bu_0 : w4.cell? ⟨w.heap.size + 1, 0, none⟩ = some (strV un) := (bu.cell 0).trans rfl
            have bu_1 : w4.cell? ⟨w.heap.size + 1, 1, none⟩ = some (.int .i64 uo) := (bu.cell 1).trans rfl
            have bu_2 : w4.cell? ⟨w.heap.size + 1, 2, none⟩ = some (.int .i64 uw) := (bu.cell 2).trans rfl
            have bv_l : w.heap.size + 2 < w4.heap.size := bv.lt
            have bv_l1 : w.heap.size + 2 < w4.heap.size + 1 := Nat.lt_succ_of_lt bv_l
            have bv_l2 : w.heap.size + 2 < w4.heap.size + 1 + 1 := Nat.lt_succ_of_lt bv_l1
            have bv_0 : w4.cell? ⟨w.heap.size + 2, 0, none⟩ = some (strV vn) := (bv.cell 0).trans rfl
            have bv_1 : w4.cell? ⟨w.heap.size + 2, 1, none⟩ = some (.int .i64 vo) := (bv.cell 1).trans rfl
            have bv_2 : w4.cell? ⟨w.heap.size + 2, 2, none⟩ = some (.int .i64 vw) := (bv.cell 2).trans rfl
            have a_l : w3.heap.size < w4.heap.size := a.lt
            have a_l1 : w3.heap.size < w4.heap.size + 1 := Nat.lt_succ_of_lt a_l
            have a_l2 : w3.heap.size < w4.heap.size + 1 + 1 := Nat.lt_succ_of_lt a_l1
            have a_0 : w4.cell? ⟨w3.heap.size, 0, none⟩ = some (.slice Aa us.length ca) := (a.cell 0).trans rfl
            have f1_l : w3.heap.size + 1 < w4.heap.size := f1.lt
            have f1_l1 : w3.heap.size + 1 < w4.heap.size + 1 := Nat.lt_succ_of_lt f1_l
            have f1_l2 : w3.heap.size + 1 < w4.heap.size + 1 + 1 := Nat.lt_succ_of_lt f1_l1
            have f1_0 : w4.cell? ⟨w3.heap.size + 1, 0, none⟩ = some (.int .i64 0) := (f1.cell 0).trans rfl
            have f1_1 : w4.cell? ⟨w3.heap.size + 1, 1, none⟩ = some (.int .i64 0) := (f1.cell 1).trans rfl
            have Vb := Lib.hid (hsb.mono (X' := Free) (fun _ h => h.elim))
            clear hsb
            clear hb4'
            simp only at hcb
            replace bx := bx.alloc (.cells #[.slice Ab vs.length cb] 26)
            replace bu := bu.alloc (.cells #[.slice Ab vs.length cb] 26)
            replace bv := bv.alloc (.cells #[.slice Ab vs.length cb] 26)
            replace a := a.alloc (.cells #[.slice Ab vs.length cb] 26)
            replace f1 := f1.alloc (.cells #[.slice Ab vs.length cb] 26)
            have b := Blk.new w4 26 #[.slice Ab vs.length cb]
            have HBa6 := Lib.hid (HBm4.out.alloc HBm4.out.size (.cells #[.slice Ab vs.length cb] 26))
            replace hM := Lib.hid (hM.out.below (below_alloc1 w4 (.cells #[.slice Ab vs.length cb] 26)))
            replace V0 := Lib.hid (V0.out.keep (Keeps.alloc w4 _ (.cells #[.slice Ab vs.length cb] 26)))
            replace Va := Lib.hid (Va.out.keep (Keeps.alloc w4 _ (.cells #[.slice Ab vs.length cb] 26)))
            replace Vb := Lib.hid (Vb.out.keep (Keeps.alloc w4 _ (.cells #[.slice Ab vs.length cb] 26)))
            replace bx := bx.alloc (.cells #[.int .i64 0, .int .i64 0] 30)
            replace bu := bu.alloc (.cells #[.int .i64 0, .int .i64 0] 30)
            replace bv := bv.alloc (.cells #[.int .i64 0, .int .i64 0] 30)
            replace a := a.alloc (.cells #[.int .i64 0, .int .i64 0] 30)
            replace f1 := f1.alloc (.cells #[.int .i64 0, .int .i64 0] 30)
            replace b := b.alloc (.cells #[.int .i64 0, .int .i64 0] 30)
            have f2 : Blk ((w4.alloc (.cells #[.slice Ab vs.length cb] 26)).alloc (.cells #[.int .i64 0, .int .i64 0] 30)) (w4.heap.size + 1) 30 #[.int .i64 0, .int .i64 0] := by simpa using Blk.new (w4.alloc (.cells #[.slice Ab vs.length cb] 26)) 30 #[.int .i64 0, .int .i64 0]
            have HBa7 := Lib.hid (HBa6.out.alloc HBa6.out.size (.cells #[.int .i64 0, .int .i64 0] 30))
            replace hM := Lib.hid (hM.out.below (below_alloc1 (w4.alloc (.cells #[.slice Ab vs.length cb] 26)) (.cells #[.int .i64 0, .int .i64 0] 30)))
            replace V0 := Lib.hid (V0.out.keep (Keeps.alloc (w4.alloc (.cells #[.slice Ab vs.length cb] 26)) _ (.cells #[.int .i64 0, .int .i64 0] 30)))
            replace Va := Lib.hid (Va.out.keep (Keeps.alloc (w4.alloc (.cells #[.slice Ab vs.length cb] 26)) _ (.cells #[.int .i64 0, .int .i64 0] 30)))
            replace Vb := Lib.hid (Vb.out.keep (Keeps.alloc (w4.alloc (.cells #[.slice Ab vs.length cb] 26)) _ (.cells #[.int .i64 0, .int .i64 0] 30)))
            go_wp2_with fail
            go_at_call 18
            refine (HH2.out Aa ca _ hM.out Va.out hca).mono ?_
            rintro e w5 ⟨Ax, cx, rfl, hcx, hsx, hb5'⟩
            have HBm5 := Lib.hid (HBa7.out.trans (hb5'.mono HBa7.out.size))
            replace bx := bx.below hb5' bx.lt
            replace bu := bu.below hb5' bu.lt
            replace bv := bv.below hb5' bv.lt
            replace a := a.below hb5' a.lt
            replace f1 := f1.below hb5' f1.lt
            replace b := b.below hb5' b.lt
            replace f2 := f2.below hb5' f2.lt
            replace hM := Lib.hid (hM.out.below hb5')
            replace V0 := Lib.hid (V0.out.keep (free_below hb5'))
            replace Va := Lib.hid (Va.out.keep (free_below hb5'))
            replace Vb := Lib.hid (Vb.out.keep (free_below hb5'))
            clear bx_l bx_l1 bx_l2 bx_0 bu_l bu_l1 bu_l2 bu_0 bu_1 bu_2 bv_l bv_l1 bv_l2 bv_0 bv_1 bv_2 a_l a_l1 a_l2 a_0 f1_l f1_l1 f1_l2 f1_0 f1_1
            have bx_l : w.heap.size < w5.heap.size := bx.lt
            have bx_l1 : w.heap.size < w5.heap.size + 1 := Nat.lt_succ_of_lt bx_l
            have bx_l2 : w.heap.size < w5.heap.size + 1 + 1 := Nat.lt_succ_of_lt bx_l1
            have bx_0 : w5.cell? ⟨w.heap.size, 0, none⟩ = some (.slice A s.length k) := (bx.cell 0).trans rfl
            have bu_l : w.heap.size + 1 < w5.heap.size := bu.lt
            have bu_l1 : w.heap.size + 1 < w5.heap.size + 1 := Nat.lt_succ_of_lt bu_l
            have bu_l2 : w.heap.size + 1 < w5.heap.size + 1 + 1 := Nat.lt_succ_of_lt bu_l1
            have bu_0 : w5.cell? ⟨w.heap.size + 1, 0, none⟩ = some (strV un) := (bu.cell 0).trans rfl
            have bu_1 : w5.cell? ⟨w.heap.size + 1, 1, none⟩ = some (.int .i64 uo) := (bu.cell 1).trans rfl
            have bu_2 : w5.cell? ⟨w.heap.size + 1, 2, none⟩ = some (.int .i64 uw) := (bu.cell 2).trans rfl
            have bv_l : w.heap.size + 2 < w5.heap.size := bv.lt
            have bv_l1 : w.heap.size + 2 < w5.heap.size + 1 := Nat.lt_succ_of_lt bv_l
            have bv_l2 : w.heap.size + 2 < w5.heap.size + 1 + 1 := Nat.lt_succ_of_lt bv_l1
            have bv_0 : w5.cell? ⟨w.heap.size + 2, 0, none⟩ = some (strV vn) := (bv.cell 0).trans rfl
            have bv_1 : w5.cell? ⟨w.heap.size + 2, 1, none⟩ = some (.int .i64 vo) := (bv.cell 1).trans rfl
            have bv_2 : w5.cell? ⟨w.heap.size + 2, 2, none⟩ = some (.int .i64 vw) := (bv.cell 2).trans rfl
            have a_l : w3.heap.size < w5.heap.size := a.lt
            have a_l1 : w3.heap.size < w5.heap.size + 1 := Nat.lt_succ_of_lt a_l
            have a_l2 : w3.heap.size < w5.heap.size + 1 + 1 := Nat.lt_succ_of_lt a_l1
            have a_0 : w5.cell? ⟨w3.heap.size, 0, none⟩ = some (.slice Aa us.length ca) := (a.cell 0).trans rfl
            have f1_l : w3.heap.size + 1 < w5.heap.size := f1.lt
            have f1_l1 : w3.heap.size + 1 < w5.heap.size + 1 := Nat.lt_succ_of_lt f1_l
            have f1_l2 : w3.heap.size + 1 < w5.heap.size + 1 + 1 := Nat.lt_succ_of_lt f1_l1
            have f1_0 : w5.cell? ⟨w3.heap.size + 1, 0, none⟩ = some (.int .i64 0) := (f1.cell 0).trans rfl
            have f1_1 : w5.cell? ⟨w3.heap.size + 1, 1, none⟩ = some (.int .i64 0) := (f1.cell 1).trans rfl
            have b_l : w4.heap.size < w5.heap.size := b.lt
            have b_l1 : w4.heap.size < w5.heap.size + 1 := Nat.lt_succ_of_lt b_l
            have b_l2 : w4.heap.size < w5.heap.size + 1 + 1 := Nat.lt_succ_of_lt b_l1
            have b_0 : w5.cell? ⟨w4.heap.size, 0, none⟩ = some (.slice Ab vs.length cb) := (b.cell 0).trans rfl
            have f2_l : w4.heap.size + 1 < w5.heap.size := f2.lt
            have f2_l1 : w4.heap.size + 1 < w5.heap.size + 1 := Nat.lt_succ_of_lt f2_l
            have f2_l2 : w4.heap.size + 1 < w5.heap.size + 1 + 1 := Nat.lt_succ_of_lt f2_l1
            have f2_0 : w5.cell? ⟨w4.heap.size + 1, 0, none⟩ = some (.int .i64 0) := (f2.cell 0).trans rfl
            have f2_1 : w5.cell? ⟨w4.heap.size + 1, 1, none⟩ = some (.int .i64 0) := (f2.cell 1).trans rfl
            have Vx := Lib.hid (hsx.mono (X' := Free) (fun _ h => h.elim))
            clear hsx
            clear hb5'
            replace bx := bx.alloc (.cells #[.slice Ax z.length cx] 26)
            replace bu := bu.alloc (.cells #[.slice Ax z.length cx] 26)
            replace bv := bv.alloc (.cells #[.slice Ax z.length cx] 26)
            replace a := a.alloc (.cells #[.slice Ax z.length cx] 26)
            replace f1 := f1.alloc (.cells #[.slice Ax z.length cx] 26)
            replace b := b.alloc (.cells #[.slice Ax z.length cx] 26)
            replace f2 := f2.alloc (.cells #[.slice Ax z.length cx] 26)
            have x := Blk.new w5 26 #[.slice Ax z.length cx]
            have HBa8 := Lib.hid (HBm5.out.alloc HBm5.out.size (.cells #[.slice Ax z.length cx] 26))
            replace hM := Lib.hid (hM.out.below (below_alloc1 w5 (.cells #[.slice Ax z.length cx] 26)))
            replace V0 := Lib.hid (V0.out.keep (Keeps.alloc w5 _ (.cells #[.slice Ax z.length cx] 26)))
            replace Va := Lib.hid (Va.out.keep (Keeps.alloc w5 _ (.cells #[.slice Ax z.length cx] 26)))
            replace Vb := Lib.hid (Vb.out.keep (Keeps.alloc w5 _ (.cells #[.slice Ax z.length cx] 26)))
            replace Vx := Lib.hid (Vx.out.keep (Keeps.alloc w5 _ (.cells #[.slice Ax z.length cx] 26)))
            replace bx := bx.alloc (.cells #[.int .i64 0, .int .i64 0] 30)
            replace bu := bu.alloc (.cells #[.int .i64 0, .int .i64 0] 30)
            replace bv := bv.alloc (.cells #[.int .i64 0, .int .i64 0] 30)
            replace a := a.alloc (.cells #[.int .i64 0, .int .i64 0] 30)
            replace f1 := f1.alloc (.cells #[.int .i64 0, .int .i64 0] 30)
            replace b := b.alloc (.cells #[.int .i64 0, .int .i64 0] 30)
            replace f2 := f2.alloc (.cells #[.int .i64 0, .int .i64 0] 30)
            replace x := x.alloc (.cells #[.int .i64 0, .int .i64 0] 30)
            have f3 : Blk ((w5.alloc (.cells #[.slice Ax z.length cx] 26)).alloc (.cells #[.int .i64 0, .int .i64 0] 30)) (w5.heap.size + 1) 30 #[.int .i64 0, .int .i64 0] := by simpa using Blk.new (w5.alloc (.cells #[.slice Ax z.length cx] 26)) 30 #[.int .i64 0, .int .i64 0]
            have HBa9 := Lib.hid (HBa8.out.alloc HBa8.out.size (.cells #[.int .i64 0, .int .i64 0] 30))
            replace hM := Lib.hid (hM.out.below (below_alloc1 (w5.alloc (.cells #[.slice Ax z.length cx] 26)) (.cells #[.int .i64 0, .int .i64 0] 30)))
            replace V0 := Lib.hid (V0.out.keep (Keeps.alloc (w5.alloc (.cells #[.slice Ax z.length cx] 26)) _ (.cells #[.int .i64 0, .int .i64 0] 30)))
            replace Va := Lib.hid (Va.out.keep (Keeps.alloc (w5.alloc (.cells #[.slice Ax z.length cx] 26)) _ (.cells #[.int .i64 0, .int .i64 0] 30)))
            replace Vb := Lib.hid (Vb.out.keep (Keeps.alloc (w5.alloc (.cells #[.slice Ax z.length cx] 26)) _ (.cells #[.int .i64 0, .int .i64 0] 30)))
            replace Vx := Lib.hid (Vx.out.keep (Keeps.alloc (w5.alloc (.cells #[.slice Ax z.length cx] 26)) _ (.cells #[.int .i64 0, .int .i64 0] 30)))
            go_wp2_with fail
            go_at_call 18
            refine (HH3.out Ab cb _ hM.out Vb.out hcb).mono ?_
            rintro e w6 ⟨Ay, cy, rfl, hcy, hsy, hb6'⟩
            have HBm6 := Lib.hid (HBa9.out.trans (hb6'.mono HBa9.out.size))
            replace bx := bx.below hb6' bx.lt
            replace bu := bu.below hb6' bu.lt
            replace bv := bv.below hb6' bv.lt
            replace a := a.below hb6' a.lt
            replace f1 := f1.below hb6' f1.lt
            replace b := b.below hb6' b.lt
            replace f2 := f2.below hb6' f2.lt
            replace x := x.below hb6' x.lt
            replace f3 := f3.below hb6' f3.lt
            replace hM := Lib.hid (hM.out.below hb6')
            replace V0 := Lib.hid (V0.out.keep (free_below hb6'))
            replace Va := Lib.hid (Va.out.keep (free_below hb6'))
            replace Vb := Lib.hid (Vb.out.keep (free_below hb6'))
            replace Vx := Lib.hid (Vx.out.keep (free_below hb6'))
            clear bx_l bx_l1 bx_l2 bx_0 bu_l bu_l1 bu_l2 bu_0 bu_1 bu_2 bv_l bv_l1 bv_l2 bv_0 bv_1 bv_2 a_l a_l1 a_l2 a_0 f1_l f1_l1 f1_l2 f1_0 f1_1 b_l b_l1 b_l2 b_0 f2_l f2_l1 f2_l2 f2_0 f2_1
            have bx_l : w.heap.size < w6.heap.size := bx.lt
            have bx_l1 : w.heap.size < w6.heap.size + 1 := Nat.lt_succ_of_lt bx_l
            have bx_l2 : w.heap.size < w6.heap.size + 1 + 1 := Nat.lt_succ_of_lt bx_l1
            have bx_0 : w6.cell? ⟨w.heap.size, 0, none⟩ = some (.slice A s.length k) := (bx.cell 0).trans rfl
            have bu_l : w.heap.size + 1 < w6.heap.size := bu.lt
            have bu_l1 : w.heap.size + 1 < w6.heap.size + 1 := Nat.lt_succ_of_lt bu_l
            have bu_l2 : w.heap.size + 1 < w6.heap.size + 1 + 1 := Nat.lt_succ_of_lt bu_l1
            have bu_0 : w6.cell? ⟨w.heap.size + 1, 0, none⟩ = some (strV un) := (bu.cell 0).trans rfl
            have bu_1 : w6.cell? ⟨w.heap.size + 1, 1, none⟩ = some (.int .i64 uo) := (bu.cell 1).trans rfl
            have bu_2 : w6.cell? ⟨w.heap.size + 1, 2, none⟩ = some (.int .i64 uw) := (bu.cell 2).trans rfl
            have bv_l : w.heap.size + 2 < w6.heap.size := bv.lt
            have bv_l1 : w.heap.size + 2 < w6.heap.size + 1 := Nat.lt_succ_of_lt bv_l
            have bv_l2 : w.heap.size + 2 < w6.heap.size + 1 + 1 := Nat.lt_succ_of_lt bv_l1
            have bv_0 : w6.cell? ⟨w.heap.size + 2, 0, none⟩ = some (strV vn) := (bv.cell 0).trans rfl
            have bv_1 : w6.cell? ⟨w.heap.size + 2, 1, none⟩ = some (.int .i64 vo) := (bv.cell 1).trans rfl
            have bv_2 : w6.cell? ⟨w.heap.size + 2, 2, none⟩ = some (.int .i64 vw) := (bv.cell 2).trans rfl
            have a_l : w3.heap.size < w6.heap.size := a.lt
            have a_l1 : w3.heap.size < w6.heap.size + 1 := Nat.lt_succ_of_lt a_l
            have a_l2 : w3.heap.size < w6.heap.size + 1 + 1 := Nat.lt_succ_of_lt a_l1
            have a_0 : w6.cell? ⟨w3.heap.size, 0, none⟩ = some (.slice Aa us.length ca) := (a.cell 0).trans rfl
            have f1_l : w3.heap.size + 1 < w6.heap.size := f1.lt
            have f1_l1 : w3.heap.size + 1 < w6.heap.size + 1 := Nat.lt_succ_of_lt f1_l
            have f1_l2 : w3.heap.size + 1 < w6.heap.size + 1 + 1 := Nat.lt_succ_of_lt f1_l1
            have f1_0 : w6.cell? ⟨w3.heap.size + 1, 0, none⟩ = some (.int .i64 0) := (f1.cell 0).trans rfl
            have f1_1 : w6.cell? ⟨w3.heap.size + 1, 1, none⟩ = some (.int .i64 0) := (f1.cell 1).trans rfl
            have b_l : w4.heap.size < w6.heap.size := b.lt
            have b_l1 : w4.heap.size < w6.heap.size + 1 := Nat.lt_succ_of_lt b_l
            have b_l2 : w4.heap.size < w6.heap.size + 1 + 1 := Nat.lt_succ_of_lt b_l1
            have b_0 : w6.cell? ⟨w4.heap.size, 0, none⟩ = some (.slice Ab vs.length cb) := (b.cell 0).trans rfl
            have f2_l : w4.heap.size + 1 < w6.heap.size := f2.lt
            have f2_l1 : w4.heap.size + 1 < w6.heap.size + 1 := Nat.lt_succ_of_lt f2_l
            have f2_l2 : w4.heap.size + 1 < w6.heap.size + 1 + 1 := Nat.lt_succ_of_lt f2_l1
            have f2_0 : w6.cell? ⟨w4.heap.size + 1, 0, none⟩ = some (.int .i64 0) := (f2.cell 0).trans rfl
            have f2_1 : w6.cell? ⟨w4.heap.size + 1, 1, none⟩ = some (.int .i64 0) := (f2.cell 1).trans rfl
            have x_l : w5.heap.size < w6.heap.size := x.lt
            have x_l1 : w5.heap.size < w6.heap.size + 1 := Nat.lt_succ_of_lt x_l
            have x_l2 : w5.heap.size < w6.heap.size + 1 + 1 := Nat.lt_succ_of_lt x_l1
            have x_0 : w6.cell? ⟨w5.heap.size, 0, none⟩ = some (.slice Ax z.length cx) := (x.cell 0).trans rfl
            have f3_l : w5.heap.size + 1 < w6.heap.size := f3.lt
            have f3_l1 : w5.heap.size + 1 < w6.heap.size + 1 := Nat.lt_succ_of_lt f3_l
            have f3_l2 : w5.heap.size + 1 < w6.heap.size + 1 + 1 := Nat.lt_succ_of_lt f3_l1
            have f3_0 : w6.cell? ⟨w5.heap.size + 1, 0, none⟩ = some (.int .i64 0) := (f3.cell 0).trans rfl
            have f3_1 : w6.cell? ⟨w5.heap.size + 1, 1, none⟩ = some (.int .i64 0) := (f3.cell 1).trans rfl
            have Vy := Lib.hid (hsy.mono (X' := Free) (fun _ h => h.elim))
            clear hsy
            clear hb6'
            replace bx := bx.alloc (.cells #[.slice Ay z.length cy] 26)
            replace bu := bu.alloc (.cells #[.slice Ay z.length cy] 26)
            replace bv := bv.alloc (.cells #[.slice Ay z.length cy] 26)
            replace a := a.alloc (.cells #[.slice Ay z.length cy] 26)
            replace f1 := f1.alloc (.cells #[.slice Ay z.length cy] 26)
            replace b := b.alloc (.cells #[.slice Ay z.length cy] 26)
            replace f2 := f2.alloc (.cells #[.slice Ay z.length cy] 26)
            replace x := x.alloc (.cells #[.slice Ay z.length cy] 26)
            replace f3 := f3.alloc (.cells #[.slice Ay z.length cy] 26)
            have y := Blk.new w6 26 #[.slice Ay z.length cy]
            have HBa10 := Lib.hid (HBm6.out.alloc HBm6.out.size (.cells #[.slice Ay z.length cy] 26))
            replace hM := Lib.hid (hM.out.below (below_alloc1 w6 (.cells #[.slice Ay z.length cy] 26)))
            replace V0 := Lib.hid (V0.out.keep (Keeps.alloc w6 _ (.cells #[.slice Ay z.length cy] 26)))
            replace Va := Lib.hid (Va.out.keep (Keeps.alloc w6 _ (.cells #[.slice Ay z.length cy] 26)))
            replace Vb := Lib.hid (Vb.out.keep (Keeps.alloc w6 _ (.cells #[.slice Ay z.length cy] 26)))
            replace Vx := Lib.hid (Vx.out.keep (Keeps.alloc w6 _ (.cells #[.slice Ay z.length cy] 26)))
            replace Vy := Lib.hid (Vy.out.keep (Keeps.alloc w6 _ (.cells #[.slice Ay z.length cy] 26)))
            replace bx := bx.alloc (.cells #[.int .i64 0, .int .i64 0] 30)
            replace bu := bu.alloc (.cells #[.int .i64 0, .int .i64 0] 30)
            replace bv := bv.alloc (.cells #[.int .i64 0, .int .i64 0] 30)
            replace a := a.alloc (.cells #[.int .i64 0, .int .i64 0] 30)
            replace f1 := f1.alloc (.cells #[.int .i64 0, .int .i64 0] 30)
            replace b := b.alloc (.cells #[.int .i64 0, .int .i64 0] 30)
            replace f2 := f2.alloc (.cells #[.int .i64 0, .int .i64 0] 30)
            replace x := x.alloc (.cells #[.int .i64 0, .int .i64 0] 30)
            replace f3 := f3.alloc (.cells #[.int .i64 0, .int .i64 0] 30)
            replace y := y.alloc (.cells #[.int .i64 0, .int .i64 0] 30)
            have f4 : Blk ((w6.alloc (.cells #[.slice Ay z.length cy] 26)).alloc (.cells #[.int .i64 0, .int .i64 0] 30)) (w6.heap.size + 1) 30 #[.int .i64 0, .int .i64 0] := by simpa using Blk.new (w6.alloc (.cells #[.slice Ay z.length cy] 26)) 30 #[.int .i64 0, .int .i64 0]
            have HBa11 := Lib.hid (HBa10.out.alloc HBa10.out.size (.cells #[.int .i64 0, .int .i64 0] 30))
            replace hM := Lib.hid (hM.out.below (below_alloc1 (w6.alloc (.cells #[.slice Ay z.length cy] 26)) (.cells #[.int .i64 0, .int .i64 0] 30)))
            replace V0 := Lib.hid (V0.out.keep (Keeps.alloc (w6.alloc (.cells #[.slice Ay z.length cy] 26)) _ (.cells #[.int .i64 0, .int .i64 0] 30)))
            replace Va := Lib.hid (Va.out.keep (Keeps.alloc (w6.alloc (.cells #[.slice Ay z.length cy] 26)) _ (.cells #[.int .i64 0, .int .i64 0] 30)))
            replace Vb := Lib.hid (Vb.out.keep (Keeps.alloc (w6.alloc (.cells #[.slice Ay z.length cy] 26)) _ (.cells #[.int .i64 0, .int .i64 0] 30)))
            replace Vx := Lib.hid (Vx.out.keep (Keeps.alloc (w6.alloc (.cells #[.slice Ay z.length cy] 26)) _ (.cells #[.int .i64 0, .int .i64 0] 30)))
            replace Vy := Lib.hid (Vy.out.keep (Keeps.alloc (w6.alloc (.cells #[.slice Ay z.length cy] 26)) _ (.cells #[.int .i64 0, .int .i64 0] 30)))
            go_wp2_with fail
            go_at_call 22
            refine (refStores_any _ Ax Ay cx cy z z Vx.out Vy.out (by omega) (by omega)).mono ?_
            rintro e w7 ⟨rfl, hb7'⟩
            have HBm7 := Lib.hid (HBa11.out.trans (hb7'.mono HBa11.out.size))
            replace bx := bx.below hb7' bx.lt
            replace bu := bu.below hb7' bu.lt
            replace bv := bv.below hb7' bv.lt
            replace a := a.below hb7' a.lt
            replace f1 := f1.below hb7' f1.lt
            replace b := b.below hb7' b.lt
            replace f2 := f2.below hb7' f2.lt
            replace x := x.below hb7' x.lt
            replace f3 := f3.below hb7' f3.lt
            replace y := y.below hb7' y.lt
            replace f4 := f4.below hb7' f4.lt
            replace hM := Lib.hid (hM.out.below hb7')
            replace V0 := Lib.hid (V0.out.keep (free_below hb7'))
            replace Va := Lib.hid (Va.out.keep (free_below hb7'))
            replace Vb := Lib.hid (Vb.out.keep (free_below hb7'))
            replace Vx := Lib.hid (Vx.out.keep (free_below hb7'))
            replace Vy := Lib.hid (Vy.out.keep (free_below hb7'))
            clear bx_l bx_l1 bx_l2 bx_0 bu_l bu_l1 bu_l2 bu_0 bu_1 bu_2 bv_l bv_l1 bv_l2 bv_0 bv_1 bv_2 a_l a_l1 a_l2 a_0 f1_l f1_l1 f1_l2 f1_0 f1_1 b_l b_l1 b_l2 b_0 f2_l f2_l1 f2_l2 f2_0 f2_1 x_l x_l1 x_l2 x_0 f3_l f3_l1 f3_l2 f3_0 f3_1
            have bx_l : w.heap.size < w7.heap.size := bx.lt
            have bx_l1 : w.heap.size < w7.heap.size + 1 := Nat.lt_succ_of_lt bx_l
            have bx_l2 : w.heap.size < w7.heap.size + 1 + 1 := Nat.lt_succ_of_lt bx_l1
            have bx_0 : w7.cell? ⟨w.heap.size, 0, none⟩ = some (.slice A s.length k) := (bx.cell 0).trans rfl
            have bu_l : w.heap.size + 1 < w7.heap.size := bu.lt
            have bu_l1 : w.heap.size + 1 < w7.heap.size + 1 := Nat.lt_succ_of_lt bu_l
            have bu_l2 : w.heap.size + 1 < w7.heap.size + 1 + 1 := Nat.lt_succ_of_lt bu_l1
            have bu_0 : w7.cell? ⟨w.heap.size + 1, 0, none⟩ = some (strV un) := (bu.cell 0).trans rfl
            have bu_1 : w7.cell? ⟨w.heap.size + 1, 1, none⟩ = some (.int .i64 uo) := (bu.cell 1).trans rfl
            have bu_2 : w7.cell? ⟨w.heap.size + 1, 2, none⟩ = some (.int .i64 uw) := (bu.cell 2).trans rfl
            have bv_l : w.heap.size + 2 < w7.heap.size := bv.lt
            have bv_l1 : w.heap.size + 2 < w7.heap.size + 1 := Nat.lt_succ_of_lt bv_l
            have bv_l2 : w.heap.size + 2 < w7.heap.size + 1 + 1 := Nat.lt_succ_of_lt bv_l1
            have bv_0 : w7.cell? ⟨w.heap.size + 2, 0, none⟩ = some (strV vn) := (bv.cell 0).trans rfl
            have bv_1 : w7.cell? ⟨w.heap.size + 2, 1, none⟩ = some (.int .i64 vo) := (bv.cell 1).trans rfl
            have bv_2 : w7.cell? ⟨w.heap.size + 2, 2, none⟩ = some (.int .i64 vw) := (bv.cell 2).trans rfl
            have a_l : w3.heap.size < w7.heap.size := a.lt
            have a_l1 : w3.heap.size < w7.heap.size + 1 := Nat.lt_succ_of_lt a_l
            have a_l2 : w3.heap.size < w7.heap.size + 1 + 1 := Nat.lt_succ_of_lt a_l1
            have a_0 : w7.cell? ⟨w3.heap.size, 0, none⟩ = some (.slice Aa us.length ca) := (a.cell 0).trans rfl
            have f1_l : w3.heap.size + 1 < w7.heap.size := f1.lt
            have f1_l1 : w3.heap.size + 1 < w7.heap.size + 1 := Nat.lt_succ_of_lt f1_l
            have f1_l2 : w3.heap.size + 1 < w7.heap.size + 1 + 1 := Nat.lt_succ_of_lt f1_l1
            have f1_0 : w7.cell? ⟨w3.heap.size + 1, 0, none⟩ = some (.int .i64 0) := (f1.cell 0).trans rfl
            have f1_1 : w7.cell? ⟨w3.heap.size + 1, 1, none⟩ = some (.int .i64 0) := (f1.cell 1).trans rfl
            have b_l : w4.heap.size < w7.heap.size := b.lt
            have b_l1 : w4.heap.size < w7.heap.size + 1 := Nat.lt_succ_of_lt b_l
            have b_l2 : w4.heap.size < w7.heap.size + 1 + 1 := Nat.lt_succ_of_lt b_l1
            have b_0 : w7.cell? ⟨w4.heap.size, 0, none⟩ = some (.slice Ab vs.length cb) := (b.cell 0).trans rfl
            have f2_l : w4.heap.size + 1 < w7.heap.size := f2.lt
            have f2_l1 : w4.heap.size + 1 < w7.heap.size + 1 := Nat.lt_succ_of_lt f2_l
            have f2_l2 : w4.heap.size + 1 < w7.heap.size + 1 + 1 := Nat.lt_succ_of_lt f2_l1
            have f2_0 : w7.cell? ⟨w4.heap.size + 1, 0, none⟩ = some (.int .i64 0) := (f2.cell 0).trans rfl
            have f2_1 : w7.cell? ⟨w4.heap.size + 1, 1, none⟩ = some (.int .i64 0) := (f2.cell 1).trans rfl
            have x_l : w5.heap.size < w7.heap.size := x.lt
            have x_l1 : w5.heap.size < w7.heap.size + 1 := Nat.lt_succ_of_lt x_l
            have x_l2 : w5.heap.size < w7.heap.size + 1 + 1 := Nat.lt_succ_of_lt x_l1
            have x_0 : w7.cell? ⟨w5.heap.size, 0, none⟩ = some (.slice Ax z.length cx) := (x.cell 0).trans rfl
            have f3_l : w5.heap.size + 1 < w7.heap.size := f3.lt
            have f3_l1 : w5.heap.size + 1 < w7.heap.size + 1 := Nat.lt_succ_of_lt f3_l
            have f3_l2 : w5.heap.size + 1 < w7.heap.size + 1 + 1 := Nat.lt_succ_of_lt f3_l1
            have f3_0 : w7.cell? ⟨w5.heap.size + 1, 0, none⟩ = some (.int .i64 0) := (f3.cell 0).trans rfl
            have f3_1 : w7.cell? ⟨w5.heap.size + 1, 1, none⟩ = some (.int .i64 0) := (f3.cell 1).trans rfl
            have y_l : w6.heap.size < w7.heap.size := y.lt
            have y_l1 : w6.heap.size < w7.heap.size + 1 := Nat.lt_succ_of_lt y_l
            have y_l2 : w6.heap.size < w7.heap.size + 1 + 1 := Nat.lt_succ_of_lt y_l1
            have y_0 : w7.cell? ⟨w6.heap.size, 0, none⟩ = some (.slice Ay z.length cy) := (y.cell 0).trans rfl
            have f4_l : w6.heap.size + 1 < w7.heap.size := f4.lt
            have f4_l1 : w6.heap.size + 1 < w7.heap.size + 1 := Nat.lt_succ_of_lt f4_l
            have f4_l2 : w6.heap.size + 1 < w7.heap.size + 1 + 1 := Nat.lt_succ_of_lt f4_l1
            have f4_0 : w7.cell? ⟨w6.heap.size + 1, 0, none⟩ = some (.int .i64 0) := (f4.cell 0).trans rfl
            have f4_1 : w7.cell? ⟨w6.heap.size + 1, 1, none⟩ = some (.int .i64 0) := (f4.cell 1).trans rfl
            clear hb7'
            go_wp2_with fail
            go_ret
            exact ⟨by simp, HBm7.out⟩
end Go.Proofs.YtfbbgnhelannjaaDoor
