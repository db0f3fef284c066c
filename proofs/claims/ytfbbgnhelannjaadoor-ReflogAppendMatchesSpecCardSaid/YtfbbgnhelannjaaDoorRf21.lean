/-
  RefsUpdateMatchesSpec, RefsUpdateInverse: the laws' walks.
-/
import Derived.Test.YtfbbgnhelannjaaDoorRf17
import Derived.Test.YtfbbgnhelannjaaDoorRf20
namespace Rf
theorem ok_names {s : List R} (h : Ok s) : ∀ x ∈ s, x.name.length ≤ 1000000000 := fun x hx => by
  have := h.name x hx; unfold nameOk at this; rw [Bool.and_eq_true] at this; have := this.1; simp at this; omega
end Rf
namespace Go.Proofs.YtfbbgnhelannjaaDoor
open Go.RowKit Go.V Go.Shelf Go.Lib
set_option linter.unusedVariables false

set_option maxRecDepth 100000 in
set_option maxHeartbeats 16000000 in
theorem law4_any (w : World) (hm : Mx w) (A : Option Addr) (k : Nat) (s : List Rf.R) (u : Rf.U) (hv : SA w Free A (rsV s)) (hl : s.length * 24 ≤ 140737488351232) (hk : s.length ≤ k) :
    Calls Tryd.prog 4 #[.agg #[.slice A s.length k], .agg #[strV u.name, .int .i64 u.old, .int .i64 u.new]] w fun e w' => e = .returned (.bool true) ∧ Below w.heap.size w w' := by
  have hM := Lib.hid hm
  have V0 := Lib.hid hv
  have HUF := Lib.hid (Rf.upF.eq_1 s u)
  have H18 := Lib.hid (fun (w1 : World) (hm : Mx w1) (hv : SA w1 Free A (rsV s)) => update_any w1 hm A k s u hv (by omega) hk)
  have H19 := Lib.hid (fun (w1 : World) (hv : SA w1 Free A (rsV s)) => refsFault_any w1 A k s hv (by omega))
  have H20 := Lib.hid (fun (hok : Rf.Ok s) (w1 : World) (hv : SA w1 Free A (rsV s)) => updateCode_any w1 A k s u hv (by omega) (Rf.ok_names hok))
  have H23 := Lib.hid (fun (hok : Rf.Ok s) (w1 : World) (hv : SA w1 Free A (rsV s)) => updateRefs_any w1 A k s u hv (by have := hok.len; omega))
  have HUR := Lib.hid (fun (hok : Rf.Ok s) => Rf.upR_eq hok.srt u)
  have HLU := Lib.hid (fun (hok : Rf.Ok s) => show (Rf.upS s u).length ≤ 9223372036854775807 from by
    have h1 := hok.lenU u
    have h2 := hok.len
    split at h1 <;> split at h1 <;> omega)
  clear hm hv
  obtain ⟨un, uo, uw⟩ := u
  simp only at *
  have HB0 := Lib.hid (Below.refl w.heap.size w)
  go_enter Tryd.func4, Tryd.ntmps4
  have bx := Blk.new w 26 #[.slice A s.length k]
  have HBa1 := Lib.hid (HB0.out.alloc HB0.out.size (.cells #[.slice A s.length k] 26))
  replace hM := Lib.hid (hM.out.below (below_alloc1 w (.cells #[.slice A s.length k] 26)))
  replace V0 := Lib.hid (V0.out.keep (Keeps.alloc w _ (.cells #[.slice A s.length k] 26)))
  replace bx := bx.alloc (.cells #[strV un, .int .i64 uo, .int .i64 uw] 28)
  have bu : Blk ((w.alloc (.cells #[.slice A s.length k] 26)).alloc (.cells #[strV un, .int .i64 uo, .int .i64 uw] 28)) (w.heap.size + 1) 28 #[strV un, .int .i64 uo, .int .i64 uw] := by simpa using Blk.new (w.alloc (.cells #[.slice A s.length k] 26)) 28 #[strV un, .int .i64 uo, .int .i64 uw]
  have HBa2 := Lib.hid (HBa1.out.alloc HBa1.out.size (.cells #[strV un, .int .i64 uo, .int .i64 uw] 28))
  replace hM := Lib.hid (hM.out.below (below_alloc1 (w.alloc (.cells #[.slice A s.length k] 26)) (.cells #[strV un, .int .i64 uo, .int .i64 uw] 28)))
  replace V0 := Lib.hid (V0.out.keep (Keeps.alloc (w.alloc (.cells #[.slice A s.length k] 26)) _ (.cells #[strV un, .int .i64 uo, .int .i64 uw] 28)))
  go_wp2_with fail
  go_at_call 15
  refine (example_any _ hM.out).mono ?_
  rintro e w1 ⟨rfl, hb1'⟩
  have HBm1 := Lib.hid (HBa2.out.trans (hb1'.mono HBa2.out.size))
  replace bx := bx.below hb1' bx.lt
  replace bu := bu.below hb1' bu.lt
  replace hM := Lib.hid (hM.out.below hb1')
  replace V0 := Lib.hid (V0.out.keep (free_below hb1'))
  have bx_l : w.heap.size < w1.heap.size := bx.lt
  have bx_l1 : w.heap.size < w1.heap.size + 1 := Nat.lt_succ_of_lt bx_l
  have bx_l2 : w.heap.size < w1.heap.size + 1 + 1 := Nat.lt_succ_of_lt bx_l1
  have bx_0 : w1.cell? ⟨w.heap.size, 0, none⟩ = some (.slice A s.length k) := (bx.cell 0).trans rfl
  have bu_l : w.heap.size + 1 < w1.heap.size := bu.lt
  have bu_l1 : w.heap.size + 1 < w1.heap.size + 1 := Nat.lt_succ_of_lt bu_l
  have bu_l2 : w.heap.size + 1 < w1.heap.size + 1 + 1 := Nat.lt_succ_of_lt bu_l1
  have bu_0 : w1.cell? ⟨w.heap.size + 1, 0, none⟩ = some (strV un) := (bu.cell 0).trans rfl
  have bu_1 : w1.cell? ⟨w.heap.size + 1, 1, none⟩ = some (.int .i64 uo) := (bu.cell 1).trans rfl
  have bu_2 : w1.cell? ⟨w.heap.size + 1, 2, none⟩ = some (.int .i64 uw) := (bu.cell 2).trans rfl
  clear hb1'
  by_cases hbad : (Rf.rfF s).1 ≠ 0
  · have HR := Lib.hid (HUF.out.trans (if_pos hbad))
    have hx1 : ((Rf.rfF s).1 == 0) = false := by simpa using hbad
    have hx2 : ((Rf.rfF s).1 != 0) = true := by simpa using hbad
    rw [HR.out] at H18
    clear hbad HUF HR H20 H23 HUR HLU
    generalize Rf.rfF s = q at *
    obtain ⟨cd, ix⟩ := q
    simp only at hx1 hx2
    go_wp2_with fail
    go_at_call 18
    refine (H18.out _ hM.out V0.out).mono ?_
    rintro e w2 ⟨Ax, cx, rfl, hcx, hsx, hb2'⟩
    have HBm2 := Lib.hid (HBm1.out.trans (hb2'.mono HBm1.out.size))
    replace bx := bx.below hb2' bx.lt
    replace bu := bu.below hb2' bu.lt
    replace hM := Lib.hid (hM.out.below hb2')
    replace V0 := Lib.hid (V0.out.keep (free_below hb2'))
    clear bx_l bx_l1 bx_l2 bx_0 bu_l bu_l1 bu_l2 bu_0 bu_1 bu_2
    have bx_l : w.heap.size < w2.heap.size := bx.lt
    have bx_l1 : w.heap.size < w2.heap.size + 1 := Nat.lt_succ_of_lt bx_l
    have bx_l2 : w.heap.size < w2.heap.size + 1 + 1 := Nat.lt_succ_of_lt bx_l1
    have bx_0 : w2.cell? ⟨w.heap.size, 0, none⟩ = some (.slice A s.length k) := (bx.cell 0).trans rfl
    have bu_l : w.heap.size + 1 < w2.heap.size := bu.lt
    have bu_l1 : w.heap.size + 1 < w2.heap.size + 1 := Nat.lt_succ_of_lt bu_l
    have bu_l2 : w.heap.size + 1 < w2.heap.size + 1 + 1 := Nat.lt_succ_of_lt bu_l1
    have bu_0 : w2.cell? ⟨w.heap.size + 1, 0, none⟩ = some (strV un) := (bu.cell 0).trans rfl
    have bu_1 : w2.cell? ⟨w.heap.size + 1, 1, none⟩ = some (.int .i64 uo) := (bu.cell 1).trans rfl
    have bu_2 : w2.cell? ⟨w.heap.size + 1, 2, none⟩ = some (.int .i64 uw) := (bu.cell 2).trans rfl
    have Vx := Lib.hid (hsx.mono (X' := Free) (fun _ h => h.elim))
    clear hsx
    clear hb2'
    replace bx := bx.alloc (.cells #[.slice Ax 0 cx] 26)
    replace bu := bu.alloc (.cells #[.slice Ax 0 cx] 26)
    have x := Blk.new w2 26 #[.slice Ax 0 cx]
    have HBa3 := Lib.hid (HBm2.out.alloc HBm2.out.size (.cells #[.slice Ax 0 cx] 26))
    replace hM := Lib.hid (hM.out.below (below_alloc1 w2 (.cells #[.slice Ax 0 cx] 26)))
    replace V0 := Lib.hid (V0.out.keep (Keeps.alloc w2 _ (.cells #[.slice Ax 0 cx] 26)))
    replace Vx := Lib.hid (Vx.out.keep (Keeps.alloc w2 _ (.cells #[.slice Ax 0 cx] 26)))
    replace bx := bx.alloc (.cells #[.int .i64 cd, .int .i64 ix] 30)
    replace bu := bu.alloc (.cells #[.int .i64 cd, .int .i64 ix] 30)
    replace x := x.alloc (.cells #[.int .i64 cd, .int .i64 ix] 30)
    have f : Blk ((w2.alloc (.cells #[.slice Ax 0 cx] 26)).alloc (.cells #[.int .i64 cd, .int .i64 ix] 30)) (w2.heap.size + 1) 30 #[.int .i64 cd, .int .i64 ix] := by simpa using Blk.new (w2.alloc (.cells #[.slice Ax 0 cx] 26)) 30 #[.int .i64 cd, .int .i64 ix]
    have HBa4 := Lib.hid (HBa3.out.alloc HBa3.out.size (.cells #[.int .i64 cd, .int .i64 ix] 30))
    replace hM := Lib.hid (hM.out.below (below_alloc1 (w2.alloc (.cells #[.slice Ax 0 cx] 26)) (.cells #[.int .i64 cd, .int .i64 ix] 30)))
    replace V0 := Lib.hid (V0.out.keep (Keeps.alloc (w2.alloc (.cells #[.slice Ax 0 cx] 26)) _ (.cells #[.int .i64 cd, .int .i64 ix] 30)))
    replace Vx := Lib.hid (Vx.out.keep (Keeps.alloc (w2.alloc (.cells #[.slice Ax 0 cx] 26)) _ (.cells #[.int .i64 cd, .int .i64 ix] 30)))
    go_wp2_with fail
    go_at_call 19
    refine (H19.out _ V0.out).mono ?_
    rintro e w3 ⟨rfl, hb3'⟩
    have HBm3 := Lib.hid (HBa4.out.trans (hb3'.mono HBa4.out.size))
    replace bx := bx.below hb3' bx.lt
    replace bu := bu.below hb3' bu.lt
    replace x := x.below hb3' x.lt
    replace f := f.below hb3' f.lt
    replace hM := Lib.hid (hM.out.below hb3')
    replace V0 := Lib.hid (V0.out.keep (free_below hb3'))
    replace Vx := Lib.hid (Vx.out.keep (free_below hb3'))
    clear bx_l bx_l1 bx_l2 bx_0 bu_l bu_l1 bu_l2 bu_0 bu_1 bu_2
    have bx_l : w.heap.size < w3.heap.size := bx.lt
    have bx_l1 : w.heap.size < w3.heap.size + 1 := Nat.lt_succ_of_lt bx_l
    have bx_l2 : w.heap.size < w3.heap.size + 1 + 1 := Nat.lt_succ_of_lt bx_l1
    have bx_0 : w3.cell? ⟨w.heap.size, 0, none⟩ = some (.slice A s.length k) := (bx.cell 0).trans rfl
    have bu_l : w.heap.size + 1 < w3.heap.size := bu.lt
    have bu_l1 : w.heap.size + 1 < w3.heap.size + 1 := Nat.lt_succ_of_lt bu_l
    have bu_l2 : w.heap.size + 1 < w3.heap.size + 1 + 1 := Nat.lt_succ_of_lt bu_l1
    have bu_0 : w3.cell? ⟨w.heap.size + 1, 0, none⟩ = some (strV un) := (bu.cell 0).trans rfl
    have bu_1 : w3.cell? ⟨w.heap.size + 1, 1, none⟩ = some (.int .i64 uo) := (bu.cell 1).trans rfl
    have bu_2 : w3.cell? ⟨w.heap.size + 1, 2, none⟩ = some (.int .i64 uw) := (bu.cell 2).trans rfl
    have x_l : w2.heap.size < w3.heap.size := x.lt
    have x_l1 : w2.heap.size < w3.heap.size + 1 := Nat.lt_succ_of_lt x_l
    have x_l2 : w2.heap.size < w3.heap.size + 1 + 1 := Nat.lt_succ_of_lt x_l1
    have x_0 : w3.cell? ⟨w2.heap.size, 0, none⟩ = some (.slice Ax 0 cx) := (x.cell 0).trans rfl
    have f_l : w2.heap.size + 1 < w3.heap.size := f.lt
    have f_l1 : w2.heap.size + 1 < w3.heap.size + 1 := Nat.lt_succ_of_lt f_l
    have f_l2 : w2.heap.size + 1 < w3.heap.size + 1 + 1 := Nat.lt_succ_of_lt f_l1
    have f_0 : w3.cell? ⟨w2.heap.size + 1, 0, none⟩ = some (.int .i64 cd) := (f.cell 0).trans rfl
    have f_1 : w3.cell? ⟨w2.heap.size + 1, 1, none⟩ = some (.int .i64 ix) := (f.cell 1).trans rfl
    clear hb3'
    replace bx := bx.alloc (.cells #[.int .i64 cd, .int .i64 ix] 30)
    replace bu := bu.alloc (.cells #[.int .i64 cd, .int .i64 ix] 30)
    replace x := x.alloc (.cells #[.int .i64 cd, .int .i64 ix] 30)
    replace f := f.alloc (.cells #[.int .i64 cd, .int .i64 ix] 30)
    have v := Blk.new w3 30 #[.int .i64 cd, .int .i64 ix]
    have HBa5 := Lib.hid (HBm3.out.alloc HBm3.out.size (.cells #[.int .i64 cd, .int .i64 ix] 30))
    replace hM := Lib.hid (hM.out.below (below_alloc1 w3 (.cells #[.int .i64 cd, .int .i64 ix] 30)))
    replace V0 := Lib.hid (V0.out.keep (Keeps.alloc w3 _ (.cells #[.int .i64 cd, .int .i64 ix] 30)))
    replace Vx := Lib.hid (Vx.out.keep (Keeps.alloc w3 _ (.cells #[.int .i64 cd, .int .i64 ix] 30)))
    have hcc : (cd == cd) = true := by simp
    have hii : (ix == ix) = true := by simp
    go_wp2_with fail
    go_ret
    exact ⟨rfl, HBa5.out⟩
  · obtain ⟨hz, hok⟩ := Rf.rfF_ok (by simpa using hbad)
    have HP2 := Lib.hid (HUF.out.trans (if_neg hbad))
    rw [hz] at H19
    have H20b := Lib.hid (fun w1 h => H20.out hok w1 h)
    have H23b := Lib.hid (fun w1 h => H23.out hok w1 h)
    have HU2 := Lib.hid (HUR.out hok)
    have HL2 := Lib.hid (HLU.out hok)
    clear hbad HUF hz hok H20 H23 HUR HLU
    by_cases hc : Rf.upC s ⟨un, uo, uw⟩ ≠ 0
    · have HR := Lib.hid (HP2.out.trans (if_pos hc))
      have hx1 : (Rf.upC s ⟨un, uo, uw⟩ == 0) = false := by simpa using hc
      have hx2 : (Rf.upC s ⟨un, uo, uw⟩ != 0) = true := by simpa using hc
      rw [HR.out] at H18
      clear hc HP2 HR H23b HU2 HL2
      generalize Rf.upC s ⟨un, uo, uw⟩ = cd at *
      go_wp2_with fail
      go_at_call 18
      refine (H18.out _ hM.out V0.out).mono ?_
      rintro e w2 ⟨Ax, cx, rfl, hcx, hsx, hb2'⟩
      have HBm2 := Lib.hid (HBm1.out.trans (hb2'.mono HBm1.out.size))
      replace bx := bx.below hb2' bx.lt
      replace bu := bu.below hb2' bu.lt
      replace hM := Lib.hid (hM.out.below hb2')
      replace V0 := Lib.hid (V0.out.keep (free_below hb2'))
      clear bx_l bx_l1 bx_l2 bx_0 bu_l bu_l1 bu_l2 bu_0 bu_1 bu_2
      have bx_l : w.heap.size < w2.heap.size := bx.lt
      have bx_l1 : w.heap.size < w2.heap.size + 1 := Nat.lt_succ_of_lt bx_l
      have bx_l2 : w.heap.size < w2.heap.size + 1 + 1 := Nat.lt_succ_of_lt bx_l1
      have bx_0 : w2.cell? ⟨w.heap.size, 0, none⟩ = some (.slice A s.length k) := (bx.cell 0).trans rfl
      have bu_l : w.heap.size + 1 < w2.heap.size := bu.lt
      have bu_l1 : w.heap.size + 1 < w2.heap.size + 1 := Nat.lt_succ_of_lt bu_l
      have bu_l2 : w.heap.size + 1 < w2.heap.size + 1 + 1 := Nat.lt_succ_of_lt bu_l1
      have bu_0 : w2.cell? ⟨w.heap.size + 1, 0, none⟩ = some (strV un) := (bu.cell 0).trans rfl
      have bu_1 : w2.cell? ⟨w.heap.size + 1, 1, none⟩ = some (.int .i64 uo) := (bu.cell 1).trans rfl
      have bu_2 : w2.cell? ⟨w.heap.size + 1, 2, none⟩ = some (.int .i64 uw) := (bu.cell 2).trans rfl
      have Vx := Lib.hid (hsx.mono (X' := Free) (fun _ h => h.elim))
      clear hsx
      clear hb2'
      replace bx := bx.alloc (.cells #[.slice Ax 0 cx] 26)
      replace bu := bu.alloc (.cells #[.slice Ax 0 cx] 26)
      have x := Blk.new w2 26 #[.slice Ax 0 cx]
      have HBa3 := Lib.hid (HBm2.out.alloc HBm2.out.size (.cells #[.slice Ax 0 cx] 26))
      replace hM := Lib.hid (hM.out.below (below_alloc1 w2 (.cells #[.slice Ax 0 cx] 26)))
      replace V0 := Lib.hid (V0.out.keep (Keeps.alloc w2 _ (.cells #[.slice Ax 0 cx] 26)))
      replace Vx := Lib.hid (Vx.out.keep (Keeps.alloc w2 _ (.cells #[.slice Ax 0 cx] 26)))
      replace bx := bx.alloc (.cells #[.int .i64 cd, .int .i64 (-1)] 30)
      replace bu := bu.alloc (.cells #[.int .i64 cd, .int .i64 (-1)] 30)
      replace x := x.alloc (.cells #[.int .i64 cd, .int .i64 (-1)] 30)
      have f : Blk ((w2.alloc (.cells #[.slice Ax 0 cx] 26)).alloc (.cells #[.int .i64 cd, .int .i64 (-1)] 30)) (w2.heap.size + 1) 30 #[.int .i64 cd, .int .i64 (-1)] := by simpa using Blk.new (w2.alloc (.cells #[.slice Ax 0 cx] 26)) 30 #[.int .i64 cd, .int .i64 (-1)]
      have HBa4 := Lib.hid (HBa3.out.alloc HBa3.out.size (.cells #[.int .i64 cd, .int .i64 (-1)] 30))
      replace hM := Lib.hid (hM.out.below (below_alloc1 (w2.alloc (.cells #[.slice Ax 0 cx] 26)) (.cells #[.int .i64 cd, .int .i64 (-1)] 30)))
      replace V0 := Lib.hid (V0.out.keep (Keeps.alloc (w2.alloc (.cells #[.slice Ax 0 cx] 26)) _ (.cells #[.int .i64 cd, .int .i64 (-1)] 30)))
      replace Vx := Lib.hid (Vx.out.keep (Keeps.alloc (w2.alloc (.cells #[.slice Ax 0 cx] 26)) _ (.cells #[.int .i64 cd, .int .i64 (-1)] 30)))
      go_wp2_with fail
      go_at_call 19
      refine (H19.out _ V0.out).mono ?_
      rintro e w3 ⟨rfl, hb3'⟩
      have HBm3 := Lib.hid (HBa4.out.trans (hb3'.mono HBa4.out.size))
      replace bx := bx.below hb3' bx.lt
      replace bu := bu.below hb3' bu.lt
      replace x := x.below hb3' x.lt
      replace f := f.below hb3' f.lt
      replace hM := Lib.hid (hM.out.below hb3')
      replace V0 := Lib.hid (V0.out.keep (free_below hb3'))
      replace Vx := Lib.hid (Vx.out.keep (free_below hb3'))
      clear bx_l bx_l1 bx_l2 bx_0 bu_l bu_l1 bu_l2 bu_0 bu_1 bu_2
      have bx_l : w.heap.size < w3.heap.size := bx.lt
      have bx_l1 : w.heap.size < w3.heap.size + 1 := Nat.lt_succ_of_lt bx_l
      have bx_l2 : w.heap.size < w3.heap.size + 1 + 1 := Nat.lt_succ_of_lt bx_l1
      have bx_0 : w3.cell? ⟨w.heap.size, 0, none⟩ = some (.slice A s.length k) := (bx.cell 0).trans rfl
      have bu_l : w.heap.size + 1 < w3.heap.size := bu.lt
      have bu_l1 : w.heap.size + 1 < w3.heap.size + 1 := Nat.lt_succ_of_lt bu_l
      have bu_l2 : w.heap.size + 1 < w3.heap.size + 1 + 1 := Nat.lt_succ_of_lt bu_l1
      have bu_0 : w3.cell? ⟨w.heap.size + 1, 0, none⟩ = some (strV un) := (bu.cell 0).trans rfl
      have bu_1 : w3.cell? ⟨w.heap.size + 1, 1, none⟩ = some (.int .i64 uo) := (bu.cell 1).trans rfl
      have bu_2 : w3.cell? ⟨w.heap.size + 1, 2, none⟩ = some (.int .i64 uw) := (bu.cell 2).trans rfl
      have x_l : w2.heap.size < w3.heap.size := x.lt
      have x_l1 : w2.heap.size < w3.heap.size + 1 := Nat.lt_succ_of_lt x_l
      have x_l2 : w2.heap.size < w3.heap.size + 1 + 1 := Nat.lt_succ_of_lt x_l1
      have x_0 : w3.cell? ⟨w2.heap.size, 0, none⟩ = some (.slice Ax 0 cx) := (x.cell 0).trans rfl
      have f_l : w2.heap.size + 1 < w3.heap.size := f.lt
      have f_l1 : w2.heap.size + 1 < w3.heap.size + 1 := Nat.lt_succ_of_lt f_l
      have f_l2 : w2.heap.size + 1 < w3.heap.size + 1 + 1 := Nat.lt_succ_of_lt f_l1
      have f_0 : w3.cell? ⟨w2.heap.size + 1, 0, none⟩ = some (.int .i64 cd) := (f.cell 0).trans rfl
      have f_1 : w3.cell? ⟨w2.heap.size + 1, 1, none⟩ = some (.int .i64 (-1)) := (f.cell 1).trans rfl
      clear hb3'
      replace bx := bx.alloc (.cells #[.int .i64 0, .int .i64 0] 30)
      replace bu := bu.alloc (.cells #[.int .i64 0, .int .i64 0] 30)
      have x_l0 := x.lt
      have f_l0 := f.lt
      replace x := x.alloc (.cells #[.int .i64 0, .int .i64 0] 30)
      replace f := f.alloc (.cells #[.int .i64 0, .int .i64 0] 30)
      have v := Blk.new w3 30 #[.int .i64 0, .int .i64 0]
      have HBa5 := Lib.hid (HBm3.out.alloc HBm3.out.size (.cells #[.int .i64 0, .int .i64 0] 30))
      replace hM := Lib.hid (hM.out.below (below_alloc1 w3 (.cells #[.int .i64 0, .int .i64 0] 30)))
      replace V0 := Lib.hid (V0.out.keep (Keeps.alloc w3 _ (.cells #[.int .i64 0, .int .i64 0] 30)))
      replace Vx := Lib.hid (Vx.out.keep (Keeps.alloc w3 _ (.cells #[.int .i64 0, .int .i64 0] 30)))
      have x_lv : w2.heap.size < w3.heap.size := x_l0
      have f_lv : w2.heap.size + 1 < w3.heap.size := f_l0
      go_wp2_with fail
      go_at_call 20
      refine (H20b.out _ V0.out).mono ?_
      rintro e w4 ⟨rfl, hb4'⟩
      have HBm4 := Lib.hid (HBa5.out.trans (hb4'.mono HBa5.out.size))
      replace bx := bx.below hb4' bx.lt
      replace bu := bu.below hb4' bu.lt
      replace x := x.below hb4' x.lt
      replace f := f.below hb4' f.lt
      replace v := v.below hb4' v.lt
      replace hM := Lib.hid (hM.out.below hb4')
      replace V0 := Lib.hid (V0.out.keep (free_below hb4'))
      replace Vx := Lib.hid (Vx.out.keep (free_below hb4'))
      clear bx_l bx_l1 bx_l2 bx_0 bu_l bu_l1 bu_l2 bu_0 bu_1 bu_2 x_l x_l1 x_l2 x_0 f_l f_l1 f_l2 f_0 f_1
      have bx_l : w.heap.size < w4.heap.size := bx.lt
      have bx_l1 : w.heap.size < w4.heap.size + 1 := Nat.lt_succ_of_lt bx_l
      have bx_l2 : w.heap.size < w4.heap.size + 1 + 1 := Nat.lt_succ_of_lt bx_l1
      have bx_0 : w4.cell? ⟨w.heap.size, 0, none⟩ = some (.slice A s.length k) := (bx.cell 0).trans rfl
      have bu_l : w.heap.size + 1 < w4.heap.size := bu.lt
      have bu_l1 : w.heap.size + 1 < w4.heap.size + 1 := Nat.lt_succ_of_lt bu_l
      have bu_l2 : w.heap.size + 1 < w4.heap.size + 1 + 1 := Nat.lt_succ_of_lt bu_l1
      have bu_0 : w4.cell? ⟨w.heap.size + 1, 0, none⟩ = some (strV un) := (bu.cell 0).trans rfl
      have bu_1 : w4.cell? ⟨w.heap.size + 1, 1, none⟩ = some (.int .i64 uo) := (bu.cell 1).trans rfl
      have bu_2 : w4.cell? ⟨w.heap.size + 1, 2, none⟩ = some (.int .i64 uw) := (bu.cell 2).trans rfl
      have x_l : w2.heap.size < w4.heap.size := x.lt
      have x_l1 : w2.heap.size < w4.heap.size + 1 := Nat.lt_succ_of_lt x_l
      have x_l2 : w2.heap.size < w4.heap.size + 1 + 1 := Nat.lt_succ_of_lt x_l1
      have x_0 : w4.cell? ⟨w2.heap.size, 0, none⟩ = some (.slice Ax 0 cx) := (x.cell 0).trans rfl
      have f_l : w2.heap.size + 1 < w4.heap.size := f.lt
      have f_l1 : w2.heap.size + 1 < w4.heap.size + 1 := Nat.lt_succ_of_lt f_l
      have f_l2 : w2.heap.size + 1 < w4.heap.size + 1 + 1 := Nat.lt_succ_of_lt f_l1
      have f_0 : w4.cell? ⟨w2.heap.size + 1, 0, none⟩ = some (.int .i64 cd) := (f.cell 0).trans rfl
      have f_1 : w4.cell? ⟨w2.heap.size + 1, 1, none⟩ = some (.int .i64 (-1)) := (f.cell 1).trans rfl
      have v_l : w3.heap.size < w4.heap.size := v.lt
      have v_l1 : w3.heap.size < w4.heap.size + 1 := Nat.lt_succ_of_lt v_l
      have v_l2 : w3.heap.size < w4.heap.size + 1 + 1 := Nat.lt_succ_of_lt v_l1
      have v_0 : w4.cell? ⟨w3.heap.size, 0, none⟩ = some (.int .i64 0) := (v.cell 0).trans rfl
      have v_f0 : w4.frozen? ⟨w3.heap.size, 0, none⟩ = false := v.frozen 0
      have v_1 : w4.cell? ⟨w3.heap.size, 1, none⟩ = some (.int .i64 0) := (v.cell 1).trans rfl
      have v_f1 : w4.frozen? ⟨w3.heap.size, 1, none⟩ = false := v.frozen 1
      clear hb4'
      go_wp2_with fail
      go_at_call 20
      refine (H20b.out _ V0.out).mono ?_
      rintro e w5 ⟨rfl, hb5'⟩
      have HBm5 := Lib.hid (HBm4.out.trans (hb5'.mono HBm4.out.size))
      replace bx := bx.below hb5' bx.lt
      replace bu := bu.below hb5' bu.lt
      replace x := x.below hb5' x.lt
      replace f := f.below hb5' f.lt
      replace v := v.below hb5' v.lt
      replace hM := Lib.hid (hM.out.below hb5')
      replace V0 := Lib.hid (V0.out.keep (free_below hb5'))
      replace Vx := Lib.hid (Vx.out.keep (free_below hb5'))
      clear bx_l bx_l1 bx_l2 bx_0 bu_l bu_l1 bu_l2 bu_0 bu_1 bu_2 x_l x_l1 x_l2 x_0 f_l f_l1 f_l2 f_0 f_1 v_l v_l1 v_l2 v_0 v_f0 v_1 v_f1
      have bx_l : w.heap.size < w5.heap.size := bx.lt
      have bx_l1 : w.heap.size < w5.heap.size + 1 := Nat.lt_succ_of_lt bx_l
      have bx_l2 : w.heap.size < w5.heap.size + 1 + 1 := Nat.lt_succ_of_lt bx_l1
      have bx_0 : w5.cell? ⟨w.heap.size, 0, none⟩ = some (.slice A s.length k) := (bx.cell 0).trans rfl
      have bu_l : w.heap.size + 1 < w5.heap.size := bu.lt
      have bu_l1 : w.heap.size + 1 < w5.heap.size + 1 := Nat.lt_succ_of_lt bu_l
      have bu_l2 : w.heap.size + 1 < w5.heap.size + 1 + 1 := Nat.lt_succ_of_lt bu_l1
      have bu_0 : w5.cell? ⟨w.heap.size + 1, 0, none⟩ = some (strV un) := (bu.cell 0).trans rfl
      have bu_1 : w5.cell? ⟨w.heap.size + 1, 1, none⟩ = some (.int .i64 uo) := (bu.cell 1).trans rfl
      have bu_2 : w5.cell? ⟨w.heap.size + 1, 2, none⟩ = some (.int .i64 uw) := (bu.cell 2).trans rfl
      have x_l : w2.heap.size < w5.heap.size := x.lt
      have x_l1 : w2.heap.size < w5.heap.size + 1 := Nat.lt_succ_of_lt x_l
      have x_l2 : w2.heap.size < w5.heap.size + 1 + 1 := Nat.lt_succ_of_lt x_l1
      have x_0 : w5.cell? ⟨w2.heap.size, 0, none⟩ = some (.slice Ax 0 cx) := (x.cell 0).trans rfl
      have f_l : w2.heap.size + 1 < w5.heap.size := f.lt
      have f_l1 : w2.heap.size + 1 < w5.heap.size + 1 := Nat.lt_succ_of_lt f_l
      have f_l2 : w2.heap.size + 1 < w5.heap.size + 1 + 1 := Nat.lt_succ_of_lt f_l1
      have f_0 : w5.cell? ⟨w2.heap.size + 1, 0, none⟩ = some (.int .i64 cd) := (f.cell 0).trans rfl
      have f_1 : w5.cell? ⟨w2.heap.size + 1, 1, none⟩ = some (.int .i64 (-1)) := (f.cell 1).trans rfl
      have v_l : w3.heap.size < w5.heap.size := v.lt
      have v_l1 : w3.heap.size < w5.heap.size + 1 := Nat.lt_succ_of_lt v_l
      have v_l2 : w3.heap.size < w5.heap.size + 1 + 1 := Nat.lt_succ_of_lt v_l1
      have v_0 : w5.cell? ⟨w3.heap.size, 0, none⟩ = some (.int .i64 0) := (v.cell 0).trans rfl
      have v_f0 : w5.frozen? ⟨w3.heap.size, 0, none⟩ = false := v.frozen 0
      have v_1 : w5.cell? ⟨w3.heap.size, 1, none⟩ = some (.int .i64 0) := (v.cell 1).trans rfl
      have v_f1 : w5.frozen? ⟨w3.heap.size, 1, none⟩ = false := v.frozen 1
      clear hb5'
      go_wp2_with fail
      go_at_call 21
      refine (fault_b _ _ _).mono ?_
      rintro e w6 ⟨rfl, hb6'⟩
      have HBm6 := Lib.hid (HBm5.out.trans (hb6'.mono HBm5.out.size))
      replace bx := bx.below hb6' bx.lt
      replace bu := bu.below hb6' bu.lt
      replace x := x.below hb6' x.lt
      replace f := f.below hb6' f.lt
      replace v := v.below hb6' v.lt
      replace hM := Lib.hid (hM.out.below hb6')
      replace V0 := Lib.hid (V0.out.keep (free_below hb6'))
      replace Vx := Lib.hid (Vx.out.keep (free_below hb6'))
      clear bx_l bx_l1 bx_l2 bx_0 bu_l bu_l1 bu_l2 bu_0 bu_1 bu_2 x_l x_l1 x_l2 x_0 f_l f_l1 f_l2 f_0 f_1 v_l v_l1 v_l2 v_0 v_f0 v_1 v_f1
      have bx_l : w.heap.size < w6.heap.size := bx.lt
      have bx_l1 : w.heap.size < w6.heap.size + 1 := Nat.lt_succ_of_lt bx_l
      have bx_l2 : w.heap.size < w6.heap.size + 1 + 1 := Nat.lt_succ_of_lt bx_l1
      have bx_0 : w6.cell? ⟨w.heap.size, 0, none⟩ = some (.slice A s.length k) := (bx.cell 0).trans rfl
      have bu_l : w.heap.size + 1 < w6.heap.size := bu.lt
      have bu_l1 : w.heap.size + 1 < w6.heap.size + 1 := Nat.lt_succ_of_lt bu_l
      have bu_l2 : w.heap.size + 1 < w6.heap.size + 1 + 1 := Nat.lt_succ_of_lt bu_l1
      have bu_0 : w6.cell? ⟨w.heap.size + 1, 0, none⟩ = some (strV un) := (bu.cell 0).trans rfl
      have bu_1 : w6.cell? ⟨w.heap.size + 1, 1, none⟩ = some (.int .i64 uo) := (bu.cell 1).trans rfl
      have bu_2 : w6.cell? ⟨w.heap.size + 1, 2, none⟩ = some (.int .i64 uw) := (bu.cell 2).trans rfl
      have x_l : w2.heap.size < w6.heap.size := x.lt
      have x_l1 : w2.heap.size < w6.heap.size + 1 := Nat.lt_succ_of_lt x_l
      have x_l2 : w2.heap.size < w6.heap.size + 1 + 1 := Nat.lt_succ_of_lt x_l1
      have x_0 : w6.cell? ⟨w2.heap.size, 0, none⟩ = some (.slice Ax 0 cx) := (x.cell 0).trans rfl
      have f_l : w2.heap.size + 1 < w6.heap.size := f.lt
      have f_l1 : w2.heap.size + 1 < w6.heap.size + 1 := Nat.lt_succ_of_lt f_l
      have f_l2 : w2.heap.size + 1 < w6.heap.size + 1 + 1 := Nat.lt_succ_of_lt f_l1
      have f_0 : w6.cell? ⟨w2.heap.size + 1, 0, none⟩ = some (.int .i64 cd) := (f.cell 0).trans rfl
      have f_1 : w6.cell? ⟨w2.heap.size + 1, 1, none⟩ = some (.int .i64 (-1)) := (f.cell 1).trans rfl
      have v_l : w3.heap.size < w6.heap.size := v.lt
      have v_l1 : w3.heap.size < w6.heap.size + 1 := Nat.lt_succ_of_lt v_l
      have v_l2 : w3.heap.size < w6.heap.size + 1 + 1 := Nat.lt_succ_of_lt v_l1
      have v_0 : w6.cell? ⟨w3.heap.size, 0, none⟩ = some (.int .i64 0) := (v.cell 0).trans rfl
      have v_f0 : w6.frozen? ⟨w3.heap.size, 0, none⟩ = false := v.frozen 0
      have v_1 : w6.cell? ⟨w3.heap.size, 1, none⟩ = some (.int .i64 0) := (v.cell 1).trans rfl
      have v_f1 : w6.frozen? ⟨w3.heap.size, 1, none⟩ = false := v.frozen 1
      clear hb6'
      have hvl : w.heap.size ≤ w3.heap.size := by have := HBm3.out.size; omega
      have HBv := Lib.hid ((HBm6.out.setCell (p := ⟨w3.heap.size, 0, none⟩) hvl (.int .i64 cd)).setCell (p := ⟨w3.heap.size, 1, none⟩) hvl (.int .i64 (-1)))
      have hcc : (cd == cd) = true := by simp
      have n1 : ¬ (w2.heap.size = w3.heap.size) := Nat.ne_of_lt (by have := x_lv; omega)
      have n2 : ¬ (w2.heap.size + 1 = w3.heap.size) := Nat.ne_of_lt (by have := f_lv; omega)
      go_wp2_with fail
      go_ret
      exact ⟨rfl, HBv.out⟩
    · have hc0 : Rf.upC s ⟨un, uo, uw⟩ = 0 := by simpa using hc
      have HR := Lib.hid (HP2.out.trans (if_neg hc))
      rw [HR.out] at H18
      rw [hc0] at H20b
      rw [HU2.out] at H23b
      clear hc hc0 HP2 HR HU2
      have HL3 := HL2.out
      clear HL2
      generalize Rf.upS s ⟨un, uo, uw⟩ = us at *
      go_wp2_with fail
      go_at_call 18
      refine (H18.out _ hM.out V0.out).mono ?_
      rintro e w2 ⟨Ax, cx, rfl, hcx, hsx, hb2'⟩
      have HBm2 := Lib.hid (HBm1.out.trans (hb2'.mono HBm1.out.size))
      replace bx := bx.below hb2' bx.lt
      replace bu := bu.below hb2' bu.lt
      replace hM := Lib.hid (hM.out.below hb2')
      replace V0 := Lib.hid (V0.out.keep (free_below hb2'))
      clear bx_l bx_l1 bx_l2 bx_0 bu_l bu_l1 bu_l2 bu_0 bu_1 bu_2
      have bx_l : w.heap.size < w2.heap.size := bx.lt
      have bx_l1 : w.heap.size < w2.heap.size + 1 := Nat.lt_succ_of_lt bx_l
      have bx_l2 : w.heap.size < w2.heap.size + 1 + 1 := Nat.lt_succ_of_lt bx_l1
      have bx_0 : w2.cell? ⟨w.heap.size, 0, none⟩ = some (.slice A s.length k) := (bx.cell 0).trans rfl
      have bu_l : w.heap.size + 1 < w2.heap.size := bu.lt
      have bu_l1 : w.heap.size + 1 < w2.heap.size + 1 := Nat.lt_succ_of_lt bu_l
      have bu_l2 : w.heap.size + 1 < w2.heap.size + 1 + 1 := Nat.lt_succ_of_lt bu_l1
      have bu_0 : w2.cell? ⟨w.heap.size + 1, 0, none⟩ = some (strV un) := (bu.cell 0).trans rfl
      have bu_1 : w2.cell? ⟨w.heap.size + 1, 1, none⟩ = some (.int .i64 uo) := (bu.cell 1).trans rfl
      have bu_2 : w2.cell? ⟨w.heap.size + 1, 2, none⟩ = some (.int .i64 uw) := (bu.cell 2).trans rfl
      have Vx := Lib.hid (hsx.mono (X' := Free) (fun _ h => h.elim))
      clear hsx
      clear hb2'
      replace bx := bx.alloc (.cells #[.slice Ax us.length cx] 26)
      replace bu := bu.alloc (.cells #[.slice Ax us.length cx] 26)
      have x := Blk.new w2 26 #[.slice Ax us.length cx]
      have HBa3 := Lib.hid (HBm2.out.alloc HBm2.out.size (.cells #[.slice Ax us.length cx] 26))
      replace hM := Lib.hid (hM.out.below (below_alloc1 w2 (.cells #[.slice Ax us.length cx] 26)))
      replace V0 := Lib.hid (V0.out.keep (Keeps.alloc w2 _ (.cells #[.slice Ax us.length cx] 26)))
      replace Vx := Lib.hid (Vx.out.keep (Keeps.alloc w2 _ (.cells #[.slice Ax us.length cx] 26)))
      replace bx := bx.alloc (.cells #[.int .i64 0, .int .i64 0] 30)
      replace bu := bu.alloc (.cells #[.int .i64 0, .int .i64 0] 30)
      replace x := x.alloc (.cells #[.int .i64 0, .int .i64 0] 30)
      have f : Blk ((w2.alloc (.cells #[.slice Ax us.length cx] 26)).alloc (.cells #[.int .i64 0, .int .i64 0] 30)) (w2.heap.size + 1) 30 #[.int .i64 0, .int .i64 0] := by simpa using Blk.new (w2.alloc (.cells #[.slice Ax us.length cx] 26)) 30 #[.int .i64 0, .int .i64 0]
      have HBa4 := Lib.hid (HBa3.out.alloc HBa3.out.size (.cells #[.int .i64 0, .int .i64 0] 30))
      replace hM := Lib.hid (hM.out.below (below_alloc1 (w2.alloc (.cells #[.slice Ax us.length cx] 26)) (.cells #[.int .i64 0, .int .i64 0] 30)))
      replace V0 := Lib.hid (V0.out.keep (Keeps.alloc (w2.alloc (.cells #[.slice Ax us.length cx] 26)) _ (.cells #[.int .i64 0, .int .i64 0] 30)))
      replace Vx := Lib.hid (Vx.out.keep (Keeps.alloc (w2.alloc (.cells #[.slice Ax us.length cx] 26)) _ (.cells #[.int .i64 0, .int .i64 0] 30)))
      go_wp2_with fail
      go_at_call 19
      refine (H19.out _ V0.out).mono ?_
      rintro e w3 ⟨rfl, hb3'⟩
      have HBm3 := Lib.hid (HBa4.out.trans (hb3'.mono HBa4.out.size))
      replace bx := bx.below hb3' bx.lt
      replace bu := bu.below hb3' bu.lt
      replace x := x.below hb3' x.lt
      replace f := f.below hb3' f.lt
      replace hM := Lib.hid (hM.out.below hb3')
      replace V0 := Lib.hid (V0.out.keep (free_below hb3'))
      replace Vx := Lib.hid (Vx.out.keep (free_below hb3'))
      clear bx_l bx_l1 bx_l2 bx_0 bu_l bu_l1 bu_l2 bu_0 bu_1 bu_2
      have bx_l : w.heap.size < w3.heap.size := bx.lt
      have bx_l1 : w.heap.size < w3.heap.size + 1 := Nat.lt_succ_of_lt bx_l
      have bx_l2 : w.heap.size < w3.heap.size + 1 + 1 := Nat.lt_succ_of_lt bx_l1
      have bx_0 : w3.cell? ⟨w.heap.size, 0, none⟩ = some (.slice A s.length k) := (bx.cell 0).trans rfl
      have bu_l : w.heap.size + 1 < w3.heap.size := bu.lt
      have bu_l1 : w.heap.size + 1 < w3.heap.size + 1 := Nat.lt_succ_of_lt bu_l
      have bu_l2 : w.heap.size + 1 < w3.heap.size + 1 + 1 := Nat.lt_succ_of_lt bu_l1
      have bu_0 : w3.cell? ⟨w.heap.size + 1, 0, none⟩ = some (strV un) := (bu.cell 0).trans rfl
      have bu_1 : w3.cell? ⟨w.heap.size + 1, 1, none⟩ = some (.int .i64 uo) := (bu.cell 1).trans rfl
      have bu_2 : w3.cell? ⟨w.heap.size + 1, 2, none⟩ = some (.int .i64 uw) := (bu.cell 2).trans rfl
      have x_l : w2.heap.size < w3.heap.size := x.lt
      have x_l1 : w2.heap.size < w3.heap.size + 1 := Nat.lt_succ_of_lt x_l
      have x_l2 : w2.heap.size < w3.heap.size + 1 + 1 := Nat.lt_succ_of_lt x_l1
      have x_0 : w3.cell? ⟨w2.heap.size, 0, none⟩ = some (.slice Ax us.length cx) := (x.cell 0).trans rfl
      have f_l : w2.heap.size + 1 < w3.heap.size := f.lt
      have f_l1 : w2.heap.size + 1 < w3.heap.size + 1 := Nat.lt_succ_of_lt f_l
      have f_l2 : w2.heap.size + 1 < w3.heap.size + 1 + 1 := Nat.lt_succ_of_lt f_l1
      have f_0 : w3.cell? ⟨w2.heap.size + 1, 0, none⟩ = some (.int .i64 0) := (f.cell 0).trans rfl
      have f_1 : w3.cell? ⟨w2.heap.size + 1, 1, none⟩ = some (.int .i64 0) := (f.cell 1).trans rfl
      clear hb3'
      replace bx := bx.alloc (.cells #[.int .i64 0, .int .i64 0] 30)
      replace bu := bu.alloc (.cells #[.int .i64 0, .int .i64 0] 30)
      replace x := x.alloc (.cells #[.int .i64 0, .int .i64 0] 30)
      replace f := f.alloc (.cells #[.int .i64 0, .int .i64 0] 30)
      have v := Blk.new w3 30 #[.int .i64 0, .int .i64 0]
      have HBa5 := Lib.hid (HBm3.out.alloc HBm3.out.size (.cells #[.int .i64 0, .int .i64 0] 30))
      replace hM := Lib.hid (hM.out.below (below_alloc1 w3 (.cells #[.int .i64 0, .int .i64 0] 30)))
      replace V0 := Lib.hid (V0.out.keep (Keeps.alloc w3 _ (.cells #[.int .i64 0, .int .i64 0] 30)))
      replace Vx := Lib.hid (Vx.out.keep (Keeps.alloc w3 _ (.cells #[.int .i64 0, .int .i64 0] 30)))
      go_wp2_with fail
      go_at_call 20
      refine (H20b.out _ V0.out).mono ?_
      rintro e w4 ⟨rfl, hb4'⟩
      have HBm4 := Lib.hid (HBa5.out.trans (hb4'.mono HBa5.out.size))
      replace bx := bx.below hb4' bx.lt
      replace bu := bu.below hb4' bu.lt
      replace x := x.below hb4' x.lt
      replace f := f.below hb4' f.lt
      replace v := v.below hb4' v.lt
      replace hM := Lib.hid (hM.out.below hb4')
      replace V0 := Lib.hid (V0.out.keep (free_below hb4'))
      replace Vx := Lib.hid (Vx.out.keep (free_below hb4'))
      clear bx_l bx_l1 bx_l2 bx_0 bu_l bu_l1 bu_l2 bu_0 bu_1 bu_2 x_l x_l1 x_l2 x_0 f_l f_l1 f_l2 f_0 f_1
      have bx_l : w.heap.size < w4.heap.size := bx.lt
      have bx_l1 : w.heap.size < w4.heap.size + 1 := Nat.lt_succ_of_lt bx_l
      have bx_l2 : w.heap.size < w4.heap.size + 1 + 1 := Nat.lt_succ_of_lt bx_l1
      have bx_0 : w4.cell? ⟨w.heap.size, 0, none⟩ = some (.slice A s.length k) := (bx.cell 0).trans rfl
      have bu_l : w.heap.size + 1 < w4.heap.size := bu.lt
      have bu_l1 : w.heap.size + 1 < w4.heap.size + 1 := Nat.lt_succ_of_lt bu_l
      have bu_l2 : w.heap.size + 1 < w4.heap.size + 1 + 1 := Nat.lt_succ_of_lt bu_l1
      have bu_0 : w4.cell? ⟨w.heap.size + 1, 0, none⟩ = some (strV un) := (bu.cell 0).trans rfl
      have bu_1 : w4.cell? ⟨w.heap.size + 1, 1, none⟩ = some (.int .i64 uo) := (bu.cell 1).trans rfl
      have bu_2 : w4.cell? ⟨w.heap.size + 1, 2, none⟩ = some (.int .i64 uw) := (bu.cell 2).trans rfl
      have x_l : w2.heap.size < w4.heap.size := x.lt
      have x_l1 : w2.heap.size < w4.heap.size + 1 := Nat.lt_succ_of_lt x_l
      have x_l2 : w2.heap.size < w4.heap.size + 1 + 1 := Nat.lt_succ_of_lt x_l1
      have x_0 : w4.cell? ⟨w2.heap.size, 0, none⟩ = some (.slice Ax us.length cx) := (x.cell 0).trans rfl
      have f_l : w2.heap.size + 1 < w4.heap.size := f.lt
      have f_l1 : w2.heap.size + 1 < w4.heap.size + 1 := Nat.lt_succ_of_lt f_l
      have f_l2 : w2.heap.size + 1 < w4.heap.size + 1 + 1 := Nat.lt_succ_of_lt f_l1
      have f_0 : w4.cell? ⟨w2.heap.size + 1, 0, none⟩ = some (.int .i64 0) := (f.cell 0).trans rfl
      have f_1 : w4.cell? ⟨w2.heap.size + 1, 1, none⟩ = some (.int .i64 0) := (f.cell 1).trans rfl
      have v_l : w3.heap.size < w4.heap.size := v.lt
      have v_l1 : w3.heap.size < w4.heap.size + 1 := Nat.lt_succ_of_lt v_l
      have v_l2 : w3.heap.size < w4.heap.size + 1 + 1 := Nat.lt_succ_of_lt v_l1
      have v_0 : w4.cell? ⟨w3.heap.size, 0, none⟩ = some (.int .i64 0) := (v.cell 0).trans rfl
      have v_1 : w4.cell? ⟨w3.heap.size, 1, none⟩ = some (.int .i64 0) := (v.cell 1).trans rfl
      clear hb4'
      have hk0 : Below w4.heap.size w4 w4.drew := below_drew' (Below.refl _ _)
      have HK : Hid (∀ w6 : World, Below w4.heap.size w4 w6 → w6.cell? ⟨w.heap.size, 0, none⟩ = some (.slice A s.length k) ∧ w6.cell? ⟨w.heap.size + 1, 0, none⟩ = some (strV un) ∧ w6.cell? ⟨w.heap.size + 1, 1, none⟩ = some (.int .i64 uo) ∧ w6.cell? ⟨w.heap.size + 1, 2, none⟩ = some (.int .i64 uw) ∧ w6.cell? ⟨w2.heap.size, 0, none⟩ = some (.slice Ax us.length cx) ∧ w6.cell? ⟨w2.heap.size + 1, 0, none⟩ = some (.int .i64 0) ∧ w6.cell? ⟨w2.heap.size + 1, 1, none⟩ = some (.int .i64 0)) := Lib.hid fun w6 h6 => ⟨(h6.cell (p := ⟨_, _, none⟩) bx_l).trans bx_0, (h6.cell (p := ⟨_, _, none⟩) bu_l).trans bu_0, (h6.cell (p := ⟨_, _, none⟩) bu_l).trans bu_1, (h6.cell (p := ⟨_, _, none⟩) bu_l).trans bu_2, (h6.cell (p := ⟨_, _, none⟩) x_l).trans x_0, (h6.cell (p := ⟨_, _, none⟩) f_l).trans f_0, (h6.cell (p := ⟨_, _, none⟩) f_l).trans f_1⟩
      have HA23 := Lib.hid (fun (w6 : World) (h6 : Below w4.heap.size w4 w6) => H23b.out w6 (V0.out.keep (free_below h6)))
      have HVx := Lib.hid (fun (w6 : World) (h6 : Below w4.heap.size w4 w6) => Vx.out.keep (free_below h6))
      go_wp2_with fail
      go_region_held3 (fun w6 => w6.cell? ⟨w.heap.size, 0, none⟩ = some (.slice A s.length k) ∧ w6.cell? ⟨w.heap.size + 1, 0, none⟩ = some (strV un) ∧ w6.cell? ⟨w.heap.size + 1, 1, none⟩ = some (.int .i64 uo) ∧ w6.cell? ⟨w.heap.size + 1, 2, none⟩ = some (.int .i64 uw) ∧ w6.cell? ⟨w2.heap.size, 0, none⟩ = some (.slice Ax us.length cx) ∧ w6.cell? ⟨w2.heap.size + 1, 0, none⟩ = some (.int .i64 0) ∧ w6.cell? ⟨w2.heap.size + 1, 1, none⟩ = some (.int .i64 0))
        (first | exact HK.out _ hk0 | exact HK.out _ hk1 | exact HK.out _ hk2)
        (first | (go_at_call 23; (with_reducible refine (HA23.out _ hk0).mono ?_); rintro e v1 ⟨A5, c5, rfl, hown5, hv1⟩; have hk1 : Below w4.heap.size w4 v1 := hk0.trans (hv1.mono hk0.size); have hs5 := SA.of_own' (X := Free) hown5 (fun _ _ h => h)) | (go_at_call 22; (with_reducible refine (refStores_any _ _ _ _ _ us us (HVx.out _ hk1) hs5 HL3 HL3).mono ?_); rintro e v2 ⟨rfl, hv2⟩; have hk2 : Below w4.heap.size w4 v2 := hk1.trans (hv2.mono hk1.size)))
      have hbf := HBm4.out.trans (hk2.mono HBm4.out.size)
      go_wp2_with fail
      go_ret
      exact ⟨by simp, hbf⟩
end Go.Proofs.YtfbbgnhelannjaaDoor
