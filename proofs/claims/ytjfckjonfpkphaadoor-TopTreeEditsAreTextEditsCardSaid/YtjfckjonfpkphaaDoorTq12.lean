/-
  Editing a file of a tree: walk of 'h11Works'.
-/
import Derived.Test.YtjfckjonfpkphaaDoorTq11
namespace Go.Proofs.YtjfckjonfpkphaaDoor
open Go.RowKit Go.V Go.Shelf
set_option linter.unusedVariables false

theorem exP_ok : Tr.LnOk [[97]] := ⟨by decide, by decide⟩
theorem ex_ed : ed Tr.exT 0 [[98]] = [⟨[120], [[98]]⟩] := rfl
set_option maxRecDepth 100000 in
set_option maxHeartbeats 16000000 in
theorem works_any (w : World) (hm : Mx w) : Calls Tryd.prog 5 #[] w fun e w' => e = .returned (.bool true) ∧ Below w.heap.size w w' := by
  have hM := Lib.hid hm
  have H6 := Lib.hid (fun (w1 : World) (A : Option Addr) (B : Option Addr) (hv : HvV w1 Free A Tp.exP) (ht : SA w1 Free B (ssV [[97]])) => (show Calls Tryd.prog 6 #[.agg #[.slice A 1 1], .slice B 1 1] w1 (ApPost w1 ([[98]], (0, 0))) from by
    have h := apply_any w1 A 1 Tp.exP hv (by decide) (by decide) B 1 [[97]] ht exP_ok (by decide)
    rw [Tp.exP_a] at h
    exact h))
  have H8 := Lib.hid (fun (w1 : World) (A : Option Addr) => edit_any w1 [120] A 1 1)
  have H7 := Lib.hid (fun (w1 : World) (hm : Mx w1) (A : Option Addr) (B : Option Addr) (cb : Nat) (hv : HvV w1 Free A Tp.exP) (hB : Blk w1 cb 58 (chC [120] A 1 1)) (ht : VfV w1 Free B Tr.exT) => (show Calls Tryd.prog 7 #[.agg #[.slice (some ⟨cb, 0, none⟩) 1 1], .agg #[.slice B 1 1]] w1 (TaPost w1 Tr.exT 0 ([[98]], (0, 0))) from by
    have h := tapply_any w1 hm [120] A 1 Tp.exP hv (by decide) (by decide) (by decide) cb hB B 1 Tr.exT ht (by decide) Tr.exT_v 0 (by decide) rfl
    rw [show (Tr.it Tr.exT 0).lines = [[97]] from rfl, Tp.exP_a] at h
    exact h))
  have H9 := Lib.hid (fun (w1 : World) (B1 B2 : Option Addr) (k1 k2 : Nat) (g1 : SA w1 Free B1 (ssV [[98]])) (g2 : SA w1 Free B2 (ssV [[98]])) => (show Calls Tryd.prog 9 #[.slice B1 1 k1, .slice B2 1 k2] w1 fun e w' => e = .returned (.bool true) ∧ Below w1.heap.size w1 w' from by
    have h := strings_any w1 B1 B2 k1 k2 [[98]] [[98]] g1 g2 (by decide) (by decide)
    rw [decide_eq_true rfl] at h
    exact h.mono fun e w' ⟨h, n, hn⟩ => ⟨h, by rw [hn]; exact below_drewN (Below.refl _ _) n⟩))
  have H13 := Lib.hid (fun (w1 : World) (A1 A2 : Option Addr) (c1 c2 : Nat) (h1 : VfV w1 Free A1 (ed Tr.exT 0 [[98]])) (h2 : VfV w1 Free A2 [⟨[120], [[98]]⟩]) => (show Calls Tryd.prog 13 #[.agg #[.slice A1 1 c1], .agg #[.slice A2 1 c2]] w1 fun e w' => e = .returned (.bool true) ∧ Below w1.heap.size w1 w' from
    treeEq_any w1 A1 A2 c1 c2 [⟨[120], [[98]]⟩] h1 h2 (by decide)))
  clear hm
  have HB0 := Lib.hid (Below.refl w.heap.size w)
  go_enter Tryd.func5, Tryd.ntmps5
  have b6 := Blk.new w 9 #[strV [97]]
  have HBa1 := Lib.hid (HB0.out.alloc HB0.out.size (.cells #[strV [97]] 9))
  replace hM := Lib.hid (hM.out.below (below_alloc1 w (.cells #[strV [97]] 9)))
  replace b6 := b6.alloc (.cells #[strV [98]] 9)
  have b7 : Blk ((w.alloc (.cells #[strV [97]] 9)).alloc (.cells #[strV [98]] 9)) (w.heap.size + 1) 9 #[strV [98]] := by simpa using Blk.new (w.alloc (.cells #[strV [97]] 9)) 9 #[strV [98]]
  have HBa2 := Lib.hid (HBa1.out.alloc HBa1.out.size (.cells #[strV [98]] 9))
  replace hM := Lib.hid (hM.out.below (below_alloc1 (w.alloc (.cells #[strV [97]] 9)) (.cells #[strV [98]] 9)))
  replace b6 := b6.alloc (.cells #[.int .i64 0, .slice (some ⟨w.heap.size, 0, none⟩) 1 1, .slice (some ⟨w.heap.size + 1, 0, none⟩) 1 1] 49)
  replace b7 := b7.alloc (.cells #[.int .i64 0, .slice (some ⟨w.heap.size, 0, none⟩) 1 1, .slice (some ⟨w.heap.size + 1, 0, none⟩) 1 1] 49)
  have b9 : Blk (((w.alloc (.cells #[strV [97]] 9)).alloc (.cells #[strV [98]] 9)).alloc (.cells #[.int .i64 0, .slice (some ⟨w.heap.size, 0, none⟩) 1 1, .slice (some ⟨w.heap.size + 1, 0, none⟩) 1 1] 49)) (w.heap.size + 2) 49 #[.int .i64 0, .slice (some ⟨w.heap.size, 0, none⟩) 1 1, .slice (some ⟨w.heap.size + 1, 0, none⟩) 1 1] := by simpa using Blk.new ((w.alloc (.cells #[strV [97]] 9)).alloc (.cells #[strV [98]] 9)) 49 #[.int .i64 0, .slice (some ⟨w.heap.size, 0, none⟩) 1 1, .slice (some ⟨w.heap.size + 1, 0, none⟩) 1 1]
  have HBa3 := Lib.hid (HBa2.out.alloc HBa2.out.size (.cells #[.int .i64 0, .slice (some ⟨w.heap.size, 0, none⟩) 1 1, .slice (some ⟨w.heap.size + 1, 0, none⟩) 1 1] 49))
  replace hM := Lib.hid (hM.out.below (below_alloc1 ((w.alloc (.cells #[strV [97]] 9)).alloc (.cells #[strV [98]] 9)) (.cells #[.int .i64 0, .slice (some ⟨w.heap.size, 0, none⟩) 1 1, .slice (some ⟨w.heap.size + 1, 0, none⟩) 1 1] 49)))
  replace b6 := b6.alloc (.cells #[.slice (some ⟨w.heap.size + 2, 0, none⟩) 1 1] 27)
  replace b7 := b7.alloc (.cells #[.slice (some ⟨w.heap.size + 2, 0, none⟩) 1 1] 27)
  replace b9 := b9.alloc (.cells #[.slice (some ⟨w.heap.size + 2, 0, none⟩) 1 1] 27)
  have bp : Blk ((((w.alloc (.cells #[strV [97]] 9)).alloc (.cells #[strV [98]] 9)).alloc (.cells #[.int .i64 0, .slice (some ⟨w.heap.size, 0, none⟩) 1 1, .slice (some ⟨w.heap.size + 1, 0, none⟩) 1 1] 49)).alloc (.cells #[.slice (some ⟨w.heap.size + 2, 0, none⟩) 1 1] 27)) (w.heap.size + 3) 27 #[.slice (some ⟨w.heap.size + 2, 0, none⟩) 1 1] := by simpa using Blk.new (((w.alloc (.cells #[strV [97]] 9)).alloc (.cells #[strV [98]] 9)).alloc (.cells #[.int .i64 0, .slice (some ⟨w.heap.size, 0, none⟩) 1 1, .slice (some ⟨w.heap.size + 1, 0, none⟩) 1 1] 49)) 27 #[.slice (some ⟨w.heap.size + 2, 0, none⟩) 1 1]
  have HBa4 := Lib.hid (HBa3.out.alloc HBa3.out.size (.cells #[.slice (some ⟨w.heap.size + 2, 0, none⟩) 1 1] 27))
  replace hM := Lib.hid (hM.out.below (below_alloc1 (((w.alloc (.cells #[strV [97]] 9)).alloc (.cells #[strV [98]] 9)).alloc (.cells #[.int .i64 0, .slice (some ⟨w.heap.size, 0, none⟩) 1 1, .slice (some ⟨w.heap.size + 1, 0, none⟩) 1 1] 49)) (.cells #[.slice (some ⟨w.heap.size + 2, 0, none⟩) 1 1] 27)))
  replace b6 := b6.alloc (.cells #[strV [97]] 9)
  replace b7 := b7.alloc (.cells #[strV [97]] 9)
  replace b9 := b9.alloc (.cells #[strV [97]] 9)
  replace bp := bp.alloc (.cells #[strV [97]] 9)
  have bx : Blk (((((w.alloc (.cells #[strV [97]] 9)).alloc (.cells #[strV [98]] 9)).alloc (.cells #[.int .i64 0, .slice (some ⟨w.heap.size, 0, none⟩) 1 1, .slice (some ⟨w.heap.size + 1, 0, none⟩) 1 1] 49)).alloc (.cells #[.slice (some ⟨w.heap.size + 2, 0, none⟩) 1 1] 27)).alloc (.cells #[strV [97]] 9)) (w.heap.size + 4) 9 #[strV [97]] := by simpa using Blk.new ((((w.alloc (.cells #[strV [97]] 9)).alloc (.cells #[strV [98]] 9)).alloc (.cells #[.int .i64 0, .slice (some ⟨w.heap.size, 0, none⟩) 1 1, .slice (some ⟨w.heap.size + 1, 0, none⟩) 1 1] 49)).alloc (.cells #[.slice (some ⟨w.heap.size + 2, 0, none⟩) 1 1] 27)) 9 #[strV [97]]
  have HBa5 := Lib.hid (HBa4.out.alloc HBa4.out.size (.cells #[strV [97]] 9))
  replace hM := Lib.hid (hM.out.below (below_alloc1 ((((w.alloc (.cells #[strV [97]] 9)).alloc (.cells #[strV [98]] 9)).alloc (.cells #[.int .i64 0, .slice (some ⟨w.heap.size, 0, none⟩) 1 1, .slice (some ⟨w.heap.size + 1, 0, none⟩) 1 1] 49)).alloc (.cells #[.slice (some ⟨w.heap.size + 2, 0, none⟩) 1 1] 27)) (.cells #[strV [97]] 9)))
  have VH := Lib.hid (hv_ex b6 b7 b9)
  have VX := Lib.hid (sv_one bx)
  go_wp2_with fail
  go_at_call 6
  with_reducible refine (H6.out _ _ _ VH.out VX.out).mono ?_
  rintro e w1 ⟨Ar, cr, rfl, hcr, hsr, hb1'⟩
  have HBm1 := Lib.hid (HBa5.out.trans (hb1'.mono HBa5.out.size))
  replace b6 := b6.below hb1' b6.lt
  replace b7 := b7.below hb1' b7.lt
  replace b9 := b9.below hb1' b9.lt
  replace bp := bp.below hb1' bp.lt
  replace bx := bx.below hb1' bx.lt
  replace hM := Lib.hid (hM.out.below hb1')
  replace VH := Lib.hid (VH.out.keep (free_below hb1'))
  replace VX := Lib.hid (VX.out.keep (free_below hb1'))
  have b6_l : w.heap.size < w1.heap.size := b6.lt
  have b6_l1 : w.heap.size < w1.heap.size + 1 := Nat.lt_succ_of_lt b6_l
  have b6_l2 : w.heap.size < w1.heap.size + 1 + 1 := Nat.lt_succ_of_lt b6_l1
  have b6_0 : w1.cell? ⟨w.heap.size, 0, none⟩ = some (strV [97]) := (b6.cell 0).trans rfl
  have b7_l : w.heap.size + 1 < w1.heap.size := b7.lt
  have b7_l1 : w.heap.size + 1 < w1.heap.size + 1 := Nat.lt_succ_of_lt b7_l
  have b7_l2 : w.heap.size + 1 < w1.heap.size + 1 + 1 := Nat.lt_succ_of_lt b7_l1
  have b7_0 : w1.cell? ⟨w.heap.size + 1, 0, none⟩ = some (strV [98]) := (b7.cell 0).trans rfl
  have b9_l : w.heap.size + 2 < w1.heap.size := b9.lt
  have b9_l1 : w.heap.size + 2 < w1.heap.size + 1 := Nat.lt_succ_of_lt b9_l
  have b9_l2 : w.heap.size + 2 < w1.heap.size + 1 + 1 := Nat.lt_succ_of_lt b9_l1
  have b9_0 : w1.cell? ⟨w.heap.size + 2, 0, none⟩ = some (.int .i64 0) := (b9.cell 0).trans rfl
  have b9_1 : w1.cell? ⟨w.heap.size + 2, 1, none⟩ = some (.slice (some ⟨w.heap.size, 0, none⟩) 1 1) := (b9.cell 1).trans rfl
  have b9_2 : w1.cell? ⟨w.heap.size + 2, 2, none⟩ = some (.slice (some ⟨w.heap.size + 1, 0, none⟩) 1 1) := (b9.cell 2).trans rfl
  have bp_l : w.heap.size + 3 < w1.heap.size := bp.lt
  have bp_l1 : w.heap.size + 3 < w1.heap.size + 1 := Nat.lt_succ_of_lt bp_l
  have bp_l2 : w.heap.size + 3 < w1.heap.size + 1 + 1 := Nat.lt_succ_of_lt bp_l1
  have bp_0 : w1.cell? ⟨w.heap.size + 3, 0, none⟩ = some (.slice (some ⟨w.heap.size + 2, 0, none⟩) 1 1) := (bp.cell 0).trans rfl
  have bx_l : w.heap.size + 4 < w1.heap.size := bx.lt
  have bx_l1 : w.heap.size + 4 < w1.heap.size + 1 := Nat.lt_succ_of_lt bx_l
  have bx_l2 : w.heap.size + 4 < w1.heap.size + 1 + 1 := Nat.lt_succ_of_lt bx_l1
  have bx_0 : w1.cell? ⟨w.heap.size + 4, 0, none⟩ = some (strV [97]) := (bx.cell 0).trans rfl
  have Vr := Lib.hid (hsr.mono (X' := Free) (fun _ h => h.elim))
  clear hsr
  clear hb1'
  try simp only at hcr
  replace b6 := b6.alloc (.cells #[.int .i64 0, .int .i64 0] 29)
  replace b7 := b7.alloc (.cells #[.int .i64 0, .int .i64 0] 29)
  replace b9 := b9.alloc (.cells #[.int .i64 0, .int .i64 0] 29)
  replace bp := bp.alloc (.cells #[.int .i64 0, .int .i64 0] 29)
  replace bx := bx.alloc (.cells #[.int .i64 0, .int .i64 0] 29)
  have bf := Blk.new w1 29 #[.int .i64 0, .int .i64 0]
  have HBa6 := Lib.hid (HBm1.out.alloc HBm1.out.size (.cells #[.int .i64 0, .int .i64 0] 29))
  replace hM := Lib.hid (hM.out.below (below_alloc1 w1 (.cells #[.int .i64 0, .int .i64 0] 29)))
  replace VH := Lib.hid (VH.out.keep (Keeps.alloc w1 _ (.cells #[.int .i64 0, .int .i64 0] 29)))
  replace VX := Lib.hid (VX.out.keep (Keeps.alloc w1 _ (.cells #[.int .i64 0, .int .i64 0] 29)))
  replace Vr := Lib.hid (Vr.out.keep (Keeps.alloc w1 _ (.cells #[.int .i64 0, .int .i64 0] 29)))
  go_wp2_with fail
  go_at_call 8
  with_reducible refine (H8.out _ _).mono ?_
  rintro e w2 ⟨cb, rfl, bc, hb2'⟩
  have HBm2 := Lib.hid (HBa6.out.trans (hb2'.mono HBa6.out.size))
  replace b6 := b6.below hb2' b6.lt
  replace b7 := b7.below hb2' b7.lt
  replace b9 := b9.below hb2' b9.lt
  replace bp := bp.below hb2' bp.lt
  replace bx := bx.below hb2' bx.lt
  replace bf := bf.below hb2' bf.lt
  replace hM := Lib.hid (hM.out.below hb2')
  replace VH := Lib.hid (VH.out.keep (free_below hb2'))
  replace VX := Lib.hid (VX.out.keep (free_below hb2'))
  replace Vr := Lib.hid (Vr.out.keep (free_below hb2'))
  clear b6_l b6_l1 b6_l2 b6_0 b7_l b7_l1 b7_l2 b7_0 b9_l b9_l1 b9_l2 b9_0 b9_1 b9_2 bp_l bp_l1 bp_l2 bp_0 bx_l bx_l1 bx_l2 bx_0
  have b6_l : w.heap.size < w2.heap.size := b6.lt
  have b6_l1 : w.heap.size < w2.heap.size + 1 := Nat.lt_succ_of_lt b6_l
  have b6_l2 : w.heap.size < w2.heap.size + 1 + 1 := Nat.lt_succ_of_lt b6_l1
  have b6_0 : w2.cell? ⟨w.heap.size, 0, none⟩ = some (strV [97]) := (b6.cell 0).trans rfl
  have b7_l : w.heap.size + 1 < w2.heap.size := b7.lt
  have b7_l1 : w.heap.size + 1 < w2.heap.size + 1 := Nat.lt_succ_of_lt b7_l
  have b7_l2 : w.heap.size + 1 < w2.heap.size + 1 + 1 := Nat.lt_succ_of_lt b7_l1
  have b7_0 : w2.cell? ⟨w.heap.size + 1, 0, none⟩ = some (strV [98]) := (b7.cell 0).trans rfl
  have b9_l : w.heap.size + 2 < w2.heap.size := b9.lt
  have b9_l1 : w.heap.size + 2 < w2.heap.size + 1 := Nat.lt_succ_of_lt b9_l
  have b9_l2 : w.heap.size + 2 < w2.heap.size + 1 + 1 := Nat.lt_succ_of_lt b9_l1
  have b9_0 : w2.cell? ⟨w.heap.size + 2, 0, none⟩ = some (.int .i64 0) := (b9.cell 0).trans rfl
  have b9_1 : w2.cell? ⟨w.heap.size + 2, 1, none⟩ = some (.slice (some ⟨w.heap.size, 0, none⟩) 1 1) := (b9.cell 1).trans rfl
  have b9_2 : w2.cell? ⟨w.heap.size + 2, 2, none⟩ = some (.slice (some ⟨w.heap.size + 1, 0, none⟩) 1 1) := (b9.cell 2).trans rfl
  have bp_l : w.heap.size + 3 < w2.heap.size := bp.lt
  have bp_l1 : w.heap.size + 3 < w2.heap.size + 1 := Nat.lt_succ_of_lt bp_l
  have bp_l2 : w.heap.size + 3 < w2.heap.size + 1 + 1 := Nat.lt_succ_of_lt bp_l1
  have bp_0 : w2.cell? ⟨w.heap.size + 3, 0, none⟩ = some (.slice (some ⟨w.heap.size + 2, 0, none⟩) 1 1) := (bp.cell 0).trans rfl
  have bx_l : w.heap.size + 4 < w2.heap.size := bx.lt
  have bx_l1 : w.heap.size + 4 < w2.heap.size + 1 := Nat.lt_succ_of_lt bx_l
  have bx_l2 : w.heap.size + 4 < w2.heap.size + 1 + 1 := Nat.lt_succ_of_lt bx_l1
  have bx_0 : w2.cell? ⟨w.heap.size + 4, 0, none⟩ = some (strV [97]) := (bx.cell 0).trans rfl
  have bf_l : w1.heap.size < w2.heap.size := bf.lt
  have bf_l1 : w1.heap.size < w2.heap.size + 1 := Nat.lt_succ_of_lt bf_l
  have bf_l2 : w1.heap.size < w2.heap.size + 1 + 1 := Nat.lt_succ_of_lt bf_l1
  have bf_0 : w2.cell? ⟨w1.heap.size, 0, none⟩ = some (.int .i64 0) := (bf.cell 0).trans rfl
  have bf_1 : w2.cell? ⟨w1.heap.size, 1, none⟩ = some (.int .i64 0) := (bf.cell 1).trans rfl
  clear hb2'
  replace b6 := b6.alloc (.cells #[strV [97]] 9)
  replace b7 := b7.alloc (.cells #[strV [97]] 9)
  replace b9 := b9.alloc (.cells #[strV [97]] 9)
  replace bp := bp.alloc (.cells #[strV [97]] 9)
  replace bx := bx.alloc (.cells #[strV [97]] 9)
  replace bf := bf.alloc (.cells #[strV [97]] 9)
  replace bc := bc.alloc (.cells #[strV [97]] 9)
  have bl := Blk.new w2 9 #[strV [97]]
  have HBa7 := Lib.hid (HBm2.out.alloc HBm2.out.size (.cells #[strV [97]] 9))
  replace hM := Lib.hid (hM.out.below (below_alloc1 w2 (.cells #[strV [97]] 9)))
  replace VH := Lib.hid (VH.out.keep (Keeps.alloc w2 _ (.cells #[strV [97]] 9)))
  replace VX := Lib.hid (VX.out.keep (Keeps.alloc w2 _ (.cells #[strV [97]] 9)))
  replace Vr := Lib.hid (Vr.out.keep (Keeps.alloc w2 _ (.cells #[strV [97]] 9)))
  replace b6 := b6.alloc (.cells #[strV [120], .slice (some ⟨w2.heap.size, 0, none⟩) 1 1] 36)
  replace b7 := b7.alloc (.cells #[strV [120], .slice (some ⟨w2.heap.size, 0, none⟩) 1 1] 36)
  replace b9 := b9.alloc (.cells #[strV [120], .slice (some ⟨w2.heap.size, 0, none⟩) 1 1] 36)
  replace bp := bp.alloc (.cells #[strV [120], .slice (some ⟨w2.heap.size, 0, none⟩) 1 1] 36)
  replace bx := bx.alloc (.cells #[strV [120], .slice (some ⟨w2.heap.size, 0, none⟩) 1 1] 36)
  replace bf := bf.alloc (.cells #[strV [120], .slice (some ⟨w2.heap.size, 0, none⟩) 1 1] 36)
  replace bc := bc.alloc (.cells #[strV [120], .slice (some ⟨w2.heap.size, 0, none⟩) 1 1] 36)
  replace bl := bl.alloc (.cells #[strV [120], .slice (some ⟨w2.heap.size, 0, none⟩) 1 1] 36)
  have bt : Blk ((w2.alloc (.cells #[strV [97]] 9)).alloc (.cells #[strV [120], .slice (some ⟨w2.heap.size, 0, none⟩) 1 1] 36)) (w2.heap.size + 1) 36 #[strV [120], .slice (some ⟨w2.heap.size, 0, none⟩) 1 1] := by simpa using Blk.new (w2.alloc (.cells #[strV [97]] 9)) 36 #[strV [120], .slice (some ⟨w2.heap.size, 0, none⟩) 1 1]
  have HBa8 := Lib.hid (HBa7.out.alloc HBa7.out.size (.cells #[strV [120], .slice (some ⟨w2.heap.size, 0, none⟩) 1 1] 36))
  replace hM := Lib.hid (hM.out.below (below_alloc1 (w2.alloc (.cells #[strV [97]] 9)) (.cells #[strV [120], .slice (some ⟨w2.heap.size, 0, none⟩) 1 1] 36)))
  replace VH := Lib.hid (VH.out.keep (Keeps.alloc (w2.alloc (.cells #[strV [97]] 9)) _ (.cells #[strV [120], .slice (some ⟨w2.heap.size, 0, none⟩) 1 1] 36)))
  replace VX := Lib.hid (VX.out.keep (Keeps.alloc (w2.alloc (.cells #[strV [97]] 9)) _ (.cells #[strV [120], .slice (some ⟨w2.heap.size, 0, none⟩) 1 1] 36)))
  replace Vr := Lib.hid (Vr.out.keep (Keeps.alloc (w2.alloc (.cells #[strV [97]] 9)) _ (.cells #[strV [120], .slice (some ⟨w2.heap.size, 0, none⟩) 1 1] 36)))
  have VT := Lib.hid (tv_one bl bt)
  go_wp2_with fail
  go_at_call 7
  with_reducible refine (H7.out _ hM.out _ _ cb VH.out bc VT.out).mono ?_
  rintro e w3 ⟨hb3', hq⟩
  have HBm3 := Lib.hid (HBa8.out.trans (hb3'.mono HBa8.out.size))
  replace b6 := b6.below hb3' b6.lt
  replace b7 := b7.below hb3' b7.lt
  replace b9 := b9.below hb3' b9.lt
  replace bp := bp.below hb3' bp.lt
  replace bx := bx.below hb3' bx.lt
  replace bf := bf.below hb3' bf.lt
  replace bc := bc.below hb3' bc.lt
  replace bl := bl.below hb3' bl.lt
  replace bt := bt.below hb3' bt.lt
  replace hM := Lib.hid (hM.out.below hb3')
  replace VH := Lib.hid (VH.out.keep (free_below hb3'))
  replace VX := Lib.hid (VX.out.keep (free_below hb3'))
  replace Vr := Lib.hid (Vr.out.keep (free_below hb3'))
  replace VT := Lib.hid (VT.out.keep (free_below hb3'))
  clear b6_l b6_l1 b6_l2 b6_0 b7_l b7_l1 b7_l2 b7_0 b9_l b9_l1 b9_l2 b9_0 b9_1 b9_2 bp_l bp_l1 bp_l2 bp_0 bx_l bx_l1 bx_l2 bx_0 bf_l bf_l1 bf_l2 bf_0 bf_1
  have b6_l : w.heap.size < w3.heap.size := b6.lt
  have b6_l1 : w.heap.size < w3.heap.size + 1 := Nat.lt_succ_of_lt b6_l
  have b6_l2 : w.heap.size < w3.heap.size + 1 + 1 := Nat.lt_succ_of_lt b6_l1
  have b6_0 : w3.cell? ⟨w.heap.size, 0, none⟩ = some (strV [97]) := (b6.cell 0).trans rfl
  have b7_l : w.heap.size + 1 < w3.heap.size := b7.lt
  have b7_l1 : w.heap.size + 1 < w3.heap.size + 1 := Nat.lt_succ_of_lt b7_l
  have b7_l2 : w.heap.size + 1 < w3.heap.size + 1 + 1 := Nat.lt_succ_of_lt b7_l1
  have b7_0 : w3.cell? ⟨w.heap.size + 1, 0, none⟩ = some (strV [98]) := (b7.cell 0).trans rfl
  have b9_l : w.heap.size + 2 < w3.heap.size := b9.lt
  have b9_l1 : w.heap.size + 2 < w3.heap.size + 1 := Nat.lt_succ_of_lt b9_l
  have b9_l2 : w.heap.size + 2 < w3.heap.size + 1 + 1 := Nat.lt_succ_of_lt b9_l1
  have b9_0 : w3.cell? ⟨w.heap.size + 2, 0, none⟩ = some (.int .i64 0) := (b9.cell 0).trans rfl
  have b9_1 : w3.cell? ⟨w.heap.size + 2, 1, none⟩ = some (.slice (some ⟨w.heap.size, 0, none⟩) 1 1) := (b9.cell 1).trans rfl
  have b9_2 : w3.cell? ⟨w.heap.size + 2, 2, none⟩ = some (.slice (some ⟨w.heap.size + 1, 0, none⟩) 1 1) := (b9.cell 2).trans rfl
  have bp_l : w.heap.size + 3 < w3.heap.size := bp.lt
  have bp_l1 : w.heap.size + 3 < w3.heap.size + 1 := Nat.lt_succ_of_lt bp_l
  have bp_l2 : w.heap.size + 3 < w3.heap.size + 1 + 1 := Nat.lt_succ_of_lt bp_l1
  have bp_0 : w3.cell? ⟨w.heap.size + 3, 0, none⟩ = some (.slice (some ⟨w.heap.size + 2, 0, none⟩) 1 1) := (bp.cell 0).trans rfl
  have bx_l : w.heap.size + 4 < w3.heap.size := bx.lt
  have bx_l1 : w.heap.size + 4 < w3.heap.size + 1 := Nat.lt_succ_of_lt bx_l
  have bx_l2 : w.heap.size + 4 < w3.heap.size + 1 + 1 := Nat.lt_succ_of_lt bx_l1
  have bx_0 : w3.cell? ⟨w.heap.size + 4, 0, none⟩ = some (strV [97]) := (bx.cell 0).trans rfl
  have bf_l : w1.heap.size < w3.heap.size := bf.lt
  have bf_l1 : w1.heap.size < w3.heap.size + 1 := Nat.lt_succ_of_lt bf_l
  have bf_l2 : w1.heap.size < w3.heap.size + 1 + 1 := Nat.lt_succ_of_lt bf_l1
  have bf_0 : w3.cell? ⟨w1.heap.size, 0, none⟩ = some (.int .i64 0) := (bf.cell 0).trans rfl
  have bf_1 : w3.cell? ⟨w1.heap.size, 1, none⟩ = some (.int .i64 0) := (bf.cell 1).trans rfl
  have bc_l : cb < w3.heap.size := bc.lt
  have bc_l1 : cb < w3.heap.size + 1 := Nat.lt_succ_of_lt bc_l
  have bc_l2 : cb < w3.heap.size + 1 + 1 := Nat.lt_succ_of_lt bc_l1
  have bc_0 : w3.cell? ⟨cb, 0, none⟩ = some (.int .i64 4) := (bc.cell 0).trans rfl
  have bc_1 : w3.cell? ⟨cb, 1, none⟩ = some (strV [120]) := (bc.cell 1).trans rfl
  have bc_2 : w3.cell? ⟨cb, 2, none⟩ = some (.string ⟨#[]⟩) := (bc.cell 2).trans rfl
  have bc_3 : w3.cell? ⟨cb, 3, none⟩ = some (.slice none 0 0) := (bc.cell 3).trans rfl
  have bc_4 : w3.cell? ⟨cb, 4, none⟩ = some (.slice (some ⟨w.heap.size + 2, 0, none⟩) 1 1) := (bc.cell 4).trans rfl
  have bl_l : w2.heap.size < w3.heap.size := bl.lt
  have bl_l1 : w2.heap.size < w3.heap.size + 1 := Nat.lt_succ_of_lt bl_l
  have bl_l2 : w2.heap.size < w3.heap.size + 1 + 1 := Nat.lt_succ_of_lt bl_l1
  have bl_0 : w3.cell? ⟨w2.heap.size, 0, none⟩ = some (strV [97]) := (bl.cell 0).trans rfl
  have bt_l : w2.heap.size + 1 < w3.heap.size := bt.lt
  have bt_l1 : w2.heap.size + 1 < w3.heap.size + 1 := Nat.lt_succ_of_lt bt_l
  have bt_l2 : w2.heap.size + 1 < w3.heap.size + 1 + 1 := Nat.lt_succ_of_lt bt_l1
  have bt_0 : w3.cell? ⟨w2.heap.size + 1, 0, none⟩ = some (strV [120]) := (bt.cell 0).trans rfl
  have bt_1 : w3.cell? ⟨w2.heap.size + 1, 1, none⟩ = some (.slice (some ⟨w2.heap.size, 0, none⟩) 1 1) := (bt.cell 1).trans rfl
  clear hb3'
  clear VT
  clear bl
  clear bt
  clear bc
  rcases hq with ⟨hne, _⟩ | ⟨_, At, ct, rfl, hct, hvt⟩
  · exact absurd rfl hne
  rw [show Tr.exT.length = 1 from rfl]
  have Vt := Lib.hid (hvt.keep ((Keeps.refl _ _).into (X'' := Free) fun b h => (by unfold Free at h; exact h.elim)))
  clear hvt
  replace b6 := b6.alloc (.cells #[.slice At 1 ct] 24)
  replace b7 := b7.alloc (.cells #[.slice At 1 ct] 24)
  replace b9 := b9.alloc (.cells #[.slice At 1 ct] 24)
  replace bp := bp.alloc (.cells #[.slice At 1 ct] 24)
  replace bx := bx.alloc (.cells #[.slice At 1 ct] 24)
  replace bf := bf.alloc (.cells #[.slice At 1 ct] 24)
  have bu := Blk.new w3 24 #[.slice At 1 ct]
  have HBa9 := Lib.hid (HBm3.out.alloc HBm3.out.size (.cells #[.slice At 1 ct] 24))
  replace hM := Lib.hid (hM.out.below (below_alloc1 w3 (.cells #[.slice At 1 ct] 24)))
  replace VH := Lib.hid (VH.out.keep (Keeps.alloc w3 _ (.cells #[.slice At 1 ct] 24)))
  replace VX := Lib.hid (VX.out.keep (Keeps.alloc w3 _ (.cells #[.slice At 1 ct] 24)))
  replace Vr := Lib.hid (Vr.out.keep (Keeps.alloc w3 _ (.cells #[.slice At 1 ct] 24)))
  replace Vt := Lib.hid (Vt.out.keep (Keeps.alloc w3 _ (.cells #[.slice At 1 ct] 24)))
  replace b6 := b6.alloc (.cells #[.int .i64 0, .int .i64 0] 29)
  replace b7 := b7.alloc (.cells #[.int .i64 0, .int .i64 0] 29)
  replace b9 := b9.alloc (.cells #[.int .i64 0, .int .i64 0] 29)
  replace bp := bp.alloc (.cells #[.int .i64 0, .int .i64 0] 29)
  replace bx := bx.alloc (.cells #[.int .i64 0, .int .i64 0] 29)
  replace bf := bf.alloc (.cells #[.int .i64 0, .int .i64 0] 29)
  replace bu := bu.alloc (.cells #[.int .i64 0, .int .i64 0] 29)
  have bg : Blk ((w3.alloc (.cells #[.slice At 1 ct] 24)).alloc (.cells #[.int .i64 0, .int .i64 0] 29)) (w3.heap.size + 1) 29 #[.int .i64 0, .int .i64 0] := by simpa using Blk.new (w3.alloc (.cells #[.slice At 1 ct] 24)) 29 #[.int .i64 0, .int .i64 0]
  have HBa10 := Lib.hid (HBa9.out.alloc HBa9.out.size (.cells #[.int .i64 0, .int .i64 0] 29))
  replace hM := Lib.hid (hM.out.below (below_alloc1 (w3.alloc (.cells #[.slice At 1 ct] 24)) (.cells #[.int .i64 0, .int .i64 0] 29)))
  replace VH := Lib.hid (VH.out.keep (Keeps.alloc (w3.alloc (.cells #[.slice At 1 ct] 24)) _ (.cells #[.int .i64 0, .int .i64 0] 29)))
  replace VX := Lib.hid (VX.out.keep (Keeps.alloc (w3.alloc (.cells #[.slice At 1 ct] 24)) _ (.cells #[.int .i64 0, .int .i64 0] 29)))
  replace Vr := Lib.hid (Vr.out.keep (Keeps.alloc (w3.alloc (.cells #[.slice At 1 ct] 24)) _ (.cells #[.int .i64 0, .int .i64 0] 29)))
  replace Vt := Lib.hid (Vt.out.keep (Keeps.alloc (w3.alloc (.cells #[.slice At 1 ct] 24)) _ (.cells #[.int .i64 0, .int .i64 0] 29)))
  replace b6 := b6.alloc (.cells #[strV [98]] 9)
  replace b7 := b7.alloc (.cells #[strV [98]] 9)
  replace b9 := b9.alloc (.cells #[strV [98]] 9)
  replace bp := bp.alloc (.cells #[strV [98]] 9)
  replace bx := bx.alloc (.cells #[strV [98]] 9)
  replace bf := bf.alloc (.cells #[strV [98]] 9)
  replace bu := bu.alloc (.cells #[strV [98]] 9)
  replace bg := bg.alloc (.cells #[strV [98]] 9)
  have by1 : Blk (((w3.alloc (.cells #[.slice At 1 ct] 24)).alloc (.cells #[.int .i64 0, .int .i64 0] 29)).alloc (.cells #[strV [98]] 9)) (w3.heap.size + 2) 9 #[strV [98]] := by simpa using Blk.new ((w3.alloc (.cells #[.slice At 1 ct] 24)).alloc (.cells #[.int .i64 0, .int .i64 0] 29)) 9 #[strV [98]]
  have HBa11 := Lib.hid (HBa10.out.alloc HBa10.out.size (.cells #[strV [98]] 9))
  replace hM := Lib.hid (hM.out.below (below_alloc1 ((w3.alloc (.cells #[.slice At 1 ct] 24)).alloc (.cells #[.int .i64 0, .int .i64 0] 29)) (.cells #[strV [98]] 9)))
  replace VH := Lib.hid (VH.out.keep (Keeps.alloc ((w3.alloc (.cells #[.slice At 1 ct] 24)).alloc (.cells #[.int .i64 0, .int .i64 0] 29)) _ (.cells #[strV [98]] 9)))
  replace VX := Lib.hid (VX.out.keep (Keeps.alloc ((w3.alloc (.cells #[.slice At 1 ct] 24)).alloc (.cells #[.int .i64 0, .int .i64 0] 29)) _ (.cells #[strV [98]] 9)))
  replace Vr := Lib.hid (Vr.out.keep (Keeps.alloc ((w3.alloc (.cells #[.slice At 1 ct] 24)).alloc (.cells #[.int .i64 0, .int .i64 0] 29)) _ (.cells #[strV [98]] 9)))
  replace Vt := Lib.hid (Vt.out.keep (Keeps.alloc ((w3.alloc (.cells #[.slice At 1 ct] 24)).alloc (.cells #[.int .i64 0, .int .i64 0] 29)) _ (.cells #[strV [98]] 9)))
  have VY := Lib.hid (sv_one by1)
  go_wp2_with fail
  go_at_call 9
  with_reducible refine (H9.out _ _ _ _ _ Vr.out VY.out).mono ?_
  rintro e w4 ⟨rfl, hb4'⟩
  have HBm4 := Lib.hid (HBa11.out.trans (hb4'.mono HBa11.out.size))
  replace b6 := b6.below hb4' b6.lt
  replace b7 := b7.below hb4' b7.lt
  replace b9 := b9.below hb4' b9.lt
  replace bp := bp.below hb4' bp.lt
  replace bx := bx.below hb4' bx.lt
  replace bf := bf.below hb4' bf.lt
  replace bu := bu.below hb4' bu.lt
  replace bg := bg.below hb4' bg.lt
  replace by1 := by1.below hb4' by1.lt
  replace hM := Lib.hid (hM.out.below hb4')
  replace VH := Lib.hid (VH.out.keep (free_below hb4'))
  replace VX := Lib.hid (VX.out.keep (free_below hb4'))
  replace Vr := Lib.hid (Vr.out.keep (free_below hb4'))
  replace Vt := Lib.hid (Vt.out.keep (free_below hb4'))
  replace VY := Lib.hid (VY.out.keep (free_below hb4'))
  clear b6_l b6_l1 b6_l2 b6_0 b7_l b7_l1 b7_l2 b7_0 b9_l b9_l1 b9_l2 b9_0 b9_1 b9_2 bp_l bp_l1 bp_l2 bp_0 bx_l bx_l1 bx_l2 bx_0 bf_l bf_l1 bf_l2 bf_0 bf_1 bc_l bc_l1 bc_l2 bc_0 bc_1 bc_2 bc_3 bc_4 bl_l bl_l1 bl_l2 bl_0 bt_l bt_l1 bt_l2 bt_0 bt_1
  have b6_l : w.heap.size < w4.heap.size := b6.lt
  have b6_l1 : w.heap.size < w4.heap.size + 1 := Nat.lt_succ_of_lt b6_l
  have b6_l2 : w.heap.size < w4.heap.size + 1 + 1 := Nat.lt_succ_of_lt b6_l1
  have b6_0 : w4.cell? ⟨w.heap.size, 0, none⟩ = some (strV [97]) := (b6.cell 0).trans rfl
  have b7_l : w.heap.size + 1 < w4.heap.size := b7.lt
  have b7_l1 : w.heap.size + 1 < w4.heap.size + 1 := Nat.lt_succ_of_lt b7_l
  have b7_l2 : w.heap.size + 1 < w4.heap.size + 1 + 1 := Nat.lt_succ_of_lt b7_l1
  have b7_0 : w4.cell? ⟨w.heap.size + 1, 0, none⟩ = some (strV [98]) := (b7.cell 0).trans rfl
  have b9_l : w.heap.size + 2 < w4.heap.size := b9.lt
  have b9_l1 : w.heap.size + 2 < w4.heap.size + 1 := Nat.lt_succ_of_lt b9_l
  have b9_l2 : w.heap.size + 2 < w4.heap.size + 1 + 1 := Nat.lt_succ_of_lt b9_l1
  have b9_0 : w4.cell? ⟨w.heap.size + 2, 0, none⟩ = some (.int .i64 0) := (b9.cell 0).trans rfl
  have b9_1 : w4.cell? ⟨w.heap.size + 2, 1, none⟩ = some (.slice (some ⟨w.heap.size, 0, none⟩) 1 1) := (b9.cell 1).trans rfl
  have b9_2 : w4.cell? ⟨w.heap.size + 2, 2, none⟩ = some (.slice (some ⟨w.heap.size + 1, 0, none⟩) 1 1) := (b9.cell 2).trans rfl
  have bp_l : w.heap.size + 3 < w4.heap.size := bp.lt
  have bp_l1 : w.heap.size + 3 < w4.heap.size + 1 := Nat.lt_succ_of_lt bp_l
  have bp_l2 : w.heap.size + 3 < w4.heap.size + 1 + 1 := Nat.lt_succ_of_lt bp_l1
  have bp_0 : w4.cell? ⟨w.heap.size + 3, 0, none⟩ = some (.slice (some ⟨w.heap.size + 2, 0, none⟩) 1 1) := (bp.cell 0).trans rfl
  have bx_l : w.heap.size + 4 < w4.heap.size := bx.lt
  have bx_l1 : w.heap.size + 4 < w4.heap.size + 1 := Nat.lt_succ_of_lt bx_l
  have bx_l2 : w.heap.size + 4 < w4.heap.size + 1 + 1 := Nat.lt_succ_of_lt bx_l1
  have bx_0 : w4.cell? ⟨w.heap.size + 4, 0, none⟩ = some (strV [97]) := (bx.cell 0).trans rfl
  have bf_l : w1.heap.size < w4.heap.size := bf.lt
  have bf_l1 : w1.heap.size < w4.heap.size + 1 := Nat.lt_succ_of_lt bf_l
  have bf_l2 : w1.heap.size < w4.heap.size + 1 + 1 := Nat.lt_succ_of_lt bf_l1
  have bf_0 : w4.cell? ⟨w1.heap.size, 0, none⟩ = some (.int .i64 0) := (bf.cell 0).trans rfl
  have bf_1 : w4.cell? ⟨w1.heap.size, 1, none⟩ = some (.int .i64 0) := (bf.cell 1).trans rfl
  have bu_l : w3.heap.size < w4.heap.size := bu.lt
  have bu_l1 : w3.heap.size < w4.heap.size + 1 := Nat.lt_succ_of_lt bu_l
  have bu_l2 : w3.heap.size < w4.heap.size + 1 + 1 := Nat.lt_succ_of_lt bu_l1
  have bu_0 : w4.cell? ⟨w3.heap.size, 0, none⟩ = some (.slice At 1 ct) := (bu.cell 0).trans rfl
  have bg_l : w3.heap.size + 1 < w4.heap.size := bg.lt
  have bg_l1 : w3.heap.size + 1 < w4.heap.size + 1 := Nat.lt_succ_of_lt bg_l
  have bg_l2 : w3.heap.size + 1 < w4.heap.size + 1 + 1 := Nat.lt_succ_of_lt bg_l1
  have bg_0 : w4.cell? ⟨w3.heap.size + 1, 0, none⟩ = some (.int .i64 0) := (bg.cell 0).trans rfl
  have bg_1 : w4.cell? ⟨w3.heap.size + 1, 1, none⟩ = some (.int .i64 0) := (bg.cell 1).trans rfl
  have by1_l : w3.heap.size + 2 < w4.heap.size := by1.lt
  have by1_l1 : w3.heap.size + 2 < w4.heap.size + 1 := Nat.lt_succ_of_lt by1_l
  have by1_l2 : w3.heap.size + 2 < w4.heap.size + 1 + 1 := Nat.lt_succ_of_lt by1_l1
  have by1_0 : w4.cell? ⟨w3.heap.size + 2, 0, none⟩ = some (strV [98]) := (by1.cell 0).trans rfl
  clear hb4'
  replace b6 := b6.alloc (.cells #[strV [98]] 9)
  replace b7 := b7.alloc (.cells #[strV [98]] 9)
  replace b9 := b9.alloc (.cells #[strV [98]] 9)
  replace bp := bp.alloc (.cells #[strV [98]] 9)
  replace bx := bx.alloc (.cells #[strV [98]] 9)
  replace bf := bf.alloc (.cells #[strV [98]] 9)
  replace bu := bu.alloc (.cells #[strV [98]] 9)
  replace bg := bg.alloc (.cells #[strV [98]] 9)
  replace by1 := by1.alloc (.cells #[strV [98]] 9)
  have bz := Blk.new w4 9 #[strV [98]]
  have HBa12 := Lib.hid (HBm4.out.alloc HBm4.out.size (.cells #[strV [98]] 9))
  replace hM := Lib.hid (hM.out.below (below_alloc1 w4 (.cells #[strV [98]] 9)))
  replace VH := Lib.hid (VH.out.keep (Keeps.alloc w4 _ (.cells #[strV [98]] 9)))
  replace VX := Lib.hid (VX.out.keep (Keeps.alloc w4 _ (.cells #[strV [98]] 9)))
  replace Vr := Lib.hid (Vr.out.keep (Keeps.alloc w4 _ (.cells #[strV [98]] 9)))
  replace Vt := Lib.hid (Vt.out.keep (Keeps.alloc w4 _ (.cells #[strV [98]] 9)))
  replace VY := Lib.hid (VY.out.keep (Keeps.alloc w4 _ (.cells #[strV [98]] 9)))
  replace b6 := b6.alloc (.cells #[strV [120], .slice (some ⟨w4.heap.size, 0, none⟩) 1 1] 36)
  replace b7 := b7.alloc (.cells #[strV [120], .slice (some ⟨w4.heap.size, 0, none⟩) 1 1] 36)
  replace b9 := b9.alloc (.cells #[strV [120], .slice (some ⟨w4.heap.size, 0, none⟩) 1 1] 36)
  replace bp := bp.alloc (.cells #[strV [120], .slice (some ⟨w4.heap.size, 0, none⟩) 1 1] 36)
  replace bx := bx.alloc (.cells #[strV [120], .slice (some ⟨w4.heap.size, 0, none⟩) 1 1] 36)
  replace bf := bf.alloc (.cells #[strV [120], .slice (some ⟨w4.heap.size, 0, none⟩) 1 1] 36)
  replace bu := bu.alloc (.cells #[strV [120], .slice (some ⟨w4.heap.size, 0, none⟩) 1 1] 36)
  replace bg := bg.alloc (.cells #[strV [120], .slice (some ⟨w4.heap.size, 0, none⟩) 1 1] 36)
  replace by1 := by1.alloc (.cells #[strV [120], .slice (some ⟨w4.heap.size, 0, none⟩) 1 1] 36)
  replace bz := bz.alloc (.cells #[strV [120], .slice (some ⟨w4.heap.size, 0, none⟩) 1 1] 36)
  have bw : Blk ((w4.alloc (.cells #[strV [98]] 9)).alloc (.cells #[strV [120], .slice (some ⟨w4.heap.size, 0, none⟩) 1 1] 36)) (w4.heap.size + 1) 36 #[strV [120], .slice (some ⟨w4.heap.size, 0, none⟩) 1 1] := by simpa using Blk.new (w4.alloc (.cells #[strV [98]] 9)) 36 #[strV [120], .slice (some ⟨w4.heap.size, 0, none⟩) 1 1]
  have HBa13 := Lib.hid (HBa12.out.alloc HBa12.out.size (.cells #[strV [120], .slice (some ⟨w4.heap.size, 0, none⟩) 1 1] 36))
  replace hM := Lib.hid (hM.out.below (below_alloc1 (w4.alloc (.cells #[strV [98]] 9)) (.cells #[strV [120], .slice (some ⟨w4.heap.size, 0, none⟩) 1 1] 36)))
  replace VH := Lib.hid (VH.out.keep (Keeps.alloc (w4.alloc (.cells #[strV [98]] 9)) _ (.cells #[strV [120], .slice (some ⟨w4.heap.size, 0, none⟩) 1 1] 36)))
  replace VX := Lib.hid (VX.out.keep (Keeps.alloc (w4.alloc (.cells #[strV [98]] 9)) _ (.cells #[strV [120], .slice (some ⟨w4.heap.size, 0, none⟩) 1 1] 36)))
  replace Vr := Lib.hid (Vr.out.keep (Keeps.alloc (w4.alloc (.cells #[strV [98]] 9)) _ (.cells #[strV [120], .slice (some ⟨w4.heap.size, 0, none⟩) 1 1] 36)))
  replace Vt := Lib.hid (Vt.out.keep (Keeps.alloc (w4.alloc (.cells #[strV [98]] 9)) _ (.cells #[strV [120], .slice (some ⟨w4.heap.size, 0, none⟩) 1 1] 36)))
  replace VY := Lib.hid (VY.out.keep (Keeps.alloc (w4.alloc (.cells #[strV [98]] 9)) _ (.cells #[strV [120], .slice (some ⟨w4.heap.size, 0, none⟩) 1 1] 36)))
  have VZ := Lib.hid (tv_one bz bw)
  go_wp2_with fail
  go_at_call 13
  with_reducible refine (H13.out _ _ _ _ _ Vt.out VZ.out).mono ?_
  rintro e w5 ⟨rfl, hb5'⟩
  have HBm5 := Lib.hid (HBa13.out.trans (hb5'.mono HBa13.out.size))
  replace b6 := b6.below hb5' b6.lt
  replace b7 := b7.below hb5' b7.lt
  replace b9 := b9.below hb5' b9.lt
  replace bp := bp.below hb5' bp.lt
  replace bx := bx.below hb5' bx.lt
  replace bf := bf.below hb5' bf.lt
  replace bu := bu.below hb5' bu.lt
  replace bg := bg.below hb5' bg.lt
  replace by1 := by1.below hb5' by1.lt
  replace bz := bz.below hb5' bz.lt
  replace bw := bw.below hb5' bw.lt
  replace hM := Lib.hid (hM.out.below hb5')
  replace VH := Lib.hid (VH.out.keep (free_below hb5'))
  replace VX := Lib.hid (VX.out.keep (free_below hb5'))
  replace Vr := Lib.hid (Vr.out.keep (free_below hb5'))
  replace Vt := Lib.hid (Vt.out.keep (free_below hb5'))
  replace VY := Lib.hid (VY.out.keep (free_below hb5'))
  replace VZ := Lib.hid (VZ.out.keep (free_below hb5'))
  clear b6_l b6_l1 b6_l2 b6_0 b7_l b7_l1 b7_l2 b7_0 b9_l b9_l1 b9_l2 b9_0 b9_1 b9_2 bp_l bp_l1 bp_l2 bp_0 bx_l bx_l1 bx_l2 bx_0 bf_l bf_l1 bf_l2 bf_0 bf_1 bu_l bu_l1 bu_l2 bu_0 bg_l bg_l1 bg_l2 bg_0 bg_1 by1_l by1_l1 by1_l2 by1_0
  have b6_l : w.heap.size < w5.heap.size := b6.lt
  have b6_l1 : w.heap.size < w5.heap.size + 1 := Nat.lt_succ_of_lt b6_l
  have b6_l2 : w.heap.size < w5.heap.size + 1 + 1 := Nat.lt_succ_of_lt b6_l1
  have b6_0 : w5.cell? ⟨w.heap.size, 0, none⟩ = some (strV [97]) := (b6.cell 0).trans rfl
  have b7_l : w.heap.size + 1 < w5.heap.size := b7.lt
  have b7_l1 : w.heap.size + 1 < w5.heap.size + 1 := Nat.lt_succ_of_lt b7_l
  have b7_l2 : w.heap.size + 1 < w5.heap.size + 1 + 1 := Nat.lt_succ_of_lt b7_l1
  have b7_0 : w5.cell? ⟨w.heap.size + 1, 0, none⟩ = some (strV [98]) := (b7.cell 0).trans rfl
  have b9_l : w.heap.size + 2 < w5.heap.size := b9.lt
  have b9_l1 : w.heap.size + 2 < w5.heap.size + 1 := Nat.lt_succ_of_lt b9_l
  have b9_l2 : w.heap.size + 2 < w5.heap.size + 1 + 1 := Nat.lt_succ_of_lt b9_l1
  have b9_0 : w5.cell? ⟨w.heap.size + 2, 0, none⟩ = some (.int .i64 0) := (b9.cell 0).trans rfl
  have b9_1 : w5.cell? ⟨w.heap.size + 2, 1, none⟩ = some (.slice (some ⟨w.heap.size, 0, none⟩) 1 1) := (b9.cell 1).trans rfl
  have b9_2 : w5.cell? ⟨w.heap.size + 2, 2, none⟩ = some (.slice (some ⟨w.heap.size + 1, 0, none⟩) 1 1) := (b9.cell 2).trans rfl
  have bp_l : w.heap.size + 3 < w5.heap.size := bp.lt
  have bp_l1 : w.heap.size + 3 < w5.heap.size + 1 := Nat.lt_succ_of_lt bp_l
  have bp_l2 : w.heap.size + 3 < w5.heap.size + 1 + 1 := Nat.lt_succ_of_lt bp_l1
  have bp_0 : w5.cell? ⟨w.heap.size + 3, 0, none⟩ = some (.slice (some ⟨w.heap.size + 2, 0, none⟩) 1 1) := (bp.cell 0).trans rfl
  have bx_l : w.heap.size + 4 < w5.heap.size := bx.lt
  have bx_l1 : w.heap.size + 4 < w5.heap.size + 1 := Nat.lt_succ_of_lt bx_l
  have bx_l2 : w.heap.size + 4 < w5.heap.size + 1 + 1 := Nat.lt_succ_of_lt bx_l1
  have bx_0 : w5.cell? ⟨w.heap.size + 4, 0, none⟩ = some (strV [97]) := (bx.cell 0).trans rfl
  have bf_l : w1.heap.size < w5.heap.size := bf.lt
  have bf_l1 : w1.heap.size < w5.heap.size + 1 := Nat.lt_succ_of_lt bf_l
  have bf_l2 : w1.heap.size < w5.heap.size + 1 + 1 := Nat.lt_succ_of_lt bf_l1
  have bf_0 : w5.cell? ⟨w1.heap.size, 0, none⟩ = some (.int .i64 0) := (bf.cell 0).trans rfl
  have bf_1 : w5.cell? ⟨w1.heap.size, 1, none⟩ = some (.int .i64 0) := (bf.cell 1).trans rfl
  have bu_l : w3.heap.size < w5.heap.size := bu.lt
  have bu_l1 : w3.heap.size < w5.heap.size + 1 := Nat.lt_succ_of_lt bu_l
  have bu_l2 : w3.heap.size < w5.heap.size + 1 + 1 := Nat.lt_succ_of_lt bu_l1
  have bu_0 : w5.cell? ⟨w3.heap.size, 0, none⟩ = some (.slice At 1 ct) := (bu.cell 0).trans rfl
  have bg_l : w3.heap.size + 1 < w5.heap.size := bg.lt
  have bg_l1 : w3.heap.size + 1 < w5.heap.size + 1 := Nat.lt_succ_of_lt bg_l
  have bg_l2 : w3.heap.size + 1 < w5.heap.size + 1 + 1 := Nat.lt_succ_of_lt bg_l1
  have bg_0 : w5.cell? ⟨w3.heap.size + 1, 0, none⟩ = some (.int .i64 0) := (bg.cell 0).trans rfl
  have bg_1 : w5.cell? ⟨w3.heap.size + 1, 1, none⟩ = some (.int .i64 0) := (bg.cell 1).trans rfl
  have by1_l : w3.heap.size + 2 < w5.heap.size := by1.lt
  have by1_l1 : w3.heap.size + 2 < w5.heap.size + 1 := Nat.lt_succ_of_lt by1_l
  have by1_l2 : w3.heap.size + 2 < w5.heap.size + 1 + 1 := Nat.lt_succ_of_lt by1_l1
  have by1_0 : w5.cell? ⟨w3.heap.size + 2, 0, none⟩ = some (strV [98]) := (by1.cell 0).trans rfl
  have bz_l : w4.heap.size < w5.heap.size := bz.lt
  have bz_l1 : w4.heap.size < w5.heap.size + 1 := Nat.lt_succ_of_lt bz_l
  have bz_l2 : w4.heap.size < w5.heap.size + 1 + 1 := Nat.lt_succ_of_lt bz_l1
  have bz_0 : w5.cell? ⟨w4.heap.size, 0, none⟩ = some (strV [98]) := (bz.cell 0).trans rfl
  have bw_l : w4.heap.size + 1 < w5.heap.size := bw.lt
  have bw_l1 : w4.heap.size + 1 < w5.heap.size + 1 := Nat.lt_succ_of_lt bw_l
  have bw_l2 : w4.heap.size + 1 < w5.heap.size + 1 + 1 := Nat.lt_succ_of_lt bw_l1
  have bw_0 : w5.cell? ⟨w4.heap.size + 1, 0, none⟩ = some (strV [120]) := (bw.cell 0).trans rfl
  have bw_1 : w5.cell? ⟨w4.heap.size + 1, 1, none⟩ = some (.slice (some ⟨w4.heap.size, 0, none⟩) 1 1) := (bw.cell 1).trans rfl
  clear hb5'
  go_wp2_with fail
  go_ret
  exact ⟨by simp, HBm5.out⟩
end Go.Proofs.YtjfckjonfpkphaaDoor
