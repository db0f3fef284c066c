/-
  HistoryAncestorsMatchesSpec: the law's walk.
-/
import Derived.Test.YtoohmkdgimkgoaaW12
import Derived.Test.YtoohmkdgimkgoaaW3
namespace Go.Proofs.Ytoohmkdgimkgoaa
open Go.RowKit Go.V
set_option linter.unusedVariables false

theorem CV.drew {w : World} {A : Option Addr} {l : List Hs.Cm} (h : CV w A l) : CV w.drew A l := h.drewN 1
theorem below_drew {B : Nat} {a w : World} (h : Below B a w) : Below B a w.drew := below_drewN h 1
theorem not_ok {l : List Hs.Cm} (h : ¬ Hs.Ok l) : (Hs.validate l).1 ≠ 0 := fun hc => h (Hs.validate_ok l hc).2

set_option maxRecDepth 100000 in
set_option maxHeartbeats 4000000 in
theorem law3_bad (w : World) (A : Option Addr) (k : Nat) (l : List Hs.Cm) (n : Int) (hv : CV w A l) (hl : l.length ≤ 9223372036854775807) (hbad : ¬ Hs.Ok l) :
    Calls Try.prog 3 #[.slice A l.length k, .int .i64 n] w fun e w' => e = .returned (.bool true) ∧ Below w.heap.size w w' := by
  have hne := not_ok hbad
  have HA := Lib.hid (fun (w1 : World) h => ancestors_bad w1 A k l n h hl hne)
  have HF := Lib.hid (fun (w1 : World) h => historyFault_any w1 A k l h hl)
  have HC := Lib.hid (fun (w1 : World) h => validate_any w1 A k l h hl)
  go_enter Try.func3, Try.ntmps3
  go_wp2_with fail
  go_at_call 17
  refine (example_any _).mono ?_
  rintro e w1 ⟨rfl, hb1⟩
  have hsz1 := hb1.size
  go_wp2_with fail
  go_at_call 18
  refine (HA.out _ (hv.below hb1)).mono ?_
  rintro e w2 ⟨rfl, hb2'⟩
  have hb2 := hb1.trans (hb2'.mono hsz1)
  have hsz2 := hb2.size
  have hb3 := hb2.alloc hsz2 (.cells #[.int .i64 (Hs.validate l).1, .int .i64 (Hs.validate l).2] 26)
  clear hb2' hb1 hsz1
  go_wp2_with fail
  go_at_call 19
  refine (HF.out _ (hv.below hb3)).mono ?_
  rintro e w4 ⟨rfl, hb4'⟩
  have hb4 := hb3.trans (hb4'.mono hb3.size)
  have hblk6 := (Blk.new w2 26 #[.int .i64 (Hs.validate l).1, .int .i64 (Hs.validate l).2]).below hb4' (by simp)
  have hsz4 := hb4.size
  have hb5 := hb4.alloc hsz4 (.cells #[.int .i64 (Hs.validate l).1, .int .i64 (Hs.validate l).2] 26)
  have hblk6' := hblk6.alloc (.cells #[.int .i64 (Hs.validate l).1, .int .i64 (Hs.validate l).2] 26)
  have hblk7 := Blk.new w4 26 #[.int .i64 (Hs.validate l).1, .int .i64 (Hs.validate l).2]
  have hcv := hv.below hb5
  have hlt6 := hblk6.lt
  clear hb4' hb3 hb2 HA HF hblk6
  have hne1 : ((Hs.validate l).1 == 0) = false := by simpa using hne
  have hne2 : ((Hs.validate l).1 != 0) = true := by simpa using hne
  have HCC := Lib.hid (HC.out _ hcv.drew)
  clear HC hcv hne hsz2
  generalize Hs.validate l = r at *
  obtain ⟨c, i⟩ := r
  simp only at *
  have q0 := hblk7.cell 0
  have q1 := hblk7.cell 1
  simp only [List.getElem?_toArray, List.getElem?_cons_zero, List.getElem?_cons_succ] at q0 q1
  go_wp2_with fail
  go_region_held3 (fun w' => w'.cell? ⟨w4.heap.size, 0, none⟩ = some (.int .i64 c) ∧ w'.cell? ⟨w4.heap.size, 1, none⟩ = some (.int .i64 i)) (first | exact ⟨q0, q1⟩ | exact ⟨q0', q1'⟩)
    (first | (go_at_call 20; refine HCC.out.mono ?_; rintro e w6 ⟨rfl, hb6⟩; have q0' := (hb6.cell (p := ⟨w4.heap.size, 0, none⟩) (by simp)).trans q0; have q1' := (hb6.cell (p := ⟨w4.heap.size, 1, none⟩) (by simp)).trans q1))
  have hb7 := (below_drew hb5).trans (hb6.mono (below_drew hb5).size)
  have hblk8 := hblk6'.drewN 1 |>.below hb6 (by simp; omega)
  have p0 := hblk8.cell 0
  have p1 := hblk8.cell 1
  simp only [List.getElem?_toArray, List.getElem?_cons_zero, List.getElem?_cons_succ] at p0 p1
  go_wp2_with fail
  go_ret
  exact ⟨rfl, hb7⟩

set_option maxRecDepth 100000 in
set_option maxHeartbeats 4000000 in
theorem law3_none (w : World) (A : Option Addr) (k : Nat) (l : List Hs.Cm) (n : Int) (hv : CV w A l) (hok : Hs.Ok l) (hn : ¬ (0 ≤ n ∧ n < l.length)) :
    Calls Try.prog 3 #[.slice A l.length k, .int .i64 n] w fun e w' => e = .returned (.bool true) ∧ Below w.heap.size w w' := by
  have hl := hok.len
  have HV := Lib.hid (Hs.validate_of_ok hok)
  have HA := Lib.hid (fun (w1 : World) h => ancestors_none w1 A k l n h hok hn)
  have HF := Lib.hid (fun (w1 : World) h => historyFault_any w1 A k l h (by omega))
  have HC := Lib.hid (fun (w1 : World) h => validate_any w1 A k l h (by omega))
  have HN := Lib.hid (show ¬ (0 ≤ n ∧ n ≤ (l.length : Int) - 1) from by omega)
  clear hn
  go_enter Try.func3, Try.ntmps3
  go_wp2_with fail
  go_at_call 17
  refine (example_any _).mono ?_
  rintro e w1 ⟨rfl, hb1⟩
  have hsz1 := hb1.size
  go_wp2_with fail
  go_at_call 18
  refine (HA.out _ (hv.below hb1)).mono ?_
  rintro e w2 ⟨rfl, hb2'⟩
  have hb2 := hb1.trans (hb2'.mono hsz1)
  have hsz2 := hb2.size
  have hb3 := hb2.alloc hsz2 (.cells #[.int .i64 6, .int .i64 (-1)] 26)
  clear hb2' hb1 hsz1
  go_wp2_with fail
  go_at_call 19
  refine (HF.out _ (hv.below hb3)).mono ?_
  rw [HV.out]
  rintro e w4 ⟨rfl, hb4'⟩
  have hb4 := hb3.trans (hb4'.mono hb3.size)
  have hblk6 := (Blk.new w2 26 #[.int .i64 6, .int .i64 (-1)]).below hb4' (by simp)
  have hsz4 := hb4.size
  have hb5 := hb4.alloc hsz4 (.cells #[.int .i64 0, .int .i64 0] 26)
  have hblk6' := hblk6.alloc (.cells #[.int .i64 0, .int .i64 0] 26)
  have hblk7 := Blk.new w4 26 #[.int .i64 0, .int .i64 0]
  have hcv := hv.below hb5
  have hlt6 := hblk6.lt
  clear hb4' hb3 hb2 HA HF hblk6
  have HCC := Lib.hid (HC.out _ hcv.drew)
  rw [HV.out] at HCC
  clear HC hcv hsz2
  have q0 := hblk7.cell 0
  have q1 := hblk7.cell 1
  simp only [List.getElem?_toArray, List.getElem?_cons_zero, List.getElem?_cons_succ] at q0 q1
  go_wp2_with fail
  go_region_held3 (fun w' => w'.cell? ⟨w4.heap.size, 0, none⟩ = some (.int .i64 0) ∧ w'.cell? ⟨w4.heap.size, 1, none⟩ = some (.int .i64 0)) (first | exact ⟨q0, q1⟩ | exact ⟨q0', q1'⟩)
    (first | (go_at_call 20; refine HCC.out.mono ?_; rintro e w6 ⟨rfl, hb6⟩; have q0' := (hb6.cell (p := ⟨w4.heap.size, 0, none⟩) (by simp)).trans q0; have q1' := (hb6.cell (p := ⟨w4.heap.size, 1, none⟩) (by simp)).trans q1))
  have hb7 := (below_drew hb5).trans (hb6.mono (below_drew hb5).size)
  have hblk8 := hblk6'.drewN 1 |>.below hb6 (by simp; omega)
  have hblk9 := hblk7.drewN 1 |>.below hb6 (by simp)
  have p0 := hblk8.cell 0
  have p1 := hblk8.cell 1
  have f0 := hblk9.frozen 0
  have f1 := hblk9.frozen 1
  have r0 := hblk9.cell 0
  have r1 := hblk9.cell 1
  have hlt9 := hblk9.lt
  have hb10 := ((hblk8.far (p := ⟨w4.heap.size, 0, none⟩) (by simp; omega) (.int .i64 6)).far (p := ⟨w4.heap.size, 1, none⟩) (by simp; omega) (.int .i64 (-1))).alloc (.cells #[.int .i64 6, .int .i64 (-1)] 26)
  have t0 := hb10.cell 0
  have t1 := hb10.cell 1
  simp only [List.getElem?_toArray, List.getElem?_cons_zero, List.getElem?_cons_succ] at p0 p1 r0 r1 t0 t1
  go_wp2_with (first | (go_at_call 21; refine (in_no _ _ _ _ HN.out).mono ?_; rintro e w' ⟨rfl, rfl⟩) | (go_at_call 22; refine (fault_any _ _ _).mono ?_; rintro e w' ⟨rfl, rfl⟩))
  go_ret
  exact ⟨rfl, ((hb7.setCell (by simp; omega) _).setCell (by simp; omega) _).alloc (by simp; exact hb7.size) _⟩

set_option maxRecDepth 100000 in
set_option maxHeartbeats 4000000 in
theorem law3_ok (w : World) (A : Option Addr) (k : Nat) (l : List Hs.Cm) (n : Nat) (hv : CV w A l) (hok : Hs.Ok l) (hn : n < l.length) :
    Calls Try.prog 3 #[.slice A l.length k, .int .i64 n] w fun e w' => e = .returned (.bool true) ∧ Below w.heap.size w w' := by
  have hl := hok.len
  have HV := Lib.hid (Hs.validate_of_ok hok)
  have HA := Lib.hid (fun (w1 : World) h => ancestors_ok w1 A k l n h hok hn)
  have HF := Lib.hid (fun (w1 : World) h => historyFault_any w1 A k l h (by omega))
  have HC := Lib.hid (fun (w1 : World) h => validate_any w1 A k l h (by omega))
  have HR := Lib.hid (fun (w1 : World) h => reach_any w1 A k l h hok)
  have HB := Lib.hid (fun (w1 : World) (A1 A2 : Option Addr) (c1 c2 : Nat) h1 h2 => bools_any w1 A1 A2 c1 c2 (ancL l n) h1 h2 (by simp [ancL]; omega))
  have hlen : (ancL l n).length = l.length := by simp [ancL]
  have HL := Lib.hid hlen
  rw [hlen] at HB
  have HN := Lib.hid (show (0 ≤ (n : Int) ∧ (n : Int) ≤ (l.length : Int) - 1) from by omega)
  have hn' : (n : Int) < l.length := by omega
  clear hlen
  go_enter Try.func3, Try.ntmps3
  go_wp2_with fail
  go_at_call 17
  refine (example_any _).mono ?_
  rintro e w1 ⟨rfl, hb1⟩
  have hsz1 := hb1.size
  go_wp2_with fail
  go_at_call 18
  refine (HA.out _ (hv.below hb1)).mono ?_
  rintro e w2 ⟨A2, c2, rfl, hc2, hv2, hb2'⟩
  rw [HL.out] at hc2 ⊢
  have hb2 := hb1.trans (hb2'.mono hsz1)
  have hsz2 := hb2.size
  have hb3 := hb2.alloc hsz2 (.cells #[.int .i64 0, .int .i64 0] 26)
  clear hb2' hb1 hsz1
  go_wp2_with fail
  go_at_call 19
  refine (HF.out _ (hv.below hb3)).mono ?_
  rw [HV.out]
  rintro e w4 ⟨rfl, hb4'⟩
  have hb4 := hb3.trans (hb4'.mono hb3.size)
  have hv4 := (hv2.alloc (.cells #[.int .i64 0, .int .i64 0] 26)).below hb4'
  have hblk6 := (Blk.new w2 26 #[.int .i64 0, .int .i64 0]).below hb4' (by simp)
  have hsz4 := hb4.size
  have hb5 := hb4.alloc hsz4 (.cells #[.int .i64 0, .int .i64 0] 26)
  have hblk6' := hblk6.alloc (.cells #[.int .i64 0, .int .i64 0] 26)
  have hblk7 := Blk.new w4 26 #[.int .i64 0, .int .i64 0]
  have hcv := hv.below hb5
  have hlt6 := hblk6.lt
  clear hb4' hb3 hb2 HA HF hblk6 hv2
  have HCC := Lib.hid (HC.out _ hcv.drew)
  rw [HV.out] at HCC
  clear HC hcv hsz2
  have q0 := hblk7.cell 0
  have q1 := hblk7.cell 1
  simp only [List.getElem?_toArray, List.getElem?_cons_zero, List.getElem?_cons_succ] at q0 q1
  go_wp2_with fail
  go_region_held3 (fun w' => w'.cell? ⟨w4.heap.size, 0, none⟩ = some (.int .i64 0) ∧ w'.cell? ⟨w4.heap.size, 1, none⟩ = some (.int .i64 0)) (first | exact ⟨q0, q1⟩ | exact ⟨q0', q1'⟩)
    (first | (go_at_call 20; refine HCC.out.mono ?_; rintro e w6 ⟨rfl, hb6⟩; have q0' := (hb6.cell (p := ⟨w4.heap.size, 0, none⟩) (by simp)).trans q0; have q1' := (hb6.cell (p := ⟨w4.heap.size, 1, none⟩) (by simp)).trans q1))
  have hb7 := (below_drew hb5).trans (hb6.mono (below_drew hb5).size)
  have hv6 := ((hv4.alloc (.cells #[.int .i64 0, .int .i64 0] 26)).drewN 1).below hb6
  have hblk8 := hblk6'.drewN 1 |>.below hb6 (by simp; omega)
  have hblk9 := hblk7.drewN 1 |>.below hb6 (by simp)
  have p0 := hblk8.cell 0
  have p1 := hblk8.cell 1
  have hlt9 := hblk9.lt
  have HR6 := Lib.hid (HR.out _ (hv.below hb7))
  clear HR HCC hv4
  simp only [List.getElem?_toArray, List.getElem?_cons_zero, List.getElem?_cons_succ] at p0 p1
  go_wp2_with (first | (go_at_call 21; refine (in_yes _ _ _ _ HN.out).mono ?_; rintro e w' ⟨rfl, rfl⟩))
  go_at_call 24
  refine HR6.out.mono ?_
  rintro e w8 ⟨A8, c8, rfl, hm, hb8⟩
  obtain ⟨b, off, A9, c9, rfl, hbl, hcell, hrow⟩ := hm.at_ n (by simpa using hn)
  rw [reachM_get] at hcell hrow
  rw [HL.out] at hcell
  have hv8 := hv6.below hb8
  have hb9 := hb7.trans (hb8.mono hb7.size)
  clear HR6 hv6
  go_wp2_with fail
  go_at_call 23
  refine (HB.out _ A2 A9 c2 c9 hv8 hrow).mono ?_
  rintro e w10 ⟨rfl, m, rfl⟩
  go_wp2_with fail
  go_ret
  exact ⟨rfl, below_drewN hb9 _⟩

theorem law3_any (w : World) (A : Option Addr) (k : Nat) (l : List Hs.Cm) (n : Int) (hv : CV w A l) (hl : l.length ≤ 9223372036854775807) :
    Calls Try.prog 3 #[.slice A l.length k, .int .i64 n] w fun e w' => e = .returned (.bool true) ∧ Below w.heap.size w w' := by
  by_cases hok : Hs.Ok l
  · by_cases hn : 0 ≤ n ∧ n < l.length
    · obtain ⟨m, rfl⟩ := Int.eq_ofNat_of_zero_le hn.1
      exact law3_ok w A k l m hv hok (by omega)
    · exact law3_none w A k l n hv hok hn
  · exact law3_bad w A k l n hv hl hok
end Go.Proofs.Ytoohmkdgimkgoaa
