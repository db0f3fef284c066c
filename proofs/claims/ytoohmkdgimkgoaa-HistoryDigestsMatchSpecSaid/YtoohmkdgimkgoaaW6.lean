/-
  Histories: walk of 'Order', where the history is not valid; the same of 'Heads', 'Generations'.
-/
import Derived.Test.YtoohmkdgimkgoaaW5
namespace Go.Proofs.Ytoohmkdgimkgoaa
open Go.RowKit Go.V
set_option linter.unusedVariables false

/-- No result beside the fault. -/
def NonePost (w : World) (r : Int × Int) (e : Ending) (w' : World) : Prop := e = .returned (.tuple #[.slice none 0 0, .agg #[.int .i64 r.1, .int .i64 r.2]]) ∧ Below w.heap.size w w'

set_option maxRecDepth 100000 in
set_option maxHeartbeats 4000000 in
theorem order_bad (w : World) (A : Option Addr) (k : Nat) (l : List Hs.Cm) (hv : CV w A l) (hl : l.length ≤ 9223372036854775807) (hbad : (Hs.validate l).1 ≠ 0) :
    Calls Try.prog 25 #[.slice A l.length k] w (NonePost w (Hs.validate l)) := by
  have hbad1 : ((Hs.validate l).1 == 0) = false := by simpa using hbad
  have hbad2 : ((Hs.validate l).1 != 0) = true := by simpa using hbad
  clear hbad
  have HC := Lib.hid (fun w1 h => validate_any w1 A k l h hl)
  go_enter Try.func25, Try.ntmps25
  go_wp2_with fail
  go_at_call 20
  refine (HC.out _ (hv.alloc _)).mono ?_
  rintro e w1 ⟨rfl, hb1⟩
  have hblk := (Blk.new w 26 #[.int .i64 0, .int .i64 0]).below hb1 (by simp)
  have hbel := (below_alloc1 w (.cells #[.int .i64 0, .int .i64 0] 26)).trans (hb1.mono (by simp))
  have hsz := hbel.size
  have hlt := hblk.lt
  have hc0 := hblk.cell 0
  have hc1 := hblk.cell 1
  have hf0 := hblk.frozen 0
  have hf1 := hblk.frozen 1
  simp only [List.getElem?_toArray, List.getElem?_cons_zero, List.getElem?_cons_succ] at hc0 hc1
  clear hb1
  generalize Hs.validate l = r at *
  obtain ⟨c, i⟩ := r
  simp only at hbad1 hbad2
  go_wp2_with fail
  go_region
  all_goals
    go_wp2_with fail
    refine bodyPost_ret (results_tc rfl _ _ w.heap.size (.int .i64 c) (.int .i64 i) rfl (((blk_put26 hblk _ _).alloc _).drewN 1)) rfl ⟨rfl, ?_⟩
    exact below_drewN (((hbel.setCell (by simp) _).setCell (by simp) _).alloc (by simp; omega) _) 1

set_option maxRecDepth 100000 in
set_option maxHeartbeats 4000000 in
theorem heads_bad (w : World) (A : Option Addr) (k : Nat) (l : List Hs.Cm) (hv : CV w A l) (hl : l.length ≤ 9223372036854775807) (hbad : (Hs.validate l).1 ≠ 0) :
    Calls Try.prog 29 #[.slice A l.length k] w (NonePost w (Hs.validate l)) := by
  have hbad1 : ((Hs.validate l).1 == 0) = false := by simpa using hbad
  have hbad2 : ((Hs.validate l).1 != 0) = true := by simpa using hbad
  clear hbad
  have HC := Lib.hid (fun w1 h => validate_any w1 A k l h hl)
  go_enter Try.func29, Try.ntmps29
  go_wp2_with fail
  go_at_call 20
  refine (HC.out _ (hv.alloc _)).mono ?_
  rintro e w1 ⟨rfl, hb1⟩
  have hblk := (Blk.new w 26 #[.int .i64 0, .int .i64 0]).below hb1 (by simp)
  have hbel := (below_alloc1 w (.cells #[.int .i64 0, .int .i64 0] 26)).trans (hb1.mono (by simp))
  have hsz := hbel.size
  have hlt := hblk.lt
  have hc0 := hblk.cell 0
  have hc1 := hblk.cell 1
  have hf0 := hblk.frozen 0
  have hf1 := hblk.frozen 1
  simp only [List.getElem?_toArray, List.getElem?_cons_zero, List.getElem?_cons_succ] at hc0 hc1
  clear hb1
  generalize Hs.validate l = r at *
  obtain ⟨c, i⟩ := r
  simp only at hbad1 hbad2
  go_wp2_with fail
  go_region
  all_goals
    go_wp2_with fail
    refine bodyPost_ret (results_tc rfl _ _ w.heap.size (.int .i64 c) (.int .i64 i) rfl (((blk_put26 hblk _ _).alloc _).drewN 1)) rfl ⟨rfl, ?_⟩
    exact below_drewN (((hbel.setCell (by simp) _).setCell (by simp) _).alloc (by simp; omega) _) 1

set_option maxRecDepth 100000 in
set_option maxHeartbeats 4000000 in
theorem gens_bad (w : World) (A : Option Addr) (k : Nat) (l : List Hs.Cm) (hv : CV w A l) (hl : l.length ≤ 9223372036854775807) (hbad : (Hs.validate l).1 ≠ 0) :
    Calls Try.prog 33 #[.slice A l.length k] w (NonePost w (Hs.validate l)) := by
  have hbad1 : ((Hs.validate l).1 == 0) = false := by simpa using hbad
  have hbad2 : ((Hs.validate l).1 != 0) = true := by simpa using hbad
  clear hbad
  have HC := Lib.hid (fun w1 h => validate_any w1 A k l h hl)
  go_enter Try.func33, Try.ntmps33
  go_wp2_with fail
  go_at_call 20
  refine (HC.out _ (hv.alloc _)).mono ?_
  rintro e w1 ⟨rfl, hb1⟩
  have hblk := (Blk.new w 26 #[.int .i64 0, .int .i64 0]).below hb1 (by simp)
  have hbel := (below_alloc1 w (.cells #[.int .i64 0, .int .i64 0] 26)).trans (hb1.mono (by simp))
  have hsz := hbel.size
  have hlt := hblk.lt
  have hc0 := hblk.cell 0
  have hc1 := hblk.cell 1
  have hf0 := hblk.frozen 0
  have hf1 := hblk.frozen 1
  simp only [List.getElem?_toArray, List.getElem?_cons_zero, List.getElem?_cons_succ] at hc0 hc1
  clear hb1
  generalize Hs.validate l = r at *
  obtain ⟨c, i⟩ := r
  simp only at hbad1 hbad2
  go_wp2_with fail
  go_region
  all_goals
    go_wp2_with fail
    refine bodyPost_ret (results_tc rfl _ _ w.heap.size (.int .i64 c) (.int .i64 i) rfl (((blk_put26 hblk _ _).alloc _).drewN 1)) rfl ⟨rfl, ?_⟩
    exact below_drewN (((hbel.setCell (by simp) _).setCell (by simp) _).alloc (by simp; omega) _) 1

set_option maxRecDepth 100000 in
set_option maxHeartbeats 4000000 in
theorem digests_bad (w : World) (A : Option Addr) (k : Nat) (l : List Hs.Cm) (hv : CV w A l) (hl : l.length ≤ 9223372036854775807) (hbad : (Hs.validate l).1 ≠ 0) :
    Calls Try.prog 47 #[.slice A l.length k] w (NonePost w (Hs.validate l)) := by
  have hbad1 : ((Hs.validate l).1 == 0) = false := by simpa using hbad
  have hbad2 : ((Hs.validate l).1 != 0) = true := by simpa using hbad
  clear hbad
  have HC := Lib.hid (fun w1 h => validate_any w1 A k l h hl)
  go_enter Try.func47, Try.ntmps47
  go_wp2_with fail
  go_at_call 20
  refine (HC.out _ (hv.alloc _)).mono ?_
  rintro e w1 ⟨rfl, hb1⟩
  have hblk := (Blk.new w 26 #[.int .i64 0, .int .i64 0]).below hb1 (by simp)
  have hbel := (below_alloc1 w (.cells #[.int .i64 0, .int .i64 0] 26)).trans (hb1.mono (by simp))
  have hsz := hbel.size
  have hlt := hblk.lt
  have hc0 := hblk.cell 0
  have hc1 := hblk.cell 1
  have hf0 := hblk.frozen 0
  have hf1 := hblk.frozen 1
  simp only [List.getElem?_toArray, List.getElem?_cons_zero, List.getElem?_cons_succ] at hc0 hc1
  clear hb1
  generalize Hs.validate l = r at *
  obtain ⟨c, i⟩ := r
  simp only at hbad1 hbad2
  go_wp2_with fail
  go_region
  all_goals
    go_wp2_with fail
    refine bodyPost_ret (results_tc rfl _ _ w.heap.size (.int .i64 c) (.int .i64 i) rfl (((blk_put26 hblk _ _).alloc _).drewN 1)) rfl ⟨rfl, ?_⟩
    exact below_drewN (((hbel.setCell (by simp) _).setCell (by simp) _).alloc (by simp; omega) _) 1

set_option maxRecDepth 100000 in
set_option maxHeartbeats 4000000 in
theorem ancestors_bad (w : World) (A : Option Addr) (k : Nat) (l : List Hs.Cm) (n : Int) (hv : CV w A l) (hl : l.length ≤ 9223372036854775807) (hbad : (Hs.validate l).1 ≠ 0) :
    Calls Try.prog 18 #[.slice A l.length k, .int .i64 n] w (NonePost w (Hs.validate l)) := by
  have hbad1 : ((Hs.validate l).1 == 0) = false := by simpa using hbad
  have hbad2 : ((Hs.validate l).1 != 0) = true := by simpa using hbad
  clear hbad
  have HC := Lib.hid (fun w1 h => validate_any w1 A k l h hl)
  go_enter Try.func18, Try.ntmps18
  go_wp2_with fail
  go_at_call 20
  refine (HC.out _ (hv.alloc _)).mono ?_
  rintro e w1 ⟨rfl, hb1⟩
  have hblk := (Blk.new w 26 #[.int .i64 0, .int .i64 0]).below hb1 (by simp)
  have hbel := (below_alloc1 w (.cells #[.int .i64 0, .int .i64 0] 26)).trans (hb1.mono (by simp))
  have hsz := hbel.size
  have hlt := hblk.lt
  have hc0 := hblk.cell 0
  have hc1 := hblk.cell 1
  have hf0 := hblk.frozen 0
  have hf1 := hblk.frozen 1
  simp only [List.getElem?_toArray, List.getElem?_cons_zero, List.getElem?_cons_succ] at hc0 hc1
  clear hb1
  generalize Hs.validate l = r at *
  obtain ⟨c, i⟩ := r
  simp only at hbad1 hbad2
  go_wp2_with fail
  go_region
  all_goals
    go_wp2_with fail
    refine bodyPost_ret (results_tc rfl _ _ w.heap.size (.int .i64 c) (.int .i64 i) rfl (((blk_put26 hblk _ _).alloc _).drewN 1)) rfl ⟨rfl, ?_⟩
    exact below_drewN (((hbel.setCell (by simp) _).setCell (by simp) _).alloc (by simp; omega) _) 1

set_option maxRecDepth 100000 in
set_option maxHeartbeats 4000000 in
theorem octopus_bad (w : World) (A : Option Addr) (k : Nat) (l : List Hs.Cm) (A2 : Option Addr) (n2 k2 : Nat) (hv : CV w A l) (hl : l.length ≤ 9223372036854775807) (hbad : (Hs.validate l).1 ≠ 0) :
    Calls Try.prog 30 #[.slice A l.length k, .slice A2 n2 k2] w (NonePost w (Hs.validate l)) := by
  have hbad1 : ((Hs.validate l).1 == 0) = false := by simpa using hbad
  have hbad2 : ((Hs.validate l).1 != 0) = true := by simpa using hbad
  clear hbad
  have HC := Lib.hid (fun w1 h => validate_any w1 A k l h hl)
  go_enter Try.func30, Try.ntmps30
  go_wp2_with fail
  go_at_call 20
  refine (HC.out _ (hv.alloc _)).mono ?_
  rintro e w1 ⟨rfl, hb1⟩
  have hblk := (Blk.new w 26 #[.int .i64 0, .int .i64 0]).below hb1 (by simp)
  have hbel := (below_alloc1 w (.cells #[.int .i64 0, .int .i64 0] 26)).trans (hb1.mono (by simp))
  have hsz := hbel.size
  have hlt := hblk.lt
  have hc0 := hblk.cell 0
  have hc1 := hblk.cell 1
  have hf0 := hblk.frozen 0
  have hf1 := hblk.frozen 1
  simp only [List.getElem?_toArray, List.getElem?_cons_zero, List.getElem?_cons_succ] at hc0 hc1
  clear hb1
  generalize Hs.validate l = r at *
  obtain ⟨c, i⟩ := r
  simp only at hbad1 hbad2
  go_wp2_with fail
  go_region
  all_goals
    go_wp2_with fail
    refine bodyPost_ret (results_tc rfl _ _ w.heap.size (.int .i64 c) (.int .i64 i) rfl (((blk_put26 hblk _ _).alloc _).drewN 1)) rfl ⟨rfl, ?_⟩
    exact below_drewN (((hbel.setCell (by simp) _).setCell (by simp) _).alloc (by simp; omega) _) 1

end Go.Proofs.Ytoohmkdgimkgoaa
