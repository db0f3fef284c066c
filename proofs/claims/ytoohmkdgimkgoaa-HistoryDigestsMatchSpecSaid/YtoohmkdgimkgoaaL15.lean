/-
  HistoryDigestsMatchSpec: the law's walk.
-/
import Derived.Test.YtoohmkdgimkgoaaDg6
import Derived.Test.YtoohmkdgimkgoaaW12
import Derived.Test.YtoohmkdgimkgoaaW3
namespace Go.Proofs.Ytoohmkdgimkgoaa
open Go.RowKit Go.V
set_option linter.unusedVariables false

set_option maxRecDepth 100000 in
set_option maxHeartbeats 4000000 in
theorem law15_bad (w : World) (A : Option Addr) (k : Nat) (l : List Hs.Cm) (hv : CV w A l) (hl : l.length ≤ 9223372036854775807) (hbad : (Hs.validate l).1 ≠ 0) :
    Calls Try.prog 15 #[.slice A l.length k] w fun e w' => e = .returned (.bool true) ∧ Below w.heap.size w w' := by
  have HA := Lib.hid (fun (w1 : World) h => digests_bad w1 A k l h hl hbad)
  have HF := Lib.hid (fun (w1 : World) h => historyFault_any w1 A k l h hl)
  generalize Hs.validate l = r at *
  obtain ⟨c, i⟩ := r
  simp only at hbad
  have hc1 : (c == 0) = false := by simpa using hbad
  have hc2 : (c != 0) = true := by simpa using hbad
  clear hbad
  go_enter Try.func15, Try.ntmps15
  go_wp2_with fail
  go_at_call 17
  refine (example_any _).mono ?_
  rintro e w1 ⟨rfl, hb1⟩
  go_wp2_with fail
  go_at_call 47
  refine (HA.out _ (hv.below hb1)).mono ?_
  rintro e w2 ⟨rfl, hb2'⟩
  have hb2 := hb1.trans (hb2'.mono hb1.size)
  have hb3 := hb2.alloc hb2.size (.cells #[.int .i64 c, .int .i64 i] 26)
  clear hb1 hb2' HA
  simp only
  go_wp2_with fail
  go_at_call 19
  refine (HF.out _ (hv.below hb3)).mono ?_
  rintro e w4 ⟨rfl, hb4'⟩
  have hb4 := hb3.trans (hb4'.mono hb3.size)
  have k4 := (Blk.new w2 26 #[.int .i64 c, .int .i64 i]).below hb4' (by simp)
  have p0 := k4.cell 0
  have p1 := k4.cell 1
  have u0 := k4.lt
  simp only [List.getElem?_toArray, List.getElem?_cons_zero, List.getElem?_cons_succ] at p0 p1
  have hb5 := hb4.alloc hb4.size (.cells #[.int .i64 c, .int .i64 i] 26)
  clear hb4' hb3 HF k4
  simp only
  go_wp2_with fail
  go_ret
  exact ⟨rfl, hb5⟩

set_option maxRecDepth 100000 in
set_option maxHeartbeats 4000000 in
theorem law15_ok (w : World) (A : Option Addr) (k : Nat) (l : List Hs.Cm) (hv : CV w A l) (hok : Hs.Ok l) :
    Calls Try.prog 15 #[.slice A l.length k] w fun e w' => e = .returned (.bool true) ∧ Below w.heap.size w w' := by
  have hl60 := hok.len
  have HA := Lib.hid (fun (w1 : World) h => digests_ok w1 A k l h hok)
  have HC := Lib.hid (fun (w1 : World) h => cdigests_any w1 A k l h hok)
  have HF := Lib.hid (fun (w1 : World) h => Hs.validate_of_ok hok ▸ historyFault_any w1 A k l h (by omega))
  have HI := Lib.hid (fun (w1 : World) (A A2 : Option Addr) (c1 c2 : Nat) h1 h2 => ints_any w1 A A2 c1 c2 (Hs.ints (Hs.digL l l.length)) h1 h2 (by rw [Hs.ints_length, Hs.digL_length]; omega))
  generalize Hs.ints (Hs.digL l l.length) = xs at *
  go_enter Try.func15, Try.ntmps15
  go_wp2_with fail
  go_at_call 17
  refine (example_any _).mono ?_
  rintro e w1 ⟨rfl, hb1⟩
  go_wp2_with fail
  go_at_call 47
  refine (HA.out _ (hv.below hb1)).mono ?_
  rintro e w2 ⟨X2, c2, rfl, hcc2, hvx2, hb2'⟩
  have hb2 := hb1.trans (hb2'.mono hb1.size)
  have hb3 := hb2.alloc hb2.size (.cells #[.int .i64 0, .int .i64 0] 26)
  have hvx3 := hvx2.alloc (.cells #[.int .i64 0, .int .i64 0] 26)
  clear hb1 hb2' HA hvx2
  go_wp2_with fail
  go_at_call 19
  refine (HF.out _ (hv.below hb3)).mono ?_
  rintro e w4 ⟨rfl, hb4'⟩
  have hb4 := hb3.trans (hb4'.mono hb3.size)
  have k4 := (Blk.new w2 26 #[.int .i64 0, .int .i64 0]).below hb4' (by simp)
  have p0 := k4.cell 0
  have u0 := k4.lt
  simp only [List.getElem?_toArray, List.getElem?_cons_zero] at p0
  have hb5 := hb4.alloc hb4.size (.cells #[.int .i64 0, .int .i64 0] 26)
  have hvx5 := (hvx3.below hb4').alloc (.cells #[.int .i64 0, .int .i64 0] 26)
  clear hb4' hb3 HF k4 hvx3
  go_wp2_with fail
  go_at_call 48
  refine (HC.out _ (hv.below hb5)).mono ?_
  rintro e w6 ⟨X6, c6, rfl, hcc6, hvx6, hb6'⟩
  have hb6 := hb5.trans (hb6'.mono hb5.size)
  have hvx7 := hvx5.below hb6'
  clear hb6' hb5 HC hvx5
  go_wp2_with fail
  go_at_call 31
  refine (HI.out _ X2 X6 c2 c6 hvx7 hvx6).mono ?_
  rintro e w7 ⟨rfl, n, rfl⟩
  go_wp2_with fail
  go_ret
  exact ⟨rfl, below_drewN hb6 n⟩
theorem law15_any (w : World) (A : Option Addr) (k : Nat) (l : List Hs.Cm) (hv : CV w A l) (hl : l.length ≤ 9223372036854775807) :
    Calls Try.prog 15 #[.slice A l.length k] w fun e w' => e = .returned (.bool true) ∧ Below w.heap.size w w' := by
  by_cases h : (Hs.validate l).1 = 0
  · exact law15_ok w A k l hv (Hs.validate_ok l h).2
  · exact law15_bad w A k l hv hl h
end Go.Proofs.Ytoohmkdgimkgoaa
