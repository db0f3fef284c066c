/-
  PackBuildMatchesSpec: the law's walk.
-/
import Derived.Test.YtiilhnfdlpgllaaPk12
import Derived.Deep.RegionWith
namespace Go.Proofs.Ytiilhnfdlpgllaa
open Go.RowKit Go.V
set_option linter.unusedVariables false

set_option maxRecDepth 100000 in
set_option maxHeartbeats 16000000 in
theorem law3_any (w : World) (A : Option Addr) (k : Nat) (s : List Ob.S) (hv : StV w Free A s) (hl64 : s.length ≤ 9223372036854775807) :
    Calls Try.prog 3 #[stV A s.length k] w fun e w' => e = .returned (.bool true) ∧ Below w.heap.size w w' := by
  have HV := Lib.hid (fun (w' : World) (hb : Below w.heap.size w w') => hv.keep (free_below hb))
  have HC15 := Lib.hid (fun (w1 : World) (hb : Below w.heap.size w w1) => build_all w1 A k s (HV.out _ hb) hl64)
  have HC16 := Lib.hid (fun (w1 : World) (hb : Below w.heap.size w w1) => storeFault_any w1 A k s (HV.out _ hb) hl64)
  have HC17 := Lib.hid (fun (w1 : World) (hb : Below w.heap.size w w1) (h : Ob.StOk s) => packBytes_any w1 A k s (HV.out _ hb) (by have := h.len; omega) h.ok)
  clear hv
  go_enter Try.func3, Try.ntmps3
  go_wp2_with fail
  go_at_call 14
  refine (example_any _).mono ?_
  rintro e w1 ⟨rfl, hb1'⟩
  have hb1 := (below_alloc1 w (.cells #[.slice A s.length k] 24)).trans (hb1'.mono (by simp))
  have box1 := (Blk.new w 24 #[.slice A s.length k]).below hb1' (by simp)
  have p0 := box1.cell 0
  have hl1 := box1.lt
  simp only [List.getElem?_toArray, List.getElem?_cons_zero] at p0
  clear hb1'
  go_wp2_with fail
  go_at_call 15
  refine (HC15.out _ hb1).mono ?_
  rintro e w2 ⟨hb2', hres⟩
  have hb2 := hb1.trans (hb2'.mono hb1.size)
  have box2 := box1.below hb2' hl1
  have hl2 := box2.lt
  clear hb2' box1 p0 hl1
  rcases hres with ⟨hne, rfl⟩ | ⟨hok, hbig, rfl⟩ | ⟨hok, hsm, A2, c2, rfl, hc2, hs2⟩
  · have hbx := hb2.alloc hb2.size (.cells #[.int .i64 (Ob.stF s).1, .int .i64 (Ob.stF s).2] 28)
    have k4 := Blk.new w2 28 #[.int .i64 (Ob.stF s).1, .int .i64 (Ob.stF s).2]
    have q0 := box2.cell 0
    simp only [List.getElem?_toArray, List.getElem?_cons_zero] at q0
    go_wp2_with fail
    go_at_call 16
    refine (HC16.out _ hbx).mono ?_
    rintro e w3 ⟨rfl, hb3'⟩
    have hb3 := hbx.trans (hb3'.mono hbx.size)
    have k43 := k4.below hb3' k4.lt
    have hb1x : ((Ob.stF s).1 == 0) = false := by simpa using hne
    have hb2x : ((Ob.stF s).1 != 0) = true := by simpa using hne
    clear HV HC15 HC16 HC17 hbx k4 hb3' box2 hb2 hb1 q0
    generalize Ob.stF s = r at *
    obtain ⟨cd, ix⟩ := r
    simp only at hb1x hb2x k43 ⊢
    have p0 := k43.cell 0
    have p1 := k43.cell 1
    have l1 := k43.lt
    simp only [List.getElem?_toArray, List.getElem?_cons_zero, List.getElem?_cons_succ] at p0 p1
    go_wp2_with fail
    go_ret
    exact ⟨rfl, hb3.alloc hb3.size _⟩
  · have hbx := hb2.alloc hb2.size (.cells #[.int .i64 10, .int .i64 (-1)] 28)
    have k4 := Blk.new w2 28 #[.int .i64 10, .int .i64 (-1)]
    have box3 := box2.alloc (.cells #[.int .i64 10, .int .i64 (-1)] 28)
    have q0 := box2.cell 0
    simp only [List.getElem?_toArray, List.getElem?_cons_zero] at q0
    go_wp2_with fail
    go_at_call 16
    refine (HC16.out _ hbx).mono ?_
    rw [hok.f]
    rintro e w3 ⟨rfl, hb3'⟩
    have hb3 := hbx.trans (hb3'.mono hbx.size)
    have hne : w2.heap.size < w3.heap.size := (k4.below hb3' k4.lt).lt
    have k43 := (k4.below hb3' k4.lt).alloc (.cells #[.int .i64 0, .int .i64 0] 28)
    have box4 := box3.below hb3' box3.lt
    have hb4 := hb3.alloc hb3.size (.cells #[.int .i64 0, .int .i64 0] 28)
    have k5 := Blk.new w3 28 #[.int .i64 0, .int .i64 0]
    have r0 := box4.cell 0
    have rl := box4.lt
    simp only [List.getElem?_toArray, List.getElem?_cons_zero] at r0
    have hbig' : (4096 : Int) < (packB s).length := by omega
    have HP := Lib.hid (HC17.out _ hb4 hok)
    clear HV HC15 HC16 HC17 hbx k4 hb3' box2 box3 hb2 hb1 q0 hok
    go_wp2_with fail
    go_at_call 17
    refine HP.out.mono ?_
    rintro e w5 ⟨A5, c5, rfl, _, _, hb5⟩
    have hb6 := hb4.trans (hb5.mono hb4.size)
    have k45 := k43.below hb5 k43.lt
    have k55 := k5.below hb5 k5.lt
    have p0 := k45.cell 0
    have p1 := k45.cell 1
    have l1 := k45.lt
    have t0 := k55.cell 0
    have t1 := k55.cell 1
    have t2 := k55.frozen 0
    have t3 := k55.frozen 1
    have l2 := k55.lt
    simp only [List.getElem?_toArray, List.getElem?_cons_zero, List.getElem?_cons_succ] at p0 p1 t0 t1
    generalize packB s = pb at *
    go_wp2_with (go_at_call 18; refine (fault_any _ _ _).mono ?_; rintro e w' ⟨rfl, rfl⟩)
    go_ret
    refine ⟨rfl, ?_⟩
    exact ((hb6.setCell hb3.size _).setCell hb3.size _).alloc (by simpa using hb6.size) _
  · have hbx := hb2.alloc hb2.size (.cells #[.int .i64 0, .int .i64 0] 28)
    have k4 := Blk.new w2 28 #[.int .i64 0, .int .i64 0]
    have box3 := box2.alloc (.cells #[.int .i64 0, .int .i64 0] 28)
    have q0 := box2.cell 0
    simp only [List.getElem?_toArray, List.getElem?_cons_zero] at q0
    have HS2 := Lib.hid (fun (w' : World) (hb : Below w2.heap.size w2 w') => (hs2.mono (X' := Free) (fun _ h => h.elim)).keep (free_below hb))
    go_wp2_with fail
    go_at_call 16
    refine (HC16.out _ hbx).mono ?_
    rw [hok.f]
    rintro e w3 ⟨rfl, hb3'⟩
    have hb3 := hbx.trans (hb3'.mono hbx.size)
    have k43 := (k4.below hb3' k4.lt).alloc (.cells #[.int .i64 0, .int .i64 0] 28)
    have box4 := (box3.below hb3' box3.lt).alloc (.cells #[.int .i64 0, .int .i64 0] 28)
    have hb4 := hb3.alloc hb3.size (.cells #[.int .i64 0, .int .i64 0] 28)
    have k5 := Blk.new w3 28 #[.int .i64 0, .int .i64 0]
    have r0 := box4.cell 0
    have rl := box4.lt
    simp only [List.getElem?_toArray, List.getElem?_cons_zero] at r0
    have hsm' : ¬ (4096 : Int) < (packB s).length := by omega
    have HP := Lib.hid (fun (w1 : World) (hb : Below w.heap.size w w1) => HC17.out w1 hb hok)
    have hz2 := hb2.size
    have hz3 := hb3'.size
    have hbq : Below w2.heap.size w2 (w3.alloc (.cells #[.int .i64 0, .int .i64 0] 28)) := ((below_alloc1 w2 _).trans (hb3'.mono (by simp))).alloc (by simp at hz3; omega) _
    clear HV HC15 HC16 HC17 hbx k4 hb3' box2 box3 hb2 hb1 q0 hok hs2
    go_wp2_with fail
    go_at_call 17
    refine (HP.out _ hb4).mono ?_
    rintro e w5 ⟨A5, c5, rfl, _, _, hb5⟩
    have hb6 := hb4.trans (hb5.mono hb4.size)
    have k45 := k43.below hb5 k43.lt
    have k55 := k5.below hb5 k5.lt
    have box5 := box4.below hb5 box4.lt
    have hb7 := hbq.trans (hb5.mono hbq.size)
    have p0 := k45.cell 0
    have p1 := k45.cell 1
    have l1 := k45.lt
    have t0 := k55.cell 0
    have t1 := k55.cell 1
    have x0 := box5.cell 0
    have xl := box5.lt
    simp only [List.getElem?_toArray, List.getElem?_cons_zero, List.getElem?_cons_succ] at p0 p1 t0 t1 x0
    have HK : Hid (∀ w6 : World, Below w5.heap.size w5 w6 → w6.cell? ⟨w.heap.size, 0, none⟩ = some (.slice A s.length k) ∧ w6.cell? ⟨w2.heap.size, 0, none⟩ = some (.int .i64 0) ∧ (convert 26 9 (.slice A2 (packB s).length c2)).run Try.prog w6 = .ok (.string ⟨(packB s).toArray⟩) w6) := Lib.hid fun w6 hb =>
      ⟨(hb.cell (p := ⟨_, 0, none⟩) xl).trans x0, (hb.cell (p := ⟨_, 0, none⟩) l1).trans p0, run_conv_str (P := Try.prog) 26 9 5 c2 Try.underlying26 Try.underlying5 Try.underlying9 (HS2.out _ (hb7.trans (hb.mono hb7.size))).sv⟩
    have hk0 : Below w5.heap.size w5 w5.drew := below_drew' (Below.refl _ _)
    have HP2 := Lib.hid (HP.out _ (below_drew' hb6))
    have e1 := (HK.out _ hk0).2.2
    clear hb5 hb7 k45 k55 box5 HP HS2 k43 k5 box4 hbq
    generalize packB s = pb at *
    go_wp2_with fail
    go_region_with ((go_at_call 17; (with_reducible refine HP2.out.mono ?_); rintro e w6 ⟨A6, c6, rfl, hc6, hs6, hb6'⟩; have hb9 : Below w5.heap.size w5 w6 := hk0.trans (hb6'.mono hk0.size); have ec6 := run_conv_str (P := Try.prog) 26 9 5 c6 Try.underlying26 Try.underlying5 Try.underlying9 hs6.sv; have e16 := (HK.out _ hb9).2.2; have e17 := (HK.out _ hb9).2.1))
    all_goals
      go_wp2_with fail
      go_ret
      exact ⟨rfl, hb6.trans (hb9.mono hb6.size)⟩
end Go.Proofs.Ytiilhnfdlpgllaa
