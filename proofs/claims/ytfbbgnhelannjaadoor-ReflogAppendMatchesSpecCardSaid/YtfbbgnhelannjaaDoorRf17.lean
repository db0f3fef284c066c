/-
  References: the example; RefsNameMatchesSpec: the law's walk.
-/
import Derived.Test.YtfbbgnhelannjaaDoorRf16
namespace Rf
def mainN : Nm := [109, 97, 105, 110]
theorem ok_nil : Ok [] := ⟨by decide, by simp, by simp, List.Pairwise.nil, List.Pairwise.nil⟩
theorem ex_c1 : upC [] ⟨mainN, -1, 5⟩ = 0 := by decide +kernel
theorem ex_s1 : upS [] ⟨mainN, -1, 5⟩ = [⟨mainN, 5⟩] := by decide +kernel
theorem ex_ok1 : Ok [⟨mainN, 5⟩] := by have := ok_nil.up (upC_ok.1 ex_c1); rwa [ex_s1] at this
theorem ex_1 : upF [] ⟨mainN, -1, 5⟩ = ([⟨mainN, 5⟩], (0, 0)) := by unfold upF; rw [ok_nil.f, ex_c1, ex_s1]; rfl
theorem ex_2 : upF [⟨mainN, 5⟩] ⟨mainN, 5, 7⟩ = ([⟨mainN, 7⟩], (0, 0)) := by
  have h1 : upC [⟨mainN, 5⟩] ⟨mainN, 5, 7⟩ = 0 := by decide +kernel
  have h2 : upS [⟨mainN, 5⟩] ⟨mainN, 5, 7⟩ = [⟨mainN, 7⟩] := by decide +kernel
  unfold upF; rw [ex_ok1.f, h1, h2]; rfl
theorem ex_3 : upF [⟨mainN, 5⟩] ⟨mainN, 4, 7⟩ = ([], (16, -1)) := by
  have h1 : upC [⟨mainN, 5⟩] ⟨mainN, 4, 7⟩ = 16 := by decide +kernel
  unfold upF; rw [ex_ok1.f, h1]; rfl
theorem ex_name : nameOk [104, 101, 97, 100, 115, 47, 109, 97, 105, 110] = true := by decide +kernel
end Rf
namespace Go.Proofs.YtfbbgnhelannjaaDoor
open Go.RowKit Go.V Go.Shelf Go.Lib
set_option linter.unusedVariables false

theorem fault_b (w : World) (c i : Int) : Calls Tryd.prog 21 #[.int .i64 c, .int .i64 i] w fun e w' => e = .returned (.agg #[.int .i64 c, .int .i64 i]) ∧ Below w.heap.size w w' :=
  (fault_any w c i).mono fun e w' ⟨h1, h2⟩ => ⟨h1, by rw [← h2]; exact below_alloc1 _ _⟩
set_option maxRecDepth 100000 in
set_option maxHeartbeats 16000000 in
theorem example_any (w : World) (hm : Mx w) : Calls Tryd.prog 15 #[] w fun e w' => e = .returned (.bool true) ∧ Below w.heap.size w w' := by
  have hM := Lib.hid hm
  clear hm
  have HB0 := Lib.hid (Below.refl w.heap.size w)
  go_enter Tryd.func15, Tryd.ntmps15
  have HU := Lib.hid (update_any w hM.out none 0 [] ⟨Rf.mainN, -1, 5⟩ SA.nil (by simp) (by simp))
  rw [Rf.ex_1] at HU
  go_wp2_with fail
  go_at_call 18
  refine (HU.out).mono ?_
  rintro e w1 ⟨A1, c1, rfl, hc1, hs1, hb1'⟩
  have HBm1 := Lib.hid (HB0.out.trans (hb1'.mono HB0.out.size))
  replace hM := Lib.hid (hM.out.below hb1')
  have V1 := Lib.hid (hs1.mono (X' := Free) (fun _ h => h.elim))
  clear hs1
  clear hb1'
  have x1 := Blk.new w1 26 #[.slice A1 1 c1]
  have HBa1 := Lib.hid (HBm1.out.alloc HBm1.out.size (.cells #[.slice A1 1 c1] 26))
  replace hM := Lib.hid (hM.out.below (below_alloc1 w1 (.cells #[.slice A1 1 c1] 26)))
  replace V1 := Lib.hid (V1.out.keep (Keeps.alloc w1 _ (.cells #[.slice A1 1 c1] 26)))
  replace x1 := x1.alloc (.cells #[.int .i64 0, .int .i64 0] 30)
  have x2 : Blk ((w1.alloc (.cells #[.slice A1 1 c1] 26)).alloc (.cells #[.int .i64 0, .int .i64 0] 30)) (w1.heap.size + 1) 30 #[.int .i64 0, .int .i64 0] := by simpa using Blk.new (w1.alloc (.cells #[.slice A1 1 c1] 26)) 30 #[.int .i64 0, .int .i64 0]
  have HBa2 := Lib.hid (HBa1.out.alloc HBa1.out.size (.cells #[.int .i64 0, .int .i64 0] 30))
  replace hM := Lib.hid (hM.out.below (below_alloc1 (w1.alloc (.cells #[.slice A1 1 c1] 26)) (.cells #[.int .i64 0, .int .i64 0] 30)))
  replace V1 := Lib.hid (V1.out.keep (Keeps.alloc (w1.alloc (.cells #[.slice A1 1 c1] 26)) _ (.cells #[.int .i64 0, .int .i64 0] 30)))
  replace hc1 : 1 ≤ c1 := by simpa using hc1
  have HU := Lib.hid (update_any ((w1.alloc (.cells #[.slice A1 1 c1] 26)).alloc (.cells #[.int .i64 0, .int .i64 0] 30)) hM.out A1 c1 [⟨Rf.mainN, 5⟩] ⟨Rf.mainN, 5, 7⟩ V1.out (by simp) (by simpa using hc1))
  rw [Rf.ex_2] at HU
  go_wp2_with fail
  go_at_call 18
  refine (HU.out).mono ?_
  rintro e w2 ⟨A2, c2, rfl, hc2, hs2, hb2'⟩
  have HBm2 := Lib.hid (HBa2.out.trans (hb2'.mono HBa2.out.size))
  replace x1 := x1.below hb2' x1.lt
  replace x2 := x2.below hb2' x2.lt
  replace hM := Lib.hid (hM.out.below hb2')
  replace V1 := Lib.hid (V1.out.keep (free_below hb2'))
  have x1_l : w1.heap.size < w2.heap.size := x1.lt
  have x1_l1 : w1.heap.size < w2.heap.size + 1 := Nat.lt_succ_of_lt x1_l
  have x1_l2 : w1.heap.size < w2.heap.size + 1 + 1 := Nat.lt_succ_of_lt x1_l1
  have x1_0 : w2.cell? ⟨w1.heap.size, 0, none⟩ = some (.slice A1 1 c1) := (x1.cell 0).trans rfl
  have x2_l : w1.heap.size + 1 < w2.heap.size := x2.lt
  have x2_l1 : w1.heap.size + 1 < w2.heap.size + 1 := Nat.lt_succ_of_lt x2_l
  have x2_l2 : w1.heap.size + 1 < w2.heap.size + 1 + 1 := Nat.lt_succ_of_lt x2_l1
  have x2_0 : w2.cell? ⟨w1.heap.size + 1, 0, none⟩ = some (.int .i64 0) := (x2.cell 0).trans rfl
  have x2_1 : w2.cell? ⟨w1.heap.size + 1, 1, none⟩ = some (.int .i64 0) := (x2.cell 1).trans rfl
  have V2 := Lib.hid (hs2.mono (X' := Free) (fun _ h => h.elim))
  clear hs2
  clear hb2'
  replace x1 := x1.alloc (.cells #[.slice A2 1 c2] 26)
  replace x2 := x2.alloc (.cells #[.slice A2 1 c2] 26)
  have x3 := Blk.new w2 26 #[.slice A2 1 c2]
  have HBa3 := Lib.hid (HBm2.out.alloc HBm2.out.size (.cells #[.slice A2 1 c2] 26))
  replace hM := Lib.hid (hM.out.below (below_alloc1 w2 (.cells #[.slice A2 1 c2] 26)))
  replace V1 := Lib.hid (V1.out.keep (Keeps.alloc w2 _ (.cells #[.slice A2 1 c2] 26)))
  replace V2 := Lib.hid (V2.out.keep (Keeps.alloc w2 _ (.cells #[.slice A2 1 c2] 26)))
  replace x1 := x1.alloc (.cells #[.int .i64 0, .int .i64 0] 30)
  replace x2 := x2.alloc (.cells #[.int .i64 0, .int .i64 0] 30)
  replace x3 := x3.alloc (.cells #[.int .i64 0, .int .i64 0] 30)
  have x4 : Blk ((w2.alloc (.cells #[.slice A2 1 c2] 26)).alloc (.cells #[.int .i64 0, .int .i64 0] 30)) (w2.heap.size + 1) 30 #[.int .i64 0, .int .i64 0] := by simpa using Blk.new (w2.alloc (.cells #[.slice A2 1 c2] 26)) 30 #[.int .i64 0, .int .i64 0]
  have HBa4 := Lib.hid (HBa3.out.alloc HBa3.out.size (.cells #[.int .i64 0, .int .i64 0] 30))
  replace hM := Lib.hid (hM.out.below (below_alloc1 (w2.alloc (.cells #[.slice A2 1 c2] 26)) (.cells #[.int .i64 0, .int .i64 0] 30)))
  replace V1 := Lib.hid (V1.out.keep (Keeps.alloc (w2.alloc (.cells #[.slice A2 1 c2] 26)) _ (.cells #[.int .i64 0, .int .i64 0] 30)))
  replace V2 := Lib.hid (V2.out.keep (Keeps.alloc (w2.alloc (.cells #[.slice A2 1 c2] 26)) _ (.cells #[.int .i64 0, .int .i64 0] 30)))
  have HU := Lib.hid (update_any ((w2.alloc (.cells #[.slice A2 1 c2] 26)).alloc (.cells #[.int .i64 0, .int .i64 0] 30)) hM.out A1 c1 [⟨Rf.mainN, 5⟩] ⟨Rf.mainN, 4, 7⟩ V1.out (by simp) (by simpa using hc1))
  rw [Rf.ex_3] at HU
  go_wp2_with fail
  go_at_call 18
  refine (HU.out).mono ?_
  rintro e w3 ⟨A3, c3, rfl, hc3, hs3, hb3'⟩
  have HBm3 := Lib.hid (HBa4.out.trans (hb3'.mono HBa4.out.size))
  replace x1 := x1.below hb3' x1.lt
  replace x2 := x2.below hb3' x2.lt
  replace x3 := x3.below hb3' x3.lt
  replace x4 := x4.below hb3' x4.lt
  replace hM := Lib.hid (hM.out.below hb3')
  replace V1 := Lib.hid (V1.out.keep (free_below hb3'))
  replace V2 := Lib.hid (V2.out.keep (free_below hb3'))
  clear x1_l x1_l1 x1_l2 x1_0 x2_l x2_l1 x2_l2 x2_0 x2_1
  have x1_l : w1.heap.size < w3.heap.size := x1.lt
  have x1_l1 : w1.heap.size < w3.heap.size + 1 := Nat.lt_succ_of_lt x1_l
  have x1_l2 : w1.heap.size < w3.heap.size + 1 + 1 := Nat.lt_succ_of_lt x1_l1
  have x1_0 : w3.cell? ⟨w1.heap.size, 0, none⟩ = some (.slice A1 1 c1) := (x1.cell 0).trans rfl
  have x2_l : w1.heap.size + 1 < w3.heap.size := x2.lt
  have x2_l1 : w1.heap.size + 1 < w3.heap.size + 1 := Nat.lt_succ_of_lt x2_l
  have x2_l2 : w1.heap.size + 1 < w3.heap.size + 1 + 1 := Nat.lt_succ_of_lt x2_l1
  have x2_0 : w3.cell? ⟨w1.heap.size + 1, 0, none⟩ = some (.int .i64 0) := (x2.cell 0).trans rfl
  have x2_1 : w3.cell? ⟨w1.heap.size + 1, 1, none⟩ = some (.int .i64 0) := (x2.cell 1).trans rfl
  have x3_l : w2.heap.size < w3.heap.size := x3.lt
  have x3_l1 : w2.heap.size < w3.heap.size + 1 := Nat.lt_succ_of_lt x3_l
  have x3_l2 : w2.heap.size < w3.heap.size + 1 + 1 := Nat.lt_succ_of_lt x3_l1
  have x3_0 : w3.cell? ⟨w2.heap.size, 0, none⟩ = some (.slice A2 1 c2) := (x3.cell 0).trans rfl
  have x4_l : w2.heap.size + 1 < w3.heap.size := x4.lt
  have x4_l1 : w2.heap.size + 1 < w3.heap.size + 1 := Nat.lt_succ_of_lt x4_l
  have x4_l2 : w2.heap.size + 1 < w3.heap.size + 1 + 1 := Nat.lt_succ_of_lt x4_l1
  have x4_0 : w3.cell? ⟨w2.heap.size + 1, 0, none⟩ = some (.int .i64 0) := (x4.cell 0).trans rfl
  have x4_1 : w3.cell? ⟨w2.heap.size + 1, 1, none⟩ = some (.int .i64 0) := (x4.cell 1).trans rfl
  have V3 := Lib.hid (hs3.mono (X' := Free) (fun _ h => h.elim))
  clear hs3
  clear hb3'
  obtain ⟨b1, o1, rfl, hb1, _, _, d1⟩ := rsV_row V1.out 0 (by simp)
  obtain ⟨b2, o2, rfl, hb2, _, _, d2⟩ := rsV_row V2.out 0 (by simp)
  replace d1 : _ = some (Value.int .i64 5) := d1
  replace d2 : _ = some (Value.int .i64 7) := d2
  simp only [Nat.zero_mul, Nat.add_zero] at d1 d2
  replace x1 := x1.alloc (.cells #[.slice A3 0 c3] 26)
  replace x2 := x2.alloc (.cells #[.slice A3 0 c3] 26)
  replace x3 := x3.alloc (.cells #[.slice A3 0 c3] 26)
  replace x4 := x4.alloc (.cells #[.slice A3 0 c3] 26)
  have x5 := Blk.new w3 26 #[.slice A3 0 c3]
  have HBa5 := Lib.hid (HBm3.out.alloc HBm3.out.size (.cells #[.slice A3 0 c3] 26))
  replace hM := Lib.hid (hM.out.below (below_alloc1 w3 (.cells #[.slice A3 0 c3] 26)))
  replace V1 := Lib.hid (V1.out.keep (Keeps.alloc w3 _ (.cells #[.slice A3 0 c3] 26)))
  replace V2 := Lib.hid (V2.out.keep (Keeps.alloc w3 _ (.cells #[.slice A3 0 c3] 26)))
  replace V3 := Lib.hid (V3.out.keep (Keeps.alloc w3 _ (.cells #[.slice A3 0 c3] 26)))
  replace x1 := x1.alloc (.cells #[.int .i64 16, .int .i64 (-1)] 30)
  replace x2 := x2.alloc (.cells #[.int .i64 16, .int .i64 (-1)] 30)
  replace x3 := x3.alloc (.cells #[.int .i64 16, .int .i64 (-1)] 30)
  replace x4 := x4.alloc (.cells #[.int .i64 16, .int .i64 (-1)] 30)
  replace x5 := x5.alloc (.cells #[.int .i64 16, .int .i64 (-1)] 30)
  have x6 : Blk ((w3.alloc (.cells #[.slice A3 0 c3] 26)).alloc (.cells #[.int .i64 16, .int .i64 (-1)] 30)) (w3.heap.size + 1) 30 #[.int .i64 16, .int .i64 (-1)] := by simpa using Blk.new (w3.alloc (.cells #[.slice A3 0 c3] 26)) 30 #[.int .i64 16, .int .i64 (-1)]
  have HBa6 := Lib.hid (HBa5.out.alloc HBa5.out.size (.cells #[.int .i64 16, .int .i64 (-1)] 30))
  replace hM := Lib.hid (hM.out.below (below_alloc1 (w3.alloc (.cells #[.slice A3 0 c3] 26)) (.cells #[.int .i64 16, .int .i64 (-1)] 30)))
  replace V1 := Lib.hid (V1.out.keep (Keeps.alloc (w3.alloc (.cells #[.slice A3 0 c3] 26)) _ (.cells #[.int .i64 16, .int .i64 (-1)] 30)))
  replace V2 := Lib.hid (V2.out.keep (Keeps.alloc (w3.alloc (.cells #[.slice A3 0 c3] 26)) _ (.cells #[.int .i64 16, .int .i64 (-1)] 30)))
  replace V3 := Lib.hid (V3.out.keep (Keeps.alloc (w3.alloc (.cells #[.slice A3 0 c3] 26)) _ (.cells #[.int .i64 16, .int .i64 (-1)] 30)))
  have d1a := (World.cell?_alloc_lt (w3.alloc (.cells #[.slice A3 0 c3] 26)) (.cells #[.int .i64 16, .int .i64 (-1)] 30) ⟨b1, o1 + 1, none⟩ (by simp; omega)).trans ((World.cell?_alloc_lt w3 (.cells #[.slice A3 0 c3] 26) ⟨b1, o1 + 1, none⟩ hb1).trans d1)
  have d2a := (World.cell?_alloc_lt (w3.alloc (.cells #[.slice A3 0 c3] 26)) (.cells #[.int .i64 16, .int .i64 (-1)] 30) ⟨b2, o2 + 1, none⟩ (by simp; omega)).trans ((World.cell?_alloc_lt w3 (.cells #[.slice A3 0 c3] 26) ⟨b2, o2 + 1, none⟩ hb2).trans d2)
  have hk0 : Below ((w3.alloc (.cells #[.slice A3 0 c3] 26)).alloc (.cells #[.int .i64 16, .int .i64 (-1)] 30)).heap.size ((w3.alloc (.cells #[.slice A3 0 c3] 26)).alloc (.cells #[.int .i64 16, .int .i64 (-1)] 30)) ((w3.alloc (.cells #[.slice A3 0 c3] 26)).alloc (.cells #[.int .i64 16, .int .i64 (-1)] 30)).drew := below_drew' (Below.refl _ _)
  have HK : Hid (∀ w6 : World, Below ((w3.alloc (.cells #[.slice A3 0 c3] 26)).alloc (.cells #[.int .i64 16, .int .i64 (-1)] 30)).heap.size ((w3.alloc (.cells #[.slice A3 0 c3] 26)).alloc (.cells #[.int .i64 16, .int .i64 (-1)] 30)) w6 → w6.cell? ⟨w1.heap.size, 0, none⟩ = some (.slice (some ⟨b1, o1, none⟩) 1 c1) ∧ w6.cell? ⟨w1.heap.size + 1, 0, none⟩ = some (.int .i64 0) ∧ w6.cell? ⟨w1.heap.size + 1, 1, none⟩ = some (.int .i64 0) ∧ w6.cell? ⟨w2.heap.size, 0, none⟩ = some (.slice (some ⟨b2, o2, none⟩) 1 c2) ∧ w6.cell? ⟨w2.heap.size + 1, 0, none⟩ = some (.int .i64 0) ∧ w6.cell? ⟨w2.heap.size + 1, 1, none⟩ = some (.int .i64 0) ∧ w6.cell? ⟨w3.heap.size + 1, 0, none⟩ = some (.int .i64 16) ∧ w6.cell? ⟨w3.heap.size + 1, 1, none⟩ = some (.int .i64 (-1)) ∧ w6.cell? ⟨b1, o1 + 1, none⟩ = some (.int .i64 5) ∧ w6.cell? ⟨b2, o2 + 1, none⟩ = some (.int .i64 7)) := Lib.hid fun w6 h6 => ⟨((x1.below h6 x1.lt).cell 0).trans rfl, ((x2.below h6 x2.lt).cell 0).trans rfl, ((x2.below h6 x2.lt).cell 1).trans rfl, ((x3.below h6 x3.lt).cell 0).trans rfl, ((x4.below h6 x4.lt).cell 0).trans rfl, ((x4.below h6 x4.lt).cell 1).trans rfl, ((x6.below h6 x6.lt).cell 0).trans rfl, ((x6.below h6 x6.lt).cell 1).trans rfl, (h6.cell (p := ⟨_, _, none⟩) (by simp; omega)).trans d1a, (h6.cell (p := ⟨_, _, none⟩) (by simp; omega)).trans d2a⟩
  clear d1a d2a HU V1 V2 V3
  go_wp2_with fail
  go_region_held3 (fun w6 => w6.cell? ⟨w1.heap.size, 0, none⟩ = some (.slice (some ⟨b1, o1, none⟩) 1 c1) ∧ w6.cell? ⟨w1.heap.size + 1, 0, none⟩ = some (.int .i64 0) ∧ w6.cell? ⟨w1.heap.size + 1, 1, none⟩ = some (.int .i64 0) ∧ w6.cell? ⟨w2.heap.size, 0, none⟩ = some (.slice (some ⟨b2, o2, none⟩) 1 c2) ∧ w6.cell? ⟨w2.heap.size + 1, 0, none⟩ = some (.int .i64 0) ∧ w6.cell? ⟨w2.heap.size + 1, 1, none⟩ = some (.int .i64 0) ∧ w6.cell? ⟨w3.heap.size + 1, 0, none⟩ = some (.int .i64 16) ∧ w6.cell? ⟨w3.heap.size + 1, 1, none⟩ = some (.int .i64 (-1)) ∧ w6.cell? ⟨b1, o1 + 1, none⟩ = some (.int .i64 5) ∧ w6.cell? ⟨b2, o2 + 1, none⟩ = some (.int .i64 7))
    (first | exact HK.out _ hk0 | exact HK.out _ hk1)
    (first | (go_at_call 21; (with_reducible refine (fault_b _ _ _).mono ?_); rintro e w4 ⟨rfl, hv⟩; have hk1 : Below ((w3.alloc (.cells #[.slice A3 0 c3] 26)).alloc (.cells #[.int .i64 16, .int .i64 (-1)] 30)).heap.size ((w3.alloc (.cells #[.slice A3 0 c3] 26)).alloc (.cells #[.int .i64 16, .int .i64 (-1)] 30)) w4 := hk0.trans (hv.mono hk0.size)))
  have hbf := HBa6.out.trans (hk1.mono HBa6.out.size)
  go_wp2_with fail
  go_ret
  exact ⟨rfl, hbf⟩
end Go.Proofs.YtfbbgnhelannjaaDoor
