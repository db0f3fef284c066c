/-
  Histories: walk of 'mergebaseExample'.
-/
import Derived.Test.YtoohmkdgimkgoaaW16
namespace Go.Proofs.Ytoohmkdgimkgoaa
open Go.RowKit Go.V
set_option linter.unusedVariables false

def exM : List Hs.Cm := [⟨[], 0, 0, 0, ByteArray.empty⟩, ⟨[0], 0, 0, 0, ByteArray.empty⟩, ⟨[0], 0, 0, 0, ByteArray.empty⟩]
theorem exM_ok : Hs.Ok exM := by
  refine ⟨by decide, fun i hi => ?_⟩
  have e0 : Hs.parErr 0 [] 0 = 0 := Hs.parErr_end _ _ _ (by decide)
  have e1 : Hs.parErr 1 [0] 0 = 0 := (Hs.parErr_next 1 [0] 0 (by decide) (by decide) (by decide)).trans (Hs.parErr_end _ _ _ (by decide))
  have e2 : Hs.parErr 2 [0] 0 = 0 := (Hs.parErr_next 2 [0] 0 (by decide) (by decide) (by decide)).trans (Hs.parErr_end _ _ _ (by decide))
  match i, hi with
  | 0, _ => exact Hs.check_good (by simp [exM]) e0 (by simp [exM, Hs.dataErr, Hs.M])
  | 1, _ => exact Hs.check_good (by simp [exM]) e1 (by simp [exM, Hs.dataErr, Hs.M])
  | 2, _ => exact Hs.check_good (by simp [exM]) e2 (by simp [exM, Hs.dataErr, Hs.M])
theorem exM_check (a b : Int) (ha : 0 ≤ a ∧ a < 3) (hb : 0 ≤ b ∧ b < 3) : mcheck exM a b = (0, 0) := by
  have hl : exM.length = 3 := rfl
  unfold mcheck
  rw [Hs.validate_of_ok exM_ok, if_neg (by simp), hl, if_neg (by simpa using ha), if_neg (by simpa using hb)]
theorem exM_bases : basesRes exM 1 2 = ([0], (0, 0)) := by
  unfold basesRes
  rw [exM_check 1 2 (by decide) (by decide), if_neg (by simp)]
  have : Hs.ints (Hs.best exM [(1 : Int).toNat, (2 : Int).toNat]) = [0] := by decide +kernel
  rw [this]
theorem exM_is : isRes exM 0 2 = (true, (0, 0)) := by
  unfold isRes
  rw [exM_check 0 2 (by decide) (by decide), if_neg (by simp)]
  have : Hs.reach exM (2 : Int).toNat (0 : Int).toNat = true := by decide +kernel
  rw [this]
/-- The commits of the example, as they are laid. -/
def exMCells (g g' : Nat) : Array Value := #[.slice none 0 0, .int .i64 0, .int .i64 0, .int .i64 0, .string ByteArray.empty, .slice (some ⟨g, 0, none⟩) 1 1, .int .i64 0, .int .i64 0, .int .i64 0, .string ByteArray.empty, .slice (some ⟨g', 0, none⟩) 1 1, .int .i64 0, .int .i64 0, .int .i64 0, .string ByteArray.empty]
theorem exM_view (w : World) : CV (((w.alloc (.cells #[.int .i64 0] 3)).alloc (.cells #[.int .i64 0] 3)).alloc (.cells (exMCells w.heap.size (w.heap.size + 1)) 41)) (some ⟨w.heap.size + 1 + 1, 0, none⟩) exM := by
  refine ⟨(exMCells w.heap.size (w.heap.size + 1)).toList, ?_, ?_⟩
  · have := SV.lit ((w.alloc (.cells #[.int .i64 0] 3)).alloc (.cells #[.int .i64 0] 3)) (exMCells w.heap.size (w.heap.size + 1)) 41
    simpa using this
  · refine ⟨[_, _, _, _, _], [_, _, _, _, _, _, _, _, _, _], rfl, ⟨none, 0, rfl, okCm [] 0 (by decide) (fun i h => by simp at h) i64_0, SV.nil⟩, ?_⟩
    refine ⟨[_, _, _, _, _], [_, _, _, _, _], rfl, ⟨some ⟨w.heap.size, 0, none⟩, 1, rfl, okCm [0] 0 (by decide) (fun i h => by
      match i, h with
      | 0, _ => exact i64_0) i64_0, ?_⟩, ?_⟩
    · have := ((SV.lit w #[.int .i64 0] 3).alloc (by simp) (.cells #[.int .i64 0] 3)).alloc (by simp) (.cells (exMCells w.heap.size (w.heap.size + 1)) 41)
      exact (this.more (by simp))
    · refine ⟨[_, _, _, _, _], [], rfl, ⟨some ⟨w.heap.size + 1, 0, none⟩, 1, rfl, okCm [0] 0 (by decide) (fun i h => by
        match i, h with
        | 0, _ => exact i64_0) i64_0, ?_⟩, rfl⟩
      have := (SV.lit (w.alloc (.cells #[.int .i64 0] 3)) #[.int .i64 0] 3).alloc (by simp) (.cells (exMCells w.heap.size (w.heap.size + 1)) 41)
      rw [World.size_alloc] at this
      exact (this.more (by simp))

set_option maxRecDepth 100000 in
set_option maxHeartbeats 4000000 in
theorem mexample_any (w : World) : Calls Try.prog 26 #[] w fun e w' => e = .returned (.bool true) ∧ Below w.heap.size w w' := by
  have HV := Lib.hid (exM_view w)
  have HB := Lib.hid (fun (w1 : World) (h : CV w1 (some ⟨w.heap.size + 1 + 1, 0, none⟩) exM) => bases_any w1 (some ⟨w.heap.size + 1 + 1, 0, none⟩) 3 exM 1 2 h (by decide))
  have HI := Lib.hid (fun (w1 : World) (h : CV w1 (some ⟨w.heap.size + 1 + 1, 0, none⟩) exM) => isAncestor_any w1 (some ⟨w.heap.size + 1 + 1, 0, none⟩) 3 exM 0 2 h (by decide))
  have hbel0 : Below w.heap.size w (((w.alloc (.cells #[.int .i64 0] 3)).alloc (.cells #[.int .i64 0] 3)).alloc (.cells (exMCells w.heap.size (w.heap.size + 1)) 41)) := ((below_alloc1 w _).alloc (by simp) _).alloc (by simp; omega) _
  go_enter Try.func26, Try.ntmps26
  go_wp2_with fail
  go_at_call 28
  refine (HB.out _ HV.out).mono ?_
  rw [exM_bases]
  rintro e w1 ⟨A1, c1, rfl, hc1, hv1, hb1⟩
  have hbel1 := hbel0.trans (hb1.mono hbel0.size)
  have hcv1 := HV.out.below hb1
  clear hbel0 HV hb1 HB
  have hsz1 := hbel1.size
  go_wp2_with fail
  go_at_call 27
  have hbel2 := hbel1.alloc hsz1 (.cells #[.int .i64 0, .int .i64 0] 26)
  refine (HI.out _ (hcv1.alloc _)).mono ?_
  rw [exM_is]
  rintro e w2 ⟨rfl, hb2⟩
  have hbel3 := hbel2.trans (hb2.mono hbel2.size)
  have hv3 := (hv1.alloc (.cells #[.int .i64 0, .int .i64 0] 26)).below hb2
  have hblk := (Blk.new w1 26 #[.int .i64 0, .int .i64 0]).below hb2 (by simp)
  clear hbel2 hbel1 hcv1 hv1 HI hb2
  have q0 := hblk.cell 0
  have q1 := hblk.cell 1
  simp only [List.getElem?_toArray, List.getElem?_cons_zero, List.getElem?_cons_succ] at q0 q1
  have hlt := hblk.lt
  have hsz3 := hbel3.size
  obtain ⟨b, off, rfl, hb, hx⟩ := (hv3.alloc (.cells #[.int .i64 0, .int .i64 0] 26)).at_ 0 (by simp)
  simp only [List.getElem_cons_zero, Nat.add_zero] at hx
  simp only [List.length_cons, List.length_nil, Nat.zero_add] at hc1
  go_wp2_with fail
  go_ret
  exact ⟨rfl, hbel3.alloc hsz3 _⟩
end Go.Proofs.Ytoohmkdgimkgoaa
