/-
  Markers: walk of 'cyclic', given what 'reach' tells.
-/
import Derived.Test.YtebohncdhhikkaaOq21
import Derived.Deep.WholeRow
namespace Go.Proofs.Ytebohncdhhikkaa
open Go.RowKit Go.V
set_option linter.unusedVariables false
/-- A table of 60 x 60 bools, as a value. -/
def RePost (w : World) (e : Ending) (w' : World) : Prop := (∃ F : Nat → Bool, e = .returned (.agg (boolsA (tab 3600 F)))) ∧ Below w.heap.size w w'
theorem tab_cut (F : Nat → Bool) (i : Nat) (hi : i < 60) : (boolsA (tab 3600 F)).extract (i * 60) (i * 60 + 60) = boolsA (tab 60 fun j => F (i * 60 + j)) := by
  apply Array.ext
  · simp [boolsA, tab]; omega
  · intro j h1 h2
    simp [boolsA, tab]
theorem idx82 (F : Nat → Bool) (i : Nat) (hi : i < 60) (W : World) : (Instr.index 82 (.agg (boolsA (tab 3600 F))) (.int .i64 (i : Int))).run Try.prog W = .ok (.agg (boolsA (tab 60 fun j => F (i * 60 + j)))) W := by
  rw [← tab_cut F i hi]
  generalize boolsA (tab 3600 F) = CS
  have hu := Try.underlying82
  have hs : (Try.prog.info? 52).map (·.size) = some 60 := by kernel_rfl
  obtain ⟨i5, h5, h6⟩ := Option.map_eq_some_iff.1 hs
  have ha : Try.prog.underlying 52 = some (.array 60 4) := Try.underlying52
  simp [Instr.index, asIntOf, run_underlying hu, sizeOf, typeInfo, h5, h6, hi, part, isAgg, run_underlying ha]
set_option maxRecDepth 100000 in
set_option maxHeartbeats 8000000 in
theorem cyclic34_any (w : World) (A : Option Addr) (k n : Nat) (HRE : Calls Try.prog 49 #[.slice A n k] w (RePost w)) :
    Calls Try.prog 34 #[.slice A n k] w fun e w' => IsB e ∧ Below w.heap.size w w' := by
  replace HRE := Lib.hid HRE
  go_enter Try.func34, Try.ntmps34
  go_wp2_with fail
  go_at_call 49
  with_reducible refine HRE.out.mono ?_
  rintro e w1 ⟨⟨F, rfl⟩, hb⟩
  have HI := Lib.hid (idx82 F)
  clear HRE
  generalize boolsA (tab 3600 F) = CT at *
  go_wp2_with fail
  go_loopw [7] (fun iv wr => ∃ i : Nat, i ≤ 60 ∧ iv = .int .i64 i ∧ Below w.heap.size w wr) (fun iv _ => 60 - (intOf iv).toNat)
  case atStart => exact ⟨0, Nat.zero_le _, rfl, hb⟩
  case round =>
    clear hb
    obtain ⟨i, hi, rfl, hb⟩ := hrel
    obtain ⟨wo, rfl⟩ : ∃ wo : World, wo = wr := ⟨_, rfl⟩
    by_cases hlt : i < 60
    · have hlt' : (i : Int) < 60 := by omega
      have hix := fun W => HI.out i hlt W
      have hCSz : (boolsA (tab 60 fun j => F (i * 60 + j))).size = 60 := boolsA_size 60 _
      have hone := boolsA_one (tab 60 fun j => F (i * 60 + j))
      have hsz2 : (Try.prog.info? 52).map (·.size) = some (boolsA (tab 60 fun j => F (i * 60 + j))).size := by rw [hCSz]; kernel_rfl
      have q0 := blk_tabB (Blk.new wo 52 (boolsA (tab 60 fun j => F (i * 60 + j)))) i hlt
      have hb2 := hb.alloc hb.size (.cells (boolsA (tab 60 fun j => F (i * 60 + j))) 52)
      generalize F (i * 60 + i) = v at *
      generalize boolsA (tab 60 fun j => F (i * 60 + j)) = CS at *
      clear HI
      cases v with
      | true =>
        go_wp2_with (first | (refine wpList_store_row rfl 52 (.tmp 4) (.tmp 10) rfl wo.heap.size CS rfl rfl 52 _ (Blk.new wo 52 _) hsz2 (by rw [hCSz]; rfl) hone ?_; rw [World.setRow_alloc_new]))
        go_ret
        exact ⟨⟨_, rfl⟩, hb2⟩
      | false =>
        go_wp2_with (first | (refine wpList_store_row rfl 52 (.tmp 4) (.tmp 10) rfl wo.heap.size CS rfl rfl 52 _ (Blk.new wo 52 _) hsz2 (by rw [hCSz]; rfl) hone ?_; rw [World.setRow_alloc_new]))
        go_roundw
        case rel => exact ⟨i + 1, by omega, by go_num, hb2⟩
        case measure => simp [intOf]; omega
    · obtain rfl : i = 60 := by omega
      go_wp2_with fail
      go_ret
      exact ⟨⟨_, rfl⟩, hb⟩
end Go.Proofs.Ytebohncdhhikkaa
