/-
  The example of the document: Encode and Apply at it.
-/
import Derived.Test.YtiphcpibhffdjaaWalk6
import Derived.Test.YtiphcpibhffdjaaView3
namespace Go.Proofs.Ytiphcpibhffdjaa
open Go.RowKit Go.V
set_option linter.unusedVariables false

theorem exEnc : encF [97, 98, 99, 100, 101, 102] [120, 98, 99, 100, 101, 102] = ([⟨0, 0, [120]⟩, ⟨1, 5, []⟩], (0, 0)) := by decide
theorem exApp : Dc.apply [97, 98, 99, 100, 101, 102] [⟨0, 0, [120]⟩, ⟨1, 5, []⟩] = ([120, 98, 99, 100, 101, 102], (0, 0)) := by decide

theorem bytes6 (w : World) (a b c d e f : UInt8) (fr : Nat × Nat) : SV (w.alloc (.cells #[.int .u8 a.toNat, .int .u8 b.toNat, .int .u8 c.toNat, .int .u8 d.toNat, .int .u8 e.toNat, .int .u8 f.toNat] 5 fr)) (w.heap.size + 1) (some ⟨w.heap.size, 0, none⟩) (bytesV [a, b, c, d, e, f]) := by
  refine .inr ⟨_, 0, rfl, by omega, fun j u hu => ?_⟩
  rw [Nat.zero_add, World.cell?_alloc_mark]
  simpa [bytesV] using hu

theorem conv_const (w : World) (C : Array Value) (n c h : Nat) (hh : w.heap.size = h) :
    (convert 22 22 (.slice (some ⟨h, 0, none⟩) n c)).run Try.prog (w.alloc (.cells C 5)) = .ok (.slice (some ⟨h, 0, none⟩) n c) (w.alloc (.cells C 5 (C.size, C.size + 1))) := by
  subst hh
  exact Lib.run_convert_bytes_const (P := Try.prog) w 22 5 C n c Try.underlying22 Try.underlying5

/-- The world in which the example calls Apply. -/
def exW (w1 : World) : World := (((w1.alloc (.cells #[.int .i64 0, .int .i64 0] 26)).alloc (.cells #[.int .u8 97, .int .u8 98, .int .u8 99, .int .u8 100, .int .u8 101, .int .u8 102] 5 (6, 7))).alloc (.cells #[.int .u8 120] 5 (1, 2))).alloc
  (.cells #[.int .i64 0, .int .i64 0, .slice (some ⟨w1.heap.size + 1 + 1, 0, none⟩) 1 1, .int .i64 1, .int .i64 5, .slice none 0 0] 37)
theorem exW_size (w1 : World) : (exW w1).heap.size = w1.heap.size + 4 := by simp [exW]
theorem ex_apply (w1 : World) : Calls Try.prog 15 #[.slice (some ⟨w1.heap.size + 1, 0, none⟩) 6 6, .slice (some ⟨w1.heap.size + 1 + 1 + 1, 0, none⟩) 2 2] (exW w1) (ApplyPost (exW w1) ([120, 98, 99, 100, 101, 102], (0, 0))) := by
  have hA := bytes6 (w1.alloc (.cells #[.int .i64 0, .int .i64 0] 26)) 97 98 99 100 101 102 (6, 7)
  have hA2 := ((hA.alloc (by simp) (.cells #[.int .u8 120] 5 (1, 2))).alloc (by simp) (.cells #[.int .i64 0, .int .i64 0, .slice (some ⟨w1.heap.size + 1 + 1, 0, none⟩) 1 1, .int .i64 1, .int .i64 5, .slice none 0 0] 37)).more (show _ ≤ (exW w1).heap.size by rw [exW_size]; simp)
  have hD : SV (exW w1) (exW w1).heap.size (some ⟨w1.heap.size + 1 + 1, 0, none⟩) (bytesV [120]) := by
    refine .inr ⟨_, 0, rfl, by rw [exW_size]; omega, fun j u hu => ?_⟩
    unfold exW
    rw [World.cell?_alloc_lt _ _ _ (by simp)]
    have := World.cell?_alloc_mark ((w1.alloc (.cells #[.int .i64 0, .int .i64 0] 26)).alloc (.cells #[.int .u8 97, .int .u8 98, .int .u8 99, .int .u8 100, .int .u8 101, .int .u8 102] 5 (6, 7))) #[.int .u8 120] 5 (1, 2) j
    simp only [World.size_alloc] at this
    rw [Nat.zero_add, this]
    simpa [bytesV] using hu
  have hS := SV.lit ((((w1.alloc (.cells #[.int .i64 0, .int .i64 0] 26)).alloc (.cells #[.int .u8 97, .int .u8 98, .int .u8 99, .int .u8 100, .int .u8 101, .int .u8 102] 5 (6, 7))).alloc (.cells #[.int .u8 120] 5 (1, 2)))) #[.int .i64 0, .int .i64 0, .slice (some ⟨w1.heap.size + 1 + 1, 0, none⟩) 1 1, .int .i64 1, .int .i64 5, .slice none 0 0] 37
  simp only [World.size_alloc] at hA2 hS
  have h := apply_any (exW w1) (some ⟨w1.heap.size + 1, 0, none⟩) (some ⟨w1.heap.size + 1 + 1 + 1, 0, none⟩) 6 2 [97, 98, 99, 100, 101, 102] [⟨0, 0, [120]⟩, ⟨1, 5, []⟩]
    [.int .i64 0, .int .i64 0, .slice (some ⟨w1.heap.size + 1 + 1, 0, none⟩) 1 1, .int .i64 1, .int .i64 5, .slice none 0 0] hA2 (by simp)
    ⟨[.int .i64 0, .int .i64 0, .slice (some ⟨w1.heap.size + 1 + 1, 0, none⟩) 1 1], _, rfl, ⟨some ⟨w1.heap.size + 1 + 1, 0, none⟩, 1, rfl, by simp, by simp, by simp [I64], by simp [I64], hD⟩,
      [.int .i64 1, .int .i64 5, .slice none 0 0], [], rfl, ⟨none, 0, rfl, by simp, by simp, by simp [I64], by simp [I64], .inl rfl⟩, rfl⟩ (hS.more (by rw [exW_size]; omega)) (by simp) (by simp)
  rw [exApp] at h
  exact h

set_option maxRecDepth 100000 in
set_option maxHeartbeats 4000000 in
theorem example_any (w : World) : Calls Try.prog 10 #[] w fun e w' => e = .returned (.bool true) ∧ Below w.heap.size w w' := by
  have kc := conv_const
  have hb1 := bytes6 w 97 98 99 100 101 102 (6, 7)
  have hb2 := (bytes6 w 97 98 99 100 101 102 (6, 7)).alloc (by simp) (.cells #[.int .u8 120, .int .u8 98, .int .u8 99, .int .u8 100, .int .u8 101, .int .u8 102] 5 (6, 7))
  have hb3 := bytes6 (w.alloc (.cells #[.int .u8 97, .int .u8 98, .int .u8 99, .int .u8 100, .int .u8 101, .int .u8 102] 5 (6, 7))) 120 98 99 100 101 102 (6, 7)
  have HE := Lib.hid exEnc
  have hcall := encode_any ((w.alloc (.cells #[.int .u8 97, .int .u8 98, .int .u8 99, .int .u8 100, .int .u8 101, .int .u8 102] 5 (6, 7))).alloc (.cells #[.int .u8 120, .int .u8 98, .int .u8 99, .int .u8 100, .int .u8 101, .int .u8 102] 5 (6, 7)))
    (some ⟨w.heap.size, 0, none⟩) (some ⟨w.heap.size + 1, 0, none⟩) 6 6 [97, 98, 99, 100, 101, 102] [120, 98, 99, 100, 101, 102] (hb2.more (by simp)) ((by simpa using hb3 : SV _ _ (some ⟨w.heap.size + 1, 0, none⟩) _).more (by simp)) (by simp) (by simp) (by simp)
  rw [exEnc] at hcall
  have HC := Lib.hid hcall
  clear hcall hb1 hb2 hb3
  go_enter Try.func10, Try.ntmps10
  go_wp2_with fail
  refine HC.out.mono ?_
  rintro e w1 ⟨v, rfl, ⟨A, c, vs, rfl, hc, hsv, hr⟩, hbel⟩
  clear HC
  obtain ⟨cs1, r1, rfl, ⟨A0, c0, rfl, _, _, _, _, hs0⟩, cs2, r2, rfl, ⟨A9, c9, rfl, _, _, _, _, _⟩, hr3⟩ := hr
  simp only [RowsR] at hr3
  subst hr3
  obtain ⟨bd, od, rfl, hbd, hcell⟩ := hsv.at_ (by simp)
  have d2 := hcell 2 _ rfl
  have d3 := hcell 3 _ rfl
  have d4 := hcell 4 _ rfl
  clear hcell hsv
  have hap := ex_apply w1
  have HP := Lib.hid hap
  clear hap
  go_wp2_with fail
  refine HP.out.mono ?_
  rintro e w2 ⟨v2, rfl, hown2, hbel2⟩
  clear HP
  obtain ⟨A2, c2, rfl, hc2, _⟩ := own_form hown2
  have hbelw1 : Below w1.heap.size w1 w2 := (((((Below.refl w1.heap.size w1).alloc (Nat.le_refl _) _).alloc (by simp) _).alloc (by simp; omega) _).alloc (by simp; omega) _).trans (hbel2.mono (by rw [exW_size]; omega))
  have f2 := (hbelw1.cell (p := ⟨bd, od + 2, none⟩) hbd).trans d2
  have f3 := (hbelw1.cell (p := ⟨bd, od + 3, none⟩) hbd).trans d3
  have f4 := (hbelw1.cell (p := ⟨bd, od + 4, none⟩) hbd).trans d4
  have hsz1 := hbelw1.size
  have hsz0 := hbel.size
  have hk0 : Blk w2 w1.heap.size 26 #[.int .i64 0, .int .i64 0] := (((((Blk.new w1 26 #[.int .i64 0, .int .i64 0]).alloc _).alloc _).alloc _).below hbel2 (by rw [exW_size]; omega))
  have q0 := hk0.cell 0
  have q1 := hk0.cell 1
  simp only [List.getElem?_toArray, List.getElem?_cons_zero, List.getElem?_cons_succ] at q0 q1
  have hs1 : (convert 22 9 (.slice A0 1 c0)).run Try.prog (w2.alloc (.cells #[.int .i64 0, .int .i64 0] 26)) = .ok (.string ⟨#[120]⟩) (w2.alloc (.cells #[.int .i64 0, .int .i64 0] 26)) := run_conv_str (P := Try.prog) (w := w2.alloc (.cells #[.int .i64 0, .int .i64 0] 26)) 22 9 5 c0 Try.underlying22 Try.underlying5 Try.underlying9 ((hs0.below hbelw1 (Nat.le_refl _)).alloc hsz1 _)
  have hs2 : (convert 22 9 (.slice A2 6 c2)).run Try.prog (w2.alloc (.cells #[.int .i64 0, .int .i64 0] 26)) = .ok (.string ⟨#[120, 98, 99, 100, 101, 102]⟩) (w2.alloc (.cells #[.int .i64 0, .int .i64 0] 26)) := run_conv_str (P := Try.prog) (w := w2.alloc (.cells #[.int .i64 0, .int .i64 0] 26)) 22 9 5 c2 Try.underlying22 Try.underlying5 Try.underlying9 ((SV.of_own hown2).alloc (Nat.le_refl _) _)
  have hlt := hk0.lt
  have hbd2 : bd < w2.heap.size := World.block_lt_of_cell? _ _ f2
  clear hown2 hs0 d2 d3 d4
  go_wp2_with fail
  go_ret
  refine ⟨rfl, ?_⟩
  have b0 : Below w.heap.size w w1 := (((Below.refl w.heap.size w).alloc (Nat.le_refl _) _).alloc (by simp) _).trans (hbel.mono (by simp; omega))
  exact (b0.trans (hbelw1.mono (by have := b0.size; omega))).alloc (by have := b0.size; omega) _
end Go.Proofs.Ytiphcpibhffdjaa
