/-
  Walks of the delta chain: the reference's 'Deltas'.
-/
import Derived.Test.YtiphcpibhffdjaaWalk3
import Derived.Test.YtiphcpibhffdjaaView3
namespace Go.Proofs.Ytiphcpibhffdjaa
open Go.RowKit Go.V
set_option linter.unusedVariables false

section
variable (w : World) (A1 A2 : Option Addr) (c1 c2 : Nat) (ops : List Dc.Op) (vs us : List Value)

set_option maxRecDepth 100000 in
set_option maxHeartbeats 4000000 in
/-- 'Deltas' of two readings of one delta. -/
theorem deltas_any (h1 : SV w w.heap.size A1 vs) (h2 : SV w w.heap.size A2 us) (r1 : RowsR (OpR w w.heap.size) ops vs) (r2 : RowsR (OpR w w.heap.size) ops us) (hl : ops.length ≤ 9223372036854775807) :
    Calls Try.prog 13 #[.slice A1 ops.length c1, .slice A2 ops.length c2] w fun e w' => e = .returned (.bool true) ∧ ∃ n, w' = w.drewN n := by
  go_enter Try.func13, Try.ntmps13
  go_wp2_with fail
  go_loopw [5] (fun k wr => ∃ i : Nat, i ≤ ops.length ∧ k = .int .i64 i ∧ ∃ n, wr = w.drewN n) (fun k _ => ops.length - (intOf k).toNat)
  case atStart => exact ⟨0, Nat.zero_le _, rfl, 0, rfl⟩
  case round =>
    obtain ⟨i, hi, rfl, n, rfl⟩ := hrel
    by_cases hlt : i < ops.length
    · obtain ⟨b1, o1, cs1, rfl, _, ⟨B1, d1, rfl, _, _, _, _, s1⟩, k1⟩ := SV.row OpR.len (by omega) h1 r1 i hlt
      obtain ⟨b2, o2, cs2, rfl, _, ⟨B2, d2, rfl, _, _, _, _, s2⟩, k2⟩ := SV.row OpR.len (by omega) h2 r2 i hlt
      have x0 : w.cell? ⟨b1, o1 + i * 3, none⟩ = _ := k1 0 _ rfl
      have x1 := k1 1 _ rfl
      have x2 := k1 2 _ rfl
      have y0 : w.cell? ⟨b2, o2 + i * 3, none⟩ = _ := k2 0 _ rfl
      have y1 := k2 1 _ rfl
      have y2 := k2 2 _ rfl
      have e1 := fun m => run_conv_str (P := Try.prog) (w := w.drewN m) 22 9 5 d1 Try.underlying22 Try.underlying5 Try.underlying9 (s1.drewN m)
      have e2 := fun m => run_conv_str (P := Try.prog) (w := w.drewN m) 22 9 5 d2 Try.underlying22 Try.underlying5 Try.underlying9 (s2.drewN m)
      have hlt' : (i : Int) < ops.length := by omega
      clear k1 k2 s1 s2
      generalize ops[i] = o at *
      go_wp2_with fail
      go_quiet (fail)
      go_wp2
      go_roundw
      case rel => exact ⟨i + 1, by omega, by go_num, _, rfl⟩
      case measure => simp [intOf]; omega
    · obtain rfl : i = ops.length := by omega
      go_wp2
      go_ret
      exact ⟨rfl, _, rfl⟩
end
end Go.Proofs.Ytiphcpibhffdjaa
