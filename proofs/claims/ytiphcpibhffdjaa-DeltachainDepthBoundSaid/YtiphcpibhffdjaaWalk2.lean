/-
  Walks of the delta chain: 'run' at every operation.
-/
import Derived.Test.YtiphcpibhffdjaaWalk1
namespace Go.Proofs.Ytiphcpibhffdjaa
open Go.RowKit Go.V
set_option linter.unusedVariables false

section
variable (w : World) (A1 A2 A3 : Option Addr) (c1 c2 c3 B0 : Nat) (base out data : List UInt8)

set_option maxHeartbeats 1600000 in
/-- a number outside its range -/
theorem run_range (f m : Int) (hf : I64 f) (hm : I64 m) (hb : base.length ≤ 1000) (hbad : m < 0 ∨ 0 < m ∧ (f < 0 ∨ (base.length : Int) < f ∨ (base.length : Int) - f < m)) :
    Calls Try.prog 28 #[.slice A1 base.length c1, .slice A2 out.length c2, .agg #[.int .i64 f, .int .i64 m, .slice A3 data.length c3]] w (RunPost w B0 (.slice A2 out.length c2) (Dc.run base out ⟨f, m, data⟩)) := by
  have H := Lib.hid (show Dc.run base out ⟨f, m, data⟩ = ([], 3) from by unfold Dc.run; rw [if_pos hbad])
  unfold I64 at hf hm
  rcases hbad with hbad | ⟨hp, hbad⟩
  · have y0 : decide (m < 0) = true := by simpa using hbad
    go_enter Try.func28, Try.ntmps28
    go_wp2_with fail
    go_ret2
    exact RunPost.fail_ H (only_alloc (World.grownBy.refl _ _) _)
  · have y0 : decide (m < 0) = false := by simp; omega
    by_cases hf0 : f < 0
    · have y1 : decide (f < 0) = true := by simpa using hf0
      go_enter Try.func28, Try.ntmps28
      go_wp2_with fail
      go_ret2
      exact RunPost.fail_ H (only_alloc (World.grownBy.refl _ _) _)
    · have y1 : decide (f < 0) = false := by simpa using hf0
      by_cases hf1 : (base.length : Int) < f
      · go_enter Try.func28, Try.ntmps28
        go_wp2_with fail
        go_ret2
        exact RunPost.fail_ H (only_alloc (World.grownBy.refl _ _) _)
      · have y2 : f ≤ base.length := by omega
        have y3 : (base.length : Int) - f < m := by omega
        go_enter Try.func28, Try.ntmps28
        go_wp2_with fail
        go_ret2
        exact RunPost.fail_ H (only_alloc (World.grownBy.refl _ _) _)

set_option maxHeartbeats 1600000 in
/-- a copy that bears data -/
theorem run_both (f m : Nat) (hb : base.length ≤ 1000) (hp : 0 < m) (hle : f + m ≤ base.length) (hd : 0 < data.length) (hd' : data.length ≤ 140737488351232) :
    Calls Try.prog 28 #[.slice A1 base.length c1, .slice A2 out.length c2, .agg #[.int .i64 f, .int .i64 m, .slice A3 data.length c3]] w (RunPost w B0 (.slice A2 out.length c2) (Dc.run base out ⟨f, m, data⟩)) := by
  have H := Lib.hid (show Dc.run base out ⟨f, m, data⟩ = ([], 5) from by unfold Dc.run; rw [if_neg (by simp; omega), if_pos (by simp; omega)])
  have hp' : (0 : Int) < m := by omega
  have y1 : decide ((m : Int) < 0) = false := by simp
  have y2 : decide ((f : Int) < 0) = false := by simp
  have y3 : (f : Int) ≤ base.length := by omega
  have y4 : (m : Int) ≤ base.length - f := by omega
  have y5 : (0 : Int) < data.length := by omega
  go_enter Try.func28, Try.ntmps28
  go_wp2_with fail
  go_ret2
  exact RunPost.fail_ H (only_alloc (World.grownBy.refl _ _) _)

set_option maxHeartbeats 1600000 in
/-- an insertion that bears a place -/
theorem run_place (f : Int) (hf : I64 f) (hf0 : f ≠ 0) (hd' : data.length ≤ 140737488351232) :
    Calls Try.prog 28 #[.slice A1 base.length c1, .slice A2 out.length c2, .agg #[.int .i64 f, .int .i64 0, .slice A3 data.length c3]] w (RunPost w B0 (.slice A2 out.length c2) (Dc.run base out ⟨f, 0, data⟩)) := by
  have H := Lib.hid (show Dc.run base out ⟨f, 0, data⟩ = ([], 5) from by unfold Dc.run; rw [if_neg (by simp), if_pos (by simp [hf0])])
  unfold I64 at hf
  have y1 : (f != 0) = true := by simpa using hf0
  clear hf0
  go_enter Try.func28, Try.ntmps28
  go_wp2_with fail
  go_ret2
  exact RunPost.fail_ H (only_alloc (World.grownBy.refl _ _) _)

set_option maxHeartbeats 1600000 in
/-- an insertion of nothing -/
theorem run_none :
    Calls Try.prog 28 #[.slice A1 base.length c1, .slice A2 out.length c2, .agg #[.int .i64 0, .int .i64 0, .slice A3 0 c3]] w (RunPost w B0 (.slice A2 out.length c2) (Dc.run base out ⟨0, 0, []⟩)) := by
  have H := Lib.hid (show Dc.run base out ⟨0, 0, []⟩ = ([], 5) from by unfold Dc.run; rw [if_neg (by simp), if_pos (by simp)])
  go_enter Try.func28, Try.ntmps28
  go_wp2_with fail
  go_ret2
  exact RunPost.fail_ H (only_alloc (World.grownBy.refl _ _) _)

set_option maxHeartbeats 1600000 in
/-- an insertion -/
theorem run_ins (h2 : w.ownsRow B0 5 1 (.slice A2 out.length c2) out.length (bytesV out)) (h3 : SV w w.heap.size A3 (bytesV data)) (hB : B0 ≤ w.heap.size)
    (ho : out.length ≤ 1000) (hd : 0 < data.length) (hd' : data.length ≤ 140737488351232) :
    Calls Try.prog 28 #[.slice A1 base.length c1, .slice A2 out.length c2, .agg #[.int .i64 0, .int .i64 0, .slice A3 data.length c3]] w (RunPost w B0 (.slice A2 out.length c2) (Dc.run base out ⟨0, 0, data⟩)) := by
  obtain ⟨i0, hi0, hz0, hz1, hz2⟩ := info_parts info5
  have y5 : ((data.length : Int) == 0) = false := by simp; intro h; simp [h] at hd
  by_cases hbig : 1000 < out.length + data.length
  · have H := Lib.hid (show Dc.run base out ⟨0, 0, data⟩ = ([], 10) from by
      unfold Dc.run
      rw [if_neg (by simp), if_neg (by simp; intro h; simp [h] at hd), if_pos (by simp; omega)])
    have y6 : (1000 : Int) < out.length + data.length := by omega
    go_enter Try.func28, Try.ntmps28
    go_wp2_with fail
    go_ret2
    exact RunPost.fail_ H (only_alloc (World.grownBy.refl _ _) _)
  · have H := Lib.hid (show Dc.run base out ⟨0, 0, data⟩ = (out ++ data, 0) from by
      unfold Dc.run
      rw [if_neg (by simp), if_neg (by simp; intro h; simp [h] at hd), if_neg (by simp; omega), if_neg (by simp)])
    have y6 : (out.length : Int) + data.length ≤ 1000 := by omega
    go_enter Try.func28, Try.ntmps28
    go_wp2_with (first | (at_builtin; refine wpList_append_sv _ rfl (.tmp 87) (.tmp 89) 22 rfl B0 5 i0 (.int .u8 0) 1 1 Try.underlying22 hi0 hz0 hz1 hz2 rfl (by decide) (.slice A2 out.length c2) out.length (bytesV out) rfl (h2.alloc _) w.heap.size _ _ _ (bytesV data) rfl ?ha (h3.alloc (Nat.le_refl _) _) (bytesV_one _) ?hc ?hd ?he ?_))
    case ha => simp
    case hc => simp [maxLen]; omega
    case hd => omega
    case he => simp; omega
    intro v1 w1 hown1 hg1 hat1
    go_wp2
    go_ret2
    exact RunPost.good H (only_trans (only_alloc (World.grownBy.refl _ _) _) hg1 (fun g h => .inl h)) rfl hown1

/-- 'run' at every operation. -/
theorem run_any (o : Dc.Op) (h1 : SV w w.heap.size A1 (bytesV base)) (hc1 : base.length ≤ c1)
    (h2 : w.ownsRow B0 5 1 (.slice A2 out.length c2) out.length (bytesV out)) (h3 : SV w w.heap.size A3 (bytesV o.data)) (hB : B0 ≤ w.heap.size)
    (hb : base.length ≤ 1000) (ho : out.length ≤ 1000) (hd : o.data.length ≤ 140737488351232) (hoff : I64 o.off) (hlen : I64 o.len) :
    Calls Try.prog 28 #[.slice A1 base.length c1, .slice A2 out.length c2, .agg #[.int .i64 o.off, .int .i64 o.len, .slice A3 o.data.length c3]] w (RunPost w B0 (.slice A2 out.length c2) (Dc.run base out o)) := by
  obtain ⟨off, len, data⟩ := o
  simp only at *
  by_cases hbad : len < 0 ∨ 0 < len ∧ (off < 0 ∨ (base.length : Int) < off ∨ (base.length : Int) - off < len)
  · exact run_range w A1 A2 A3 c1 c2 c3 B0 base out data off len hoff hlen hb hbad
  · by_cases hp : 0 < len
    · obtain ⟨f, rfl⟩ := Int.eq_ofNat_of_zero_le (show 0 ≤ off by omega)
      obtain ⟨m, rfl⟩ := Int.eq_ofNat_of_zero_le (show 0 ≤ len by omega)
      by_cases hda : 0 < data.length
      · exact run_both w A1 A2 A3 c1 c2 c3 B0 base out data f m hb (by omega) (by omega) hda hd
      · obtain rfl : data = [] := List.eq_nil_of_length_eq_zero (by omega)
        exact run_copy w A1 A2 A3 c1 c2 c3 B0 base out f m h1 hc1 h2 hB hb ho (by omega) (by omega)
    · obtain rfl : len = 0 := by omega
      by_cases hf : off = 0
      · subst hf
        by_cases hda : 0 < data.length
        · exact run_ins w A1 A2 A3 c1 c2 c3 B0 base out data h2 h3 hB ho hda hd
        · obtain rfl : data = [] := List.eq_nil_of_length_eq_zero (by omega)
          exact run_none w A1 A2 A3 c1 c2 c3 B0 base out
      · exact run_place w A1 A2 A3 c1 c2 c3 B0 base out data off hoff hf hd
end
end Go.Proofs.Ytiphcpibhffdjaa
