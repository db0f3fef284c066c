/-
  Walks of the delta chain: 'longest' and 'run'.
-/
import Derived.Test.YtiphcpibhffdjaaChecked
import Derived.Test.YtiphcpibhffdjaaPure
import Derived.Test.YtiphcpibhffdjaaView
import Derived.WalkKit
import Derived.WalkLawsBesides
import Derived.WalkSpells
import Derived.Deep.QuietTactic
import Derived.BigQuiet
import Derived.Lib.Hide
import Derived.KernelRfl
namespace Go.Proofs.Ytiphcpibhffdjaa
open Go.RowKit Go.V
set_option linter.unusedVariables false

theorem info5 : (Try.prog.info? 5).map (fun i => (i.zero, i.size, i.bytes)) = some (some (.int .u8 0), 1, 1) := by kernel_rfl

theorem longestTo_succ (base rest : List UInt8) (i k : Nat) (hs : Dc.cpl (base.drop i) rest = k) : Dc.longestTo base rest (i + 1) = if (Dc.longestTo base rest i).2 < k then (i, k) else Dc.longestTo base rest i := by
  simp [Dc.longestTo, hs]

set_option maxHeartbeats 1600000 in
theorem longest_any (w : World) (A1 A2 : Option Addr) (c1 c2 B : Nat) (base rest : List UInt8) (h1 : SV w B A1 (bytesV base)) (h2 : SV w B A2 (bytesV rest)) (hb : base.length ≤ 1000) (hr : rest.length ≤ 1000) :
    Calls Try.prog 24 #[.slice A1 base.length c1, .slice A2 rest.length c2] w fun e w' => e = .returned (.tuple #[.int .i64 (Dc.longest base rest).1, .int .i64 (Dc.longest base rest).2]) ∧ ∃ n, w' = w.drewN n := by
  go_enter Try.func24, Try.ntmps24
  go_wp2
  go_loopw [6, 7, 12] (fun at_ best k wr => ∃ i : Nat, i ≤ base.length ∧ k = .int .i64 i ∧ at_ = .int .i64 (Dc.longestTo base rest i).1 ∧ best = .int .i64 (Dc.longestTo base rest i).2 ∧ ∃ n, wr = w.drewN n) (fun _ _ k _ => base.length - (intOf k).toNat)
  case atStart => exact ⟨0, Nat.zero_le _, rfl, rfl, rfl, 0, rfl⟩
  case round =>
    obtain ⟨i, hi, rfl, rfl, rfl, m, rfl⟩ := hrel
    by_cases hlt : i < base.length
    · go_wp2
      go_loopw [9] (fun n wr => ∃ k : Nat, k ≤ Dc.cpl (base.drop i) rest ∧ n = .int .i64 k ∧ ∃ m, wr = w.drewN m) (fun n _ => rest.length - (intOf n).toNat)
      case atStart => exact ⟨0, Nat.zero_le _, rfl, m, rfl⟩
      case round =>
        obtain ⟨k, hk, rfl, m, rfl⟩ := hrel
        have hk1 := Dc.cpl_le_left (base.drop i) rest
        have hk2 := Dc.cpl_le_right (base.drop i) rest
        simp only [List.length_drop] at hk1
        by_cases hr1 : k < rest.length
        · have x1 : (k : Int) < rest.length := by omega
          have ⟨b2, o2, e2, _, hc2⟩ := h2.byte k hr1
          subst e2
          by_cases hr2 : i + k < base.length
          · have ⟨b1, o1, e1, _, hc1⟩ := h1.byte (i + k) hr2
            subst e1
            have x2 : (i : Int) + k < base.length := by omega
            by_cases he : base[i + k] = rest[k]
            · have he' : ((base[i + k].toNat : Int) == (rest[k].toNat : Int)) = true := by simp [he]
              have hs := Dc.cpl_step (base.drop i) rest k hk (by simp; omega) hr1 (by simpa using he)
              clear he
              go_wp2_with fail
              go_quiet (fail)
              go_wp2
              go_roundw
              case rel => exact ⟨k + 1, hs, by go_num, _, rfl⟩
              case measure => simp [intOf]; omega
            · have he' : ((base[i + k].toNat : Int) == (rest[k].toNat : Int)) = false := by
                simp; intro h; exact he (by apply UInt8.toNat_inj.1; omega)
              have hs := Dc.cpl_of_stop (base.drop i) rest k hk (.inr ⟨by simp; omega, hr1, by simpa using he⟩)
              have HS := Lib.hid (longestTo_succ base rest i k hs)
              clear he hs
              go_wp2_with fail
              go_quiet (fail)
              go_wp2
              all_goals
                go_roundw
                case rel => exact ⟨i + 1, by omega, by go_num, by rw [HS.out]; first | rw [if_pos (by assumption)] | rw [if_neg (by assumption)], by rw [HS.out]; first | rw [if_pos (by assumption)] | rw [if_neg (by assumption)], _, rfl⟩
                case measure => simp [intOf]; omega
          · have x2 : decide ((i : Int) + k < base.length) = false := by simp; omega
            have hs := Dc.cpl_of_stop (base.drop i) rest k hk (.inl (by simp; omega))
            have HS := Lib.hid (longestTo_succ base rest i k hs)
            clear hs
            go_wp2_with fail
            go_quiet (fail)
            go_wp2
            all_goals
              go_roundw
              case rel => exact ⟨i + 1, by omega, by go_num, by rw [HS.out]; first | rw [if_pos (by assumption)] | rw [if_neg (by assumption)], by rw [HS.out]; first | rw [if_pos (by assumption)] | rw [if_neg (by assumption)], _, rfl⟩
              case measure => simp [intOf]; omega
        · have x1 : decide ((k : Int) < rest.length) = false := by simp; omega
          have hs := Dc.cpl_of_stop (base.drop i) rest k hk (.inl (by simp; omega))
          have HS := Lib.hid (longestTo_succ base rest i k hs)
          clear hs
          go_wp2_with fail
          go_quiet (fail)
          go_wp2
          all_goals
            go_roundw
            case rel => exact ⟨i + 1, by omega, by go_num, by rw [HS.out]; first | rw [if_pos (by assumption)] | rw [if_neg (by assumption)], by rw [HS.out]; first | rw [if_pos (by assumption)] | rw [if_neg (by assumption)], _, rfl⟩
            case measure => simp [intOf]; omega
    · obtain rfl : i = base.length := by omega
      go_wp2
      go_ret2
      exact ⟨rfl, _, rfl⟩

/-- What 'run' leaves. -/
def RunPost (w : World) (B0 : Nat) (v0 : Value) (r : List UInt8 × Int) (e : Ending) (w' : World) : Prop :=
  ∃ v, e = .returned (.tuple #[v, .int .i64 r.2]) ∧ w'.ownsRow B0 5 1 v r.1.length (bytesV r.1) ∧ w.grownBy w' v0.ownBlock
theorem RunPost.fail_ {w w' : World} {B0 : Nat} {v0 : Value} {r : List UInt8 × Int} {c : Int} (h : Hid (r = ([], c))) (hg : w.grownBy w' v0.ownBlock) :
    RunPost w B0 v0 r (.returned (.tuple #[.slice none 0 0, .int .i64 c])) w' := by
  rw [h.out]
  exact ⟨_, rfl, World.ownsRow_nil _ _ _ _, hg⟩
theorem RunPost.good {w w' : World} {B0 : Nat} {v0 v : Value} {r : List UInt8 × Int} {out new : List UInt8} {n : Nat} (h : Hid (r = (out ++ new, 0))) (hg : w.grownBy w' v0.ownBlock)
    (hn : n = out.length + new.length) (hown : w'.ownsRow B0 5 1 v n (bytesV out ++ bytesV new)) :
    RunPost w B0 v0 r (.returned (.tuple #[v, .int .i64 0])) w' := by
  rw [h.out]
  subst hn
  exact ⟨v, rfl, by simpa using hown, hg⟩

section
variable (w : World) (A1 A2 A3 : Option Addr) (c1 c2 c3 B0 : Nat) (base out data : List UInt8)

set_option maxHeartbeats 1600000 in
theorem run_copy (f m : Nat) (h1 : SV w w.heap.size A1 (bytesV base)) (hc1 : base.length ≤ c1)
    (h2 : w.ownsRow B0 5 1 (.slice A2 out.length c2) out.length (bytesV out)) (hB : B0 ≤ w.heap.size)
    (hb : base.length ≤ 1000) (ho : out.length ≤ 1000) (hp : 0 < m) (hle : f + m ≤ base.length) :
    Calls Try.prog 28 #[.slice A1 base.length c1, .slice A2 out.length c2, .agg #[.int .i64 f, .int .i64 m, .slice A3 0 c3]] w (RunPost w B0 (.slice A2 out.length c2) (Dc.run base out ⟨f, m, []⟩)) := by
  obtain ⟨i0, hi0, hz0, hz1, hz2⟩ := info_parts info5
  have hp' : (0 : Int) < m := by omega
  have y1 : decide ((m : Int) < 0) = false := by simp
  have y2 : decide ((f : Int) < 0) = false := by simp
  have y3 : (f : Int) ≤ base.length := by omega
  have y4 : (m : Int) ≤ base.length - f := by omega
  by_cases hbig : 1000 < out.length + m
  · have H := Lib.hid (show Dc.run base out ⟨f, m, []⟩ = ([], 10) from by
      unfold Dc.run
      rw [if_neg (by simp; omega), if_neg (by simp; omega), if_pos (by simp; omega)])
    have y5 : (1000 : Int) < out.length + m := by omega
    go_enter Try.func28, Try.ntmps28
    go_wp2_with fail
    go_ret2
    exact RunPost.fail_ H (only_alloc (World.grownBy.refl _ _) _)
  · have H := Lib.hid (show Dc.run base out ⟨f, m, []⟩ = (out ++ (base.drop f).take m, 0) from by
      unfold Dc.run
      rw [if_neg (by simp; omega), if_neg (by simp; omega), if_neg (by simp; omega), if_pos (by simp; omega)]
      simp)
    have y5 : (out.length : Int) + m ≤ 1000 := by omega
    go_enter Try.func28, Try.ntmps28
    go_wp2_with (first | (at_builtin; refine wpList_append_sv _ rfl (.tmp 76) (.tmp 85) 22 rfl B0 5 i0 (.int .u8 0) 1 1 Try.underlying22 hi0 hz0 hz1 hz2 rfl (by decide) (.slice A2 out.length c2) out.length (bytesV out) rfl (h2.alloc _) w.heap.size _ _ _ (bytesV ((base.drop f).take m)) rfl ?ha ?hb (bytesV_one _) ?hc ?hd ?he ?_))
    case ha => simp; omega
    case hb =>
      have := (((h1.cut f (c1 = f) (fun h => by simp; omega)).take m).alloc (Nat.le_refl _) (.cells #[.int .i64 f, .int .i64 m, .slice A3 0 c3] 37))
      rw [if_neg (by omega)] at this
      simpa [bytesV, List.map_take, List.map_drop] using this
    case hc => simp [maxLen]; omega
    case hd => omega
    case he => simp; omega
    intro v1 w1 hown1 hg1 hat1
    go_wp2
    go_ret2
    exact RunPost.good H (only_trans (only_alloc (World.grownBy.refl _ _) _) hg1 (fun g h => .inl h)) (by simp; omega) hown1

end
end Go.Proofs.Ytiphcpibhffdjaa
