/-
  Histories: walks of 'check' and 'Validate'.
-/
import Derived.Test.YtebohncdhhikkaaHView
namespace Go.Proofs.Ytebohncdhhikkaa
open Go.RowKit Go.V
set_option linter.unusedVariables false

theorem ret_int {k : IntKind} {a b : Int} (h : a = b) : Ending.returned (.int k a) = .returned (.int k b) := by rw [h]

set_option maxHeartbeats 4000000 in
theorem check_any (w : World) (A : Option Addr) (k : Nat) (c : Hs.Cm) (i : Int) (hi : I64 i) (hok : CoOk c) (hp : IV w A c.par) :
    Calls Try.prog 35 #[.agg #[.slice A c.par.length k, .int .i64 c.au, .int .i64 c.tm, .int .i64 c.tr, .string c.msg], .int .i64 i] w fun e w' => e = .returned (.int .i64 (Hs.check c i)) ∧ w.alloc (.cells #[.slice A c.par.length k, .int .i64 c.au, .int .i64 c.tm, .int .i64 c.tr, .string c.msg] 45) = w' := by
  obtain ⟨b1, b2, b3, b4, b5, b6⟩ := hok
  have hp1 := hp.alloc (.cells #[.slice A c.par.length k, .int .i64 c.au, .int .i64 c.tm, .int .i64 c.tr, .string c.msg] 45)
  unfold I64 at hi b4 b5 b6
  by_cases h3 : 3 < c.par.length
  · have H := Lib.hid (show Hs.check c i = 2 from by unfold Hs.check; rw [if_pos h3])
    have h3' : (3 : Int) < c.par.length := by omega
    go_enter Try.func35, Try.ntmps35
    go_wp2_with fail
    go_ret
    exact ⟨ret_int H.out.symm, rfl⟩
  · have h3' : (c.par.length : Int) ≤ 3 := by omega
    have H := Lib.hid (show Hs.check c i = if Hs.parErr i c.par 0 ≠ 0 then Hs.parErr i c.par 0 else Hs.dataErr c from by unfold Hs.check; rw [if_neg h3])
    go_enter Try.func35, Try.ntmps35
    go_wp2_with fail
    go_loop [14] (fun v => ∃ j : Nat, j ≤ c.par.length ∧ v = .int .i64 j ∧ Hid (Hs.parErr i c.par 0 = Hs.parErr i c.par j)) (fun v => c.par.length - (intOf v).toNat)
    case atStart => exact ⟨0, Nat.zero_le _, rfl, rfl⟩
    case round =>
      obtain ⟨j, hj, rfl, HJ⟩ := hrel
      by_cases hlt : j < c.par.length
      · obtain ⟨b, off, e, hb, hc⟩ := hp1.at_ j hlt
        subst e
        have hpj := b3 j hlt
        unfold I64 at hpj
        by_cases hr : c.par[j] < 0 ∨ i ≤ c.par[j]
        · have H2 := Lib.hid (show Hs.check c i = 3 from by rw [H.out, HJ.out, Hs.parErr_range i c.par j hlt hr]; simp)
          rcases hr with hr | hr
          · have hr' : decide (c.par[j] < 0) = true := by simpa using hr
            go_wp2_with fail
            go_ret
            exact ⟨ret_int H2.out.symm, rfl⟩
          · by_cases hr0 : c.par[j] < 0
            · have hr' : decide (c.par[j] < 0) = true := by simpa using hr0
              go_wp2_with fail
              go_ret
              exact ⟨ret_int H2.out.symm, rfl⟩
            · have hr' : decide (c.par[j] < 0) = false := by simpa using hr0
              go_wp2_with fail
              go_ret
              exact ⟨ret_int H2.out.symm, rfl⟩
        · have hr1 : decide (c.par[j] < 0) = false := by simp; omega
          have hr2 : c.par[j] < i := by omega
          by_cases hj0 : j = 0
          · have H2 := Lib.hid (HJ.out.trans (Hs.parErr_next i c.par j hlt hr (by omega)))
            have hz : decide (0 < j) = false := by simp; omega
            have hz' : decide ((0 : Int) < j) = false := by simp; omega
            clear hr hj0
            go_wp2_with fail
            go_round
            case rel => exact ⟨j + 1, by omega, by go_num, H2⟩
            case measure => simp [intOf]; omega
          · have hj1 : (0 : Int) < j := by omega
            obtain ⟨b', off', e', hb', hc'⟩ := hp1.at_ (j - 1) (by omega)
            injection e' with e'
            injection e' with e1 e2
            subst e1 e2
            have hi1 : ((j : Int) - 1) = ((j - 1 : Nat) : Int) := by omega
            by_cases hm : c.par[j] ≤ c.par[j - 1]
            · have H2 := Lib.hid (show Hs.check c i = 5 from by rw [H.out, HJ.out, Hs.parErr_bad i c.par j hlt hr (by omega) hm]; simp)
              clear hr
              go_wp2_with fail
              go_ret
              exact ⟨ret_int H2.out.symm, rfl⟩
            · have H2 := Lib.hid (HJ.out.trans (Hs.parErr_next i c.par j hlt hr (by omega)))
              clear hr
              have hm' : c.par[j - 1] < c.par[j] := by omega
              go_wp2_with fail
              go_round
              case rel => exact ⟨j + 1, by omega, by go_num, H2⟩
              case measure => simp [intOf]; omega
      · obtain rfl : j = c.par.length := by omega
        have H2 := Lib.hid (show Hs.check c i = Hs.dataErr c from by rw [H.out, HJ.out, Hs.parErr_end i c.par _ (Nat.le_refl _)]; simp)
        go_wp2_with fail
        all_goals
          go_ret
          first
            | exact ⟨ret_int (H2.out.trans (Hs.dataErr_bad c (by unfold Hs.M; omega))).symm, rfl⟩
            | exact ⟨ret_int (H2.out.trans (Hs.dataErr_msg c (by unfold Hs.M; omega) (by omega))).symm, rfl⟩
            | exact ⟨ret_int (H2.out.trans (Hs.dataErr_good c (by unfold Hs.M; omega) (by omega))).symm, rfl⟩
end Go.Proofs.Ytebohncdhhikkaa
