/-
  Histories: walk of the reference's 'HistoryFault'.
-/
import Derived.Test.YtebohncdhhikkaaW2
namespace Go.Proofs.Ytebohncdhhikkaa
open Go.RowKit Go.V
set_option linter.unusedVariables false

set_option maxRecDepth 100000 in
set_option maxHeartbeats 8000000 in
theorem historyFault_any (w : World) (A : Option Addr) (k : Nat) (l : List Hs.Cm) (hv : CV w A l) (hl : l.length ≤ 9223372036854775807) :
    Calls Try.prog 7 #[.slice A l.length k] w (FaultPost w (Hs.validate l)) := by
  by_cases h60 : 60 < l.length
  · have H := Lib.hid (show Hs.validate l = (2, -1) from by unfold Hs.validate; rw [if_pos h60])
    have h60' : (60 : Int) < l.length := by omega
    go_enter Try.func7, Try.ntmps7
    go_wp2_with (go_at_call 19; refine (fault_any _ _ _).mono ?_; rintro e w' ⟨rfl, rfl⟩)
    refine bodyPost_ret (results_c rfl _ _ w.heap.size (.int .i64 2) (.int .i64 (-1)) rfl ((Blk.new _ _ _).alloc _)) rfl (FaultPost.mk_ H.out ?_)
    exact (below_alloc1 _ _).alloc (by simp) _
  · have h60' : (l.length : Int) ≤ 60 := by omega
    have H := Lib.hid (show Hs.validate l = Hs.valFrom l 0 from by unfold Hs.validate; rw [if_neg h60])
    go_enter Try.func7, Try.ntmps7
    go_wp2_with fail
    go_loopw [3] (fun v wr => ∃ i : Nat, i ≤ l.length ∧ v = .int .i64 i ∧ Blk wr w.heap.size 28 #[.int .i64 0, .int .i64 0] ∧ Below w.heap.size w wr ∧ Hid (Hs.valFrom l 0 = Hs.valFrom l i)) (fun v _ => l.length - (intOf v).toNat)
    case atStart => exact ⟨0, Nat.zero_le _, rfl, Blk.new _ _ _, below_alloc1 _ _, rfl⟩
    case round =>
      obtain ⟨i, hi, rfl, hblk, hbel, HJ⟩ := hrel
      obtain ⟨wo, rfl⟩ : ∃ wo : World, wo = wr := ⟨_, rfl⟩
      have hsz := hbel.size
      have hlt0 := hblk.lt
      have hc0 := hblk.cell 0
      have hc1' := hblk.cell 1
      have hf0 := hblk.frozen 0
      have hf1 := hblk.frozen 1
      simp only [List.getElem?_toArray, List.getElem?_cons_zero, List.getElem?_cons_succ] at hc0 hc1'
      by_cases hlt : i < l.length
      · obtain ⟨b, off, Ap, kp, e, hb, c0, c1, c2, c3, c4, hok, hip⟩ := (hv.below hbel).row i hlt
        subst e
        have HC1 := Lib.hid (Hs.valFrom_next l i hlt)
        have HC2 := Lib.hid (Hs.valFrom_bad l i hlt)
        generalize l[i] = c at *
        obtain ⟨b1, b2, b3, b4, b5, b6⟩ := hok
        unfold I64 at b4 b5 b6
        have hil : (i : Int) < l.length := by omega
        by_cases h3 : 3 < c.par.length
        · have hck : Hs.check c i = 2 := by unfold Hs.check; rw [if_pos h3]
          have H2 := Lib.hid (H.out.trans (HJ.out.trans (HC2.out (by rw [hck]; decide))))
          rw [hck] at H2
          have h3' : (3 : Int) < c.par.length := by omega
          clear hck HC1 HC2
          go_wp2_with (go_at_call 19; refine (fault_any _ _ _).mono ?_; rintro e w' ⟨rfl, rfl⟩)
          refine bodyPost_ret (results_c rfl _ _ w.heap.size (.int .i64 2) (.int .i64 i) rfl (((blk_put26 hblk _ _).alloc _).alloc _)) rfl (FaultPost.mk_ H2.out ?_)
          exact (((hbel.setCell (by simp) _).setCell (by simp) _).alloc (by simp; omega) _).alloc (by simp; omega) _
        · have h3' : (c.par.length : Int) ≤ 3 := by omega
          have HCK := Lib.hid (show Hs.check c i = if Hs.parErr i c.par 0 ≠ 0 then Hs.parErr i c.par 0 else Hs.dataErr c from by unfold Hs.check; rw [if_neg h3])
          have hp1 := hip.alloc (.cells #[.slice Ap c.par.length kp, .int .i64 c.au, .int .i64 c.tm, .int .i64 c.tr, .string c.msg] 45)
          go_wp2_with fail
          go_loopw [5] (fun v wr => ∃ j m : Nat, j ≤ c.par.length ∧ v = .int .i64 j ∧ wr = (wo.alloc (.cells #[.slice Ap c.par.length kp, .int .i64 c.au, .int .i64 c.tm, .int .i64 c.tr, .string c.msg] 45)).drewN m ∧ Hid (Hs.parErr i c.par 0 = Hs.parErr i c.par j)) (fun v _ => c.par.length - (intOf v).toNat)
          case atStart => exact ⟨0, 0, Nat.zero_le _, rfl, rfl, rfl⟩
          case round =>
            obtain ⟨j, m, hj, rfl, rfl, HP⟩ := hrel
            have hbelm := below_drewN (hbel.alloc hsz (.cells #[.slice Ap c.par.length kp, .int .i64 c.au, .int .i64 c.tm, .int .i64 c.tr, .string c.msg] 45)) m
            by_cases hjl : j < c.par.length
            · obtain ⟨b', off', e', hb', hc'⟩ := hp1.at_ j hjl
              subst e'
              have hpj := b3 j hjl
              unfold I64 at hpj
              by_cases hr : c.par[j] < 0 ∨ i ≤ c.par[j]
              · have hck : Hs.check c i = 3 := by rw [HCK.out, HP.out, Hs.parErr_range i c.par j hjl hr]; simp
                have H2 := Lib.hid (H.out.trans (HJ.out.trans (HC2.out (by rw [hck]; decide))))
                rw [hck] at H2
                clear hck HC1 HC2
                go_wp2_with (first | (go_at_call 24; refine (in_no _ _ _ _ (by omega)).mono ?_; rintro e w' ⟨rfl, rfl⟩) | (go_at_call 19; refine (fault_any _ _ _).mono ?_; rintro e w' ⟨rfl, rfl⟩))
                refine bodyPost_ret (results_c rfl _ _ w.heap.size (.int .i64 3) (.int .i64 i) rfl ((blk_put26 ((hblk.alloc _).drewN _) _ _).alloc _)) rfl (FaultPost.mk_ H2.out ?_)
                exact (((below_drewN (hbel.alloc hsz _) _).setCell (by simp) _).setCell (by simp) _).alloc (by simp; omega) _
              · by_cases hj0 : j = 0
                · have H2 := Lib.hid (HP.out.trans (Hs.parErr_next i c.par j hjl hr (by omega)))
                  have hz : decide (0 < j) = false := by simp; omega
                  have hz' : decide ((0 : Int) < j) = false := by simp; omega
                  clear hj0
                  go_wp2_with (first | (go_at_call 24; refine (in_yes _ _ _ _ (by omega)).mono ?_; rintro e w' ⟨rfl, rfl⟩))
                  go_quiet (fail)
                  go_wp2_with fail
                  go_roundw
                  case rel => exact ⟨j + 1, _, by omega, by go_num, rfl, H2⟩
                  case measure => simp [intOf]; omega
                · have hj1 : (0 : Int) < j := by omega
                  have hj2 : decide ((0 : Int) < j) = true := by simp; omega
                  have hj3 : decide (0 < j) = true := by simp; omega
                  obtain ⟨b'', off'', e'', hb'', hc''⟩ := hp1.at_ (j - 1) (by omega)
                  injection e'' with e''
                  injection e'' with e1 e2
                  subst e1 e2
                  have hi1 : ((j : Int) - 1) = ((j - 1 : Nat) : Int) := by omega
                  by_cases hm : c.par[j] ≤ c.par[j - 1]
                  · have hck : Hs.check c i = 5 := by rw [HCK.out, HP.out, Hs.parErr_bad i c.par j hjl hr (by omega) hm]; simp
                    have H2 := Lib.hid (H.out.trans (HJ.out.trans (HC2.out (by rw [hck]; decide))))
                    rw [hck] at H2
                    have hm' : decide (c.par[j] ≤ c.par[j - 1]) = true := by simpa using hm
                    clear hck HC1 HC2
                    go_wp2_with (first | (go_at_call 24; refine (in_yes _ _ _ _ (by omega)).mono ?_; rintro e w' ⟨rfl, rfl⟩))
                    go_quiet (fail)
                    go_wp2_with (first | (go_at_call 19; refine (fault_any _ _ _).mono ?_; rintro e w' ⟨rfl, rfl⟩))
                    refine bodyPost_ret (results_c rfl _ _ w.heap.size (.int .i64 5) (.int .i64 i) rfl ((blk_put26 ((hblk.alloc _).drewN _) _ _).alloc _)) rfl (FaultPost.mk_ H2.out ?_)
                    exact (((below_drewN (hbel.alloc hsz _) _).setCell (by simp) _).setCell (by simp) _).alloc (by simp; omega) _
                  · have H2 := Lib.hid (HP.out.trans (Hs.parErr_next i c.par j hjl hr (by omega)))
                    have hm' : decide (c.par[j] ≤ c.par[j - 1]) = false := by simpa using hm
                    go_wp2_with (first | (go_at_call 24; refine (in_yes _ _ _ _ (by omega)).mono ?_; rintro e w' ⟨rfl, rfl⟩))
                    go_quiet (fail)
                    go_wp2_with fail
                    go_roundw
                    case rel => exact ⟨j + 1, _, by omega, by go_num, rfl, H2⟩
                    case measure => simp [intOf]; omega
            · obtain rfl : j = c.par.length := by omega
              have HD := Lib.hid (show Hs.check c i = Hs.dataErr c from by rw [HCK.out, HP.out, Hs.parErr_end i c.par _ (Nat.le_refl _)]; simp)
              by_cases ha : 0 ≤ c.au ∧ c.au ≤ 7
              · by_cases ht : 0 ≤ c.tm ∧ c.tm ≤ 100000
                · by_cases hd : 0 ≤ c.tr ∧ c.tr < 2305843009213693951
                  · by_cases hmsg : 80 < c.msg.size
                    · have hck : Hs.check c i = 10 := HD.out.trans (Hs.dataErr_msg c (by unfold Hs.M; omega) hmsg)
                      have H2 := Lib.hid (H.out.trans (HJ.out.trans (HC2.out (by rw [hck]; decide))))
                      rw [hck] at H2
                      have hmsg' : (80 : Int) < c.msg.size := by omega
                      clear hck HC1 HC2
                      go_wp2_with (first | (go_at_call 24; refine (in_yes _ _ _ _ (by omega)).mono ?_; rintro e w' ⟨rfl, rfl⟩) | (go_at_call 25; refine (dig_yes _ _ (by omega)).mono ?_; rintro e w' ⟨rfl, rfl⟩) | (go_at_call 19; refine (fault_any _ _ _).mono ?_; rintro e w' ⟨rfl, rfl⟩))
                      refine bodyPost_ret (results_c rfl _ _ w.heap.size (.int .i64 10) (.int .i64 i) rfl ((blk_put26 ((hblk.alloc _).drewN _) _ _).alloc _)) rfl (FaultPost.mk_ H2.out ?_)
                      exact (((below_drewN (hbel.alloc hsz _) _).setCell (by simp) _).setCell (by simp) _).alloc (by simp; omega) _
                    · have hck : Hs.check c i = 0 := HD.out.trans (Hs.dataErr_good c (by unfold Hs.M; omega) (by omega))
                      have H2 := Lib.hid (HJ.out.trans (HC1.out hck))
                      have hmsg' : (c.msg.size : Int) ≤ 80 := by omega
                      clear hck HC1 HC2
                      go_wp2_with (first | (go_at_call 24; refine (in_yes _ _ _ _ (by omega)).mono ?_; rintro e w' ⟨rfl, rfl⟩) | (go_at_call 25; refine (dig_yes _ _ (by omega)).mono ?_; rintro e w' ⟨rfl, rfl⟩) | (go_at_call 19; refine (fault_any _ _ _).mono ?_; rintro e w' ⟨rfl, rfl⟩))
                      go_roundw
                      case rel => exact ⟨i + 1, by omega, by go_num, (hblk.alloc _).drewN m, hbelm, H2⟩
                      case measure => simp [intOf]; omega
                  · have hck : Hs.check c i = 3 := HD.out.trans (Hs.dataErr_bad c (by unfold Hs.M; omega))
                    have H2 := Lib.hid (H.out.trans (HJ.out.trans (HC2.out (by rw [hck]; decide))))
                    rw [hck] at H2
                    clear hck HC1 HC2
                    go_wp2_with (first | (go_at_call 24; refine (in_yes _ _ _ _ (by omega)).mono ?_; rintro e w' ⟨rfl, rfl⟩) | (go_at_call 24; refine (in_no _ _ _ _ (by omega)).mono ?_; rintro e w' ⟨rfl, rfl⟩) | (go_at_call 25; refine (dig_no _ _ (by omega)).mono ?_; rintro e w' ⟨rfl, rfl⟩) | (go_at_call 19; refine (fault_any _ _ _).mono ?_; rintro e w' ⟨rfl, rfl⟩))
                    refine bodyPost_ret (results_c rfl _ _ w.heap.size (.int .i64 3) (.int .i64 i) rfl ((blk_put26 ((hblk.alloc _).drewN _) _ _).alloc _)) rfl (FaultPost.mk_ H2.out ?_)
                    exact (((below_drewN (hbel.alloc hsz _) _).setCell (by simp) _).setCell (by simp) _).alloc (by simp; omega) _
                · have hck : Hs.check c i = 3 := HD.out.trans (Hs.dataErr_bad c (by unfold Hs.M; omega))
                  have H2 := Lib.hid (H.out.trans (HJ.out.trans (HC2.out (by rw [hck]; decide))))
                  rw [hck] at H2
                  clear hck HC1 HC2
                  go_wp2_with (first | (go_at_call 24; refine (in_yes _ _ _ _ (by omega)).mono ?_; rintro e w' ⟨rfl, rfl⟩) | (go_at_call 24; refine (in_no _ _ _ _ (by omega)).mono ?_; rintro e w' ⟨rfl, rfl⟩) | (go_at_call 25; refine (dig_no _ _ (by omega)).mono ?_; rintro e w' ⟨rfl, rfl⟩) | (go_at_call 19; refine (fault_any _ _ _).mono ?_; rintro e w' ⟨rfl, rfl⟩))
                  refine bodyPost_ret (results_c rfl _ _ w.heap.size (.int .i64 3) (.int .i64 i) rfl ((blk_put26 ((hblk.alloc _).drewN _) _ _).alloc _)) rfl (FaultPost.mk_ H2.out ?_)
                  exact (((below_drewN (hbel.alloc hsz _) _).setCell (by simp) _).setCell (by simp) _).alloc (by simp; omega) _
              · have hck : Hs.check c i = 3 := HD.out.trans (Hs.dataErr_bad c (by unfold Hs.M; omega))
                have H2 := Lib.hid (H.out.trans (HJ.out.trans (HC2.out (by rw [hck]; decide))))
                rw [hck] at H2
                clear hck HC1 HC2
                go_wp2_with (first | (go_at_call 24; refine (in_yes _ _ _ _ (by omega)).mono ?_; rintro e w' ⟨rfl, rfl⟩) | (go_at_call 24; refine (in_no _ _ _ _ (by omega)).mono ?_; rintro e w' ⟨rfl, rfl⟩) | (go_at_call 25; refine (dig_no _ _ (by omega)).mono ?_; rintro e w' ⟨rfl, rfl⟩) | (go_at_call 19; refine (fault_any _ _ _).mono ?_; rintro e w' ⟨rfl, rfl⟩))
                refine bodyPost_ret (results_c rfl _ _ w.heap.size (.int .i64 3) (.int .i64 i) rfl ((blk_put26 ((hblk.alloc _).drewN _) _ _).alloc _)) rfl (FaultPost.mk_ H2.out ?_)
                exact (((below_drewN (hbel.alloc hsz _) _).setCell (by simp) _).setCell (by simp) _).alloc (by simp; omega) _
      · obtain rfl : i = l.length := by omega
        go_wp2_with fail
        refine bodyPost_ret (results_c rfl _ _ w.heap.size (.int .i64 0) (.int .i64 0) rfl (blk_put26 hblk _ _)) rfl (FaultPost.mk_ ?_ ?_)
        · rw [H.out, HJ.out, Hs.valFrom_end l _ (Nat.le_refl _)]
        · exact (hbel.setCell (by simp) _).setCell (by simp) _
end Go.Proofs.Ytebohncdhhikkaa
