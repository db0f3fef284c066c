/-
  Histories: walk of the reference's 'BisectFault'.
-/
import Derived.Test.YtoohmkdgimkgoaaW19
import Derived.Test.YtoohmkdgimkgoaaW24
import Derived.Test.YtoohmkdgimkgoaaW3
namespace Go.Proofs.Ytoohmkdgimkgoaa
open Go.RowKit Go.V
set_option linter.unusedVariables false

set_option maxRecDepth 100000 in
set_option maxHeartbeats 8000000 in
theorem bisectFault_any (w : World) (A A2 : Option Addr) (k k2 : Nat) (l : List Hs.Cm) (good : List Int) (bad : Int) (hv : CV w A l) (hl : l.length ≤ 9223372036854775807) (hv2 : IV w A2 good) (hi64 : ∀ (j : Nat) (h : j < good.length), I64 good[j]) (hl2 : good.length ≤ 9223372036854775807) :
    Calls Try.prog 41 #[.slice A l.length k, .slice A2 good.length k2, .int .i64 bad] w (FaultPost w (bcheck l good bad)) := by
  have HC := Lib.hid (fun w1 h => historyFault_any w1 A k l h hl)
  have HR := Lib.hid (show bcheck l good bad = if (Hs.validate l).1 ≠ 0 then Hs.validate l else if ¬ (0 ≤ bad ∧ bad < l.length) then (6, -1) else if 60 < good.length then (2, -2) else if (octFrom l good 0).1 ≠ 0 then octFrom l good 0 else cond ((Hs.nats good).any fun g => Hs.reach l g bad.toNat) (11, -1) (0, 0) from rfl)
  go_enter Try.func41, Try.ntmps41
  go_wp2_with fail
  go_at_call 19
  refine (HC.out _ (hv.alloc _)).mono ?_
  rintro e w1 ⟨rfl, hb1⟩
  have hblk := (Blk.new w 26 #[.int .i64 0, .int .i64 0]).below hb1 (by simp)
  have hbel := (below_alloc1 w (.cells #[.int .i64 0, .int .i64 0] 26)).trans (hb1.mono (by simp))
  have hsz := hbel.size
  have hlt := hblk.lt
  have hc0 := hblk.cell 0
  have hc1 := hblk.cell 1
  have hf0 := hblk.frozen 0
  have hf1 := hblk.frozen 1
  simp only [List.getElem?_toArray, List.getElem?_cons_zero, List.getElem?_cons_succ] at hc0 hc1
  clear hb1 HC
  by_cases hbad : (Hs.validate l).1 = 0
  · have hok := (Hs.validate_ok l hbad).2
    have hl60 := hok.len
    have HR2 := Lib.hid (HR.out.trans (if_neg (by simpa using hbad)))
    rw [Hs.validate_of_ok hok]
    clear HR hbad
    by_cases ha : 0 ≤ bad ∧ bad < l.length
    · have HR3 := Lib.hid (HR2.out.trans (if_neg (by simpa using ha)))
      clear HR2
      by_cases h60 : 60 < good.length
      · have H := Lib.hid (HR3.out.trans (if_pos h60))
        have h61 : (60 : Int) < good.length := by omega
        clear HR3
        go_wp2_with (first | (go_at_call 21; refine (in_yes _ _ _ _ (by omega)).mono ?_; rintro e w' ⟨rfl, rfl⟩) | (go_at_call 22; refine (fault_any _ _ _).mono ?_; rintro e w' ⟨rfl, rfl⟩))
        refine bodyPost_ret (results_c rfl _ _ w.heap.size (.int .i64 2) (.int .i64 (-2)) rfl (((blk_put26 hblk _ _).alloc _).alloc _)) rfl (FaultPost.mk_ H.out ?_)
        exact (((hbel.setCell (by simp) _).setCell (by simp) _).alloc (by simp; omega) _).alloc (by simp; omega) _
      · have HR4 := Lib.hid (HR3.out.trans (if_neg h60))
        have h61 : (good.length : Int) ≤ 60 := by omega
        have h62 : good.length ≤ 60 := by omega
        have hbel1 := hbel.alloc hsz (.cells #[.int .i64 0, .int .i64 0] 26)
        have HAT := Lib.hid (fun (i : Nat) (hi : i < good.length) => hv2.atIn hbel1 i hi)
        have HALL := Lib.hid (octFrom_all l good good.length 0 (by omega))
        clear HR3 h60
        go_wp2_with (go_at_call 21; refine (in_yes _ _ _ _ (by omega)).mono ?_; rintro e w' ⟨rfl, rfl⟩)
        have HB := Lib.hid ha
        clear ha
        go_loop [8] (fun v => ∃ i : Nat, i ≤ good.length ∧ v = .int .i64 i ∧ Hid (octFrom l good 0 = octFrom l good i)) (fun v => good.length - (intOf v).toNat)
        case atStart => exact ⟨0, Nat.zero_le _, rfl, rfl⟩
        case round =>
          obtain ⟨i, hi, rfl, HJ⟩ := hrel
          by_cases hil : i < good.length
          · have hil' : (i : Int) < good.length := by omega
            obtain ⟨b, off, e, hb, hc⟩ := HAT.out i hil
            subst e
            have hxi := hi64 i hil
            unfold I64 at hxi
            by_cases hr : 0 ≤ good[i] ∧ good[i] < l.length
            · have HJ2 := Lib.hid (HJ.out.trans (octFrom_next l good i hil hr))
              have hrr : 0 ≤ good[i] ∧ good[i] ≤ (l.length : Int) - 1 := by omega
              have HIN := Lib.hid hrr
              clear hr hrr
              generalize good[i] = x at *
              go_wp2_with (go_at_call 21; refine (in_yes _ _ _ _ HIN.out).mono ?_; rintro e w' ⟨rfl, rfl⟩)
              go_round
              case rel => exact ⟨i + 1, by omega, by go_num, HJ2⟩
              case measure => simp [intOf]; omega
            · have H := Lib.hid (show bcheck l good bad = (6, (i : Int)) from by rw [HR4.out, HJ.out, octFrom_bad l good i hil hr]; simp)
              have hrr : ¬ (0 ≤ good[i] ∧ good[i] ≤ (l.length : Int) - 1) := by omega
              have HIN := Lib.hid hrr
              clear hr hrr
              generalize good[i] = x at *
              go_wp2_with (first | (go_at_call 21; refine (in_no _ _ _ _ HIN.out).mono ?_; rintro e w' ⟨rfl, rfl⟩) | (go_at_call 22; refine (fault_any _ _ _).mono ?_; rintro e w' ⟨rfl, rfl⟩))
              refine bodyPost_ret (results_c rfl _ _ w.heap.size (.int .i64 6) (.int .i64 (i : Int)) rfl (((blk_put26 hblk _ _).alloc _).alloc _)) rfl (FaultPost.mk_ H.out ?_)
              exact (((hbel.setCell (by simp) _).setCell (by simp) _).alloc (by simp; omega) _).alloc (by simp; omega) _
          · obtain rfl : i = good.length := by omega
            have hz := HJ.out.trans (octFrom_end l good _ (Nat.le_refl _))
            have hall : ∀ j (h : j < good.length), 0 ≤ good[j] ∧ good[j] < l.length := by
              rcases HALL.out with ⟨_, h2⟩ | ⟨h1, _⟩
              · exact fun j hj => h2 j hj (Nat.zero_le _)
              · rw [hz] at h1; simp at h1
            obtain ⟨hni, hlt3⟩ := nats_ints good l.length hall
            have H := Lib.hid (HR4.out.trans ((if_neg (by rw [hz]; decide))))
            have hlen3 : (Hs.nats good).length = good.length := by simp [Hs.nats]
            have hiv : IV (w1.alloc (.cells #[.int .i64 0, .int .i64 0] 26)) A2 (Hs.ints (Hs.nats good)) := by rw [← hni]; exact hv2.below hbel1
            have HCALL := Lib.hid (reach_any (w1.alloc (.cells #[.int .i64 0, .int .i64 0] 26)) A k l (hv.below hbel1) hok)
            obtain ⟨b, rfl⟩ : ∃ b : Nat, bad = b := ⟨bad.toNat, by have := HB.out; omega⟩
            have hbl : b < l.length := by have := HB.out; omega
            have hbi : (b : Int) < l.length := by omega
            simp only [Int.toNat_natCast] at H
            clear hz hall hni HALL HAT HB HR4 HJ
            go_wp2_with fail
            go_at_call 24
            refine HCALL.out.mono ?_
            rintro e w2 ⟨At, ct, rfl, hm, hb2⟩
            have hbel2 := hbel1.trans (hb2.mono hbel1.size)
            have hblk2 := (hblk.alloc (.cells #[.int .i64 0, .int .i64 0] 26)).below hb2 (by simp; omega)
            have d0 := hblk2.cell 0
            have d1 := hblk2.cell 1
            have e0 := hblk2.frozen 0
            have e1 := hblk2.frozen 1
            have hlt2 := hblk2.lt
            simp only [List.getElem?_toArray, List.getElem?_cons_zero, List.getElem?_cons_succ] at d0 d1
            have HM := Lib.hid (fun x i hx hi => mv_cell (wr := w2) hm (Below.refl _ _) x i hx hi)
            have HL := Lib.hid (fun (i : Nat) (hi : i < (Hs.nats good).length) => nat_at (wr := w2) hiv hb2 i hi)
            have HLT := Lib.hid hlt3
            have HLEN := Lib.hid hlen3
            have hsz2 := hbel2.size
            clear hbel1 hb2 HCALL hm hlt3 hlen3 hiv
            go_wp2_with fail
            go_loop [10] (fun v => ∃ i : Nat, i ≤ good.length ∧ v = .int .i64 i ∧ Hid (((Hs.nats good).take i).any (fun g => Hs.reach l g b) = false)) (fun v => good.length - (intOf v).toNat)
            case atStart => exact ⟨0, Nat.zero_le _, rfl, Lib.hid (by simp)⟩
            case round =>
              obtain ⟨i, hi, rfl, HJ⟩ := hrel
              by_cases hil : i < good.length
              · have hil' : (i : Int) < good.length := by omega
                have hin : i < (Hs.nats good).length := by rw [HLEN.out]; exact hil
                obtain ⟨b1, off, e, hb, hc⟩ := HL.out i hin
                subst e
                have hxl := HLT.out _ (List.getElem_mem hin)
                obtain ⟨b2, off2, b3, off3, c3, e2, hc2, hc3⟩ := HM.out _ b hxl hbl
                subst e2
                have HSUC := Lib.hid (show ((Hs.nats good).take (i + 1)).any (fun g => Hs.reach l g b) = (((Hs.nats good).take i).any (fun g => Hs.reach l g b) || Hs.reach l (Hs.nats good)[i] b) from by
                  rw [List.take_succ_eq_append_getElem hin, List.any_append]; simp)
                have HMEM := Lib.hid (List.getElem_mem hin)
                generalize (Hs.nats good)[i] = x at *
                have hxl' : (x : Int) < l.length := by omega
                generalize hrv : Hs.reach l x b = v at *
                have HRV := Lib.hid hrv
                clear hrv
                cases v
                · have HJ2 := Lib.hid (HSUC.out.trans (by rw [HJ.out]))
                  go_wp2_with fail
                  go_round
                  case rel => exact ⟨i + 1, by omega, by go_num, HJ2⟩
                  case measure => simp [intOf]; omega
                · have H2 := Lib.hid (show bcheck l good b = (11, -1) from by
                    rw [H.out, show ((Hs.nats good).any fun g => Hs.reach l g b) = true from List.any_eq_true.2 ⟨x, HMEM.out, HRV.out⟩]; rfl)
                  go_wp2_with (go_at_call 22; refine (fault_any _ _ _).mono ?_; rintro e w' ⟨rfl, rfl⟩)
                  refine bodyPost_ret (results_c rfl _ _ w.heap.size (.int .i64 11) (.int .i64 (-1)) rfl ((blk_put26 hblk2 _ _).alloc _)) rfl (FaultPost.mk_ H2.out ?_)
                  exact ((hbel2.setCell (by simp) _).setCell (by simp) _).alloc (by simp; omega) _
              · obtain rfl : i = good.length := by omega
                have H2 := Lib.hid (show bcheck l good b = (0, 0) from by
                  have := HJ.out
                  rw [← HLEN.out, List.take_length] at this
                  rw [H.out, this]; rfl)
                go_wp2_with fail
                refine bodyPost_ret (results_c rfl _ _ w.heap.size (.int .i64 0) (.int .i64 0) rfl (blk_put26 hblk2 _ _)) rfl (FaultPost.mk_ H2.out ?_)
                exact (hbel2.setCell (by simp) _).setCell (by simp) _
    · have H := Lib.hid (HR2.out.trans (if_pos ha))
      have hrr : ¬ (0 ≤ bad ∧ bad ≤ (l.length : Int) - 1) := by omega
      have HIN := Lib.hid hrr
      clear ha HR2 hrr
      go_wp2_with (first | (go_at_call 21; refine (in_no _ _ _ _ HIN.out).mono ?_; rintro e w' ⟨rfl, rfl⟩) | (go_at_call 22; refine (fault_any _ _ _).mono ?_; rintro e w' ⟨rfl, rfl⟩))
      refine bodyPost_ret (results_c rfl _ _ w.heap.size (.int .i64 6) (.int .i64 (-1)) rfl (((blk_put26 hblk _ _).alloc _).alloc _)) rfl (FaultPost.mk_ H.out ?_)
      exact (((hbel.setCell (by simp) _).setCell (by simp) _).alloc (by simp; omega) _).alloc (by simp; omega) _
  · have H := Lib.hid (show bcheck l good bad = Hs.validate l from HR.out.trans (if_pos hbad))
    have h1 : ((Hs.validate l).1 == 0) = false := by simpa using hbad
    have h2 : ((Hs.validate l).1 != 0) = true := by simpa using hbad
    clear hbad HR
    generalize Hs.validate l = r at *
    obtain ⟨c, i⟩ := r
    simp only at h1 h2
    go_wp2_with fail
    refine bodyPost_ret (results_c rfl _ _ w.heap.size (.int .i64 c) (.int .i64 i) rfl ((blk_put26 hblk _ _).alloc _)) rfl (FaultPost.mk_ H.out ?_)
    exact ((hbel.setCell (by simp) _).setCell (by simp) _).alloc (by simp; omega) _
end Go.Proofs.Ytoohmkdgimkgoaa
