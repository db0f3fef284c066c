/-
  Histories: walk of bisect's 'check'.
-/
import Derived.Test.YtoohmkdgimkgoaaW18
import Derived.Test.YtoohmkdgimkgoaaPure8
namespace Go.Proofs.Ytoohmkdgimkgoaa
open Go.RowKit Go.V
set_option linter.unusedVariables false

def bcheck (l : List Hs.Cm) (good : List Int) (bad : Int) : Int × Int :=
  if (Hs.validate l).1 ≠ 0 then Hs.validate l else if ¬ (0 ≤ bad ∧ bad < l.length) then (6, -1) else if 60 < good.length then (2, -2)
  else if (octFrom l good 0).1 ≠ 0 then octFrom l good 0 else cond ((Hs.nats good).any fun g => Hs.reach l g bad.toNat) (11, -1) (0, 0)
theorem bcheck_cases (l : List Hs.Cm) (good : List Int) (bad : Int) : (bcheck l good bad).1 ≠ 0 ∨
    (bcheck l good bad = (0, 0) ∧ ∃ (gs : List Nat) (b : Nat), good = Hs.ints gs ∧ bad = b ∧ Hs.Srch l gs b ∧ gs.length ≤ 60) := by
  unfold bcheck
  by_cases h : (Hs.validate l).1 = 0
  · rw [if_neg (by simpa using h)]
    by_cases hb : 0 ≤ bad ∧ bad < l.length
    · rw [if_neg (by simpa using hb)]
      by_cases hg : 60 < good.length
      · rw [if_pos hg]; exact .inl (by decide)
      · rw [if_neg hg]
        rcases octFrom_all l good good.length 0 (by omega) with ⟨h1, h2⟩ | ⟨h1, _⟩
        · rw [h1, if_neg (by decide)]
          obtain ⟨hni, hlt⟩ := nats_ints good l.length fun j hj => h2 j hj (Nat.zero_le _)
          cases ha : ((Hs.nats good).any fun g => Hs.reach l g bad.toNat)
          case true => exact .inl (by decide)
          case false =>
            refine .inr ⟨rfl, Hs.nats good, bad.toNat, hni, by omega, ⟨(Hs.validate_ok l h).2, by omega, hlt, fun g hg => ?_⟩, by simp [Hs.nats]; omega⟩
            cases hr : Hs.reach l g bad.toNat
            · rfl
            · rw [List.any_eq_true.2 ⟨g, hg, hr⟩] at ha; cases ha
        · rw [h1, if_pos (by decide)]; exact .inl (by rw [h1]; decide)
    · rw [if_pos hb]; exact .inl (by decide)
  · rw [if_pos h]; exact .inl h
theorem of_any_reach {l : List Hs.Cm} (hok : Hs.Ok l) (gs : List Nat) (hg : ∀ g ∈ gs, g < l.length) (k : Nat) : Hs.of l (fun x => gs.contains x) k = gs.any fun g => Hs.reach l g k := by
  rw [Bool.eq_iff_iff, hok.of_iff (f := fun x => gs.contains x) (fun i hi => hg i (by simpa using hi)) k, List.any_eq_true]
  simp

set_option maxRecDepth 100000 in
set_option maxHeartbeats 8000000 in
theorem bcheck_any (w : World) (A A2 : Option Addr) (k k2 : Nat) (l : List Hs.Cm) (good : List Int) (bad : Int) (hv : CV w A l) (hl : l.length ≤ 9223372036854775807) (hv2 : IV w A2 good) (hi64 : ∀ (j : Nat) (h : j < good.length), I64 good[j]) (hl2 : good.length ≤ 9223372036854775807) :
    Calls Try.prog 56 #[.slice A l.length k, .slice A2 good.length k2, .int .i64 bad] w (FaultPost w (bcheck l good bad)) := by
  have HC := Lib.hid (fun w1 h => validate_any w1 A k l h hl)
  have HR := Lib.hid (show bcheck l good bad = if (Hs.validate l).1 ≠ 0 then Hs.validate l else if ¬ (0 ≤ bad ∧ bad < l.length) then (6, -1) else if 60 < good.length then (2, -2) else if (octFrom l good 0).1 ≠ 0 then octFrom l good 0 else cond ((Hs.nats good).any fun g => Hs.reach l g bad.toNat) (11, -1) (0, 0) from rfl)
  go_enter Try.func56, Try.ntmps56
  go_wp2_with fail
  go_at_call 20
  refine (HC.out _ (hv.alloc _)).mono ?_
  rintro e w1 ⟨rfl, hb1⟩
  have hblk := (Blk.new w 26 #[.int .i64 0, .int .i64 0]).below hb1 (by simp)
  have hbel := (below_alloc1 w (.cells #[.int .i64 0, .int .i64 0] 26)).trans (hb1.mono (by simp))
  have hsz := hbel.size
  have hlt := hblk.lt
  have hc0 := hblk.cell 0
  have hc1 := hblk.cell 1
  have hf0 := hblk.frozen 0
  have hf1 := hblk.frozen 1
  simp only [List.getElem?_toArray, List.getElem?_cons_zero, List.getElem?_cons_succ] at hc0 hc1
  clear hb1 HC
  by_cases hbad : (Hs.validate l).1 = 0
  · have hok := (Hs.validate_ok l hbad).2
    have hl60 := hok.len
    have HR2 := Lib.hid (HR.out.trans (if_neg (by simpa using hbad)))
    rw [Hs.validate_of_ok hok]
    clear HR hbad
    by_cases ha : 0 ≤ bad ∧ bad < l.length
    · have HR3 := Lib.hid (HR2.out.trans (if_neg (by simpa using ha)))
      have HN := Lib.hid (show (decide (0 ≤ bad) && decide (bad < (l.length : Int))) = true from by rw [decide_eq_true ha.1, decide_eq_true ha.2]; rfl)
      clear HR2
      by_cases h60 : 60 < good.length
      · have H := Lib.hid (HR3.out.trans (if_pos h60))
        have h61 : (60 : Int) < good.length := by omega
        clear ha HR3
        go_wp2_with (go_at_call 49; refine (is_any _ _ _ _ _ (by omega)).mono ?_; rintro e w' ⟨rfl, rfl⟩; rw [HN.out])
        refine bodyPost_ret (results_c rfl _ _ w.heap.size (.int .i64 2) (.int .i64 (-2)) rfl ((blk_put26 hblk _ _).alloc _)) rfl (FaultPost.mk_ H.out ?_)
        exact ((hbel.setCell (by simp) _).setCell (by simp) _).alloc (by simp; omega) _
      · have HR4 := Lib.hid (HR3.out.trans (if_neg h60))
        have h61 : (good.length : Int) ≤ 60 := by omega
        have h62 : good.length ≤ 60 := by omega
        have hbel1 := hbel.alloc hsz (.cells #[.int .i64 0, .int .i64 0] 26)
        have HAT := Lib.hid (fun (i : Nat) (hi : i < good.length) => hv2.atIn hbel1 i hi)
        have HALL := Lib.hid (octFrom_all l good good.length 0 (by omega))
        have HB := Lib.hid ha
        clear HR3 h60 ha
        go_wp2_with (go_at_call 49; refine (is_any _ _ _ _ _ (by omega)).mono ?_; rintro e w' ⟨rfl, rfl⟩; rw [HN.out])
        clear HN
        go_loop [27] (fun v => ∃ i : Nat, i ≤ good.length ∧ v = .int .i64 i ∧ Hid (octFrom l good 0 = octFrom l good i)) (fun v => good.length - (intOf v).toNat)
        case atStart => exact ⟨0, Nat.zero_le _, rfl, rfl⟩
        case round =>
          obtain ⟨i, hi, rfl, HJ⟩ := hrel
          by_cases hil : i < good.length
          · obtain ⟨b, off, e, hb, hc⟩ := HAT.out i hil
            subst e
            have hxi := hi64 i hil
            unfold I64 at hxi
            by_cases hr : 0 ≤ good[i] ∧ good[i] < l.length
            · have HJ2 := Lib.hid (HJ.out.trans (octFrom_next l good i hil hr))
              have HN := Lib.hid (show (decide (0 ≤ good[i]) && decide (good[i] < (l.length : Int))) = true from by rw [decide_eq_true hr.1, decide_eq_true hr.2]; rfl)
              clear hr
              generalize good[i] = x at *
              go_wp2_with (go_at_call 49; refine (is_any _ _ _ _ _ (by omega)).mono ?_; rintro e w' ⟨rfl, rfl⟩; rw [HN.out])
              go_round
              case rel => exact ⟨i + 1, by omega, by go_num, HJ2⟩
              case measure => simp [intOf]; omega
            · have H := Lib.hid (show bcheck l good bad = (6, (i : Int)) from by rw [HR4.out, HJ.out, octFrom_bad l good i hil hr]; simp)
              have HN := Lib.hid (show (decide (0 ≤ good[i]) && decide (good[i] < (l.length : Int))) = false from by
                rw [Bool.and_eq_false_iff]; simp only [decide_eq_false_iff_not]; omega)
              clear hr
              generalize good[i] = x at *
              go_wp2_with (go_at_call 49; refine (is_any _ _ _ _ _ (by omega)).mono ?_; rintro e w' ⟨rfl, rfl⟩; rw [HN.out])
              refine bodyPost_ret (results_c rfl _ _ w.heap.size (.int .i64 6) (.int .i64 (i : Int)) rfl ((blk_put26 hblk _ _).alloc _)) rfl (FaultPost.mk_ H.out ?_)
              exact ((hbel.setCell (by simp) _).setCell (by simp) _).alloc (by simp; omega) _
          · obtain rfl : i = good.length := by omega
            have hz := HJ.out.trans (octFrom_end l good _ (Nat.le_refl _))
            have hall : ∀ j (h : j < good.length), 0 ≤ good[j] ∧ good[j] < l.length := by
              rcases HALL.out with ⟨_, h2⟩ | ⟨h1, _⟩
              · exact fun j hj => h2 j hj (Nat.zero_le _)
              · rw [hz] at h1; simp at h1
            obtain ⟨hni, hlt3⟩ := nats_ints good l.length hall
            have H := Lib.hid (HR4.out.trans ((if_neg (by rw [hz]; decide))))
            have hlen3 : (Hs.nats good).length = good.length := by simp [Hs.nats]
            have hiv : IV (w1.alloc (.cells #[.int .i64 0, .int .i64 0] 26)) A2 (Hs.ints (Hs.nats good)) := by rw [← hni]; exact hv2.below hbel1
            have hb0 := of_any (w1.alloc (.cells #[.int .i64 0, .int .i64 0] 26)) A A2 k k2 l (Hs.nats good) (hv.below hbel1) hok hiv hlt3 (by omega)
            rw [hlen3] at hb0
            have HCALL := Lib.hid hb0
            have HOF := Lib.hid (of_any_reach hok (Hs.nats good) hlt3)
            obtain ⟨b, rfl⟩ : ∃ b : Nat, bad = b := ⟨bad.toNat, by have := HB.out; omega⟩
            have hbl : b < l.length := by have := HB.out; omega
            have hbi : (b : Int) < l.length := by omega
            simp only [Int.toNat_natCast] at H
            clear hb0 hz hall hni hlt3 hlen3 hiv HALL HAT HB HR4 HJ
            go_wp2_with fail
            go_at_call 50
            refine HCALL.out.mono ?_
            rintro e w2 ⟨g, rfl, hg1, hrow, hb2⟩
            have hbel2 := hbel1.trans (hb2.mono hbel1.size)
            have hblk2 := (hblk.alloc (.cells #[.int .i64 0, .int .i64 0] 26)).below hb2 (by simp; omega)
            have d0 := hblk2.cell 0
            have d1 := hblk2.cell 1
            have e0 := hblk2.frozen 0
            have e1 := hblk2.frozen 1
            have hlt2 := hblk2.lt
            simp only [List.getElem?_toArray, List.getElem?_cons_zero, List.getElem?_cons_succ] at d0 d1
            have hcm := blk_tabB hrow b hbl
            rw [HOF.out] at hcm
            clear hbel1 hb2 HCALL HOF hrow
            generalize ((Hs.nats good).any fun g => Hs.reach l g b) = v at *
            cases v
            · have H2 := Lib.hid (show bcheck l good b = (0, 0) from H.out)
              go_wp2_with fail
              refine bodyPost_ret (results_c rfl _ _ w.heap.size (.int .i64 0) (.int .i64 0) rfl (blk_put26 hblk2 _ _)) rfl (FaultPost.mk_ H2.out ?_)
              exact (hbel2.setCell (by simp) _).setCell (by simp) _
            · have H2 := Lib.hid (show bcheck l good b = (11, -1) from H.out)
              go_wp2_with fail
              refine bodyPost_ret (results_c rfl _ _ w.heap.size (.int .i64 11) (.int .i64 (-1)) rfl (blk_put26 hblk2 _ _)) rfl (FaultPost.mk_ H2.out ?_)
              exact (hbel2.setCell (by simp) _).setCell (by simp) _
    · have H := Lib.hid (HR2.out.trans (if_pos ha))
      have HN := Lib.hid (show (decide (0 ≤ bad) && decide (bad < (l.length : Int))) = false from by
        rw [Bool.and_eq_false_iff]; simp only [decide_eq_false_iff_not]; omega)
      clear ha HR2
      go_wp2_with (go_at_call 49; refine (is_any _ _ _ _ _ (by omega)).mono ?_; rintro e w' ⟨rfl, rfl⟩; rw [HN.out])
      refine bodyPost_ret (results_c rfl _ _ w.heap.size (.int .i64 6) (.int .i64 (-1)) rfl ((blk_put26 hblk _ _).alloc _)) rfl (FaultPost.mk_ H.out ?_)
      exact ((hbel.setCell (by simp) _).setCell (by simp) _).alloc (by simp; omega) _
  · have H := Lib.hid (show bcheck l good bad = Hs.validate l from HR.out.trans (if_pos hbad))
    have h1 : ((Hs.validate l).1 == 0) = false := by simpa using hbad
    have h2 : ((Hs.validate l).1 != 0) = true := by simpa using hbad
    clear hbad HR
    generalize Hs.validate l = r at *
    obtain ⟨c, i⟩ := r
    simp only at h1 h2
    go_wp2_with fail
    refine bodyPost_ret (results_c rfl _ _ w.heap.size (.int .i64 c) (.int .i64 i) rfl ((blk_put26 hblk _ _).alloc _)) rfl (FaultPost.mk_ H.out ?_)
    exact ((hbel.setCell (by simp) _).setCell (by simp) _).alloc (by simp; omega) _
end Go.Proofs.Ytoohmkdgimkgoaa
