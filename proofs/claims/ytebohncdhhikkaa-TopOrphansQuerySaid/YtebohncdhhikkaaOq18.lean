/-
  Markers: walk of 'obsolete.Validate', given what 'cyclic' tells.
-/
import Derived.Test.YtebohncdhhikkaaOq17
import Derived.Test.YtebohncdhhikkaaOq4
import Derived.BigRegion
import Derived.BigQuiet
import Derived.RegionTactic
namespace Go.Proofs.Ytebohncdhhikkaa
open Go.RowKit Go.V
set_option linter.unusedVariables false
set_option maxRecDepth 100000 in
set_option maxHeartbeats 16000000 in
theorem ovalidate_any (w : World) (A : Option Addr) (k : Nat) (l : List Oq.Mk) (hv : MV w A l) (hl : l.length ≤ 9223372036854775807)
    (HCY : ∀ w1, Below w.heap.size w w1 → l.length ≤ 40 → (∀ i (h : i < l.length), MkOk l[i]) → Calls Try.prog 34 #[.slice A l.length k] w1 fun e w' => IsB e ∧ Below w1.heap.size w1 w') :
    Calls Try.prog 16 #[.slice A l.length k] w (OvPost w l) := by
  replace HCY := Lib.hid HCY
  have HV := Lib.hid (fun (w1 : World) (hb : Below w.heap.size w w1) (i : Nat) (hi : i < l.length) => (hv.below hb).row i hi)
  have b0 := Blk.new w 28 #[.int .i64 0, .int .i64 0]
  have hb0 := below_alloc1 w (.cells #[.int .i64 0, .int .i64 0] 28)
  clear hv
  have HBAD := Lib.hid (fun (W : World) (c ix : Int) (hc : c ≠ 0) (hb : Below w.heap.size w W) => (show OvPost w l (.returned (.agg #[.int .i64 c, .int .i64 ix])) W from ⟨c, ix, rfl, fun h => absurd h hc, hb⟩))
  by_cases h40 : 40 < l.length
  · have h40' : (40 : Int) < l.length := by omega
    have f0 := b0.frozen 0
    have f1 := b0.frozen 1
    go_enter Try.func16, Try.ntmps16
    go_wp2_with fail
    refine bodyPost_ret (results_c rfl _ _ w.heap.size (.int .i64 2) (.int .i64 (-1)) rfl (Blk.new _ _ _)) rfl ?_
    exact HBAD.out _ 2 (-1) (by omega) (below_alloc1 _ _)
  · have h40' : ¬ (40 : Int) < l.length := by omega
    go_enter Try.func16, Try.ntmps16
    go_wp2_with fail
    go_loopw [12] (fun iv wr => ∃ i : Nat, i ≤ l.length ∧ iv = .int .i64 i ∧ Blk wr w.heap.size 28 #[.int .i64 0, .int .i64 0] ∧ Below w.heap.size w wr ∧ Hid (∀ j (h : j < l.length), j < i → MkOk l[j])) (fun iv _ => l.length - (intOf iv).toNat)
    case atStart => exact ⟨0, Nat.zero_le _, rfl, b0, hb0, Lib.hid fun j h hj => absurd hj (by omega)⟩
    case round =>
      clear b0 hb0
      obtain ⟨i, hi, rfl, bR, hb, HM⟩ := hrel
      obtain ⟨wo, rfl⟩ : ∃ wo : World, wo = wr := ⟨_, rfl⟩
      have hsz := hb.size
      by_cases hlt : i < l.length
      · have hlt' : (i : Int) < l.length := by omega
        obtain ⟨b, off, Ap, kp, e, hbs, d0, d1, hnl, hiv⟩ := HV.out _ hb i hlt
        have HPR := Lib.hid (fun (W : World) (hbW : Below w.heap.size w W) (hi0 : 0 < i) => HV.out W hbW (i - 1) (by omega))
        subst e
        have HMK := Lib.hid (show ∀ (hm : MkOk l[i]) j (h : j < l.length), j < i + 1 → MkOk l[j] from fun hm j h hj => by
          by_cases e : j = i
          · subst e; exact hm
          · exact HM.out j h (by omega))
        generalize l[i] = m at *
        obtain ⟨mo, mn⟩ := m
        simp only at d0 d1 hnl hiv
        have hbo : b < wo.heap.size := by
          exact hbs
        have bM := Blk.new wo 57 #[.int .i64 mo, .slice Ap mn.length kp]
        have hal := below_alloc1 wo (.cells #[.int .i64 mo, .slice Ap mn.length kp] 57)
        have hiv1 := hiv.below hal
        have HCK := Lib.hid (mcheck_any (wo.alloc (.cells #[.int .i64 mo, .slice Ap mn.length kp] 57)) ⟨mo, mn⟩ Ap kp hiv1 hnl)
        have HCMP := Lib.hid (fun (w1 : World) (hb1 : Below (wo.alloc (.cells #[.int .i64 mo, .slice Ap mn.length kp] 57)).heap.size (wo.alloc (.cells #[.int .i64 mo, .slice Ap mn.length kp] 57)) w1) (m2 : Oq.Mk) (A2 : Option Addr) (c2 : Nat) (h2 : IV w1 A2 m2.new) (hl2 : m2.new.length ≤ 9223372036854775807) => compare_any w1 ⟨mo, mn⟩ m2 Ap A2 kp c2 (hiv1.below hb1) h2 hnl hl2)
        simp only at HCK HCMP
        have bR1 := bR.alloc (.cells #[.int .i64 mo, .slice Ap mn.length kp] 57)
        have hb1 := hb.alloc hsz (.cells #[.int .i64 mo, .slice Ap mn.length kp] 57)
        have lM := bM.lt
        clear hiv hiv1 bR hb HV
        go_wp2_with fail
        go_at_call 32
        with_reducible refine HCK.out.mono ?_
        rintro e w1 ⟨⟨c, rfl, hcok⟩, hb2⟩
        have HCM2 := Lib.hid (fun (w3 : World) (hb3 : Below w1.heap.size w1 w3) => HCMP.out w3 (hb2.trans (hb3.mono hb2.size)))
        replace bM := bM.below hb2 lM
        replace bR1 := bR1.below hb2 bR1.lt
        replace hb1 := hb1.trans (hb2.mono hb1.size)
        have HCOK := Lib.hid hcok
        clear HCK HCMP hb2 hal hcok lM
        have m0 := (bM.cell 0).trans rfl
        have m1 := (bM.cell 1).trans rfl
        have lM1 := bM.lt
        have hszw := hb1.size
        by_cases hc : c = 0
        · subst hc
          have HM2 := Lib.hid (HMK.out (HCOK.out rfl))
          by_cases hi0 : i = 0
          · obtain rfl := hi0
            clear HCM2 HPR HBAD HCY
            go_wp2_with fail
            go_quiet (fail)
            go_wp2_with fail
            go_roundw
            case rel => exact ⟨1, by omega, rfl, bR1.drewN _, below_drewN hb1 _, HM2⟩
            case measure => simp [intOf]; omega
          · have hp : (0 : Int) < i := by omega
            have hpn : 0 < i := by omega
            have hpd : decide (0 < i) = true := decide_eq_true hpn
            obtain ⟨b', off', A2, c2, e', hb', p0, p1, hnl2, hiv2⟩ := HPR.out w1 hb1 (by omega)
            injection e' with e'
            injection e' with e3 e4 _
            subst e3
            subst e4
            have hsub : IntKind.i64.wrap ((i : Int) - 1) = ((i - 1 : Nat) : Int) := by rw [IntWalk.i64_in _ (by omega)]; omega
            have hlt2 : ((i - 1 : Nat) : Int) < l.length := by omega
            have hbw1 : b < w1.heap.size := by omega
            clear HPR
            generalize l[i - 1] = m2 at *
            obtain ⟨o2, n2⟩ := m2
            simp only at p0 p1 hnl2 hiv2
            generalize i - 1 = im at *
            have HCM3 := Lib.hid (HCM2.out w1.drew (below_drew' (Below.refl _ _)) ⟨o2, n2⟩ A2 c2 hiv2 hnl2)
            simp only at HCM3
            clear HCM2 HCY hiv2 HCOK HMK
            go_wp2_with fail
            have HK8 := Lib.hid (fun (w6 : World) (h6 : Below w1.heap.size w1 w6) => (show w6.cell? ⟨wo.heap.size, 0, none⟩ = some (.int .i64 mo) ∧ w6.cell? ⟨wo.heap.size, 1, none⟩ = some (.slice Ap mn.length kp) ∧ w6.cell? ⟨b, off + im * 2, none⟩ = some (.int .i64 o2) ∧ w6.cell? ⟨b, off + im * 2 + 1, none⟩ = some (.slice A2 n2.length c2) from ⟨((bM.below h6 lM1).cell 0).trans rfl, ((bM.below h6 lM1).cell 1).trans rfl, (h6.cell (p := ⟨b, off + im * 2, none⟩) hbw1).trans p0, (h6.cell (p := ⟨b, off + im * 2 + 1, none⟩) hbw1).trans p1⟩))
            refine wp_region_noPanic ?_
            refine wp_region_held_drew (S := (fun w6 : World => w6.cell? ⟨wo.heap.size, 0, none⟩ = some (.int .i64 mo) ∧ w6.cell? ⟨wo.heap.size, 1, none⟩ = some (.slice Ap mn.length kp) ∧ w6.cell? ⟨b, off + im * 2, none⟩ = some (.int .i64 o2) ∧ w6.cell? ⟨b, off + im * 2 + 1, none⟩ = some (.slice A2 n2.length c2))) (by kernel_rfl) ?_ (fun hSV => ?_)
            · exact HK8.out _ (below_drew' (Below.refl _ _))
            have hq : Below w1.heap.size w1 w1.drew := below_drew' (Below.refl _ _)
            have hszb : w1.heap.size ≤ w1.drew.heap.size := Nat.le_refl _
            generalize hWg : w1.drew = WV at *
            clear hWg
            refine wpAnyH_take (i := 0) (v := .int .i64 0) rfl (by kernel_rfl) (by kernel_rfl) (by kernel_rfl) (fun _ _ _ h => h) (Or.inl ⟨by kernel_rfl, ?qV1⟩) (by assumption) ?rqV1
            case qV1 => (intro w hSw; (try dsimp only at hSw); go_simp)
            try simp only [Act.put, List.setIfInBounds_toArray]
            refine wpAnyH_take (i := 1) (v := .bool true) rfl (by kernel_rfl) (by kernel_rfl) (by kernel_rfl) (fun _ _ _ h => h) (Or.inl ⟨by kernel_rfl, ?qV2⟩) (by assumption) ?rqV2
            case qV2 => (intro w hSw; (try dsimp only at hSw); go_simp)
            try simp only [Act.put, List.setIfInBounds_toArray]
            refine wpAnyH_take (i := 2) (v := .bool true) rfl (by kernel_rfl) (by kernel_rfl) (by kernel_rfl) (fun _ _ _ h => h) (Or.inl ⟨by kernel_rfl, ?qV3⟩) (by assumption) ?rqV3
            case qV3 => (intro w hSw; (try dsimp only at hSw); go_simp)
            try simp only [Act.put, List.setIfInBounds_toArray]
            refine wpAnyH_take (i := 3) (v := .int .i64 (i : Int)) rfl (by kernel_rfl) (by kernel_rfl) (by kernel_rfl) (fun _ _ _ h => h) (Or.inl ⟨by kernel_rfl, ?qV4⟩) (by assumption) ?rqV4
            case qV4 => (intro w hSw; (try dsimp only at hSw); go_simp)
            try simp only [Act.put, List.setIfInBounds_toArray]
            refine wpAnyH_take (i := 4) (v := .bool true) rfl (by kernel_rfl) (by kernel_rfl) (by kernel_rfl) (fun _ _ _ h => h) (Or.inl ⟨by kernel_rfl, ?qV5⟩) (by assumption) ?rqV5
            case qV5 => (intro w hSw; (try dsimp only at hSw); go_simp)
            try simp only [Act.put, List.setIfInBounds_toArray]
            refine wpAnyH_take (i := 5) (v := .bool true) rfl (by kernel_rfl) (by kernel_rfl) (by kernel_rfl) (fun _ _ _ h => h) (Or.inl ⟨by kernel_rfl, ?qV6⟩) (by assumption) ?rqV6
            case qV6 => (intro w hSw; (try dsimp only at hSw); go_simp)
            try simp only [Act.put, List.setIfInBounds_toArray]
            refine wpAnyH_take (i := 6) (v := .bool true) rfl (by kernel_rfl) (by kernel_rfl) (by kernel_rfl) (fun _ _ _ h => h) (Or.inl ⟨by kernel_rfl, ?qV7⟩) (by assumption) ?rqV7
            case qV7 => (intro w hSw; (try dsimp only at hSw); go_simp)
            try simp only [Act.put, List.setIfInBounds_toArray]
            refine wpAnyH_take (i := 7) (v := .agg #[.int .i64 mo, .slice Ap mn.length kp]) rfl (by kernel_rfl) (by kernel_rfl) (by kernel_rfl) (fun _ _ _ h => h) (Or.inl ⟨by kernel_rfl, ?qV8⟩) (by assumption) ?rqV8
            case qV8 => (intro w hSw; (try dsimp only at hSw); go_simp)
            try simp only [Act.put, List.setIfInBounds_toArray]
            refine wpAnyH_take (i := 8) (v := .slice (some ⟨b, off, none⟩) l.length k) rfl (by kernel_rfl) (by kernel_rfl) (by kernel_rfl) (fun _ _ _ h => h) (Or.inl ⟨by kernel_rfl, ?qV9⟩) (by assumption) ?rqV9
            case qV9 => (intro w hSw; (try dsimp only at hSw); go_simp)
            try simp only [Act.put, List.setIfInBounds_toArray]
            refine wpAnyH_take (i := 9) (v := .int .i64 (i : Int)) rfl (by kernel_rfl) (by kernel_rfl) (by kernel_rfl) (fun _ _ _ h => h) (Or.inl ⟨by kernel_rfl, ?qV10⟩) (by assumption) ?rqV10
            case qV10 => (intro w hSw; (try dsimp only at hSw); go_simp)
            try simp only [Act.put, List.setIfInBounds_toArray]
            refine wpAnyH_take (i := 10) (v := .int .i64 (im : Int)) rfl (by kernel_rfl) (by kernel_rfl) (by kernel_rfl) (fun _ _ _ h => h) (Or.inl ⟨by kernel_rfl, ?qV11⟩) (by assumption) ?rqV11
            case qV11 => (intro w hSw; (try dsimp only at hSw); go_simp)
            try simp only [Act.put, List.setIfInBounds_toArray]
            refine wpAnyH_take (i := 11) (v := .pointer (some ⟨b, off + im * 2, none⟩)) rfl (by kernel_rfl) (by kernel_rfl) (by kernel_rfl) (fun _ _ _ h => h) (Or.inl ⟨by kernel_rfl, ?qV12⟩) (by assumption) ?rqV12
            case qV12 => (intro w hSw; (try dsimp only at hSw); go_simp)
            try simp only [Act.put, List.setIfInBounds_toArray]
            refine wpAnyH_take (i := 12) (v := .agg #[.int .i64 o2, .slice A2 n2.length c2]) rfl (by kernel_rfl) (by kernel_rfl) (by kernel_rfl) (fun _ _ _ h => h) (Or.inl ⟨by kernel_rfl, ?qV13⟩) (by assumption) ?rqV13
            case qV13 => (intro w hSw; (try dsimp only at hSw); go_simp)
            try simp only [Act.put, List.setIfInBounds_toArray]
            refine wpAnyH_ready (rs := [13]) (by kernel_rfl) (by simp) ?_
            refine AllReadyH.cons rfl (fun K hK => ?nV14) (AllReadyH.nil)
            go_simp
            go_at_call 33
            with_reducible refine HCM3.out.mono ?_
            rintro e WV15 ⟨⟨r, rfl⟩, hb9⟩
            try go_wp2_with fail
            refine hK.out _ _ ?_ (fun hSV16 => ?_)
            · exact HK8.out _ (hq.trans (hb9.mono hq.size))
            clear hK K
            try simp only [Act.put, List.setIfInBounds_toArray]
            replace hq := hq.trans (hb9.mono hq.size)
            clear hb9
            refine wpAnyH_take (i := 14) (v := .bool (decide (r ≤ 0))) rfl (by kernel_rfl) (by kernel_rfl) (by kernel_rfl) (fun _ _ _ h => h) (Or.inl ⟨by kernel_rfl, ?qV17⟩) (by assumption) ?rqV17
            case qV17 => (intro w hSw; (try dsimp only at hSw); go_simp)
            try simp only [Act.put, List.setIfInBounds_toArray]
            refine wpAnyH_take (i := 15) (v := .bool (decide (r ≤ 0))) rfl (by kernel_rfl) (by kernel_rfl) (by kernel_rfl) (fun _ _ _ h => h) (Or.inl ⟨by kernel_rfl, ?qV18⟩) (by assumption) ?rqV18
            case qV18 => (intro w hSw; (try dsimp only at hSw); go_simp)
            try simp only [Act.put, List.setIfInBounds_toArray]
            refine wpAnyH_done (by kernel_rfl) ?_ _
            refine NoPanic.normal ?_
            have bR2 := bR1.below hq bR1.lt
            have hbf := hb1.trans (hq.mono hb1.size)
            have q0 := (bR2.cell 0).trans rfl
            have q1 := (bR2.cell 1).trans rfl
            have f0 := bR2.frozen 0
            have f1 := bR2.frozen 1
            have l1 := bR2.lt
            by_cases hr : r ≤ 0
            · go_wp2_with fail
              refine bodyPost_ret (results_c rfl _ _ w.heap.size (.int .i64 5) (.int .i64 (i : Int)) rfl (blk_put26 bR2 _ _)) rfl ?_
              exact HBAD.out _ 5 (i : Int) (by omega) ((hbf.setCell (p := ⟨w.heap.size, 0, none⟩) (Nat.le_refl _) _).setCell (p := ⟨w.heap.size, 1, none⟩) (Nat.le_refl _) _)
            · go_wp2_with fail
              go_roundw
              case rel => exact ⟨i + 1, by omega, by go_num, bR2, hbf, HM2⟩
              case measure => simp [intOf]; omega
        · have hx : (c == 0) = false := by simpa using hc
          have hx2 : (c != 0) = true := by simpa using hc
          have HF := Lib.hid (fun (W : World) (hb : Below w.heap.size w W) => HBAD.out W c (i : Int) hc hb)
          have q0 := (bR1.cell 0).trans rfl
          have q1 := (bR1.cell 1).trans rfl
          have f0 := bR1.frozen 0
          have f1 := bR1.frozen 1
          have l1 := bR1.lt
          clear HCM2 HPR HBAD HCY HCOK HMK hc
          go_wp2_with fail
          go_quiet (fail)
          go_wp2_with fail
          refine bodyPost_ret (results_c rfl _ _ w.heap.size (.int .i64 c) (.int .i64 (i : Int)) rfl ((blk_put26 bR1 _ _).drewN _)) rfl ?_
          exact HF.out _ (below_drewN ((hb1.setCell (p := ⟨w.heap.size, 0, none⟩) (Nat.le_refl _) _).setCell (p := ⟨w.heap.size, 1, none⟩) (Nat.le_refl _) _) _)
      · obtain rfl : i = l.length := by omega
        have hlt' : ¬ (l.length : Int) < l.length := by omega
        have HM2 := Lib.hid (fun j (h : j < l.length) => HM.out j h h)
        have HC2 := Lib.hid (HCY.out wo hb (by omega) HM2.out)
        have HF := Lib.hid (fun (W : World) (hbW : Below w.heap.size w W) => (show OvPost w l (.returned (.agg #[.int .i64 0, .int .i64 0])) W from ⟨0, 0, rfl, fun _ => ⟨rfl, by omega, fun j h => (HM2.out j h).1⟩, hbW⟩))
        go_wp2_with fail
        go_at_call 34
        with_reducible refine HC2.out.mono ?_
        rintro e w1 ⟨⟨r, rfl⟩, hb2⟩
        replace bR := bR.below hb2 bR.lt
        replace hb := hb.trans (hb2.mono hb.size)
        have q0 := (bR.cell 0).trans rfl
        have q1 := (bR.cell 1).trans rfl
        have f0 := bR.frozen 0
        have f1 := bR.frozen 1
        have l1 := bR.lt
        have hbw2 := fun (x y : Value) => (hb.setCell (p := ⟨w.heap.size, 0, none⟩) (Nat.le_refl _) x).setCell (p := ⟨w.heap.size, 1, none⟩) (Nat.le_refl _) y
        clear HC2 hb2 HV
        cases r with
        | true =>
          go_wp2_with fail
          refine bodyPost_ret (results_c rfl _ _ w.heap.size (.int .i64 20) (.int .i64 (-1)) rfl (blk_put26 bR _ _)) rfl ?_
          exact HBAD.out _ 20 (-1) (by omega) (hbw2 _ _)
        | false =>
          go_wp2_with fail
          refine bodyPost_ret (results_c rfl _ _ w.heap.size (.int .i64 0) (.int .i64 0) rfl (blk_put26 bR _ _)) rfl ?_
          exact HF.out _ (hbw2 _ _)
end Go.Proofs.Ytebohncdhhikkaa
