/-
  Markers: walk of 'MarkersFault'.
-/
import Derived.Test.YtebohncdhhikkaaOq25
import Derived.BigRegion
import Derived.RegionTactic
namespace Go.Proofs.Ytebohncdhhikkaa
open Go.RowKit Go.V
set_option linter.unusedVariables false
set_option maxRecDepth 100000 in
set_option maxHeartbeats 16000000 in
theorem markersFault_any (w : World) (A : Option Addr) (k : Nat) (l : List Oq.Mk) (hv : MV w A l) (hl : l.length ≤ 9223372036854775807) :
    Calls Try.prog 6 #[.slice A l.length k] w (MfPost w) := by
  have HV := Lib.hid (fun (w1 : World) (hb : Below w.heap.size w w1) (i : Nat) (hi : i < l.length) => (hv.below hb).row i hi)
  have HF := Lib.hid (fun (w1 : World) (c i : Int) => fault_any w1 c i)
  have b0 := Blk.new w 28 #[.int .i64 0, .int .i64 0]
  have hb0 := below_alloc1 w (.cells #[.int .i64 0, .int .i64 0] 28)
  have HMV := Lib.hid hv
  have HBP := Lib.hid (fun (W : World) (x y : Value) (o : Obj) (hb : Below w.heap.size w W) => (show Below w.heap.size w (((W.setCell ⟨w.heap.size, 0, none⟩ x).setCell ⟨w.heap.size, 1, none⟩ y).alloc o) from (((hb.setCell (p := ⟨w.heap.size, 0, none⟩) (Nat.le_refl _) x).setCell (p := ⟨w.heap.size, 1, none⟩) (Nat.le_refl _) y).alloc (by simpa using hb.size) o)))
  clear hv
  by_cases h40 : 40 < l.length
  · have h40' : (40 : Int) < l.length := by omega
    have f0 := b0.frozen 0
    have f1 := b0.frozen 1
    go_enter Try.func6, Try.ntmps6
    go_wp2_with fail
    go_at_call 19
    with_reducible refine (HF.out _ _ _).mono ?_
    rintro e w1 ⟨rfl, rfl⟩
    have l1 := b0.lt
    go_wp2_with fail
    exact bodyPost_ret (results_c rfl _ _ w.heap.size (.int .i64 2) (.int .i64 (-1)) rfl ((Blk.new _ _ _).alloc _)) rfl ⟨⟨2, -1, rfl⟩, below_alloc2 _ _ _⟩
  · have h40' : ¬ (40 : Int) < l.length := by omega
    go_enter Try.func6, Try.ntmps6
    go_wp2_with fail
    go_loopw [3] (fun iv wr => ∃ i : Nat, i ≤ l.length ∧ iv = .int .i64 i ∧ Blk wr w.heap.size 28 #[.int .i64 0, .int .i64 0] ∧ Below w.heap.size w wr ∧ Hid (∀ j (h : j < l.length), j < i → MkOk l[j])) (fun iv _ => l.length - (intOf iv).toNat)
    case atStart => exact ⟨0, Nat.zero_le _, rfl, b0, hb0, Lib.hid fun j h hj => absurd hj (by omega)⟩
    case round =>
      clear b0 hb0
      obtain ⟨i, hi, rfl, bR, hb, HM⟩ := hrel
      obtain ⟨wo, rfl⟩ : ∃ wo : World, wo = wr := ⟨_, rfl⟩
      have hsz := hb.size
      have q0 := (bR.cell 0).trans rfl
      have q1 := (bR.cell 1).trans rfl
      have f0 := bR.frozen 0
      have f1 := bR.frozen 1
      have l1 := bR.lt
      by_cases hlt : i < l.length
      · have hlt' : (i : Int) < l.length := by omega
        obtain ⟨b, off, Ap, kp, e, hbs, d0, d1, hnl, hiv⟩ := HV.out _ hb i hlt
        have hbo : b < wo.heap.size := hbs
        have HPR := Lib.hid (fun (hi0 : 0 < i) => HV.out wo hb (i - 1) (by omega))
        subst e
        have HMK := Lib.hid (show ∀ (hm : MkOk l[i]) j (h : j < l.length), j < i + 1 → MkOk l[j] from fun hm j h hj => by
          by_cases e : j = i
          · subst e; exact hm
          · exact HM.out j h (by omega))
        generalize l[i] = m at *
        obtain ⟨mo, mn⟩ := m
        simp only at d0 d1 hnl hiv
        have HEL := Lib.hid (fun (j : Nat) (hj : j < mn.length) => hiv.at_ j hj)
        have HIV := Lib.hid hiv
        have HC := Lib.hid (fun (W : World) (n : Int) => (isChange_any W n).mono fun e w' h => (show e = .returned (.bool (decide (0 ≤ n) && decide (n ≤ 59))) ∧ W = w' from ⟨h.1, h.2.symm⟩))
        have hch0 : (decide (0 ≤ mo) && decide (mo ≤ 59)) = chT mn mo 0 := by simp [chT]
        have HOK := Lib.hid (chT_ok mn mo)
        have HSU := Lib.hid (fun (j : Nat) (hj : j < mn.length) => chT_succ mn mo j hj)
        have HCH := Lib.hid hch0
        clear hiv hch0 HV HM
        go_wp2_with fail
        go_at_call 20
        with_reducible refine (HC.out _ _).mono ?_
        rintro e w1 ⟨rfl, rfl⟩
        rw [HCH.out]
        go_wp2_with fail
        go_loopw [4, 5] (fun gv jv wr => ∃ j : Nat, j ≤ mn.length ∧ gv = .bool (chT mn mo j) ∧ jv = .int .i64 j ∧ wr = wo) (fun gv jv _ => mn.length - (intOf jv).toNat)
        case atStart => exact ⟨0, Nat.zero_le _, rfl, rfl, rfl⟩
        case round =>
          obtain ⟨j, hj, rfl, rfl, hw⟩ := hrel
          have hw2 := hw.symm
          subst hw2
          clear hw
          by_cases hjl : j < mn.length
          · have hjl' : (j : Int) < mn.length := by omega
            obtain ⟨bp, op, ep, hbp, hcp⟩ := HEL.out j hjl
            subst ep
            have hsu := HSU.out j hjl
            generalize mn[j] = x at *
            have HCX := Lib.hid (HC.out wo x)
            generalize hg2 : chT mn mo (j + 1) = g2 at *
            generalize chT mn mo j = g at *
            generalize (decide (0 ≤ x) && decide (x ≤ 59)) = y at *
            have HG := Lib.hid hsu
            clear hsu
            cases g with
            | true =>
              go_wp2_with (first | (go_at_call 20; with_reducible refine HCX.out.mono ?_; rintro e w1 ⟨rfl, rfl⟩) | (with_reducible refine HCX.out.mono ?_; rintro e w1 ⟨rfl, rfl⟩))
              go_roundw
              case rel => exact ⟨j + 1, by omega, by rw [hg2, HG.out]; rfl, by go_num, by first | exact rfl | trivial⟩
              case measure => simp [intOf]; omega
            | false =>
              go_wp2_with fail
              go_roundw
              case rel => exact ⟨j + 1, by omega, by rw [hg2, HG.out]; rfl, by go_num, by first | exact rfl | trivial⟩
              case measure => simp [intOf]; omega
          · obtain rfl : j = mn.length := by omega
            have hjl' : ¬ (mn.length : Int) < mn.length := by omega
            by_cases hg : chT mn mo mn.length = true
            · have HM2 := Lib.hid (HMK.out (HOK.out hg))
              rw [hg]
              by_cases hi0 : i = 0
              · obtain rfl := hi0
                simp only [Nat.zero_mul, Nat.add_zero] at d0 d1
                have HI := Lib.hid (fun (W : World) (h : Below wo.heap.size wo W) => increasing_any W Ap kp mn (HIV.out.below h) hnl)
                clear HPR HC HSU HCH HOK HEL HMK
                go_wp2_with fail
                have HKU := Lib.hid (fun (w6 : World) (h6 : Below wo.heap.size wo w6) => (show w6.cell? ⟨b, off + 1, none⟩ = some (.slice Ap mn.length kp) from (h6.cell (p := ⟨b, off + 1, none⟩) hbo).trans d1))
                refine wp_region_noPanic ?_
                refine wp_region_held_drew (S := (fun w6 : World => w6.cell? ⟨b, off + 1, none⟩ = some (.slice Ap mn.length kp))) (by kernel_rfl) ?_ (fun hSU => ?_)
                · exact HKU.out _ (below_drew' (Below.refl _ _))
                have hq : Below wo.heap.size wo wo.drew := below_drew' (Below.refl _ _)
                have hszb : wo.heap.size ≤ wo.drew.heap.size := Nat.le_refl _
                generalize hWg : wo.drew = WU at *
                clear hWg
                refine wpAnyH_take (i := 0) (v := .slice (some ⟨b, off, none⟩) l.length k) rfl (by kernel_rfl) (by kernel_rfl) (by kernel_rfl) (fun _ _ _ h => h) (Or.inl ⟨by kernel_rfl, ?qU1⟩) (by assumption) ?rqU1
                case qU1 => (intro w hSw; (try dsimp only at hSw); go_simp)
                try simp only [Act.put, List.setIfInBounds_toArray, List.getElem_toArray, List.getElem_cons_succ, List.getElem_cons_zero, List.set_cons_succ, List.set_cons_zero]
                refine wpAnyH_take (i := 1) (v := .int .i64 0) rfl (by kernel_rfl) (by kernel_rfl) (by kernel_rfl) (fun _ _ _ h => h) (Or.inl ⟨by kernel_rfl, ?qU2⟩) (by assumption) ?rqU2
                case qU2 => (intro w hSw; (try dsimp only at hSw); go_simp)
                try simp only [Act.put, List.setIfInBounds_toArray, List.getElem_toArray, List.getElem_cons_succ, List.getElem_cons_zero, List.set_cons_succ, List.set_cons_zero]
                refine wpAnyH_take (i := 2) (v := .pointer (some ⟨b, off, none⟩)) rfl (by kernel_rfl) (by kernel_rfl) (by kernel_rfl) (fun _ _ _ h => h) (Or.inl ⟨by kernel_rfl, ?qU3⟩) (by assumption) ?rqU3
                case qU3 => (intro w hSw; (try dsimp only at hSw); go_simp)
                try simp only [Act.put, List.setIfInBounds_toArray, List.getElem_toArray, List.getElem_cons_succ, List.getElem_cons_zero, List.set_cons_succ, List.set_cons_zero]
                refine wpAnyH_take (i := 3) (v := .pointer (some ⟨b, off + 1, none⟩)) rfl (by kernel_rfl) (by kernel_rfl) (by kernel_rfl) (fun _ _ _ h => h) (Or.inl ⟨by kernel_rfl, ?qU4⟩) (by assumption) ?rqU4
                case qU4 => (intro w hSw; (try dsimp only at hSw); go_simp)
                try simp only [Act.put, List.setIfInBounds_toArray, List.getElem_toArray, List.getElem_cons_succ, List.getElem_cons_zero, List.set_cons_succ, List.set_cons_zero]
                refine wpAnyH_take (i := 4) (v := .slice Ap mn.length kp) rfl (by kernel_rfl) (by kernel_rfl) (by kernel_rfl) (fun _ _ _ h => h) (Or.inl ⟨by kernel_rfl, ?qU5⟩) (by assumption) ?rqU5
                case qU5 => (intro w hSw; (try dsimp only at hSw); go_simp)
                try simp only [Act.put, List.setIfInBounds_toArray, List.getElem_toArray, List.getElem_cons_succ, List.getElem_cons_zero, List.set_cons_succ, List.set_cons_zero]
                refine wpAnyH_ready (rs := [5]) (by kernel_rfl) (by simp) ?_
                refine AllReadyH.cons rfl (fun K hK => ?nU6) (AllReadyH.nil)
                go_simp
                go_at_call 21
                with_reducible refine (HI.out WU hq).mono ?_
                rintro e WU7 ⟨⟨r, rfl⟩, hb9⟩
                try go_wp2_with fail
                refine hK.out _ _ ?_ (fun hSU8 => ?_)
                · exact HKU.out _ (hq.trans (hb9.mono hq.size))
                clear hK K
                try simp only [Act.put, List.setIfInBounds_toArray, List.getElem_toArray, List.getElem_cons_succ, List.getElem_cons_zero, List.set_cons_succ, List.set_cons_zero]
                replace hq := hq.trans (hb9.mono hq.size)
                clear hb9
                cases r with
                | false =>
                  refine wpAnyH_take (i := 6) (v := .bool true) rfl (by kernel_rfl) (by kernel_rfl) (by kernel_rfl) (fun _ _ _ h => h) (Or.inl ⟨by kernel_rfl, ?qU9⟩) (by assumption) ?rqU9
                  case qU9 => (intro w hSw; (try dsimp only at hSw); go_simp)
                  try simp only [Act.put, List.setIfInBounds_toArray, List.getElem_toArray, List.getElem_cons_succ, List.getElem_cons_zero, List.set_cons_succ, List.set_cons_zero]
                  refine wpAnyH_take (i := 7) (v := .bool true) rfl (by kernel_rfl) (by kernel_rfl) (by kernel_rfl) (fun _ _ _ h => h) (Or.inl ⟨by kernel_rfl, ?qU10⟩) (by assumption) ?rqU10
                  case qU10 => (intro w hSw; (try dsimp only at hSw); go_simp)
                  try simp only [Act.put, List.setIfInBounds_toArray, List.getElem_toArray, List.getElem_cons_succ, List.getElem_cons_zero, List.set_cons_succ, List.set_cons_zero]
                  refine wpAnyH_take (i := 8) (v := undef) rfl (by kernel_rfl) (by kernel_rfl) (by kernel_rfl) (fun _ _ _ h => h) (Or.inr ⟨by kernel_rfl, rfl⟩) (by assumption) ?rkU11
                  try simp only [Act.put, List.setIfInBounds_toArray, List.getElem_toArray, List.getElem_cons_succ, List.getElem_cons_zero, List.set_cons_succ, List.set_cons_zero]
                  refine wpAnyH_take (i := 9) (v := undef) rfl (by kernel_rfl) (by kernel_rfl) (by kernel_rfl) (fun _ _ _ h => h) (Or.inr ⟨by kernel_rfl, rfl⟩) (by assumption) ?rkU12
                  try simp only [Act.put, List.setIfInBounds_toArray, List.getElem_toArray, List.getElem_cons_succ, List.getElem_cons_zero, List.set_cons_succ, List.set_cons_zero]
                  refine wpAnyH_take (i := 10) (v := undef) rfl (by kernel_rfl) (by kernel_rfl) (by kernel_rfl) (fun _ _ _ h => h) (Or.inr ⟨by kernel_rfl, rfl⟩) (by assumption) ?rkU13
                  try simp only [Act.put, List.setIfInBounds_toArray, List.getElem_toArray, List.getElem_cons_succ, List.getElem_cons_zero, List.set_cons_succ, List.set_cons_zero]
                  refine wpAnyH_take (i := 11) (v := undef) rfl (by kernel_rfl) (by kernel_rfl) (by kernel_rfl) (fun _ _ _ h => h) (Or.inr ⟨by kernel_rfl, rfl⟩) (by assumption) ?rkU14
                  try simp only [Act.put, List.setIfInBounds_toArray, List.getElem_toArray, List.getElem_cons_succ, List.getElem_cons_zero, List.set_cons_succ, List.set_cons_zero]
                  refine wpAnyH_take (i := 12) (v := undef) rfl (by kernel_rfl) (by kernel_rfl) (by kernel_rfl) (fun _ _ _ h => h) (Or.inr ⟨by kernel_rfl, rfl⟩) (by assumption) ?rkU15
                  try simp only [Act.put, List.setIfInBounds_toArray, List.getElem_toArray, List.getElem_cons_succ, List.getElem_cons_zero, List.set_cons_succ, List.set_cons_zero]
                  refine wpAnyH_take (i := 13) (v := undef) rfl (by kernel_rfl) (by kernel_rfl) (by kernel_rfl) (fun _ _ _ h => h) (Or.inr ⟨by kernel_rfl, rfl⟩) (by assumption) ?rkU16
                  try simp only [Act.put, List.setIfInBounds_toArray, List.getElem_toArray, List.getElem_cons_succ, List.getElem_cons_zero, List.set_cons_succ, List.set_cons_zero]
                  refine wpAnyH_take (i := 14) (v := undef) rfl (by kernel_rfl) (by kernel_rfl) (by kernel_rfl) (fun _ _ _ h => h) (Or.inr ⟨by kernel_rfl, rfl⟩) (by assumption) ?rkU17
                  try simp only [Act.put, List.setIfInBounds_toArray, List.getElem_toArray, List.getElem_cons_succ, List.getElem_cons_zero, List.set_cons_succ, List.set_cons_zero]
                  refine wpAnyH_take (i := 15) (v := undef) rfl (by kernel_rfl) (by kernel_rfl) (by kernel_rfl) (fun _ _ _ h => h) (Or.inr ⟨by kernel_rfl, rfl⟩) (by assumption) ?rkU18
                  try simp only [Act.put, List.setIfInBounds_toArray, List.getElem_toArray, List.getElem_cons_succ, List.getElem_cons_zero, List.set_cons_succ, List.set_cons_zero]
                  refine wpAnyH_take (i := 16) (v := undef) rfl (by kernel_rfl) (by kernel_rfl) (by kernel_rfl) (fun _ _ _ h => h) (Or.inr ⟨by kernel_rfl, rfl⟩) (by assumption) ?rkU19
                  try simp only [Act.put, List.setIfInBounds_toArray, List.getElem_toArray, List.getElem_cons_succ, List.getElem_cons_zero, List.set_cons_succ, List.set_cons_zero]
                  refine wpAnyH_take (i := 17) (v := undef) rfl (by kernel_rfl) (by kernel_rfl) (by kernel_rfl) (fun _ _ _ h => h) (Or.inr ⟨by kernel_rfl, rfl⟩) (by assumption) ?rkU20
                  try simp only [Act.put, List.setIfInBounds_toArray, List.getElem_toArray, List.getElem_cons_succ, List.getElem_cons_zero, List.set_cons_succ, List.set_cons_zero]
                  refine wpAnyH_take (i := 18) (v := undef) rfl (by kernel_rfl) (by kernel_rfl) (by kernel_rfl) (fun _ _ _ h => h) (Or.inr ⟨by kernel_rfl, rfl⟩) (by assumption) ?rkU21
                  try simp only [Act.put, List.setIfInBounds_toArray, List.getElem_toArray, List.getElem_cons_succ, List.getElem_cons_zero, List.set_cons_succ, List.set_cons_zero]
                  refine wpAnyH_take (i := 19) (v := undef) rfl (by kernel_rfl) (by kernel_rfl) (by kernel_rfl) (fun _ _ _ h => h) (Or.inr ⟨by kernel_rfl, rfl⟩) (by assumption) ?rkU22
                  try simp only [Act.put, List.setIfInBounds_toArray, List.getElem_toArray, List.getElem_cons_succ, List.getElem_cons_zero, List.set_cons_succ, List.set_cons_zero]
                  refine wpAnyH_take (i := 20) (v := undef) rfl (by kernel_rfl) (by kernel_rfl) (by kernel_rfl) (fun _ _ _ h => h) (Or.inr ⟨by kernel_rfl, rfl⟩) (by assumption) ?rkU23
                  try simp only [Act.put, List.setIfInBounds_toArray, List.getElem_toArray, List.getElem_cons_succ, List.getElem_cons_zero, List.set_cons_succ, List.set_cons_zero]
                  refine wpAnyH_take (i := 21) (v := undef) rfl (by kernel_rfl) (by kernel_rfl) (by kernel_rfl) (fun _ _ _ h => h) (Or.inr ⟨by kernel_rfl, rfl⟩) (by assumption) ?rkU24
                  try simp only [Act.put, List.setIfInBounds_toArray, List.getElem_toArray, List.getElem_cons_succ, List.getElem_cons_zero, List.set_cons_succ, List.set_cons_zero]
                  refine wpAnyH_take (i := 22) (v := undef) rfl (by kernel_rfl) (by kernel_rfl) (by kernel_rfl) (fun _ _ _ h => h) (Or.inr ⟨by kernel_rfl, rfl⟩) (by assumption) ?rkU25
                  try simp only [Act.put, List.setIfInBounds_toArray, List.getElem_toArray, List.getElem_cons_succ, List.getElem_cons_zero, List.set_cons_succ, List.set_cons_zero]
                  refine wpAnyH_take (i := 23) (v := .bool true) rfl (by kernel_rfl) (by kernel_rfl) (by kernel_rfl) (fun _ _ _ h => h) (Or.inl ⟨by kernel_rfl, ?qU26⟩) (by assumption) ?rqU26
                  case qU26 => (intro w hSw; (try dsimp only at hSw); go_simp)
                  try simp only [Act.put, List.setIfInBounds_toArray, List.getElem_toArray, List.getElem_cons_succ, List.getElem_cons_zero, List.set_cons_succ, List.set_cons_zero]
                  refine wpAnyH_done (by kernel_rfl) ?_ _
                  refine NoPanic.normal ?_
                  have bR2 := bR.below hq bR.lt
                  have hbf := hb.trans (hq.mono hb.size)
                  have q0 := (bR2.cell 0).trans rfl
                  have q1 := (bR2.cell 1).trans rfl
                  have f0 := bR2.frozen 0
                  have f1 := bR2.frozen 1
                  have l1 := bR2.lt
                  go_wp2_with fail
                  go_at_call 19
                  with_reducible refine (HF.out _ _ _).mono ?_
                  rintro e wz ⟨rfl, rfl⟩
                  go_wp2_with fail
                  exact bodyPost_ret (results_c rfl _ _ w.heap.size (.int .i64 5) (.int .i64 0) rfl ((blk_put26 bR2 _ _).alloc _)) rfl ⟨⟨5, _, rfl⟩, HBP.out _ _ _ _ hbf⟩
                | true =>
                  refine wpAnyH_take (i := 6) (v := .bool false) rfl (by kernel_rfl) (by kernel_rfl) (by kernel_rfl) (fun _ _ _ h => h) (Or.inl ⟨by kernel_rfl, ?qU27⟩) (by assumption) ?rqU27
                  case qU27 => (intro w hSw; (try dsimp only at hSw); go_simp)
                  try simp only [Act.put, List.setIfInBounds_toArray, List.getElem_toArray, List.getElem_cons_succ, List.getElem_cons_zero, List.set_cons_succ, List.set_cons_zero]
                  refine wpAnyH_take (i := 7) (v := .bool false) rfl (by kernel_rfl) (by kernel_rfl) (by kernel_rfl) (fun _ _ _ h => h) (Or.inl ⟨by kernel_rfl, ?qU28⟩) (by assumption) ?rqU28
                  case qU28 => (intro w hSw; (try dsimp only at hSw); go_simp)
                  try simp only [Act.put, List.setIfInBounds_toArray, List.getElem_toArray, List.getElem_cons_succ, List.getElem_cons_zero, List.set_cons_succ, List.set_cons_zero]
                  refine wpAnyH_take (i := 8) (v := .int .i64 0) rfl (by kernel_rfl) (by kernel_rfl) (by kernel_rfl) (fun _ _ _ h => h) (Or.inl ⟨by kernel_rfl, ?qU29⟩) (by assumption) ?rqU29
                  case qU29 => (intro w hSw; (try dsimp only at hSw); go_simp)
                  try simp only [Act.put, List.setIfInBounds_toArray, List.getElem_toArray, List.getElem_cons_succ, List.getElem_cons_zero, List.set_cons_succ, List.set_cons_zero]
                  refine wpAnyH_take (i := 9) (v := .bool false) rfl (by kernel_rfl) (by kernel_rfl) (by kernel_rfl) (fun _ _ _ h => h) (Or.inl ⟨by kernel_rfl, ?qU30⟩) (by assumption) ?rqU30
                  case qU30 => (intro w hSw; (try dsimp only at hSw); go_simp)
                  try simp only [Act.put, List.setIfInBounds_toArray, List.getElem_toArray, List.getElem_cons_succ, List.getElem_cons_zero, List.set_cons_succ, List.set_cons_zero]
                  refine wpAnyH_take (i := 10) (v := .bool false) rfl (by kernel_rfl) (by kernel_rfl) (by kernel_rfl) (fun _ _ _ h => h) (Or.inl ⟨by kernel_rfl, ?qU31⟩) (by assumption) ?rqU31
                  case qU31 => (intro w hSw; (try dsimp only at hSw); go_simp)
                  try simp only [Act.put, List.setIfInBounds_toArray, List.getElem_toArray, List.getElem_cons_succ, List.getElem_cons_zero, List.set_cons_succ, List.set_cons_zero]
                  refine wpAnyH_take (i := 11) (v := undef) rfl (by kernel_rfl) (by kernel_rfl) (by kernel_rfl) (fun _ _ _ h => h) (Or.inr ⟨by kernel_rfl, rfl⟩) (by assumption) ?rkU32
                  try simp only [Act.put, List.setIfInBounds_toArray, List.getElem_toArray, List.getElem_cons_succ, List.getElem_cons_zero, List.set_cons_succ, List.set_cons_zero]
                  refine wpAnyH_take (i := 12) (v := undef) rfl (by kernel_rfl) (by kernel_rfl) (by kernel_rfl) (fun _ _ _ h => h) (Or.inr ⟨by kernel_rfl, rfl⟩) (by assumption) ?rkU33
                  try simp only [Act.put, List.setIfInBounds_toArray, List.getElem_toArray, List.getElem_cons_succ, List.getElem_cons_zero, List.set_cons_succ, List.set_cons_zero]
                  refine wpAnyH_take (i := 13) (v := undef) rfl (by kernel_rfl) (by kernel_rfl) (by kernel_rfl) (fun _ _ _ h => h) (Or.inr ⟨by kernel_rfl, rfl⟩) (by assumption) ?rkU34
                  try simp only [Act.put, List.setIfInBounds_toArray, List.getElem_toArray, List.getElem_cons_succ, List.getElem_cons_zero, List.set_cons_succ, List.set_cons_zero]
                  refine wpAnyH_take (i := 14) (v := undef) rfl (by kernel_rfl) (by kernel_rfl) (by kernel_rfl) (fun _ _ _ h => h) (Or.inr ⟨by kernel_rfl, rfl⟩) (by assumption) ?rkU35
                  try simp only [Act.put, List.setIfInBounds_toArray, List.getElem_toArray, List.getElem_cons_succ, List.getElem_cons_zero, List.set_cons_succ, List.set_cons_zero]
                  refine wpAnyH_take (i := 15) (v := undef) rfl (by kernel_rfl) (by kernel_rfl) (by kernel_rfl) (fun _ _ _ h => h) (Or.inr ⟨by kernel_rfl, rfl⟩) (by assumption) ?rkU36
                  try simp only [Act.put, List.setIfInBounds_toArray, List.getElem_toArray, List.getElem_cons_succ, List.getElem_cons_zero, List.set_cons_succ, List.set_cons_zero]
                  refine wpAnyH_take (i := 16) (v := undef) rfl (by kernel_rfl) (by kernel_rfl) (by kernel_rfl) (fun _ _ _ h => h) (Or.inr ⟨by kernel_rfl, rfl⟩) (by assumption) ?rkU37
                  try simp only [Act.put, List.setIfInBounds_toArray, List.getElem_toArray, List.getElem_cons_succ, List.getElem_cons_zero, List.set_cons_succ, List.set_cons_zero]
                  refine wpAnyH_take (i := 17) (v := undef) rfl (by kernel_rfl) (by kernel_rfl) (by kernel_rfl) (fun _ _ _ h => h) (Or.inr ⟨by kernel_rfl, rfl⟩) (by assumption) ?rkU38
                  try simp only [Act.put, List.setIfInBounds_toArray, List.getElem_toArray, List.getElem_cons_succ, List.getElem_cons_zero, List.set_cons_succ, List.set_cons_zero]
                  refine wpAnyH_take (i := 18) (v := undef) rfl (by kernel_rfl) (by kernel_rfl) (by kernel_rfl) (fun _ _ _ h => h) (Or.inr ⟨by kernel_rfl, rfl⟩) (by assumption) ?rkU39
                  try simp only [Act.put, List.setIfInBounds_toArray, List.getElem_toArray, List.getElem_cons_succ, List.getElem_cons_zero, List.set_cons_succ, List.set_cons_zero]
                  refine wpAnyH_take (i := 19) (v := undef) rfl (by kernel_rfl) (by kernel_rfl) (by kernel_rfl) (fun _ _ _ h => h) (Or.inr ⟨by kernel_rfl, rfl⟩) (by assumption) ?rkU40
                  try simp only [Act.put, List.setIfInBounds_toArray, List.getElem_toArray, List.getElem_cons_succ, List.getElem_cons_zero, List.set_cons_succ, List.set_cons_zero]
                  refine wpAnyH_take (i := 20) (v := undef) rfl (by kernel_rfl) (by kernel_rfl) (by kernel_rfl) (fun _ _ _ h => h) (Or.inr ⟨by kernel_rfl, rfl⟩) (by assumption) ?rkU41
                  try simp only [Act.put, List.setIfInBounds_toArray, List.getElem_toArray, List.getElem_cons_succ, List.getElem_cons_zero, List.set_cons_succ, List.set_cons_zero]
                  refine wpAnyH_take (i := 21) (v := undef) rfl (by kernel_rfl) (by kernel_rfl) (by kernel_rfl) (fun _ _ _ h => h) (Or.inr ⟨by kernel_rfl, rfl⟩) (by assumption) ?rkU42
                  try simp only [Act.put, List.setIfInBounds_toArray, List.getElem_toArray, List.getElem_cons_succ, List.getElem_cons_zero, List.set_cons_succ, List.set_cons_zero]
                  refine wpAnyH_take (i := 22) (v := .bool false) rfl (by kernel_rfl) (by kernel_rfl) (by kernel_rfl) (fun _ _ _ h => h) (Or.inl ⟨by kernel_rfl, ?qU43⟩) (by assumption) ?rqU43
                  case qU43 => (intro w hSw; (try dsimp only at hSw); go_simp)
                  try simp only [Act.put, List.setIfInBounds_toArray, List.getElem_toArray, List.getElem_cons_succ, List.getElem_cons_zero, List.set_cons_succ, List.set_cons_zero]
                  refine wpAnyH_take (i := 23) (v := .bool false) rfl (by kernel_rfl) (by kernel_rfl) (by kernel_rfl) (fun _ _ _ h => h) (Or.inl ⟨by kernel_rfl, ?qU44⟩) (by assumption) ?rqU44
                  case qU44 => (intro w hSw; (try dsimp only at hSw); go_simp)
                  try simp only [Act.put, List.setIfInBounds_toArray, List.getElem_toArray, List.getElem_cons_succ, List.getElem_cons_zero, List.set_cons_succ, List.set_cons_zero]
                  refine wpAnyH_done (by kernel_rfl) ?_ _
                  refine NoPanic.normal ?_
                  have bR2 := bR.below hq bR.lt
                  have hbf := hb.trans (hq.mono hb.size)
                  go_wp2_with fail
                  go_roundw
                  case rel => exact ⟨1, by omega, rfl, bR2, hbf, HM2⟩
                  case measure => simp [intOf]; omega
              · have hp : (0 : Int) < i := by omega
                have hpn : 0 < i := by omega
                have hpd : decide (0 < i) = true := decide_eq_true hpn
                obtain ⟨b', off', A2, c2, e', hb', p0, p1, hnl2, hiv2⟩ := HPR.out hpn
                injection e' with e'
                injection e' with e3 e4 _
                subst e3
                subst e4
                have hsub : IntKind.i64.wrap ((i : Int) - 1) = ((i - 1 : Nat) : Int) := by rw [IntWalk.i64_in _ (by omega)]; omega
                have hlt2 : ((i - 1 : Nat) : Int) < l.length := by omega
                clear HPR
                generalize l[i - 1] = m2 at *
                obtain ⟨o2, n2⟩ := m2
                simp only at p0 p1 hnl2 hiv2
                generalize i - 1 = im at *
                have HI := Lib.hid (fun (W : World) (h : Below wo.heap.size wo W) => increasing_any W Ap kp mn (HIV.out.below h) hnl)
                have HL := Lib.hid (fun (W : World) (h : Below wo.heap.size wo W) => less_any W ⟨o2, n2⟩ ⟨mo, mn⟩ A2 Ap c2 kp (hiv2.below h) (HIV.out.below h) hnl2 hnl)
                simp only at HL
                clear hiv2 HC HSU HCH HOK HEL HMK
                go_wp2_with fail
                have HKV := Lib.hid (fun (w6 : World) (h6 : Below wo.heap.size wo w6) => (show w6.cell? ⟨b, off + i * 2, none⟩ = some (.int .i64 mo) ∧ w6.cell? ⟨b, off + i * 2 + 1, none⟩ = some (.slice Ap mn.length kp) ∧ w6.cell? ⟨b, off + im * 2, none⟩ = some (.int .i64 o2) ∧ w6.cell? ⟨b, off + im * 2 + 1, none⟩ = some (.slice A2 n2.length c2) from ⟨(h6.cell (p := ⟨b, off + i * 2, none⟩) hbo).trans d0, (h6.cell (p := ⟨b, off + i * 2 + 1, none⟩) hbo).trans d1, (h6.cell (p := ⟨b, off + im * 2, none⟩) hbo).trans p0, (h6.cell (p := ⟨b, off + im * 2 + 1, none⟩) hbo).trans p1⟩))
                refine wp_region_noPanic ?_
                refine wp_region_held_drew (S := (fun w6 : World => w6.cell? ⟨b, off + i * 2, none⟩ = some (.int .i64 mo) ∧ w6.cell? ⟨b, off + i * 2 + 1, none⟩ = some (.slice Ap mn.length kp) ∧ w6.cell? ⟨b, off + im * 2, none⟩ = some (.int .i64 o2) ∧ w6.cell? ⟨b, off + im * 2 + 1, none⟩ = some (.slice A2 n2.length c2))) (by kernel_rfl) ?_ (fun hSV => ?_)
                · exact HKV.out _ (below_drew' (Below.refl _ _))
                have hq : Below wo.heap.size wo wo.drew := below_drew' (Below.refl _ _)
                have hszb : wo.heap.size ≤ wo.drew.heap.size := Nat.le_refl _
                generalize hWg : wo.drew = WV at *
                clear hWg
                refine wpAnyH_take (i := 0) (v := .slice (some ⟨b, off, none⟩) l.length k) rfl (by kernel_rfl) (by kernel_rfl) (by kernel_rfl) (fun _ _ _ h => h) (Or.inl ⟨by kernel_rfl, ?qV1⟩) (by assumption) ?rqV1
                case qV1 => (intro w hSw; (try dsimp only at hSw); go_simp)
                try simp only [Act.put, List.setIfInBounds_toArray, List.getElem_toArray, List.getElem_cons_succ, List.getElem_cons_zero, List.set_cons_succ, List.set_cons_zero]
                refine wpAnyH_take (i := 1) (v := .int .i64 (i : Int)) rfl (by kernel_rfl) (by kernel_rfl) (by kernel_rfl) (fun _ _ _ h => h) (Or.inl ⟨by kernel_rfl, ?qV2⟩) (by assumption) ?rqV2
                case qV2 => (intro w hSw; (try dsimp only at hSw); go_simp)
                try simp only [Act.put, List.setIfInBounds_toArray, List.getElem_toArray, List.getElem_cons_succ, List.getElem_cons_zero, List.set_cons_succ, List.set_cons_zero]
                refine wpAnyH_take (i := 2) (v := .pointer (some ⟨b, off + i * 2, none⟩)) rfl (by kernel_rfl) (by kernel_rfl) (by kernel_rfl) (fun _ _ _ h => h) (Or.inl ⟨by kernel_rfl, ?qV3⟩) (by assumption) ?rqV3
                case qV3 => (intro w hSw; (try dsimp only at hSw); go_simp)
                try simp only [Act.put, List.setIfInBounds_toArray, List.getElem_toArray, List.getElem_cons_succ, List.getElem_cons_zero, List.set_cons_succ, List.set_cons_zero]
                refine wpAnyH_take (i := 3) (v := .pointer (some ⟨b, off + i * 2 + 1, none⟩)) rfl (by kernel_rfl) (by kernel_rfl) (by kernel_rfl) (fun _ _ _ h => h) (Or.inl ⟨by kernel_rfl, ?qV4⟩) (by assumption) ?rqV4
                case qV4 => (intro w hSw; (try dsimp only at hSw); go_simp)
                try simp only [Act.put, List.setIfInBounds_toArray, List.getElem_toArray, List.getElem_cons_succ, List.getElem_cons_zero, List.set_cons_succ, List.set_cons_zero]
                refine wpAnyH_take (i := 4) (v := .slice Ap mn.length kp) rfl (by kernel_rfl) (by kernel_rfl) (by kernel_rfl) (fun _ _ _ h => h) (Or.inl ⟨by kernel_rfl, ?qV5⟩) (by assumption) ?rqV5
                case qV5 => (intro w hSw; (try dsimp only at hSw); go_simp)
                try simp only [Act.put, List.setIfInBounds_toArray, List.getElem_toArray, List.getElem_cons_succ, List.getElem_cons_zero, List.set_cons_succ, List.set_cons_zero]
                refine wpAnyH_ready (rs := [5]) (by kernel_rfl) (by simp) ?_
                refine AllReadyH.cons rfl (fun K hK => ?nV6) (AllReadyH.nil)
                go_simp
                go_at_call 21
                with_reducible refine (HI.out WV hq).mono ?_
                rintro e WV7 ⟨⟨r, rfl⟩, hb9⟩
                try go_wp2_with fail
                refine hK.out _ _ ?_ (fun hSV8 => ?_)
                · exact HKV.out _ (hq.trans (hb9.mono hq.size))
                clear hK K
                try simp only [Act.put, List.setIfInBounds_toArray, List.getElem_toArray, List.getElem_cons_succ, List.getElem_cons_zero, List.set_cons_succ, List.set_cons_zero]
                replace hq := hq.trans (hb9.mono hq.size)
                clear hb9
                cases r with
                | false =>
                  refine wpAnyH_take (i := 6) (v := .bool true) rfl (by kernel_rfl) (by kernel_rfl) (by kernel_rfl) (fun _ _ _ h => h) (Or.inl ⟨by kernel_rfl, ?qV9⟩) (by assumption) ?rqV9
                  case qV9 => (intro w hSw; (try dsimp only at hSw); go_simp)
                  try simp only [Act.put, List.setIfInBounds_toArray, List.getElem_toArray, List.getElem_cons_succ, List.getElem_cons_zero, List.set_cons_succ, List.set_cons_zero]
                  refine wpAnyH_take (i := 7) (v := .bool true) rfl (by kernel_rfl) (by kernel_rfl) (by kernel_rfl) (fun _ _ _ h => h) (Or.inl ⟨by kernel_rfl, ?qV10⟩) (by assumption) ?rqV10
                  case qV10 => (intro w hSw; (try dsimp only at hSw); go_simp)
                  try simp only [Act.put, List.setIfInBounds_toArray, List.getElem_toArray, List.getElem_cons_succ, List.getElem_cons_zero, List.set_cons_succ, List.set_cons_zero]
                  refine wpAnyH_take (i := 8) (v := undef) rfl (by kernel_rfl) (by kernel_rfl) (by kernel_rfl) (fun _ _ _ h => h) (Or.inr ⟨by kernel_rfl, rfl⟩) (by assumption) ?rkV11
                  try simp only [Act.put, List.setIfInBounds_toArray, List.getElem_toArray, List.getElem_cons_succ, List.getElem_cons_zero, List.set_cons_succ, List.set_cons_zero]
                  refine wpAnyH_take (i := 9) (v := undef) rfl (by kernel_rfl) (by kernel_rfl) (by kernel_rfl) (fun _ _ _ h => h) (Or.inr ⟨by kernel_rfl, rfl⟩) (by assumption) ?rkV12
                  try simp only [Act.put, List.setIfInBounds_toArray, List.getElem_toArray, List.getElem_cons_succ, List.getElem_cons_zero, List.set_cons_succ, List.set_cons_zero]
                  refine wpAnyH_take (i := 10) (v := undef) rfl (by kernel_rfl) (by kernel_rfl) (by kernel_rfl) (fun _ _ _ h => h) (Or.inr ⟨by kernel_rfl, rfl⟩) (by assumption) ?rkV13
                  try simp only [Act.put, List.setIfInBounds_toArray, List.getElem_toArray, List.getElem_cons_succ, List.getElem_cons_zero, List.set_cons_succ, List.set_cons_zero]
                  refine wpAnyH_take (i := 11) (v := undef) rfl (by kernel_rfl) (by kernel_rfl) (by kernel_rfl) (fun _ _ _ h => h) (Or.inr ⟨by kernel_rfl, rfl⟩) (by assumption) ?rkV14
                  try simp only [Act.put, List.setIfInBounds_toArray, List.getElem_toArray, List.getElem_cons_succ, List.getElem_cons_zero, List.set_cons_succ, List.set_cons_zero]
                  refine wpAnyH_take (i := 12) (v := undef) rfl (by kernel_rfl) (by kernel_rfl) (by kernel_rfl) (fun _ _ _ h => h) (Or.inr ⟨by kernel_rfl, rfl⟩) (by assumption) ?rkV15
                  try simp only [Act.put, List.setIfInBounds_toArray, List.getElem_toArray, List.getElem_cons_succ, List.getElem_cons_zero, List.set_cons_succ, List.set_cons_zero]
                  refine wpAnyH_take (i := 13) (v := undef) rfl (by kernel_rfl) (by kernel_rfl) (by kernel_rfl) (fun _ _ _ h => h) (Or.inr ⟨by kernel_rfl, rfl⟩) (by assumption) ?rkV16
                  try simp only [Act.put, List.setIfInBounds_toArray, List.getElem_toArray, List.getElem_cons_succ, List.getElem_cons_zero, List.set_cons_succ, List.set_cons_zero]
                  refine wpAnyH_take (i := 14) (v := undef) rfl (by kernel_rfl) (by kernel_rfl) (by kernel_rfl) (fun _ _ _ h => h) (Or.inr ⟨by kernel_rfl, rfl⟩) (by assumption) ?rkV17
                  try simp only [Act.put, List.setIfInBounds_toArray, List.getElem_toArray, List.getElem_cons_succ, List.getElem_cons_zero, List.set_cons_succ, List.set_cons_zero]
                  refine wpAnyH_take (i := 15) (v := undef) rfl (by kernel_rfl) (by kernel_rfl) (by kernel_rfl) (fun _ _ _ h => h) (Or.inr ⟨by kernel_rfl, rfl⟩) (by assumption) ?rkV18
                  try simp only [Act.put, List.setIfInBounds_toArray, List.getElem_toArray, List.getElem_cons_succ, List.getElem_cons_zero, List.set_cons_succ, List.set_cons_zero]
                  refine wpAnyH_take (i := 16) (v := undef) rfl (by kernel_rfl) (by kernel_rfl) (by kernel_rfl) (fun _ _ _ h => h) (Or.inr ⟨by kernel_rfl, rfl⟩) (by assumption) ?rkV19
                  try simp only [Act.put, List.setIfInBounds_toArray, List.getElem_toArray, List.getElem_cons_succ, List.getElem_cons_zero, List.set_cons_succ, List.set_cons_zero]
                  refine wpAnyH_take (i := 17) (v := undef) rfl (by kernel_rfl) (by kernel_rfl) (by kernel_rfl) (fun _ _ _ h => h) (Or.inr ⟨by kernel_rfl, rfl⟩) (by assumption) ?rkV20
                  try simp only [Act.put, List.setIfInBounds_toArray, List.getElem_toArray, List.getElem_cons_succ, List.getElem_cons_zero, List.set_cons_succ, List.set_cons_zero]
                  refine wpAnyH_take (i := 18) (v := undef) rfl (by kernel_rfl) (by kernel_rfl) (by kernel_rfl) (fun _ _ _ h => h) (Or.inr ⟨by kernel_rfl, rfl⟩) (by assumption) ?rkV21
                  try simp only [Act.put, List.setIfInBounds_toArray, List.getElem_toArray, List.getElem_cons_succ, List.getElem_cons_zero, List.set_cons_succ, List.set_cons_zero]
                  refine wpAnyH_take (i := 19) (v := undef) rfl (by kernel_rfl) (by kernel_rfl) (by kernel_rfl) (fun _ _ _ h => h) (Or.inr ⟨by kernel_rfl, rfl⟩) (by assumption) ?rkV22
                  try simp only [Act.put, List.setIfInBounds_toArray, List.getElem_toArray, List.getElem_cons_succ, List.getElem_cons_zero, List.set_cons_succ, List.set_cons_zero]
                  refine wpAnyH_take (i := 20) (v := undef) rfl (by kernel_rfl) (by kernel_rfl) (by kernel_rfl) (fun _ _ _ h => h) (Or.inr ⟨by kernel_rfl, rfl⟩) (by assumption) ?rkV23
                  try simp only [Act.put, List.setIfInBounds_toArray, List.getElem_toArray, List.getElem_cons_succ, List.getElem_cons_zero, List.set_cons_succ, List.set_cons_zero]
                  refine wpAnyH_take (i := 21) (v := undef) rfl (by kernel_rfl) (by kernel_rfl) (by kernel_rfl) (fun _ _ _ h => h) (Or.inr ⟨by kernel_rfl, rfl⟩) (by assumption) ?rkV24
                  try simp only [Act.put, List.setIfInBounds_toArray, List.getElem_toArray, List.getElem_cons_succ, List.getElem_cons_zero, List.set_cons_succ, List.set_cons_zero]
                  refine wpAnyH_take (i := 22) (v := undef) rfl (by kernel_rfl) (by kernel_rfl) (by kernel_rfl) (fun _ _ _ h => h) (Or.inr ⟨by kernel_rfl, rfl⟩) (by assumption) ?rkV25
                  try simp only [Act.put, List.setIfInBounds_toArray, List.getElem_toArray, List.getElem_cons_succ, List.getElem_cons_zero, List.set_cons_succ, List.set_cons_zero]
                  refine wpAnyH_take (i := 23) (v := .bool true) rfl (by kernel_rfl) (by kernel_rfl) (by kernel_rfl) (fun _ _ _ h => h) (Or.inl ⟨by kernel_rfl, ?qV26⟩) (by assumption) ?rqV26
                  case qV26 => (intro w hSw; (try dsimp only at hSw); go_simp)
                  try simp only [Act.put, List.setIfInBounds_toArray, List.getElem_toArray, List.getElem_cons_succ, List.getElem_cons_zero, List.set_cons_succ, List.set_cons_zero]
                  refine wpAnyH_done (by kernel_rfl) ?_ _
                  refine NoPanic.normal ?_
                  have bR2 := bR.below hq bR.lt
                  have hbf := hb.trans (hq.mono hb.size)
                  have q0 := (bR2.cell 0).trans rfl
                  have q1 := (bR2.cell 1).trans rfl
                  have f0 := bR2.frozen 0
                  have f1 := bR2.frozen 1
                  have l1 := bR2.lt
                  go_wp2_with fail
                  go_at_call 19
                  with_reducible refine (HF.out _ _ _).mono ?_
                  rintro e wz ⟨rfl, rfl⟩
                  go_wp2_with fail
                  exact bodyPost_ret (results_c rfl _ _ w.heap.size (.int .i64 5) (.int .i64 (i : Int)) rfl ((blk_put26 bR2 _ _).alloc _)) rfl ⟨⟨5, _, rfl⟩, HBP.out _ _ _ _ hbf⟩
                | true =>
                  refine wpAnyH_take (i := 6) (v := .bool false) rfl (by kernel_rfl) (by kernel_rfl) (by kernel_rfl) (fun _ _ _ h => h) (Or.inl ⟨by kernel_rfl, ?qV27⟩) (by assumption) ?rqV27
                  case qV27 => (intro w hSw; (try dsimp only at hSw); go_simp)
                  try simp only [Act.put, List.setIfInBounds_toArray, List.getElem_toArray, List.getElem_cons_succ, List.getElem_cons_zero, List.set_cons_succ, List.set_cons_zero]
                  refine wpAnyH_take (i := 7) (v := .bool false) rfl (by kernel_rfl) (by kernel_rfl) (by kernel_rfl) (fun _ _ _ h => h) (Or.inl ⟨by kernel_rfl, ?qV28⟩) (by assumption) ?rqV28
                  case qV28 => (intro w hSw; (try dsimp only at hSw); go_simp)
                  try simp only [Act.put, List.setIfInBounds_toArray, List.getElem_toArray, List.getElem_cons_succ, List.getElem_cons_zero, List.set_cons_succ, List.set_cons_zero]
                  refine wpAnyH_take (i := 8) (v := .int .i64 (i : Int)) rfl (by kernel_rfl) (by kernel_rfl) (by kernel_rfl) (fun _ _ _ h => h) (Or.inl ⟨by kernel_rfl, ?qV29⟩) (by assumption) ?rqV29
                  case qV29 => (intro w hSw; (try dsimp only at hSw); go_simp)
                  try simp only [Act.put, List.setIfInBounds_toArray, List.getElem_toArray, List.getElem_cons_succ, List.getElem_cons_zero, List.set_cons_succ, List.set_cons_zero]
                  refine wpAnyH_take (i := 9) (v := .bool true) rfl (by kernel_rfl) (by kernel_rfl) (by kernel_rfl) (fun _ _ _ h => h) (Or.inl ⟨by kernel_rfl, ?qV30⟩) (by assumption) ?rqV30
                  case qV30 => (intro w hSw; (try dsimp only at hSw); go_simp)
                  try simp only [Act.put, List.setIfInBounds_toArray, List.getElem_toArray, List.getElem_cons_succ, List.getElem_cons_zero, List.set_cons_succ, List.set_cons_zero]
                  refine wpAnyH_take (i := 10) (v := .bool true) rfl (by kernel_rfl) (by kernel_rfl) (by kernel_rfl) (fun _ _ _ h => h) (Or.inl ⟨by kernel_rfl, ?qV31⟩) (by assumption) ?rqV31
                  case qV31 => (intro w hSw; (try dsimp only at hSw); go_simp)
                  try simp only [Act.put, List.setIfInBounds_toArray, List.getElem_toArray, List.getElem_cons_succ, List.getElem_cons_zero, List.set_cons_succ, List.set_cons_zero]
                  refine wpAnyH_take (i := 11) (v := .slice (some ⟨b, off, none⟩) l.length k) rfl (by kernel_rfl) (by kernel_rfl) (by kernel_rfl) (fun _ _ _ h => h) (Or.inl ⟨by kernel_rfl, ?qV32⟩) (by assumption) ?rqV32
                  case qV32 => (intro w hSw; (try dsimp only at hSw); go_simp)
                  try simp only [Act.put, List.setIfInBounds_toArray, List.getElem_toArray, List.getElem_cons_succ, List.getElem_cons_zero, List.set_cons_succ, List.set_cons_zero]
                  refine wpAnyH_take (i := 12) (v := .int .i64 (i : Int)) rfl (by kernel_rfl) (by kernel_rfl) (by kernel_rfl) (fun _ _ _ h => h) (Or.inl ⟨by kernel_rfl, ?qV33⟩) (by assumption) ?rqV33
                  case qV33 => (intro w hSw; (try dsimp only at hSw); go_simp)
                  try simp only [Act.put, List.setIfInBounds_toArray, List.getElem_toArray, List.getElem_cons_succ, List.getElem_cons_zero, List.set_cons_succ, List.set_cons_zero]
                  refine wpAnyH_take (i := 13) (v := .int .i64 (im : Int)) rfl (by kernel_rfl) (by kernel_rfl) (by kernel_rfl) (fun _ _ _ h => h) (Or.inl ⟨by kernel_rfl, ?qV34⟩) (by assumption) ?rqV34
                  case qV34 => (intro w hSw; (try dsimp only at hSw); go_simp)
                  try simp only [Act.put, List.setIfInBounds_toArray, List.getElem_toArray, List.getElem_cons_succ, List.getElem_cons_zero, List.set_cons_succ, List.set_cons_zero]
                  refine wpAnyH_take (i := 14) (v := .pointer (some ⟨b, off + im * 2, none⟩)) rfl (by kernel_rfl) (by kernel_rfl) (by kernel_rfl) (fun _ _ _ h => h) (Or.inl ⟨by kernel_rfl, ?qV35⟩) (by assumption) ?rqV35
                  case qV35 => (intro w hSw; (try dsimp only at hSw); go_simp)
                  try simp only [Act.put, List.setIfInBounds_toArray, List.getElem_toArray, List.getElem_cons_succ, List.getElem_cons_zero, List.set_cons_succ, List.set_cons_zero]
                  refine wpAnyH_take (i := 15) (v := .agg #[.int .i64 o2, .slice A2 n2.length c2]) rfl (by kernel_rfl) (by kernel_rfl) (by kernel_rfl) (fun _ _ _ h => h) (Or.inl ⟨by kernel_rfl, ?qV36⟩) (by assumption) ?rqV36
                  case qV36 => (intro w hSw; (try dsimp only at hSw); go_simp)
                  try simp only [Act.put, List.setIfInBounds_toArray, List.getElem_toArray, List.getElem_cons_succ, List.getElem_cons_zero, List.set_cons_succ, List.set_cons_zero]
                  refine wpAnyH_take (i := 16) (v := .slice (some ⟨b, off, none⟩) l.length k) rfl (by kernel_rfl) (by kernel_rfl) (by kernel_rfl) (fun _ _ _ h => h) (Or.inl ⟨by kernel_rfl, ?qV37⟩) (by assumption) ?rqV37
                  case qV37 => (intro w hSw; (try dsimp only at hSw); go_simp)
                  try simp only [Act.put, List.setIfInBounds_toArray, List.getElem_toArray, List.getElem_cons_succ, List.getElem_cons_zero, List.set_cons_succ, List.set_cons_zero]
                  refine wpAnyH_take (i := 17) (v := .int .i64 (i : Int)) rfl (by kernel_rfl) (by kernel_rfl) (by kernel_rfl) (fun _ _ _ h => h) (Or.inl ⟨by kernel_rfl, ?qV38⟩) (by assumption) ?rqV38
                  case qV38 => (intro w hSw; (try dsimp only at hSw); go_simp)
                  try simp only [Act.put, List.setIfInBounds_toArray, List.getElem_toArray, List.getElem_cons_succ, List.getElem_cons_zero, List.set_cons_succ, List.set_cons_zero]
                  refine wpAnyH_take (i := 18) (v := .pointer (some ⟨b, off + i * 2, none⟩)) rfl (by kernel_rfl) (by kernel_rfl) (by kernel_rfl) (fun _ _ _ h => h) (Or.inl ⟨by kernel_rfl, ?qV39⟩) (by assumption) ?rqV39
                  case qV39 => (intro w hSw; (try dsimp only at hSw); go_simp)
                  try simp only [Act.put, List.setIfInBounds_toArray, List.getElem_toArray, List.getElem_cons_succ, List.getElem_cons_zero, List.set_cons_succ, List.set_cons_zero]
                  refine wpAnyH_take (i := 19) (v := .agg #[.int .i64 mo, .slice Ap mn.length kp]) rfl (by kernel_rfl) (by kernel_rfl) (by kernel_rfl) (fun _ _ _ h => h) (Or.inl ⟨by kernel_rfl, ?qV40⟩) (by assumption) ?rqV40
                  case qV40 => (intro w hSw; (try dsimp only at hSw); go_simp)
                  try simp only [Act.put, List.setIfInBounds_toArray, List.getElem_toArray, List.getElem_cons_succ, List.getElem_cons_zero, List.set_cons_succ, List.set_cons_zero]
                  refine wpAnyH_ready (rs := [20]) (by kernel_rfl) (by simp) ?_
                  refine AllReadyH.cons rfl (fun K hK => ?nV41) (AllReadyH.nil)
                  go_simp
                  go_at_call 22
                  with_reducible refine (HL.out WV7 hq).mono ?_
                  rintro e WV42 ⟨⟨r2, rfl⟩, hb9⟩
                  try go_wp2_with fail
                  refine hK.out _ _ ?_ (fun hSV43 => ?_)
                  · exact HKV.out _ (hq.trans (hb9.mono hq.size))
                  clear hK K
                  try simp only [Act.put, List.setIfInBounds_toArray, List.getElem_toArray, List.getElem_cons_succ, List.getElem_cons_zero, List.set_cons_succ, List.set_cons_zero]
                  replace hq := hq.trans (hb9.mono hq.size)
                  clear hb9
                  cases r2 with
                  | true =>
                    refine wpAnyH_take (i := 21) (v := .bool false) rfl (by kernel_rfl) (by kernel_rfl) (by kernel_rfl) (fun _ _ _ h => h) (Or.inl ⟨by kernel_rfl, ?qV44⟩) (by assumption) ?rqV44
                    case qV44 => (intro w hSw; (try dsimp only at hSw); go_simp)
                    try simp only [Act.put, List.setIfInBounds_toArray, List.getElem_toArray, List.getElem_cons_succ, List.getElem_cons_zero, List.set_cons_succ, List.set_cons_zero]
                    refine wpAnyH_take (i := 22) (v := .bool false) rfl (by kernel_rfl) (by kernel_rfl) (by kernel_rfl) (fun _ _ _ h => h) (Or.inl ⟨by kernel_rfl, ?qV45⟩) (by assumption) ?rqV45
                    case qV45 => (intro w hSw; (try dsimp only at hSw); go_simp)
                    try simp only [Act.put, List.setIfInBounds_toArray, List.getElem_toArray, List.getElem_cons_succ, List.getElem_cons_zero, List.set_cons_succ, List.set_cons_zero]
                    refine wpAnyH_take (i := 23) (v := .bool false) rfl (by kernel_rfl) (by kernel_rfl) (by kernel_rfl) (fun _ _ _ h => h) (Or.inl ⟨by kernel_rfl, ?qV46⟩) (by assumption) ?rqV46
                    case qV46 => (intro w hSw; (try dsimp only at hSw); go_simp)
                    try simp only [Act.put, List.setIfInBounds_toArray, List.getElem_toArray, List.getElem_cons_succ, List.getElem_cons_zero, List.set_cons_succ, List.set_cons_zero]
                    refine wpAnyH_done (by kernel_rfl) ?_ _
                    refine NoPanic.normal ?_
                    have bR2 := bR.below hq bR.lt
                    have hbf := hb.trans (hq.mono hb.size)
                    go_wp2_with fail
                    go_roundw
                    case rel => exact ⟨i + 1, by omega, by go_num, bR2, hbf, HM2⟩
                    case measure => simp [intOf]; omega
                  | false =>
                    refine wpAnyH_take (i := 21) (v := .bool true) rfl (by kernel_rfl) (by kernel_rfl) (by kernel_rfl) (fun _ _ _ h => h) (Or.inl ⟨by kernel_rfl, ?qV47⟩) (by assumption) ?rqV47
                    case qV47 => (intro w hSw; (try dsimp only at hSw); go_simp)
                    try simp only [Act.put, List.setIfInBounds_toArray, List.getElem_toArray, List.getElem_cons_succ, List.getElem_cons_zero, List.set_cons_succ, List.set_cons_zero]
                    refine wpAnyH_take (i := 22) (v := .bool true) rfl (by kernel_rfl) (by kernel_rfl) (by kernel_rfl) (fun _ _ _ h => h) (Or.inl ⟨by kernel_rfl, ?qV48⟩) (by assumption) ?rqV48
                    case qV48 => (intro w hSw; (try dsimp only at hSw); go_simp)
                    try simp only [Act.put, List.setIfInBounds_toArray, List.getElem_toArray, List.getElem_cons_succ, List.getElem_cons_zero, List.set_cons_succ, List.set_cons_zero]
                    refine wpAnyH_take (i := 23) (v := .bool true) rfl (by kernel_rfl) (by kernel_rfl) (by kernel_rfl) (fun _ _ _ h => h) (Or.inl ⟨by kernel_rfl, ?qV49⟩) (by assumption) ?rqV49
                    case qV49 => (intro w hSw; (try dsimp only at hSw); go_simp)
                    try simp only [Act.put, List.setIfInBounds_toArray, List.getElem_toArray, List.getElem_cons_succ, List.getElem_cons_zero, List.set_cons_succ, List.set_cons_zero]
                    refine wpAnyH_done (by kernel_rfl) ?_ _
                    refine NoPanic.normal ?_
                    have bR2 := bR.below hq bR.lt
                    have hbf := hb.trans (hq.mono hb.size)
                    have q0 := (bR2.cell 0).trans rfl
                    have q1 := (bR2.cell 1).trans rfl
                    have f0 := bR2.frozen 0
                    have f1 := bR2.frozen 1
                    have l1 := bR2.lt
                    go_wp2_with fail
                    go_at_call 19
                    with_reducible refine (HF.out _ _ _).mono ?_
                    rintro e wz ⟨rfl, rfl⟩
                    go_wp2_with fail
                    exact bodyPost_ret (results_c rfl _ _ w.heap.size (.int .i64 5) (.int .i64 (i : Int)) rfl ((blk_put26 bR2 _ _).alloc _)) rfl ⟨⟨5, _, rfl⟩, HBP.out _ _ _ _ hbf⟩
            · have hg2 : chT mn mo mn.length = false := by simpa using hg
              rw [hg2]
              go_wp2_with fail
              go_at_call 19
              with_reducible refine (HF.out _ _ _).mono ?_
              rintro e wz ⟨rfl, rfl⟩
              go_wp2_with fail
              exact bodyPost_ret (results_c rfl _ _ w.heap.size (.int .i64 3) (.int .i64 (i : Int)) rfl ((blk_put26 bR _ _).alloc _)) rfl ⟨⟨3, _, rfl⟩, HBP.out _ _ _ _ hb⟩
      · obtain rfl : i = l.length := by omega
        have hlt' : ¬ (l.length : Int) < l.length := by omega
        have HC2 := Lib.hid (cyclic23_any wo A k l.length (replaced_any wo A k l (HMV.out.below hb) (by omega) fun j h => HM.out j h h))
        clear HV HM
        go_wp2_with fail
        go_at_call 23
        with_reducible refine HC2.out.mono ?_
        rintro e w1 ⟨⟨r, rfl⟩, hb2⟩
        replace bR := bR.below hb2 bR.lt
        replace hb := hb.trans (hb2.mono hb.size)
        clear HC2 hb2 q0 q1 f0 f1 l1
        have q0 := (bR.cell 0).trans rfl
        have q1 := (bR.cell 1).trans rfl
        have f0 := bR.frozen 0
        have f1 := bR.frozen 1
        have l1 := bR.lt
        cases r with
        | true =>
          go_wp2_with fail
          go_at_call 19
          with_reducible refine (HF.out _ _ _).mono ?_
          rintro e wz ⟨rfl, rfl⟩
          go_wp2_with fail
          exact bodyPost_ret (results_c rfl _ _ w.heap.size (.int .i64 20) (.int .i64 (-1)) rfl ((blk_put26 bR _ _).alloc _)) rfl ⟨⟨20, _, rfl⟩, HBP.out _ _ _ _ hb⟩
        | false =>
          go_wp2_with fail
          exact bodyPost_ret (results_c rfl _ _ w.heap.size (.int .i64 0) (.int .i64 0) rfl (blk_put26 bR _ _)) rfl ⟨⟨0, 0, rfl⟩, (hb.setCell (p := ⟨w.heap.size, 0, none⟩) (Nat.le_refl _) _).setCell (p := ⟨w.heap.size, 1, none⟩) (Nat.le_refl _) _⟩
end Go.Proofs.Ytebohncdhhikkaa
