/-
  DeltachainPackMatchesSpec: the law's walk.
-/
import Derived.Test.YtiphcpibhffdjaaWalk10
import Derived.Test.YtiphcpibhffdjaaLawE
import Derived.Test.YtiphcpibhffdjaaLaw3
namespace Go.Proofs.Ytiphcpibhffdjaa
open Go.RowKit Go.V
set_option linter.unusedVariables false

theorem packRes_bad {vs : List (List UInt8)} {d : Int} (h : (Dc.packFault vs d).1 ≠ 0) : packRes vs d = ([], Dc.packFault vs d) := if_pos h
theorem packRes_ok {vs : List (List UInt8)} {d : Nat} (h : Dc.packFault vs d = (0, 0)) : packRes vs d = (Dc.packL vs d vs.length, (0, 0)) := by
  unfold packRes; rw [h]; rfl

set_option maxRecDepth 100000 in
set_option maxHeartbeats 8000000 in
theorem law7_early (w : World) (A : Option Addr) (k : Nat) (vs : List (List UInt8)) (d : Int) (hv : VsV w Free A vs) (hl : vs.length ≤ 9223372036854775807) (hd : I64 d) (h : 20 < vs.length ∨ d < 0 ∨ 20 < d) :
    Calls Try.prog 7 #[.slice A vs.length k, .int .i64 d] w fun e w' => e = .returned (.bool true) ∧ Below w.heap.size w w' := by
  have HP0 := fun (w1 : World) h => pack_any w1 A k vs d h hl hd
  have hf : Dc.packFault vs d = if 20 < vs.length then (2, -1) else if d < 0 ∨ 20 < d then (3, -1) else Dc.badFrom vs 0 := rfl
  by_cases h20 : 20 < vs.length
  · have e : Dc.packFault vs d = (2, -1) := by rw [hf, if_pos h20]
    rw [packRes_bad (by rw [e]; decide), e] at HP0
    have HP := Lib.hid HP0
    have h20' : (20 : Int) < vs.length := by omega
    have h0' : (0 : Int) < vs.length := by omega
    clear HP0 hf h e
    go_enter Try.func7, Try.ntmps7
    go_wp2_with fail
    go_at_call 10
    refine (example_any _).mono ?_
    rintro e w1 ⟨rfl, hb1⟩
    go_wp2_with fail
    go_at_call 17
    refine (HP.out _ (hv.keep (Keeps.below hb1 (fun _ _ h => h)))).mono ?_
    rintro e w2 ⟨A2, c2, rfl, _, _, hb2'⟩
    have hb2 := hb1.trans (hb2'.mono hb1.size)
    have hsz2 := hb2.size
    clear hb1 hb2' HP
    simp only [List.length_nil]
    go_wp2_with (go_at_call 12; refine (fault_any _ _ _).mono ?_; rintro e w' ⟨rfl, rfl⟩)
    refine wp_loop_rounds 1 ?_
    rw [rounds_succ]
    go_wp2_with fail
    go_ret
    exact ⟨rfl, ((hb2.alloc hsz2 _).alloc (by simp; omega) _).alloc (by simp; omega) _⟩
  · have hdb : d < 0 ∨ 20 < d := by omega
    have e : Dc.packFault vs d = (3, -1) := by rw [hf, if_neg h20, if_pos hdb]
    rw [packRes_bad (by rw [e]; decide), e] at HP0
    have HP := Lib.hid HP0
    have h20' : (vs.length : Int) ≤ 20 := by omega
    have HN := Lib.hid (show (decide (0 ≤ d) && decide (d ≤ 20)) = false from by
      rw [Bool.and_eq_false_iff]; simp only [decide_eq_false_iff_not]; omega)
    clear HP0 hf h e hdb h20
    go_enter Try.func7, Try.ntmps7
    go_wp2_with fail
    go_at_call 10
    refine (example_any _).mono ?_
    rintro e w1 ⟨rfl, hb1⟩
    go_wp2_with fail
    go_at_call 17
    refine (HP.out _ (hv.keep (Keeps.below hb1 (fun _ _ h => h)))).mono ?_
    rintro e w2 ⟨A2, c2, rfl, _, _, hb2'⟩
    have hb2 := hb1.trans (hb2'.mono hb1.size)
    have hsz2 := hb2.size
    clear hb1 hb2' HP
    simp only [List.length_nil]
    go_wp2_with (first | (go_at_call 18; refine (in_any _ _ _ _).mono ?_; rintro e w' ⟨rfl, rfl⟩; rw [HN.out]) | (go_at_call 12; refine (fault_any _ _ _).mono ?_; rintro e w' ⟨rfl, rfl⟩))
    refine wp_loop_rounds 1 ?_
    rw [rounds_succ]
    rcases Nat.eq_zero_or_pos vs.length with h0 | h0
    · rw [h0]
      go_wp2_with fail
      go_ret
      exact ⟨rfl, ((hb2.alloc hsz2 _).alloc (by simp; omega) _).alloc (by simp; omega) _⟩
    · have h0' : (0 : Int) < vs.length := by omega
      go_wp2_with fail
      go_ret
      exact ⟨rfl, ((hb2.alloc hsz2 _).alloc (by simp; omega) _).alloc (by simp; omega) _⟩
theorem badFrom_first (vs : List (List UInt8)) : ∀ n i, vs.length - i ≤ n → (Dc.badFrom vs i).1 ≠ 0 → ∃ j, i ≤ j ∧ ∃ h : j < vs.length, 1000 < vs[j].length ∧ Dc.badFrom vs i = (10, (j : Int)) ∧ ∀ q (h : q < vs.length), i ≤ q → q < j → vs[q].length ≤ 1000
  | n, i, hn, hb => by
    by_cases hi : i < vs.length
    · by_cases hc : 1000 < vs[i].length
      · exact ⟨i, Nat.le_refl _, hi, hc, Dc.badFrom_bad vs i hi hc, fun q h h1 h2 => by omega⟩
      · obtain _ | n := n
        · omega
        · rw [Dc.badFrom_next vs i hi (by omega)] at hb ⊢
          obtain ⟨j, h1, h2, h3, h4, h5⟩ := badFrom_first vs n (i + 1) (by omega) hb
          refine ⟨j, by omega, h2, h3, h4, fun q h hq1 hq2 => ?_⟩
          by_cases e : q = i
          · subst e; omega
          · exact h5 q h (by omega) hq2
    · rw [Dc.badFrom_end vs i (by omega)] at hb; exact absurd rfl hb

set_option maxRecDepth 100000 in
set_option maxHeartbeats 8000000 in
theorem law7_big (w : World) (A : Option Addr) (k : Nat) (vs : List (List UInt8)) (d : Nat) (hv : VsV w Free A vs) (hl : vs.length ≤ 20) (hd : d ≤ 20) (j : Nat) (hj : j < vs.length) (hbig : 1000 < vs[j].length) (hfj : Dc.badFrom vs 0 = (10, (j : Int))) (hlow : ∀ q (h : q < vs.length), q < j → vs[q].length ≤ 1000) :
    Calls Try.prog 7 #[.slice A vs.length k, .int .i64 (d : Int)] w fun e w' => e = .returned (.bool true) ∧ Below w.heap.size w w' := by
  have HP0 := fun (w1 : World) h => pack_any w1 A k vs d h (by omega) (by simp [I64]; omega)
  have hf : Dc.packFault vs d = (10, (j : Int)) := by unfold Dc.packFault; rw [if_neg (by omega), if_neg (by omega), hfj]
  rw [packRes_bad (by rw [hf]; simp), hf] at HP0
  have HP := Lib.hid HP0
  have HROW := Lib.hid (fun (wr : World) (hb : Below w.heap.size w wr) i hi => (hv.keep (Keeps.below hb (fun _ _ h => h))).row (w := wr) i hi)
  have HLOW := Lib.hid hlow
  have HBIG := Lib.hid hbig
  have hd20 : (d : Int) ≤ 20 := by omega
  have hl20 : (vs.length : Int) ≤ 20 := by omega
  have HN := Lib.hid (show (decide (0 ≤ (d : Int)) && decide ((d : Int) ≤ 20)) = true from by rw [decide_eq_true (by omega), decide_eq_true (by omega)]; rfl)
  clear HP0 hf hfj hlow hbig
  go_enter Try.func7, Try.ntmps7
  go_wp2_with fail
  go_at_call 10
  refine (example_any _).mono ?_
  rintro e w1 ⟨rfl, hb1⟩
  go_wp2_with fail
  go_at_call 17
  refine (HP.out _ (hv.keep (Keeps.below hb1 (fun _ _ h => h)))).mono ?_
  rintro e w2 ⟨A2, c2, rfl, _, _, hb2'⟩
  have hb2 := hb1.trans (hb2'.mono hb1.size)
  have hsz2 := hb2.size
  have hb3 := (hb2.alloc hsz2 (.cells #[.int .i64 10, .int .i64 (j : Int)] 26)).alloc (by simp; omega) (.cells #[.int .i64 0, .int .i64 0] 26)
  have k6 := (Blk.new w2 26 #[.int .i64 10, .int .i64 (j : Int)]).alloc (.cells #[.int .i64 0, .int .i64 0] 26)
  have k7 := Blk.new (w2.alloc (.cells #[.int .i64 10, .int .i64 (j : Int)] 26)) 26 #[.int .i64 0, .int .i64 0]
  rw [World.size_alloc] at k7
  clear hb1 hb2' HP
  simp only [List.length_nil]
  go_wp2_with (first | (go_at_call 18; refine (in_any _ _ _ _).mono ?_; rintro e w' ⟨rfl, rfl⟩; rw [HN.out]))
  go_loopw [8] (fun v wr => ∃ i : Nat, i ≤ j + 1 ∧ v = .int .i64 i ∧ Below w.heap.size w wr ∧ Blk wr w2.heap.size 26 #[.int .i64 10, .int .i64 (j : Int)] ∧ Blk wr (w2.heap.size + 1) 26 (if i ≤ j then #[.int .i64 0, .int .i64 0] else #[.int .i64 10, .int .i64 (j : Int)])) (fun v _ => j + 1 - (intOf v).toNat)
  case atStart => exact ⟨0, Nat.zero_le _, rfl, hb3, k6, by rw [if_pos (Nat.zero_le _)]; exact k7⟩
  case round =>
    obtain ⟨i, hi, rfl, hbr, k6r, k7r⟩ := hrel
    obtain ⟨wo, rfl⟩ : ∃ wo : World, wo = wr := ⟨_, rfl⟩
    have hszr := hbr.size
    have p0 := k6r.cell 0
    have p1 := k6r.cell 1
    have u1 := k7r.lt
    have f0 := k7r.frozen 0
    have f1 := k7r.frozen 1
    simp only [List.getElem?_toArray, List.getElem?_cons_zero, List.getElem?_cons_succ] at p0 p1
    clear k6 k7 hb3
    by_cases hij : i ≤ j
    · rw [if_pos hij] at k7r
      have q0 := k7r.cell 0
      have q1 := k7r.cell 1
      simp only [List.getElem?_toArray, List.getElem?_cons_zero, List.getElem?_cons_succ] at q0 q1
      have hil : i < vs.length := by omega
      have hil' : (i : Int) < vs.length := by omega
      obtain ⟨b, off, Ad, kd, e, hb, _, hc, hk1, hk2, hsa⟩ := HROW.out _ hbr i hil
      subst e
      rcases Nat.eq_or_lt_of_le hij with heq | hlt
      · subst heq
        have hbig := HBIG.out
        have hbig' : (1000 : Int) < vs[i].length := by omega
        generalize vs[i] = x at *
        have k7n := (blk_put2 k7r (.int .i64 10) (.int .i64 (i : Int))).alloc (.cells #[.int .i64 10, .int .i64 (i : Int)] 26)
        have k6n := ((k6r.far (p := ⟨w2.heap.size + 1, 0, none⟩) (by simp) (.int .i64 10)).far (p := ⟨w2.heap.size + 1, 1, none⟩) (by simp) (.int .i64 (i : Int))).alloc (.cells #[.int .i64 10, .int .i64 (i : Int)] 26)
        have hbn := ((hbr.setCell (p := ⟨w2.heap.size + 1, 0, none⟩) (by simp; omega) (.int .i64 10)).setCell (p := ⟨w2.heap.size + 1, 1, none⟩) (by simp; omega) (.int .i64 (i : Int))).alloc (by simp [World.setCell]; omega) (.cells #[.int .i64 10, .int .i64 (i : Int)] 26)
        clear hbig k6r k7r
        go_wp2_with (go_at_call 12; refine (fault_any _ _ _).mono ?_; rintro e w' ⟨rfl, rfl⟩)
        go_roundw
        case rel => exact ⟨i + 1, by omega, by go_num, hbn, k6n, by rw [if_neg (by omega)]; exact k7n⟩
        case measure => simp [intOf]
      · have hlow := HLOW.out i hil hlt
        have hlow' : (vs[i].length : Int) ≤ 1000 := by omega
        generalize vs[i] = x at *
        go_wp2_with fail
        go_roundw
        case rel => exact ⟨i + 1, by omega, by go_num, hbr, k6r, by rw [if_pos (by omega)]; exact k7r⟩
        case measure => simp [intOf]; omega
    · obtain rfl : i = j + 1 := by omega
      rw [if_neg hij] at k7r
      have q0 := k7r.cell 0
      have q1 := k7r.cell 1
      simp only [List.getElem?_toArray, List.getElem?_cons_zero, List.getElem?_cons_succ] at q0 q1
      clear k7r k6r hij hi
      by_cases hjl : j + 1 < vs.length
      · have hjl' : ((j + 1 : Nat) : Int) < vs.length := by omega
        generalize ((j + 1 : Nat) : Int) = jj at *
        go_wp2_with fail
        go_ret
        exact ⟨rfl, hbr⟩
      · have hjl' : ¬ ((j + 1 : Nat) : Int) < vs.length := by omega
        generalize ((j + 1 : Nat) : Int) = jj at *
        go_wp2_with fail
        go_ret
        exact ⟨rfl, hbr⟩

set_option maxRecDepth 100000 in
set_option maxHeartbeats 16000000 in
theorem law7_ok (w : World) (A : Option Addr) (k : Nat) (vs : List (List UInt8)) (d : Nat) (hv : VsV w Free A vs) (hp : Dc.PkOk vs d) (hf : Dc.packFault vs d = (0, 0)) :
    Calls Try.prog 7 #[.slice A vs.length k, .int .i64 (d : Int)] w fun e w' => e = .returned (.bool true) ∧ Below w.heap.size w w' := by
  have hl := hp.len
  have hd := hp.d
  have HP0 := fun (w1 : World) h => pack_any w1 A k vs d h (by omega) (by simp [I64]; omega)
  rw [packRes_ok hf] at HP0
  have HP := Lib.hid HP0
  have HROW := Lib.hid (fun (wr : World) (hb : Below w.heap.size w wr) i hi => (hv.keep (Keeps.below hb (fun _ _ h => h))).row (w := wr) i hi)
  have HALL := Lib.hid hp.all
  have hd20 : (d : Int) ≤ 20 := by omega
  have hl20 : (vs.length : Int) ≤ 20 := by omega
  have HN := Lib.hid (show (decide (0 ≤ (d : Int)) && decide ((d : Int) ≤ 20)) = true from by rw [decide_eq_true (by omega), decide_eq_true (by omega)]; rfl)
  clear HP0 hf hp
  go_enter Try.func7, Try.ntmps7
  go_wp2_with fail
  go_at_call 10
  refine (example_any _).mono ?_
  rintro e w1 ⟨rfl, hb1⟩
  go_wp2_with fail
  go_at_call 17
  refine (HP.out _ (hv.keep (Keeps.below hb1 (fun _ _ h => h)))).mono ?_
  rintro e w2 ⟨A2, c2, rfl, hcc2, hch, hb2'⟩
  have hb2 := hb1.trans (hb2'.mono hb1.size)
  have hsz2 := hb2.size
  have hb3 := (hb2.alloc hsz2 (.cells #[.int .i64 0, .int .i64 0] 26)).alloc (by simp; omega) (.cells #[.int .i64 0, .int .i64 0] 26)
  have hch3 : ChV _ Free A2 (Dc.packL vs d vs.length) := ((hch.keep ((Keeps.refl w2 (Under w1.heap.size)).into (X'' := Free) (fun _ h => h.elim))).keep (Keeps.alloc _ _ (.cells #[.int .i64 0, .int .i64 0] 26))).keep (Keeps.alloc _ _ (.cells #[.int .i64 0, .int .i64 0] 26))
  clear hb1 hb2' HP hch
  simp only [Dc.packL_length] at hcc2 ⊢
  go_wp2_with (first | (go_at_call 18; refine (in_any _ _ _ _).mono ?_; rintro e w' ⟨rfl, rfl⟩; rw [HN.out]))
  have hz : ∃ wB : World, (w2.alloc (.cells #[.int .i64 0, .int .i64 0] 26)).alloc (.cells #[.int .i64 0, .int .i64 0] 26) = wB := ⟨_, rfl⟩
  obtain ⟨wB, hwB⟩ := hz
  have k6 := (Blk.new w2 26 #[.int .i64 0, .int .i64 0]).alloc (.cells #[.int .i64 0, .int .i64 0] 26)
  have k7 := Blk.new (w2.alloc (.cells #[.int .i64 0, .int .i64 0] 26)) 26 #[.int .i64 0, .int .i64 0]
  rw [World.size_alloc] at k7
  rw [hwB] at hb3 hch3 k6 k7 ⊢
  have p0 := k6.cell 0
  have q0 := k7.cell 0
  simp only [List.getElem?_toArray, List.getElem?_cons_zero] at p0 q0
  have hszB := hb3.size
  clear hwB k6 k7
  go_loop [8] (fun v => ∃ i : Nat, i ≤ vs.length ∧ v = .int .i64 i) (fun v => vs.length - (intOf v).toNat)
  case atStart => exact ⟨0, Nat.zero_le _, rfl⟩
  case round =>
    obtain ⟨i, hi, rfl⟩ := hrel
    by_cases hil : i < vs.length
    · have hil' : (i : Int) < vs.length := by omega
      obtain ⟨b, off, Ad, kd, e, hb, _, hc, hk1, hk2, hsa⟩ := HROW.out _ hb3 i hil
      subst e
      have hlow := HALL.out i hil
      have hlow' : (vs[i].length : Int) ≤ 1000 := by omega
      generalize vs[i] = x at *
      go_wp2_with fail
      go_round
      case rel => exact ⟨i + 1, by omega, by go_num⟩
      case measure => simp [intOf]; omega
    · obtain rfl : i = vs.length := by omega
      clear hi hil
      have hnl : ((vs.length : Int) != vs.length) = false := by simp
      go_wp2_with fail
      go_loopw [9] (fun v wr => ∃ i : Nat, i ≤ vs.length ∧ v = .int .i64 i ∧ Below wB.heap.size wB wr) (fun v _ => vs.length - (intOf v).toNat)
      case atStart => exact ⟨0, Nat.zero_le _, rfl, Below.refl _ _⟩
      case round =>
        obtain ⟨i, hi, rfl, hbr⟩ := hrel
        obtain ⟨wo, rfl⟩ : ∃ wo : World, wo = wr := ⟨_, rfl⟩
        by_cases hil : i < vs.length
        · have hil' : (i : Int) < vs.length := by omega
          have hi0 : (0 : Int) ≤ i := by omega
          have hbw := hb3.trans (hbr.mono hszB)
          have hszw := hbw.size
          obtain ⟨b, off, Ad, kd, e, hb, _, hc, hk1, hk2, hsa⟩ := HROW.out _ hbw i hil
          subst e
          have hlen := HALL.out i hil
          obtain ⟨b2, off2, Ae, ke, Ao, ko, us, e2, hb2x, _, d0, d1, d2, j0, j1, j2, j3, j4, hsd, hso, hrows⟩ := (hch3.keep (Keeps.below hbr (fun _ _ h => h))).row i (by simpa using hil)
          subst e2
          rw [show (Dc.packL vs d vs.length)[i]'(by simpa using hil) = Dc.packAt vs d i from by simp [Dc.packL]] at d0 d1 d2 j0 j1 j2 j3 j4 hsd hrows
          have hcast : (i : Int) % ((d : Int) + 1) = ((i % (d + 1) : Nat) : Int) := by rw [Int.natCast_emod]; rfl
          by_cases hm : i % (d + 1) = 0
          · have hm0 : (i : Int) % ((d : Int) + 1) = 0 := by rw [hcast, hm]; rfl
            have hm' : ((i : Int) % ((d : Int) + 1) == 0) = true := by rw [hm0]; rfl
            have HPK : Dc.packAt vs d i = ⟨-1, vs[i], []⟩ := by unfold Dc.packAt; rw [if_pos hm, List.getElem?_eq_getElem hil]; rfl
            rw [HPK] at d0 d1 d2 hsd
            simp only [List.length_nil] at d0 d1 d2 hsd
            clear hm hm0 hcast HPK hrows hso j0 j1 j2 j3 j4
            generalize vs[i] = x at *
            have e1 : ∀ n, (convert 22 9 (.slice Ae x.length ke)).run Try.prog (wo.drewN n) = .ok (.string ⟨x.toArray⟩) (wo.drewN n) := fun n => run_conv_str (P := Try.prog) 22 9 5 ke Try.underlying22 Try.underlying5 Try.underlying9 (SV.drewN hsd.sv n)
            have e2 : ∀ n, (convert 22 9 (.slice Ad x.length kd)).run Try.prog (wo.drewN n) = .ok (.string ⟨x.toArray⟩) (wo.drewN n) := fun n => run_conv_str (P := Try.prog) 22 9 5 kd Try.underlying22 Try.underlying5 Try.underlying9 (SV.drewN hsa.sv n)
            go_wp2_with fail
            go_quiet (fail)
            go_wp2_with fail
            go_roundw
            case rel => exact ⟨i + 1, by omega, by go_num, below_drewN hbr _⟩
            case measure => simp [intOf]; omega
          · have hm0 : ¬ (i : Int) % ((d : Int) + 1) = 0 := by rw [hcast]; omega
            have hm' : ((i : Int) % ((d : Int) + 1) == 0) = false := by simpa using hm0
            have hi0' : 0 < i := by
              rcases Nat.eq_zero_or_pos i with h0 | h0
              · rw [h0] at hm; simp at hm
              · exact h0
            have hi1 : (1 : Int) ≤ i := by omega
            have hi2 : (0 : Int) ≤ (i : Int) - 1 := by omega
            have hi3 : (i : Int) - 1 < vs.length := by omega
            have hip : i - 1 < vs.length := by omega
            obtain ⟨b', off', Ad', kd', e', hb', _, hc', hk1', hk2', hsa'⟩ := HROW.out _ hbw (i - 1) hip
            cases e'
            have hlen' := HALL.out (i - 1) hip
            have HPK : Dc.packAt vs d i = ⟨(i : Int) - 1, [], Dc.encode vs[i - 1] vs[i]⟩ := by unfold Dc.packAt; rw [if_neg hm, List.getElem?_eq_getElem hil, List.getElem?_eq_getElem hip]; rfl
            rw [HPK] at d0 d1 d2 hrows
            simp only [List.length_nil] at d0 d1 d2 hrows
            have HC14 := Lib.hid (encodeDelta_any wo.drew Ad' Ad kd' kd vs[i - 1] vs[i] hsa'.sv hsa.sv hlen' hlen)
            have hol := Dc.encode_len' vs[i - 1] vs[i] hlen
            clear hm hm0 hcast HPK hsd j0 j1 j2 j3 j4 hlen hlen'
            generalize Dc.encode vs[i - 1] vs[i] = ops at *
            generalize vs[i - 1] = y at *
            generalize vs[i] = x at *
            have HC13 : Hid (∀ (w6 : World) (A6 : Option Addr) (c6 : Nat) (us6 : List Value), Below wo.drew.heap.size wo.drew w6 → SV w6 w6.heap.size A6 us6 → RowsR (OpR w6 w6.heap.size) ops us6 →
                Calls Try.prog 13 #[.slice Ao ops.length ko, .slice A6 ops.length c6] w6 fun e w' => e = .returned (.bool true) ∧ ∃ n, w' = w6.drewN n) := Lib.hid fun w6 A6 c6 us6 hb6 hs6 hr6 => by
              have hk : Keeps wo.drew Free w6 Free := Keeps.below hb6 (fun _ _ h => h)
              exact deltas_any w6 Ao A6 ko c6 ops us us6 ((show SA wo.drew Free Ao us from hso).keep hk).sv hs6 ((show RowsR (OpA wo.drew Free) ops us from hrows).mono fun o cs h => (OpA.keep hk o cs h).toR) hr6 (by omega)
            have HK : Hid (∀ (w6 : World), Below wo.drew.heap.size wo.drew w6 → w6.cell? ⟨b2, off2 + i * 3, none⟩ = some (.int .i64 ((i : Int) - 1)) ∧ w6.cell? ⟨b2, off2 + i * 3 + 1, none⟩ = some (.slice Ae 0 ke) ∧ w6.cell? ⟨b2, off2 + i * 3 + 2, none⟩ = some (.slice Ao ops.length ko) ∧ w6.cell? ⟨b, off + (i - 1), none⟩ = some (.slice Ad' y.length kd') ∧ w6.cell? ⟨b, off + i, none⟩ = some (.slice Ad x.length kd)) := Lib.hid fun w6 hb6 =>
              ⟨(hb6.cell (p := ⟨b2, _, none⟩) hb2x).trans d0, (hb6.cell (p := ⟨b2, _, none⟩) hb2x).trans d1, (hb6.cell (p := ⟨b2, _, none⟩) hb2x).trans d2, (hb6.cell (p := ⟨b, _, none⟩) hb).trans hc', (hb6.cell (p := ⟨b, _, none⟩) hb).trans hc⟩
            have hbd : Below wo.drew.heap.size wo.drew wo.drew := Below.refl _ _
            clear hso hrows hsa hsa'
            go_wp2_with fail
            have hw1 : IntKind.i64.wrap ((i : Int) - 1) = (i : Int) - 1 := IntWalk.i64_in _ (by omega)
            have hw2 : ((i : Int) - 1).toNat = i - 1 := by omega
            have hw3 : ((i : Int) - 1 != (i : Int) - 1) = false := by simp
            go_region_held3 (fun w6 => w6.cell? ⟨b2, off2 + i * 3, none⟩ = some (.int .i64 ((i : Int) - 1)) ∧ w6.cell? ⟨b2, off2 + i * 3 + 1, none⟩ = some (.slice Ae 0 ke) ∧ w6.cell? ⟨b2, off2 + i * 3 + 2, none⟩ = some (.slice Ao ops.length ko) ∧ w6.cell? ⟨b, off + (i - 1), none⟩ = some (.slice Ad' y.length kd') ∧ w6.cell? ⟨b, off + i, none⟩ = some (.slice Ad x.length kd))
              (first | exact HK.out _ hbd | exact HK.out _ hb6 | exact HK.out _ (below_drewN hb6 _))
              (first | (go_at_call 14; (with_reducible refine HC14.out.mono ?_); rintro e w6 ⟨v6, rfl, ⟨A6, c6, us6, rfl, hc6, hs6, hr6⟩, hb6⟩) | (go_at_call 13; (with_reducible refine (HC13.out _ _ _ us6 hb6 hs6 hr6).mono ?_); rintro e w7 ⟨rfl, n7, rfl⟩))
            have hbn : Below wB.heap.size wB (w6.drewN n7) := below_drewN ((below_drew hbr).trans (hb6.mono hbr.size)) n7
            clear HC13 HC14 HK hw1 hw2 hw3 hb6 hs6 hr6
            go_wp2_with fail
            go_roundw
            case rel => exact ⟨i + 1, by omega, by go_num, hbn⟩
            case measure => simp [intOf]; omega
        · obtain rfl : i = vs.length := by omega
          go_wp2_with fail
          go_ret
          exact ⟨rfl, hb3.trans (hbr.mono hszB)⟩
theorem law7_any (w : World) (A : Option Addr) (k : Nat) (vs : List (List UInt8)) (d : Int) (hv : VsV w Free A vs) (hl : vs.length ≤ 9223372036854775807) (hd : I64 d) :
    Calls Try.prog 7 #[.slice A vs.length k, .int .i64 d] w fun e w' => e = .returned (.bool true) ∧ Below w.heap.size w w' := by
  by_cases h : 20 < vs.length ∨ d < 0 ∨ 20 < d
  · exact law7_early w A k vs d hv hl hd h
  · obtain ⟨dn, rfl⟩ := Int.eq_ofNat_of_zero_le (show 0 ≤ d by omega)
    by_cases hb : (Dc.badFrom vs 0).1 = 0
    · rcases Dc.badFrom_code vs _ 0 (Nat.le_refl _) with ⟨h1, h2⟩ | h1
      · exact law7_ok w A k vs dn hv ⟨by omega, by omega, fun i hi => h2 i hi (Nat.zero_le _)⟩ (by unfold Dc.packFault; rw [if_neg (by omega), if_neg (by omega), h1])
      · rw [h1] at hb; cases hb
    · obtain ⟨j, _, hj, h3, h4, h5⟩ := badFrom_first vs _ 0 (Nat.le_refl _) hb
      exact law7_big w A k vs dn hv (by omega) (by omega) j hj h3 h4 fun q hq hqj => h5 q hq (Nat.zero_le _) hqj
end Go.Proofs.Ytiphcpibhffdjaa
