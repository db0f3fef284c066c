/-
  The merge queue: walk of check at a valid event.
-/
import Derived.Test.YtinebbleilnejaaMq13
namespace Go.Proofs.Ytinebbleilnejaa
open Go.RowKit Go.V
set_option linter.unusedVariables false
theorem no_contains {l : List Int} {x : Int} (h : x ∉ l) : l.contains x = false := by
  rw [Bool.eq_false_iff]; intro h2; rw [List.contains_iff_mem] at h2; exact h h2
set_option maxRecDepth 100000 in
set_option maxHeartbeats 16000000 in
theorem check_any (B : Nat) (w : World) (gQ : Nat) (win : Int) (ve vl vr : Value) (L : List (Mq.E × Value)) (la re : List Int) (v : Mq.Ev) (hq : QS B w gQ win ve L vl vr la re) (hsz : Mq.Sz ⟨L.map (·.1), la, re⟩) (hv : Mq.Val ⟨L.map (·.1), la, re⟩ v) :
    Calls Try.prog 14 #[.pointer (some ⟨gQ, 0, none⟩), .agg #[.int .i64 v.kind, .int .i64 v.c, .int .i64 0]] w fun e w' => e = .returned (.int .i64 0) ∧ Below w.heap.size w w' := by
  obtain ⟨kd, cc⟩ := v
  have hL10 : L.length ≤ 10 := by have := hsz.1; simpa using this
  have hla := hsz.2.1
  have hre := hsz.2.2.1
  simp only at hla hre
  have hb1 := below_alloc1 w (.cells #[.int .i64 kd, .int .i64 cc, .int .i64 0] 31)
  have b1 := Blk.new w 31 #[.int .i64 kd, .int .i64 cc, .int .i64 0]
  have hq1 := hq.below hb1
  have HFI := Lib.hid (find_any B _ gQ win ve vl vr L la re cc hq1 (by omega))
  have HQ := Lib.hid (fun (W : World) (hb : Below (w.alloc (.cells #[.int .i64 kd, .int .i64 cc, .int .i64 0] 31)).heap.size (w.alloc (.cells #[.int .i64 kd, .int .i64 cc, .int .i64 0] 31)) W) => And.intro (hq1.below hb) (And.intro (b1.below hb b1.lt) (hb1.trans (hb.mono hb1.size))))
  obtain ⟨hc1, hc2, hv3⟩ := hv
  simp only at hv3 hc1 hc2
  have hcc1 : ¬ cc < 1 := by omega
  have hcc2 : ¬ (1000000000 : Int) < cc := by omega
  clear hq hq1 b1 hb1 hsz hc1 hc2
  rcases hv3 with ⟨rfl, hno, hnl, hnr, hlt10⟩ | ⟨hk, hf, hcv, htv⟩
  · have hlt10' : L.length < 10 := by simpa using hlt10
    have hltI : ¬ (10 : Int) ≤ L.length := by omega
    have HNO := Lib.hid (show ∀ j (h : j < L.length), L[j].1.c ≠ cc from fun j h => by
      have := hno j (by simpa using h)
      simpa using this)
    have HN1 := Lib.hid (no_contains hnl)
    have HN2 := Lib.hid (no_contains hnr)
    clear hno hnl hnr hlt10
    go_enter Try.func14, Try.ntmps14
    go_wp2_with fail
    go_at_call 25
    with_reducible refine HFI.out.mono ?_
    rintro e w2 ⟨⟨r, rfl, hr⟩, hb2⟩
    have hr1 : r = -1 := by
      rcases hr with ⟨h, _⟩ | ⟨j, hj, _, h, _⟩
      · exact h
      · exact absurd h (HNO.out j hj)
    subst hr1
    obtain ⟨hq2, b2, hw2⟩ := HQ.out w2 hb2
    obtain ⟨A, c, rfl⟩ := hq2.len
    have c0 := (b2.cell 0).trans rfl
    have c1 := (b2.cell 1).trans rfl
    have c2 := (b2.cell 2).trans rfl
    have p0 : w2.cell? ⟨gQ, 0, none⟩ = some (.slice A L.length c) := (hq2.q.cell 0).trans rfl
    obtain ⟨Al, cl, hvl, _⟩ := own_form hq2.l
    obtain ⟨Ar, cr, hvr, _⟩ := own_form hq2.r
    subst hvl
    subst hvr
    have HC1 := Lib.hid (fun (W : World) (hb : Below w2.heap.size w2 W) => (show Calls Try.prog 19 #[.slice Al la.length cl, .int .i64 cc] W (fun e w' => e = .returned (.bool false) ∧ W = w') from by
      have := contains_any W Al cl la cc (SV.of_own (own_below hq2.l hb)) (by omega)
      rwa [HN1.out] at this))
    have HC2 := Lib.hid (fun (W : World) (hb : Below w2.heap.size w2 W) => (show Calls Try.prog 19 #[.slice Ar re.length cr, .int .i64 cc] W (fun e w' => e = .returned (.bool false) ∧ W = w') from by
      have := contains_any W Ar cr re cc (SV.of_own (own_below hq2.r hb)) (by omega)
      rwa [HN2.out] at this))
    have HKS := Lib.hid (fun (w6 : World) (h6 : Below w2.heap.size w2 w6) => (show w6.cell? ⟨gQ, 1, none⟩ = some (.slice Al la.length cl) ∧ w6.cell? ⟨gQ, 2, none⟩ = some (.slice Ar re.length cr) ∧ w6.cell? ⟨w.heap.size, 1, none⟩ = some (.int .i64 cc) from
      ⟨((hq2.q.below h6 hq2.q.lt).cell 1).trans rfl, ((hq2.q.below h6 hq2.q.lt).cell 2).trans rfl, ((b2.below h6 b2.lt).cell 1).trans rfl⟩))
    have HP0 := Lib.hid (fun (w6 : World) (h6 : Below w2.heap.size w2 w6) => (show w6.cell? ⟨gQ, 0, none⟩ = some (.slice A L.length c) ∧ w6.cell? ⟨w.heap.size, 0, none⟩ = some (.int .i64 1) ∧ w6.cell? ⟨w.heap.size, 2, none⟩ = some (.int .i64 0) from
      ⟨((hq2.q.below h6 hq2.q.lt).cell 0).trans rfl, ((b2.below h6 b2.lt).cell 0).trans rfl, ((b2.below h6 b2.lt).cell 2).trans rfl⟩))
    have HW2 := Lib.hid hw2
    clear hr HQ HFI hq2 b2 hb2 HNO HN1 HN2 hw2
    go_wp2_with fail
    refine wp_region_noPanic ?_
    refine wp_region_held_drew (S := (fun w6 : World => w6.cell? ⟨gQ, 1, none⟩ = some (.slice Al la.length cl) ∧ w6.cell? ⟨gQ, 2, none⟩ = some (.slice Ar re.length cr) ∧ w6.cell? ⟨w.heap.size, 1, none⟩ = some (.int .i64 cc))) (by kernel_rfl) ?_ (fun hSS => ?_)
    · exact HKS.out _ (below_drew' (Below.refl _ _))
    have hq : Below w2.heap.size w2 w2.drew := below_drew' (Below.refl _ _)
    have hszb : w2.heap.size ≤ w2.drew.heap.size := Nat.le_refl _
    generalize hWg : w2.drew = WS at *
    clear hWg
    refine wpAnyH_take (i := 0) (v := .bool true) rfl (by kernel_rfl) (by kernel_rfl) (by kernel_rfl) (fun _ _ _ h => h) (Or.inl ⟨by kernel_rfl, ?qS1⟩) (by assumption) ?rqS1
    case qS1 => (intro w hSw; (try dsimp only at hSw); go_simp)
    try simp only [Act.put, List.setIfInBounds_toArray, List.getElem_toArray, List.getElem_cons_zero, List.set_cons_succ, List.set_cons_zero]
    refine wpAnyH_take (i := 1) (v := .bool true) rfl (by kernel_rfl) (by kernel_rfl) (by kernel_rfl) (fun _ _ _ h => h) (Or.inl ⟨by kernel_rfl, ?qS2⟩) (by assumption) ?rqS2
    case qS2 => (intro w hSw; (try dsimp only at hSw); go_simp)
    try simp only [Act.put, List.setIfInBounds_toArray, List.getElem_toArray, List.getElem_cons_succ, List.getElem_cons_zero, List.set_cons_succ, List.set_cons_zero]
    refine wpAnyH_take (i := 2) (v := .int .i64 (-1)) rfl (by kernel_rfl) (by kernel_rfl) (by kernel_rfl) (fun _ _ _ h => h) (Or.inl ⟨by kernel_rfl, ?qS3⟩) (by assumption) ?rqS3
    case qS3 => (intro w hSw; (try dsimp only at hSw); go_simp)
    try simp only [Act.put, List.setIfInBounds_toArray, List.getElem_toArray, List.getElem_cons_succ, List.getElem_cons_zero, List.set_cons_succ, List.set_cons_zero]
    refine wpAnyH_take (i := 3) (v := .bool false) rfl (by kernel_rfl) (by kernel_rfl) (by kernel_rfl) (fun _ _ _ h => h) (Or.inl ⟨by kernel_rfl, ?qS4⟩) (by assumption) ?rqS4
    case qS4 => (intro w hSw; (try dsimp only at hSw); go_simp)
    try simp only [Act.put, List.setIfInBounds_toArray, List.getElem_toArray, List.getElem_cons_succ, List.getElem_cons_zero, List.set_cons_succ, List.set_cons_zero]
    refine wpAnyH_take (i := 4) (v := .bool false) rfl (by kernel_rfl) (by kernel_rfl) (by kernel_rfl) (fun _ _ _ h => h) (Or.inl ⟨by kernel_rfl, ?qS5⟩) (by assumption) ?rqS5
    case qS5 => (intro w hSw; (try dsimp only at hSw); go_simp)
    try simp only [Act.put, List.setIfInBounds_toArray, List.getElem_toArray, List.getElem_cons_succ, List.getElem_cons_zero, List.set_cons_succ, List.set_cons_zero]
    refine wpAnyH_take (i := 5) (v := .pointer (some ⟨gQ, 0, none⟩)) rfl (by kernel_rfl) (by kernel_rfl) (by kernel_rfl) (fun _ _ _ h => h) (Or.inl ⟨by kernel_rfl, ?qS6⟩) (by assumption) ?rqS6
    case qS6 => (intro w hSw; (try dsimp only at hSw); go_simp)
    try simp only [Act.put, List.setIfInBounds_toArray, List.getElem_toArray, List.getElem_cons_succ, List.getElem_cons_zero, List.set_cons_succ, List.set_cons_zero]
    refine wpAnyH_take (i := 6) (v := .pointer (some ⟨gQ, 0, none⟩)) rfl (by kernel_rfl) (by kernel_rfl) (by kernel_rfl) (fun _ _ _ h => h) (Or.inl ⟨by kernel_rfl, ?qS7⟩) (by assumption) ?rqS7
    case qS7 => (intro w hSw; (try dsimp only at hSw); go_simp)
    try simp only [Act.put, List.setIfInBounds_toArray, List.getElem_toArray, List.getElem_cons_succ, List.getElem_cons_zero, List.set_cons_succ, List.set_cons_zero]
    refine wpAnyH_take (i := 7) (v := .pointer (some ⟨gQ, 0, none⟩)) rfl (by kernel_rfl) (by kernel_rfl) (by kernel_rfl) (fun _ _ _ h => h) (Or.inl ⟨by kernel_rfl, ?qS8⟩) (by assumption) ?rqS8
    case qS8 => (intro w hSw; (try dsimp only at hSw); go_simp)
    try simp only [Act.put, List.setIfInBounds_toArray, List.getElem_toArray, List.getElem_cons_succ, List.getElem_cons_zero, List.set_cons_succ, List.set_cons_zero]
    refine wpAnyH_take (i := 8) (v := .pointer (some ⟨gQ, 1, none⟩)) rfl (by kernel_rfl) (by kernel_rfl) (by kernel_rfl) (fun _ _ _ h => h) (Or.inl ⟨by kernel_rfl, ?qS9⟩) (by assumption) ?rqS9
    case qS9 => (intro w hSw; (try dsimp only at hSw); go_simp)
    try simp only [Act.put, List.setIfInBounds_toArray, List.getElem_toArray, List.getElem_cons_succ, List.getElem_cons_zero, List.set_cons_succ, List.set_cons_zero]
    refine wpAnyH_take (i := 9) (v := .slice Al la.length cl) rfl (by kernel_rfl) (by kernel_rfl) (by kernel_rfl) (fun _ _ _ h => h) (Or.inl ⟨by kernel_rfl, ?qS10⟩) (by assumption) ?rqS10
    case qS10 => (intro w hSw; (try dsimp only at hSw); go_simp)
    try simp only [Act.put, List.setIfInBounds_toArray, List.getElem_toArray, List.getElem_cons_succ, List.getElem_cons_zero, List.set_cons_succ, List.set_cons_zero]
    refine wpAnyH_take (i := 10) (v := .pointer (some ⟨w.heap.size, 1, none⟩)) rfl (by kernel_rfl) (by kernel_rfl) (by kernel_rfl) (fun _ _ _ h => h) (Or.inl ⟨by kernel_rfl, ?qS11⟩) (by assumption) ?rqS11
    case qS11 => (intro w hSw; (try dsimp only at hSw); go_simp)
    try simp only [Act.put, List.setIfInBounds_toArray, List.getElem_toArray, List.getElem_cons_succ, List.getElem_cons_zero, List.set_cons_succ, List.set_cons_zero]
    refine wpAnyH_take (i := 11) (v := .int .i64 cc) rfl (by kernel_rfl) (by kernel_rfl) (by kernel_rfl) (fun _ _ _ h => h) (Or.inl ⟨by kernel_rfl, ?qS12⟩) (by assumption) ?rqS12
    case qS12 => (intro w hSw; (try dsimp only at hSw); go_simp)
    try simp only [Act.put, List.setIfInBounds_toArray, List.getElem_toArray, List.getElem_cons_succ, List.getElem_cons_zero, List.set_cons_succ, List.set_cons_zero]
    refine wpAnyH_ready (rs := [12]) (by kernel_rfl) (by simp) ?_
    refine AllReadyH.cons rfl (fun K hK => ?nS13) (AllReadyH.nil)
    go_simp
    go_at_call 19
    with_reducible refine (HC1.out WS hq).mono ?_
    rintro e w9 ⟨rfl, hwS14⟩
    subst hwS14
    try go_wp2_with fail
    refine hK.out _ _ ?_ (fun hSS15 => ?_)
    · exact HKS.out _ (hq)
    clear hK K
    try simp only [Act.put, List.setIfInBounds_toArray, List.getElem_toArray, List.getElem_cons_succ, List.getElem_cons_zero, List.set_cons_succ, List.set_cons_zero]
    refine wpAnyH_take (i := 13) (v := .bool false) rfl (by kernel_rfl) (by kernel_rfl) (by kernel_rfl) (fun _ _ _ h => h) (Or.inl ⟨by kernel_rfl, ?qS16⟩) (by assumption) ?rqS16
    case qS16 => (intro w hSw; (try dsimp only at hSw); go_simp)
    try simp only [Act.put, List.setIfInBounds_toArray, List.getElem_toArray, List.getElem_cons_succ, List.getElem_cons_zero, List.set_cons_succ, List.set_cons_zero]
    refine wpAnyH_take (i := 14) (v := .bool false) rfl (by kernel_rfl) (by kernel_rfl) (by kernel_rfl) (fun _ _ _ h => h) (Or.inl ⟨by kernel_rfl, ?qS17⟩) (by assumption) ?rqS17
    case qS17 => (intro w hSw; (try dsimp only at hSw); go_simp)
    try simp only [Act.put, List.setIfInBounds_toArray, List.getElem_toArray, List.getElem_cons_succ, List.getElem_cons_zero, List.set_cons_succ, List.set_cons_zero]
    refine wpAnyH_take (i := 15) (v := .pointer (some ⟨gQ, 0, none⟩)) rfl (by kernel_rfl) (by kernel_rfl) (by kernel_rfl) (fun _ _ _ h => h) (Or.inl ⟨by kernel_rfl, ?qS18⟩) (by assumption) ?rqS18
    case qS18 => (intro w hSw; (try dsimp only at hSw); go_simp)
    try simp only [Act.put, List.setIfInBounds_toArray, List.getElem_toArray, List.getElem_cons_succ, List.getElem_cons_zero, List.set_cons_succ, List.set_cons_zero]
    refine wpAnyH_take (i := 16) (v := .pointer (some ⟨gQ, 0, none⟩)) rfl (by kernel_rfl) (by kernel_rfl) (by kernel_rfl) (fun _ _ _ h => h) (Or.inl ⟨by kernel_rfl, ?qS19⟩) (by assumption) ?rqS19
    case qS19 => (intro w hSw; (try dsimp only at hSw); go_simp)
    try simp only [Act.put, List.setIfInBounds_toArray, List.getElem_toArray, List.getElem_cons_succ, List.getElem_cons_zero, List.set_cons_succ, List.set_cons_zero]
    refine wpAnyH_take (i := 17) (v := .pointer (some ⟨gQ, 0, none⟩)) rfl (by kernel_rfl) (by kernel_rfl) (by kernel_rfl) (fun _ _ _ h => h) (Or.inl ⟨by kernel_rfl, ?qS20⟩) (by assumption) ?rqS20
    case qS20 => (intro w hSw; (try dsimp only at hSw); go_simp)
    try simp only [Act.put, List.setIfInBounds_toArray, List.getElem_toArray, List.getElem_cons_succ, List.getElem_cons_zero, List.set_cons_succ, List.set_cons_zero]
    refine wpAnyH_take (i := 18) (v := .pointer (some ⟨gQ, 2, none⟩)) rfl (by kernel_rfl) (by kernel_rfl) (by kernel_rfl) (fun _ _ _ h => h) (Or.inl ⟨by kernel_rfl, ?qS21⟩) (by assumption) ?rqS21
    case qS21 => (intro w hSw; (try dsimp only at hSw); go_simp)
    try simp only [Act.put, List.setIfInBounds_toArray, List.getElem_toArray, List.getElem_cons_succ, List.getElem_cons_zero, List.set_cons_succ, List.set_cons_zero]
    refine wpAnyH_take (i := 19) (v := .slice Ar re.length cr) rfl (by kernel_rfl) (by kernel_rfl) (by kernel_rfl) (fun _ _ _ h => h) (Or.inl ⟨by kernel_rfl, ?qS22⟩) (by assumption) ?rqS22
    case qS22 => (intro w hSw; (try dsimp only at hSw); go_simp)
    try simp only [Act.put, List.setIfInBounds_toArray, List.getElem_toArray, List.getElem_cons_succ, List.getElem_cons_zero, List.set_cons_succ, List.set_cons_zero]
    refine wpAnyH_take (i := 20) (v := .pointer (some ⟨w.heap.size, 1, none⟩)) rfl (by kernel_rfl) (by kernel_rfl) (by kernel_rfl) (fun _ _ _ h => h) (Or.inl ⟨by kernel_rfl, ?qS23⟩) (by assumption) ?rqS23
    case qS23 => (intro w hSw; (try dsimp only at hSw); go_simp)
    try simp only [Act.put, List.setIfInBounds_toArray, List.getElem_toArray, List.getElem_cons_succ, List.getElem_cons_zero, List.set_cons_succ, List.set_cons_zero]
    refine wpAnyH_take (i := 21) (v := .int .i64 cc) rfl (by kernel_rfl) (by kernel_rfl) (by kernel_rfl) (fun _ _ _ h => h) (Or.inl ⟨by kernel_rfl, ?qS24⟩) (by assumption) ?rqS24
    case qS24 => (intro w hSw; (try dsimp only at hSw); go_simp)
    try simp only [Act.put, List.setIfInBounds_toArray, List.getElem_toArray, List.getElem_cons_succ, List.getElem_cons_zero, List.set_cons_succ, List.set_cons_zero]
    refine wpAnyH_ready (rs := [22]) (by kernel_rfl) (by simp) ?_
    refine AllReadyH.cons rfl (fun K hK => ?nS25) (AllReadyH.nil)
    go_simp
    go_at_call 19
    with_reducible refine (HC2.out WS hq).mono ?_
    rintro e w9 ⟨rfl, hwS26⟩
    subst hwS26
    try go_wp2_with fail
    refine hK.out _ _ ?_ (fun hSS27 => ?_)
    · exact HKS.out _ (hq)
    clear hK K
    try simp only [Act.put, List.setIfInBounds_toArray, List.getElem_toArray, List.getElem_cons_succ, List.getElem_cons_zero, List.set_cons_succ, List.set_cons_zero]
    refine wpAnyH_take (i := 23) (v := .bool false) rfl (by kernel_rfl) (by kernel_rfl) (by kernel_rfl) (fun _ _ _ h => h) (Or.inl ⟨by kernel_rfl, ?qS28⟩) (by assumption) ?rqS28
    case qS28 => (intro w hSw; (try dsimp only at hSw); go_simp)
    try simp only [Act.put, List.setIfInBounds_toArray, List.getElem_toArray, List.getElem_cons_succ, List.getElem_cons_zero, List.set_cons_succ, List.set_cons_zero]
    refine wpAnyH_take (i := 24) (v := .bool false) rfl (by kernel_rfl) (by kernel_rfl) (by kernel_rfl) (fun _ _ _ h => h) (Or.inl ⟨by kernel_rfl, ?qS29⟩) (by assumption) ?rqS29
    case qS29 => (intro w hSw; (try dsimp only at hSw); go_simp)
    try simp only [Act.put, List.setIfInBounds_toArray, List.getElem_toArray, List.getElem_cons_succ, List.getElem_cons_zero, List.set_cons_succ, List.set_cons_zero]
    refine wpAnyH_take (i := 25) (v := .bool false) rfl (by kernel_rfl) (by kernel_rfl) (by kernel_rfl) (fun _ _ _ h => h) (Or.inl ⟨by kernel_rfl, ?qS30⟩) (by assumption) ?rqS30
    case qS30 => (intro w hSw; (try dsimp only at hSw); go_simp)
    try simp only [Act.put, List.setIfInBounds_toArray, List.getElem_toArray, List.getElem_cons_succ, List.getElem_cons_zero, List.set_cons_succ, List.set_cons_zero]
    refine wpAnyH_done (by kernel_rfl) ?_ _
    refine NoPanic.normal ?_
    obtain ⟨p0', c0', c2'⟩ := HP0.out WS hq
    obtain ⟨_, _, c1'⟩ := HKS.out WS hq
    have HFW := Lib.hid (HW2.out.trans (hq.mono HW2.out.size))
    clear HC1 HC2 HKS HP0 HW2 hq
    go_wp2_with fail
    go_ret
    exact ⟨rfl, HFW.out⟩
  · have HV := Lib.hid (show ∃ h : Mq.find (L.map (·.1)) cc < (L.map (·.1)).length, (List.map (fun (y : Mq.E × Value) => y.1) L)[Mq.find (L.map (·.1)) cc].c = cc from ⟨hf, hcv⟩)
    have HT := Lib.hid (show ∀ j (h : j < L.length), Mq.find (L.map (·.1)) cc = j → L[j].1.t = true from fun j h e => by
      subst e
      simpa using htv)
    clear hf hcv htv
    rcases hk with rfl | rfl
    all_goals
      go_enter Try.func14, Try.ntmps14
      go_wp2_with fail
      go_at_call 25
      with_reducible refine HFI.out.mono ?_
      rintro e w2 ⟨⟨r, rfl, hr⟩, hb2⟩
      obtain ⟨hq2, b2, hw2⟩ := HQ.out w2 hb2
      obtain ⟨j, hj, rfl, hjc, hfj⟩ := fi_val hr HV.out
      have htj := HT.out j hj hfj
      have c0 := (b2.cell 0).trans rfl
      have c1 := (b2.cell 1).trans rfl
      have c2 := (b2.cell 2).trans rfl
      have hjI : (j : Int) < L.length := by omega
      have hj0 : ¬ (j : Int) < 0 := by omega
      obtain ⟨g, c, rfl, hg, hBg, hgq, d0, d1, d2, d3, d4, d5, df⟩ := hq2.row j hj
      rw [htj] at d2
      have p0 : w2.cell? ⟨gQ, 0, none⟩ = some (.slice (some ⟨g, 0, none⟩) L.length c) := (hq2.q.cell 0).trans rfl
      clear hr HQ HFI hb2 df HV HT hq2 hjc hfj htj d0 d1 d3 d4 d5 b2
      go_wp2_with fail
      go_quiet (fail)
      go_wp2_with fail
      go_ret
      exact ⟨rfl, below_drewN hw2 _⟩
end Go.Proofs.Ytinebbleilnejaa
