/-
  TopTreeEditsAreTextEdits: the law's walk.
-/
import Derived.Test.YtjfckjonfpkphaaDoorTq13
namespace Go.Proofs.YtjfckjonfpkphaaDoor
open Go.RowKit Go.V Go.Shelf
set_option linter.unusedVariables false

set_option maxRecDepth 100000 in
set_option maxHeartbeats 16000000 in
theorem law_any (w : World) (hm : Mx w) (A : Option Addr) (c : Nat) (t : List Tr.F) (hv : VfV w Free A t) (hl : t.length ≤ 9223372036854775807) (hc : t.length ≤ c) (i : Int)
    (P : Option Addr) (k : Nat) (l : List Tp.H) (hh : HvV w Free P l) (hll : l.length ≤ 9223372036854775807) (hk : l.length ≤ k) :
    Calls Tryd.prog 3 #[.agg #[.slice A t.length c], .int .i64 i, .agg #[.slice P l.length k]] w fun e w' => e = .returned (.bool true) ∧ Below w.heap.size w w' := by
  have HVAL := Lib.hid (fun (w1 : World) (hb : Below w.heap.size w w1) => tvalidate_any w1 (hm.below hb) A c t (hv.keep (free_below hb)) hl hc)
  have HW := Lib.hid (fun (w1 : World) (hb : Below w.heap.size w w1) => works_any w1 (hm.below hb))
  have HV := Lib.hid (fun (w1 : World) (hb : Below w.heap.size w w1) => hv.keep (free_below hb))
  have HM := Lib.hid (fun (w1 : World) (hb : Below w.heap.size w w1) => hm.below hb)
  have HH := Lib.hid (fun (w1 : World) (hb : Below w.heap.size w w1) => hh.keep (free_below hb))
  have HZ := Lib.hid (fun (h : (Tr.vlF t).1 = 0) => Tr.vlF_ok h)
  have b1 : Blk ((w.alloc (.cells #[.slice A t.length c] 24)).alloc (.cells #[.slice P l.length k] 27)) w.heap.size 24 #[.slice A t.length c] := (Blk.new _ _ _).alloc _
  have b2 := blk_new1 w (.cells #[.slice A t.length c] 24) 27 #[.slice P l.length k]
  have hb0 := below_alloc2 w (.cells #[.slice A t.length c] 24) (.cells #[.slice P l.length k] 27)
  have hfld : ∀ (x y : Value) W, (Instr.field 29 (.agg #[x, y]) 0).run Tryd.prog W = .ok x W := fun _ _ _ => by kernel_rfl
  clear hv hm hh
  go_enter Tryd.func3, Tryd.ntmps3
  go_wp2_with fail
  go_at_call 4
  with_reducible refine (HVAL.out _ hb0).mono ?_
  rintro e w1 ⟨rfl, hb1⟩
  replace b1 := b1.below hb1 b1.lt
  replace b2 := b2.below hb1 b2.lt
  replace hb1 := hb0.trans (hb1.mono hb0.size)
  clear HVAL hb0
  have p1 := (b1.cell 0).trans rfl
  have p2 := (b2.cell 0).trans rfl
  have l1 := b1.lt
  have l2 := b2.lt
  have HW1 := Lib.hid (HW.out _ hb1)
  by_cases hbad : (Tr.vlF t).1 ≠ 0
  · have hx1 : ((Tr.vlF t).1 == 0) = false := by simpa using hbad
    have hx2 : ((Tr.vlF t).1 != 0) = true := by simpa using hbad
    clear hbad HZ HV HH HM HW
    generalize Tr.vlF t = v at *
    obtain ⟨cd, ix⟩ := v
    simp only at *
    go_wp2_with fail
    go_at_call 5
    with_reducible refine HW1.out.mono ?_
    rintro e w2 ⟨rfl, hb2⟩
    go_wp2_with fail
    go_ret
    exact ⟨rfl, hb1.trans (hb2.mono hb1.size)⟩
  have hz := Classical.not_not.1 hbad
  obtain ⟨hz2, vok⟩ := HZ.out hz
  rw [hz2]
  by_cases hi : i < 0
  · have hd : decide (i < 0) = true := decide_eq_true hi
    clear hbad HZ HV HH HM HW hz hz2 vok
    go_wp2_with fail
    go_at_call 5
    with_reducible refine HW1.out.mono ?_
    rintro e w2 ⟨rfl, hb2⟩
    go_wp2_with fail
    go_ret
    exact ⟨rfl, hb1.trans (hb2.mono hb1.size)⟩
  obtain ⟨m, rfl⟩ := Int.eq_ofNat_of_zero_le (Int.not_lt.1 hi)
  have hi' : ¬ (m : Int) < 0 := hi
  have hd : decide ((m : Int) < 0) = false := decide_eq_false hi
  by_cases hm : t.length ≤ m
  · have hm' : (t.length : Int) ≤ m := by omega
    have hd2 : decide ((t.length : Int) ≤ m) = true := decide_eq_true hm'
    have hd3 : decide (t.length ≤ m) = true := decide_eq_true hm
    clear hbad HZ HV HH HM HW hz hz2 vok
    go_wp2_with fail
    go_at_call 5
    with_reducible refine HW1.out.mono ?_
    rintro e w2 ⟨rfl, hb2⟩
    go_wp2_with fail
    go_ret
    exact ⟨rfl, hb1.trans (hb2.mono hb1.size)⟩
  have hm' : ¬ (t.length : Int) ≤ m := by omega
  have hd2 : decide ((t.length : Int) ≤ m) = false := decide_eq_false hm'
  have hd3 : decide (t.length ≤ m) = false := decide_eq_false hm
  have hlt : m < t.length := by omega
  have hlt' : (m : Int) < t.length := by omega
  by_cases hn : l.length = 0
  · have hd4 : ((l.length : Int) == 0) = true := beq_iff_eq.2 (by omega)
    have hd5 : (l.length == 0) = true := beq_iff_eq.2 hn
    clear hbad HZ HV HH HM HW hz hz2 vok
    go_wp2_with fail
    go_at_call 5
    with_reducible refine HW1.out.mono ?_
    rintro e w2 ⟨rfl, hb2⟩
    go_wp2_with fail
    go_ret
    exact ⟨rfl, hb1.trans (hb2.mono hb1.size)⟩
  have hd4 : ((l.length : Int) == 0) = false := beq_eq_false_iff_ne.2 (by omega)
  have hd5 : (l.length == 0) = false := beq_eq_false_iff_ne.2 hn
  clear HW1
  have HLO := Lib.hid (vok.lines m hlt)
  obtain ⟨bb, off, Al, kl, eA, hbb, _, d0, d1, hla⟩ := (HV.out _ hb1).row m hlt
  subst eA
  have HAP := Lib.hid (fun (w2 : World) (hb : Below w1.heap.size w1 w2) => apply_any w2 P k l (HH.out _ (hb1.trans (hb.mono hb1.size))) hll hk Al kl (Tr.it t m).lines (hla.ls.keep (free_below hb)) HLO.out hla.lk)
  have HTA := Lib.hid (fun (w2 : World) (hb : Below w.heap.size w w2) (cb : Nat) (hB : Blk w2 cb 58 (chC (Tr.it t m).path P l.length k)) => (tapply_any w2 (HM.out _ hb) (Tr.it t m).path P k l (HH.out _ hb) (by omega) hll hk cb hB (some ⟨bb, off, none⟩) c t (HV.out _ hb) hc hz m hlt rfl).mono fun e w' h => h.may)
  have HED := Lib.hid (fun (w2 : World) => edit_any w2 (Tr.it t m).path P l.length k)
  have HIT := Lib.hid (fun (kk : Nat) (h : kk < t.length) => it_ed t m (Tp.apF l (Tr.it t m).lines).1 kk h)
  have HEL := Lib.hid (ed_len t m (Tp.apF l (Tr.it t m).lines).1)
  have hla2 := hla.lk
  have HQZ := Lib.hid (Tp.apF_zero (l := l) (t := (Tr.it t m).lines))
  clear HLO hla hbad HZ hz hz2 vok hi hi' hm hn HM
  generalize hfm : Tr.it t m = fm at *
  obtain ⟨fp, fl⟩ := fm
  simp only at *
  generalize Tp.apF l fl = q at *
  obtain ⟨q1, cd, ix⟩ := q
  simp only at *
  generalize hT' : ed t m q1 = t' at *
  have HFM := Lib.hid hfm
  clear hfm hT'
  go_wp2_with fail
  obtain ⟨wq, rfl⟩ : ∃ wq : World, wq = w1 := ⟨_, rfl⟩
  have HK := Lib.hid (fun (w6 : World) (h6 : Below wq.heap.size wq w6) => show w6.cell? ⟨w.heap.size, 0, none⟩ = some (.slice (some ⟨bb, off, none⟩) t.length c) ∧ w6.cell? ⟨w.heap.size + 1, 0, none⟩ = some (.slice P l.length k) ∧ w6.cell? ⟨bb, off + m * 2 + 1, none⟩ = some (.slice Al fl.length kl) from
    ⟨(h6.cell (p := ⟨_, _, none⟩) l1).trans p1, (h6.cell (p := ⟨_, _, none⟩) l2).trans p2, (h6.cell (p := ⟨_, _, none⟩) hbb).trans d1⟩)
  go_cut [7, 8] (fun sv pv wx => OneOut wq (q1, (cd, ix)) sv pv wx)
  case first =>
    refine wp_region_noPanic ?_
    refine wp_region_held_drew (S := (fun w6 : World => w6.cell? ⟨w.heap.size, 0, none⟩ = some (.slice (some ⟨bb, off, none⟩) t.length c) ∧ w6.cell? ⟨w.heap.size + 1, 0, none⟩ = some (.slice P l.length k) ∧ w6.cell? ⟨bb, off + m * 2 + 1, none⟩ = some (.slice Al fl.length kl))) (by kernel_rfl) ?_ (fun hSR => ?_)
    · exact HK.out _ (below_drew' (Below.refl _ _))
    have hq : Below wq.heap.size wq wq.drew := below_drew' (Below.refl _ _)
    have hszb : wq.heap.size ≤ wq.drew.heap.size := Nat.le_refl _
    generalize hWg : wq.drew = WR at *
    clear hWg
    refine wpAnyH_take (i := 0) (v := .agg #[.slice P l.length k]) rfl (by kernel_rfl) (by kernel_rfl) (by kernel_rfl) (fun _ _ _ h => h) (Or.inl ⟨by kernel_rfl, ?qR1⟩) (by assumption) ?rqR1
    case qR1 => (intro w hSw; (try dsimp only at hSw); go_simp)
    try simp only [Act.put, List.setIfInBounds_toArray]
    refine wpAnyH_take (i := 1) (v := .pointer (some ⟨w.heap.size, 0, none⟩)) rfl (by kernel_rfl) (by kernel_rfl) (by kernel_rfl) (fun _ _ _ h => h) (Or.inl ⟨by kernel_rfl, ?qR2⟩) (by assumption) ?rqR2
    case qR2 => (intro w hSw; (try dsimp only at hSw); go_simp)
    try simp only [Act.put, List.setIfInBounds_toArray]
    refine wpAnyH_take (i := 2) (v := .slice (some ⟨bb, off, none⟩) t.length c) rfl (by kernel_rfl) (by kernel_rfl) (by kernel_rfl) (fun _ _ _ h => h) (Or.inl ⟨by kernel_rfl, ?qR3⟩) (by assumption) ?rqR3
    case qR3 => (intro w hSw; (try dsimp only at hSw); go_simp)
    try simp only [Act.put, List.setIfInBounds_toArray]
    refine wpAnyH_take (i := 3) (v := .int .i64 (m : Int)) rfl (by kernel_rfl) (by kernel_rfl) (by kernel_rfl) (fun _ _ _ h => h) (Or.inl ⟨by kernel_rfl, ?qR4⟩) (by assumption) ?rqR4
    case qR4 => (intro w hSw; (try dsimp only at hSw); go_simp)
    try simp only [Act.put, List.setIfInBounds_toArray]
    refine wpAnyH_take (i := 4) (v := .pointer (some ⟨bb, off + m * 2, none⟩)) rfl (by kernel_rfl) (by kernel_rfl) (by kernel_rfl) (fun _ _ _ h => h) (Or.inl ⟨by kernel_rfl, ?qR5⟩) (by assumption) ?rqR5
    case qR5 => (intro w hSw; (try dsimp only at hSw); go_simp)
    try simp only [Act.put, List.setIfInBounds_toArray]
    refine wpAnyH_take (i := 5) (v := .pointer (some ⟨bb, off + m * 2 + 1, none⟩)) rfl (by kernel_rfl) (by kernel_rfl) (by kernel_rfl) (fun _ _ _ h => h) (Or.inl ⟨by kernel_rfl, ?qR6⟩) (by assumption) ?rqR6
    case qR6 => (intro w hSw; (try dsimp only at hSw); go_simp)
    try simp only [Act.put, List.setIfInBounds_toArray]
    refine wpAnyH_take (i := 6) (v := .slice Al fl.length kl) rfl (by kernel_rfl) (by kernel_rfl) (by kernel_rfl) (fun _ _ _ h => h) (Or.inl ⟨by kernel_rfl, ?qR7⟩) (by assumption) ?rqR7
    case qR7 => (intro w hSw; (try dsimp only at hSw); go_simp)
    try simp only [Act.put, List.setIfInBounds_toArray]
    refine wpAnyH_ready (rs := [7, 11]) (by kernel_rfl) (by simp) ?_
    refine AllReadyH.cons rfl (fun K hK => ?nR8) (AllReadyH.cons rfl (fun K hK => ?nR9) (AllReadyH.nil))
    case nR8 =>
      go_simp
      go_at_call 6
      with_reducible refine (HAP.out _ hq).mono ?_
      rintro e WR10 ⟨Ar, cr, rfl, hcr, hsr, hb9⟩
      try go_wp2_with fail
      refine hK.out _ _ ?_ (fun hSR11 => ?_)
      · exact HK.out _ (hq.trans (hb9.mono hq.size))
      clear hK K
      try simp only [Act.put, List.setIfInBounds_toArray]
      replace hq := hq.trans (hb9.mono hq.size)
      have zR12 : WR.heap.size ≤ WR10.heap.size := hb9.size
      clear hb9
      refine wpAnyH_take (i := 8) (v := .tuple #[.slice Ar q1.length cr, .agg #[.int .i64 cd, .int .i64 ix]]) rfl (by kernel_rfl) (by kernel_rfl) (by kernel_rfl) (fun _ _ _ h => h) (Or.inl ⟨by kernel_rfl, ?qR13⟩) (by assumption) ?rqR13
      case qR13 => (intro w hSw; (try dsimp only at hSw); go_simp)
      try simp only [Act.put, List.setIfInBounds_toArray]
      refine wpAnyH_take (i := 9) (v := .slice Ar q1.length cr) rfl (by kernel_rfl) (by kernel_rfl) (by kernel_rfl) (fun _ _ _ h => h) (Or.inl ⟨by kernel_rfl, ?qR14⟩) (by assumption) ?rqR14
      case qR14 => (intro w hSw; (try dsimp only at hSw); go_simp)
      try simp only [Act.put, List.setIfInBounds_toArray]
      refine wpAnyH_take (i := 10) (v := .agg #[.int .i64 cd, .int .i64 ix]) rfl (by kernel_rfl) (by kernel_rfl) (by kernel_rfl) (fun _ _ _ h => h) (Or.inl ⟨by kernel_rfl, ?qR15⟩) (by assumption) ?rqR15
      case qR15 => (intro w hSw; (try dsimp only at hSw); go_simp)
      try simp only [Act.put, List.setIfInBounds_toArray]
      refine wpAnyH_ready (rs := [11]) (by kernel_rfl) (by simp) ?_
      refine AllReadyH.cons rfl (fun K hK => ?nR16) (AllReadyH.nil)
      go_simp
      refine hK.out _ _ ?_ (fun hSR18 => ?_)
      · exact HK.out _ (hq.alloc hq.size (.cells #[.int .i64 0, .int .i64 0] 29))
      clear hK K
      try simp only [Act.put, List.setIfInBounds_toArray]
      have g0_bF := hq.size
      replace hq := hq.alloc hq.size (.cells #[.int .i64 0, .int .i64 0] 29)
      have bF := Blk.new WR10 29 #[.int .i64 0, .int .i64 0]
      replace hsr := hsr.keep (Keeps.alloc WR10 _ (.cells #[.int .i64 0, .int .i64 0] 29))
      generalize WR10.alloc (.cells #[.int .i64 0, .int .i64 0] 29) = WR17 at *
      refine wpAnyH_take (i := 12) (v := .slice Ar q1.length cr) rfl (by kernel_rfl) (by kernel_rfl) (by kernel_rfl) (fun _ _ _ h => h) (Or.inl ⟨by kernel_rfl, ?qR19⟩) (by assumption) ?rqR19
      case qR19 => (intro w hSw; (try dsimp only at hSw); go_simp)
      try simp only [Act.put, List.setIfInBounds_toArray]
      refine wpAnyH_ready (rs := [13]) (by kernel_rfl) (by simp) ?_
      refine AllReadyH.cons rfl (fun K hK => ?nR20) (AllReadyH.nil)
      have bFl := bF.lt
      have bFf0 := bF.frozen 0
      have bFc0 := (bF.cell 0).trans rfl
      have bFf1 := bF.frozen 1
      have bFc1 := (bF.cell 1).trans rfl
      go_simp
      refine hK.out _ _ ?_ (fun hSR21 => ?_)
      · exact HK.out _ ((hq.setCell g0_bF _).setCell g0_bF _)
      clear hK K
      try simp only [Act.put, List.setIfInBounds_toArray]
      refine wpAnyH_done (by kernel_rfl) ?_ _
      refine NoPanic.normal ?_
      try go_wp2_with fail
      go_meet
      exact OneOut.mk_ hq hsr bF g0_bF
    case nR9 =>
      go_simp
      refine hK.out _ _ ?_ (fun hSR23 => ?_)
      · exact HK.out _ (hq.alloc hq.size (.cells #[.int .i64 0, .int .i64 0] 29))
      clear hK K
      try simp only [Act.put, List.setIfInBounds_toArray]
      have g0_bF := hq.size
      replace hq := hq.alloc hq.size (.cells #[.int .i64 0, .int .i64 0] 29)
      have bF := Blk.new WR 29 #[.int .i64 0, .int .i64 0]
      generalize WR.alloc (.cells #[.int .i64 0, .int .i64 0] 29) = WR22 at *
      refine wpAnyH_ready (rs := [7]) (by kernel_rfl) (by simp) ?_
      refine AllReadyH.cons rfl (fun K hK => ?nR24) (AllReadyH.nil)
      go_simp
      go_at_call 6
      with_reducible refine (HAP.out _ hq).mono ?_
      rintro e WR25 ⟨Ar, cr, rfl, hcr, hsr, hb9⟩
      try go_wp2_with fail
      refine hK.out _ _ ?_ (fun hSR26 => ?_)
      · exact HK.out _ (hq.trans (hb9.mono hq.size))
      clear hK K
      try simp only [Act.put, List.setIfInBounds_toArray]
      replace hq := hq.trans (hb9.mono hq.size)
      have zR27 : WR22.heap.size ≤ WR25.heap.size := hb9.size
      replace bF := bF.below hb9 bF.lt
      clear hb9
      refine wpAnyH_take (i := 8) (v := .tuple #[.slice Ar q1.length cr, .agg #[.int .i64 cd, .int .i64 ix]]) rfl (by kernel_rfl) (by kernel_rfl) (by kernel_rfl) (fun _ _ _ h => h) (Or.inl ⟨by kernel_rfl, ?qR28⟩) (by assumption) ?rqR28
      case qR28 => (intro w hSw; (try dsimp only at hSw); go_simp)
      try simp only [Act.put, List.setIfInBounds_toArray]
      refine wpAnyH_take (i := 9) (v := .slice Ar q1.length cr) rfl (by kernel_rfl) (by kernel_rfl) (by kernel_rfl) (fun _ _ _ h => h) (Or.inl ⟨by kernel_rfl, ?qR29⟩) (by assumption) ?rqR29
      case qR29 => (intro w hSw; (try dsimp only at hSw); go_simp)
      try simp only [Act.put, List.setIfInBounds_toArray]
      refine wpAnyH_take (i := 10) (v := .agg #[.int .i64 cd, .int .i64 ix]) rfl (by kernel_rfl) (by kernel_rfl) (by kernel_rfl) (fun _ _ _ h => h) (Or.inl ⟨by kernel_rfl, ?qR30⟩) (by assumption) ?rqR30
      case qR30 => (intro w hSw; (try dsimp only at hSw); go_simp)
      try simp only [Act.put, List.setIfInBounds_toArray]
      refine wpAnyH_take (i := 12) (v := .slice Ar q1.length cr) rfl (by kernel_rfl) (by kernel_rfl) (by kernel_rfl) (fun _ _ _ h => h) (Or.inl ⟨by kernel_rfl, ?qR31⟩) (by assumption) ?rqR31
      case qR31 => (intro w hSw; (try dsimp only at hSw); go_simp)
      try simp only [Act.put, List.setIfInBounds_toArray]
      refine wpAnyH_ready (rs := [13]) (by kernel_rfl) (by simp) ?_
      refine AllReadyH.cons rfl (fun K hK => ?nR32) (AllReadyH.nil)
      have bFl := bF.lt
      have bFf0 := bF.frozen 0
      have bFc0 := (bF.cell 0).trans rfl
      have bFf1 := bF.frozen 1
      have bFc1 := (bF.cell 1).trans rfl
      go_simp
      refine hK.out _ _ ?_ (fun hSR33 => ?_)
      · exact HK.out _ ((hq.setCell g0_bF _).setCell g0_bF _)
      clear hK K
      try simp only [Act.put, List.setIfInBounds_toArray]
      refine wpAnyH_done (by kernel_rfl) ?_ _
      refine NoPanic.normal ?_
      try go_wp2_with fail
      go_meet
      exact OneOut.mk_ hq hsr bF g0_bF
  case rest =>
    obtain ⟨g8, Ar, cr, rfl, rfl, b8, hsr, hbx⟩ := hcut
    obtain ⟨wz, rfl⟩ : ∃ wz : World, wz = wc := ⟨_, rfl⟩
    have hbz := hb1.trans (hbx.mono hb1.size)
    have l1z := Nat.lt_of_lt_of_le l1 hbx.size
    have l2z := Nat.lt_of_lt_of_le l2 hbx.size
    have lbz := Nat.lt_of_lt_of_le hbb hbx.size
    have p1z := (hbx.cell (p := ⟨w.heap.size, 0, none⟩) l1).trans p1
    have p2z := (hbx.cell (p := ⟨w.heap.size + 1, 0, none⟩) l2).trans p2
    have d0z := (hbx.cell (p := ⟨bb, off + m * 2, none⟩) hbb).trans d0
    clear HK HAP p1 p2 d0 d1 l1 l2 hbb b1 b2 hb1 hbx
    go_wp2_with fail
    have HK := Lib.hid (fun (w6 : World) (h6 : Below wz.heap.size wz w6) => show w6.cell? ⟨w.heap.size, 0, none⟩ = some (.slice (some ⟨bb, off, none⟩) t.length c) ∧ w6.cell? ⟨w.heap.size + 1, 0, none⟩ = some (.slice P l.length k) ∧ w6.cell? ⟨bb, off + m * 2, none⟩ = some (strV fp) from
      ⟨(h6.cell (p := ⟨_, _, none⟩) l1z).trans p1z, (h6.cell (p := ⟨_, _, none⟩) l2z).trans p2z, (h6.cell (p := ⟨_, _, none⟩) lbz).trans d0z⟩)
    have HTZ := Lib.hid (fun (w2 : World) (hb : Below wz.heap.size wz w2) cb hB => HTA.out w2 (hbz.trans (hb.mono hbz.size)) cb hB)
    go_cut [9, 10] (fun pv pw wx => TwoOut wz t' cd pv pw wx)
    case first =>
      refine wp_region_noPanic ?_
      refine wp_region_held_drew (S := (fun w6 : World => w6.cell? ⟨w.heap.size, 0, none⟩ = some (.slice (some ⟨bb, off, none⟩) t.length c) ∧ w6.cell? ⟨w.heap.size + 1, 0, none⟩ = some (.slice P l.length k) ∧ w6.cell? ⟨bb, off + m * 2, none⟩ = some (strV fp))) (by kernel_rfl) ?_ (fun hSZ => ?_)
      · exact HK.out _ (below_drew' (Below.refl _ _))
      have hq : Below wz.heap.size wz wz.drew := below_drew' (Below.refl _ _)
      have hszb : wz.heap.size ≤ wz.drew.heap.size := Nat.le_refl _
      generalize hWg : wz.drew = WZ at *
      clear hWg
      refine wpAnyH_take (i := 0) (v := .pointer (some ⟨w.heap.size, 0, none⟩)) rfl (by kernel_rfl) (by kernel_rfl) (by kernel_rfl) (fun _ _ _ h => h) (Or.inl ⟨by kernel_rfl, ?qZ1⟩) (by assumption) ?rqZ1
      case qZ1 => (intro w hSw; (try dsimp only at hSw); go_simp)
      try simp only [Act.put, List.setIfInBounds_toArray]
      refine wpAnyH_take (i := 1) (v := .slice (some ⟨bb, off, none⟩) t.length c) rfl (by kernel_rfl) (by kernel_rfl) (by kernel_rfl) (fun _ _ _ h => h) (Or.inl ⟨by kernel_rfl, ?qZ2⟩) (by assumption) ?rqZ2
      case qZ2 => (intro w hSw; (try dsimp only at hSw); go_simp)
      try simp only [Act.put, List.setIfInBounds_toArray]
      refine wpAnyH_take (i := 2) (v := .int .i64 (m : Int)) rfl (by kernel_rfl) (by kernel_rfl) (by kernel_rfl) (fun _ _ _ h => h) (Or.inl ⟨by kernel_rfl, ?qZ3⟩) (by assumption) ?rqZ3
      case qZ3 => (intro w hSw; (try dsimp only at hSw); go_simp)
      try simp only [Act.put, List.setIfInBounds_toArray]
      refine wpAnyH_take (i := 3) (v := .pointer (some ⟨bb, off + m * 2, none⟩)) rfl (by kernel_rfl) (by kernel_rfl) (by kernel_rfl) (fun _ _ _ h => h) (Or.inl ⟨by kernel_rfl, ?qZ4⟩) (by assumption) ?rqZ4
      case qZ4 => (intro w hSw; (try dsimp only at hSw); go_simp)
      try simp only [Act.put, List.setIfInBounds_toArray]
      refine wpAnyH_take (i := 4) (v := .pointer (some ⟨bb, off + m * 2, none⟩)) rfl (by kernel_rfl) (by kernel_rfl) (by kernel_rfl) (fun _ _ _ h => h) (Or.inl ⟨by kernel_rfl, ?qZ5⟩) (by assumption) ?rqZ5
      case qZ5 => (intro w hSw; (try dsimp only at hSw); go_simp)
      try simp only [Act.put, List.setIfInBounds_toArray]
      refine wpAnyH_take (i := 5) (v := strV fp) rfl (by kernel_rfl) (by kernel_rfl) (by kernel_rfl) (fun _ _ _ h => h) (Or.inl ⟨by kernel_rfl, ?qZ6⟩) (by assumption) ?rqZ6
      case qZ6 => (intro w hSw; (try dsimp only at hSw); go_simp)
      try simp only [Act.put, List.setIfInBounds_toArray]
      refine wpAnyH_take (i := 6) (v := .agg #[.slice P l.length k]) rfl (by kernel_rfl) (by kernel_rfl) (by kernel_rfl) (fun _ _ _ h => h) (Or.inl ⟨by kernel_rfl, ?qZ7⟩) (by assumption) ?rqZ7
      case qZ7 => (intro w hSw; (try dsimp only at hSw); go_simp)
      try simp only [Act.put, List.setIfInBounds_toArray]
      refine wpAnyH_take (i := 8) (v := .agg #[.slice (some ⟨bb, off, none⟩) t.length c]) rfl (by kernel_rfl) (by kernel_rfl) (by kernel_rfl) (fun _ _ _ h => h) (Or.inl ⟨by kernel_rfl, ?qZ8⟩) (by assumption) ?rqZ8
      case qZ8 => (intro w hSw; (try dsimp only at hSw); go_simp)
      try simp only [Act.put, List.setIfInBounds_toArray]
      refine wpAnyH_ready (rs := [7, 13, 14]) (by kernel_rfl) (by simp) ?_
      refine AllReadyH.cons rfl (fun K hK => ?nZ9) (AllReadyH.cons rfl (fun K hK => ?nZ10) (AllReadyH.cons rfl (fun K hK => ?nZ11) (AllReadyH.nil)))
      case nZ9 =>
        go_simp
        go_at_call 8
        with_reducible refine (HED.out _).mono ?_
        rintro e WZ12 ⟨cb, rfl, bc, hb9⟩
        try go_wp2_with fail
        refine hK.out _ _ ?_ (fun hSZ13 => ?_)
        · exact HK.out _ (hq.trans (hb9.mono hq.size))
        clear hK K
        try simp only [Act.put, List.setIfInBounds_toArray]
        replace hq := hq.trans (hb9.mono hq.size)
        have zZ14 : WZ.heap.size ≤ WZ12.heap.size := hb9.size
        clear hb9
        refine wpAnyH_ready (rs := [9, 13, 14]) (by kernel_rfl) (by simp) ?_
        refine AllReadyH.cons rfl (fun K hK => ?nZ15) (AllReadyH.cons rfl (fun K hK => ?nZ16) (AllReadyH.cons rfl (fun K hK => ?nZ17) (AllReadyH.nil)))
        case nZ15 =>
          go_simp
          go_at_call 7
          with_reducible refine (HTZ.out _ hq cb bc).mono ?_
          rintro e WZ18 ⟨Au, nu, cu, iu, rfl, hmv, hb9⟩
          try go_wp2_with fail
          refine hK.out _ _ ?_ (fun hSZ19 => ?_)
          · exact HK.out _ (hq.trans (hb9.mono hq.size))
          clear hK K
          try simp only [Act.put, List.setIfInBounds_toArray]
          replace hq := hq.trans (hb9.mono hq.size)
          have zZ20 : WZ12.heap.size ≤ WZ18.heap.size := hb9.size
          replace bc := bc.below hb9 bc.lt
          clear hb9
          clear bc
          refine wpAnyH_take (i := 10) (v := .tuple #[.agg #[.slice Au nu cu], .agg #[.int .i64 cd, .int .i64 iu]]) rfl (by kernel_rfl) (by kernel_rfl) (by kernel_rfl) (fun _ _ _ h => h) (Or.inl ⟨by kernel_rfl, ?qZ21⟩) (by assumption) ?rqZ21
          case qZ21 => (intro w hSw; (try dsimp only at hSw); go_simp)
          try simp only [Act.put, List.setIfInBounds_toArray]
          refine wpAnyH_take (i := 11) (v := .agg #[.slice Au nu cu]) rfl (by kernel_rfl) (by kernel_rfl) (by kernel_rfl) (fun _ _ _ h => h) (Or.inl ⟨by kernel_rfl, ?qZ22⟩) (by assumption) ?rqZ22
          case qZ22 => (intro w hSw; (try dsimp only at hSw); go_simp)
          try simp only [Act.put, List.setIfInBounds_toArray]
          refine wpAnyH_take (i := 12) (v := .agg #[.int .i64 cd, .int .i64 iu]) rfl (by kernel_rfl) (by kernel_rfl) (by kernel_rfl) (fun _ _ _ h => h) (Or.inl ⟨by kernel_rfl, ?qZ23⟩) (by assumption) ?rqZ23
          case qZ23 => (intro w hSw; (try dsimp only at hSw); go_simp)
          try simp only [Act.put, List.setIfInBounds_toArray]
          refine wpAnyH_ready (rs := [13, 14]) (by kernel_rfl) (by simp) ?_
          refine AllReadyH.cons rfl (fun K hK => ?nZ24) (AllReadyH.cons rfl (fun K hK => ?nZ25) (AllReadyH.nil))
          case nZ24 =>
            go_simp
            refine hK.out _ _ ?_ (fun hSZ27 => ?_)
            · exact HK.out _ (hq.alloc hq.size (.cells #[.slice none 0 0] 24))
            clear hK K
            try simp only [Act.put, List.setIfInBounds_toArray]
            have g0_bU := hq.size
            replace hq := hq.alloc hq.size (.cells #[.slice none 0 0] 24)
            have bU := Blk.new WZ18 24 #[.slice none 0 0]
            replace hmv := hmv.keep (Keeps.alloc WZ18 _ (.cells #[.slice none 0 0] 24))
            generalize WZ18.alloc (.cells #[.slice none 0 0] 24) = WZ26 at *
            refine wpAnyH_ready (rs := [14]) (by kernel_rfl) (by simp) ?_
            refine AllReadyH.cons rfl (fun K hK => ?nZ28) (AllReadyH.nil)
            go_simp
            refine hK.out _ _ ?_ (fun hSZ30 => ?_)
            · exact HK.out _ (hq.alloc hq.size (.cells #[.int .i64 0, .int .i64 0] 29))
            clear hK K
            try simp only [Act.put, List.setIfInBounds_toArray]
            have g0_bG := hq.size
            replace hq := hq.alloc hq.size (.cells #[.int .i64 0, .int .i64 0] 29)
            replace bU := bU.alloc (.cells #[.int .i64 0, .int .i64 0] 29)
            have bG := Blk.new WZ26 29 #[.int .i64 0, .int .i64 0]
            replace hmv := hmv.keep (Keeps.alloc WZ26 _ (.cells #[.int .i64 0, .int .i64 0] 29))
            generalize WZ26.alloc (.cells #[.int .i64 0, .int .i64 0] 29) = WZ29 at *
            refine wpAnyH_ready (rs := [15]) (by kernel_rfl) (by simp) ?_
            refine AllReadyH.cons rfl (fun K hK => ?nZ31) (AllReadyH.nil)
            have bUl := bU.lt
            have bUf0 := bU.frozen 0
            have bUc0 := (bU.cell 0).trans rfl
            have bGl := bG.lt
            have bGf0 := bG.frozen 0
            have bGc0 := (bG.cell 0).trans rfl
            have bGf1 := bG.frozen 1
            have bGc1 := (bG.cell 1).trans rfl
            go_simp
            refine hK.out _ _ ?_ (fun hSZ32 => ?_)
            · exact HK.out _ (hq.setCell g0_bU _)
            clear hK K
            try simp only [Act.put, List.setIfInBounds_toArray]
            refine wpAnyH_ready (rs := [16]) (by kernel_rfl) (by simp) ?_
            refine AllReadyH.cons rfl (fun K hK => ?nZ33) (AllReadyH.nil)
            have hne9 := Blk.ne_ bU bG (by decide)
            have hne8 := hne9.symm
            have bG2 := bG.far (p := ⟨WZ18.heap.size, 0, none⟩) hne8 (.slice Au nu cu)
            have bG2l := bG2.lt
            have bG2f0 := bG2.frozen 0
            have bG2c0 := (bG2.cell 0).trans rfl
            have bG2f1 := bG2.frozen 1
            have bG2c1 := (bG2.cell 1).trans rfl
            go_simp
            refine hK.out _ _ ?_ (fun hSZ34 => ?_)
            · exact HK.out _ (((hq.setCell g0_bU _).setCell g0_bG _).setCell g0_bG _)
            clear hK K
            try simp only [Act.put, List.setIfInBounds_toArray]
            refine wpAnyH_done (by kernel_rfl) ?_ _
            refine NoPanic.normal ?_
            try go_wp2_with fail
            go_meet
            exact TwoOut.mk_ hq hmv bU bG g0_bU g0_bG
          case nZ25 =>
            go_simp
            refine hK.out _ _ ?_ (fun hSZ36 => ?_)
            · exact HK.out _ (hq.alloc hq.size (.cells #[.int .i64 0, .int .i64 0] 29))
            clear hK K
            try simp only [Act.put, List.setIfInBounds_toArray]
            have g0_bG := hq.size
            replace hq := hq.alloc hq.size (.cells #[.int .i64 0, .int .i64 0] 29)
            have bG := Blk.new WZ18 29 #[.int .i64 0, .int .i64 0]
            replace hmv := hmv.keep (Keeps.alloc WZ18 _ (.cells #[.int .i64 0, .int .i64 0] 29))
            generalize WZ18.alloc (.cells #[.int .i64 0, .int .i64 0] 29) = WZ35 at *
            refine wpAnyH_ready (rs := [13]) (by kernel_rfl) (by simp) ?_
            refine AllReadyH.cons rfl (fun K hK => ?nZ37) (AllReadyH.nil)
            go_simp
            refine hK.out _ _ ?_ (fun hSZ39 => ?_)
            · exact HK.out _ (hq.alloc hq.size (.cells #[.slice none 0 0] 24))
            clear hK K
            try simp only [Act.put, List.setIfInBounds_toArray]
            have g0_bU := hq.size
            replace hq := hq.alloc hq.size (.cells #[.slice none 0 0] 24)
            replace bG := bG.alloc (.cells #[.slice none 0 0] 24)
            have bU := Blk.new WZ35 24 #[.slice none 0 0]
            replace hmv := hmv.keep (Keeps.alloc WZ35 _ (.cells #[.slice none 0 0] 24))
            generalize WZ35.alloc (.cells #[.slice none 0 0] 24) = WZ38 at *
            refine wpAnyH_ready (rs := [15]) (by kernel_rfl) (by simp) ?_
            refine AllReadyH.cons rfl (fun K hK => ?nZ40) (AllReadyH.nil)
            have bUl := bU.lt
            have bUf0 := bU.frozen 0
            have bUc0 := (bU.cell 0).trans rfl
            have bGl := bG.lt
            have bGf0 := bG.frozen 0
            have bGc0 := (bG.cell 0).trans rfl
            have bGf1 := bG.frozen 1
            have bGc1 := (bG.cell 1).trans rfl
            go_simp
            refine hK.out _ _ ?_ (fun hSZ41 => ?_)
            · exact HK.out _ (hq.setCell g0_bU _)
            clear hK K
            try simp only [Act.put, List.setIfInBounds_toArray]
            refine wpAnyH_ready (rs := [16]) (by kernel_rfl) (by simp) ?_
            refine AllReadyH.cons rfl (fun K hK => ?nZ42) (AllReadyH.nil)
            have hne9 := Blk.ne_ bU bG (by decide)
            have hne8 := hne9.symm
            have bG2 := bG.far (p := ⟨WZ35.heap.size, 0, none⟩) hne8 (.slice Au nu cu)
            have bG2l := bG2.lt
            have bG2f0 := bG2.frozen 0
            have bG2c0 := (bG2.cell 0).trans rfl
            have bG2f1 := bG2.frozen 1
            have bG2c1 := (bG2.cell 1).trans rfl
            go_simp
            refine hK.out _ _ ?_ (fun hSZ43 => ?_)
            · exact HK.out _ (((hq.setCell g0_bU _).setCell g0_bG _).setCell g0_bG _)
            clear hK K
            try simp only [Act.put, List.setIfInBounds_toArray]
            refine wpAnyH_done (by kernel_rfl) ?_ _
            refine NoPanic.normal ?_
            try go_wp2_with fail
            go_meet
            exact TwoOut.mk_ hq hmv bU bG g0_bU g0_bG
        case nZ16 =>
          go_simp
          refine hK.out _ _ ?_ (fun hSZ45 => ?_)
          · exact HK.out _ (hq.alloc hq.size (.cells #[.slice none 0 0] 24))
          clear hK K
          try simp only [Act.put, List.setIfInBounds_toArray]
          have g0_bU := hq.size
          replace hq := hq.alloc hq.size (.cells #[.slice none 0 0] 24)
          replace bc := bc.alloc (.cells #[.slice none 0 0] 24)
          have bU := Blk.new WZ12 24 #[.slice none 0 0]
          generalize WZ12.alloc (.cells #[.slice none 0 0] 24) = WZ44 at *
          refine wpAnyH_ready (rs := [9, 14]) (by kernel_rfl) (by simp) ?_
          refine AllReadyH.cons rfl (fun K hK => ?nZ46) (AllReadyH.cons rfl (fun K hK => ?nZ47) (AllReadyH.nil))
          case nZ46 =>
            go_simp
            go_at_call 7
            with_reducible refine (HTZ.out _ hq cb bc).mono ?_
            rintro e WZ48 ⟨Au, nu, cu, iu, rfl, hmv, hb9⟩
            try go_wp2_with fail
            refine hK.out _ _ ?_ (fun hSZ49 => ?_)
            · exact HK.out _ (hq.trans (hb9.mono hq.size))
            clear hK K
            try simp only [Act.put, List.setIfInBounds_toArray]
            replace hq := hq.trans (hb9.mono hq.size)
            have zZ50 : WZ44.heap.size ≤ WZ48.heap.size := hb9.size
            replace bc := bc.below hb9 bc.lt
            replace bU := bU.below hb9 bU.lt
            clear hb9
            clear bc
            refine wpAnyH_take (i := 10) (v := .tuple #[.agg #[.slice Au nu cu], .agg #[.int .i64 cd, .int .i64 iu]]) rfl (by kernel_rfl) (by kernel_rfl) (by kernel_rfl) (fun _ _ _ h => h) (Or.inl ⟨by kernel_rfl, ?qZ51⟩) (by assumption) ?rqZ51
            case qZ51 => (intro w hSw; (try dsimp only at hSw); go_simp)
            try simp only [Act.put, List.setIfInBounds_toArray]
            refine wpAnyH_take (i := 11) (v := .agg #[.slice Au nu cu]) rfl (by kernel_rfl) (by kernel_rfl) (by kernel_rfl) (fun _ _ _ h => h) (Or.inl ⟨by kernel_rfl, ?qZ52⟩) (by assumption) ?rqZ52
            case qZ52 => (intro w hSw; (try dsimp only at hSw); go_simp)
            try simp only [Act.put, List.setIfInBounds_toArray]
            refine wpAnyH_take (i := 12) (v := .agg #[.int .i64 cd, .int .i64 iu]) rfl (by kernel_rfl) (by kernel_rfl) (by kernel_rfl) (fun _ _ _ h => h) (Or.inl ⟨by kernel_rfl, ?qZ53⟩) (by assumption) ?rqZ53
            case qZ53 => (intro w hSw; (try dsimp only at hSw); go_simp)
            try simp only [Act.put, List.setIfInBounds_toArray]
            refine wpAnyH_ready (rs := [14]) (by kernel_rfl) (by simp) ?_
            refine AllReadyH.cons rfl (fun K hK => ?nZ54) (AllReadyH.nil)
            go_simp
            refine hK.out _ _ ?_ (fun hSZ56 => ?_)
            · exact HK.out _ (hq.alloc hq.size (.cells #[.int .i64 0, .int .i64 0] 29))
            clear hK K
            try simp only [Act.put, List.setIfInBounds_toArray]
            have g0_bG := hq.size
            replace hq := hq.alloc hq.size (.cells #[.int .i64 0, .int .i64 0] 29)
            replace bU := bU.alloc (.cells #[.int .i64 0, .int .i64 0] 29)
            have bG := Blk.new WZ48 29 #[.int .i64 0, .int .i64 0]
            replace hmv := hmv.keep (Keeps.alloc WZ48 _ (.cells #[.int .i64 0, .int .i64 0] 29))
            generalize WZ48.alloc (.cells #[.int .i64 0, .int .i64 0] 29) = WZ55 at *
            refine wpAnyH_ready (rs := [15]) (by kernel_rfl) (by simp) ?_
            refine AllReadyH.cons rfl (fun K hK => ?nZ57) (AllReadyH.nil)
            have bUl := bU.lt
            have bUf0 := bU.frozen 0
            have bUc0 := (bU.cell 0).trans rfl
            have bGl := bG.lt
            have bGf0 := bG.frozen 0
            have bGc0 := (bG.cell 0).trans rfl
            have bGf1 := bG.frozen 1
            have bGc1 := (bG.cell 1).trans rfl
            go_simp
            refine hK.out _ _ ?_ (fun hSZ58 => ?_)
            · exact HK.out _ (hq.setCell g0_bU _)
            clear hK K
            try simp only [Act.put, List.setIfInBounds_toArray]
            refine wpAnyH_ready (rs := [16]) (by kernel_rfl) (by simp) ?_
            refine AllReadyH.cons rfl (fun K hK => ?nZ59) (AllReadyH.nil)
            have hne9 := Blk.ne_ bU bG (by decide)
            have hne8 := hne9.symm
            have bG2 := bG.far (p := ⟨WZ12.heap.size, 0, none⟩) hne8 (.slice Au nu cu)
            have bG2l := bG2.lt
            have bG2f0 := bG2.frozen 0
            have bG2c0 := (bG2.cell 0).trans rfl
            have bG2f1 := bG2.frozen 1
            have bG2c1 := (bG2.cell 1).trans rfl
            go_simp
            refine hK.out _ _ ?_ (fun hSZ60 => ?_)
            · exact HK.out _ (((hq.setCell g0_bU _).setCell g0_bG _).setCell g0_bG _)
            clear hK K
            try simp only [Act.put, List.setIfInBounds_toArray]
            refine wpAnyH_done (by kernel_rfl) ?_ _
            refine NoPanic.normal ?_
            try go_wp2_with fail
            go_meet
            exact TwoOut.mk_ hq hmv bU bG g0_bU g0_bG
          case nZ47 =>
            go_simp
            refine hK.out _ _ ?_ (fun hSZ62 => ?_)
            · exact HK.out _ (hq.alloc hq.size (.cells #[.int .i64 0, .int .i64 0] 29))
            clear hK K
            try simp only [Act.put, List.setIfInBounds_toArray]
            have g0_bG := hq.size
            replace hq := hq.alloc hq.size (.cells #[.int .i64 0, .int .i64 0] 29)
            replace bc := bc.alloc (.cells #[.int .i64 0, .int .i64 0] 29)
            replace bU := bU.alloc (.cells #[.int .i64 0, .int .i64 0] 29)
            have bG := Blk.new WZ44 29 #[.int .i64 0, .int .i64 0]
            generalize WZ44.alloc (.cells #[.int .i64 0, .int .i64 0] 29) = WZ61 at *
            refine wpAnyH_ready (rs := [9]) (by kernel_rfl) (by simp) ?_
            refine AllReadyH.cons rfl (fun K hK => ?nZ63) (AllReadyH.nil)
            go_simp
            go_at_call 7
            with_reducible refine (HTZ.out _ hq cb bc).mono ?_
            rintro e WZ64 ⟨Au, nu, cu, iu, rfl, hmv, hb9⟩
            try go_wp2_with fail
            refine hK.out _ _ ?_ (fun hSZ65 => ?_)
            · exact HK.out _ (hq.trans (hb9.mono hq.size))
            clear hK K
            try simp only [Act.put, List.setIfInBounds_toArray]
            replace hq := hq.trans (hb9.mono hq.size)
            have zZ66 : WZ61.heap.size ≤ WZ64.heap.size := hb9.size
            replace bc := bc.below hb9 bc.lt
            replace bU := bU.below hb9 bU.lt
            replace bG := bG.below hb9 bG.lt
            clear hb9
            clear bc
            refine wpAnyH_take (i := 10) (v := .tuple #[.agg #[.slice Au nu cu], .agg #[.int .i64 cd, .int .i64 iu]]) rfl (by kernel_rfl) (by kernel_rfl) (by kernel_rfl) (fun _ _ _ h => h) (Or.inl ⟨by kernel_rfl, ?qZ67⟩) (by assumption) ?rqZ67
            case qZ67 => (intro w hSw; (try dsimp only at hSw); go_simp)
            try simp only [Act.put, List.setIfInBounds_toArray]
            refine wpAnyH_take (i := 11) (v := .agg #[.slice Au nu cu]) rfl (by kernel_rfl) (by kernel_rfl) (by kernel_rfl) (fun _ _ _ h => h) (Or.inl ⟨by kernel_rfl, ?qZ68⟩) (by assumption) ?rqZ68
            case qZ68 => (intro w hSw; (try dsimp only at hSw); go_simp)
            try simp only [Act.put, List.setIfInBounds_toArray]
            refine wpAnyH_take (i := 12) (v := .agg #[.int .i64 cd, .int .i64 iu]) rfl (by kernel_rfl) (by kernel_rfl) (by kernel_rfl) (fun _ _ _ h => h) (Or.inl ⟨by kernel_rfl, ?qZ69⟩) (by assumption) ?rqZ69
            case qZ69 => (intro w hSw; (try dsimp only at hSw); go_simp)
            try simp only [Act.put, List.setIfInBounds_toArray]
            refine wpAnyH_ready (rs := [15]) (by kernel_rfl) (by simp) ?_
            refine AllReadyH.cons rfl (fun K hK => ?nZ70) (AllReadyH.nil)
            have bUl := bU.lt
            have bUf0 := bU.frozen 0
            have bUc0 := (bU.cell 0).trans rfl
            have bGl := bG.lt
            have bGf0 := bG.frozen 0
            have bGc0 := (bG.cell 0).trans rfl
            have bGf1 := bG.frozen 1
            have bGc1 := (bG.cell 1).trans rfl
            go_simp
            refine hK.out _ _ ?_ (fun hSZ71 => ?_)
            · exact HK.out _ (hq.setCell g0_bU _)
            clear hK K
            try simp only [Act.put, List.setIfInBounds_toArray]
            refine wpAnyH_ready (rs := [16]) (by kernel_rfl) (by simp) ?_
            refine AllReadyH.cons rfl (fun K hK => ?nZ72) (AllReadyH.nil)
            have hne9 := Blk.ne_ bU bG (by decide)
            have hne8 := hne9.symm
            have bG2 := bG.far (p := ⟨WZ12.heap.size, 0, none⟩) hne8 (.slice Au nu cu)
            have bG2l := bG2.lt
            have bG2f0 := bG2.frozen 0
            have bG2c0 := (bG2.cell 0).trans rfl
            have bG2f1 := bG2.frozen 1
            have bG2c1 := (bG2.cell 1).trans rfl
            go_simp
            refine hK.out _ _ ?_ (fun hSZ73 => ?_)
            · exact HK.out _ (((hq.setCell g0_bU _).setCell g0_bG _).setCell g0_bG _)
            clear hK K
            try simp only [Act.put, List.setIfInBounds_toArray]
            refine wpAnyH_done (by kernel_rfl) ?_ _
            refine NoPanic.normal ?_
            try go_wp2_with fail
            go_meet
            exact TwoOut.mk_ hq hmv bU bG g0_bU g0_bG
        case nZ17 =>
          go_simp
          refine hK.out _ _ ?_ (fun hSZ75 => ?_)
          · exact HK.out _ (hq.alloc hq.size (.cells #[.int .i64 0, .int .i64 0] 29))
          clear hK K
          try simp only [Act.put, List.setIfInBounds_toArray]
          have g0_bG := hq.size
          replace hq := hq.alloc hq.size (.cells #[.int .i64 0, .int .i64 0] 29)
          replace bc := bc.alloc (.cells #[.int .i64 0, .int .i64 0] 29)
          have bG := Blk.new WZ12 29 #[.int .i64 0, .int .i64 0]
          generalize WZ12.alloc (.cells #[.int .i64 0, .int .i64 0] 29) = WZ74 at *
          refine wpAnyH_ready (rs := [9, 13]) (by kernel_rfl) (by simp) ?_
          refine AllReadyH.cons rfl (fun K hK => ?nZ76) (AllReadyH.cons rfl (fun K hK => ?nZ77) (AllReadyH.nil))
          case nZ76 =>
            go_simp
            go_at_call 7
            with_reducible refine (HTZ.out _ hq cb bc).mono ?_
            rintro e WZ78 ⟨Au, nu, cu, iu, rfl, hmv, hb9⟩
            try go_wp2_with fail
            refine hK.out _ _ ?_ (fun hSZ79 => ?_)
            · exact HK.out _ (hq.trans (hb9.mono hq.size))
            clear hK K
            try simp only [Act.put, List.setIfInBounds_toArray]
            replace hq := hq.trans (hb9.mono hq.size)
            have zZ80 : WZ74.heap.size ≤ WZ78.heap.size := hb9.size
            replace bc := bc.below hb9 bc.lt
            replace bG := bG.below hb9 bG.lt
            clear hb9
            clear bc
            refine wpAnyH_take (i := 10) (v := .tuple #[.agg #[.slice Au nu cu], .agg #[.int .i64 cd, .int .i64 iu]]) rfl (by kernel_rfl) (by kernel_rfl) (by kernel_rfl) (fun _ _ _ h => h) (Or.inl ⟨by kernel_rfl, ?qZ81⟩) (by assumption) ?rqZ81
            case qZ81 => (intro w hSw; (try dsimp only at hSw); go_simp)
            try simp only [Act.put, List.setIfInBounds_toArray]
            refine wpAnyH_take (i := 11) (v := .agg #[.slice Au nu cu]) rfl (by kernel_rfl) (by kernel_rfl) (by kernel_rfl) (fun _ _ _ h => h) (Or.inl ⟨by kernel_rfl, ?qZ82⟩) (by assumption) ?rqZ82
            case qZ82 => (intro w hSw; (try dsimp only at hSw); go_simp)
            try simp only [Act.put, List.setIfInBounds_toArray]
            refine wpAnyH_take (i := 12) (v := .agg #[.int .i64 cd, .int .i64 iu]) rfl (by kernel_rfl) (by kernel_rfl) (by kernel_rfl) (fun _ _ _ h => h) (Or.inl ⟨by kernel_rfl, ?qZ83⟩) (by assumption) ?rqZ83
            case qZ83 => (intro w hSw; (try dsimp only at hSw); go_simp)
            try simp only [Act.put, List.setIfInBounds_toArray]
            refine wpAnyH_ready (rs := [13]) (by kernel_rfl) (by simp) ?_
            refine AllReadyH.cons rfl (fun K hK => ?nZ84) (AllReadyH.nil)
            go_simp
            refine hK.out _ _ ?_ (fun hSZ86 => ?_)
            · exact HK.out _ (hq.alloc hq.size (.cells #[.slice none 0 0] 24))
            clear hK K
            try simp only [Act.put, List.setIfInBounds_toArray]
            have g0_bU := hq.size
            replace hq := hq.alloc hq.size (.cells #[.slice none 0 0] 24)
            replace bG := bG.alloc (.cells #[.slice none 0 0] 24)
            have bU := Blk.new WZ78 24 #[.slice none 0 0]
            replace hmv := hmv.keep (Keeps.alloc WZ78 _ (.cells #[.slice none 0 0] 24))
            generalize WZ78.alloc (.cells #[.slice none 0 0] 24) = WZ85 at *
            refine wpAnyH_ready (rs := [15]) (by kernel_rfl) (by simp) ?_
            refine AllReadyH.cons rfl (fun K hK => ?nZ87) (AllReadyH.nil)
            have bUl := bU.lt
            have bUf0 := bU.frozen 0
            have bUc0 := (bU.cell 0).trans rfl
            have bGl := bG.lt
            have bGf0 := bG.frozen 0
            have bGc0 := (bG.cell 0).trans rfl
            have bGf1 := bG.frozen 1
            have bGc1 := (bG.cell 1).trans rfl
            go_simp
            refine hK.out _ _ ?_ (fun hSZ88 => ?_)
            · exact HK.out _ (hq.setCell g0_bU _)
            clear hK K
            try simp only [Act.put, List.setIfInBounds_toArray]
            refine wpAnyH_ready (rs := [16]) (by kernel_rfl) (by simp) ?_
            refine AllReadyH.cons rfl (fun K hK => ?nZ89) (AllReadyH.nil)
            have hne9 := Blk.ne_ bU bG (by decide)
            have hne8 := hne9.symm
            have bG2 := bG.far (p := ⟨WZ78.heap.size, 0, none⟩) hne8 (.slice Au nu cu)
            have bG2l := bG2.lt
            have bG2f0 := bG2.frozen 0
            have bG2c0 := (bG2.cell 0).trans rfl
            have bG2f1 := bG2.frozen 1
            have bG2c1 := (bG2.cell 1).trans rfl
            go_simp
            refine hK.out _ _ ?_ (fun hSZ90 => ?_)
            · exact HK.out _ (((hq.setCell g0_bU _).setCell g0_bG _).setCell g0_bG _)
            clear hK K
            try simp only [Act.put, List.setIfInBounds_toArray]
            refine wpAnyH_done (by kernel_rfl) ?_ _
            refine NoPanic.normal ?_
            try go_wp2_with fail
            go_meet
            exact TwoOut.mk_ hq hmv bU bG g0_bU g0_bG
          case nZ77 =>
            go_simp
            refine hK.out _ _ ?_ (fun hSZ92 => ?_)
            · exact HK.out _ (hq.alloc hq.size (.cells #[.slice none 0 0] 24))
            clear hK K
            try simp only [Act.put, List.setIfInBounds_toArray]
            have g0_bU := hq.size
            replace hq := hq.alloc hq.size (.cells #[.slice none 0 0] 24)
            replace bc := bc.alloc (.cells #[.slice none 0 0] 24)
            replace bG := bG.alloc (.cells #[.slice none 0 0] 24)
            have bU := Blk.new WZ74 24 #[.slice none 0 0]
            generalize WZ74.alloc (.cells #[.slice none 0 0] 24) = WZ91 at *
            refine wpAnyH_ready (rs := [9]) (by kernel_rfl) (by simp) ?_
            refine AllReadyH.cons rfl (fun K hK => ?nZ93) (AllReadyH.nil)
            go_simp
            go_at_call 7
            with_reducible refine (HTZ.out _ hq cb bc).mono ?_
            rintro e WZ94 ⟨Au, nu, cu, iu, rfl, hmv, hb9⟩
            try go_wp2_with fail
            refine hK.out _ _ ?_ (fun hSZ95 => ?_)
            · exact HK.out _ (hq.trans (hb9.mono hq.size))
            clear hK K
            try simp only [Act.put, List.setIfInBounds_toArray]
            replace hq := hq.trans (hb9.mono hq.size)
            have zZ96 : WZ91.heap.size ≤ WZ94.heap.size := hb9.size
            replace bc := bc.below hb9 bc.lt
            replace bG := bG.below hb9 bG.lt
            replace bU := bU.below hb9 bU.lt
            clear hb9
            clear bc
            refine wpAnyH_take (i := 10) (v := .tuple #[.agg #[.slice Au nu cu], .agg #[.int .i64 cd, .int .i64 iu]]) rfl (by kernel_rfl) (by kernel_rfl) (by kernel_rfl) (fun _ _ _ h => h) (Or.inl ⟨by kernel_rfl, ?qZ97⟩) (by assumption) ?rqZ97
            case qZ97 => (intro w hSw; (try dsimp only at hSw); go_simp)
            try simp only [Act.put, List.setIfInBounds_toArray]
            refine wpAnyH_take (i := 11) (v := .agg #[.slice Au nu cu]) rfl (by kernel_rfl) (by kernel_rfl) (by kernel_rfl) (fun _ _ _ h => h) (Or.inl ⟨by kernel_rfl, ?qZ98⟩) (by assumption) ?rqZ98
            case qZ98 => (intro w hSw; (try dsimp only at hSw); go_simp)
            try simp only [Act.put, List.setIfInBounds_toArray]
            refine wpAnyH_take (i := 12) (v := .agg #[.int .i64 cd, .int .i64 iu]) rfl (by kernel_rfl) (by kernel_rfl) (by kernel_rfl) (fun _ _ _ h => h) (Or.inl ⟨by kernel_rfl, ?qZ99⟩) (by assumption) ?rqZ99
            case qZ99 => (intro w hSw; (try dsimp only at hSw); go_simp)
            try simp only [Act.put, List.setIfInBounds_toArray]
            refine wpAnyH_ready (rs := [15]) (by kernel_rfl) (by simp) ?_
            refine AllReadyH.cons rfl (fun K hK => ?nZ100) (AllReadyH.nil)
            have bUl := bU.lt
            have bUf0 := bU.frozen 0
            have bUc0 := (bU.cell 0).trans rfl
            have bGl := bG.lt
            have bGf0 := bG.frozen 0
            have bGc0 := (bG.cell 0).trans rfl
            have bGf1 := bG.frozen 1
            have bGc1 := (bG.cell 1).trans rfl
            go_simp
            refine hK.out _ _ ?_ (fun hSZ101 => ?_)
            · exact HK.out _ (hq.setCell g0_bU _)
            clear hK K
            try simp only [Act.put, List.setIfInBounds_toArray]
            refine wpAnyH_ready (rs := [16]) (by kernel_rfl) (by simp) ?_
            refine AllReadyH.cons rfl (fun K hK => ?nZ102) (AllReadyH.nil)
            have hne9 := Blk.ne_ bU bG (by decide)
            have hne8 := hne9.symm
            have bG2 := bG.far (p := ⟨WZ74.heap.size, 0, none⟩) hne8 (.slice Au nu cu)
            have bG2l := bG2.lt
            have bG2f0 := bG2.frozen 0
            have bG2c0 := (bG2.cell 0).trans rfl
            have bG2f1 := bG2.frozen 1
            have bG2c1 := (bG2.cell 1).trans rfl
            go_simp
            refine hK.out _ _ ?_ (fun hSZ103 => ?_)
            · exact HK.out _ (((hq.setCell g0_bU _).setCell g0_bG _).setCell g0_bG _)
            clear hK K
            try simp only [Act.put, List.setIfInBounds_toArray]
            refine wpAnyH_done (by kernel_rfl) ?_ _
            refine NoPanic.normal ?_
            try go_wp2_with fail
            go_meet
            exact TwoOut.mk_ hq hmv bU bG g0_bU g0_bG
      case nZ10 =>
        go_simp
        refine hK.out _ _ ?_ (fun hSZ105 => ?_)
        · exact HK.out _ (hq.alloc hq.size (.cells #[.slice none 0 0] 24))
        clear hK K
        try simp only [Act.put, List.setIfInBounds_toArray]
        have g0_bU := hq.size
        replace hq := hq.alloc hq.size (.cells #[.slice none 0 0] 24)
        have bU := Blk.new WZ 24 #[.slice none 0 0]
        generalize WZ.alloc (.cells #[.slice none 0 0] 24) = WZ104 at *
        refine wpAnyH_ready (rs := [7, 14]) (by kernel_rfl) (by simp) ?_
        refine AllReadyH.cons rfl (fun K hK => ?nZ106) (AllReadyH.cons rfl (fun K hK => ?nZ107) (AllReadyH.nil))
        case nZ106 =>
          go_simp
          go_at_call 8
          with_reducible refine (HED.out _).mono ?_
          rintro e WZ108 ⟨cb, rfl, bc, hb9⟩
          try go_wp2_with fail
          refine hK.out _ _ ?_ (fun hSZ109 => ?_)
          · exact HK.out _ (hq.trans (hb9.mono hq.size))
          clear hK K
          try simp only [Act.put, List.setIfInBounds_toArray]
          replace hq := hq.trans (hb9.mono hq.size)
          have zZ110 : WZ104.heap.size ≤ WZ108.heap.size := hb9.size
          replace bU := bU.below hb9 bU.lt
          clear hb9
          refine wpAnyH_ready (rs := [9, 14]) (by kernel_rfl) (by simp) ?_
          refine AllReadyH.cons rfl (fun K hK => ?nZ111) (AllReadyH.cons rfl (fun K hK => ?nZ112) (AllReadyH.nil))
          case nZ111 =>
            go_simp
            go_at_call 7
            with_reducible refine (HTZ.out _ hq cb bc).mono ?_
            rintro e WZ113 ⟨Au, nu, cu, iu, rfl, hmv, hb9⟩
            try go_wp2_with fail
            refine hK.out _ _ ?_ (fun hSZ114 => ?_)
            · exact HK.out _ (hq.trans (hb9.mono hq.size))
            clear hK K
            try simp only [Act.put, List.setIfInBounds_toArray]
            replace hq := hq.trans (hb9.mono hq.size)
            have zZ115 : WZ108.heap.size ≤ WZ113.heap.size := hb9.size
            replace bU := bU.below hb9 bU.lt
            replace bc := bc.below hb9 bc.lt
            clear hb9
            clear bc
            refine wpAnyH_take (i := 10) (v := .tuple #[.agg #[.slice Au nu cu], .agg #[.int .i64 cd, .int .i64 iu]]) rfl (by kernel_rfl) (by kernel_rfl) (by kernel_rfl) (fun _ _ _ h => h) (Or.inl ⟨by kernel_rfl, ?qZ116⟩) (by assumption) ?rqZ116
            case qZ116 => (intro w hSw; (try dsimp only at hSw); go_simp)
            try simp only [Act.put, List.setIfInBounds_toArray]
            refine wpAnyH_take (i := 11) (v := .agg #[.slice Au nu cu]) rfl (by kernel_rfl) (by kernel_rfl) (by kernel_rfl) (fun _ _ _ h => h) (Or.inl ⟨by kernel_rfl, ?qZ117⟩) (by assumption) ?rqZ117
            case qZ117 => (intro w hSw; (try dsimp only at hSw); go_simp)
            try simp only [Act.put, List.setIfInBounds_toArray]
            refine wpAnyH_take (i := 12) (v := .agg #[.int .i64 cd, .int .i64 iu]) rfl (by kernel_rfl) (by kernel_rfl) (by kernel_rfl) (fun _ _ _ h => h) (Or.inl ⟨by kernel_rfl, ?qZ118⟩) (by assumption) ?rqZ118
            case qZ118 => (intro w hSw; (try dsimp only at hSw); go_simp)
            try simp only [Act.put, List.setIfInBounds_toArray]
            refine wpAnyH_ready (rs := [14]) (by kernel_rfl) (by simp) ?_
            refine AllReadyH.cons rfl (fun K hK => ?nZ119) (AllReadyH.nil)
            go_simp
            refine hK.out _ _ ?_ (fun hSZ121 => ?_)
            · exact HK.out _ (hq.alloc hq.size (.cells #[.int .i64 0, .int .i64 0] 29))
            clear hK K
            try simp only [Act.put, List.setIfInBounds_toArray]
            have g0_bG := hq.size
            replace hq := hq.alloc hq.size (.cells #[.int .i64 0, .int .i64 0] 29)
            replace bU := bU.alloc (.cells #[.int .i64 0, .int .i64 0] 29)
            have bG := Blk.new WZ113 29 #[.int .i64 0, .int .i64 0]
            replace hmv := hmv.keep (Keeps.alloc WZ113 _ (.cells #[.int .i64 0, .int .i64 0] 29))
            generalize WZ113.alloc (.cells #[.int .i64 0, .int .i64 0] 29) = WZ120 at *
            refine wpAnyH_ready (rs := [15]) (by kernel_rfl) (by simp) ?_
            refine AllReadyH.cons rfl (fun K hK => ?nZ122) (AllReadyH.nil)
            have bUl := bU.lt
            have bUf0 := bU.frozen 0
            have bUc0 := (bU.cell 0).trans rfl
            have bGl := bG.lt
            have bGf0 := bG.frozen 0
            have bGc0 := (bG.cell 0).trans rfl
            have bGf1 := bG.frozen 1
            have bGc1 := (bG.cell 1).trans rfl
            go_simp
            refine hK.out _ _ ?_ (fun hSZ123 => ?_)
            · exact HK.out _ (hq.setCell g0_bU _)
            clear hK K
            try simp only [Act.put, List.setIfInBounds_toArray]
            refine wpAnyH_ready (rs := [16]) (by kernel_rfl) (by simp) ?_
            refine AllReadyH.cons rfl (fun K hK => ?nZ124) (AllReadyH.nil)
            have hne9 := Blk.ne_ bU bG (by decide)
            have hne8 := hne9.symm
            have bG2 := bG.far (p := ⟨WZ.heap.size, 0, none⟩) hne8 (.slice Au nu cu)
            have bG2l := bG2.lt
            have bG2f0 := bG2.frozen 0
            have bG2c0 := (bG2.cell 0).trans rfl
            have bG2f1 := bG2.frozen 1
            have bG2c1 := (bG2.cell 1).trans rfl
            go_simp
            refine hK.out _ _ ?_ (fun hSZ125 => ?_)
            · exact HK.out _ (((hq.setCell g0_bU _).setCell g0_bG _).setCell g0_bG _)
            clear hK K
            try simp only [Act.put, List.setIfInBounds_toArray]
            refine wpAnyH_done (by kernel_rfl) ?_ _
            refine NoPanic.normal ?_
            try go_wp2_with fail
            go_meet
            exact TwoOut.mk_ hq hmv bU bG g0_bU g0_bG
          case nZ112 =>
            go_simp
            refine hK.out _ _ ?_ (fun hSZ127 => ?_)
            · exact HK.out _ (hq.alloc hq.size (.cells #[.int .i64 0, .int .i64 0] 29))
            clear hK K
            try simp only [Act.put, List.setIfInBounds_toArray]
            have g0_bG := hq.size
            replace hq := hq.alloc hq.size (.cells #[.int .i64 0, .int .i64 0] 29)
            replace bU := bU.alloc (.cells #[.int .i64 0, .int .i64 0] 29)
            replace bc := bc.alloc (.cells #[.int .i64 0, .int .i64 0] 29)
            have bG := Blk.new WZ108 29 #[.int .i64 0, .int .i64 0]
            generalize WZ108.alloc (.cells #[.int .i64 0, .int .i64 0] 29) = WZ126 at *
            refine wpAnyH_ready (rs := [9]) (by kernel_rfl) (by simp) ?_
            refine AllReadyH.cons rfl (fun K hK => ?nZ128) (AllReadyH.nil)
            go_simp
            go_at_call 7
            with_reducible refine (HTZ.out _ hq cb bc).mono ?_
            rintro e WZ129 ⟨Au, nu, cu, iu, rfl, hmv, hb9⟩
            try go_wp2_with fail
            refine hK.out _ _ ?_ (fun hSZ130 => ?_)
            · exact HK.out _ (hq.trans (hb9.mono hq.size))
            clear hK K
            try simp only [Act.put, List.setIfInBounds_toArray]
            replace hq := hq.trans (hb9.mono hq.size)
            have zZ131 : WZ126.heap.size ≤ WZ129.heap.size := hb9.size
            replace bU := bU.below hb9 bU.lt
            replace bc := bc.below hb9 bc.lt
            replace bG := bG.below hb9 bG.lt
            clear hb9
            clear bc
            refine wpAnyH_take (i := 10) (v := .tuple #[.agg #[.slice Au nu cu], .agg #[.int .i64 cd, .int .i64 iu]]) rfl (by kernel_rfl) (by kernel_rfl) (by kernel_rfl) (fun _ _ _ h => h) (Or.inl ⟨by kernel_rfl, ?qZ132⟩) (by assumption) ?rqZ132
            case qZ132 => (intro w hSw; (try dsimp only at hSw); go_simp)
            try simp only [Act.put, List.setIfInBounds_toArray]
            refine wpAnyH_take (i := 11) (v := .agg #[.slice Au nu cu]) rfl (by kernel_rfl) (by kernel_rfl) (by kernel_rfl) (fun _ _ _ h => h) (Or.inl ⟨by kernel_rfl, ?qZ133⟩) (by assumption) ?rqZ133
            case qZ133 => (intro w hSw; (try dsimp only at hSw); go_simp)
            try simp only [Act.put, List.setIfInBounds_toArray]
            refine wpAnyH_take (i := 12) (v := .agg #[.int .i64 cd, .int .i64 iu]) rfl (by kernel_rfl) (by kernel_rfl) (by kernel_rfl) (fun _ _ _ h => h) (Or.inl ⟨by kernel_rfl, ?qZ134⟩) (by assumption) ?rqZ134
            case qZ134 => (intro w hSw; (try dsimp only at hSw); go_simp)
            try simp only [Act.put, List.setIfInBounds_toArray]
            refine wpAnyH_ready (rs := [15]) (by kernel_rfl) (by simp) ?_
            refine AllReadyH.cons rfl (fun K hK => ?nZ135) (AllReadyH.nil)
            have bUl := bU.lt
            have bUf0 := bU.frozen 0
            have bUc0 := (bU.cell 0).trans rfl
            have bGl := bG.lt
            have bGf0 := bG.frozen 0
            have bGc0 := (bG.cell 0).trans rfl
            have bGf1 := bG.frozen 1
            have bGc1 := (bG.cell 1).trans rfl
            go_simp
            refine hK.out _ _ ?_ (fun hSZ136 => ?_)
            · exact HK.out _ (hq.setCell g0_bU _)
            clear hK K
            try simp only [Act.put, List.setIfInBounds_toArray]
            refine wpAnyH_ready (rs := [16]) (by kernel_rfl) (by simp) ?_
            refine AllReadyH.cons rfl (fun K hK => ?nZ137) (AllReadyH.nil)
            have hne9 := Blk.ne_ bU bG (by decide)
            have hne8 := hne9.symm
            have bG2 := bG.far (p := ⟨WZ.heap.size, 0, none⟩) hne8 (.slice Au nu cu)
            have bG2l := bG2.lt
            have bG2f0 := bG2.frozen 0
            have bG2c0 := (bG2.cell 0).trans rfl
            have bG2f1 := bG2.frozen 1
            have bG2c1 := (bG2.cell 1).trans rfl
            go_simp
            refine hK.out _ _ ?_ (fun hSZ138 => ?_)
            · exact HK.out _ (((hq.setCell g0_bU _).setCell g0_bG _).setCell g0_bG _)
            clear hK K
            try simp only [Act.put, List.setIfInBounds_toArray]
            refine wpAnyH_done (by kernel_rfl) ?_ _
            refine NoPanic.normal ?_
            try go_wp2_with fail
            go_meet
            exact TwoOut.mk_ hq hmv bU bG g0_bU g0_bG
        case nZ107 =>
          go_simp
          refine hK.out _ _ ?_ (fun hSZ140 => ?_)
          · exact HK.out _ (hq.alloc hq.size (.cells #[.int .i64 0, .int .i64 0] 29))
          clear hK K
          try simp only [Act.put, List.setIfInBounds_toArray]
          have g0_bG := hq.size
          replace hq := hq.alloc hq.size (.cells #[.int .i64 0, .int .i64 0] 29)
          replace bU := bU.alloc (.cells #[.int .i64 0, .int .i64 0] 29)
          have bG := Blk.new WZ104 29 #[.int .i64 0, .int .i64 0]
          generalize WZ104.alloc (.cells #[.int .i64 0, .int .i64 0] 29) = WZ139 at *
          refine wpAnyH_ready (rs := [7]) (by kernel_rfl) (by simp) ?_
          refine AllReadyH.cons rfl (fun K hK => ?nZ141) (AllReadyH.nil)
          go_simp
          go_at_call 8
          with_reducible refine (HED.out _).mono ?_
          rintro e WZ142 ⟨cb, rfl, bc, hb9⟩
          try go_wp2_with fail
          refine hK.out _ _ ?_ (fun hSZ143 => ?_)
          · exact HK.out _ (hq.trans (hb9.mono hq.size))
          clear hK K
          try simp only [Act.put, List.setIfInBounds_toArray]
          replace hq := hq.trans (hb9.mono hq.size)
          have zZ144 : WZ139.heap.size ≤ WZ142.heap.size := hb9.size
          replace bU := bU.below hb9 bU.lt
          replace bG := bG.below hb9 bG.lt
          clear hb9
          refine wpAnyH_ready (rs := [9]) (by kernel_rfl) (by simp) ?_
          refine AllReadyH.cons rfl (fun K hK => ?nZ145) (AllReadyH.nil)
          go_simp
          go_at_call 7
          with_reducible refine (HTZ.out _ hq cb bc).mono ?_
          rintro e WZ146 ⟨Au, nu, cu, iu, rfl, hmv, hb9⟩
          try go_wp2_with fail
          refine hK.out _ _ ?_ (fun hSZ147 => ?_)
          · exact HK.out _ (hq.trans (hb9.mono hq.size))
          clear hK K
          try simp only [Act.put, List.setIfInBounds_toArray]
          replace hq := hq.trans (hb9.mono hq.size)
          have zZ148 : WZ142.heap.size ≤ WZ146.heap.size := hb9.size
          replace bU := bU.below hb9 bU.lt
          replace bG := bG.below hb9 bG.lt
          replace bc := bc.below hb9 bc.lt
          clear hb9
          clear bc
          refine wpAnyH_take (i := 10) (v := .tuple #[.agg #[.slice Au nu cu], .agg #[.int .i64 cd, .int .i64 iu]]) rfl (by kernel_rfl) (by kernel_rfl) (by kernel_rfl) (fun _ _ _ h => h) (Or.inl ⟨by kernel_rfl, ?qZ149⟩) (by assumption) ?rqZ149
          case qZ149 => (intro w hSw; (try dsimp only at hSw); go_simp)
          try simp only [Act.put, List.setIfInBounds_toArray]
          refine wpAnyH_take (i := 11) (v := .agg #[.slice Au nu cu]) rfl (by kernel_rfl) (by kernel_rfl) (by kernel_rfl) (fun _ _ _ h => h) (Or.inl ⟨by kernel_rfl, ?qZ150⟩) (by assumption) ?rqZ150
          case qZ150 => (intro w hSw; (try dsimp only at hSw); go_simp)
          try simp only [Act.put, List.setIfInBounds_toArray]
          refine wpAnyH_take (i := 12) (v := .agg #[.int .i64 cd, .int .i64 iu]) rfl (by kernel_rfl) (by kernel_rfl) (by kernel_rfl) (fun _ _ _ h => h) (Or.inl ⟨by kernel_rfl, ?qZ151⟩) (by assumption) ?rqZ151
          case qZ151 => (intro w hSw; (try dsimp only at hSw); go_simp)
          try simp only [Act.put, List.setIfInBounds_toArray]
          refine wpAnyH_ready (rs := [15]) (by kernel_rfl) (by simp) ?_
          refine AllReadyH.cons rfl (fun K hK => ?nZ152) (AllReadyH.nil)
          have bUl := bU.lt
          have bUf0 := bU.frozen 0
          have bUc0 := (bU.cell 0).trans rfl
          have bGl := bG.lt
          have bGf0 := bG.frozen 0
          have bGc0 := (bG.cell 0).trans rfl
          have bGf1 := bG.frozen 1
          have bGc1 := (bG.cell 1).trans rfl
          go_simp
          refine hK.out _ _ ?_ (fun hSZ153 => ?_)
          · exact HK.out _ (hq.setCell g0_bU _)
          clear hK K
          try simp only [Act.put, List.setIfInBounds_toArray]
          refine wpAnyH_ready (rs := [16]) (by kernel_rfl) (by simp) ?_
          refine AllReadyH.cons rfl (fun K hK => ?nZ154) (AllReadyH.nil)
          have hne9 := Blk.ne_ bU bG (by decide)
          have hne8 := hne9.symm
          have bG2 := bG.far (p := ⟨WZ.heap.size, 0, none⟩) hne8 (.slice Au nu cu)
          have bG2l := bG2.lt
          have bG2f0 := bG2.frozen 0
          have bG2c0 := (bG2.cell 0).trans rfl
          have bG2f1 := bG2.frozen 1
          have bG2c1 := (bG2.cell 1).trans rfl
          go_simp
          refine hK.out _ _ ?_ (fun hSZ155 => ?_)
          · exact HK.out _ (((hq.setCell g0_bU _).setCell g0_bG _).setCell g0_bG _)
          clear hK K
          try simp only [Act.put, List.setIfInBounds_toArray]
          refine wpAnyH_done (by kernel_rfl) ?_ _
          refine NoPanic.normal ?_
          try go_wp2_with fail
          go_meet
          exact TwoOut.mk_ hq hmv bU bG g0_bU g0_bG
      case nZ11 =>
        go_simp
        refine hK.out _ _ ?_ (fun hSZ157 => ?_)
        · exact HK.out _ (hq.alloc hq.size (.cells #[.int .i64 0, .int .i64 0] 29))
        clear hK K
        try simp only [Act.put, List.setIfInBounds_toArray]
        have g0_bG := hq.size
        replace hq := hq.alloc hq.size (.cells #[.int .i64 0, .int .i64 0] 29)
        have bG := Blk.new WZ 29 #[.int .i64 0, .int .i64 0]
        generalize WZ.alloc (.cells #[.int .i64 0, .int .i64 0] 29) = WZ156 at *
        refine wpAnyH_ready (rs := [7, 13]) (by kernel_rfl) (by simp) ?_
        refine AllReadyH.cons rfl (fun K hK => ?nZ158) (AllReadyH.cons rfl (fun K hK => ?nZ159) (AllReadyH.nil))
        case nZ158 =>
          go_simp
          go_at_call 8
          with_reducible refine (HED.out _).mono ?_
          rintro e WZ160 ⟨cb, rfl, bc, hb9⟩
          try go_wp2_with fail
          refine hK.out _ _ ?_ (fun hSZ161 => ?_)
          · exact HK.out _ (hq.trans (hb9.mono hq.size))
          clear hK K
          try simp only [Act.put, List.setIfInBounds_toArray]
          replace hq := hq.trans (hb9.mono hq.size)
          have zZ162 : WZ156.heap.size ≤ WZ160.heap.size := hb9.size
          replace bG := bG.below hb9 bG.lt
          clear hb9
          refine wpAnyH_ready (rs := [9, 13]) (by kernel_rfl) (by simp) ?_
          refine AllReadyH.cons rfl (fun K hK => ?nZ163) (AllReadyH.cons rfl (fun K hK => ?nZ164) (AllReadyH.nil))
          case nZ163 =>
            go_simp
            go_at_call 7
            with_reducible refine (HTZ.out _ hq cb bc).mono ?_
            rintro e WZ165 ⟨Au, nu, cu, iu, rfl, hmv, hb9⟩
            try go_wp2_with fail
            refine hK.out _ _ ?_ (fun hSZ166 => ?_)
            · exact HK.out _ (hq.trans (hb9.mono hq.size))
            clear hK K
            try simp only [Act.put, List.setIfInBounds_toArray]
            replace hq := hq.trans (hb9.mono hq.size)
            have zZ167 : WZ160.heap.size ≤ WZ165.heap.size := hb9.size
            replace bG := bG.below hb9 bG.lt
            replace bc := bc.below hb9 bc.lt
            clear hb9
            clear bc
            refine wpAnyH_take (i := 10) (v := .tuple #[.agg #[.slice Au nu cu], .agg #[.int .i64 cd, .int .i64 iu]]) rfl (by kernel_rfl) (by kernel_rfl) (by kernel_rfl) (fun _ _ _ h => h) (Or.inl ⟨by kernel_rfl, ?qZ168⟩) (by assumption) ?rqZ168
            case qZ168 => (intro w hSw; (try dsimp only at hSw); go_simp)
            try simp only [Act.put, List.setIfInBounds_toArray]
            refine wpAnyH_take (i := 11) (v := .agg #[.slice Au nu cu]) rfl (by kernel_rfl) (by kernel_rfl) (by kernel_rfl) (fun _ _ _ h => h) (Or.inl ⟨by kernel_rfl, ?qZ169⟩) (by assumption) ?rqZ169
            case qZ169 => (intro w hSw; (try dsimp only at hSw); go_simp)
            try simp only [Act.put, List.setIfInBounds_toArray]
            refine wpAnyH_take (i := 12) (v := .agg #[.int .i64 cd, .int .i64 iu]) rfl (by kernel_rfl) (by kernel_rfl) (by kernel_rfl) (fun _ _ _ h => h) (Or.inl ⟨by kernel_rfl, ?qZ170⟩) (by assumption) ?rqZ170
            case qZ170 => (intro w hSw; (try dsimp only at hSw); go_simp)
            try simp only [Act.put, List.setIfInBounds_toArray]
            refine wpAnyH_ready (rs := [13]) (by kernel_rfl) (by simp) ?_
            refine AllReadyH.cons rfl (fun K hK => ?nZ171) (AllReadyH.nil)
            go_simp
            refine hK.out _ _ ?_ (fun hSZ173 => ?_)
            · exact HK.out _ (hq.alloc hq.size (.cells #[.slice none 0 0] 24))
            clear hK K
            try simp only [Act.put, List.setIfInBounds_toArray]
            have g0_bU := hq.size
            replace hq := hq.alloc hq.size (.cells #[.slice none 0 0] 24)
            replace bG := bG.alloc (.cells #[.slice none 0 0] 24)
            have bU := Blk.new WZ165 24 #[.slice none 0 0]
            replace hmv := hmv.keep (Keeps.alloc WZ165 _ (.cells #[.slice none 0 0] 24))
            generalize WZ165.alloc (.cells #[.slice none 0 0] 24) = WZ172 at *
            refine wpAnyH_ready (rs := [15]) (by kernel_rfl) (by simp) ?_
            refine AllReadyH.cons rfl (fun K hK => ?nZ174) (AllReadyH.nil)
            have bUl := bU.lt
            have bUf0 := bU.frozen 0
            have bUc0 := (bU.cell 0).trans rfl
            have bGl := bG.lt
            have bGf0 := bG.frozen 0
            have bGc0 := (bG.cell 0).trans rfl
            have bGf1 := bG.frozen 1
            have bGc1 := (bG.cell 1).trans rfl
            go_simp
            refine hK.out _ _ ?_ (fun hSZ175 => ?_)
            · exact HK.out _ (hq.setCell g0_bU _)
            clear hK K
            try simp only [Act.put, List.setIfInBounds_toArray]
            refine wpAnyH_ready (rs := [16]) (by kernel_rfl) (by simp) ?_
            refine AllReadyH.cons rfl (fun K hK => ?nZ176) (AllReadyH.nil)
            have hne9 := Blk.ne_ bU bG (by decide)
            have hne8 := hne9.symm
            have bG2 := bG.far (p := ⟨WZ165.heap.size, 0, none⟩) hne8 (.slice Au nu cu)
            have bG2l := bG2.lt
            have bG2f0 := bG2.frozen 0
            have bG2c0 := (bG2.cell 0).trans rfl
            have bG2f1 := bG2.frozen 1
            have bG2c1 := (bG2.cell 1).trans rfl
            go_simp
            refine hK.out _ _ ?_ (fun hSZ177 => ?_)
            · exact HK.out _ (((hq.setCell g0_bU _).setCell g0_bG _).setCell g0_bG _)
            clear hK K
            try simp only [Act.put, List.setIfInBounds_toArray]
            refine wpAnyH_done (by kernel_rfl) ?_ _
            refine NoPanic.normal ?_
            try go_wp2_with fail
            go_meet
            exact TwoOut.mk_ hq hmv bU bG g0_bU g0_bG
          case nZ164 =>
            go_simp
            refine hK.out _ _ ?_ (fun hSZ179 => ?_)
            · exact HK.out _ (hq.alloc hq.size (.cells #[.slice none 0 0] 24))
            clear hK K
            try simp only [Act.put, List.setIfInBounds_toArray]
            have g0_bU := hq.size
            replace hq := hq.alloc hq.size (.cells #[.slice none 0 0] 24)
            replace bG := bG.alloc (.cells #[.slice none 0 0] 24)
            replace bc := bc.alloc (.cells #[.slice none 0 0] 24)
            have bU := Blk.new WZ160 24 #[.slice none 0 0]
            generalize WZ160.alloc (.cells #[.slice none 0 0] 24) = WZ178 at *
            refine wpAnyH_ready (rs := [9]) (by kernel_rfl) (by simp) ?_
            refine AllReadyH.cons rfl (fun K hK => ?nZ180) (AllReadyH.nil)
            go_simp
            go_at_call 7
            with_reducible refine (HTZ.out _ hq cb bc).mono ?_
            rintro e WZ181 ⟨Au, nu, cu, iu, rfl, hmv, hb9⟩
            try go_wp2_with fail
            refine hK.out _ _ ?_ (fun hSZ182 => ?_)
            · exact HK.out _ (hq.trans (hb9.mono hq.size))
            clear hK K
            try simp only [Act.put, List.setIfInBounds_toArray]
            replace hq := hq.trans (hb9.mono hq.size)
            have zZ183 : WZ178.heap.size ≤ WZ181.heap.size := hb9.size
            replace bG := bG.below hb9 bG.lt
            replace bc := bc.below hb9 bc.lt
            replace bU := bU.below hb9 bU.lt
            clear hb9
            clear bc
            refine wpAnyH_take (i := 10) (v := .tuple #[.agg #[.slice Au nu cu], .agg #[.int .i64 cd, .int .i64 iu]]) rfl (by kernel_rfl) (by kernel_rfl) (by kernel_rfl) (fun _ _ _ h => h) (Or.inl ⟨by kernel_rfl, ?qZ184⟩) (by assumption) ?rqZ184
            case qZ184 => (intro w hSw; (try dsimp only at hSw); go_simp)
            try simp only [Act.put, List.setIfInBounds_toArray]
            refine wpAnyH_take (i := 11) (v := .agg #[.slice Au nu cu]) rfl (by kernel_rfl) (by kernel_rfl) (by kernel_rfl) (fun _ _ _ h => h) (Or.inl ⟨by kernel_rfl, ?qZ185⟩) (by assumption) ?rqZ185
            case qZ185 => (intro w hSw; (try dsimp only at hSw); go_simp)
            try simp only [Act.put, List.setIfInBounds_toArray]
            refine wpAnyH_take (i := 12) (v := .agg #[.int .i64 cd, .int .i64 iu]) rfl (by kernel_rfl) (by kernel_rfl) (by kernel_rfl) (fun _ _ _ h => h) (Or.inl ⟨by kernel_rfl, ?qZ186⟩) (by assumption) ?rqZ186
            case qZ186 => (intro w hSw; (try dsimp only at hSw); go_simp)
            try simp only [Act.put, List.setIfInBounds_toArray]
            refine wpAnyH_ready (rs := [15]) (by kernel_rfl) (by simp) ?_
            refine AllReadyH.cons rfl (fun K hK => ?nZ187) (AllReadyH.nil)
            have bUl := bU.lt
            have bUf0 := bU.frozen 0
            have bUc0 := (bU.cell 0).trans rfl
            have bGl := bG.lt
            have bGf0 := bG.frozen 0
            have bGc0 := (bG.cell 0).trans rfl
            have bGf1 := bG.frozen 1
            have bGc1 := (bG.cell 1).trans rfl
            go_simp
            refine hK.out _ _ ?_ (fun hSZ188 => ?_)
            · exact HK.out _ (hq.setCell g0_bU _)
            clear hK K
            try simp only [Act.put, List.setIfInBounds_toArray]
            refine wpAnyH_ready (rs := [16]) (by kernel_rfl) (by simp) ?_
            refine AllReadyH.cons rfl (fun K hK => ?nZ189) (AllReadyH.nil)
            have hne9 := Blk.ne_ bU bG (by decide)
            have hne8 := hne9.symm
            have bG2 := bG.far (p := ⟨WZ160.heap.size, 0, none⟩) hne8 (.slice Au nu cu)
            have bG2l := bG2.lt
            have bG2f0 := bG2.frozen 0
            have bG2c0 := (bG2.cell 0).trans rfl
            have bG2f1 := bG2.frozen 1
            have bG2c1 := (bG2.cell 1).trans rfl
            go_simp
            refine hK.out _ _ ?_ (fun hSZ190 => ?_)
            · exact HK.out _ (((hq.setCell g0_bU _).setCell g0_bG _).setCell g0_bG _)
            clear hK K
            try simp only [Act.put, List.setIfInBounds_toArray]
            refine wpAnyH_done (by kernel_rfl) ?_ _
            refine NoPanic.normal ?_
            try go_wp2_with fail
            go_meet
            exact TwoOut.mk_ hq hmv bU bG g0_bU g0_bG
        case nZ159 =>
          go_simp
          refine hK.out _ _ ?_ (fun hSZ192 => ?_)
          · exact HK.out _ (hq.alloc hq.size (.cells #[.slice none 0 0] 24))
          clear hK K
          try simp only [Act.put, List.setIfInBounds_toArray]
          have g0_bU := hq.size
          replace hq := hq.alloc hq.size (.cells #[.slice none 0 0] 24)
          replace bG := bG.alloc (.cells #[.slice none 0 0] 24)
          have bU := Blk.new WZ156 24 #[.slice none 0 0]
          generalize WZ156.alloc (.cells #[.slice none 0 0] 24) = WZ191 at *
          refine wpAnyH_ready (rs := [7]) (by kernel_rfl) (by simp) ?_
          refine AllReadyH.cons rfl (fun K hK => ?nZ193) (AllReadyH.nil)
          go_simp
          go_at_call 8
          with_reducible refine (HED.out _).mono ?_
          rintro e WZ194 ⟨cb, rfl, bc, hb9⟩
          try go_wp2_with fail
          refine hK.out _ _ ?_ (fun hSZ195 => ?_)
          · exact HK.out _ (hq.trans (hb9.mono hq.size))
          clear hK K
          try simp only [Act.put, List.setIfInBounds_toArray]
          replace hq := hq.trans (hb9.mono hq.size)
          have zZ196 : WZ191.heap.size ≤ WZ194.heap.size := hb9.size
          replace bG := bG.below hb9 bG.lt
          replace bU := bU.below hb9 bU.lt
          clear hb9
          refine wpAnyH_ready (rs := [9]) (by kernel_rfl) (by simp) ?_
          refine AllReadyH.cons rfl (fun K hK => ?nZ197) (AllReadyH.nil)
          go_simp
          go_at_call 7
          with_reducible refine (HTZ.out _ hq cb bc).mono ?_
          rintro e WZ198 ⟨Au, nu, cu, iu, rfl, hmv, hb9⟩
          try go_wp2_with fail
          refine hK.out _ _ ?_ (fun hSZ199 => ?_)
          · exact HK.out _ (hq.trans (hb9.mono hq.size))
          clear hK K
          try simp only [Act.put, List.setIfInBounds_toArray]
          replace hq := hq.trans (hb9.mono hq.size)
          have zZ200 : WZ194.heap.size ≤ WZ198.heap.size := hb9.size
          replace bG := bG.below hb9 bG.lt
          replace bU := bU.below hb9 bU.lt
          replace bc := bc.below hb9 bc.lt
          clear hb9
          clear bc
          refine wpAnyH_take (i := 10) (v := .tuple #[.agg #[.slice Au nu cu], .agg #[.int .i64 cd, .int .i64 iu]]) rfl (by kernel_rfl) (by kernel_rfl) (by kernel_rfl) (fun _ _ _ h => h) (Or.inl ⟨by kernel_rfl, ?qZ201⟩) (by assumption) ?rqZ201
          case qZ201 => (intro w hSw; (try dsimp only at hSw); go_simp)
          try simp only [Act.put, List.setIfInBounds_toArray]
          refine wpAnyH_take (i := 11) (v := .agg #[.slice Au nu cu]) rfl (by kernel_rfl) (by kernel_rfl) (by kernel_rfl) (fun _ _ _ h => h) (Or.inl ⟨by kernel_rfl, ?qZ202⟩) (by assumption) ?rqZ202
          case qZ202 => (intro w hSw; (try dsimp only at hSw); go_simp)
          try simp only [Act.put, List.setIfInBounds_toArray]
          refine wpAnyH_take (i := 12) (v := .agg #[.int .i64 cd, .int .i64 iu]) rfl (by kernel_rfl) (by kernel_rfl) (by kernel_rfl) (fun _ _ _ h => h) (Or.inl ⟨by kernel_rfl, ?qZ203⟩) (by assumption) ?rqZ203
          case qZ203 => (intro w hSw; (try dsimp only at hSw); go_simp)
          try simp only [Act.put, List.setIfInBounds_toArray]
          refine wpAnyH_ready (rs := [15]) (by kernel_rfl) (by simp) ?_
          refine AllReadyH.cons rfl (fun K hK => ?nZ204) (AllReadyH.nil)
          have bUl := bU.lt
          have bUf0 := bU.frozen 0
          have bUc0 := (bU.cell 0).trans rfl
          have bGl := bG.lt
          have bGf0 := bG.frozen 0
          have bGc0 := (bG.cell 0).trans rfl
          have bGf1 := bG.frozen 1
          have bGc1 := (bG.cell 1).trans rfl
          go_simp
          refine hK.out _ _ ?_ (fun hSZ205 => ?_)
          · exact HK.out _ (hq.setCell g0_bU _)
          clear hK K
          try simp only [Act.put, List.setIfInBounds_toArray]
          refine wpAnyH_ready (rs := [16]) (by kernel_rfl) (by simp) ?_
          refine AllReadyH.cons rfl (fun K hK => ?nZ206) (AllReadyH.nil)
          have hne9 := Blk.ne_ bU bG (by decide)
          have hne8 := hne9.symm
          have bG2 := bG.far (p := ⟨WZ156.heap.size, 0, none⟩) hne8 (.slice Au nu cu)
          have bG2l := bG2.lt
          have bG2f0 := bG2.frozen 0
          have bG2c0 := (bG2.cell 0).trans rfl
          have bG2f1 := bG2.frozen 1
          have bG2c1 := (bG2.cell 1).trans rfl
          go_simp
          refine hK.out _ _ ?_ (fun hSZ207 => ?_)
          · exact HK.out _ (((hq.setCell g0_bU _).setCell g0_bG _).setCell g0_bG _)
          clear hK K
          try simp only [Act.put, List.setIfInBounds_toArray]
          refine wpAnyH_done (by kernel_rfl) ?_ _
          refine NoPanic.normal ?_
          try go_wp2_with fail
          go_meet
          exact TwoOut.mk_ hq hmv bU bG g0_bU g0_bG
    case rest =>
      obtain ⟨g9, g10, Au, nu, cu, iu, rfl, rfl, b9, b10, hmv, hbx⟩ := hcut
      obtain ⟨wy, rfl⟩ : ∃ wy : World, wy = wc := ⟨_, rfl⟩
      have hby := hbz.trans (hbx.mono hbz.size)
      have l1y := Nat.lt_of_lt_of_le l1z hbx.size
      have p1y := (hbx.cell (p := ⟨w.heap.size, 0, none⟩) l1z).trans p1z
      have b8y := b8.below hbx b8.lt
      have hsry := hsr.keep (free_below hbx)
      clear HK HTA HTZ HED p1z p2z d0z l1z l2z lbz hbz b8 hsr hbx
      have HW2 := Lib.hid (HW.out _ hby)
      have HVY := Lib.hid (HV.out _ hby)
      have HW3 := Lib.hid (fun n => HW.out _ (below_drewN hby n))
      clear HW HV HH
      have q8 := (b8y.cell 0).trans rfl
      have q9 := (b9.cell 0).trans rfl
      have q10 := (b10.cell 0).trans rfl
      have m8 := b8y.lt
      have m9 := b9.lt
      have m10 := b10.lt
      by_cases hz : cd = 0
      · subst hz
        obtain ⟨hnu, hiu, hcu, hvu⟩ := hmv rfl
        rw [HEL.out] at hnu
        subst hnu
        subst hiu
        have hne : ((t.length : Int) != t.length) = false := by simp
        clear hmv
        go_wp2_with fail
        go_loopw [11] (fun iv wr => ∃ (kk n : Nat), kk ≤ t.length ∧ iv = .int .i64 kk ∧ wr = wy.drewN n) (fun iv _ => t.length - (intOf iv).toNat)
        case atStart => exact ⟨0, 0, Nat.zero_le _, rfl, rfl⟩
        case round =>
          obtain ⟨kk, n, hkk, rfl, rfl⟩ := hrel
          by_cases hlk : kk < t.length
          · have hlk' : (kk : Int) < t.length := by omega
            obtain ⟨ga, oa, Ba, ka, ea, hga, _, da0, da1, lna⟩ := HVY.out.row kk hlk
            obtain ⟨gb, ob, Bb, kb, eb, hgb, _, db0, db1, lnb⟩ := hvu.row kk (by rw [HEL.out]; exact hlk)
            simp at ea
            obtain ⟨rfl, rfl⟩ := ea
            subst eb
            rw [HIT.out kk hlk] at db0 db1 lnb
            by_cases hkm : kk = m
            · subst hkm
              rw [if_pos rfl] at db0 db1 lnb
              rw [HFM.out] at da0 da1 lna
              simp only at *
              have he1 : (fp == fp) = true := by simp
              have he2 : (fp != fp) = false := by simp
              have he3 : ((kk : Int) == kk) = true := by simp
              have HS := Lib.hid (fun n' => (show Calls Tryd.prog 9 #[.slice Bb q1.length kb, .slice Ar q1.length cr] (wy.drewN n') fun e w' => e = .returned (.bool true) ∧ ∃ n, w' = (wy.drewN n').drewN n from by
                have h := strings_any (wy.drewN n') Bb Ar kb cr q1 q1 (lnb.ls.keep (Keeps.drewN _ _ _)) (hsry.keep (Keeps.drewN _ _ _)) (by have := lnb.ll; omega) (by have := lnb.ll; omega)
                rw [decide_eq_true rfl] at h
                exact h))
              clear lna lnb hsry
              go_wp2_with fail
              go_quiet ((go_at_call 9; (with_reducible refine (HS.out _).mono ?_); exact fun e w3 h => ⟨h.1, h.2.elim fun n' hn => ⟨_, hn.trans ((World.drewN_drewN _ _ _).trans (congrArg wy.drewN (Nat.add_assoc _ _ _)))⟩⟩))
              go_wp2_with fail
              go_roundw
              case rel => exact ⟨kk + 1, n + nq, by omega, by go_num, by simp [World.drewN_drewN]⟩
              case measure => simp [intOf]; omega
            · rw [if_neg hkm] at db0 db1 lnb
              have he3 : ((kk : Int) == m) = false := by simp; omega
              generalize Tr.it t kk = x at *
              obtain ⟨xp, xl⟩ := x
              simp only at *
              have he1 : (xp == xp) = true := by simp
              have he2 : (xp != xp) = false := by simp
              have HS := Lib.hid (fun n' => (show Calls Tryd.prog 9 #[.slice Bb xl.length kb, .slice Ba xl.length ka] (wy.drewN n') fun e w' => e = .returned (.bool true) ∧ ∃ n, w' = (wy.drewN n').drewN n from by
                have h := strings_any (wy.drewN n') Bb Ba kb ka xl xl (lnb.ls.keep (Keeps.drewN _ _ _)) (lna.ls.keep (Keeps.drewN _ _ _)) (by have := lnb.ll; omega) (by have := lnb.ll; omega)
                rw [decide_eq_true rfl] at h
                exact h))
              clear lna lnb hsry
              go_wp2_with fail
              go_quiet ((go_at_call 9; (with_reducible refine (HS.out _).mono ?_); exact fun e w3 h => ⟨h.1, h.2.elim fun n' hn => ⟨_, hn.trans ((World.drewN_drewN _ _ _).trans (congrArg wy.drewN (Nat.add_assoc _ _ _)))⟩⟩))
              go_wp2_with fail
              go_roundw
              case rel => exact ⟨kk + 1, n + nq, by omega, by go_num, by simp [World.drewN_drewN]⟩
              case measure => simp [intOf]; omega
          · have hlk' : ¬ (kk : Int) < t.length := by omega
            have hbe : Below w.heap.size w (wy.drewN n) := below_drewN hby n
            clear HVY HW2 hvu hsry
            go_wp2_with fail
            go_at_call 5
            with_reducible refine (HW3.out n).mono ?_
            rintro e w2 ⟨rfl, hb2⟩
            go_wp2_with fail
            go_ret
            exact ⟨rfl, hbe.trans (hb2.mono hbe.size)⟩
      · have hx1 : (cd == 0) = false := by simpa using hz
        have hx2 : (cd != 0) = true := by simpa using hz
        have hx3 : (cd == cd) = true := by simp
        clear hmv hz HVY hsry HQZ
        go_wp2_with fail
        go_at_call 5
        with_reducible refine HW2.out.mono ?_
        rintro e w2 ⟨rfl, hb2⟩
        go_wp2_with fail
        go_ret
        exact ⟨rfl, hby.trans (hb2.mono hby.size)⟩
end Go.Proofs.YtjfckjonfpkphaaDoor
