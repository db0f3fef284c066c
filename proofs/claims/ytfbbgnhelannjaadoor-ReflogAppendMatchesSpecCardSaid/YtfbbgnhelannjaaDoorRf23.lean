/-
  References: walk of 'Batch'.
-/
import Derived.Test.YtfbbgnhelannjaaDoorRf16
namespace Rf
/-- What 'Batch' answers. -/
def btF (s : List R) (l : List U) : List R × (Int × Int) := if (rfF s).1 ≠ 0 then ([], rfF s) else if 30 < l.length then ([], (2, -2)) else batF s l 0
theorem batF_end (s : List R) (l : List U) (i k : Nat) (h : l.length ≤ i) : batF s (l.drop i) k = (s, (0, 0)) := by rw [List.drop_eq_nil_of_le h]; rfl
theorem batF_bad (s : List R) (l : List U) (i : Nat) (h : i < l.length) (hc : upC s l[i] ≠ 0) : batF s (l.drop i) i = ([], (upC s l[i], (i : Int))) := by
  rw [List.drop_eq_getElem_cons h, batF, if_pos hc]
theorem batF_next (s : List R) (l : List U) (i : Nat) (h : i < l.length) (hc : upC s l[i] = 0) : batF s (l.drop i) i = batF (upS s l[i]) (l.drop (i + 1)) (i + 1) := by
  rw [List.drop_eq_getElem_cons h, batF, if_neg (by omega)]
end Rf
namespace Go.Proofs.YtfbbgnhelannjaaDoor
open Go.RowKit Go.V Go.Shelf Go.Lib
set_option linter.unusedVariables false

/-- The state of 'Batch': the box and the results. -/
structure BtSt (w wr : World) (A : Option Addr) (n k : Nat) : Prop where
  bx : Blk wr w.heap.size 26 #[.slice A n k]
  r1 : Blk wr (w.heap.size + 1) 26 #[.slice none 0 0]
  r2 : Blk wr (w.heap.size + 2) 30 #[.int .i64 0, .int .i64 0]
  bel : Below w.heap.size w wr
section
variable {w wr w' : World} {A : Option Addr} {n k : Nat}
theorem BtSt.below (h : BtSt w wr A n k) (hb : Below wr.heap.size wr w') : BtSt w w' A n k :=
  ⟨h.bx.below hb h.bx.lt, h.r1.below hb h.r1.lt, h.r2.below hb h.r2.lt, h.bel.trans (hb.mono h.bel.size)⟩
theorem BtSt.touch (h : BtSt w wr A n k) {g : Nat} {row : Option Nat} (ht : TouchS wr w' g row) (hg : w.heap.size + 3 ≤ g) (hr : ∀ b, row = some b → w.heap.size + 3 ≤ b) : BtSt w w' A n k := by
  have hl := h.r2.lt
  exact ⟨h.bx.touchS ht (by omega) (fun e => by have := hr _ e.symm; omega), h.r1.touchS ht (by omega) (fun e => by have := hr _ e.symm; omega), h.r2.touchS ht (by omega) (fun e => by have := hr _ e.symm; omega),
    h.bel.trans (ht.below (by omega) (by omega) (fun k hk => by have := hr k hk; omega))⟩
theorem BtSt.facts (h : BtSt w wr A n k) : wr.cell? ⟨w.heap.size, 0, none⟩ = some (.slice A n k) ∧ wr.cell? ⟨w.heap.size + 1, 0, none⟩ = some (.slice none 0 0) ∧ wr.frozen? ⟨w.heap.size + 1, 0, none⟩ = false ∧
    wr.cell? ⟨w.heap.size + 2, 0, none⟩ = some (.int .i64 0) ∧ wr.cell? ⟨w.heap.size + 2, 1, none⟩ = some (.int .i64 0) ∧ wr.frozen? ⟨w.heap.size + 2, 0, none⟩ = false ∧ wr.frozen? ⟨w.heap.size + 2, 1, none⟩ = false ∧
    w.heap.size < wr.heap.size ∧ w.heap.size + 1 < wr.heap.size ∧ w.heap.size + 2 < wr.heap.size :=
  ⟨(h.bx.cell 0).trans rfl, (h.r1.cell 0).trans rfl, h.r1.frozen 0, (h.r2.cell 0).trans rfl, (h.r2.cell 1).trans rfl, h.r2.frozen 0, h.r2.frozen 1, h.bx.lt, h.r1.lt, h.r2.lt⟩
end
set_option maxRecDepth 100000 in
set_option maxHeartbeats 32000000 in
theorem batch_any (w : World) (hm : Mx w) (A : Option Addr) (k : Nat) (s : List Rf.R) (hv : SA w Free A (rsV s)) (hl64 : s.length ≤ 9223372036854775807) (hk : s.length ≤ k)
    (A2 : Option Addr) (k2 : Nat) (l : List Rf.U) (hv2 : SA w Free A2 (usV l)) :
    Calls Tryd.prog 25 #[.agg #[.slice A s.length k], .slice A2 l.length k2] w (UpPost w (Rf.btF s l)) := by
  have HV := Lib.hid (fun (w1 : World) (hb : Below w.heap.size w w1) => hv.keep (free_below hb))
  have HV2 := Lib.hid (fun (w1 : World) (hb : Below w.heap.size w w1) => hv2.keep (free_below hb))
  have HM := Lib.hid hm.fun_
  have HPF := Lib.hid (Rf.btF.eq_1 s l)
  have HC := Lib.hid (fun (w1 : World) (hb : Below w.heap.size w w1) => validate_any w1 (HM.out _ hb) A k s (HV.out _ hb) hl64 hk)
  clear hv hm hv2
  generalize hr : Rf.btF s l = r at *
  clear hr
  have st0 : BtSt w (((w.alloc (.cells #[.slice A s.length k] 26)).alloc (.cells #[.slice none 0 0] 26)).alloc (.cells #[.int .i64 0, .int .i64 0] 30)) A s.length k :=
    ⟨((Blk.new _ _ _).alloc _).alloc _, (blk_new1 _ _ _ _).alloc _, blk_new2 _ _ _ _ _, below_alloc3 _ _ _ _⟩
  go_enter Tryd.func25, Tryd.ntmps25
  go_wp2_with fail
  go_at_call 29
  refine (HC.out _ st0.bel).mono ?_
  rintro e w1 ⟨rfl, hb1⟩
  have st1 := st0.below hb1
  obtain ⟨p0, p1, p2, p3, p4, p5, p6, l0, l1, l2⟩ := st1.facts
  clear hb1 HC st0
  by_cases hbad : (Rf.rfF s).1 ≠ 0
  · have H := Lib.hid (show r = ([], Rf.rfF s) from by rw [HPF.out, if_pos hbad])
    have hb1 : ((Rf.rfF s).1 == 0) = false := by simpa using hbad
    have hb2 : ((Rf.rfF s).1 != 0) = true := by simpa using hbad
    clear hbad HPF HV HV2
    generalize Rf.rfF s = q at *
    obtain ⟨cd, ix⟩ := q
    simp only at hb1 hb2
    have HR : Hid (∀ w', Below w.heap.size w w' → UpPost w r (.returned (.tuple #[.agg #[.slice none 0 0], .agg #[.int .i64 cd, .int .i64 ix]])) w') := Lib.hid fun w' hb => UpPost.no H.out hb
    clear H
    generalize UpPost w r = R at *
    go_wp2_with fail
    go_region
    all_goals
      go_wp2_with fail
      obtain ⟨k1, k2, k3⟩ := put12 st1.r1 st1.r2 (by omega) (.slice none 0 0) (.int .i64 cd) (.int .i64 ix)
      refine bodyPost_ret (results_26_30 rfl _ _ (w.heap.size + 1) (w.heap.size + 2) (.slice none 0 0) (.int .i64 cd) (.int .i64 ix) rfl rfl ((k1.alloc _).drewN 1) ((k2.alloc _).drewN 1)) rfl ?_
      refine HR.out _ ?_
      exact below_drewN' ((k3 _ _ (by omega) (by omega) st1.bel).alloc (by simp [World.setCell]; omega) _) 1
  · obtain ⟨hz, hok⟩ := Rf.rfF_ok (by simpa using hbad)
    have HP2 := Lib.hid (HPF.out.trans (if_neg hbad))
    rw [hz]
    have st2 := st1.below (below_alloc1 w1 (.cells #[.int .i64 0, .int .i64 0] 30))
    clear hz hbad p0 p1 p2 p3 p4 p5 p6 l0 l1 l2 HPF
    obtain ⟨p0, p1, p2, p3, p4, p5, p6, l0, l1, l2⟩ := st2.facts
    by_cases h30 : 30 < l.length
    · have H := Lib.hid (HP2.out.trans (if_pos h30))
      have h30' : (30 : Int) < l.length := by omega
      have HR : Hid (∀ w', Below w.heap.size w w' → UpPost w r (.returned (.tuple #[.agg #[.slice none 0 0], .agg #[.int .i64 2, .int .i64 (-2)]])) w') := Lib.hid fun w' hb => UpPost.no H.out hb
      clear H HP2 h30
      generalize UpPost w r = R at *
      go_wp2_with fail
      obtain ⟨k1, k2, k3⟩ := put12 st2.r1 st2.r2 (by omega) (.slice none 0 0) (.int .i64 2) (.int .i64 (-2))
      refine bodyPost_ret (results_26_30 rfl _ _ (w.heap.size + 1) (w.heap.size + 2) (.slice none 0 0) (.int .i64 2) (.int .i64 (-2)) rfl rfl k1 k2) rfl ?_
      exact HR.out _ (k3 _ _ (by omega) (by omega) st2.bel)
    have h30' : ¬ (30 : Int) < l.length := by omega
    have HP3 := Lib.hid (HP2.out.trans (if_neg h30))
    clear HP2
    have hsl := hok.len
    have HCY := Lib.hid (copy_any _ A k s (HV.out _ st2.bel) (by omega))
    have HOK := Lib.hid hok
    clear HV st1 hok
    go_wp2_with fail
    go_at_call 44
    refine HCY.out.mono ?_
    rintro e w3 ⟨A3, c3, rfl, hown3, hb3⟩
    have st4' := st2.below hb3
    have st4 := st4'.below (below_alloc1 w3 (.cells #[.slice A3 s.length c3] 26))
    have hz3 := hb3.size
    have l4' := st4'.r2.lt
    have l2' := st2.r2.lt
    have rs4 : RSt (w3.alloc (.cells #[.slice A3 s.length c3] 26)) w3.heap.size (w1.alloc (.cells #[.int .i64 0, .int .i64 0] 30)).heap.size A3 c3 s := ⟨Blk.new _ _ _, hown3.alloc _, Nat.le_trans hz3 (by simp)⟩
    have hbase : w.heap.size + 3 ≤ (w1.alloc (.cells #[.int .i64 0, .int .i64 0] 30)).heap.size := by omega
    have hg3 : w.heap.size + 3 ≤ w3.heap.size := by omega
    clear p0 p1 p2 p3 p4 p5 p6 l0 l1 l2
    obtain ⟨p0, p1, p2, p3, p4, p5, p6, l0, l1, l2⟩ := st4.facts
    clear hb3 HCY st2 st4' l4' l2' hz3 hown3
    go_wp2_with fail
    clear p0 p1 p2 p3 p4 p5 p6 l0 l1 l2
    generalize (w1.alloc (.cells #[.int .i64 0, .int .i64 0] 30)).heap.size = base at *
    obtain ⟨gc, hgc⟩ : ∃ gc, gc = w3.heap.size := ⟨_, rfl⟩
    simp only [← hgc] at *
    go_loopw [27] (fun iv wr => ∃ i : Nat, i ≤ l.length ∧ iv = .int .i64 i ∧ BtSt w wr A s.length k ∧ ∃ A5 c5 s5, RSt wr gc base A5 c5 s5 ∧ Hid (Rf.Ok s5 ∧ r = Rf.batF s5 (l.drop i) i)) (fun iv _ => l.length - (intOf iv).toNat)
    case atStart => exact ⟨0, Nat.zero_le _, rfl, st4, A3, c3, s, rs4, Lib.hid ⟨HOK.out, HP3.out⟩⟩
    case round =>
      obtain ⟨i, hi, rfl, st, A5, c5, s5, rs5, HB⟩ := hrel
      obtain ⟨wo, rfl⟩ : ∃ wo : World, wo = wr := ⟨_, rfl⟩
      obtain ⟨p0, p1, p2, p3, p4, p5, p6, l0, l1, l2⟩ := st.facts
      have g0 : wo.cell? ⟨gc, 0, none⟩ = some (.slice A5 s5.length c5) := (rs5.blk.cell 0).trans rfl
      have gl := rs5.blk.lt
      by_cases hlt : i < l.length
      · have hlt' : (i : Int) < l.length := by omega
        obtain ⟨b, off, e, hb, _, d0, d1, d2⟩ := usV_row (HV2.out _ st.bel) i hlt
        subst e
        have HBAD : Hid (Rf.upC s5 l[i] ≠ 0 → r = ([], (Rf.upC s5 l[i], (i : Int)))) := Lib.hid fun h => by rw [HB.out.2, Rf.batF_bad s5 l i hlt h]
        have HNX : Hid (Rf.upC s5 l[i] = 0 → Rf.Ok (Rf.upS s5 l[i]) ∧ r = Rf.batF (Rf.upS s5 l[i]) (l.drop (i + 1)) (i + 1)) := Lib.hid fun h => ⟨HB.out.1.up (Rf.upC_ok.1 h), by rw [HB.out.2, Rf.batF_next s5 l i hlt h]⟩
        have HOK5 := Lib.hid HB.out.1
        clear HB
        generalize l[i] = u at *
        obtain ⟨un, uo, uw⟩ := u
        simp only at d0 d1 d2
        have st2 := st.below (below_alloc1 wo (.cells #[strV un, .int .i64 uo, .int .i64 uw] 28))
        have rs2 := rs5.below (below_alloc1 wo (.cells #[strV un, .int .i64 uo, .int .i64 uw] 28))
        have HST := Lib.hid (step_any _ (HM.out _ st2.bel) _ _ _ _ s5 ⟨un, uo, uw⟩ rs2 HOK5.out)
        have hrow : ∀ b, (Value.slice A5 s5.length c5).ownBlock = some b → w.heap.size + 3 ≤ b := fun b hb => by have := (rs5.own.lt b hb).1; omega
        go_wp2_with fail
        go_at_call 45
        refine HST.out.mono ?_
        rintro e w5 ⟨A6, c6, rfl, rs6, ht6, _⟩
        have st6 := st2.touch ht6 (by omega) hrow
        clear ht6 HST st2 rs2 rs5 g0 gl p0 p1 p2 p3 p4 p5 p6 l0 l1 l2 d0 d1 d2 st
        obtain ⟨p0, p1, p2, p3, p4, p5, p6, l0, l1, l2⟩ := st6.facts
        by_cases hc : Rf.upC s5 ⟨un, uo, uw⟩ = 0
        · rw [if_pos hc] at rs6
          have HE := Lib.hid (HNX.out hc)
          rw [hc]
          clear HNX HBAD hc
          go_wp2_with fail
          go_roundw
          case rel => exact ⟨i + 1, by omega, by go_num, st6, _, _, _, rs6, HE⟩
          case measure => simp [intOf]; omega
        · have HR : Hid (∀ w', Below w.heap.size w w' → UpPost w r (.returned (.tuple #[.agg #[.slice none 0 0], .agg #[.int .i64 (Rf.upC s5 ⟨un, uo, uw⟩), .int .i64 i]])) w') := Lib.hid fun w' hb => UpPost.no (HBAD.out hc) hb
          have hc1 : (Rf.upC s5 ⟨un, uo, uw⟩ != 0) = true := by simpa using hc
          have hc2 : (Rf.upC s5 ⟨un, uo, uw⟩ == 0) = false := by simpa using hc
          clear HNX HBAD hc rs6
          generalize Rf.upC s5 ⟨un, uo, uw⟩ = cd at *
          go_wp2_with fail
          obtain ⟨k1, k2, k3⟩ := put12 st6.r1 st6.r2 (by omega) (.slice none 0 0) (.int .i64 cd) (.int .i64 i)
          refine bodyPost_ret (results_26_30 rfl _ _ (w.heap.size + 1) (w.heap.size + 2) (.slice none 0 0) (.int .i64 cd) (.int .i64 i) rfl rfl k1 k2) rfl ?_
          exact HR.out _ (k3 _ _ (by omega) (by omega) st6.bel)
      · obtain rfl : i = l.length := by omega
        have H := Lib.hid (show r = (s5, (0, 0)) from by rw [HB.out.2, Rf.batF_end s5 l _ _ (Nat.le_refl _)])
        have hcap : s5.length ≤ c5 := by
          obtain ⟨A', c', e1, hcc, _⟩ := own_form rs5.own
          injection e1 with _ _ e3
          subst e3; exact hcc
        clear HB
        go_wp2_with fail
        obtain ⟨k1, k2, k3⟩ := put12 st.r1 st.r2 (by omega) (.slice A5 s5.length c5) (.int .i64 0) (.int .i64 0)
        refine bodyPost_ret (results_26_30 rfl _ _ (w.heap.size + 1) (w.heap.size + 2) (.slice A5 s5.length c5) (.int .i64 0) (.int .i64 0) rfl rfl k1 k2) rfl ?_
        rw [H.out]
        have hlo : ∀ b, (Value.slice A5 s5.length c5).ownBlock = some b → w.heap.size + 3 ≤ b := fun b hb => by have := (rs5.own.lt b hb).1; omega
        have hne1 : some (w.heap.size + 1) ≠ (Value.slice A5 s5.length c5).ownBlock := fun e => by have := hlo _ e.symm; omega
        have hne2 : some (w.heap.size + 2) ≠ (Value.slice A5 s5.length c5).ownBlock := fun e => by have := hlo _ e.symm; omega
        refine ⟨A5, c5, rfl, hcap, ?_, k3 _ _ (by omega) (by omega) st.bel⟩
        exact SA.of_own' (own_setCell (own_setCell (own_setCell rs5.own hne1 _) hne2 _) hne2 _) (fun b hb hU => by have := hlo b hb; unfold Under at hU; omega)
end Go.Proofs.YtfbbgnhelannjaaDoor
