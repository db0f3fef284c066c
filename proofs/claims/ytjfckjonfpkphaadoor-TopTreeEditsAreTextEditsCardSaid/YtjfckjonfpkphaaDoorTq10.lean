/-
  Tree patches: walk of 'Apply' at a patch with one edit, second part.
-/
import Derived.Test.YtjfckjonfpkphaaDoorTq9
namespace Go.Proofs.YtjfckjonfpkphaaDoor
open Go.RowKit Go.V Go.Shelf
set_option linter.unusedVariables false

theorem vlF_len {t : List Tr.F} (h : (Tr.vlF t).1 = 0) : t.length ≤ 24 := (Tr.vlF_ok h).2.len
set_option maxRecDepth 100000 in
set_option maxHeartbeats 16000000 in
theorem tapply_any (w : World) (hm : Mx w) (p : List UInt8) (A : Option Addr) (k : Nat) (l : List Tp.H) (hv : HvV w Free A l) (h0 : 0 < l.length) (hl : l.length ≤ 9223372036854775807) (hk : l.length ≤ k)
    (cb : Nat) (hB : Blk w cb 58 (chC p A l.length k)) (B : Option Addr) (c : Nat) (t : List Tr.F) (ht : VfV w Free B t) (hlt : t.length ≤ c) (hok : (Tr.vlF t).1 = 0) (m0 : Nat) (hm0 : m0 < t.length) (hpm : p = (Tr.it t m0).path) :
    Calls Tryd.prog 7 #[.agg #[.slice (some ⟨cb, 0, none⟩) 1 1], .agg #[.slice B t.length c]] w (TaPost w t m0 (Tp.apF l (Tr.it t m0).lines)) := by
  obtain ⟨hz0, vok⟩ := Tr.vlF_ok hok
  have hp : Tr.pathOk p = true := by rw [hpm]; exact vok.path m0 hm0
  have HVP := Lib.hid (fun (w1 : World) (hb : Below w.heap.size w w1) => vpatch_any w1 (hm.below hb) p hp A k l (hv.keep (free_below hb)) h0 hl hk cb (hB.below hb hB.lt))
  have HTS := Lib.hid (fun (w1 : World) (hb : Below w.heap.size w w1) => (show Calls Tryd.prog 18 #[.agg #[.slice B t.length c], .int .i64 (-2)] w1 (FaultPost w1 (0, 0)) from by
    have h := tsecond_any w1 (hm.below hb) B c t (-2) (ht.keep (free_below hb)) (by have := vok.len; omega) hlt
    rw [hz0] at h
    exact h))
  have HCY := Lib.hid (fun (w1 : World) (hb : Below w.heap.size w w1) => copyTree_any w1 B c t (ht.keep (free_below hb)) (by have := vok.len; omega) (fun i hi => by have := (vok.lines i hi).len; omega))
  have HMK := Lib.hid (fun (w1 : World) (hb : Below w.heap.size w w1) => make1_any w1 A k l (hv.keep (free_below hb)) hl hk t m0 p hpm hm0 vok.srt (vok.lines m0 hm0) vok.len)
  have HB := Lib.hid (fun (w1 : World) (hb : Below w.heap.size w w1) => hB.below hb hB.lt)
  have HQ1 := Lib.hid (Tp.apF_v (l := l) (t := (Tr.it t m0).lines))
  have HQZ := Lib.hid (Tp.apF_zero (l := l) (t := (Tr.it t m0).lines))
  have HS := Lib.hid (secF.eq_1 (Tp.vlF l) 0)
  generalize Tp.apF l (Tr.it t m0).lines = q at *
  clear hv hB ht hp hpm hm vok hz0 hok
  have st0 := TaSt.new w cb B t.length c
  go_enter Tryd.func7, Tryd.ntmps7
  go_wp2_with fail
  go_at_call 17
  with_reducible refine (HVP.out _ st0.bel).mono ?_
  rintro e w1 ⟨rfl, hb1⟩
  have st := st0.below hb1
  clear HVP st0 hb1
  obtain ⟨p0, p1, p2, p3, p4⟩ := st.facts
  obtain ⟨f0, f1, f2⟩ := st.frz
  obtain ⟨l0, l1, l2, l3⟩ := st.lts
  by_cases hbad : (Tp.vlF l).1 ≠ 0
  · have H := Lib.hid (HQ1.out hbad)
    have HSS := Lib.hid (HS.out.trans (if_pos hbad))
    rw [HSS.out]
    have hx1 : ((Tp.vlF l).1 == 0) = false := by simpa using hbad
    have hx2 : ((Tp.vlF l).1 != 0) = true := by simpa using hbad
    have HNZ := Lib.hid hbad
    clear hbad HQ1 HQZ HS HTS HCY HMK HB HSS
    generalize Tp.vlF l = v at *
    obtain ⟨cd, ix⟩ := v
    simp only at *
    go_wp2_with fail
    go_region
    all_goals
      go_wp2_with fail
      obtain ⟨k1, k2, k3⟩ := st.put (.slice none 0 0) (.int .i64 cd) (.int .i64 0)
      refine bodyPost_ret (results_cc rfl _ _ (w.heap.size + 1 + 1) (w.heap.size + 1 + 1 + 1) (.slice none 0 0) (.int .i64 cd) (.int .i64 0) rfl rfl (k1.alloc _).drew (k2.alloc _).drew) rfl ?_
      exact ⟨below_drew' (k3.alloc (by simp [World.setCell]; omega) _), .inl ⟨by rw [H.out]; exact HNZ.out, 0, by rw [H.out]⟩⟩
  · have hz := Classical.not_not.1 hbad
    rw [HS.out.trans (if_neg hbad)]
    have st1 := st.below (below_alloc1 w1 (.cells #[.int .i64 0, .int .i64 0] 29))
    have HT2 := Lib.hid (HTS.out _ st1.bel)
    clear hbad HQ1 HS HTS st hz
    go_wp2_with fail
    go_at_call 18
    with_reducible refine HT2.out.mono ?_
    rintro e w2 ⟨rfl, hb2⟩
    have st2 := (st1.below hb2).below (below_alloc1 w2 (.cells #[.int .i64 0, .int .i64 0] 29))
    clear HT2 st1 hb2 p0 p1 p2 p3 p4 f0 f1 f2 l0 l1 l2 l3
    obtain ⟨p0, p1, p2, p3, p4⟩ := st2.facts
    obtain ⟨l0, l1, l2, l3⟩ := st2.lts
    have HC2 := Lib.hid (HCY.out _ st2.bel)
    clear HCY
    go_wp2_with fail
    go_at_call 19
    with_reducible refine HC2.out.mono ?_
    rintro e w3 ⟨Ac, cc, xs, rfl, ot, hb3⟩
    have hsz2 : w.heap.size + 4 ≤ (w2.alloc (.cells #[.int .i64 0, .int .i64 0] 29)).heap.size := st2.lts.2.2.2
    have st3 := (st2.below hb3).below (below_alloc1 w3 (.cells #[.slice Ac t.length cc] 24))
    have otX : OwnT w3 (w.heap.size + 4) (Under (w.heap.size + 4)) Ac cc t xs := ⟨own_more ot.own hsz2, ot.rows.mono (FlR.keep ((Keeps.refl _ _).into fun b hb => by
      rcases hb with hb | hb
      · exact .inl (Nat.lt_of_lt_of_le hb hsz2)
      · exact .inr hb))⟩
    have hG4 : w.heap.size + 4 ≤ w3.heap.size := Nat.le_trans hsz2 hb3.size
    clear HC2 st2 hb3 ot p0 p1 p2 p3 p4 l0 l1 l2 l3
    have bG := Blk.new w3 24 #[.slice Ac t.length cc]
    have otB : OwnT (w3.alloc (.cells #[.slice Ac t.length cc] 24)) (w.heap.size + 4) (Under (w.heap.size + 4)) Ac cc t xs := ⟨otX.own.alloc _, otX.rows.mono (FlR.keep (Keeps.alloc _ _ _))⟩
    have hcc : t.length ≤ cc := by
      obtain ⟨_, _, _, _, _, _, h8, _⟩ := own_blk otX.own (by omega)
      exact h8
    have hGne : ∀ (W : World) (cur : Array Value) (bb : Nat), Blk W w3.heap.size 24 #[.slice Ac t.length cc] → Blk W bb 36 cur → w3.heap.size ≠ bb := fun W cur bb h1 h2 => Blk.ne_ h1 h2 (by decide)
    obtain ⟨p0, p1, p2, p3, p4⟩ := st3.facts
    obtain ⟨l0, l1, l2, l3⟩ := st3.lts
    clear otX
    go_wp2_with fail
    go_loopw [31] (fun iv wr => TaSt w wr cb B t.length c ∧ Blk wr w3.heap.size 24 #[.slice Ac t.length cc] ∧ (iv = .int .i64 0 ∧ OwnT wr (w.heap.size + 4) (Under (w.heap.size + 4)) Ac cc t xs ∨ iv = .int .i64 1 ∧ Hid (q.2.1 = 0 ∧ VfV wr (Under (w.heap.size + 4)) Ac (ed t m0 q.1)))) (fun iv _ => 1 - (intOf iv).toNat)
    case atStart => exact ⟨st3, bG, .inl ⟨rfl, otB⟩⟩
    case round =>
      clear st3 bG otB p0 p1 p2 p3 p4 l0 l1 l2 l3
      obtain ⟨st, bG, hc⟩ := hrel
      obtain ⟨wo, rfl⟩ : ∃ wo : World, wo = wr := ⟨_, rfl⟩
      obtain ⟨p0, p1, p2, p3, p4⟩ := st.facts
      obtain ⟨f0, f1, f2⟩ := st.frz
      obtain ⟨l0, l1, l2, l3⟩ := st.lts
      have g0 := (bG.cell 0).trans rfl
      have gl := bG.lt
      rcases hc with ⟨rfl, ot⟩ | ⟨rfl, HE⟩
      · have bB := HB.out _ st.bel
        have c0 := (bB.cell 0).trans rfl
        have c1 := (bB.cell 1).trans rfl
        have c2 := (bB.cell 2).trans rfl
        have c3 := (bB.cell 3).trans rfl
        have c4 := (bB.cell 4).trans rfl
        have cl := bB.lt
        have hal := below_alloc1 wo (.cells (chC p A l.length k) 58)
        have st1 := st.below hal
        obtain ⟨bb, cur, hA, _, hgb, hbk, _⟩ := own_blk ot.own (by omega)
        have otA : OwnT (wo.alloc (.cells (chC p A l.length k) 58)) (w.heap.size + 4) (Under (w.heap.size + 4)) Ac cc t xs := ⟨ot.own.alloc _, ot.rows.mono (FlR.keep (Keeps.alloc _ _ _))⟩
        have bGA := bG.alloc (.cells (chC p A l.length k) 58)
        have hbkA := hbk.alloc (.cells (chC p A l.length k) 58)
        have htv : VfV (wo.alloc (.cells (chC p A l.length k) 58)) Free Ac t := ⟨xs, SA.of_own otA.own (fun b hb => (by unfold Free at hb; exact hb.elim)), otA.rows.mono (FlR.keep ((Keeps.refl _ _).into fun b hb => (by unfold Free at hb; exact hb.elim)))⟩
        have hne := hGne wo cur bb bG hbk
        subst hA
        have HM2 := Lib.hid (HMK.out _ st1.bel w3.heap.size bb cc cur bGA hbkA htv)
        have HOT := Lib.hid (And.intro otA (And.intro hgb hne))
        clear ot otA hal bB htv HMK hGne hbkA hgb
        go_wp2_with fail
        go_at_call 20
        with_reducible refine HM2.out.mono ?_
        rintro e w5 ⟨rfl, hpost⟩
        clear c0 c1 c2 c3 c4 cl g0 gl p0 p1 p2 p3 p4 f0 f1 f2 l0 l1 l2 l3
        rcases hpost with ⟨hnz, hb5⟩ | ⟨hz, w6, A5, c5, rfl, hb6, hc5, hs5⟩
        · have st2 := st1.below hb5
          obtain ⟨p0, p1, p2, p3, p4⟩ := st2.facts
          obtain ⟨f0, f1, f2⟩ := st2.frz
          obtain ⟨l0, l1, l2, l3⟩ := st2.lts
          have hx1 : (q.2.1 == 0) = false := by simpa using hnz
          have hx2 : (q.2.1 != 0) = true := by simpa using hnz
          have HNZ := Lib.hid hnz
          clear hnz HM2 HOT st st1 hb5 HQZ
          obtain ⟨q1, cd, ix⟩ := q
          simp only at *
          go_wp2_with fail
          obtain ⟨k1, k2, k3⟩ := st2.put (.slice none 0 0) (.int .i64 cd) (.int .i64 0)
          refine bodyPost_ret (results_cc rfl _ _ (w.heap.size + 1 + 1) (w.heap.size + 1 + 1 + 1) (.slice none 0 0) (.int .i64 cd) (.int .i64 0) rfl rfl k1 k2) rfl ?_
          exact ⟨k3, .inl ⟨HNZ.out, 0, rfl⟩⟩
        · obtain ⟨otA, hgb, hne⟩ := HOT.out
          have hq := (HQZ.out hz).2
          have hev := ed_view otA (fun b hb => hb) rfl hm0 hb6 hc5 hq hs5
          have st2 := st1.below hb6
          have st3 : TaSt w (w6.setCell ⟨bb, m0 * 2 + 1, none⟩ (.slice A5 q.1.length c5)) cb B t.length c :=
            ⟨st2.b0.far (by simp only; omega) _, st2.b1.far (by simp only; omega) _, st2.b2.far (by simp only; omega) _, st2.b3.far (by simp only; omega) _, st2.bel.setCell (by simp only; omega) _⟩
          have bG2 := (bGA.below hb6 bGA.lt).far (p := ⟨bb, m0 * 2 + 1, none⟩) hne (.slice A5 q.1.length c5)
          have hx1 : (q.2.1 == 0) = true := by simpa using hz
          have hx2 : (q.2.1 != 0) = false := by simpa using hz
          have HEV := Lib.hid (And.intro hz hev)
          clear HM2 HOT st st1 hb6 HQZ hev hs5 otA hgb hne hq st2 bG bGA hbk
          generalize w6.setCell ⟨bb, m0 * 2 + 1, none⟩ (.slice A5 q.1.length c5) = w7 at *
          obtain ⟨p0, p1, p2, p3, p4⟩ := st3.facts
          obtain ⟨l0, l1, l2, l3⟩ := st3.lts
          go_wp2_with fail
          go_roundw
          case rel => exact ⟨st3, bG2, .inr ⟨rfl, HEV⟩⟩
          case measure => simp [intOf]
      · obtain ⟨hz, hev⟩ := HE.out
        have HZ := Lib.hid hz
        have HV2 := Lib.hid hev
        clear hz hev HE
        go_wp2_with fail
        obtain ⟨k1, k2, k3⟩ := st.put (.slice Ac t.length cc) (.int .i64 0) (.int .i64 0)
        refine bodyPost_ret (results_cc rfl _ _ (w.heap.size + 1 + 1) (w.heap.size + 1 + 1 + 1) (.slice Ac t.length cc) (.int .i64 0) (.int .i64 0) rfl rfl k1 k2) rfl ?_
        have hU : ∀ n, n < 4 → Under (w.heap.size + 4) (w.heap.size + n) := fun n h => by unfold Under; omega
        exact ⟨k3, .inr ⟨HZ.out, Ac, cc, rfl, hcc, (HV2.out.keep (((Keeps.setCell wo _ ⟨w.heap.size + 1 + 1, 0, none⟩ _ (hU 2 (by omega))).trans (Keeps.setCell _ _ ⟨w.heap.size + 1 + 1 + 1, 0, none⟩ _ (hU 3 (by omega)))).trans (Keeps.setCell _ _ ⟨w.heap.size + 1 + 1 + 1, 1, none⟩ _ (hU 3 (by omega))))).keep ((Keeps.refl _ _).into fun b hb => Nat.lt_of_lt_of_le hb (by omega))⟩⟩
end Go.Proofs.YtjfckjonfpkphaaDoor
