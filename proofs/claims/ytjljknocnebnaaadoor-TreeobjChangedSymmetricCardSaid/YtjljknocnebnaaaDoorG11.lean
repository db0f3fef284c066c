/-
  File trees: walk of 'Write'.
-/
import Derived.Test.YtjljknocnebnaaaDoorG09
import Derived.Test.YtjljknocnebnaaaDoorG07
namespace Go.Proofs.YtjljknocnebnaaaDoor
open Go.RowKit Go.V Go.Shelf
set_option linter.unusedVariables false

set_option maxRecDepth 100000 in
set_option maxHeartbeats 32000000 in
theorem write_any (w : World) (hm : Mx w) (A : Option Addr) (k : Nat) (s : List Ob.S) (hv : StV w Free A s) (hl64 : s.length ≤ 9223372036854775807) (At : Option Addr) (kt : Nat) (t : List Tr.F) (hvt : VfV w Free At t) (hlt64 : t.length ≤ 9223372036854775807) (hkt : t.length ≤ kt) :
    Calls Tryd.prog 9 #[stV A s.length k, .agg #[.slice At t.length kt]] w (WrPost w (Tr.wrF s t)) := by
  have HV := Lib.hid hv
  have HT := Lib.hid (fun (w1 : World) (hb : Below w.heap.size w w1) => hvt.keep (free_below hb))
  have HC := Lib.hid (fun (w1 : World) (hb : Below w.heap.size w w1) => validate_any w1 A k s (hv.keep (free_below hb)) hl64)
  have HC2 := Lib.hid (fun (w1 : World) (hb : Below w.heap.size w w1) => tsecond_any w1 (hm.below hb) At kt t (-1) (HT.out _ hb) hlt64 hkt)
  have HF1 := Lib.hid (Tr.wrF_st (s := s) (t := t))
  have HF2 := Lib.hid (Tr.wrF_vl (s := s) (t := t))
  have HF3 := Lib.hid (Tr.wrF_no (s := s) (t := t))
  have HF4 := Lib.hid (Tr.wrF_ok (s := s) (t := t))
  have HSZ := Lib.hid (fun (h : (Ob.stF s).1 = 0) => Ob.stF_ok h)
  have HTZ := Lib.hid (fun (h : (Tr.vlF t).1 = 0) => Tr.vlF_ok h)
  clear hv hvt hm
  generalize hr : Tr.wrF s t = r at *
  clear hr
  have st0 : WrB w (((((w.alloc (.cells #[.slice A s.length k] 24)).alloc (.cells #[.slice At t.length kt] 27)).alloc (.cells #[.slice none 0 0] 24)).alloc (.cells #[.int .i64 0, .int .i64 0] 30)).alloc (.cells #[.slice none 0 0] 24)) At t.length kt A k s.length :=
    ⟨((((Blk.new _ _ _).alloc _).alloc _).alloc _).alloc _, (((blk_new1 _ _ _ _).alloc _).alloc _).alloc _, ((blk_new2 _ _ _ _ _).alloc _).alloc _,
      (by simpa using (Blk.new (((w.alloc (.cells #[.slice A s.length k] 24)).alloc (.cells #[.slice At t.length kt] 27)).alloc (.cells #[.slice none 0 0] 24)) 30 #[.int .i64 0, .int .i64 0]).alloc (.cells #[.slice none 0 0] 24)),
      (by simpa using Blk.new ((((w.alloc (.cells #[.slice A s.length k] 24)).alloc (.cells #[.slice At t.length kt] 27)).alloc (.cells #[.slice none 0 0] 24)).alloc (.cells #[.int .i64 0, .int .i64 0] 30)) 24 #[.slice none 0 0]),
      ((below_alloc3 _ _ _ _).alloc (by simp; omega) _).alloc (by simp; omega) _⟩
  go_enter Tryd.func9, Tryd.ntmps9
  go_wp2_with fail
  go_at_call 19
  with_reducible refine (HC.out _ st0.bel).mono ?_
  rintro e w1 ⟨rfl, hb1⟩
  have st1 := st0.below hb1
  obtain ⟨p0, p1, p2, p3, p4, p5, p6, p7, p8, l0, l1, l2, l3, l4⟩ := st1.facts
  clear hb1 HC st0
  by_cases hbad : (Ob.stF s).1 ≠ 0
  · have H := Lib.hid (HF1.out hbad)
    have hx1 : ((Ob.stF s).1 == 0) = false := by simpa using hbad
    have hx2 : ((Ob.stF s).1 != 0) = true := by simpa using hbad
    clear hbad HF1 HF2 HF3 HF4 HSZ HTZ HV HT HC2
    generalize Ob.stF s = q at *
    obtain ⟨cd, ix⟩ := q
    simp only at hx1 hx2
    have HR : Hid (∀ w', Below w.heap.size w w' → WrPost w r (.returned (.tuple #[.agg #[.slice none 0 0], .int .i64 0, .agg #[.int .i64 cd, .int .i64 ix]])) w') := Lib.hid fun w' hb => WrPost.no H.out hb
    clear H
    generalize WrPost w r = R at *
    go_wp2_with fail
    go_region
    all_goals
      go_wp2_with fail
      obtain ⟨k1, k2, k3⟩ := put12 st1.r1 st1.r2 (by omega) (.slice none 0 0) (.int .i64 cd) (.int .i64 ix)
      refine bodyPost_ret (results_24_t_28 rfl _ _ (w.heap.size + 2) (w.heap.size + 3) (.slice none 0 0) (.int .i64 cd) (.int .i64 ix) rfl rfl ((k1.alloc _).drewN 1) ((k2.alloc _).drewN 1)) rfl ?_
      refine HR.out _ ?_
      exact below_drewN ((k3 _ _ (by omega) (by omega) st1.bel).alloc (by simp [World.setCell]; omega) _) 1
  · obtain ⟨hz, hok⟩ := HSZ.out (by simpa using hbad)
    have hzero : (Ob.stF s).1 = 0 := by simpa using hbad
    have HF2 := Lib.hid (HF2.out hzero)
    have HF3 := Lib.hid (fun h2 c => HF3.out hzero (c := c) h2)
    have HF4 := Lib.hid (fun h2 x => HF4.out hzero (x := x) h2)
    rw [hz]
    have st2 := st1.below (below_alloc1 w1 (.cells #[.int .i64 0, .int .i64 0] 30))
    clear hz hbad hzero p0 p1 p2 p3 p4 p5 p6 p7 p8 l0 l1 l2 l3 l4 HF1 HSZ
    obtain ⟨p0, p1, p2, p3, p4, p5, p6, p7, p8, l0, l1, l2, l3, l4⟩ := st2.facts
    go_wp2_with fail
    go_at_call 20
    with_reducible refine (HC2.out _ st2.bel).mono ?_
    rintro e w2 ⟨rfl, hb2⟩
    have st3 := st2.below hb2
    clear p0 p1 p2 p3 p4 p5 p6 p7 p8 l0 l1 l2 l3 l4 HC2 hb2 st2 st1
    obtain ⟨p0, p1, p2, p3, p4, p5, p6, p7, p8, l0, l1, l2, l3, l4⟩ := st3.facts
    by_cases hbad : (Tr.vlF t).1 ≠ 0
    · have H := Lib.hid (HF2.out hbad)
      have hx1 : ((Tr.vlF t).1 == 0) = false := by simpa using hbad
      have hx2 : ((Tr.vlF t).1 != 0) = true := by simpa using hbad
      have hs : secF (Tr.vlF t) (-1) = ((Tr.vlF t).1, -1) := if_pos hbad
      rw [hs]
      clear hbad hs HF2 HF3 HF4 HTZ HV HT
      generalize (Tr.vlF t).1 = cd at *
      have HR : Hid (∀ w', Below w.heap.size w w' → WrPost w r (.returned (.tuple #[.agg #[.slice none 0 0], .int .i64 0, .agg #[.int .i64 cd, .int .i64 (-1)]])) w') := Lib.hid fun w' hb => WrPost.no H.out hb
      clear H
      generalize WrPost w r = R at *
      go_wp2_with fail
      go_region
      all_goals
        go_wp2_with fail
        obtain ⟨k1, k2, k3⟩ := put12 st3.r1 st3.r2 (by omega) (.slice none 0 0) (.int .i64 cd) (.int .i64 (-1))
        refine bodyPost_ret (results_24_t_28 rfl _ _ (w.heap.size + 2) (w.heap.size + 3) (.slice none 0 0) (.int .i64 cd) (.int .i64 (-1)) rfl rfl ((k1.alloc _).drewN 1) ((k2.alloc _).drewN 1)) rfl ?_
        refine HR.out _ ?_
        exact below_drewN ((k3 _ _ (by omega) (by omega) st3.bel).alloc (by simp [World.setCell]; omega) _) 1
    · have hzero : (Tr.vlF t).1 = 0 := by simpa using hbad
      obtain ⟨_, hvok⟩ := HTZ.out hzero
      have hs : secF (Tr.vlF t) (-1) = (0, 0) := if_neg hbad
      rw [hs]
      have HF3 := Lib.hid (HF3.out hzero)
      have HF4 := Lib.hid (HF4.out hzero)
      have st4 := st3.below (below_alloc1 w2 (.cells #[.int .i64 0, .int .i64 0] 30))
      clear hs hbad hzero p0 p1 p2 p3 p4 p5 p6 p7 p8 HF2 HTZ st3
      have HS0 := Lib.hid (st4.start HV.out)
      obtain ⟨p0, p1, p2, p3, p4, p5, p6, p7, p8, m0, m1, m2, m3, m4⟩ := st4.facts
      go_wp2_with fail
      have hsz : (w2.alloc (.cells #[.int .i64 0, .int .i64 0] 30)).heap.size = w2.heap.size + 1 := by simp
      rw [hsz] at HS0
      have hg5 : w.heap.size + 5 ≤ w2.heap.size + 1 := by omega
      have hz := Tr.pathsB_zero t
      have HPB := Lib.hid (Tr.pathsB_len hvok)
      have HPS := Lib.hid (Tr.pathsB_succ t)
      have HLS := Lib.hid (Tr.links_take t)
      have HPL := Lib.hid (fun i hi => Tr.pathOk_len (hvok.path i hi))
      have HLN := Lib.hid (fun i hi => Tr.lines_len (hvok.lines i hi))
      have HOA := Lib.hid (Tr.objs_at t)
      have hlen := hvok.len
      have HLL : Hid ((Tr.links t).length = t.length) := Lib.hid (by simp [Tr.links])
      have HIL : Hid (∀ (i : Nat) (h : i < (Tr.links t).length), I64 (Tr.links t)[i]) := Lib.hid (fun i h => by have := Tr.links_I64 t i h; unfold I64; omega)
      have HTO : Hid (Tr.treeO t = ⟨2, Tr.links t, Tr.pathsB t t.length⟩) := Lib.hid (by rw [Tr.pathsB_end]; rfl)
      have HOE := Lib.hid (Tr.objs_end t)
      clear hsz hvok hl64 l0 l1 l2 l3 l4 m0 m1 m2 m3 m4 p0 p1 p2 p3 p4 p5 p6 p7 p8 st4
      obtain ⟨i0, hi0, hz0, hz1, hz2⟩ := info_parts info3
      obtain ⟨j0, hj0, hy0, hy1, hy2⟩ := info_parts info5
      obtain ⟨W5, hW5⟩ : ∃ W5 : World, W5 = (w2.alloc (.cells #[.int .i64 0, .int .i64 0] 30)).alloc (.cells #[.int .i64 2, .slice none 0 0, .slice none 0 0] 54) := ⟨_, rfl⟩
      rw [← hW5] at HS0 ⊢
      generalize hgg : w2.heap.size + 1 = g at *
      clear hgg hW5
      go_loopw [37] (fun iv wr => ∃ (i : Nat) (A' : Option Addr) (k' : Nat) (s' : List Ob.S) (Al : Option Addr) (cl : Nat) (Ad : Option Addr) (cd : Nat), i ≤ t.length ∧ iv = .int .i64 i ∧ WrSt w wr g At t.length kt A' k' s' ((Tr.links t).take i) (Tr.pathsB t i) Al cl Ad cd ∧ Ob.StOk s' ∧ Hid (Tr.putAll s (Tr.objs t) = Tr.putAll s' ((Tr.objs t).drop i))) (fun iv _ => t.length - (intOf iv).toNat)
      case atStart => exact ⟨0, A, k, s, none, 0, none, 0, Nat.zero_le _, rfl, by rw [hz, List.take_zero]; exact HS0.out, hok, Lib.hid (by simp)⟩
      case round =>
        obtain ⟨i, A', k', s', Al, cl, Ad, cd, hi, rfl, st, hok', HP⟩ := hrel
        obtain ⟨wo, rfl⟩ : ∃ wo : World, wo = wr := ⟨_, rfl⟩
        clear HS0 hz hok
        by_cases hlt2 : i < t.length
        · have hlt' : (i : Int) < t.length := by omega
          have hi0' : (0 : Int) ≤ i := by omega
          obtain ⟨b, off, A1, k1, e, hb, _, d0, d1, hln⟩ := (HT.out _ st.rt.bel).row i hlt2
          subst e
          have h1 := HPL.out i hlt2
          obtain ⟨h2, h3⟩ := HLN.out i hlt2
          have HPS2 := Lib.hid (HPS.out i hlt2)
          have HLS2 := Lib.hid (HLS.out i hlt2)
          have h4 := HPB.out i hi
          have H5 : Hid (((Tr.links t).take i).length = i) := Lib.hid (by rw [List.length_take, HLL.out]; omega)
          have HPQ := Lib.hid (HP.out.trans (congrArg (Tr.putAll s') (HOA.out i hlt2)))
          have hs40 := hok'.len
          have HPA := Lib.hid (Tr.all_put (s := s') (Tr.blobO (Tr.it t i).lines) ((Tr.objs t).drop (i + 1)))
          have hbl : (Tr.blobO (Tr.it t i).lines).data = Tr.joined (Tr.it t i).lines := rfl
          have stq := st.below (below_alloc1 wo (.cells #[strV (Tr.it t i).path, .slice A1 (Tr.it t i).lines.length k1] 49))
          have hlnq := hln.keep (Keeps.alloc wo Free (.cells #[strV (Tr.it t i).path, .slice A1 (Tr.it t i).lines.length k1] 49))
          have bq := Blk.new wo 49 #[strV (Tr.it t i).path, .slice A1 (Tr.it t i).lines.length k1]
          clear HPS HLS HPL HLN HPB HOA HP hln hok'
          have HTM := Lib.hid (fun (wq W : World) (hl : LnA wq Free (Tr.it t i).lines A1 k1) (hb : Below wq.heap.size wq W) => terminated_any W A1 k1 (Tr.it t i).lines ((hl.ls).keep (free_below hb)) (by omega) (by omega))
          have HPT : Hid (∀ (W : World) (Ad2 : Option Addr) (kd2 : Nat), StV W Free A' s' → SA W Free Ad2 (bytesV (Tr.joined (Tr.it t i).lines)) → (Tr.joined (Tr.it t i).lines).length ≤ kd2 → Calls Tryd.prog 21 #[.agg #[.slice A' s'.length k'], .agg #[.int .i64 1, .slice none 0 0, .slice Ad2 (Tr.joined (Tr.it t i).lines).length kd2]] W (PtPost W (Ob.putF s' (Tr.blobO (Tr.it t i).lines)))) :=
            Lib.hid fun W Ad2 kd2 hs hd hkd => put_any W A' k' s' (Tr.blobO (Tr.it t i).lines) none 0 Ad2 kd2 hs (by omega) ⟨by show I64 1; unfold I64; omega, fun j hj => by simp [Tr.blobO] at hj, Nat.le_refl _, hkd, by simp [Tr.blobO], by rw [hbl]; omega, SA.nil, hd⟩
          have HDG : Hid (∀ u : List Ob.S, Ob.putF s' (Tr.blobO (Tr.it t i).lines) = (u, ((Ob.dig (Tr.blobO (Tr.it t i).lines) : Nat) : Int), (0, 0)) → Ob.putF s' (Tr.blobO (Tr.it t i).lines) = (u, ((Ob.dig (Tr.blobO (Tr.it t i).lines) : Nat) : Int), (0, 0))) := Lib.hid fun _ h => h
          have hdg := Ob.dig_lt (Tr.blobO (Tr.it t i).lines)
          clear hbl
          generalize (Tr.it t i).path = p at *
          generalize Ob.putF s' (Tr.blobO (Tr.it t i).lines) = r' at *
          generalize Tr.blobO (Tr.it t i).lines = ob at *
          generalize Tr.joined (Tr.it t i).lines = jL at *
          generalize (Tr.it t i).lines = L at *
          generalize Ob.dig ob = dg at *
          generalize Tr.pathsB t i = da at *
          generalize (Tr.links t).take i = ls at *
          clear HDG
          go_wp2_with fail
          obtain ⟨wq, hwq⟩ : ∃ wq : World, wq = wo.alloc (.cells #[strV p, .slice A1 L.length k1] 49) := ⟨_, rfl⟩
          have hx0 : wo.heap.size < wq.heap.size := by rw [hwq]; simp
          rw [← hwq] at stq hlnq bq ⊢
          have HTM := Lib.hid (HTM.out wq)
          have hgx : g < wo.heap.size := st.rt.sb.lt
          generalize hx : wo.heap.size = x at *
          clear hwq hx d0 d1 hb st
          have HK : Hid (∀ w6 : World, Below wq.heap.size wq w6 → w6.cell? ⟨w.heap.size, 0, none⟩ = some (.slice A' s'.length k') ∧ w6.cell? ⟨x, 1, none⟩ = some (.slice A1 L.length k1)) :=
            Lib.hid fun w6 h6 => ⟨((stq.bx.below h6 stq.bx.lt).cell 0).trans rfl, ((bq.below h6 bq.lt).cell 1).trans rfl⟩
          have HSV := Lib.hid (fun (W : World) (hb : Below wq.heap.size wq W) => (stq.sv.keep ((Keeps.refl wq _).into fun b h => h.elim) : StV wq Free A' s').keep (free_below hb))
          obtain ⟨us, dn, cc, ci⟩ := r'
          go_cut [13, 14, 15] (fun pv dv qv wx => StOut wq wx (us, dn, (cc, ci)) pv dv qv)
          case first =>
            refine wp_region_noPanic ?_
            refine wp_region_held_drew (S := (fun w6 : World => w6.cell? ⟨w.heap.size, 0, none⟩ = some (.slice A' s'.length k') ∧ w6.cell? ⟨x, 1, none⟩ = some (.slice A1 L.length k1))) (by kernel_rfl) ?_ (fun hSP => ?_)
            · exact HK.out _ (below_drew' (Below.refl _ _))
            have hq : Below wq.heap.size wq wq.drew := below_drew' (Below.refl _ _)
            have hz0 : wq.heap.size ≤ wq.drew.heap.size := Nat.le_refl _
            generalize hWg : wq.drew = WP at *
            clear hWg
            refine wpAnyH_take (i := 0) (v := .agg #[.slice A' s'.length k']) rfl (by kernel_rfl) (by kernel_rfl) (by kernel_rfl) (fun _ _ _ h => h) (Or.inl ⟨by kernel_rfl, ?qP1⟩) (by assumption) ?rqP1
            case qP1 => (intro w hSw; (try dsimp only at hSw); go_simp)
            try simp only [Act.put, List.setIfInBounds_toArray]
            refine wpAnyH_take (i := 1) (v := .pointer (some ⟨x, 1, none⟩)) rfl (by kernel_rfl) (by kernel_rfl) (by kernel_rfl) (fun _ _ _ h => h) (Or.inl ⟨by kernel_rfl, ?qP2⟩) (by assumption) ?rqP2
            case qP2 => (intro w hSw; (try dsimp only at hSw); go_simp)
            try simp only [Act.put]
            refine wpAnyH_take (i := 2) (v := .slice A1 L.length k1) rfl (by kernel_rfl) (by kernel_rfl) (by kernel_rfl) (fun _ _ _ h => h) (Or.inl ⟨by kernel_rfl, ?qP3⟩) (by assumption) ?rqP3
            case qP3 => (intro w hSw; (try dsimp only at hSw); go_simp)
            try simp only [Act.put]
            refine wpAnyH_ready (rs := [3, 10, 11]) (by kernel_rfl) (by simp) ?_
            refine AllReadyH.cons rfl (fun K hK => ?nP4) (AllReadyH.cons rfl (fun K hK => ?nP5) (AllReadyH.cons rfl (fun K hK => ?nP6) (AllReadyH.nil)))
            case nP4 =>
              go_simp
              go_at_call 22
              with_reducible refine (HTM.out _ hlnq hq).mono ?_
              rintro e WP7 ⟨Ad2, kd2, rfl, hkd2, _, hown2, hb9⟩
              try go_wp2_with fail
              refine hK.out _ _ ?_ (fun hSP8 => ?_)
              · exact HK.out _ (hq.trans (hb9.mono hq.size))
              clear hK K
              try simp only [Act.put, List.setIfInBounds_toArray]
              replace hq := hq.trans (hb9.mono hq.size)
              have zP9 : WP.heap.size ≤ WP7.heap.size := hb9.size
              have hsd : SA WP7 Free Ad2 (bytesV jL) := SA.of_own hown2 (fun b h => h.elim)
              clear hown2
              clear hb9
              refine wpAnyH_take (i := 4) (v := .agg #[.int .i64 1, .slice none 0 0, .slice Ad2 jL.length kd2]) rfl (by kernel_rfl) (by kernel_rfl) (by kernel_rfl) (fun _ _ _ h => h) (Or.inl ⟨by kernel_rfl, ?qP10⟩) (by assumption) ?rqP10
              case qP10 => (intro w hSw; (try dsimp only at hSw); go_simp)
              try simp only [Act.put, List.setIfInBounds_toArray]
              refine wpAnyH_ready (rs := [5, 10, 11]) (by kernel_rfl) (by simp) ?_
              refine AllReadyH.cons rfl (fun K hK => ?nP11) (AllReadyH.cons rfl (fun K hK => ?nP12) (AllReadyH.cons rfl (fun K hK => ?nP13) (AllReadyH.nil)))
              case nP11 =>
                go_simp
                go_at_call 21
                with_reducible refine (HPT.out _ Ad2 kd2 (HSV.out _ hq) hsd hkd2).mono ?_
                rintro e WP14 ⟨A4, c4, rfl, hc4, hs4, hb9⟩
                try go_wp2_with fail
                refine hK.out _ _ ?_ (fun hSP15 => ?_)
                · exact HK.out _ (hq.trans (hb9.mono hq.size))
                clear hK K
                try simp only [Act.put, List.setIfInBounds_toArray]
                replace hq := hq.trans (hb9.mono hq.size)
                have zP16 : WP7.heap.size ≤ WP14.heap.size := hb9.size
                replace hsd := hsd.keep (Keeps.below hb9 fun _ _ h => h)
                have hs5 := st_cap hs4
                clear hs4
                have hzp : wq.heap.size ≤ WP7.heap.size := by omega
                clear hb9
                refine wpAnyH_take (i := 6) (v := .tuple #[.agg #[.slice A4 us.length c4], .int .i64 dn, .agg #[.int .i64 cc, .int .i64 ci]]) rfl (by kernel_rfl) (by kernel_rfl) (by kernel_rfl) (fun _ _ _ h => h) (Or.inl ⟨by kernel_rfl, ?qP17⟩) (by assumption) ?rqP17
                case qP17 => (intro w hSw; (try dsimp only at hSw); go_simp)
                try simp only [Act.put, List.setIfInBounds_toArray]
                refine wpAnyH_take (i := 7) (v := .agg #[.slice A4 us.length c4]) rfl (by kernel_rfl) (by kernel_rfl) (by kernel_rfl) (fun _ _ _ h => h) (Or.inl ⟨by kernel_rfl, ?qP18⟩) (by assumption) ?rqP18
                case qP18 => (intro w hSw; (try dsimp only at hSw); go_simp)
                try simp only [Act.put]
                refine wpAnyH_take (i := 8) (v := .int .i64 dn) rfl (by kernel_rfl) (by kernel_rfl) (by kernel_rfl) (fun _ _ _ h => h) (Or.inl ⟨by kernel_rfl, ?qP19⟩) (by assumption) ?rqP19
                case qP19 => (intro w hSw; (try dsimp only at hSw); go_simp)
                try simp only [Act.put]
                refine wpAnyH_take (i := 9) (v := .agg #[.int .i64 cc, .int .i64 ci]) rfl (by kernel_rfl) (by kernel_rfl) (by kernel_rfl) (fun _ _ _ h => h) (Or.inl ⟨by kernel_rfl, ?qP20⟩) (by assumption) ?rqP20
                case qP20 => (intro w hSw; (try dsimp only at hSw); go_simp)
                try simp only [Act.put]
                refine wpAnyH_ready (rs := [10, 11]) (by kernel_rfl) (by simp) ?_
                refine AllReadyH.cons rfl (fun K hK => ?nP21) (AllReadyH.cons rfl (fun K hK => ?nP22) (AllReadyH.nil))
                case nP21 =>
                  have gbA := hq.size
                  go_simp
                  refine hK.out _ _ ?_ (fun hSP24 => ?_)
                  · exact HK.out _ (hq.alloc hq.size (.cells #[.slice none 0 0] 24))
                  clear hK K
                  try simp only [Act.put, List.setIfInBounds_toArray]
                  replace hq := hq.alloc hq.size (.cells #[.slice none 0 0] 24)
                  have bA := Blk.new WP14 24 #[.slice none 0 0]
                  replace hsd := hsd.keep (Keeps.alloc WP14 _ (.cells #[.slice none 0 0] 24))
                  replace hs5 := hs5.keep (Keeps.alloc WP14 _ (.cells #[.slice none 0 0] 24))
                  have zP25 : WP14.heap.size < (WP14.alloc (.cells #[.slice none 0 0] 24)).heap.size := by simp
                  generalize WP14.alloc (.cells #[.slice none 0 0] 24) = WP23 at *
                  refine wpAnyH_ready (rs := [11]) (by kernel_rfl) (by simp) ?_
                  refine AllReadyH.cons rfl (fun K hK => ?nP26) (AllReadyH.nil)
                  have gbB := hq.size
                  have nebAbB := bA.lt
                  go_simp
                  refine hK.out _ _ ?_ (fun hSP28 => ?_)
                  · exact HK.out _ (hq.alloc hq.size (.cells #[.int .i64 0, .int .i64 0] 30))
                  clear hK K
                  try simp only [Act.put, List.setIfInBounds_toArray]
                  replace hq := hq.alloc hq.size (.cells #[.int .i64 0, .int .i64 0] 30)
                  replace bA := bA.alloc (.cells #[.int .i64 0, .int .i64 0] 30)
                  have bB := Blk.new WP23 30 #[.int .i64 0, .int .i64 0]
                  replace hsd := hsd.keep (Keeps.alloc WP23 _ (.cells #[.int .i64 0, .int .i64 0] 30))
                  replace hs5 := hs5.keep (Keeps.alloc WP23 _ (.cells #[.int .i64 0, .int .i64 0] 30))
                  have zP29 : WP23.heap.size < (WP23.alloc (.cells #[.int .i64 0, .int .i64 0] 30)).heap.size := by simp
                  generalize WP23.alloc (.cells #[.int .i64 0, .int .i64 0] 30) = WP27 at *
                  refine wpAnyH_ready (rs := [12]) (by kernel_rfl) (by simp) ?_
                  refine AllReadyH.cons rfl (fun K hK => ?nP30) (AllReadyH.nil)
                  have bAl := bA.lt
                  have bAf0 := bA.frozen 0
                  have bAc0 := (bA.cell 0).trans rfl
                  have bBl := bB.lt
                  have bBf0 := bB.frozen 0
                  have bBc0 := (bB.cell 0).trans rfl
                  have bBf1 := bB.frozen 1
                  have bBc1 := (bB.cell 1).trans rfl
                  go_simp
                  refine hK.out _ _ ?_ (fun hSP31 => ?_)
                  · exact HK.out _ (hq.setCell (p := ⟨WP14.heap.size, 0, none⟩) gbA _)
                  clear hK K
                  try simp only [Act.put, List.setIfInBounds_toArray]
                  refine wpAnyH_take (i := 13) (v := .int .i64 dn) rfl (by kernel_rfl) (by kernel_rfl) (by kernel_rfl) (fun _ _ _ h => h) (Or.inl ⟨by kernel_rfl, ?qP32⟩) (by assumption) ?rqP32
                  case qP32 => (intro w hSw; (try dsimp only at hSw); go_simp)
                  try simp only [Act.put, List.setIfInBounds_toArray]
                  refine wpAnyH_ready (rs := [14]) (by kernel_rfl) (by simp) ?_
                  refine AllReadyH.cons rfl (fun K hK => ?nP33) (AllReadyH.nil)
                  go_simp
                  refine hK.out _ _ ?_ (fun hSP34 => ?_)
                  · exact HK.out _ (((hq.setCell (p := ⟨WP14.heap.size, 0, none⟩) gbA _).setCell (p := ⟨WP23.heap.size, 0, none⟩) gbB _).setCell (p := ⟨WP23.heap.size, 1, none⟩) gbB _)
                  clear hK K
                  try simp only [Act.put, List.setIfInBounds_toArray]
                  refine wpAnyH_done (by kernel_rfl) ?_ _
                  refine NoPanic.normal ?_
                  try go_wp2_with fail
                  go_meet
                  exact StOut.mk (r := (us, dn, (cc, ci))) hq hs5 (fun b hb => .inl (by omega)) hc4 bA bB (by omega) gbA gbB (by omega) (by omega)
                case nP22 =>
                  have gbB := hq.size
                  go_simp
                  refine hK.out _ _ ?_ (fun hSP36 => ?_)
                  · exact HK.out _ (hq.alloc hq.size (.cells #[.int .i64 0, .int .i64 0] 30))
                  clear hK K
                  try simp only [Act.put, List.setIfInBounds_toArray]
                  replace hq := hq.alloc hq.size (.cells #[.int .i64 0, .int .i64 0] 30)
                  have bB := Blk.new WP14 30 #[.int .i64 0, .int .i64 0]
                  replace hsd := hsd.keep (Keeps.alloc WP14 _ (.cells #[.int .i64 0, .int .i64 0] 30))
                  replace hs5 := hs5.keep (Keeps.alloc WP14 _ (.cells #[.int .i64 0, .int .i64 0] 30))
                  have zP37 : WP14.heap.size < (WP14.alloc (.cells #[.int .i64 0, .int .i64 0] 30)).heap.size := by simp
                  generalize WP14.alloc (.cells #[.int .i64 0, .int .i64 0] 30) = WP35 at *
                  refine wpAnyH_ready (rs := [10]) (by kernel_rfl) (by simp) ?_
                  refine AllReadyH.cons rfl (fun K hK => ?nP38) (AllReadyH.nil)
                  have gbA := hq.size
                  have nebBbA := bB.lt
                  go_simp
                  refine hK.out _ _ ?_ (fun hSP40 => ?_)
                  · exact HK.out _ (hq.alloc hq.size (.cells #[.slice none 0 0] 24))
                  clear hK K
                  try simp only [Act.put, List.setIfInBounds_toArray]
                  replace hq := hq.alloc hq.size (.cells #[.slice none 0 0] 24)
                  replace bB := bB.alloc (.cells #[.slice none 0 0] 24)
                  have bA := Blk.new WP35 24 #[.slice none 0 0]
                  replace hsd := hsd.keep (Keeps.alloc WP35 _ (.cells #[.slice none 0 0] 24))
                  replace hs5 := hs5.keep (Keeps.alloc WP35 _ (.cells #[.slice none 0 0] 24))
                  have zP41 : WP35.heap.size < (WP35.alloc (.cells #[.slice none 0 0] 24)).heap.size := by simp
                  generalize WP35.alloc (.cells #[.slice none 0 0] 24) = WP39 at *
                  refine wpAnyH_ready (rs := [12]) (by kernel_rfl) (by simp) ?_
                  refine AllReadyH.cons rfl (fun K hK => ?nP42) (AllReadyH.nil)
                  have bAl := bA.lt
                  have bAf0 := bA.frozen 0
                  have bAc0 := (bA.cell 0).trans rfl
                  have bBl := bB.lt
                  have bBf0 := bB.frozen 0
                  have bBc0 := (bB.cell 0).trans rfl
                  have bBf1 := bB.frozen 1
                  have bBc1 := (bB.cell 1).trans rfl
                  go_simp
                  refine hK.out _ _ ?_ (fun hSP43 => ?_)
                  · exact HK.out _ (hq.setCell (p := ⟨WP35.heap.size, 0, none⟩) gbA _)
                  clear hK K
                  try simp only [Act.put, List.setIfInBounds_toArray]
                  refine wpAnyH_take (i := 13) (v := .int .i64 dn) rfl (by kernel_rfl) (by kernel_rfl) (by kernel_rfl) (fun _ _ _ h => h) (Or.inl ⟨by kernel_rfl, ?qP44⟩) (by assumption) ?rqP44
                  case qP44 => (intro w hSw; (try dsimp only at hSw); go_simp)
                  try simp only [Act.put, List.setIfInBounds_toArray]
                  refine wpAnyH_ready (rs := [14]) (by kernel_rfl) (by simp) ?_
                  refine AllReadyH.cons rfl (fun K hK => ?nP45) (AllReadyH.nil)
                  go_simp
                  refine hK.out _ _ ?_ (fun hSP46 => ?_)
                  · exact HK.out _ (((hq.setCell (p := ⟨WP35.heap.size, 0, none⟩) gbA _).setCell (p := ⟨WP14.heap.size, 0, none⟩) gbB _).setCell (p := ⟨WP14.heap.size, 1, none⟩) gbB _)
                  clear hK K
                  try simp only [Act.put, List.setIfInBounds_toArray]
                  refine wpAnyH_done (by kernel_rfl) ?_ _
                  refine NoPanic.normal ?_
                  try go_wp2_with fail
                  go_meet
                  exact StOut.mk (r := (us, dn, (cc, ci))) hq hs5 (fun b hb => .inl (by omega)) hc4 bA bB (by omega) gbA gbB (by omega) (by omega)
              case nP12 =>
                have gbA := hq.size
                go_simp
                refine hK.out _ _ ?_ (fun hSP48 => ?_)
                · exact HK.out _ (hq.alloc hq.size (.cells #[.slice none 0 0] 24))
                clear hK K
                try simp only [Act.put, List.setIfInBounds_toArray]
                replace hq := hq.alloc hq.size (.cells #[.slice none 0 0] 24)
                have bA := Blk.new WP7 24 #[.slice none 0 0]
                replace hsd := hsd.keep (Keeps.alloc WP7 _ (.cells #[.slice none 0 0] 24))
                have zP49 : WP7.heap.size < (WP7.alloc (.cells #[.slice none 0 0] 24)).heap.size := by simp
                generalize WP7.alloc (.cells #[.slice none 0 0] 24) = WP47 at *
                refine wpAnyH_ready (rs := [5, 11]) (by kernel_rfl) (by simp) ?_
                refine AllReadyH.cons rfl (fun K hK => ?nP50) (AllReadyH.cons rfl (fun K hK => ?nP51) (AllReadyH.nil))
                case nP50 =>
                  go_simp
                  go_at_call 21
                  with_reducible refine (HPT.out _ Ad2 kd2 (HSV.out _ hq) hsd hkd2).mono ?_
                  rintro e WP52 ⟨A4, c4, rfl, hc4, hs4, hb9⟩
                  try go_wp2_with fail
                  refine hK.out _ _ ?_ (fun hSP53 => ?_)
                  · exact HK.out _ (hq.trans (hb9.mono hq.size))
                  clear hK K
                  try simp only [Act.put, List.setIfInBounds_toArray]
                  replace hq := hq.trans (hb9.mono hq.size)
                  have zP54 : WP47.heap.size ≤ WP52.heap.size := hb9.size
                  replace bA := bA.below hb9 bA.lt
                  replace hsd := hsd.keep (Keeps.below hb9 fun _ _ h => h)
                  have hs5 := st_cap hs4
                  clear hs4
                  have hzp : wq.heap.size ≤ WP47.heap.size := by omega
                  clear hb9
                  refine wpAnyH_take (i := 6) (v := .tuple #[.agg #[.slice A4 us.length c4], .int .i64 dn, .agg #[.int .i64 cc, .int .i64 ci]]) rfl (by kernel_rfl) (by kernel_rfl) (by kernel_rfl) (fun _ _ _ h => h) (Or.inl ⟨by kernel_rfl, ?qP55⟩) (by assumption) ?rqP55
                  case qP55 => (intro w hSw; (try dsimp only at hSw); go_simp)
                  try simp only [Act.put, List.setIfInBounds_toArray]
                  refine wpAnyH_take (i := 7) (v := .agg #[.slice A4 us.length c4]) rfl (by kernel_rfl) (by kernel_rfl) (by kernel_rfl) (fun _ _ _ h => h) (Or.inl ⟨by kernel_rfl, ?qP56⟩) (by assumption) ?rqP56
                  case qP56 => (intro w hSw; (try dsimp only at hSw); go_simp)
                  try simp only [Act.put]
                  refine wpAnyH_take (i := 8) (v := .int .i64 dn) rfl (by kernel_rfl) (by kernel_rfl) (by kernel_rfl) (fun _ _ _ h => h) (Or.inl ⟨by kernel_rfl, ?qP57⟩) (by assumption) ?rqP57
                  case qP57 => (intro w hSw; (try dsimp only at hSw); go_simp)
                  try simp only [Act.put]
                  refine wpAnyH_take (i := 9) (v := .agg #[.int .i64 cc, .int .i64 ci]) rfl (by kernel_rfl) (by kernel_rfl) (by kernel_rfl) (fun _ _ _ h => h) (Or.inl ⟨by kernel_rfl, ?qP58⟩) (by assumption) ?rqP58
                  case qP58 => (intro w hSw; (try dsimp only at hSw); go_simp)
                  try simp only [Act.put]
                  refine wpAnyH_ready (rs := [11]) (by kernel_rfl) (by simp) ?_
                  refine AllReadyH.cons rfl (fun K hK => ?nP59) (AllReadyH.nil)
                  have gbB := hq.size
                  have nebAbB := bA.lt
                  go_simp
                  refine hK.out _ _ ?_ (fun hSP61 => ?_)
                  · exact HK.out _ (hq.alloc hq.size (.cells #[.int .i64 0, .int .i64 0] 30))
                  clear hK K
                  try simp only [Act.put, List.setIfInBounds_toArray]
                  replace hq := hq.alloc hq.size (.cells #[.int .i64 0, .int .i64 0] 30)
                  replace bA := bA.alloc (.cells #[.int .i64 0, .int .i64 0] 30)
                  have bB := Blk.new WP52 30 #[.int .i64 0, .int .i64 0]
                  replace hsd := hsd.keep (Keeps.alloc WP52 _ (.cells #[.int .i64 0, .int .i64 0] 30))
                  replace hs5 := hs5.keep (Keeps.alloc WP52 _ (.cells #[.int .i64 0, .int .i64 0] 30))
                  have zP62 : WP52.heap.size < (WP52.alloc (.cells #[.int .i64 0, .int .i64 0] 30)).heap.size := by simp
                  generalize WP52.alloc (.cells #[.int .i64 0, .int .i64 0] 30) = WP60 at *
                  refine wpAnyH_ready (rs := [12]) (by kernel_rfl) (by simp) ?_
                  refine AllReadyH.cons rfl (fun K hK => ?nP63) (AllReadyH.nil)
                  have bAl := bA.lt
                  have bAf0 := bA.frozen 0
                  have bAc0 := (bA.cell 0).trans rfl
                  have bBl := bB.lt
                  have bBf0 := bB.frozen 0
                  have bBc0 := (bB.cell 0).trans rfl
                  have bBf1 := bB.frozen 1
                  have bBc1 := (bB.cell 1).trans rfl
                  go_simp
                  refine hK.out _ _ ?_ (fun hSP64 => ?_)
                  · exact HK.out _ (hq.setCell (p := ⟨WP7.heap.size, 0, none⟩) gbA _)
                  clear hK K
                  try simp only [Act.put, List.setIfInBounds_toArray]
                  refine wpAnyH_take (i := 13) (v := .int .i64 dn) rfl (by kernel_rfl) (by kernel_rfl) (by kernel_rfl) (fun _ _ _ h => h) (Or.inl ⟨by kernel_rfl, ?qP65⟩) (by assumption) ?rqP65
                  case qP65 => (intro w hSw; (try dsimp only at hSw); go_simp)
                  try simp only [Act.put, List.setIfInBounds_toArray]
                  refine wpAnyH_ready (rs := [14]) (by kernel_rfl) (by simp) ?_
                  refine AllReadyH.cons rfl (fun K hK => ?nP66) (AllReadyH.nil)
                  go_simp
                  refine hK.out _ _ ?_ (fun hSP67 => ?_)
                  · exact HK.out _ (((hq.setCell (p := ⟨WP7.heap.size, 0, none⟩) gbA _).setCell (p := ⟨WP52.heap.size, 0, none⟩) gbB _).setCell (p := ⟨WP52.heap.size, 1, none⟩) gbB _)
                  clear hK K
                  try simp only [Act.put, List.setIfInBounds_toArray]
                  refine wpAnyH_done (by kernel_rfl) ?_ _
                  refine NoPanic.normal ?_
                  try go_wp2_with fail
                  go_meet
                  exact StOut.mk (r := (us, dn, (cc, ci))) hq hs5 (fun b hb => .inl (by omega)) hc4 bA bB (by omega) gbA gbB (by omega) (by omega)
                case nP51 =>
                  have gbB := hq.size
                  have nebAbB := bA.lt
                  go_simp
                  refine hK.out _ _ ?_ (fun hSP69 => ?_)
                  · exact HK.out _ (hq.alloc hq.size (.cells #[.int .i64 0, .int .i64 0] 30))
                  clear hK K
                  try simp only [Act.put, List.setIfInBounds_toArray]
                  replace hq := hq.alloc hq.size (.cells #[.int .i64 0, .int .i64 0] 30)
                  replace bA := bA.alloc (.cells #[.int .i64 0, .int .i64 0] 30)
                  have bB := Blk.new WP47 30 #[.int .i64 0, .int .i64 0]
                  replace hsd := hsd.keep (Keeps.alloc WP47 _ (.cells #[.int .i64 0, .int .i64 0] 30))
                  have zP70 : WP47.heap.size < (WP47.alloc (.cells #[.int .i64 0, .int .i64 0] 30)).heap.size := by simp
                  generalize WP47.alloc (.cells #[.int .i64 0, .int .i64 0] 30) = WP68 at *
                  refine wpAnyH_ready (rs := [5]) (by kernel_rfl) (by simp) ?_
                  refine AllReadyH.cons rfl (fun K hK => ?nP71) (AllReadyH.nil)
                  go_simp
                  go_at_call 21
                  with_reducible refine (HPT.out _ Ad2 kd2 (HSV.out _ hq) hsd hkd2).mono ?_
                  rintro e WP72 ⟨A4, c4, rfl, hc4, hs4, hb9⟩
                  try go_wp2_with fail
                  refine hK.out _ _ ?_ (fun hSP73 => ?_)
                  · exact HK.out _ (hq.trans (hb9.mono hq.size))
                  clear hK K
                  try simp only [Act.put, List.setIfInBounds_toArray]
                  replace hq := hq.trans (hb9.mono hq.size)
                  have zP74 : WP68.heap.size ≤ WP72.heap.size := hb9.size
                  replace bA := bA.below hb9 bA.lt
                  replace bB := bB.below hb9 bB.lt
                  replace hsd := hsd.keep (Keeps.below hb9 fun _ _ h => h)
                  have hs5 := st_cap hs4
                  clear hs4
                  have hzp : wq.heap.size ≤ WP68.heap.size := by omega
                  clear hb9
                  refine wpAnyH_take (i := 6) (v := .tuple #[.agg #[.slice A4 us.length c4], .int .i64 dn, .agg #[.int .i64 cc, .int .i64 ci]]) rfl (by kernel_rfl) (by kernel_rfl) (by kernel_rfl) (fun _ _ _ h => h) (Or.inl ⟨by kernel_rfl, ?qP75⟩) (by assumption) ?rqP75
                  case qP75 => (intro w hSw; (try dsimp only at hSw); go_simp)
                  try simp only [Act.put, List.setIfInBounds_toArray]
                  refine wpAnyH_take (i := 7) (v := .agg #[.slice A4 us.length c4]) rfl (by kernel_rfl) (by kernel_rfl) (by kernel_rfl) (fun _ _ _ h => h) (Or.inl ⟨by kernel_rfl, ?qP76⟩) (by assumption) ?rqP76
                  case qP76 => (intro w hSw; (try dsimp only at hSw); go_simp)
                  try simp only [Act.put]
                  refine wpAnyH_take (i := 8) (v := .int .i64 dn) rfl (by kernel_rfl) (by kernel_rfl) (by kernel_rfl) (fun _ _ _ h => h) (Or.inl ⟨by kernel_rfl, ?qP77⟩) (by assumption) ?rqP77
                  case qP77 => (intro w hSw; (try dsimp only at hSw); go_simp)
                  try simp only [Act.put]
                  refine wpAnyH_take (i := 9) (v := .agg #[.int .i64 cc, .int .i64 ci]) rfl (by kernel_rfl) (by kernel_rfl) (by kernel_rfl) (fun _ _ _ h => h) (Or.inl ⟨by kernel_rfl, ?qP78⟩) (by assumption) ?rqP78
                  case qP78 => (intro w hSw; (try dsimp only at hSw); go_simp)
                  try simp only [Act.put]
                  refine wpAnyH_ready (rs := [12]) (by kernel_rfl) (by simp) ?_
                  refine AllReadyH.cons rfl (fun K hK => ?nP79) (AllReadyH.nil)
                  have bAl := bA.lt
                  have bAf0 := bA.frozen 0
                  have bAc0 := (bA.cell 0).trans rfl
                  have bBl := bB.lt
                  have bBf0 := bB.frozen 0
                  have bBc0 := (bB.cell 0).trans rfl
                  have bBf1 := bB.frozen 1
                  have bBc1 := (bB.cell 1).trans rfl
                  go_simp
                  refine hK.out _ _ ?_ (fun hSP80 => ?_)
                  · exact HK.out _ (hq.setCell (p := ⟨WP7.heap.size, 0, none⟩) gbA _)
                  clear hK K
                  try simp only [Act.put, List.setIfInBounds_toArray]
                  refine wpAnyH_take (i := 13) (v := .int .i64 dn) rfl (by kernel_rfl) (by kernel_rfl) (by kernel_rfl) (fun _ _ _ h => h) (Or.inl ⟨by kernel_rfl, ?qP81⟩) (by assumption) ?rqP81
                  case qP81 => (intro w hSw; (try dsimp only at hSw); go_simp)
                  try simp only [Act.put, List.setIfInBounds_toArray]
                  refine wpAnyH_ready (rs := [14]) (by kernel_rfl) (by simp) ?_
                  refine AllReadyH.cons rfl (fun K hK => ?nP82) (AllReadyH.nil)
                  go_simp
                  refine hK.out _ _ ?_ (fun hSP83 => ?_)
                  · exact HK.out _ (((hq.setCell (p := ⟨WP7.heap.size, 0, none⟩) gbA _).setCell (p := ⟨WP47.heap.size, 0, none⟩) gbB _).setCell (p := ⟨WP47.heap.size, 1, none⟩) gbB _)
                  clear hK K
                  try simp only [Act.put, List.setIfInBounds_toArray]
                  refine wpAnyH_done (by kernel_rfl) ?_ _
                  refine NoPanic.normal ?_
                  try go_wp2_with fail
                  go_meet
                  exact StOut.mk (r := (us, dn, (cc, ci))) hq hs5 (fun b hb => .inl (by omega)) hc4 bA bB (by omega) gbA gbB (by omega) (by omega)
              case nP13 =>
                have gbB := hq.size
                go_simp
                refine hK.out _ _ ?_ (fun hSP85 => ?_)
                · exact HK.out _ (hq.alloc hq.size (.cells #[.int .i64 0, .int .i64 0] 30))
                clear hK K
                try simp only [Act.put, List.setIfInBounds_toArray]
                replace hq := hq.alloc hq.size (.cells #[.int .i64 0, .int .i64 0] 30)
                have bB := Blk.new WP7 30 #[.int .i64 0, .int .i64 0]
                replace hsd := hsd.keep (Keeps.alloc WP7 _ (.cells #[.int .i64 0, .int .i64 0] 30))
                have zP86 : WP7.heap.size < (WP7.alloc (.cells #[.int .i64 0, .int .i64 0] 30)).heap.size := by simp
                generalize WP7.alloc (.cells #[.int .i64 0, .int .i64 0] 30) = WP84 at *
                refine wpAnyH_ready (rs := [5, 10]) (by kernel_rfl) (by simp) ?_
                refine AllReadyH.cons rfl (fun K hK => ?nP87) (AllReadyH.cons rfl (fun K hK => ?nP88) (AllReadyH.nil))
                case nP87 =>
                  go_simp
                  go_at_call 21
                  with_reducible refine (HPT.out _ Ad2 kd2 (HSV.out _ hq) hsd hkd2).mono ?_
                  rintro e WP89 ⟨A4, c4, rfl, hc4, hs4, hb9⟩
                  try go_wp2_with fail
                  refine hK.out _ _ ?_ (fun hSP90 => ?_)
                  · exact HK.out _ (hq.trans (hb9.mono hq.size))
                  clear hK K
                  try simp only [Act.put, List.setIfInBounds_toArray]
                  replace hq := hq.trans (hb9.mono hq.size)
                  have zP91 : WP84.heap.size ≤ WP89.heap.size := hb9.size
                  replace bB := bB.below hb9 bB.lt
                  replace hsd := hsd.keep (Keeps.below hb9 fun _ _ h => h)
                  have hs5 := st_cap hs4
                  clear hs4
                  have hzp : wq.heap.size ≤ WP84.heap.size := by omega
                  clear hb9
                  refine wpAnyH_take (i := 6) (v := .tuple #[.agg #[.slice A4 us.length c4], .int .i64 dn, .agg #[.int .i64 cc, .int .i64 ci]]) rfl (by kernel_rfl) (by kernel_rfl) (by kernel_rfl) (fun _ _ _ h => h) (Or.inl ⟨by kernel_rfl, ?qP92⟩) (by assumption) ?rqP92
                  case qP92 => (intro w hSw; (try dsimp only at hSw); go_simp)
                  try simp only [Act.put, List.setIfInBounds_toArray]
                  refine wpAnyH_take (i := 7) (v := .agg #[.slice A4 us.length c4]) rfl (by kernel_rfl) (by kernel_rfl) (by kernel_rfl) (fun _ _ _ h => h) (Or.inl ⟨by kernel_rfl, ?qP93⟩) (by assumption) ?rqP93
                  case qP93 => (intro w hSw; (try dsimp only at hSw); go_simp)
                  try simp only [Act.put]
                  refine wpAnyH_take (i := 8) (v := .int .i64 dn) rfl (by kernel_rfl) (by kernel_rfl) (by kernel_rfl) (fun _ _ _ h => h) (Or.inl ⟨by kernel_rfl, ?qP94⟩) (by assumption) ?rqP94
                  case qP94 => (intro w hSw; (try dsimp only at hSw); go_simp)
                  try simp only [Act.put]
                  refine wpAnyH_take (i := 9) (v := .agg #[.int .i64 cc, .int .i64 ci]) rfl (by kernel_rfl) (by kernel_rfl) (by kernel_rfl) (fun _ _ _ h => h) (Or.inl ⟨by kernel_rfl, ?qP95⟩) (by assumption) ?rqP95
                  case qP95 => (intro w hSw; (try dsimp only at hSw); go_simp)
                  try simp only [Act.put]
                  refine wpAnyH_ready (rs := [10]) (by kernel_rfl) (by simp) ?_
                  refine AllReadyH.cons rfl (fun K hK => ?nP96) (AllReadyH.nil)
                  have gbA := hq.size
                  have nebBbA := bB.lt
                  go_simp
                  refine hK.out _ _ ?_ (fun hSP98 => ?_)
                  · exact HK.out _ (hq.alloc hq.size (.cells #[.slice none 0 0] 24))
                  clear hK K
                  try simp only [Act.put, List.setIfInBounds_toArray]
                  replace hq := hq.alloc hq.size (.cells #[.slice none 0 0] 24)
                  replace bB := bB.alloc (.cells #[.slice none 0 0] 24)
                  have bA := Blk.new WP89 24 #[.slice none 0 0]
                  replace hsd := hsd.keep (Keeps.alloc WP89 _ (.cells #[.slice none 0 0] 24))
                  replace hs5 := hs5.keep (Keeps.alloc WP89 _ (.cells #[.slice none 0 0] 24))
                  have zP99 : WP89.heap.size < (WP89.alloc (.cells #[.slice none 0 0] 24)).heap.size := by simp
                  generalize WP89.alloc (.cells #[.slice none 0 0] 24) = WP97 at *
                  refine wpAnyH_ready (rs := [12]) (by kernel_rfl) (by simp) ?_
                  refine AllReadyH.cons rfl (fun K hK => ?nP100) (AllReadyH.nil)
                  have bAl := bA.lt
                  have bAf0 := bA.frozen 0
                  have bAc0 := (bA.cell 0).trans rfl
                  have bBl := bB.lt
                  have bBf0 := bB.frozen 0
                  have bBc0 := (bB.cell 0).trans rfl
                  have bBf1 := bB.frozen 1
                  have bBc1 := (bB.cell 1).trans rfl
                  go_simp
                  refine hK.out _ _ ?_ (fun hSP101 => ?_)
                  · exact HK.out _ (hq.setCell (p := ⟨WP89.heap.size, 0, none⟩) gbA _)
                  clear hK K
                  try simp only [Act.put, List.setIfInBounds_toArray]
                  refine wpAnyH_take (i := 13) (v := .int .i64 dn) rfl (by kernel_rfl) (by kernel_rfl) (by kernel_rfl) (fun _ _ _ h => h) (Or.inl ⟨by kernel_rfl, ?qP102⟩) (by assumption) ?rqP102
                  case qP102 => (intro w hSw; (try dsimp only at hSw); go_simp)
                  try simp only [Act.put, List.setIfInBounds_toArray]
                  refine wpAnyH_ready (rs := [14]) (by kernel_rfl) (by simp) ?_
                  refine AllReadyH.cons rfl (fun K hK => ?nP103) (AllReadyH.nil)
                  go_simp
                  refine hK.out _ _ ?_ (fun hSP104 => ?_)
                  · exact HK.out _ (((hq.setCell (p := ⟨WP89.heap.size, 0, none⟩) gbA _).setCell (p := ⟨WP7.heap.size, 0, none⟩) gbB _).setCell (p := ⟨WP7.heap.size, 1, none⟩) gbB _)
                  clear hK K
                  try simp only [Act.put, List.setIfInBounds_toArray]
                  refine wpAnyH_done (by kernel_rfl) ?_ _
                  refine NoPanic.normal ?_
                  try go_wp2_with fail
                  go_meet
                  exact StOut.mk (r := (us, dn, (cc, ci))) hq hs5 (fun b hb => .inl (by omega)) hc4 bA bB (by omega) gbA gbB (by omega) (by omega)
                case nP88 =>
                  have gbA := hq.size
                  have nebBbA := bB.lt
                  go_simp
                  refine hK.out _ _ ?_ (fun hSP106 => ?_)
                  · exact HK.out _ (hq.alloc hq.size (.cells #[.slice none 0 0] 24))
                  clear hK K
                  try simp only [Act.put, List.setIfInBounds_toArray]
                  replace hq := hq.alloc hq.size (.cells #[.slice none 0 0] 24)
                  replace bB := bB.alloc (.cells #[.slice none 0 0] 24)
                  have bA := Blk.new WP84 24 #[.slice none 0 0]
                  replace hsd := hsd.keep (Keeps.alloc WP84 _ (.cells #[.slice none 0 0] 24))
                  have zP107 : WP84.heap.size < (WP84.alloc (.cells #[.slice none 0 0] 24)).heap.size := by simp
                  generalize WP84.alloc (.cells #[.slice none 0 0] 24) = WP105 at *
                  refine wpAnyH_ready (rs := [5]) (by kernel_rfl) (by simp) ?_
                  refine AllReadyH.cons rfl (fun K hK => ?nP108) (AllReadyH.nil)
                  go_simp
                  go_at_call 21
                  with_reducible refine (HPT.out _ Ad2 kd2 (HSV.out _ hq) hsd hkd2).mono ?_
                  rintro e WP109 ⟨A4, c4, rfl, hc4, hs4, hb9⟩
                  try go_wp2_with fail
                  refine hK.out _ _ ?_ (fun hSP110 => ?_)
                  · exact HK.out _ (hq.trans (hb9.mono hq.size))
                  clear hK K
                  try simp only [Act.put, List.setIfInBounds_toArray]
                  replace hq := hq.trans (hb9.mono hq.size)
                  have zP111 : WP105.heap.size ≤ WP109.heap.size := hb9.size
                  replace bB := bB.below hb9 bB.lt
                  replace bA := bA.below hb9 bA.lt
                  replace hsd := hsd.keep (Keeps.below hb9 fun _ _ h => h)
                  have hs5 := st_cap hs4
                  clear hs4
                  have hzp : wq.heap.size ≤ WP105.heap.size := by omega
                  clear hb9
                  refine wpAnyH_take (i := 6) (v := .tuple #[.agg #[.slice A4 us.length c4], .int .i64 dn, .agg #[.int .i64 cc, .int .i64 ci]]) rfl (by kernel_rfl) (by kernel_rfl) (by kernel_rfl) (fun _ _ _ h => h) (Or.inl ⟨by kernel_rfl, ?qP112⟩) (by assumption) ?rqP112
                  case qP112 => (intro w hSw; (try dsimp only at hSw); go_simp)
                  try simp only [Act.put, List.setIfInBounds_toArray]
                  refine wpAnyH_take (i := 7) (v := .agg #[.slice A4 us.length c4]) rfl (by kernel_rfl) (by kernel_rfl) (by kernel_rfl) (fun _ _ _ h => h) (Or.inl ⟨by kernel_rfl, ?qP113⟩) (by assumption) ?rqP113
                  case qP113 => (intro w hSw; (try dsimp only at hSw); go_simp)
                  try simp only [Act.put]
                  refine wpAnyH_take (i := 8) (v := .int .i64 dn) rfl (by kernel_rfl) (by kernel_rfl) (by kernel_rfl) (fun _ _ _ h => h) (Or.inl ⟨by kernel_rfl, ?qP114⟩) (by assumption) ?rqP114
                  case qP114 => (intro w hSw; (try dsimp only at hSw); go_simp)
                  try simp only [Act.put]
                  refine wpAnyH_take (i := 9) (v := .agg #[.int .i64 cc, .int .i64 ci]) rfl (by kernel_rfl) (by kernel_rfl) (by kernel_rfl) (fun _ _ _ h => h) (Or.inl ⟨by kernel_rfl, ?qP115⟩) (by assumption) ?rqP115
                  case qP115 => (intro w hSw; (try dsimp only at hSw); go_simp)
                  try simp only [Act.put]
                  refine wpAnyH_ready (rs := [12]) (by kernel_rfl) (by simp) ?_
                  refine AllReadyH.cons rfl (fun K hK => ?nP116) (AllReadyH.nil)
                  have bAl := bA.lt
                  have bAf0 := bA.frozen 0
                  have bAc0 := (bA.cell 0).trans rfl
                  have bBl := bB.lt
                  have bBf0 := bB.frozen 0
                  have bBc0 := (bB.cell 0).trans rfl
                  have bBf1 := bB.frozen 1
                  have bBc1 := (bB.cell 1).trans rfl
                  go_simp
                  refine hK.out _ _ ?_ (fun hSP117 => ?_)
                  · exact HK.out _ (hq.setCell (p := ⟨WP84.heap.size, 0, none⟩) gbA _)
                  clear hK K
                  try simp only [Act.put, List.setIfInBounds_toArray]
                  refine wpAnyH_take (i := 13) (v := .int .i64 dn) rfl (by kernel_rfl) (by kernel_rfl) (by kernel_rfl) (fun _ _ _ h => h) (Or.inl ⟨by kernel_rfl, ?qP118⟩) (by assumption) ?rqP118
                  case qP118 => (intro w hSw; (try dsimp only at hSw); go_simp)
                  try simp only [Act.put, List.setIfInBounds_toArray]
                  refine wpAnyH_ready (rs := [14]) (by kernel_rfl) (by simp) ?_
                  refine AllReadyH.cons rfl (fun K hK => ?nP119) (AllReadyH.nil)
                  go_simp
                  refine hK.out _ _ ?_ (fun hSP120 => ?_)
                  · exact HK.out _ (((hq.setCell (p := ⟨WP84.heap.size, 0, none⟩) gbA _).setCell (p := ⟨WP7.heap.size, 0, none⟩) gbB _).setCell (p := ⟨WP7.heap.size, 1, none⟩) gbB _)
                  clear hK K
                  try simp only [Act.put, List.setIfInBounds_toArray]
                  refine wpAnyH_done (by kernel_rfl) ?_ _
                  refine NoPanic.normal ?_
                  try go_wp2_with fail
                  go_meet
                  exact StOut.mk (r := (us, dn, (cc, ci))) hq hs5 (fun b hb => .inl (by omega)) hc4 bA bB (by omega) gbA gbB (by omega) (by omega)
            case nP5 =>
              have gbA := hq.size
              go_simp
              refine hK.out _ _ ?_ (fun hSP122 => ?_)
              · exact HK.out _ (hq.alloc hq.size (.cells #[.slice none 0 0] 24))
              clear hK K
              try simp only [Act.put, List.setIfInBounds_toArray]
              replace hq := hq.alloc hq.size (.cells #[.slice none 0 0] 24)
              have bA := Blk.new WP 24 #[.slice none 0 0]
              have zP123 : WP.heap.size < (WP.alloc (.cells #[.slice none 0 0] 24)).heap.size := by simp
              generalize WP.alloc (.cells #[.slice none 0 0] 24) = WP121 at *
              refine wpAnyH_ready (rs := [3, 11]) (by kernel_rfl) (by simp) ?_
              refine AllReadyH.cons rfl (fun K hK => ?nP124) (AllReadyH.cons rfl (fun K hK => ?nP125) (AllReadyH.nil))
              case nP124 =>
                go_simp
                go_at_call 22
                with_reducible refine (HTM.out _ hlnq hq).mono ?_
                rintro e WP126 ⟨Ad2, kd2, rfl, hkd2, _, hown2, hb9⟩
                try go_wp2_with fail
                refine hK.out _ _ ?_ (fun hSP127 => ?_)
                · exact HK.out _ (hq.trans (hb9.mono hq.size))
                clear hK K
                try simp only [Act.put, List.setIfInBounds_toArray]
                replace hq := hq.trans (hb9.mono hq.size)
                have zP128 : WP121.heap.size ≤ WP126.heap.size := hb9.size
                replace bA := bA.below hb9 bA.lt
                have hsd : SA WP126 Free Ad2 (bytesV jL) := SA.of_own hown2 (fun b h => h.elim)
                clear hown2
                clear hb9
                refine wpAnyH_take (i := 4) (v := .agg #[.int .i64 1, .slice none 0 0, .slice Ad2 jL.length kd2]) rfl (by kernel_rfl) (by kernel_rfl) (by kernel_rfl) (fun _ _ _ h => h) (Or.inl ⟨by kernel_rfl, ?qP129⟩) (by assumption) ?rqP129
                case qP129 => (intro w hSw; (try dsimp only at hSw); go_simp)
                try simp only [Act.put, List.setIfInBounds_toArray]
                refine wpAnyH_ready (rs := [5, 11]) (by kernel_rfl) (by simp) ?_
                refine AllReadyH.cons rfl (fun K hK => ?nP130) (AllReadyH.cons rfl (fun K hK => ?nP131) (AllReadyH.nil))
                case nP130 =>
                  go_simp
                  go_at_call 21
                  with_reducible refine (HPT.out _ Ad2 kd2 (HSV.out _ hq) hsd hkd2).mono ?_
                  rintro e WP132 ⟨A4, c4, rfl, hc4, hs4, hb9⟩
                  try go_wp2_with fail
                  refine hK.out _ _ ?_ (fun hSP133 => ?_)
                  · exact HK.out _ (hq.trans (hb9.mono hq.size))
                  clear hK K
                  try simp only [Act.put, List.setIfInBounds_toArray]
                  replace hq := hq.trans (hb9.mono hq.size)
                  have zP134 : WP126.heap.size ≤ WP132.heap.size := hb9.size
                  replace bA := bA.below hb9 bA.lt
                  replace hsd := hsd.keep (Keeps.below hb9 fun _ _ h => h)
                  have hs5 := st_cap hs4
                  clear hs4
                  have hzp : wq.heap.size ≤ WP126.heap.size := by omega
                  clear hb9
                  refine wpAnyH_take (i := 6) (v := .tuple #[.agg #[.slice A4 us.length c4], .int .i64 dn, .agg #[.int .i64 cc, .int .i64 ci]]) rfl (by kernel_rfl) (by kernel_rfl) (by kernel_rfl) (fun _ _ _ h => h) (Or.inl ⟨by kernel_rfl, ?qP135⟩) (by assumption) ?rqP135
                  case qP135 => (intro w hSw; (try dsimp only at hSw); go_simp)
                  try simp only [Act.put, List.setIfInBounds_toArray]
                  refine wpAnyH_take (i := 7) (v := .agg #[.slice A4 us.length c4]) rfl (by kernel_rfl) (by kernel_rfl) (by kernel_rfl) (fun _ _ _ h => h) (Or.inl ⟨by kernel_rfl, ?qP136⟩) (by assumption) ?rqP136
                  case qP136 => (intro w hSw; (try dsimp only at hSw); go_simp)
                  try simp only [Act.put]
                  refine wpAnyH_take (i := 8) (v := .int .i64 dn) rfl (by kernel_rfl) (by kernel_rfl) (by kernel_rfl) (fun _ _ _ h => h) (Or.inl ⟨by kernel_rfl, ?qP137⟩) (by assumption) ?rqP137
                  case qP137 => (intro w hSw; (try dsimp only at hSw); go_simp)
                  try simp only [Act.put]
                  refine wpAnyH_take (i := 9) (v := .agg #[.int .i64 cc, .int .i64 ci]) rfl (by kernel_rfl) (by kernel_rfl) (by kernel_rfl) (fun _ _ _ h => h) (Or.inl ⟨by kernel_rfl, ?qP138⟩) (by assumption) ?rqP138
                  case qP138 => (intro w hSw; (try dsimp only at hSw); go_simp)
                  try simp only [Act.put]
                  refine wpAnyH_ready (rs := [11]) (by kernel_rfl) (by simp) ?_
                  refine AllReadyH.cons rfl (fun K hK => ?nP139) (AllReadyH.nil)
                  have gbB := hq.size
                  have nebAbB := bA.lt
                  go_simp
                  refine hK.out _ _ ?_ (fun hSP141 => ?_)
                  · exact HK.out _ (hq.alloc hq.size (.cells #[.int .i64 0, .int .i64 0] 30))
                  clear hK K
                  try simp only [Act.put, List.setIfInBounds_toArray]
                  replace hq := hq.alloc hq.size (.cells #[.int .i64 0, .int .i64 0] 30)
                  replace bA := bA.alloc (.cells #[.int .i64 0, .int .i64 0] 30)
                  have bB := Blk.new WP132 30 #[.int .i64 0, .int .i64 0]
                  replace hsd := hsd.keep (Keeps.alloc WP132 _ (.cells #[.int .i64 0, .int .i64 0] 30))
                  replace hs5 := hs5.keep (Keeps.alloc WP132 _ (.cells #[.int .i64 0, .int .i64 0] 30))
                  have zP142 : WP132.heap.size < (WP132.alloc (.cells #[.int .i64 0, .int .i64 0] 30)).heap.size := by simp
                  generalize WP132.alloc (.cells #[.int .i64 0, .int .i64 0] 30) = WP140 at *
                  refine wpAnyH_ready (rs := [12]) (by kernel_rfl) (by simp) ?_
                  refine AllReadyH.cons rfl (fun K hK => ?nP143) (AllReadyH.nil)
                  have bAl := bA.lt
                  have bAf0 := bA.frozen 0
                  have bAc0 := (bA.cell 0).trans rfl
                  have bBl := bB.lt
                  have bBf0 := bB.frozen 0
                  have bBc0 := (bB.cell 0).trans rfl
                  have bBf1 := bB.frozen 1
                  have bBc1 := (bB.cell 1).trans rfl
                  go_simp
                  refine hK.out _ _ ?_ (fun hSP144 => ?_)
                  · exact HK.out _ (hq.setCell (p := ⟨WP.heap.size, 0, none⟩) gbA _)
                  clear hK K
                  try simp only [Act.put, List.setIfInBounds_toArray]
                  refine wpAnyH_take (i := 13) (v := .int .i64 dn) rfl (by kernel_rfl) (by kernel_rfl) (by kernel_rfl) (fun _ _ _ h => h) (Or.inl ⟨by kernel_rfl, ?qP145⟩) (by assumption) ?rqP145
                  case qP145 => (intro w hSw; (try dsimp only at hSw); go_simp)
                  try simp only [Act.put, List.setIfInBounds_toArray]
                  refine wpAnyH_ready (rs := [14]) (by kernel_rfl) (by simp) ?_
                  refine AllReadyH.cons rfl (fun K hK => ?nP146) (AllReadyH.nil)
                  go_simp
                  refine hK.out _ _ ?_ (fun hSP147 => ?_)
                  · exact HK.out _ (((hq.setCell (p := ⟨WP.heap.size, 0, none⟩) gbA _).setCell (p := ⟨WP132.heap.size, 0, none⟩) gbB _).setCell (p := ⟨WP132.heap.size, 1, none⟩) gbB _)
                  clear hK K
                  try simp only [Act.put, List.setIfInBounds_toArray]
                  refine wpAnyH_done (by kernel_rfl) ?_ _
                  refine NoPanic.normal ?_
                  try go_wp2_with fail
                  go_meet
                  exact StOut.mk (r := (us, dn, (cc, ci))) hq hs5 (fun b hb => .inl (by omega)) hc4 bA bB (by omega) gbA gbB (by omega) (by omega)
                case nP131 =>
                  have gbB := hq.size
                  have nebAbB := bA.lt
                  go_simp
                  refine hK.out _ _ ?_ (fun hSP149 => ?_)
                  · exact HK.out _ (hq.alloc hq.size (.cells #[.int .i64 0, .int .i64 0] 30))
                  clear hK K
                  try simp only [Act.put, List.setIfInBounds_toArray]
                  replace hq := hq.alloc hq.size (.cells #[.int .i64 0, .int .i64 0] 30)
                  replace bA := bA.alloc (.cells #[.int .i64 0, .int .i64 0] 30)
                  have bB := Blk.new WP126 30 #[.int .i64 0, .int .i64 0]
                  replace hsd := hsd.keep (Keeps.alloc WP126 _ (.cells #[.int .i64 0, .int .i64 0] 30))
                  have zP150 : WP126.heap.size < (WP126.alloc (.cells #[.int .i64 0, .int .i64 0] 30)).heap.size := by simp
                  generalize WP126.alloc (.cells #[.int .i64 0, .int .i64 0] 30) = WP148 at *
                  refine wpAnyH_ready (rs := [5]) (by kernel_rfl) (by simp) ?_
                  refine AllReadyH.cons rfl (fun K hK => ?nP151) (AllReadyH.nil)
                  go_simp
                  go_at_call 21
                  with_reducible refine (HPT.out _ Ad2 kd2 (HSV.out _ hq) hsd hkd2).mono ?_
                  rintro e WP152 ⟨A4, c4, rfl, hc4, hs4, hb9⟩
                  try go_wp2_with fail
                  refine hK.out _ _ ?_ (fun hSP153 => ?_)
                  · exact HK.out _ (hq.trans (hb9.mono hq.size))
                  clear hK K
                  try simp only [Act.put, List.setIfInBounds_toArray]
                  replace hq := hq.trans (hb9.mono hq.size)
                  have zP154 : WP148.heap.size ≤ WP152.heap.size := hb9.size
                  replace bA := bA.below hb9 bA.lt
                  replace bB := bB.below hb9 bB.lt
                  replace hsd := hsd.keep (Keeps.below hb9 fun _ _ h => h)
                  have hs5 := st_cap hs4
                  clear hs4
                  have hzp : wq.heap.size ≤ WP148.heap.size := by omega
                  clear hb9
                  refine wpAnyH_take (i := 6) (v := .tuple #[.agg #[.slice A4 us.length c4], .int .i64 dn, .agg #[.int .i64 cc, .int .i64 ci]]) rfl (by kernel_rfl) (by kernel_rfl) (by kernel_rfl) (fun _ _ _ h => h) (Or.inl ⟨by kernel_rfl, ?qP155⟩) (by assumption) ?rqP155
                  case qP155 => (intro w hSw; (try dsimp only at hSw); go_simp)
                  try simp only [Act.put, List.setIfInBounds_toArray]
                  refine wpAnyH_take (i := 7) (v := .agg #[.slice A4 us.length c4]) rfl (by kernel_rfl) (by kernel_rfl) (by kernel_rfl) (fun _ _ _ h => h) (Or.inl ⟨by kernel_rfl, ?qP156⟩) (by assumption) ?rqP156
                  case qP156 => (intro w hSw; (try dsimp only at hSw); go_simp)
                  try simp only [Act.put]
                  refine wpAnyH_take (i := 8) (v := .int .i64 dn) rfl (by kernel_rfl) (by kernel_rfl) (by kernel_rfl) (fun _ _ _ h => h) (Or.inl ⟨by kernel_rfl, ?qP157⟩) (by assumption) ?rqP157
                  case qP157 => (intro w hSw; (try dsimp only at hSw); go_simp)
                  try simp only [Act.put]
                  refine wpAnyH_take (i := 9) (v := .agg #[.int .i64 cc, .int .i64 ci]) rfl (by kernel_rfl) (by kernel_rfl) (by kernel_rfl) (fun _ _ _ h => h) (Or.inl ⟨by kernel_rfl, ?qP158⟩) (by assumption) ?rqP158
                  case qP158 => (intro w hSw; (try dsimp only at hSw); go_simp)
                  try simp only [Act.put]
                  refine wpAnyH_ready (rs := [12]) (by kernel_rfl) (by simp) ?_
                  refine AllReadyH.cons rfl (fun K hK => ?nP159) (AllReadyH.nil)
                  have bAl := bA.lt
                  have bAf0 := bA.frozen 0
                  have bAc0 := (bA.cell 0).trans rfl
                  have bBl := bB.lt
                  have bBf0 := bB.frozen 0
                  have bBc0 := (bB.cell 0).trans rfl
                  have bBf1 := bB.frozen 1
                  have bBc1 := (bB.cell 1).trans rfl
                  go_simp
                  refine hK.out _ _ ?_ (fun hSP160 => ?_)
                  · exact HK.out _ (hq.setCell (p := ⟨WP.heap.size, 0, none⟩) gbA _)
                  clear hK K
                  try simp only [Act.put, List.setIfInBounds_toArray]
                  refine wpAnyH_take (i := 13) (v := .int .i64 dn) rfl (by kernel_rfl) (by kernel_rfl) (by kernel_rfl) (fun _ _ _ h => h) (Or.inl ⟨by kernel_rfl, ?qP161⟩) (by assumption) ?rqP161
                  case qP161 => (intro w hSw; (try dsimp only at hSw); go_simp)
                  try simp only [Act.put, List.setIfInBounds_toArray]
                  refine wpAnyH_ready (rs := [14]) (by kernel_rfl) (by simp) ?_
                  refine AllReadyH.cons rfl (fun K hK => ?nP162) (AllReadyH.nil)
                  go_simp
                  refine hK.out _ _ ?_ (fun hSP163 => ?_)
                  · exact HK.out _ (((hq.setCell (p := ⟨WP.heap.size, 0, none⟩) gbA _).setCell (p := ⟨WP126.heap.size, 0, none⟩) gbB _).setCell (p := ⟨WP126.heap.size, 1, none⟩) gbB _)
                  clear hK K
                  try simp only [Act.put, List.setIfInBounds_toArray]
                  refine wpAnyH_done (by kernel_rfl) ?_ _
                  refine NoPanic.normal ?_
                  try go_wp2_with fail
                  go_meet
                  exact StOut.mk (r := (us, dn, (cc, ci))) hq hs5 (fun b hb => .inl (by omega)) hc4 bA bB (by omega) gbA gbB (by omega) (by omega)
              case nP125 =>
                have gbB := hq.size
                have nebAbB := bA.lt
                go_simp
                refine hK.out _ _ ?_ (fun hSP165 => ?_)
                · exact HK.out _ (hq.alloc hq.size (.cells #[.int .i64 0, .int .i64 0] 30))
                clear hK K
                try simp only [Act.put, List.setIfInBounds_toArray]
                replace hq := hq.alloc hq.size (.cells #[.int .i64 0, .int .i64 0] 30)
                replace bA := bA.alloc (.cells #[.int .i64 0, .int .i64 0] 30)
                have bB := Blk.new WP121 30 #[.int .i64 0, .int .i64 0]
                have zP166 : WP121.heap.size < (WP121.alloc (.cells #[.int .i64 0, .int .i64 0] 30)).heap.size := by simp
                generalize WP121.alloc (.cells #[.int .i64 0, .int .i64 0] 30) = WP164 at *
                refine wpAnyH_ready (rs := [3]) (by kernel_rfl) (by simp) ?_
                refine AllReadyH.cons rfl (fun K hK => ?nP167) (AllReadyH.nil)
                go_simp
                go_at_call 22
                with_reducible refine (HTM.out _ hlnq hq).mono ?_
                rintro e WP168 ⟨Ad2, kd2, rfl, hkd2, _, hown2, hb9⟩
                try go_wp2_with fail
                refine hK.out _ _ ?_ (fun hSP169 => ?_)
                · exact HK.out _ (hq.trans (hb9.mono hq.size))
                clear hK K
                try simp only [Act.put, List.setIfInBounds_toArray]
                replace hq := hq.trans (hb9.mono hq.size)
                have zP170 : WP164.heap.size ≤ WP168.heap.size := hb9.size
                replace bA := bA.below hb9 bA.lt
                replace bB := bB.below hb9 bB.lt
                have hsd : SA WP168 Free Ad2 (bytesV jL) := SA.of_own hown2 (fun b h => h.elim)
                clear hown2
                clear hb9
                refine wpAnyH_take (i := 4) (v := .agg #[.int .i64 1, .slice none 0 0, .slice Ad2 jL.length kd2]) rfl (by kernel_rfl) (by kernel_rfl) (by kernel_rfl) (fun _ _ _ h => h) (Or.inl ⟨by kernel_rfl, ?qP171⟩) (by assumption) ?rqP171
                case qP171 => (intro w hSw; (try dsimp only at hSw); go_simp)
                try simp only [Act.put, List.setIfInBounds_toArray]
                refine wpAnyH_ready (rs := [5]) (by kernel_rfl) (by simp) ?_
                refine AllReadyH.cons rfl (fun K hK => ?nP172) (AllReadyH.nil)
                go_simp
                go_at_call 21
                with_reducible refine (HPT.out _ Ad2 kd2 (HSV.out _ hq) hsd hkd2).mono ?_
                rintro e WP173 ⟨A4, c4, rfl, hc4, hs4, hb9⟩
                try go_wp2_with fail
                refine hK.out _ _ ?_ (fun hSP174 => ?_)
                · exact HK.out _ (hq.trans (hb9.mono hq.size))
                clear hK K
                try simp only [Act.put, List.setIfInBounds_toArray]
                replace hq := hq.trans (hb9.mono hq.size)
                have zP175 : WP168.heap.size ≤ WP173.heap.size := hb9.size
                replace bA := bA.below hb9 bA.lt
                replace bB := bB.below hb9 bB.lt
                replace hsd := hsd.keep (Keeps.below hb9 fun _ _ h => h)
                have hs5 := st_cap hs4
                clear hs4
                have hzp : wq.heap.size ≤ WP168.heap.size := by omega
                clear hb9
                refine wpAnyH_take (i := 6) (v := .tuple #[.agg #[.slice A4 us.length c4], .int .i64 dn, .agg #[.int .i64 cc, .int .i64 ci]]) rfl (by kernel_rfl) (by kernel_rfl) (by kernel_rfl) (fun _ _ _ h => h) (Or.inl ⟨by kernel_rfl, ?qP176⟩) (by assumption) ?rqP176
                case qP176 => (intro w hSw; (try dsimp only at hSw); go_simp)
                try simp only [Act.put, List.setIfInBounds_toArray]
                refine wpAnyH_take (i := 7) (v := .agg #[.slice A4 us.length c4]) rfl (by kernel_rfl) (by kernel_rfl) (by kernel_rfl) (fun _ _ _ h => h) (Or.inl ⟨by kernel_rfl, ?qP177⟩) (by assumption) ?rqP177
                case qP177 => (intro w hSw; (try dsimp only at hSw); go_simp)
                try simp only [Act.put]
                refine wpAnyH_take (i := 8) (v := .int .i64 dn) rfl (by kernel_rfl) (by kernel_rfl) (by kernel_rfl) (fun _ _ _ h => h) (Or.inl ⟨by kernel_rfl, ?qP178⟩) (by assumption) ?rqP178
                case qP178 => (intro w hSw; (try dsimp only at hSw); go_simp)
                try simp only [Act.put]
                refine wpAnyH_take (i := 9) (v := .agg #[.int .i64 cc, .int .i64 ci]) rfl (by kernel_rfl) (by kernel_rfl) (by kernel_rfl) (fun _ _ _ h => h) (Or.inl ⟨by kernel_rfl, ?qP179⟩) (by assumption) ?rqP179
                case qP179 => (intro w hSw; (try dsimp only at hSw); go_simp)
                try simp only [Act.put]
                refine wpAnyH_ready (rs := [12]) (by kernel_rfl) (by simp) ?_
                refine AllReadyH.cons rfl (fun K hK => ?nP180) (AllReadyH.nil)
                have bAl := bA.lt
                have bAf0 := bA.frozen 0
                have bAc0 := (bA.cell 0).trans rfl
                have bBl := bB.lt
                have bBf0 := bB.frozen 0
                have bBc0 := (bB.cell 0).trans rfl
                have bBf1 := bB.frozen 1
                have bBc1 := (bB.cell 1).trans rfl
                go_simp
                refine hK.out _ _ ?_ (fun hSP181 => ?_)
                · exact HK.out _ (hq.setCell (p := ⟨WP.heap.size, 0, none⟩) gbA _)
                clear hK K
                try simp only [Act.put, List.setIfInBounds_toArray]
                refine wpAnyH_take (i := 13) (v := .int .i64 dn) rfl (by kernel_rfl) (by kernel_rfl) (by kernel_rfl) (fun _ _ _ h => h) (Or.inl ⟨by kernel_rfl, ?qP182⟩) (by assumption) ?rqP182
                case qP182 => (intro w hSw; (try dsimp only at hSw); go_simp)
                try simp only [Act.put, List.setIfInBounds_toArray]
                refine wpAnyH_ready (rs := [14]) (by kernel_rfl) (by simp) ?_
                refine AllReadyH.cons rfl (fun K hK => ?nP183) (AllReadyH.nil)
                go_simp
                refine hK.out _ _ ?_ (fun hSP184 => ?_)
                · exact HK.out _ (((hq.setCell (p := ⟨WP.heap.size, 0, none⟩) gbA _).setCell (p := ⟨WP121.heap.size, 0, none⟩) gbB _).setCell (p := ⟨WP121.heap.size, 1, none⟩) gbB _)
                clear hK K
                try simp only [Act.put, List.setIfInBounds_toArray]
                refine wpAnyH_done (by kernel_rfl) ?_ _
                refine NoPanic.normal ?_
                try go_wp2_with fail
                go_meet
                exact StOut.mk (r := (us, dn, (cc, ci))) hq hs5 (fun b hb => .inl (by omega)) hc4 bA bB (by omega) gbA gbB (by omega) (by omega)
            case nP6 =>
              have gbB := hq.size
              go_simp
              refine hK.out _ _ ?_ (fun hSP186 => ?_)
              · exact HK.out _ (hq.alloc hq.size (.cells #[.int .i64 0, .int .i64 0] 30))
              clear hK K
              try simp only [Act.put, List.setIfInBounds_toArray]
              replace hq := hq.alloc hq.size (.cells #[.int .i64 0, .int .i64 0] 30)
              have bB := Blk.new WP 30 #[.int .i64 0, .int .i64 0]
              have zP187 : WP.heap.size < (WP.alloc (.cells #[.int .i64 0, .int .i64 0] 30)).heap.size := by simp
              generalize WP.alloc (.cells #[.int .i64 0, .int .i64 0] 30) = WP185 at *
              refine wpAnyH_ready (rs := [3, 10]) (by kernel_rfl) (by simp) ?_
              refine AllReadyH.cons rfl (fun K hK => ?nP188) (AllReadyH.cons rfl (fun K hK => ?nP189) (AllReadyH.nil))
              case nP188 =>
                go_simp
                go_at_call 22
                with_reducible refine (HTM.out _ hlnq hq).mono ?_
                rintro e WP190 ⟨Ad2, kd2, rfl, hkd2, _, hown2, hb9⟩
                try go_wp2_with fail
                refine hK.out _ _ ?_ (fun hSP191 => ?_)
                · exact HK.out _ (hq.trans (hb9.mono hq.size))
                clear hK K
                try simp only [Act.put, List.setIfInBounds_toArray]
                replace hq := hq.trans (hb9.mono hq.size)
                have zP192 : WP185.heap.size ≤ WP190.heap.size := hb9.size
                replace bB := bB.below hb9 bB.lt
                have hsd : SA WP190 Free Ad2 (bytesV jL) := SA.of_own hown2 (fun b h => h.elim)
                clear hown2
                clear hb9
                refine wpAnyH_take (i := 4) (v := .agg #[.int .i64 1, .slice none 0 0, .slice Ad2 jL.length kd2]) rfl (by kernel_rfl) (by kernel_rfl) (by kernel_rfl) (fun _ _ _ h => h) (Or.inl ⟨by kernel_rfl, ?qP193⟩) (by assumption) ?rqP193
                case qP193 => (intro w hSw; (try dsimp only at hSw); go_simp)
                try simp only [Act.put, List.setIfInBounds_toArray]
                refine wpAnyH_ready (rs := [5, 10]) (by kernel_rfl) (by simp) ?_
                refine AllReadyH.cons rfl (fun K hK => ?nP194) (AllReadyH.cons rfl (fun K hK => ?nP195) (AllReadyH.nil))
                case nP194 =>
                  go_simp
                  go_at_call 21
                  with_reducible refine (HPT.out _ Ad2 kd2 (HSV.out _ hq) hsd hkd2).mono ?_
                  rintro e WP196 ⟨A4, c4, rfl, hc4, hs4, hb9⟩
                  try go_wp2_with fail
                  refine hK.out _ _ ?_ (fun hSP197 => ?_)
                  · exact HK.out _ (hq.trans (hb9.mono hq.size))
                  clear hK K
                  try simp only [Act.put, List.setIfInBounds_toArray]
                  replace hq := hq.trans (hb9.mono hq.size)
                  have zP198 : WP190.heap.size ≤ WP196.heap.size := hb9.size
                  replace bB := bB.below hb9 bB.lt
                  replace hsd := hsd.keep (Keeps.below hb9 fun _ _ h => h)
                  have hs5 := st_cap hs4
                  clear hs4
                  have hzp : wq.heap.size ≤ WP190.heap.size := by omega
                  clear hb9
                  refine wpAnyH_take (i := 6) (v := .tuple #[.agg #[.slice A4 us.length c4], .int .i64 dn, .agg #[.int .i64 cc, .int .i64 ci]]) rfl (by kernel_rfl) (by kernel_rfl) (by kernel_rfl) (fun _ _ _ h => h) (Or.inl ⟨by kernel_rfl, ?qP199⟩) (by assumption) ?rqP199
                  case qP199 => (intro w hSw; (try dsimp only at hSw); go_simp)
                  try simp only [Act.put, List.setIfInBounds_toArray]
                  refine wpAnyH_take (i := 7) (v := .agg #[.slice A4 us.length c4]) rfl (by kernel_rfl) (by kernel_rfl) (by kernel_rfl) (fun _ _ _ h => h) (Or.inl ⟨by kernel_rfl, ?qP200⟩) (by assumption) ?rqP200
                  case qP200 => (intro w hSw; (try dsimp only at hSw); go_simp)
                  try simp only [Act.put]
                  refine wpAnyH_take (i := 8) (v := .int .i64 dn) rfl (by kernel_rfl) (by kernel_rfl) (by kernel_rfl) (fun _ _ _ h => h) (Or.inl ⟨by kernel_rfl, ?qP201⟩) (by assumption) ?rqP201
                  case qP201 => (intro w hSw; (try dsimp only at hSw); go_simp)
                  try simp only [Act.put]
                  refine wpAnyH_take (i := 9) (v := .agg #[.int .i64 cc, .int .i64 ci]) rfl (by kernel_rfl) (by kernel_rfl) (by kernel_rfl) (fun _ _ _ h => h) (Or.inl ⟨by kernel_rfl, ?qP202⟩) (by assumption) ?rqP202
                  case qP202 => (intro w hSw; (try dsimp only at hSw); go_simp)
                  try simp only [Act.put]
                  refine wpAnyH_ready (rs := [10]) (by kernel_rfl) (by simp) ?_
                  refine AllReadyH.cons rfl (fun K hK => ?nP203) (AllReadyH.nil)
                  have gbA := hq.size
                  have nebBbA := bB.lt
                  go_simp
                  refine hK.out _ _ ?_ (fun hSP205 => ?_)
                  · exact HK.out _ (hq.alloc hq.size (.cells #[.slice none 0 0] 24))
                  clear hK K
                  try simp only [Act.put, List.setIfInBounds_toArray]
                  replace hq := hq.alloc hq.size (.cells #[.slice none 0 0] 24)
                  replace bB := bB.alloc (.cells #[.slice none 0 0] 24)
                  have bA := Blk.new WP196 24 #[.slice none 0 0]
                  replace hsd := hsd.keep (Keeps.alloc WP196 _ (.cells #[.slice none 0 0] 24))
                  replace hs5 := hs5.keep (Keeps.alloc WP196 _ (.cells #[.slice none 0 0] 24))
                  have zP206 : WP196.heap.size < (WP196.alloc (.cells #[.slice none 0 0] 24)).heap.size := by simp
                  generalize WP196.alloc (.cells #[.slice none 0 0] 24) = WP204 at *
                  refine wpAnyH_ready (rs := [12]) (by kernel_rfl) (by simp) ?_
                  refine AllReadyH.cons rfl (fun K hK => ?nP207) (AllReadyH.nil)
                  have bAl := bA.lt
                  have bAf0 := bA.frozen 0
                  have bAc0 := (bA.cell 0).trans rfl
                  have bBl := bB.lt
                  have bBf0 := bB.frozen 0
                  have bBc0 := (bB.cell 0).trans rfl
                  have bBf1 := bB.frozen 1
                  have bBc1 := (bB.cell 1).trans rfl
                  go_simp
                  refine hK.out _ _ ?_ (fun hSP208 => ?_)
                  · exact HK.out _ (hq.setCell (p := ⟨WP196.heap.size, 0, none⟩) gbA _)
                  clear hK K
                  try simp only [Act.put, List.setIfInBounds_toArray]
                  refine wpAnyH_take (i := 13) (v := .int .i64 dn) rfl (by kernel_rfl) (by kernel_rfl) (by kernel_rfl) (fun _ _ _ h => h) (Or.inl ⟨by kernel_rfl, ?qP209⟩) (by assumption) ?rqP209
                  case qP209 => (intro w hSw; (try dsimp only at hSw); go_simp)
                  try simp only [Act.put, List.setIfInBounds_toArray]
                  refine wpAnyH_ready (rs := [14]) (by kernel_rfl) (by simp) ?_
                  refine AllReadyH.cons rfl (fun K hK => ?nP210) (AllReadyH.nil)
                  go_simp
                  refine hK.out _ _ ?_ (fun hSP211 => ?_)
                  · exact HK.out _ (((hq.setCell (p := ⟨WP196.heap.size, 0, none⟩) gbA _).setCell (p := ⟨WP.heap.size, 0, none⟩) gbB _).setCell (p := ⟨WP.heap.size, 1, none⟩) gbB _)
                  clear hK K
                  try simp only [Act.put, List.setIfInBounds_toArray]
                  refine wpAnyH_done (by kernel_rfl) ?_ _
                  refine NoPanic.normal ?_
                  try go_wp2_with fail
                  go_meet
                  exact StOut.mk (r := (us, dn, (cc, ci))) hq hs5 (fun b hb => .inl (by omega)) hc4 bA bB (by omega) gbA gbB (by omega) (by omega)
                case nP195 =>
                  have gbA := hq.size
                  have nebBbA := bB.lt
                  go_simp
                  refine hK.out _ _ ?_ (fun hSP213 => ?_)
                  · exact HK.out _ (hq.alloc hq.size (.cells #[.slice none 0 0] 24))
                  clear hK K
                  try simp only [Act.put, List.setIfInBounds_toArray]
                  replace hq := hq.alloc hq.size (.cells #[.slice none 0 0] 24)
                  replace bB := bB.alloc (.cells #[.slice none 0 0] 24)
                  have bA := Blk.new WP190 24 #[.slice none 0 0]
                  replace hsd := hsd.keep (Keeps.alloc WP190 _ (.cells #[.slice none 0 0] 24))
                  have zP214 : WP190.heap.size < (WP190.alloc (.cells #[.slice none 0 0] 24)).heap.size := by simp
                  generalize WP190.alloc (.cells #[.slice none 0 0] 24) = WP212 at *
                  refine wpAnyH_ready (rs := [5]) (by kernel_rfl) (by simp) ?_
                  refine AllReadyH.cons rfl (fun K hK => ?nP215) (AllReadyH.nil)
                  go_simp
                  go_at_call 21
                  with_reducible refine (HPT.out _ Ad2 kd2 (HSV.out _ hq) hsd hkd2).mono ?_
                  rintro e WP216 ⟨A4, c4, rfl, hc4, hs4, hb9⟩
                  try go_wp2_with fail
                  refine hK.out _ _ ?_ (fun hSP217 => ?_)
                  · exact HK.out _ (hq.trans (hb9.mono hq.size))
                  clear hK K
                  try simp only [Act.put, List.setIfInBounds_toArray]
                  replace hq := hq.trans (hb9.mono hq.size)
                  have zP218 : WP212.heap.size ≤ WP216.heap.size := hb9.size
                  replace bB := bB.below hb9 bB.lt
                  replace bA := bA.below hb9 bA.lt
                  replace hsd := hsd.keep (Keeps.below hb9 fun _ _ h => h)
                  have hs5 := st_cap hs4
                  clear hs4
                  have hzp : wq.heap.size ≤ WP212.heap.size := by omega
                  clear hb9
                  refine wpAnyH_take (i := 6) (v := .tuple #[.agg #[.slice A4 us.length c4], .int .i64 dn, .agg #[.int .i64 cc, .int .i64 ci]]) rfl (by kernel_rfl) (by kernel_rfl) (by kernel_rfl) (fun _ _ _ h => h) (Or.inl ⟨by kernel_rfl, ?qP219⟩) (by assumption) ?rqP219
                  case qP219 => (intro w hSw; (try dsimp only at hSw); go_simp)
                  try simp only [Act.put, List.setIfInBounds_toArray]
                  refine wpAnyH_take (i := 7) (v := .agg #[.slice A4 us.length c4]) rfl (by kernel_rfl) (by kernel_rfl) (by kernel_rfl) (fun _ _ _ h => h) (Or.inl ⟨by kernel_rfl, ?qP220⟩) (by assumption) ?rqP220
                  case qP220 => (intro w hSw; (try dsimp only at hSw); go_simp)
                  try simp only [Act.put]
                  refine wpAnyH_take (i := 8) (v := .int .i64 dn) rfl (by kernel_rfl) (by kernel_rfl) (by kernel_rfl) (fun _ _ _ h => h) (Or.inl ⟨by kernel_rfl, ?qP221⟩) (by assumption) ?rqP221
                  case qP221 => (intro w hSw; (try dsimp only at hSw); go_simp)
                  try simp only [Act.put]
                  refine wpAnyH_take (i := 9) (v := .agg #[.int .i64 cc, .int .i64 ci]) rfl (by kernel_rfl) (by kernel_rfl) (by kernel_rfl) (fun _ _ _ h => h) (Or.inl ⟨by kernel_rfl, ?qP222⟩) (by assumption) ?rqP222
                  case qP222 => (intro w hSw; (try dsimp only at hSw); go_simp)
                  try simp only [Act.put]
                  refine wpAnyH_ready (rs := [12]) (by kernel_rfl) (by simp) ?_
                  refine AllReadyH.cons rfl (fun K hK => ?nP223) (AllReadyH.nil)
                  have bAl := bA.lt
                  have bAf0 := bA.frozen 0
                  have bAc0 := (bA.cell 0).trans rfl
                  have bBl := bB.lt
                  have bBf0 := bB.frozen 0
                  have bBc0 := (bB.cell 0).trans rfl
                  have bBf1 := bB.frozen 1
                  have bBc1 := (bB.cell 1).trans rfl
                  go_simp
                  refine hK.out _ _ ?_ (fun hSP224 => ?_)
                  · exact HK.out _ (hq.setCell (p := ⟨WP190.heap.size, 0, none⟩) gbA _)
                  clear hK K
                  try simp only [Act.put, List.setIfInBounds_toArray]
                  refine wpAnyH_take (i := 13) (v := .int .i64 dn) rfl (by kernel_rfl) (by kernel_rfl) (by kernel_rfl) (fun _ _ _ h => h) (Or.inl ⟨by kernel_rfl, ?qP225⟩) (by assumption) ?rqP225
                  case qP225 => (intro w hSw; (try dsimp only at hSw); go_simp)
                  try simp only [Act.put, List.setIfInBounds_toArray]
                  refine wpAnyH_ready (rs := [14]) (by kernel_rfl) (by simp) ?_
                  refine AllReadyH.cons rfl (fun K hK => ?nP226) (AllReadyH.nil)
                  go_simp
                  refine hK.out _ _ ?_ (fun hSP227 => ?_)
                  · exact HK.out _ (((hq.setCell (p := ⟨WP190.heap.size, 0, none⟩) gbA _).setCell (p := ⟨WP.heap.size, 0, none⟩) gbB _).setCell (p := ⟨WP.heap.size, 1, none⟩) gbB _)
                  clear hK K
                  try simp only [Act.put, List.setIfInBounds_toArray]
                  refine wpAnyH_done (by kernel_rfl) ?_ _
                  refine NoPanic.normal ?_
                  try go_wp2_with fail
                  go_meet
                  exact StOut.mk (r := (us, dn, (cc, ci))) hq hs5 (fun b hb => .inl (by omega)) hc4 bA bB (by omega) gbA gbB (by omega) (by omega)
              case nP189 =>
                have gbA := hq.size
                have nebBbA := bB.lt
                go_simp
                refine hK.out _ _ ?_ (fun hSP229 => ?_)
                · exact HK.out _ (hq.alloc hq.size (.cells #[.slice none 0 0] 24))
                clear hK K
                try simp only [Act.put, List.setIfInBounds_toArray]
                replace hq := hq.alloc hq.size (.cells #[.slice none 0 0] 24)
                replace bB := bB.alloc (.cells #[.slice none 0 0] 24)
                have bA := Blk.new WP185 24 #[.slice none 0 0]
                have zP230 : WP185.heap.size < (WP185.alloc (.cells #[.slice none 0 0] 24)).heap.size := by simp
                generalize WP185.alloc (.cells #[.slice none 0 0] 24) = WP228 at *
                refine wpAnyH_ready (rs := [3]) (by kernel_rfl) (by simp) ?_
                refine AllReadyH.cons rfl (fun K hK => ?nP231) (AllReadyH.nil)
                go_simp
                go_at_call 22
                with_reducible refine (HTM.out _ hlnq hq).mono ?_
                rintro e WP232 ⟨Ad2, kd2, rfl, hkd2, _, hown2, hb9⟩
                try go_wp2_with fail
                refine hK.out _ _ ?_ (fun hSP233 => ?_)
                · exact HK.out _ (hq.trans (hb9.mono hq.size))
                clear hK K
                try simp only [Act.put, List.setIfInBounds_toArray]
                replace hq := hq.trans (hb9.mono hq.size)
                have zP234 : WP228.heap.size ≤ WP232.heap.size := hb9.size
                replace bB := bB.below hb9 bB.lt
                replace bA := bA.below hb9 bA.lt
                have hsd : SA WP232 Free Ad2 (bytesV jL) := SA.of_own hown2 (fun b h => h.elim)
                clear hown2
                clear hb9
                refine wpAnyH_take (i := 4) (v := .agg #[.int .i64 1, .slice none 0 0, .slice Ad2 jL.length kd2]) rfl (by kernel_rfl) (by kernel_rfl) (by kernel_rfl) (fun _ _ _ h => h) (Or.inl ⟨by kernel_rfl, ?qP235⟩) (by assumption) ?rqP235
                case qP235 => (intro w hSw; (try dsimp only at hSw); go_simp)
                try simp only [Act.put, List.setIfInBounds_toArray]
                refine wpAnyH_ready (rs := [5]) (by kernel_rfl) (by simp) ?_
                refine AllReadyH.cons rfl (fun K hK => ?nP236) (AllReadyH.nil)
                go_simp
                go_at_call 21
                with_reducible refine (HPT.out _ Ad2 kd2 (HSV.out _ hq) hsd hkd2).mono ?_
                rintro e WP237 ⟨A4, c4, rfl, hc4, hs4, hb9⟩
                try go_wp2_with fail
                refine hK.out _ _ ?_ (fun hSP238 => ?_)
                · exact HK.out _ (hq.trans (hb9.mono hq.size))
                clear hK K
                try simp only [Act.put, List.setIfInBounds_toArray]
                replace hq := hq.trans (hb9.mono hq.size)
                have zP239 : WP232.heap.size ≤ WP237.heap.size := hb9.size
                replace bB := bB.below hb9 bB.lt
                replace bA := bA.below hb9 bA.lt
                replace hsd := hsd.keep (Keeps.below hb9 fun _ _ h => h)
                have hs5 := st_cap hs4
                clear hs4
                have hzp : wq.heap.size ≤ WP232.heap.size := by omega
                clear hb9
                refine wpAnyH_take (i := 6) (v := .tuple #[.agg #[.slice A4 us.length c4], .int .i64 dn, .agg #[.int .i64 cc, .int .i64 ci]]) rfl (by kernel_rfl) (by kernel_rfl) (by kernel_rfl) (fun _ _ _ h => h) (Or.inl ⟨by kernel_rfl, ?qP240⟩) (by assumption) ?rqP240
                case qP240 => (intro w hSw; (try dsimp only at hSw); go_simp)
                try simp only [Act.put, List.setIfInBounds_toArray]
                refine wpAnyH_take (i := 7) (v := .agg #[.slice A4 us.length c4]) rfl (by kernel_rfl) (by kernel_rfl) (by kernel_rfl) (fun _ _ _ h => h) (Or.inl ⟨by kernel_rfl, ?qP241⟩) (by assumption) ?rqP241
                case qP241 => (intro w hSw; (try dsimp only at hSw); go_simp)
                try simp only [Act.put]
                refine wpAnyH_take (i := 8) (v := .int .i64 dn) rfl (by kernel_rfl) (by kernel_rfl) (by kernel_rfl) (fun _ _ _ h => h) (Or.inl ⟨by kernel_rfl, ?qP242⟩) (by assumption) ?rqP242
                case qP242 => (intro w hSw; (try dsimp only at hSw); go_simp)
                try simp only [Act.put]
                refine wpAnyH_take (i := 9) (v := .agg #[.int .i64 cc, .int .i64 ci]) rfl (by kernel_rfl) (by kernel_rfl) (by kernel_rfl) (fun _ _ _ h => h) (Or.inl ⟨by kernel_rfl, ?qP243⟩) (by assumption) ?rqP243
                case qP243 => (intro w hSw; (try dsimp only at hSw); go_simp)
                try simp only [Act.put]
                refine wpAnyH_ready (rs := [12]) (by kernel_rfl) (by simp) ?_
                refine AllReadyH.cons rfl (fun K hK => ?nP244) (AllReadyH.nil)
                have bAl := bA.lt
                have bAf0 := bA.frozen 0
                have bAc0 := (bA.cell 0).trans rfl
                have bBl := bB.lt
                have bBf0 := bB.frozen 0
                have bBc0 := (bB.cell 0).trans rfl
                have bBf1 := bB.frozen 1
                have bBc1 := (bB.cell 1).trans rfl
                go_simp
                refine hK.out _ _ ?_ (fun hSP245 => ?_)
                · exact HK.out _ (hq.setCell (p := ⟨WP185.heap.size, 0, none⟩) gbA _)
                clear hK K
                try simp only [Act.put, List.setIfInBounds_toArray]
                refine wpAnyH_take (i := 13) (v := .int .i64 dn) rfl (by kernel_rfl) (by kernel_rfl) (by kernel_rfl) (fun _ _ _ h => h) (Or.inl ⟨by kernel_rfl, ?qP246⟩) (by assumption) ?rqP246
                case qP246 => (intro w hSw; (try dsimp only at hSw); go_simp)
                try simp only [Act.put, List.setIfInBounds_toArray]
                refine wpAnyH_ready (rs := [14]) (by kernel_rfl) (by simp) ?_
                refine AllReadyH.cons rfl (fun K hK => ?nP247) (AllReadyH.nil)
                go_simp
                refine hK.out _ _ ?_ (fun hSP248 => ?_)
                · exact HK.out _ (((hq.setCell (p := ⟨WP185.heap.size, 0, none⟩) gbA _).setCell (p := ⟨WP.heap.size, 0, none⟩) gbB _).setCell (p := ⟨WP.heap.size, 1, none⟩) gbB _)
                clear hK K
                try simp only [Act.put, List.setIfInBounds_toArray]
                refine wpAnyH_done (by kernel_rfl) ?_ _
                refine NoPanic.normal ?_
                try go_wp2_with fail
                go_meet
                exact StOut.mk (r := (us, dn, (cc, ci))) hq hs5 (fun b hb => .inl (by omega)) hc4 bA bB (by omega) gbA gbB (by omega) (by omega)
          case rest =>
            obtain ⟨gA, gB, A4, c4, rfl, hdv, rfl, hgA, hgB, bA, bB, hcc, hs4, hb4⟩ := hcut
            simp only at hdv
            subst hdv
            obtain ⟨wb, rfl⟩ : ∃ wb : World, wb = wc := ⟨_, rfl⟩
            simp only at bA bB hcc hs4
            have stb := stq.below hb4
            replace bq := bq.below hb4 bq.lt
          
            obtain ⟨p0, p1, p2, p3, p4, p5, p6, p7, p8, l0, l1, l2, l3, l4⟩ := stb.bb.facts
            have x0 := stb.bx.frozen 0
            have a0 := (bA.cell 0).trans rfl
            have a1 := bA.lt
            have c0 := (bB.cell 0).trans rfl
            have c1 := (bB.cell 1).trans rfl
            have c2 := bB.lt
            have hs5 := hs4.keep ((Keeps.refl wb _).into (X'' := Wx w g Al ls.length cl Ad da.length cd) stq.under)
            clear HTM HPT HK HSV hlnq hb4 hs4 stq bA bB
            rcases HPA.out with ⟨hc, hp⟩ | ⟨_, u, hu, hsu, hp⟩
            · simp only at hc hp
              have HR : Hid (∀ w', Below w.heap.size w w' → WrPost w r (.returned (.tuple #[.agg #[.slice none 0 0], .int .i64 0, .agg #[.int .i64 cc, .int .i64 (-2)]])) w') := Lib.hid fun w' hb => WrPost.no (HF3.out cc (HPQ.out.trans hp) hc) hb
              have hx1 : (cc == 0) = false := by simpa using hc
              have hx2 : (cc != 0) = true := by simpa using hc
              clear HPA HPQ HF3 HF4 hc hp hs5 HPS2 HLS2 H5 HT HV hs40 HLL HIL HTO HOE
              go_wp2_with fail
              go_region
              all_goals
                go_wp2_with fail
                obtain ⟨k1, k2, k3⟩ := put12 stb.r1 stb.r2 (by omega) (.slice none 0 0) (.int .i64 cc) (.int .i64 (-2))
                refine bodyPost_ret (results_24_t_28 rfl _ _ (w.heap.size + 2) (w.heap.size + 3) (.slice none 0 0) (.int .i64 cc) (.int .i64 (-2)) rfl rfl k1.drew k2.drew) rfl ?_
                exact HR.out _ (below_drew' (k3 _ _ (by omega) (by omega) stb.rt.bel))
            · injection hu with e1 e2
              injection e2 with e2 e3
              injection e3 with e3 e4
              subst e1 e2 e3 e4
              have HPN := Lib.hid (HPQ.out.trans hp)
              have st5 := stb.setS hs5 c4
              have bq5 := bq.far (p := ⟨w.heap.size, 0, none⟩) (by simp; omega) (.slice A4 us.length c4)
              have g1 := (st5.rt.sb.cell 1).trans rfl
              have g2 := st5.rt.sb.lt
              have st5a := st5.below (below_alloc1 _ (.cells #[.int .i64 (dg : Int)] 3))
              have H5' := H5.out
              have h63 : ls.length + 1 ≤ maxLen := by unfold maxLen; omega
              have hby : (ls.length + 1) * 8 ≤ 140737488355328 := by omega
              have hsz5 : (wb.setCell ⟨w.heap.size, 0, none⟩ (.slice A4 us.length c4)).heap.size = wb.heap.size := by simp [World.setCell]
              have hnew := ((Blk.new (wb.setCell ⟨w.heap.size, 0, none⟩ (.slice A4 us.length c4)) 3 #[.int .i64 (dg : Int)]).cell 0).trans rfl
              rw [hsz5] at hnew
              clear HPA HPQ hp hs5 H5' H5 HF3 HF4
              go_wp2_with (first | (at_builtin; refine wpList_app1o _ rfl (.tmp 60) (.tmp 62) 41 rfl (g + 1) 3 i0 (.int .i64 0) 8 Tryd.underlying41 hi0 hz0 hz1 hz2 rfl Al ls.length cl (intsV ls) rfl st5a.rt.ol _ 1 (.int .i64 (dg : Int)) rfl hnew rfl h63 hby (Nat.succ_le_of_lt st5a.rt.sb.lt) ?_))
              intro A7 c7 w7 hown7 hg7 hc7 hob7
              have hob7' : (Value.slice A7 (ls.length + 1) c7).ownBlock = (Value.slice Al ls.length cl).ownBlock ∨ (Value.slice A7 (ls.length + 1) c7).ownBlock = some ((wb.setCell ⟨w.heap.size, 0, none⟩ (.slice A4 us.length c4)).alloc (.cells #[.int .i64 (dg : Int)] 3)).heap.size := by
                rw [show ((wb.setCell ⟨w.heap.size, 0, none⟩ (.slice A4 us.length c4)).alloc (.cells #[.int .i64 (dg : Int)] 3)).heap.size = wb.heap.size + 1 by simp [World.setCell]]; exact hob7
              have st7 := st5a.appL hg7 hown7 hob7'
              have bk7 := st5a.rt.sb.grown hg7 (own_blk_ne st5a.rt.ol st5a.rt.sb (by decide))
              have b70 := bk7.frozen 1
              have b71 := bk7.lt
              have b72 := (bk7.cell 1).trans rfl
              have bq7 := ((bq5.alloc (.cells #[.int .i64 (dg : Int)] 3)).grown hg7 (own_blk_ne st5a.rt.ol (bq5.alloc (.cells #[.int .i64 (dg : Int)] 3)) (by decide))).far (p := ⟨g, 1, none⟩) (by simp; omega) (.slice A7 (ls.length + 1) c7)
              clear x0 hnew hsz5 hob7 hob7' hc7 hown7 hg7 bk7 st5a st5 stb bq5 bq g1 g2 a0 a1 c0 c1 c2 p0 p1 p2 p3 p4 p5 p6 p7 p8 l0 l1 l2 l3 l4 h63 hby
              go_wp2_with fail
              obtain ⟨wo2, hwo2⟩ : ∃ W : World, W = w7.setCell ⟨g, 1, none⟩ (.slice A7 (ls.length + 1) c7) := ⟨_, rfl⟩
              rw [← hwo2] at st7 bq7 ⊢
              clear hwo2 b70 b71 b72
              generalize hls : ls ++ [(dg : Int)] = ls2 at *
              have HK : Hid (∀ w6 : World, Below wo2.heap.size wo2 w6 → w6.cell? ⟨x, 0, none⟩ = some (strV p)) := Lib.hid fun w6 h6 => ((bq7.below h6 bq7.lt).cell 0).trans rfl
              have hjp : Tr.joined [p] = p ++ [10] := Tr.joined_one p
              have HTP : Hid (∀ (W : World) (A2 : Option Addr) (k2 : Nat), SA W Free A2 (ssV [p]) → Calls Tryd.prog 22 #[.slice A2 1 k2] W (BtPost W (Tr.joined [p]))) := Lib.hid (fun W A2 k2 hv => terminated_any W A2 k2 [p] hv (by simp) (by rw [hjp]; simp; omega))
              rw [hjp] at HTP
              have hpl : (p ++ [10]).length = p.length + 1 := by simp
              have h63 : da.length + (p ++ [10]).length ≤ maxLen := by unfold maxLen; omega
              have hby : (da.length + (p ++ [10]).length) * 1 ≤ 140737488355328 := by omega
              clear hjp hpl
              generalize hpn : p ++ [10] = pn at *
              clear hpn
              refine wp_region_noPanic ?_
              refine wp_region_held_drew (S := (fun w6 : World => w6.cell? ⟨x, 0, none⟩ = some (strV p))) (by kernel_rfl) ?_ (fun hSR => ?_)
              · exact HK.out _ (below_drew' (Below.refl _ _))
              have hq : Below wo2.heap.size wo2 wo2.drew := below_drew' (Below.refl _ _)
              have hz0 : wo2.heap.size ≤ wo2.drew.heap.size := Nat.le_refl _
              replace st7 := st7.below hq
              have bqr := bq7.below hq bq7.lt
              generalize hWg : wo2.drew = WR at *
              clear hWg
              refine wpAnyH_take (i := 0) (v := .pointer (some ⟨g, 2, none⟩)) rfl (by kernel_rfl) (by kernel_rfl) (by kernel_rfl) (fun _ _ _ h => h) (Or.inl ⟨by kernel_rfl, ?qR1⟩) (by assumption) ?rqR1
              case qR1 => (intro w hSw; (try dsimp only at hSw); go_simp)
              try simp only [Act.put, List.setIfInBounds_toArray]
              refine wpAnyH_take (i := 2) (v := .pointer (some ⟨x, 0, none⟩)) rfl (by kernel_rfl) (by kernel_rfl) (by kernel_rfl) (fun _ _ _ h => h) (Or.inl ⟨by kernel_rfl, ?qR2⟩) (by assumption) ?rqR2
              case qR2 => (intro w hSw; (try dsimp only at hSw); go_simp)
              try simp only [Act.put]
              refine wpAnyH_take (i := 3) (v := strV p) rfl (by kernel_rfl) (by kernel_rfl) (by kernel_rfl) (fun _ _ _ h => h) (Or.inl ⟨by kernel_rfl, ?qR3⟩) (by assumption) ?rqR3
              case qR3 => (intro w hSw; (try dsimp only at hSw); go_simp)
              try simp only [Act.put]
              refine wpAnyH_ready (rs := [1, 4]) (by kernel_rfl) (by simp) ?_
              refine AllReadyH.cons rfl (fun K hK => ?nR4) (AllReadyH.cons rfl (fun K hK => ?nR5) (AllReadyH.nil))
              case nR4 =>
                have f1 := (st7.rt.sb.cell 2).trans rfl
                have f1l := st7.rt.sb.lt
                go_simp
                refine hK.out _ _ ?_ (fun hSR6 => ?_)
                · exact HK.out _ (hq)
                clear hK K
                try simp only [Act.put, List.setIfInBounds_toArray]
                refine wpAnyH_ready (rs := [4]) (by kernel_rfl) (by simp) ?_
                refine AllReadyH.cons rfl (fun K hK => ?nR7) (AllReadyH.nil)
                go_simp
                refine hK.out _ _ ?_ (fun hSR9 => ?_)
                · exact HK.out _ (hq.alloc hq.size (.cells #[strV p] 9))
                clear hK K
                try simp only [Act.put, List.setIfInBounds_toArray]
                replace hq := hq.alloc hq.size (.cells #[strV p] 9)
                replace bqr := bqr.alloc (.cells #[strV p] 9)
                have bl := Blk.new WR 9 #[strV p]
                replace st7 := st7.below (below_alloc1 WR (.cells #[strV p] 9))
                have zR10 : WR.heap.size < (WR.alloc (.cells #[strV p] 9)).heap.size := by simp
                generalize WR.alloc (.cells #[strV p] 9) = WR8 at *
                refine wpAnyH_ready (rs := [5]) (by kernel_rfl) (by simp) ?_
                refine AllReadyH.cons rfl (fun K hK => ?nR11) (AllReadyH.nil)
                go_simp
                go_at_call 22
                with_reducible refine (HTP.out _ _ 1 (by have := SA.of_blk (X := Free) bl (fun h => h); simpa [sC] using this)).mono ?_
                rintro e WR12 ⟨Aj, kj, rfl, hkj, _, hownj, hb9⟩
                try go_wp2_with fail
                refine hK.out _ _ ?_ (fun hSR13 => ?_)
                · exact HK.out _ (hq.trans (hb9.mono hq.size))
                clear hK K
                try simp only [Act.put, List.setIfInBounds_toArray]
                replace hq := hq.trans (hb9.mono hq.size)
                have zR14 : WR8.heap.size ≤ WR12.heap.size := hb9.size
                replace bqr := bqr.below hb9 bqr.lt
                replace bl := bl.below hb9 bl.lt
                replace st7 := st7.below hb9
                have hsj : SA WR12 Free Aj (bytesV pn) := SA.of_own hownj (fun b h => h.elim)
                clear hownj
                clear hb9
                refine wpAnyH_ready (rs := [6]) (by kernel_rfl) (by simp) ?_
                refine AllReadyH.cons rfl (fun K hK => ?nR15) (AllReadyH.nil)
                refine step_appMo _ rfl (.tmp 66) (.tmp 70) 52 rfl (g + 1) 5 j0 (.int .u8 0) 1 1 Tryd.underlying52 hj0 hy0 hy1 hy2 rfl (by decide) Ad da.length cd (bytesV da) rfl st7.rt.od _ Aj pn.length kj (bytesV pn) rfl (by simp) hsj.sv (bytesV_one pn) h63 hby (Nat.succ_le_of_lt st7.rt.sb.lt) ?_
                intro A8 c8 WR16 hown8 hg8 hob8
                have st9 := st7.appD hg8 hown8 hob8
                have hb8 := st7.rt.bel.grown hg8 st7.rt.bel.size (fun b hb => by have := (st7.rt.od.lt b hb).1; have := st7.hg5; omega)
                have bk8 := st7.rt.sb.grown hg8 (own_blk_ne st7.rt.od st7.rt.sb (by decide))
                have f8 := bk8.frozen 2
                have f8l := bk8.lt
                have f8c := (bk8.cell 2).trans rfl
                have bx8 := bqr.grown hg8 (own_blk_ne st7.rt.od bqr (by decide))
                refine hK.out _ _ ?_ (fun hSR17 => ?_)
                · exact (bx8.cell 0).trans rfl
                clear hK K
                try simp only [Act.put, List.setIfInBounds_toArray]
                clear hown8 hg8 hob8 bk8
                refine wpAnyH_take (i := 7) (v := .pointer (some ⟨g, 2, none⟩)) rfl (by kernel_rfl) (by kernel_rfl) (by kernel_rfl) (fun _ _ _ h => h) (Or.inl ⟨by kernel_rfl, ?qR18⟩) (by assumption) ?rqR18
                case qR18 => (intro w hSw; (try dsimp only at hSw); go_simp)
                try simp only [Act.put]
                refine wpAnyH_ready (rs := [8]) (by kernel_rfl) (by simp) ?_
                refine AllReadyH.cons rfl (fun K hK => ?nR19) (AllReadyH.nil)
                go_simp
                refine hK.out _ _ ?_ (fun hSR20 => ?_)
                · exact ((bx8.far (p := ⟨g, 2, none⟩) (by simp; omega) _).cell 0).trans rfl
                clear hK K
                try simp only [Act.put, List.setIfInBounds_toArray]
                refine wpAnyH_done (by kernel_rfl) ?_ _
                refine NoPanic.normal ?_
                go_wp2_with fail
                go_roundw
                case rel => exact ⟨i + 1, A4, c4, us, A7, c7, A8, c8, by omega, by go_num, by rw [HLS2.out, HPS2.out]; exact st9, hsu, HPN⟩
                case measure => simp [intOf]; omega
              case nR5 =>
                go_simp
                refine hK.out _ _ ?_ (fun hSR22 => ?_)
                · exact HK.out _ (hq.alloc hq.size (.cells #[strV p] 9))
                clear hK K
                try simp only [Act.put, List.setIfInBounds_toArray]
                replace hq := hq.alloc hq.size (.cells #[strV p] 9)
                replace bqr := bqr.alloc (.cells #[strV p] 9)
                have bl := Blk.new WR 9 #[strV p]
                replace st7 := st7.below (below_alloc1 WR (.cells #[strV p] 9))
                have zR23 : WR.heap.size < (WR.alloc (.cells #[strV p] 9)).heap.size := by simp
                generalize WR.alloc (.cells #[strV p] 9) = WR21 at *
                refine wpAnyH_ready (rs := [1, 5]) (by kernel_rfl) (by simp) ?_
                refine AllReadyH.cons rfl (fun K hK => ?nR24) (AllReadyH.cons rfl (fun K hK => ?nR25) (AllReadyH.nil))
                case nR24 =>
                  have f1 := (st7.rt.sb.cell 2).trans rfl
                  have f1l := st7.rt.sb.lt
                  go_simp
                  refine hK.out _ _ ?_ (fun hSR26 => ?_)
                  · exact HK.out _ (hq)
                  clear hK K
                  try simp only [Act.put, List.setIfInBounds_toArray]
                  refine wpAnyH_ready (rs := [5]) (by kernel_rfl) (by simp) ?_
                  refine AllReadyH.cons rfl (fun K hK => ?nR27) (AllReadyH.nil)
                  go_simp
                  go_at_call 22
                  with_reducible refine (HTP.out _ _ 1 (by have := SA.of_blk (X := Free) bl (fun h => h); simpa [sC] using this)).mono ?_
                  rintro e WR28 ⟨Aj, kj, rfl, hkj, _, hownj, hb9⟩
                  try go_wp2_with fail
                  refine hK.out _ _ ?_ (fun hSR29 => ?_)
                  · exact HK.out _ (hq.trans (hb9.mono hq.size))
                  clear hK K
                  try simp only [Act.put, List.setIfInBounds_toArray]
                  replace hq := hq.trans (hb9.mono hq.size)
                  have zR30 : WR21.heap.size ≤ WR28.heap.size := hb9.size
                  replace bqr := bqr.below hb9 bqr.lt
                  replace bl := bl.below hb9 bl.lt
                  replace st7 := st7.below hb9
                  have hsj : SA WR28 Free Aj (bytesV pn) := SA.of_own hownj (fun b h => h.elim)
                  clear hownj
                  clear hb9
                  refine wpAnyH_ready (rs := [6]) (by kernel_rfl) (by simp) ?_
                  refine AllReadyH.cons rfl (fun K hK => ?nR31) (AllReadyH.nil)
                  refine step_appMo _ rfl (.tmp 66) (.tmp 70) 52 rfl (g + 1) 5 j0 (.int .u8 0) 1 1 Tryd.underlying52 hj0 hy0 hy1 hy2 rfl (by decide) Ad da.length cd (bytesV da) rfl st7.rt.od _ Aj pn.length kj (bytesV pn) rfl (by simp) hsj.sv (bytesV_one pn) h63 hby (Nat.succ_le_of_lt st7.rt.sb.lt) ?_
                  intro A8 c8 WR32 hown8 hg8 hob8
                  have st9 := st7.appD hg8 hown8 hob8
                  have hb8 := st7.rt.bel.grown hg8 st7.rt.bel.size (fun b hb => by have := (st7.rt.od.lt b hb).1; have := st7.hg5; omega)
                  have bk8 := st7.rt.sb.grown hg8 (own_blk_ne st7.rt.od st7.rt.sb (by decide))
                  have f8 := bk8.frozen 2
                  have f8l := bk8.lt
                  have f8c := (bk8.cell 2).trans rfl
                  have bx8 := bqr.grown hg8 (own_blk_ne st7.rt.od bqr (by decide))
                  refine hK.out _ _ ?_ (fun hSR33 => ?_)
                  · exact (bx8.cell 0).trans rfl
                  clear hK K
                  try simp only [Act.put, List.setIfInBounds_toArray]
                  clear hown8 hg8 hob8 bk8
                  refine wpAnyH_take (i := 7) (v := .pointer (some ⟨g, 2, none⟩)) rfl (by kernel_rfl) (by kernel_rfl) (by kernel_rfl) (fun _ _ _ h => h) (Or.inl ⟨by kernel_rfl, ?qR34⟩) (by assumption) ?rqR34
                  case qR34 => (intro w hSw; (try dsimp only at hSw); go_simp)
                  try simp only [Act.put]
                  refine wpAnyH_ready (rs := [8]) (by kernel_rfl) (by simp) ?_
                  refine AllReadyH.cons rfl (fun K hK => ?nR35) (AllReadyH.nil)
                  go_simp
                  refine hK.out _ _ ?_ (fun hSR36 => ?_)
                  · exact ((bx8.far (p := ⟨g, 2, none⟩) (by simp; omega) _).cell 0).trans rfl
                  clear hK K
                  try simp only [Act.put, List.setIfInBounds_toArray]
                  refine wpAnyH_done (by kernel_rfl) ?_ _
                  refine NoPanic.normal ?_
                  go_wp2_with fail
                  go_roundw
                  case rel => exact ⟨i + 1, A4, c4, us, A7, c7, A8, c8, by omega, by go_num, by rw [HLS2.out, HPS2.out]; exact st9, hsu, HPN⟩
                  case measure => simp [intOf]; omega
                case nR25 =>
                  go_simp
                  go_at_call 22
                  with_reducible refine (HTP.out _ _ 1 (by have := SA.of_blk (X := Free) bl (fun h => h); simpa [sC] using this)).mono ?_
                  rintro e WR37 ⟨Aj, kj, rfl, hkj, _, hownj, hb9⟩
                  try go_wp2_with fail
                  refine hK.out _ _ ?_ (fun hSR38 => ?_)
                  · exact HK.out _ (hq.trans (hb9.mono hq.size))
                  clear hK K
                  try simp only [Act.put, List.setIfInBounds_toArray]
                  replace hq := hq.trans (hb9.mono hq.size)
                  have zR39 : WR21.heap.size ≤ WR37.heap.size := hb9.size
                  replace bqr := bqr.below hb9 bqr.lt
                  replace bl := bl.below hb9 bl.lt
                  replace st7 := st7.below hb9
                  have hsj : SA WR37 Free Aj (bytesV pn) := SA.of_own hownj (fun b h => h.elim)
                  clear hownj
                  clear hb9
                  refine wpAnyH_ready (rs := [1]) (by kernel_rfl) (by simp) ?_
                  refine AllReadyH.cons rfl (fun K hK => ?nR40) (AllReadyH.nil)
                  have f1 := (st7.rt.sb.cell 2).trans rfl
                  have f1l := st7.rt.sb.lt
                  go_simp
                  refine hK.out _ _ ?_ (fun hSR41 => ?_)
                  · exact HK.out _ (hq)
                  clear hK K
                  try simp only [Act.put, List.setIfInBounds_toArray]
                  refine wpAnyH_ready (rs := [6]) (by kernel_rfl) (by simp) ?_
                  refine AllReadyH.cons rfl (fun K hK => ?nR42) (AllReadyH.nil)
                  refine step_appMo _ rfl (.tmp 66) (.tmp 70) 52 rfl (g + 1) 5 j0 (.int .u8 0) 1 1 Tryd.underlying52 hj0 hy0 hy1 hy2 rfl (by decide) Ad da.length cd (bytesV da) rfl st7.rt.od _ Aj pn.length kj (bytesV pn) rfl (by simp) hsj.sv (bytesV_one pn) h63 hby (Nat.succ_le_of_lt st7.rt.sb.lt) ?_
                  intro A8 c8 WR43 hown8 hg8 hob8
                  have st9 := st7.appD hg8 hown8 hob8
                  have hb8 := st7.rt.bel.grown hg8 st7.rt.bel.size (fun b hb => by have := (st7.rt.od.lt b hb).1; have := st7.hg5; omega)
                  have bk8 := st7.rt.sb.grown hg8 (own_blk_ne st7.rt.od st7.rt.sb (by decide))
                  have f8 := bk8.frozen 2
                  have f8l := bk8.lt
                  have f8c := (bk8.cell 2).trans rfl
                  have bx8 := bqr.grown hg8 (own_blk_ne st7.rt.od bqr (by decide))
                  refine hK.out _ _ ?_ (fun hSR44 => ?_)
                  · exact (bx8.cell 0).trans rfl
                  clear hK K
                  try simp only [Act.put, List.setIfInBounds_toArray]
                  clear hown8 hg8 hob8 bk8
                  refine wpAnyH_take (i := 7) (v := .pointer (some ⟨g, 2, none⟩)) rfl (by kernel_rfl) (by kernel_rfl) (by kernel_rfl) (fun _ _ _ h => h) (Or.inl ⟨by kernel_rfl, ?qR45⟩) (by assumption) ?rqR45
                  case qR45 => (intro w hSw; (try dsimp only at hSw); go_simp)
                  try simp only [Act.put]
                  refine wpAnyH_ready (rs := [8]) (by kernel_rfl) (by simp) ?_
                  refine AllReadyH.cons rfl (fun K hK => ?nR46) (AllReadyH.nil)
                  go_simp
                  refine hK.out _ _ ?_ (fun hSR47 => ?_)
                  · exact ((bx8.far (p := ⟨g, 2, none⟩) (by simp; omega) _).cell 0).trans rfl
                  clear hK K
                  try simp only [Act.put, List.setIfInBounds_toArray]
                  refine wpAnyH_done (by kernel_rfl) ?_ _
                  refine NoPanic.normal ?_
                  go_wp2_with fail
                  go_roundw
                  case rel => exact ⟨i + 1, A4, c4, us, A7, c7, A8, c8, by omega, by go_num, by rw [HLS2.out, HPS2.out]; exact st9, hsu, HPN⟩
                  case measure => simp [intOf]; omega
        · obtain rfl : i = t.length := by omega
          rw [List.take_of_length_le (by rw [HLL.out]; exact Nat.le_refl _)] at st
          have h4 := HPB.out t.length (Nat.le_refl _)
          have hll := HLL.out
          have HPQ := Lib.hid (HP.out.trans (congrArg (Tr.putAll s') HOE.out))
          have HPA := Lib.hid (Tr.all_put (s := s') (Tr.treeO t) [])
          have hob := st.rt.ob (X := Free) HIL.out (by omega) (by omega) (fun b hb => hb.elim)
          have hs40 := hok'.len
          have HX := Lib.hid st.under
          have HPT : Hid (Calls Tryd.prog 21 #[.agg #[.slice A' s'.length k'], .agg #[.int .i64 2, .slice Al (Tr.links t).length cl, .slice Ad (Tr.pathsB t t.length).length cd]] wo (PtPost wo (Ob.putF s' (Tr.treeO t)))) :=
            Lib.hid (by rw [HTO.out]; exact put_any wo A' k' s' ⟨2, Tr.links t, Tr.pathsB t t.length⟩ Al cl Ad cd (st.sv.keep ((Keeps.refl wo _).into fun b h => h.elim)) (by omega) hob)
          obtain ⟨p0, p1, p2, p3, p4, p5, p6, p7, p8, l0, l1, l2, l3, l4⟩ := st.bb.facts
          have s0 := (st.rt.sb.cell 0).trans rfl
          have s1 := (st.rt.sb.cell 1).trans rfl
          have s2 := (st.rt.sb.cell 2).trans rfl
          have s3 := st.rt.sb.lt
          have stB := st.bb
          clear HPB HPS HLS HPL HLN HOA HP hll hob HTO HOE HIL HLL HT HV hok' st hlen h4
          generalize Ob.putF s' (Tr.treeO t) = r' at *
          generalize Ob.dig (Tr.treeO t) = dg at *
          generalize Tr.pathsB t t.length = da at *
          generalize Tr.links t = ls at *
          obtain ⟨us, dn, cc, ci⟩ := r'
          go_wp2_with fail
          go_at_call 21
          with_reducible refine (HPT.out).mono ?_
          rintro e w9 ⟨A4, c4, rfl, hc4, hs4, hb9⟩
          try simp only at hc4
          try simp only at hs4
          have hsz9 := stB.bel.size
          have st9 := stB.below hb9
          clear p0 p1 p2 p3 p4 p5 p6 p7 p8 l0 l1 l2 l3 l4 s0 s1 s2 s3 HPT hb9
          obtain ⟨p0, p1, p2, p3, p4, p5, p6, p7, p8, l0, l1, l2, l3, l4⟩ := st9.facts
          rcases HPA.out with ⟨hc, hp⟩ | ⟨_, u, hu, hsu, hp⟩
          · try simp only at hc
            try simp only at hp
            have HR : Hid (∀ w', Below w.heap.size w w' → WrPost w r (.returned (.tuple #[.agg #[.slice none 0 0], .int .i64 0, .agg #[.int .i64 cc, .int .i64 (-2)]])) w') := Lib.hid fun w' hb => WrPost.no (HF3.out cc (HPQ.out.trans hp) hc) hb
            have hx1 : (cc == 0) = false := by simpa using hc
            have hx2 : (cc != 0) = true := by simpa using hc
            clear HPA HPQ HF3 HF4 hc hp hs4
            go_wp2_with fail
            go_region
            all_goals
              go_wp2_with fail
              obtain ⟨k1, k2, k3⟩ := put12 st9.r1 st9.r2 (by omega) (.slice none 0 0) (.int .i64 cc) (.int .i64 (-2))
              refine bodyPost_ret (results_24_t_28 rfl _ _ (w.heap.size + 2) (w.heap.size + 3) (.slice none 0 0) (.int .i64 cc) (.int .i64 (-2)) rfl rfl ((k1.alloc _).alloc _).drew ((k2.alloc _).alloc _).drew) rfl ?_
              exact HR.out _ (below_drew' (((k3 _ _ (by omega) (by omega) st9.bel).alloc (by simp [World.setCell]; omega) _).alloc (by simp [World.setCell]; omega) _))
          · injection hu with e1 e2
            injection e2 with e2 e3
            injection e3 with e3 e4
            subst e1 e2 e3 e4
            have H := Lib.hid (HF4.out us (HPQ.out.trans hp))
            clear HPA HPQ HF3 HF4 hp
            go_wp2_with fail
            obtain ⟨k1, k2, k3⟩ := put12 st9.r1 st9.r2 (by omega) (.slice A4 us.length c4) (.int .i64 0) (.int .i64 0)
            refine bodyPost_ret (results_24_t_28 rfl _ _ (w.heap.size + 2) (w.heap.size + 3) (.slice A4 us.length c4) (.int .i64 0) (.int .i64 0) rfl rfl ((k1.alloc _).alloc _) ((k2.alloc _).alloc _)) rfl ?_
            rw [H.out]
            have hx : ∀ j, j ≤ 4 → Under wo.heap.size (w.heap.size + j) := fun j hj => by unfold Under; have := stB.bn.lt; omega
            refine ⟨A4, c4, rfl, hc4, ?_, ((k3 _ _ (by omega) (by omega) st9.bel).alloc (by simp [World.setCell]; omega) _).alloc (by simp [World.setCell]; omega) _⟩
            refine (hs4.keep ((((Keeps.setCell w9 _ ⟨w.heap.size + 2, 0, none⟩ _ (hx 2 (by omega))).trans (Keeps.setCell _ _ ⟨w.heap.size + 3, 0, none⟩ _ (hx 3 (by omega)))).trans (Keeps.setCell _ _ ⟨w.heap.size + 3, 1, none⟩ _ (hx 3 (by omega)))).trans ((Keeps.alloc _ _ _).trans (Keeps.alloc _ _ _)))).keep ((Keeps.refl _ _).into fun b hb => Nat.lt_of_lt_of_le hb hsz9)
end Go.Proofs.YtjljknocnebnaaaDoor
