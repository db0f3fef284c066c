/-
  Histories: walk of the reference's 'CommitDigests'.
-/
import Derived.Test.YtoohmkdgimkgoaaDg6a
import Derived.Test.YtoohmkdgimkgoaaL3
import Derived.Deep.RegionHeld3
namespace Go.Proofs.Ytoohmkdgimkgoaa
open Go.RowKit Go.V
set_option linter.unusedVariables false

set_option maxRecDepth 100000 in
set_option maxHeartbeats 1000000 in
theorem cdigests_any (w : World) (A : Option Addr) (k : Nat) (l : List Hs.Cm) (hv : CV w A l) (hok : Hs.Ok l) :
    Calls Try.prog 48 #[.slice A l.length k] w (BoPost w (Hs.ints (Hs.digL l l.length))) := by
  obtain ⟨i0, hi0, hz0, hz1, hz2⟩ := info_parts info3
  have hl := hok.len
  have KC := Lib.hid (fun (w : World) (s : ByteArray) => run_bytes_of_string (P := Try.prog) w 9 74 5 s Try.underlying9 Try.underlying74 Try.underlying5)
  go_enter Try.func48, Try.ntmps48
  go_wp2_with fail
  go_loopw [3, 4] (fun ov iv wr => ∃ (i : Nat) (Ao : Option Addr) (co : Nat), i ≤ l.length ∧ ov = .slice Ao i co ∧ iv = .int .i64 i ∧ CdSt w wr l i Ao co) (fun _ iv _ => l.length - (intOf iv).toNat)
  case atStart => exact ⟨0, none, 0, Nat.zero_le _, rfl, rfl, World.ownsRow_nil _ _ _ _, Below.refl _ _⟩
  case round =>
    obtain ⟨i, Ao, co, hi, rfl, rfl, st⟩ := hrel
    obtain ⟨wo, rfl⟩ : ∃ wo : World, wo = wr := ⟨_, rfl⟩
    by_cases hil : i < l.length
    · have hil' : (i : Int) < l.length := by omega
      obtain ⟨b, off, Ap, kp, e, hb, c0, c1, c2, c3, c4, hok', hip⟩ := hv.rowIn st.bel i hil
      subst e
      have hsz3 := st.bel.size
      have hpl := hok.par_len i hil
      have hdat := hok.data i hil
      have HP := Lib.hid (hok.par_nat i · hil)
      have HPL := Lib.hid (Hs.pars_length l i hil)
      have HMSG : Hid (Hs.digMsg l i = Dg.ofL l[i].msg.data.toList) := Lib.hid (by unfold Hs.digMsg; rw [List.getElem?_eq_getElem hil]; rfl)
      have HF3 : Hid (Hs.digFold l (Hs.digL l i) i 3 = Dg.pairD (Dg.pairD (Dg.pairD (Hs.digMsg l i) l[i].au.toNat) l[i].tm.toNat) l[i].tr.toNat) := Lib.hid (by rw [Hs.digFold3, List.getElem?_eq_getElem hil]; rfl)
      have HFP := Lib.hid (Hs.digFold_par l (Hs.digL l i) i)
      have HFE := Lib.hid (Hs.digFold_end l (Hs.digL l i) i)
      have HFL := Lib.hid (Hs.digFold_lt l (Hs.digL l i) i)
      have HDL := Lib.hid (Hs.digL_lt l i)
      have hml := Hs.digMsg_lt l i
      generalize l[i] = c at *
      obtain ⟨par, au, tm, tr, msg⟩ := c
      simp only at *
      obtain ⟨au, rfl⟩ := Int.eq_ofNat_of_zero_le hdat.1
      obtain ⟨tm, rfl⟩ := Int.eq_ofNat_of_zero_le hdat.2.2.1
      obtain ⟨tr, rfl⟩ := Int.eq_ofNat_of_zero_le hdat.2.2.2.2.1
      have hM : Hs.M = 2305843009213693951 := rfl
      have hmsz : msg.size ≤ 80 := hdat.2.2.2.2.2.2
      have hau : au < 2305843009213693951 := by omega
      have htm : tm < 2305843009213693951 := by omega
      have htr : tr < 2305843009213693951 := by omega
      simp only [Int.toNat_natCast] at HF3
      have HOF : Hid (∀ (w1 : World) (g q : Nat), SV w1 w1.heap.size (some ⟨g, 0, none⟩) (bytesV msg.data.toList) → Calls Try.prog 62 #[.slice (some ⟨g, 0, none⟩) msg.size q] w1 fun e w' => e = .returned (.int .i64 ((Hs.digMsg l i : Nat) : Int)) ∧ ∃ n, w' = w1.drewN n) := Lib.hid (fun w1 g q h => by
        have h9 : msg.size ≤ 9223372036854775807 := by omega
        have := digestOf_any w1 (some ⟨g, 0, none⟩) q msg.data.toList h (by simpa using h9)
        rw [← HMSG.out] at this
        simpa using this)
      have HD1 := Lib.hid (fun w1 => dpair_any w1 (Hs.digMsg l i) au hml hau)
      have HD2 := Lib.hid (fun w1 => dpair_any w1 (Dg.pairD (Hs.digMsg l i) au) tm (Hs.pairD_lt _ _) htm)
      have HD3 := Lib.hid (fun w1 => dpair_any w1 (Dg.pairD (Dg.pairD (Hs.digMsg l i) au) tm) tr (Hs.pairD_lt _ _) htr)
      clear HMSG hml
      generalize Hs.digMsg l i = m0 at *
      generalize hp1 : Dg.pairD m0 au = m1 at *
      generalize hp2 : Dg.pairD m1 tm = m2 at *
      generalize hp3 : Dg.pairD m2 tr = m3 at *
      clear hp1 hp2 hp3
      have hk0 := Blk.new wo 41 #[.slice Ap par.length kp, .int .i64 au, .int .i64 tm, .int .i64 tr, .string msg]
      have hst1 := st.below (below_alloc1 wo (.cells #[.slice Ap par.length kp, .int .i64 au, .int .i64 tm, .int .i64 tr, .string msg] 41))
      clear hok' hdat hM hau htm htr
      go_wp2_with fail
      generalize hwC : wo.alloc (.cells #[.slice Ap par.length kp, .int .i64 (au : Int), .int .i64 (tm : Int), .int .i64 (tr : Int), .string msg] 41) = wC at *
      have hgC : wo.heap.size < wC.heap.size := by rw [← hwC]; simp
      have HK := Lib.hid (show ∀ w', Below wC.heap.size wC w' → w'.cell? ⟨wo.heap.size, 0, none⟩ = some (.slice Ap par.length kp) ∧ w'.cell? ⟨wo.heap.size, 1, none⟩ = some (.int .i64 au) ∧ w'.cell? ⟨wo.heap.size, 2, none⟩ = some (.int .i64 tm) ∧ w'.cell? ⟨wo.heap.size, 3, none⟩ = some (.int .i64 tr) ∧ w'.cell? ⟨wo.heap.size, 4, none⟩ = some (.string msg) from fun w' h => by
        have hk := hk0.below h hgC
        exact ⟨hk.cell 0, hk.cell 1, hk.cell 2, hk.cell 3, hk.cell 4⟩)
      have hsvC := fun q fz => sv_bytesRow wC msg q 5 fz wC.heap.size rfl
      have hB := Below.refl wC.heap.size wC
      clear hwC hk0 st
      obtain ⟨W1, q, kc, hsv1, hB1⟩ : ∃ (W1 : World) (q : Nat), (convert 9 74 (.string msg)).run Try.prog wC.drew = .ok (.slice (some ⟨wC.heap.size, 0, none⟩) msg.size q) W1 ∧ SV W1 W1.heap.size (some ⟨wC.heap.size, 0, none⟩) (bytesV msg.data.toList) ∧ Below wC.heap.size wC W1 :=
        ⟨_, _, KC.out wC.drew msg, hsvC _ _, (below_drewN hB 2).alloc (Nat.le_refl _) _⟩
      have HC62 := Lib.hid (HOF.out W1 wC.heap.size q hsv1)
      obtain ⟨z0, z1, z2, z3, z4⟩ := HK.out _ hB
      obtain ⟨y0, y1, y2, y3, y4⟩ := HK.out _ hB1
      have hst2 := hst1.below hB1
      clear KC hsvC hsv1 HOF hst1
      refine wp_region_noPanic ?_
      refine wp_region_held_drew (S := (fun w' => w'.cell? ⟨wo.heap.size, 1, none⟩ = some (.int .i64 au) ∧ w'.cell? ⟨wo.heap.size, 2, none⟩ = some (.int .i64 tm) ∧ w'.cell? ⟨wo.heap.size, 3, none⟩ = some (.int .i64 tr) ∧ w'.cell? ⟨wo.heap.size, 4, none⟩ = some (.string msg))) (by kernel_rfl) ?_ (fun hHeld => ?_)
      · exact ⟨z1, z2, z3, z4⟩
      refine wpAnyH_take (i := 0) (v := .pointer (some ⟨wo.heap.size, 4, none⟩)) rfl (by kernel_rfl) (by kernel_rfl) (by kernel_rfl) (fun _ _ _ h => h) (Or.inl ⟨by rfl, ?h0⟩) (by assumption) ?r0
      case h0 => (intro w hSw; (try dsimp only at hSw); go_simp)
      try simp only [Act.put, List.setIfInBounds_toArray, List.set_cons_zero, List.set_cons_succ]
      refine wpAnyH_take (i := 1) (v := .string msg) rfl (by kernel_rfl) (by kernel_rfl) (by kernel_rfl) (fun _ _ _ h => h) (Or.inl ⟨by rfl, ?h1⟩) (by assumption) ?r1
      case h1 => (intro w hSw; (try dsimp only at hSw); go_simp)
      try simp only [Act.put, List.setIfInBounds_toArray, List.set_cons_zero, List.set_cons_succ]
      refine wpAnyH_take (i := 4) (v := .pointer (some ⟨wo.heap.size, 1, none⟩)) rfl (by kernel_rfl) (by kernel_rfl) (by kernel_rfl) (fun _ _ _ h => h) (Or.inl ⟨by rfl, ?h4⟩) (by assumption) ?r4
      case h4 => (intro w hSw; (try dsimp only at hSw); go_simp)
      try simp only [Act.put, List.setIfInBounds_toArray, List.set_cons_zero, List.set_cons_succ]
      refine wpAnyH_take (i := 5) (v := .int .i64 (au : Int)) rfl (by kernel_rfl) (by kernel_rfl) (by kernel_rfl) (fun _ _ _ h => h) (Or.inl ⟨by rfl, ?h5⟩) (by assumption) ?r5
      case h5 => (intro w hSw; (try dsimp only at hSw); go_simp)
      try simp only [Act.put, List.setIfInBounds_toArray, List.set_cons_zero, List.set_cons_succ]
      refine wpAnyH_take (i := 7) (v := .pointer (some ⟨wo.heap.size, 2, none⟩)) rfl (by kernel_rfl) (by kernel_rfl) (by kernel_rfl) (fun _ _ _ h => h) (Or.inl ⟨by rfl, ?h7⟩) (by assumption) ?r7
      case h7 => (intro w hSw; (try dsimp only at hSw); go_simp)
      try simp only [Act.put, List.setIfInBounds_toArray, List.set_cons_zero, List.set_cons_succ]
      refine wpAnyH_take (i := 8) (v := .int .i64 (tm : Int)) rfl (by kernel_rfl) (by kernel_rfl) (by kernel_rfl) (fun _ _ _ h => h) (Or.inl ⟨by rfl, ?h8⟩) (by assumption) ?r8
      case h8 => (intro w hSw; (try dsimp only at hSw); go_simp)
      try simp only [Act.put, List.setIfInBounds_toArray, List.set_cons_zero, List.set_cons_succ]
      refine wpAnyH_take (i := 10) (v := .pointer (some ⟨wo.heap.size, 3, none⟩)) rfl (by kernel_rfl) (by kernel_rfl) (by kernel_rfl) (fun _ _ _ h => h) (Or.inl ⟨by rfl, ?h10⟩) (by assumption) ?r10
      case h10 => (intro w hSw; (try dsimp only at hSw); go_simp)
      try simp only [Act.put, List.setIfInBounds_toArray, List.set_cons_zero, List.set_cons_succ]
      refine wpAnyH_take (i := 11) (v := .int .i64 (tr : Int)) rfl (by kernel_rfl) (by kernel_rfl) (by kernel_rfl) (fun _ _ _ h => h) (Or.inl ⟨by rfl, ?h11⟩) (by assumption) ?r11
      case h11 => (intro w hSw; (try dsimp only at hSw); go_simp)
      try simp only [Act.put, List.setIfInBounds_toArray, List.set_cons_zero, List.set_cons_succ]
      refine wpAnyH_ready (rs := [2]) (by kernel_rfl) (by simp) ?_
      refine AllReadyH.cons rfl (fun K hK => ?s2) AllReadyH.nil
      go_simp
      refine hK.out _ _ ?_ (fun hHeld2 => ?_)
      · exact ⟨y1, y2, y3, y4⟩
      clear hK K
      try simp only [Act.put, List.setIfInBounds_toArray, List.set_cons_zero, List.set_cons_succ]
      refine wpAnyH_ready (rs := [3]) (by kernel_rfl) (by simp) ?_
      refine AllReadyH.cons rfl (fun K hK => ?s3) AllReadyH.nil
      (go_simp; go_at_call 62; (with_reducible refine HC62.out.mono ?_); rintro e w6 ⟨rfl, n6, rfl⟩; try go_wp2_with fail)
      refine hK.out _ _ ?_ (fun hHeld3 => ?_)
      · exact ⟨y1, y2, y3, y4⟩
      clear hK K
      try simp only [Act.put, List.setIfInBounds_toArray, List.set_cons_zero, List.set_cons_succ]
      refine wpAnyH_ready (rs := [6]) (by kernel_rfl) (by simp) ?_
      refine AllReadyH.cons rfl (fun K hK => ?s6) AllReadyH.nil
      (go_simp; go_at_call 61; (with_reducible refine (HD1.out _).mono ?_); rintro e w7 ⟨rfl, rfl⟩; try go_wp2_with fail)
      refine hK.out _ _ ?_ (fun hHeld6 => ?_)
      · exact ⟨y1, y2, y3, y4⟩
      clear hK K
      try simp only [Act.put, List.setIfInBounds_toArray, List.set_cons_zero, List.set_cons_succ]
      refine wpAnyH_ready (rs := [9]) (by kernel_rfl) (by simp) ?_
      refine AllReadyH.cons rfl (fun K hK => ?s9) AllReadyH.nil
      (go_simp; go_at_call 61; (with_reducible refine (HD2.out _).mono ?_); rintro e w7 ⟨rfl, rfl⟩; try go_wp2_with fail)
      refine hK.out _ _ ?_ (fun hHeld9 => ?_)
      · exact ⟨y1, y2, y3, y4⟩
      clear hK K
      try simp only [Act.put, List.setIfInBounds_toArray, List.set_cons_zero, List.set_cons_succ]
      refine wpAnyH_ready (rs := [12]) (by kernel_rfl) (by simp) ?_
      refine AllReadyH.cons rfl (fun K hK => ?s12) AllReadyH.nil
      (go_simp; go_at_call 61; (with_reducible refine (HD3.out _).mono ?_); rintro e w7 ⟨rfl, rfl⟩; try go_wp2_with fail)
      refine hK.out _ _ ?_ (fun hHeld12 => ?_)
      · exact ⟨y1, y2, y3, y4⟩
      clear hK K
      try simp only [Act.put, List.setIfInBounds_toArray, List.set_cons_zero, List.set_cons_succ]
      refine wpAnyH_ready (rs := [13]) (by kernel_rfl) (by simp) ?_
      refine AllReadyH.cons rfl (fun K hK => ?s13) AllReadyH.nil
      go_simp
      refine hK.out _ _ ?_ (fun hHeld13 => ?_)
      · exact ⟨y1, y2, y3, y4⟩
      clear hK K
      try simp only [Act.put, List.setIfInBounds_toArray, List.set_cons_zero, List.set_cons_succ]
      refine wpAnyH_done (by kernel_rfl) ?_ _
      refine NoPanic.normal ?_
      have hst6 := hst2.below (below_drewN (Below.refl _ _) n6)
      have hk0 : (W1.drewN n6).cell? ⟨wo.heap.size, 0, none⟩ = some (.slice Ap par.length kp) := y0
      have hbw : Below w.heap.size w (W1.drewN n6) := hst6.bel
      have HIP := Lib.hid (fun j hj => hip.atIn (hst6.bel.trans (Below.refl _ _)) j hj)
      have HO := Lib.hid (fun (q : Nat) (hq : q < (Hs.digL l i).length) => nat_at (wr := W1.drewN n6) (SV.of_own hst6.own) (Below.refl _ _) q hq)
      have HEQ := Lib.hid hst6
      clear hHeld hHeld2 hHeld3 hHeld6 hHeld9 hHeld12 hHeld13 kc HC62 HD1 HD2 HD3 HK hgC y0 y1 y2 y3 y4 z0 z1 z2 z3 z4 hst2 hB hB1 hst6
      generalize W1.drewN n6 = W6 at *
      have hszW := hbw.size
      rw [← HF3.out]
      go_wp2_with fail
      go_loop [6, 7] (fun hv jv => ∃ j : Nat, j ≤ par.length ∧ hv = .int .i64 ((Hs.digFold l (Hs.digL l i) i (j + 3) : Nat) : Int) ∧ jv = .int .i64 j) (fun _ jv => par.length - (intOf jv).toNat)
      case atStart => exact ⟨0, Nat.zero_le _, rfl, rfl⟩
      case round =>
        obtain ⟨j, hj, rfl, rfl⟩ := hrel
        by_cases hjl : j < par.length
        · have hjl' : (j : Int) < par.length := by omega
          obtain ⟨b', off', e', hb', hc'⟩ := HIP.out j hjl
          subst e'
          obtain ⟨p, hp, hpi, hj', hpe⟩ := HP.out j hjl
          rw [hp] at hc'
          have hpd : p < (Hs.digL l i).length := by simpa using hpi
          obtain ⟨b6, off6, e6, hb6, hc6⟩ := HO.out p hpd
          subst e6
          have HS := Lib.hid (HFP.out j hj' p hpe hpd)
          have HPR := Lib.hid (fun w1 => dpair_any w1 (Hs.digFold l (Hs.digL l i) i (j + 3)) ((Hs.digL l i)[p]'hpd) (HFL.out _) (HDL.out _ (List.getElem_mem hpd)))
          have hpn : (p : Int) < i := by omega
          generalize (Hs.digL l i)[p]'hpd = dp at *
          generalize Hs.digFold l (Hs.digL l i) i (j + 3) = h1 at *
          clear hp hpe
          go_wp2_with fail
          go_at_call 61
          refine (HPR.out _).mono ?_
          rintro e w9 ⟨rfl, rfl⟩
          go_wp2_with fail
          go_round
          case rel => exact ⟨j + 1, by omega, by rw [HS.out], by go_num⟩
          case measure => simp [intOf]; omega
        · obtain rfl : j = par.length := by omega
          have HAT := Lib.hid (show Hs.digFold l (Hs.digL l i) i (par.length + 3) = Hs.digAt l (Hs.digL l i) i from by rw [← HFE.out, HPL.out])
          rw [HAT.out]
          have hst6 := HEQ.out
          have happ := fun w' A' c' o hg hown => hst6.app (w' := w') (A' := A') (c' := c') o hg hown
          generalize Hs.digAt l (Hs.digL l i) i = dv at *
          clear HP HFP HFL HDL HO HIP HFE HF3
          go_wp2_with (first | (at_builtin; refine wpList_app1 _ rfl (.tmp 48) (.tmp 50) 37 rfl w.heap.size 3 i0 (.int .i64 0) 8 Try.underlying37 hi0 hz0 hz1 hz2 rfl Ao _ co _ rfl (hst6.own.alloc _) W6.heap.size _ (.int .i64 (dv : Int)) rfl (by simp [World.cell?_alloc_new]) rfl ?ha ?hb ?hc ?_))
          case ha => simp [maxLen]; omega
          case hb => omega
          case hc => (try simp) <;> omega
          intro A' c' w10 hown10 hg10 _
          have st11 := happ _ _ _ _ hg10 hown10
          clear hown10 hg10 happ
          go_wp2_with fail
          go_roundw
          case rel => exact ⟨i + 1, _, _, by omega, rfl, by go_num, st11⟩
          case measure => simp [intOf]; omega
    · obtain rfl : i = l.length := by omega
      go_wp2_with fail
      go_ret
      obtain ⟨A', c', e', hc', _⟩ := own_form st.own
      cases e'
      exact ⟨Ao, co, by rw [Hs.ints_length, Hs.digL_length]; rfl, by rw [Hs.ints_length, Hs.digL_length]; exact hc', SV.of_own st.own, st.bel⟩
end Go.Proofs.Ytoohmkdgimkgoaa
