/-
  The merge queue: walk of settle.
-/
import Derived.Test.YtinebbleilnejaaMqF
import Derived.Test.YtinebbleilnejaaMqS
namespace Go.Proofs.Ytinebbleilnejaa
open Go.RowKit Go.V
set_option linter.unusedVariables false
/-- What settle tells. -/
def StPost (B : Nat) (w : World) (gQ : Nat) (win : Nat) (R : Mq.Q) (e : Ending) (w' : World) : Prop :=
  e = .returned (.tuple #[]) ∧ ∃ ve vl vr L, QS B w' gQ (win : Int) ve L vl vr R.la R.re ∧ L.map (·.1) = R.es ∧ Fr B w w'
set_option maxRecDepth 100000 in
set_option maxHeartbeats 16000000 in
theorem settle_any (B : Nat) (w : World) (gQ : Nat) (win : Nat) (ve0 vl0 vr0 : Value) (L0 : List (Mq.E × Value)) (la0 re0 : List Int) (hq0 : QS B w gQ win ve0 L0 vl0 vr0 la0 re0) (hs0 : SzL L0 la0 re0) (hB : B ≤ w.heap.size) (hwin : win ≤ 4) :
    Calls Try.prog 29 #[.pointer (some ⟨gQ, 0, none⟩)] w (StPost B w gQ win (Mq.settle win (L0.map (·.1)) la0 re0)) := by
  obtain ⟨i0, hi0, hz0, hz1, hz2⟩ := info_parts info3
  have HQ0 := Lib.hid hq0
  have HS0 := Lib.hid hs0
  obtain ⟨R, hR⟩ : ∃ R, Mq.setl L0.length (L0.map (·.1)) la0 re0 = R := ⟨_, rfl⟩
  have hset : Mq.settle win (L0.map (·.1)) la0 re0 = ⟨Mq.fill win R.es [], R.la, R.re⟩ := by unfold Mq.settle; rw [List.length_map, hR]
  rw [hset]
  have HR := Lib.hid hR
  have HW := Lib.hid hwin
  clear hq0 hs0 hR hset hwin
  go_enter Try.func29, Try.ntmps29
  go_wp2_with fail
  go_loopw [3] (fun _ wr => ∃ ve vl vr L la re, QS B wr gQ win ve L vl vr la re ∧ Hid (Mq.setl L.length (L.map (·.1)) la re = R) ∧ Hid (SzL L la re) ∧ Hid (Fr B w wr)) (fun _ wr => lenAt wr gQ)
  case atStart => exact ⟨ve0, vl0, vr0, L0, la0, re0, HQ0.out, HR, HS0, Lib.hid (Fr.refl _ _)⟩
  case round =>
    obtain ⟨ve, vl, vr, L, la, re, hq, HR, HS, HF⟩ := hrel
    obtain ⟨wo, rfl⟩ : ∃ wo : World, wo = wr := ⟨_, rfl⟩
    have hlen := hq.lenAt_
    rcases L with _ | ⟨x, L⟩
    · have HRM : Hid (R = ⟨([] : List (Mq.E × Value)).map (·.1), la, re⟩) := Lib.hid HR.out.symm
      have p0 := (hq.q.cell 0).trans rfl
      have p3 := (hq.q.cell 3).trans rfl
      obtain ⟨A, c, rfl⟩ := hq.len
      clear hlen HR HQ0 HS0
      have HE := Lib.hid (show StPost B w gQ win ⟨Mq.fill win R.es [], R.la, R.re⟩ (.returned (.tuple #[])) wo.drew from by
        rw [HRM.out]
        refine ⟨rfl, _, vl, vr, [], hq.drew, ?_, HF.out.trans (Fr.below (below_drew' (Below.refl _ _)))⟩
        cases win <;> rfl)
      clear hq HF HRM
      by_cases hw0 : win = 0
      all_goals
        first | (obtain rfl := hw0; have hw1 : ¬ (0 : Int) < ((0 : Nat) : Int) := by omega) | (have hw1 : (0 : Int) < (win : Int) := by omega)
        go_wp2_with fail
        go_region
        all_goals
          go_wp2_with fail
          go_loopw [111] (fun iv wr => iv = .int .i64 0 ∧ wo.drew = wr) (fun _ _ => 0)
          case atStart => exact ⟨rfl, rfl⟩
          case round =>
            obtain ⟨rfl, rfl⟩ := hrel
            go_wp2_with fail
            refine bodyPost_end (results_none rfl _ _ _) rfl ?_
            exact HE.out
    · have h0 : 0 < (x :: L).length := by simp
      obtain ⟨g, c, rfl, hg, hBg, hgq, d0, d1, d2, d3, d4, d5, df⟩ := hq.row 0 h0
      simp only [Nat.zero_mul, Nat.zero_add, List.getElem_cons_zero] at d0 d1 d2 d3 d4 d5
      have p0 := (hq.q.cell 0).trans rfl
      have p3 := (hq.q.cell 3).trans rfl
      by_cases hst : x.1.p = false ∧ x.1.f = false
      · have HRM : Hid (R = ⟨(x :: L).map (·.1), la, re⟩) := Lib.hid (by
          rw [← HR.out]
          show Mq.setl (L.length + 1) (x.1 :: L.map (·.1)) la re = _
          rw [Mq.setl, if_neg (by rw [hst.1, hst.2]; simp)]; rfl)
        rw [hst.1] at d3
        rw [hst.2] at d4
        have hl0 : (0 : Int) < ((x :: L).length : Int) := by omega
        clear hlen HR HQ0 HS0 hst
        generalize hMM : x :: L = M at *
        clear hMM
        go_wp2_with fail
        by_cases hmn : M.length < win
        all_goals
          first | (have hm1 : (M.length : Int) < (win : Int) := by omega) | (have hm1 : ¬ (M.length : Int) < (win : Int) := by omega)
          go_region
          obtain ⟨k, hk⟩ : ∃ k, k = min win M.length := ⟨_, rfl⟩
          have hk1 : k ≤ M.length := by omega
          have hk2 : k ≤ win := by omega
          have HK : Hid (k = min win M.length) := Lib.hid hk
          have HK3 : Hid ((M.length < win → k = M.length) ∧ (¬ M.length < win → k = win)) := Lib.hid ⟨fun _ => by omega, fun _ => by omega⟩
          have hq1 := hq.drew
          have HF1 := Lib.hid (HF.out.trans (Fr.below (below_drew' (Below.refl wo.heap.size wo))))
          clear hk hq HF d0 d1 d2 d3 d4 d5 df p0 p3 hl0 hg
          go_wp2_with fail
          go_loopw [5, 111] (fun av iv wr => ∃ (i : Nat) (Aa : Option Addr) (ca : Nat) (N : List (Mq.E × Value)), i ≤ k ∧ av = .slice Aa i ca ∧ iv = .int .i64 i ∧ QS B wr gQ win (.slice (some ⟨g, 0, none⟩) M.length c) N vl vr la re ∧ Hid (N.length = M.length) ∧ Hid (N.map (·.1) = Mq.stTo (M.map (·.1)) i) ∧ wr.ownsRow B 3 1 (.slice Aa i ca) i (intsV (((M.map (·.1)).take i).map (·.c))) ∧ Hid (∀ b ∈ vl :: vr :: N.map (·.2), ∀ g, b.ownBlock = some g → (Value.slice Aa i ca).ownBlock ≠ some g) ∧ Hid (Fr B w wr)) (fun _ iv _ => k - (intOf iv).toNat)
          case atStart => exact ⟨0, none, 0, M, Nat.zero_le _, rfl, rfl, hq1, Lib.hid rfl, Lib.hid rfl, World.ownsRow_nil _ _ _ _, Lib.hid (fun b _ g _ e => by cases e), HF1⟩
          case round =>
            clear hq1 HF1
            obtain ⟨i, Aa, ca, N, hik, rfl, rfl, hq, HNL, HNM, hown, HAP, HF⟩ := hrel
            obtain ⟨wo, rfl⟩ : ∃ wo : World, wo = wr := ⟨_, rfl⟩
            by_cases hlt : i < k
            · have hlM : (i : Int) < M.length := by omega
              have hlW : (i : Int) < win := by omega
              have hiN : i < N.length := by rw [HNL.out]; omega
              have hq' : QS B wo gQ win (.slice (some ⟨g, 0, none⟩) N.length c) N vl vr la re := by rw [HNL.out]; exact hq
              obtain ⟨g', c', e, hg, hBg, hgq, d0, d1, d2, d3, d4, d5, df⟩ := hq'.row i hiN
              injection e with e1 e2 e3
              injection e1 with e1
              injection e1 with e1 e4 e5
              subst e1
              subst e3
              clear e2 e4 e5
              have hM1 : i < (M.map (·.1)).length := by simp; omega
              have hN1 : N[i].1 = (M.map (·.1))[i] := by
                have e1 : (N.map (·.1))[i]'(by simpa using hiN) = N[i].1 := by simp
                rw [← e1]
                have e2 : (N.map (·.1))[i]? = (Mq.stTo (M.map (·.1)) i)[i]? := by rw [HNM.out]
                rw [List.getElem?_eq_getElem (by simpa using hiN), List.getElem?_eq_getElem (by rw [Mq.stTo_len]; exact hM1)] at e2
                injection e2 with e2
                rw [e2]
                exact Mq.stTo_cur _ i hM1 _
              have HSS := Lib.hid (Mq.stTo_succ (M.map (·.1)) i hM1)
              have HTK := Lib.hid (show ((M.map (·.1)).take (i + 1)).map (·.c) = ((M.map (·.1)).take i).map (·.c) ++ [N[i].1.c] from by
                rw [List.take_succ_eq_append_getElem hM1, List.map_append, hN1]; rfl)
              have HN1 := Lib.hid hN1
              have p0 := (hq.q.cell 0).trans rfl
              have hlenr : (((M.map (·.1)).take i).map (·.c)).length = i := by simp; omega
              have h63 : i + 1 ≤ maxLen := by unfold maxLen; have := HW.out; omega
              have hby : (i + 1) * 8 ≤ 140737488355328 := by have := HW.out; omega
              have HQ := Lib.hid hq
              have HQ' := Lib.hid hq'
              obtain ⟨⟨⟨yc, yt, yp, yf, ya⟩, yv⟩, hy⟩ : ∃ y, N[i] = y := ⟨_, rfl⟩
              rw [hy] at d0 d2 d3 d4 d5 HTK HN1
              simp only at d0 d2 d3 d4 d5 HTK HN1
              have HY := Lib.hid hy
              have f2 := df 2 (by omega)
              have f5 := df 5 (by omega)
              clear hy hN1 hq hq' df
              by_cases hnone : yt = false ∧ yp = false ∧ yf = false
              · obtain ⟨rfl, rfl, rfl⟩ := hnone
                have HE : Hid (Mq.stTo (M.map (·.1)) (i + 1) = (Mq.stTo (M.map (·.1)) i).set i ⟨yc, true, false, false, ((M.map (·.1)).take i).map (·.c)⟩) := Lib.hid (by
                  rw [HSS.out, ← HN1.out]
                  unfold Mq.start
                  rw [if_pos ⟨rfl, rfl, rfl⟩])
                have hBw : B ≤ wo.heap.size := Nat.le_trans hBg (Nat.le_of_lt hg)
                have HLT := Lib.hid HQ.out.lt
                have hiN2 : i < N.length := hiN
                generalize hal : ((M.map (·.1)).take i).map (·.c) = al at *
                have HCL : Hid (Calls Try.prog 12 #[.slice Aa i ca] wo (ClPost wo al)) := Lib.hid (by
                  have := clone_any wo Aa ca al (SV.of_own hown) (by have := HW.out; omega)
                  rwa [hlenr] at this)
                clear hal HN1 HSS hM1
                go_wp2_with fail
                go_at_call 12
                with_reducible refine HCL.out.mono ?_
                rintro e w1 ⟨A2, c2, he, hown2, hb1⟩
                rw [hlenr] at he hown2
                subst he
                have hq1 := HQ'.out.below hb1
                obtain ⟨g9, c9, cur, e9, hB9, hbk, _⟩ := own_some hq1.e (by omega)
                injection e9 with e9 e9b e9c
                injection e9 with e9
                injection e9 with e9 e9d e9e
                subst e9
                subst e9c
                clear e9b e9d e9e
                have d2' : w1.cell? ⟨g, i * 6 + 2, none⟩ = some (.bool false) := (hb1.cell (p := ⟨g, i * 6 + 2, none⟩) hg).trans d2
                have d5' : w1.cell? ⟨g, i * 6 + 5, none⟩ = some yv := (hb1.cell (p := ⟨g, i * 6 + 5, none⟩) hg).trans d5
                have d0' : w1.cell? ⟨g, i * 6, none⟩ = some (.int .i64 yc) := (hb1.cell (p := ⟨g, i * 6, none⟩) hg).trans d0
                have f2' := hbk.frozen (i * 6 + 2)
                have f5' := hbk.frozen (i * 6 + 5)
                have hbk2 := hbk.set_ (i * 6 + 2) (.bool true)
                have hqF := QS.putF hq1 i 2 hiN2 (by omega) (.bool true) ⟨yc, true, false, false, ya⟩ (by rw [HY.out]; rfl) (by rw [HY.out])
                have hmap : (N.set i (⟨yc, true, false, false, ya⟩, N[i].2)).map (·.2) = N.map (·.2) := by
                  rw [List.map_set]
                  have h2 : (N.map (·.2))[i]'(by simpa using hiN2) = N[i].2 := by simp
                  show (N.map (·.2)).set i (N[i].2) = _
                  rw [← h2, List.set_getElem_self]
                have hl2 : (N.set i (⟨yc, true, false, false, ya⟩, N[i].2)).length = N.length := by simp
                have hqF' : QS B (w1.setCell ⟨g, i * 6 + 2, none⟩ (.bool true)) gQ win (.slice (some ⟨g, 0, none⟩) (N.set i (⟨yc, true, false, false, ya⟩, N[i].2)).length c) (N.set i (⟨yc, true, false, false, ya⟩, N[i].2)) vl vr la re := by rw [hl2]; exact hqF
                have hir : IR B (w1.setCell ⟨g, i * 6 + 2, none⟩ (.bool true)) (.slice A2 i c2) al := by
                  unfold IR; rw [hlenr]
                  exact own_setCell (own_base hown2 hBw) (own_blk_ne hown2 hbk (by decide)) _
                have hq2 := QS.putA2 hqF' i (by rw [hl2]; exact hiN2) hir (by rw [hmap]; exact ap_new (B := B) hown2 HLT.out)
                have hat : (N.set i (⟨yc, true, false, false, ya⟩, N[i].2))[i]'(by rw [hl2]; exact hiN2) = (⟨yc, true, false, false, ya⟩, N[i].2) := by simp
                simp only [hat, List.set_set] at hq2
                rw [hl2] at hq2
                have hown3 : ((w1.setCell ⟨g, i * 6 + 2, none⟩ (.bool true)).setCell ⟨g, i * 6 + 5, none⟩ (.slice A2 i c2)).ownsRow B 3 1 (.slice Aa i ca) i (intsV al) :=
                  own_setCell (own_setCell (own_below hown hb1) (own_blk_ne (own_below hown hb1) hbk (by decide)) _) (own_blk_ne (own_setCell (own_below hown hb1) (own_blk_ne (own_below hown hb1) hbk (by decide)) _) hbk2 (by decide)) _
                have hap3 : ∀ b ∈ vl :: vr :: (N.set i (⟨yc, true, false, false, al⟩, .slice A2 i c2)).map (·.2), ∀ g, b.ownBlock = some g → (Value.slice Aa i ca).ownBlock ≠ some g := by
                  intro b hb g hg e
                  have hold : b ∈ vl :: vr :: N.map (·.2) → False := fun h => HAP.out b h g hg e
                  rcases List.mem_cons.1 hb with h | h
                  · exact hold (by simp [h])
                  · rcases List.mem_cons.1 h with h | h
                    · exact hold (by simp [h])
                    · rw [List.map_set] at h
                      rcases List.mem_or_eq_of_mem_set h with h | h
                      · exact hold (by simp at h ⊢; exact .inr (.inr h))
                      · subst h
                        have h1 := (hown2.lt g hg).1
                        have h2 := (hown.lt g e).2
                        omega
                have hFr := ((HF.out.trans (Fr.below hb1)).trans (Fr.set_ (p := ⟨g, i * 6 + 2, none⟩) hbk hBg (.inr (.inl rfl)) (.bool true))).trans (Fr.set_ (p := ⟨g, i * 6 + 5, none⟩) hbk2 hBg (.inr (.inl rfl)) (.slice A2 i c2))
                have hNM2 : (N.set i (⟨yc, true, false, false, al⟩, Value.slice A2 i c2)).map (·.1) = Mq.stTo (M.map (·.1)) (i + 1) := by rw [HE.out, List.map_set, HNM.out]
                have hNL2 : (N.set i (⟨yc, true, false, false, al⟩, Value.slice A2 i c2)).length = M.length := by rw [List.length_set]; exact HNL.out
                rw [HNL.out] at hq2
                clear hqF hqF' hir hmap hl2 hat hq1 HY HQ HQ' HAP HF HCL HE HLT hown hown2 hb1 hbk hbk2 hB9
                generalize N.set i (⟨yc, true, false, false, al⟩, Value.slice A2 i c2) = N2 at *
                have hsW : ((w1.setCell ⟨g, i * 6 + 2, none⟩ (.bool true)).setCell ⟨g, i * 6 + 5, none⟩ (.slice A2 i c2)).heap.size = w1.heap.size := by simp
                have hu : (((w1.setCell ⟨g, i * 6 + 2, none⟩ (.bool true)).setCell ⟨g, i * 6 + 5, none⟩ (.slice A2 i c2)).alloc (.cells #[.int .i64 yc] 3)).cell? ⟨w1.heap.size, 0, none⟩ = some (.int .i64 yc) := by
                  have := (Blk.new ((w1.setCell ⟨g, i * 6 + 2, none⟩ (.bool true)).setCell ⟨g, i * 6 + 5, none⟩ (.slice A2 i c2)) 3 #[.int .i64 yc]).cell 0
                  rw [hsW] at this
                  exact this.trans rfl
                have hBw1 : B ≤ w1.heap.size := by have := hq2.hq; have := hq2.q.lt; rw [hsW] at this; omega
                have HNX : Hid (∀ A' c' w', w'.ownsRow B 3 1 (.slice A' (i + 1) c') (i + 1) (intsV al ++ [.int .i64 yc]) → (((w1.setCell ⟨g, i * 6 + 2, none⟩ (.bool true)).setCell ⟨g, i * 6 + 5, none⟩ (.slice A2 i c2)).alloc (.cells #[.int .i64 yc] 3)).grownBy w' (Value.slice Aa i ca).ownBlock → ((Value.slice A' (i + 1) c').ownBlock = (Value.slice Aa i ca).ownBlock ∨ (Value.slice A' (i + 1) c').ownBlock = some (w1.heap.size + 1)) →
                    QS B w' gQ win (.slice (some ⟨g, 0, none⟩) M.length c) N2 vl vr la re ∧ w'.ownsRow B 3 1 (.slice A' (i + 1) c') (i + 1) (intsV (((M.map (·.1)).take (i + 1)).map (·.c))) ∧ (∀ b ∈ vl :: vr :: N2.map (·.2), ∀ g, b.ownBlock = some g → (Value.slice A' (i + 1) c').ownBlock ≠ some g) ∧ Fr B w w') := Lib.hid fun A' c' w' h1 h2 h3 =>
                  ⟨(hq2.alloc _).app (hown3.alloc _) hap3 h2, by rw [HTK.out, intsV_append]; exact h1, ap_next hap3 hq2.lt (by rw [hsW]; omega) h3, (hFr.trans (Fr.below (below_alloc1 _ _))).trans (Fr.own (hown3.alloc _) (.inr rfl) h2)⟩
                have HOW := Lib.hid hown3
                have HNM2 := Lib.hid hNM2
                have HNL2 := Lib.hid hNL2
                clear hq2 hap3 hFr hNM2 hNL2 HTK hsW HNL HNM hiN hiN2 hlenr hown3
                go_wp2_with (first | (at_builtin; refine wpList_app1o _ rfl (.tmp 148) (.tmp 153) 23 rfl B 3 i0 (.int .i64 0) 8 Try.underlying23 hi0 hz0 hz1 hz2 rfl Aa i ca (intsV al) rfl (HOW.out.alloc _) w1.heap.size 1 (.int .i64 yc) rfl hu rfl h63 hby (Nat.le_trans hBw1 (by simp)) ?_))
                intro A' c' w' hown' hg' hc' hob'
                have HX := Lib.hid (HNX.out A' c' w' hown' hg' hob')
                clear hown' hg' hc' hob' HNX hu HOW
                go_wp2_with fail
                go_roundw
                case rel => exact ⟨i + 1, A', c', N2, by omega, by go_num, by go_num, HX.out.1, HNL2, HNM2, HX.out.2.1, Lib.hid HX.out.2.2.1, Lib.hid HX.out.2.2.2⟩
                case measure => simp [intOf]; omega
              · have HE : Hid (Mq.stTo (M.map (·.1)) (i + 1) = Mq.stTo (M.map (·.1)) i) := Lib.hid (by
                  rw [HSS.out, ← HN1.out, ← HNM.out]
                  unfold Mq.start
                  rw [if_neg hnone]
                  have e : (N.map (·.1))[i]? = some (⟨yc, yt, yp, yf, ya⟩ : Mq.E) := by
                    have hiN : i < N.length := by rw [HNL.out]; omega
                    rw [List.getElem?_map, List.getElem?_eq_getElem hiN, HY.out]; rfl
                  obtain ⟨h1, h2⟩ := List.getElem?_eq_some_iff.1 e
                  rw [← h2]
                  exact List.set_getElem_self h1)
                have hu : (wo.alloc (.cells #[.int .i64 yc] 3)).cell? ⟨wo.heap.size, 0, none⟩ = some (.int .i64 yc) := ((Blk.new wo 3 #[.int .i64 yc]).cell 0).trans rfl
                have hBw : B ≤ wo.heap.size := Nat.le_trans hBg (Nat.le_of_lt hg)
                have HNX : Hid (∀ A' c' w', w'.ownsRow B 3 1 (.slice A' (i + 1) c') (i + 1) (intsV (((M.map (·.1)).take i).map (·.c)) ++ [.int .i64 yc]) → (wo.alloc (.cells #[.int .i64 yc] 3)).grownBy w' (Value.slice Aa i ca).ownBlock → ((Value.slice A' (i + 1) c').ownBlock = (Value.slice Aa i ca).ownBlock ∨ (Value.slice A' (i + 1) c').ownBlock = some (wo.heap.size + 1)) →
                    QS B w' gQ win (.slice (some ⟨g, 0, none⟩) M.length c) N vl vr la re ∧ w'.ownsRow B 3 1 (.slice A' (i + 1) c') (i + 1) (intsV (((M.map (·.1)).take (i + 1)).map (·.c))) ∧ (∀ b ∈ vl :: vr :: N.map (·.2), ∀ g, b.ownBlock = some g → (Value.slice A' (i + 1) c').ownBlock ≠ some g) ∧ Fr B w w') := Lib.hid fun A' c' w' h1 h2 h3 =>
                  ⟨(HQ.out.alloc _).app (hown.alloc _) HAP.out h2, by rw [HTK.out, intsV_append]; exact h1, ap_next HAP.out (HQ.out.lt) (Nat.le_succ _) h3, (HF.out.trans (Fr.below (below_alloc1 wo _))).trans (Fr.own (hown.alloc _) (.inr rfl) h2)⟩
                clear HTK HN1 HSS HY HQ HQ' HAP HF hM1 hiN hlenr
                generalize ((M.map (·.1)).take i).map (·.c) = al at *
                cases yt <;> cases yp <;> cases yf <;> first | (exfalso; exact hnone ⟨rfl, rfl, rfl⟩) | skip
                all_goals
                  clear hnone
                  go_wp2_with (first | (at_builtin; refine wpList_app1o _ rfl (.tmp 148) (.tmp 153) 23 rfl B 3 i0 (.int .i64 0) 8 Try.underlying23 hi0 hz0 hz1 hz2 rfl Aa i ca (intsV al) rfl (hown.alloc _) wo.heap.size 1 (.int .i64 yc) rfl hu rfl h63 hby (Nat.le_trans hBw (by simp)) ?_))
                  intro A' c' w' hown' hg' hc' hob'
                  have HX := Lib.hid (HNX.out A' c' w' hown' hg' hob')
                  clear hown' hg' hc' hob' HNX hown hu
                  go_wp2_with fail
                  go_roundw
                  case rel => exact ⟨i + 1, A', c', N, by omega, by go_num, by go_num, HX.out.1, HNL, Lib.hid (by rw [HE.out]; exact HNM.out), HX.out.2.1, Lib.hid HX.out.2.2.1, Lib.hid HX.out.2.2.2⟩
                  case measure => simp [intOf]; omega
            · have hik' : i = k := by omega
              first | (have hxx : ¬ (i : Int) < M.length := by have := HK3.out.1; omega) | (have hxx : ¬ (i : Int) < win := by have := HK3.out.2; omega)
              have HE : Hid (StPost B w gQ win ⟨Mq.fill win R.es [], R.la, R.re⟩ (.returned (.tuple #[])) wo) := Lib.hid (by
                rw [HRM.out]
                refine ⟨rfl, _, vl, vr, N, hq, ?_, HF.out⟩
                rw [HNM.out, hik', HK.out]
                have := Mq.stTo_fill (M.map (·.1)) win
                rwa [List.length_map] at this)
              clear HK HK3 HNM hik' hq hown HAP HF
              go_wp2_with fail
              refine bodyPost_end (results_none rfl _ _ _) rfl ?_
              exact HE.out
      · have hb9 := hq.hq
        obtain ⟨⟨xc, xt, xp, xf, xa⟩, xv⟩ := x
        simp only at d0 d2 d3 d4 d5 hst
        obtain ⟨Av, cv, hxv, _⟩ := own_form (hq.a 0 h0)
        have hxv' : xv = .slice Av xa.length cv := hxv
        subst hxv'
        have hlL : L.length ≤ 10 := by have := HS.out.1; simp at this; omega
        have hB2 : B ≤ wo.heap.size := Nat.le_trans hBg (Nat.le_of_lt hg)
        have bF1 := Blk.new wo 38 #[.int .i64 xc, .int .i64 0, .bool xt, .bool xp, .bool xf, .slice Av xa.length cv]
        have hq1 := hq.alloc (.cells #[.int .i64 xc, .int .i64 0, .bool xt, .bool xp, .bool xf, .slice Av xa.length cv] 38)
        have hF1 := HF.out.trans (Fr.below (below_alloc1 wo (.cells #[.int .i64 xc, .int .i64 0, .bool xt, .bool xp, .bool xf, .slice Av xa.length cv] 38)))
        have HRM := Lib.hid (remove_any B _ gQ win _ vl vr _ L la re hq1 (by omega))
        have HTW := Lib.hid (fun (w' : World) (h : Two (wo.alloc (.cells #[.int .i64 xc, .int .i64 0, .bool xt, .bool xp, .bool xf, .slice Av xa.length cv] 38)) w' gQ (.slice (some ⟨g, 0, none⟩) (((⟨xc, xt, xp, xf, xa⟩, .slice Av xa.length cv) : Mq.E × Value) :: L).length c)) =>
          And.intro (h.blk bF1 (by have := hq.q.lt; omega) (by intro e; injection e with e; have e' : g = wo.heap.size := e; omega)) (hF1.trans (Fr.two hq1 h)))
        have HLN := Lib.hid (show lenAt wo gQ = L.length + 1 from hlen)
        have hl0 : (0 : Int) < (((((⟨xc, xt, xp, xf, xa⟩, .slice Av xa.length cv) : Mq.E × Value) :: L).length : Nat) : Int) := by omega
        have hSr := HS.out.2.2.1
        have hSl := HS.out.2.1
        simp only [List.length_cons] at hSr hSl
        have HS2 := Lib.hid (show (∀ j (h : j < L.length), L[j].1.a.length ≤ 100) from fun j h => by
          have := HS.out.2.2.2 (j + 1) (by simp; omega)
          simpa using this)
        clear bF1 hq1 hF1 hlen HQ0 HS0 hxv df
        cases xp <;> cases xf <;> first | (exfalso; exact hst ⟨rfl, rfl⟩) | skip
        all_goals
          have HR2 := Lib.hid HR.out
          clear hst HR hq HF HS
          go_wp2_with fail
          go_at_call 27
          with_reducible refine HRM.out.mono ?_
          rintro e w2 ⟨rfl, ve2, hve2, hq2, ht2⟩
          obtain ⟨bF, hF2⟩ := HTW.out w2 ht2
          have e4 := (bF.cell 4).trans rfl
          have e0 := (bF.cell 0).trans rfl
          clear HRM HTW ht2 d0 d1 d2 d3 d4 d5 p0 p3 hl0
          go_wp2_with fail
        · obtain ⟨Ar, cr, hvr, _⟩ := own_form hq2.r
          subst hvr
          have q2 : w2.cell? ⟨gQ, 2, none⟩ = some (.slice Ar re.length cr) := (hq2.q.cell 2).trans rfl
          have lq := hq2.q.lt
          have lF := bF.lt
          have hqa := (hq2.alloc (.cells #[.int .i64 xc] 3)).drew
          have HOWN := Lib.hid hqa.r
          have hqn : some gQ ≠ (Value.slice Ar re.length cr).ownBlock := own_blk_ne hq2.r hq2.q (by decide)
          have HBQ := Lib.hid (fun (w3 : World) (hg : ((w2.alloc (.cells #[.int .i64 xc] 3)).drew).grownBy w3 (Value.slice Ar re.length cr).ownBlock) => (show w3.cell? ⟨gQ, 2, none⟩ = some (.slice Ar re.length cr) ∧ w3.frozen? ⟨gQ, 2, none⟩ = false ∧ gQ < w3.heap.size from
            ⟨((hqa.q.grown hg hqn).cell 2).trans rfl, (hqa.q.grown hg hqn).frozen 2, (hqa.q.grown hg hqn).lt⟩))
          have HNX := Lib.hid (fun (w3 : World) (gd c' : Nat) (ho : w3.ownsRow B 3 1 (.slice (some ⟨gd, 0, none⟩) (re.length + 1) c') (re.length + 1) (intsV re ++ [.int .i64 xc])) (hg : ((w2.alloc (.cells #[.int .i64 xc] 3)).drew).grownBy w3 (Value.slice Ar re.length cr).ownBlock)
              (hob : (Value.slice (some ⟨gd, 0, none⟩) (re.length + 1) c').ownBlock = (Value.slice Ar re.length cr).ownBlock ∨ (Value.slice (some ⟨gd, 0, none⟩) (re.length + 1) c').ownBlock = some ((w2.alloc (.cells #[.int .i64 xc] 3)).drew).heap.size) =>
            (show QS B (w3.setCell ⟨gQ, 2, none⟩ (.slice (some ⟨gd, 0, none⟩) (re.length + 1) c')) gQ win ve2 L vl (.slice (some ⟨gd, 0, none⟩) (re.length + 1) c') la (re ++ [xc]) ∧ Fr B w (w3.setCell ⟨gQ, 2, none⟩ (.slice (some ⟨gd, 0, none⟩) (re.length + 1) c')) from
              ⟨hqa.putR hg (by unfold IR; rw [List.length_append, intsV_append]; exact ho) hob (Nat.le_refl _),
               (((hF2.trans (Fr.below (below_alloc1 w2 _))).trans (Fr.below (below_drew' (Below.refl _ _)))).trans (Fr.own hqa.r (.inr rfl) hg)).trans (Fr.set_ (p := ⟨gQ, 2, none⟩) (hqa.q.grown hg hqn) hb9 (.inl rfl) _)⟩))
          have hu : ∀ (j : Nat) v, ([.int .i64 xc] : List Value)[j]? = some v → ((w2.alloc (.cells #[.int .i64 xc] 3)).drew).cell? ⟨w2.heap.size, j, none⟩ = some v := fun j v hj => by
            have := (Blk.new w2 3 #[.int .i64 xc]).drew.cell j
            rw [this, ← Array.getElem?_toList]; exact hj
          have h1c : ∀ u ∈ ([.int .i64 xc] : List Value), u.oneCell' = true := fun u hu => by rw [List.mem_singleton] at hu; subst hu; rfl
          have h63 : re.length + 1 ≤ maxLen := by unfold maxLen; omega
          have hby : (re.length + 1) * 8 ≤ 140737488355328 := by omega
          have hbs : B ≤ ((w2.alloc (.cells #[.int .i64 xc] 3)).drew).heap.size := Nat.le_trans hqa.hq (Nat.le_of_lt hqa.q.lt)
          have HRn : Hid (Mq.setl (L.map dv).length ((L.map dv).map (·.1)) la (re ++ [xc]) = R) := Lib.hid (by
            rw [← HR2.out, List.length_map]
            show _ = Mq.setl (L.length + 1) (_ :: L.map (·.1)) la re
            rw [Mq.setl, if_pos (.inr rfl), if_pos rfl, List.map_map, List.map_map]; rfl)
          have HSn : Hid (SzL (L.map dv) la (re ++ [xc])) := Lib.hid ⟨by simp; omega, by simp; omega, by simp; omega, fun j h => by simp [dv, Mq.disc]⟩
          clear hqa hqn hF2 HR2 HS2 hq2 hSr hSl
          go_region_law
            (refine step_appNo _ rfl (.tmp 51) (.tmp 54) 23 rfl B 3 i0 (.int .i64 0) 1 8 Try.underlying23 hi0 hz0 hz1 hz2 rfl (by decide) Ar re.length cr (intsV re) (by simp [Act.eval]) HOWN.out w2.heap.size 1 [.int .i64 xc] (by simp [Act.eval]) rfl hu h1c h63 hby hbs ?_; intro gd c' w3 hown3 hg3 hob3; obtain ⟨c2f, f2f, l2f⟩ := HBQ.out w3 hg3)
          all_goals
            have HX := Lib.hid (HNX.out w3 gd c' hown3 hg3 hob3)
            clear hown3 hg3 hob3 HNX HBQ HOWN hu h1c h63 hby hbs
            go_wp2_with fail
            go_at_call 28
            with_reducible refine (discard0_any B _ gQ win ve2 vl _ L la _ HX.out.1 (by omega)).mono ?_
            rintro e w4 ⟨rfl, hq4, ht4⟩
            go_wp2_with fail
            go_roundw
            case rel => exact ⟨ve2, vl, _, L.map dv, la, re ++ [xc], hq4, HRn, HSn, Lib.hid (HX.out.2.trans (Fr.two HX.out.1 ht4))⟩
            case measure => rw [hq4.lenAt_, HLN.out]; simp
        · obtain ⟨A2, c2, rfl⟩ := hq2.len
          have HVE := Lib.hid (show ∀ b o s, A2 = some ⟨b, o, s⟩ → b = g from fun b o s e => by subst e; injection hve2)
          obtain ⟨Al, cl, hvl, _⟩ := own_form hq2.l
          subst hvl
          have q2 : w2.cell? ⟨gQ, 1, none⟩ = some (.slice Al la.length cl) := (hq2.q.cell 1).trans rfl
          have lq := hq2.q.lt
          have lF := bF.lt
          have hqa := (hq2.alloc (.cells #[.int .i64 xc] 3)).drew
          have HOWN := Lib.hid hqa.l
          have hqn : some gQ ≠ (Value.slice Al la.length cl).ownBlock := own_blk_ne hq2.l hq2.q (by decide)
          have HBQ := Lib.hid (fun (w3 : World) (hg : ((w2.alloc (.cells #[.int .i64 xc] 3)).drew).grownBy w3 (Value.slice Al la.length cl).ownBlock) => (show w3.cell? ⟨gQ, 1, none⟩ = some (.slice Al la.length cl) ∧ w3.frozen? ⟨gQ, 1, none⟩ = false ∧ gQ < w3.heap.size from
            ⟨((hqa.q.grown hg hqn).cell 1).trans rfl, (hqa.q.grown hg hqn).frozen 1, (hqa.q.grown hg hqn).lt⟩))
          have HNX := Lib.hid (fun (w3 : World) (gd c' : Nat) (ho : w3.ownsRow B 3 1 (.slice (some ⟨gd, 0, none⟩) (la.length + 1) c') (la.length + 1) (intsV la ++ [.int .i64 xc])) (hg : ((w2.alloc (.cells #[.int .i64 xc] 3)).drew).grownBy w3 (Value.slice Al la.length cl).ownBlock)
              (hob : (Value.slice (some ⟨gd, 0, none⟩) (la.length + 1) c').ownBlock = (Value.slice Al la.length cl).ownBlock ∨ (Value.slice (some ⟨gd, 0, none⟩) (la.length + 1) c').ownBlock = some ((w2.alloc (.cells #[.int .i64 xc] 3)).drew).heap.size) =>
            (show QS B (w3.setCell ⟨gQ, 1, none⟩ (.slice (some ⟨gd, 0, none⟩) (la.length + 1) c')) gQ win (.slice A2 L.length c2) L (.slice (some ⟨gd, 0, none⟩) (la.length + 1) c') vr (la ++ [xc]) re ∧ Fr B w (w3.setCell ⟨gQ, 1, none⟩ (.slice (some ⟨gd, 0, none⟩) (la.length + 1) c')) ∧ Blk (w3.setCell ⟨gQ, 1, none⟩ (.slice (some ⟨gd, 0, none⟩) (la.length + 1) c')) wo.heap.size 38 #[.int .i64 xc, .int .i64 0, .bool xt, .bool true, .bool false, .slice Av xa.length cv] from
              ⟨hqa.putL hg (by unfold IR; rw [List.length_append, intsV_append]; exact ho) hob (Nat.le_refl _),
               (((hF2.trans (Fr.below (below_alloc1 w2 _))).trans (Fr.below (below_drew' (Below.refl _ _)))).trans (Fr.own hqa.l (.inr rfl) hg)).trans (Fr.set_ (p := ⟨gQ, 1, none⟩) (hqa.q.grown hg hqn) hb9 (.inl rfl) _), ((bF.alloc _).drew.grown hg (own_blk_ne hqa.l (bF.alloc _).drew (by decide))).far (fun e => Blk.ne_ bF hq2.q (by decide) e) _⟩))
          have hu : ∀ (j : Nat) v, ([.int .i64 xc] : List Value)[j]? = some v → ((w2.alloc (.cells #[.int .i64 xc] 3)).drew).cell? ⟨w2.heap.size, j, none⟩ = some v := fun j v hj => by
            have := (Blk.new w2 3 #[.int .i64 xc]).drew.cell j
            rw [this, ← Array.getElem?_toList]; exact hj
          have h1c : ∀ u ∈ ([.int .i64 xc] : List Value), u.oneCell' = true := fun u hu => by rw [List.mem_singleton] at hu; subst hu; rfl
          have h63 : la.length + 1 ≤ maxLen := by unfold maxLen; omega
          have hby : (la.length + 1) * 8 ≤ 140737488355328 := by omega
          have hbs : B ≤ ((w2.alloc (.cells #[.int .i64 xc] 3)).drew).heap.size := Nat.le_trans hqa.hq (Nat.le_of_lt hqa.q.lt)
          clear hqa hqn hF2 hq2
          go_region_law
            (refine step_appNo _ rfl (.tmp 66) (.tmp 69) 23 rfl B 3 i0 (.int .i64 0) 1 8 Try.underlying23 hi0 hz0 hz1 hz2 rfl (by decide) Al la.length cl (intsV la) (by simp [Act.eval]) HOWN.out w2.heap.size 1 [.int .i64 xc] (by simp [Act.eval]) rfl hu h1c h63 hby hbs ?_; intro gd c' w3 hown3 hg3 hob3; obtain ⟨c2f, f2f, l2f⟩ := HBQ.out w3 hg3)
          all_goals
            have HX := Lib.hid (HNX.out w3 gd c' hown3 hg3 hob3)
            clear hown3 hg3 hob3 HNX HBQ HOWN hu h1c h63 hby hbs bF
            generalize w3.setCell ⟨gQ, 1, none⟩ (.slice (some ⟨gd, 0, none⟩) (la.length + 1) c') = w5 at *
            generalize Value.slice (some ⟨gd, 0, none⟩) (la.length + 1) c' = vl2 at *
            have p5 : w5.cell? ⟨gQ, 0, none⟩ = some (.slice A2 L.length c2) := (HX.out.1.q.cell 0).trans rfl
            go_wp2_with fail
            go_loopw [80] (fun iv wr => ∃ (i : Nat) (N : List (Mq.E × Value)), i ≤ L.length ∧ iv = .int .i64 i ∧ QS B wr gQ win (.slice A2 L.length c2) N vl2 vr (la ++ [xc]) re ∧ Hid (N.length = L.length) ∧ Hid (N.map (·.1) = Mq.drTo xc (L.map (·.1)) i) ∧ Hid (Fr B w wr) ∧ Blk wr wo.heap.size 38 #[.int .i64 xc, .int .i64 0, .bool xt, .bool true, .bool false, .slice Av xa.length cv]) (fun iv _ => L.length - (intOf iv).toNat)
            case atStart => exact ⟨0, L, Nat.zero_le _, rfl, HX.out.1, Lib.hid rfl, Lib.hid rfl, Lib.hid HX.out.2.1, HX.out.2.2⟩
            case round =>
              obtain ⟨i, N, hi, rfl, hq, HNL, HNM, HF, bF⟩ := hrel
              obtain ⟨wp, rfl⟩ : ∃ wp : World, wp = wr := ⟨_, rfl⟩
              have p6 : wp.cell? ⟨gQ, 0, none⟩ = some (.slice A2 L.length c2) := (hq.q.cell 0).trans rfl
              have e0' := (bF.cell 0).trans rfl
              by_cases hlt : i < L.length
              · have hltI : (i : Int) < L.length := by omega
                have hiN : i < N.length := by rw [HNL.out]; exact hlt
                have hq' : QS B wp gQ win (.slice A2 N.length c2) N vl2 vr (la ++ [xc]) re := by rw [HNL.out]; exact hq
                obtain ⟨g2, c9, e, hg2, hBg2, hgq2, _, _, _, _, _, d5, df⟩ := hq'.row i hiN
                injection e with e1 e2 e3
                subst e1
                subst e3
                clear e2
                have f5 := df 5 (by omega)
                have hM1 : i < (L.map (·.1)).length := by simp; omega
                have hN1 : N[i].1 = (L.map (·.1))[i] := by
                  have e1 : (N.map (·.1))[i]'(by simpa using hiN) = N[i].1 := by simp
                  rw [← e1]
                  have e2 : (N.map (·.1))[i]? = (Mq.drTo xc (L.map (·.1)) i)[i]? := by rw [HNM.out]
                  rw [List.getElem?_eq_getElem (by simpa using hiN), List.getElem?_eq_getElem (by rw [Mq.drTo_len]; exact hM1)] at e2
                  injection e2 with e2
                  rw [e2]
                  exact Mq.drTo_at _ _ i hM1 _
                have hal : N[i].1.a.length ≤ 100 := by rw [hN1]; have := HS2.out i hlt; simpa using this
                have HSS := Lib.hid (show (N.map (·.1)).set i (Mq.drop1 xc N[i].1) = Mq.drTo xc (L.map (·.1)) (i + 1) from by rw [Mq.drTo_succ xc _ i hM1, ← HNM.out, hN1])
                have HDF := Lib.hid (fun fn hfn => deleteFunc_any B wp N[i].2 N[i].1.a wo.heap.size _ xc fn hfn (hq'.a i hiN) (by omega) bF rfl)
                have HPA := Lib.hid (fun (w6 : World) (v' : Value) (hg6 : wp.grownBy w6 N[i].2.ownBlock) (hir : IR B w6 v' (N[i].1.a.filter fun n => !(n == xc))) (hob : v'.ownBlock = N[i].2.ownBlock) => QS.putA hq' i hiN hg6 hir (.inl hob) (Nat.le_refl _))
                have HKE := Lib.hid (fun (w6 : World) (hg6 : wp.grownBy w6 N[i].2.ownBlock) => (show (∃ cur, Blk w6 g2 38 cur) ∧ Blk w6 wo.heap.size 38 #[.int .i64 xc, .int .i64 0, .bool xt, .bool true, .bool false, .slice Av xa.length cv] ∧ Fr B w w6 ∧ w6.cell? ⟨g2, i * 6 + 5, none⟩ = some N[i].2 from by
                  obtain ⟨g8, c8, cur, e8, _, hbk, _⟩ := own_some hq'.e (by omega)
                  injection e8 with e8 _ _
                  injection e8 with e8
                  injection e8 with e8 _ _
                  subst e8
                  have hb6 := hbk.grown hg6 (own_blk_ne (hq'.a i hiN) hbk (by decide))
                  refine ⟨⟨cur, hb6⟩, bF.grown hg6 (own_blk_ne (hq'.a i hiN) bF (by decide)), HF.out.trans (Fr.own (hq'.a i hiN) (.inr rfl) hg6), ?_⟩
                  rw [hb6.cell, ← hbk.cell]; exact d5))
                obtain ⟨Ay, cy, hyv, _⟩ := own_form (hq'.a i hiN)
                have HNE : Hid (wo.heap.size ≠ g2) := Lib.hid (fun e => by have := HVE.out _ _ _ rfl; omega)
                clear hq hq' df bF hN1 hal HF
                generalize hNi : N[i].2 = yv at *
                generalize hNj : N[i].1 = y at *
                subst hyv
                go_wp2_with fail
                go_at_call 43
                with_reducible refine (HDF.out _ rfl).mono ?_
                rintro e w6 ⟨v', rfl, hob, hir, hg6⟩
                obtain ⟨A', c', hv', _⟩ := own_form hir
                subst hv'
                have HP6 := Lib.hid (HPA.out w6 _ hg6 hir hob)
                obtain ⟨⟨cur6, hb6⟩, hbF6, hF6, d6⟩ := HKE.out w6 hg6
                have f6 := hb6.frozen (i * 6 + 5)
                have l6 := hb6.lt
                have HP7 := HP6.out
                rw [HNL.out] at HP7
                have HX2 := Lib.hid (And.intro HP7 (And.intro (hF6.trans (Fr.set_ (p := ⟨g2, i * 6 + 5, none⟩) hb6 hBg2 (.inr (.inl rfl)) (.slice A' (y.a.filter fun n => !(n == xc)).length c'))) (hbF6.far (p := ⟨g2, i * 6 + 5, none⟩) HNE.out (.slice A' (y.a.filter fun n => !(n == xc)).length c'))))
                have HN2 : Hid ((N.set i (⟨y.c, y.t, y.p, y.f, y.a.filter fun n => !(n == xc)⟩, Value.slice A' (y.a.filter fun n => !(n == xc)).length c')).map (·.1) = Mq.drTo xc (L.map (·.1)) (i + 1)) := Lib.hid (by rw [List.map_set]; exact HSS.out)
                have HL2 : Hid ((N.set i (⟨y.c, y.t, y.p, y.f, y.a.filter fun n => !(n == xc)⟩, Value.slice A' (y.a.filter fun n => !(n == xc)).length c')).length = L.length) := Lib.hid (by rw [List.length_set]; exact HNL.out)
                clear HP7 HP6 hb6 hbF6 hF6 HPA HKE HDF hir hg6 hob HSS HNM HNL hNi hNj hM1 hiN
                generalize N.set i (⟨y.c, y.t, y.p, y.f, y.a.filter fun n => !(n == xc)⟩, Value.slice A' (y.a.filter fun n => !(n == xc)).length c') = N2 at *
                generalize (y.a.filter fun n => !(n == xc)).length = nf at *
                go_wp2_with fail
                go_roundw
                case rel => exact ⟨i + 1, N2, by omega, by go_num, HX2.out.1, HL2, HN2, Lib.hid HX2.out.2.1, HX2.out.2.2⟩
                case measure => simp [intOf]; omega
              · obtain rfl : i = L.length := by omega
                have hltI : ¬ (L.length : Int) < L.length := by omega
                have HRn : Hid (Mq.setl N.length (N.map (·.1)) (la ++ [xc]) re = R) := Lib.hid (by
                  rw [← HR2.out, HNL.out, HNM.out]
                  have e : Mq.drTo xc (L.map (·.1)) L.length = (L.map (·.1)).map (Mq.drop1 xc) := by have := Mq.drTo_all xc (L.map (·.1)); rwa [List.length_map] at this
                  rw [e]
                  show _ = Mq.setl (L.length + 1) (_ :: L.map (·.1)) la re
                  rw [Mq.setl, if_pos (.inl rfl), if_neg (by simp)])
                have HSn : Hid (SzL N (la ++ [xc]) re) := Lib.hid ⟨by rw [HNL.out]; omega, by rw [HNL.out]; simp; omega, by rw [HNL.out]; omega, fun j h => by
                  have hjL : j < L.length := by rw [← HNL.out]; exact h
                  have e : Mq.drTo xc (L.map (·.1)) L.length = (L.map (·.1)).map (Mq.drop1 xc) := by have := Mq.drTo_all xc (L.map (·.1)); rwa [List.length_map] at this
                  have e2 : (N.map (·.1))[j]? = ((L.map (·.1)).map (Mq.drop1 xc))[j]? := by rw [HNM.out, e]
                  rw [List.getElem?_eq_getElem (by simpa using h), List.getElem?_eq_getElem (by simpa using hjL)] at e2
                  injection e2 with e2
                  rw [List.getElem_map] at e2
                  rw [e2]
                  simp only [List.getElem_map]
                  exact Nat.le_trans (List.length_filter_le _ _) (HS2.out j hjL)⟩
                have hlenN := HNL.out
                clear HNM
                go_wp2_with fail
                go_roundw
                case rel => exact ⟨_, vl2, vr, N, la ++ [xc], re, hq, HRn, HSn, HF⟩
                case measure => rw [hq.lenAt_, HLN.out, hlenN]; simp
        · obtain ⟨Ar, cr, hvr, _⟩ := own_form hq2.r
          subst hvr
          have q2 : w2.cell? ⟨gQ, 2, none⟩ = some (.slice Ar re.length cr) := (hq2.q.cell 2).trans rfl
          have lq := hq2.q.lt
          have lF := bF.lt
          have hqa := (hq2.alloc (.cells #[.int .i64 xc] 3)).drew
          have HOWN := Lib.hid hqa.r
          have hqn : some gQ ≠ (Value.slice Ar re.length cr).ownBlock := own_blk_ne hq2.r hq2.q (by decide)
          have HBQ := Lib.hid (fun (w3 : World) (hg : ((w2.alloc (.cells #[.int .i64 xc] 3)).drew).grownBy w3 (Value.slice Ar re.length cr).ownBlock) => (show w3.cell? ⟨gQ, 2, none⟩ = some (.slice Ar re.length cr) ∧ w3.frozen? ⟨gQ, 2, none⟩ = false ∧ gQ < w3.heap.size from
            ⟨((hqa.q.grown hg hqn).cell 2).trans rfl, (hqa.q.grown hg hqn).frozen 2, (hqa.q.grown hg hqn).lt⟩))
          have HNX := Lib.hid (fun (w3 : World) (gd c' : Nat) (ho : w3.ownsRow B 3 1 (.slice (some ⟨gd, 0, none⟩) (re.length + 1) c') (re.length + 1) (intsV re ++ [.int .i64 xc])) (hg : ((w2.alloc (.cells #[.int .i64 xc] 3)).drew).grownBy w3 (Value.slice Ar re.length cr).ownBlock)
              (hob : (Value.slice (some ⟨gd, 0, none⟩) (re.length + 1) c').ownBlock = (Value.slice Ar re.length cr).ownBlock ∨ (Value.slice (some ⟨gd, 0, none⟩) (re.length + 1) c').ownBlock = some ((w2.alloc (.cells #[.int .i64 xc] 3)).drew).heap.size) =>
            (show QS B (w3.setCell ⟨gQ, 2, none⟩ (.slice (some ⟨gd, 0, none⟩) (re.length + 1) c')) gQ win ve2 L vl (.slice (some ⟨gd, 0, none⟩) (re.length + 1) c') la (re ++ [xc]) ∧ Fr B w (w3.setCell ⟨gQ, 2, none⟩ (.slice (some ⟨gd, 0, none⟩) (re.length + 1) c')) from
              ⟨hqa.putR hg (by unfold IR; rw [List.length_append, intsV_append]; exact ho) hob (Nat.le_refl _),
               (((hF2.trans (Fr.below (below_alloc1 w2 _))).trans (Fr.below (below_drew' (Below.refl _ _)))).trans (Fr.own hqa.r (.inr rfl) hg)).trans (Fr.set_ (p := ⟨gQ, 2, none⟩) (hqa.q.grown hg hqn) hb9 (.inl rfl) _)⟩))
          have hu : ∀ (j : Nat) v, ([.int .i64 xc] : List Value)[j]? = some v → ((w2.alloc (.cells #[.int .i64 xc] 3)).drew).cell? ⟨w2.heap.size, j, none⟩ = some v := fun j v hj => by
            have := (Blk.new w2 3 #[.int .i64 xc]).drew.cell j
            rw [this, ← Array.getElem?_toList]; exact hj
          have h1c : ∀ u ∈ ([.int .i64 xc] : List Value), u.oneCell' = true := fun u hu => by rw [List.mem_singleton] at hu; subst hu; rfl
          have h63 : re.length + 1 ≤ maxLen := by unfold maxLen; omega
          have hby : (re.length + 1) * 8 ≤ 140737488355328 := by omega
          have hbs : B ≤ ((w2.alloc (.cells #[.int .i64 xc] 3)).drew).heap.size := Nat.le_trans hqa.hq (Nat.le_of_lt hqa.q.lt)
          have HRn : Hid (Mq.setl (L.map dv).length ((L.map dv).map (·.1)) la (re ++ [xc]) = R) := Lib.hid (by
            rw [← HR2.out, List.length_map]
            show _ = Mq.setl (L.length + 1) (_ :: L.map (·.1)) la re
            rw [Mq.setl, if_pos (.inr rfl), if_pos rfl, List.map_map, List.map_map]; rfl)
          have HSn : Hid (SzL (L.map dv) la (re ++ [xc])) := Lib.hid ⟨by simp; omega, by simp; omega, by simp; omega, fun j h => by simp [dv, Mq.disc]⟩
          clear hqa hqn hF2 HR2 HS2 hq2 hSr hSl
          go_region_law
            (refine step_appNo _ rfl (.tmp 51) (.tmp 54) 23 rfl B 3 i0 (.int .i64 0) 1 8 Try.underlying23 hi0 hz0 hz1 hz2 rfl (by decide) Ar re.length cr (intsV re) (by simp [Act.eval]) HOWN.out w2.heap.size 1 [.int .i64 xc] (by simp [Act.eval]) rfl hu h1c h63 hby hbs ?_; intro gd c' w3 hown3 hg3 hob3; obtain ⟨c2f, f2f, l2f⟩ := HBQ.out w3 hg3)
          all_goals
            have HX := Lib.hid (HNX.out w3 gd c' hown3 hg3 hob3)
            clear hown3 hg3 hob3 HNX HBQ HOWN hu h1c h63 hby hbs
            go_wp2_with fail
            go_at_call 28
            with_reducible refine (discard0_any B _ gQ win ve2 vl _ L la _ HX.out.1 (by omega)).mono ?_
            rintro e w4 ⟨rfl, hq4, ht4⟩
            go_wp2_with fail
            go_roundw
            case rel => exact ⟨ve2, vl, _, L.map dv, la, re ++ [xc], hq4, HRn, HSn, Lib.hid (HX.out.2.trans (Fr.two HX.out.1 ht4))⟩
            case measure => rw [hq4.lenAt_, HLN.out]; simp
end Go.Proofs.Ytinebbleilnejaa
