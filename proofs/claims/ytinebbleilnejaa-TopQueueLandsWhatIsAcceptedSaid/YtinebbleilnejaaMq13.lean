/-
  The merge queue: walk of step.
-/
import Derived.Test.YtinebbleilnejaaMq11
import Derived.Test.YtinebbleilnejaaMq12
namespace Go.Proofs.Ytinebbleilnejaa
open Go.RowKit Go.V
set_option linter.unusedVariables false
theorem fi_find {L : List (Mq.E × Value)} {x : Int} {j : Nat} (h : j < L.length) (h1 : L[j].1.c = x) (h2 : ∀ i (hi : i < j), L[i].1.c ≠ x) : Mq.find (L.map (·.1)) x = j := by
  unfold Mq.find
  rw [List.findIdx_eq (by simpa using h)]
  refine ⟨by simp [h1], fun i hi => ?_⟩
  have := h2 i hi
  simp [this]
theorem fi_val {L : List (Mq.E × Value)} {x r : Int} (h : FiAt L x r) (hv : ∃ h : Mq.find (L.map (·.1)) x < (L.map (·.1)).length, (List.map (fun (y : Mq.E × Value) => y.1) L)[Mq.find (L.map (·.1)) x].c = x) :
    ∃ (j : Nat) (h : j < L.length), r = (j : Int) ∧ L[j].1.c = x ∧ Mq.find (L.map (·.1)) x = j := by
  rcases h with ⟨_, hno⟩ | ⟨j, hj, hr, hc, hb⟩
  · obtain ⟨h1, h2⟩ := hv
    have h3 : Mq.find (L.map (·.1)) x < L.length := by simpa using h1
    exact absurd (by simpa using h2) (hno _ h3)
  · exact ⟨j, hj, hr, hc, fi_find hj hc hb⟩
theorem szl_of {L : List (Mq.E × Value)} {la re : List Int} (h : Mq.Sz ⟨L.map (·.1), la, re⟩) : SzL L la re := by
  obtain ⟨h1, h2, h3, h4⟩ := h
  simp only [List.length_map] at h1 h2 h3 h4
  refine ⟨by omega, by omega, by omega, fun j hj => ?_⟩
  have := h4 j hj
  simp only [List.getElem_map] at this
  omega
theorem QS.vd {B gQ g c : Nat} {wr : World} {win : Int} {vl vr : Value} {L : List (Mq.E × Value)} {la re : List Int} (h : QS B wr gQ win (.slice (some ⟨g, 0, none⟩) L.length c) L vl vr la re) (hBg : B ≤ g) (j : Nat) (hj : j < L.length) (P F : Bool) (f1 f2 : Nat) (P1 P2 : Bool) (hf : (f1 = 3 ∧ f2 = 4 ∧ P1 = P ∧ P2 = F) ∨ (f1 = 4 ∧ f2 = 3 ∧ P1 = F ∧ P2 = P)) :
    QS B (((wr.setCell ⟨g, j * 6 + 2, none⟩ (.bool false)).setCell ⟨g, j * 6 + f1, none⟩ (.bool P1)).setCell ⟨g, j * 6 + f2, none⟩ (.bool P2)) gQ win (.slice (some ⟨g, 0, none⟩) L.length c) (L.set j (⟨L[j].1.c, false, P, F, L[j].1.a⟩, L[j].2)) vl vr la re ∧
    Fr B wr (((wr.setCell ⟨g, j * 6 + 2, none⟩ (.bool false)).setCell ⟨g, j * 6 + f1, none⟩ (.bool P1)).setCell ⟨g, j * 6 + f2, none⟩ (.bool P2)) := by
  obtain ⟨⟨⟨yc, yt, yp, yf, ya⟩, yv⟩, hy⟩ : ∃ y, L[j] = y := ⟨_, rfl⟩
  obtain ⟨g9, c9, cur, e9, _, hbk, _⟩ := own_some h.e (by omega)
  injection e9 with e9 _ _
  injection e9 with e9
  injection e9 with e9 _ _
  subst e9
  have hb2 := hbk.set_ (j * 6 + 2) (.bool false)
  have hb3 := hb2.set_ (j * 6 + f1) (.bool P1)
  have k1 := QS.putF h j 2 hj (by omega) (.bool false) ⟨yc, false, yp, yf, ya⟩ (by rw [hy]; rfl) (by rw [hy])
  rw [hy] at k1 ⊢
  simp only at k1 ⊢
  have l1 : (L.set j (⟨yc, false, yp, yf, ya⟩, yv)).length = L.length := by simp
  have a1 : (L.set j (⟨yc, false, yp, yf, ya⟩, yv))[j]'(by rw [l1]; exact hj) = (⟨yc, false, yp, yf, ya⟩, yv) := by simp
  have k1' : QS B (wr.setCell ⟨g, j * 6 + 2, none⟩ (.bool false)) gQ win (.slice (some ⟨g, 0, none⟩) (L.set j (⟨yc, false, yp, yf, ya⟩, yv)).length c) (L.set j (⟨yc, false, yp, yf, ya⟩, yv)) vl vr la re := by rw [l1]; exact k1
  refine ⟨?_, ((Fr.set_ (p := ⟨g, j * 6 + 2, none⟩) hbk hBg (.inr (.inl rfl)) _).trans (Fr.set_ (p := ⟨g, j * 6 + f1, none⟩) hb2 hBg (.inr (.inl rfl)) _)).trans (Fr.set_ (p := ⟨g, j * 6 + f2, none⟩) hb3 hBg (.inr (.inl rfl)) _)⟩
  rcases hf with ⟨rfl, rfl, rfl, rfl⟩ | ⟨rfl, rfl, rfl, rfl⟩
  · have k2 := QS.putF k1' j 3 (by rw [l1]; exact hj) (by omega) (.bool P1) ⟨yc, false, P1, yf, ya⟩ (by rw [a1]; rfl) (by rw [a1])
    simp only [a1, List.set_set] at k2
    rw [l1] at k2
    have l2 : (L.set j (⟨yc, false, P1, yf, ya⟩, yv)).length = L.length := by simp
    have a2 : (L.set j (⟨yc, false, P1, yf, ya⟩, yv))[j]'(by rw [l2]; exact hj) = (⟨yc, false, P1, yf, ya⟩, yv) := by simp
    have k2' : QS B ((wr.setCell ⟨g, j * 6 + 2, none⟩ (.bool false)).setCell ⟨g, j * 6 + 3, none⟩ (.bool P1)) gQ win (.slice (some ⟨g, 0, none⟩) (L.set j (⟨yc, false, P1, yf, ya⟩, yv)).length c) (L.set j (⟨yc, false, P1, yf, ya⟩, yv)) vl vr la re := by rw [l2]; exact k2
    have k3 := QS.putF k2' j 4 (by rw [l2]; exact hj) (by omega) (.bool P2) ⟨yc, false, P1, P2, ya⟩ (by rw [a2]; rfl) (by rw [a2])
    simp only [a2, List.set_set] at k3
    rw [l2] at k3
    exact k3
  · have k2 := QS.putF k1' j 4 (by rw [l1]; exact hj) (by omega) (.bool P1) ⟨yc, false, yp, P1, ya⟩ (by rw [a1]; rfl) (by rw [a1])
    simp only [a1, List.set_set] at k2
    rw [l1] at k2
    have l2 : (L.set j (⟨yc, false, yp, P1, ya⟩, yv)).length = L.length := by simp
    have a2 : (L.set j (⟨yc, false, yp, P1, ya⟩, yv))[j]'(by rw [l2]; exact hj) = (⟨yc, false, yp, P1, ya⟩, yv) := by simp
    have k2' : QS B ((wr.setCell ⟨g, j * 6 + 2, none⟩ (.bool false)).setCell ⟨g, j * 6 + 4, none⟩ (.bool P1)) gQ win (.slice (some ⟨g, 0, none⟩) (L.set j (⟨yc, false, yp, P1, ya⟩, yv)).length c) (L.set j (⟨yc, false, yp, P1, ya⟩, yv)) vl vr la re := by rw [l2]; exact k2
    have k3 := QS.putF k2' j 3 (by rw [l2]; exact hj) (by omega) (.bool P2) ⟨yc, false, P2, P1, ya⟩ (by rw [a2]; rfl) (by rw [a2])
    simp only [a2, List.set_set] at k3
    rw [l2] at k3
    exact k3
set_option maxRecDepth 100000 in
set_option maxHeartbeats 16000000 in
theorem step_any (B : Nat) (w : World) (gQ : Nat) (win : Nat) (ve vl vr : Value) (L : List (Mq.E × Value)) (la re : List Int) (v : Mq.Ev) (hq : QS B w gQ win ve L vl vr la re) (hsz : Mq.Sz ⟨L.map (·.1), la, re⟩) (hv : Mq.Val ⟨L.map (·.1), la, re⟩ v) (hB : B ≤ w.heap.size) (hwin : win ≤ 4) :
    Calls Try.prog 15 #[.pointer (some ⟨gQ, 0, none⟩), .agg #[.int .i64 v.kind, .int .i64 v.c, .int .i64 0]] w (StPost B w gQ win (Mq.step win ⟨L.map (·.1), la, re⟩ v)) := by
  obtain ⟨kd, cc⟩ := v
  have hsl := szl_of hsz
  have hL10 : L.length ≤ 10 := by have := hsz.1; simpa using this
  have hb1 := below_alloc1 w (.cells #[.int .i64 kd, .int .i64 cc, .int .i64 0] 31)
  have b1 := Blk.new w 31 #[.int .i64 kd, .int .i64 cc, .int .i64 0]
  have hq1 := hq.below hb1
  have HFI := Lib.hid (find_any B _ gQ win ve vl vr L la re cc hq1 (by omega))
  have HQ := Lib.hid (fun (W : World) (hb : Below (w.alloc (.cells #[.int .i64 kd, .int .i64 cc, .int .i64 0] 31)).heap.size (w.alloc (.cells #[.int .i64 kd, .int .i64 cc, .int .i64 0] 31)) W) => And.intro (hq1.below hb) (And.intro (b1.below hb b1.lt) (Fr.below (B := B) (hb1.trans (hb.mono hb1.size)))))
  obtain ⟨_, _, hv3⟩ := hv
  simp only at hv3
  have hB1 : B ≤ (w.alloc (.cells #[.int .i64 kd, .int .i64 cc, .int .i64 0] 31)).heap.size := Nat.le_trans hB hb1.size
  clear hq hq1 b1
  rcases hv3 with ⟨rfl, hno, _, _, hlt10⟩ | ⟨hk, hf, hcv, htv⟩
  · have hlt10' : L.length < 10 := by simpa using hlt10
    have hstep : Mq.step win ⟨L.map (·.1), la, re⟩ ⟨1, cc⟩ = Mq.settle win ((L ++ [((⟨cc, false, false, false, []⟩ : Mq.E), Value.slice none 0 0)]).map (·.1)) la re := by
      unfold Mq.step
      rw [if_pos rfl, List.map_append]; rfl
    rw [hstep]
    have hsn : SzL (L ++ [((⟨cc, false, false, false, []⟩ : Mq.E), Value.slice none 0 0)]) la re := by
      obtain ⟨s1, s2, s3, s4⟩ := hsl
      have t2 := hsz.2.1
      have t3 := hsz.2.2.1
      simp only at t2 t3
      refine ⟨by simp; omega, by simp; omega, by simp; omega, fun j hj => ?_⟩
      by_cases e : j < L.length
      · rw [List.getElem_append_left e]; exact s4 j e
      · rw [List.getElem_append_right (by omega)]; simp
    have HSN := Lib.hid hsn
    clear hstep hno hsl hsz hsn hlt10 hb1
    go_enter Try.func15, Try.ntmps15
    go_wp2_with fail
    go_at_call 25
    with_reducible refine HFI.out.mono ?_
    rintro e w2 ⟨⟨r, rfl, hr⟩, hb2⟩
    obtain ⟨hq2, b2, hF2⟩ := HQ.out w2 hb2
    have c0 := (b2.cell 0).trans rfl
    have c1 := (b2.cell 1).trans rfl
    have c2 := (b2.cell 2).trans rfl
    have HAD := Lib.hid (add_any B w2 gQ win ve vl vr L la re cc hq2 (by omega) (Nat.le_trans hB1 hb2.size))
    have HB2 := Lib.hid (Nat.le_trans hB1 hb2.size)
    clear hr HQ HFI hq2 hb2
    go_wp2_with fail
    go_at_call 26
    with_reducible refine HAD.out.mono ?_
    rintro e w3 ⟨rfl, ve3, hq3, hF3⟩
    have HST := Lib.hid (settle_any B w3 gQ win ve3 vl vr _ la re hq3 HSN.out (Nat.le_trans HB2.out hF3.size) hwin)
    clear HAD hq3
    go_wp2_with fail
    go_at_call 29
    with_reducible refine HST.out.mono ?_
    rintro e w4 ⟨rfl, ve4, vl4, vr4, L4, hq4, hm4, hF4⟩
    go_wp2_with fail
    refine bodyPost_end (results_none rfl _ _ _) rfl ?_
    exact ⟨rfl, ve4, vl4, vr4, L4, hq4, hm4, (hF2.trans hF3).trans hF4⟩
  · have HV := Lib.hid (show ∃ h : Mq.find (L.map (·.1)) cc < (L.map (·.1)).length, (List.map (fun (y : Mq.E × Value) => y.1) L)[Mq.find (L.map (·.1)) cc].c = cc from ⟨hf, hcv⟩)
    have HSL := Lib.hid hsl
    clear hf hcv htv hsl hsz hb1
    rcases hk with rfl | rfl
    all_goals
      go_enter Try.func15, Try.ntmps15
      go_wp2_with fail
      go_at_call 25
      with_reducible refine HFI.out.mono ?_
      rintro e w2 ⟨⟨r, rfl, hr⟩, hb2⟩
      obtain ⟨hq2, b2, hF2⟩ := HQ.out w2 hb2
      obtain ⟨j, hj, rfl, hjc, hfj⟩ := fi_val hr HV.out
      have c0 := (b2.cell 0).trans rfl
      have c1 := (b2.cell 1).trans rfl
      have c2 := (b2.cell 2).trans rfl
      have hjI : (j : Int) < L.length := by omega
      obtain ⟨g, c, rfl, hg, hBg, hgq, d0, d1, d2, d3, d4, d5, df⟩ := hq2.row j hj
      have p0 : w2.cell? ⟨gQ, 0, none⟩ = some (.slice (some ⟨g, 0, none⟩) L.length c) := (hq2.q.cell 0).trans rfl
      have f2 := df 2 (by omega)
      have f3 := df 3 (by omega)
      have f4 := df 4 (by omega)
      have HB2 := Lib.hid (Nat.le_trans hB1 hb2.size)
      have HVD := Lib.hid (fun P F => QS.vd hq2 hBg j hj P F 3 4 P F (.inl ⟨rfl, rfl, rfl, rfl⟩))
      have HSZ := Lib.hid (show ∀ P F, SzL (L.set j (⟨L[j].1.c, false, P, F, L[j].1.a⟩, L[j].2)) la re from fun P F => by
        obtain ⟨s1, s2, s3, s4⟩ := HSL.out
        refine ⟨by simpa using s1, by simpa using s2, by simpa using s3, fun i hi => ?_⟩
        rw [List.getElem_set]
        by_cases e : j = i
        · rw [if_pos e]; exact s4 j hj
        · rw [if_neg e]; exact s4 i (by simpa using hi))
      have HSTP := Lib.hid (show ∀ kd : Int, kd ≠ 1 → Mq.step win ⟨L.map (·.1), la, re⟩ ⟨kd, cc⟩ = Mq.settle win ((L.set j (⟨L[j].1.c, false, kd == 3, !(kd == 3), L[j].1.a⟩, L[j].2)).map (·.1)) la re from fun kd hkd => by
        unfold Mq.step
        rw [if_neg hkd]
        show Mq.settle win (Mq.vset _ (L.map (·.1)) (Mq.find (L.map (·.1)) cc)) la re = _
        rw [hfj, List.map_set]
        unfold Mq.vset
        rw [List.getElem?_eq_getElem (by simpa using hj)]
        simp only [List.getElem_map]
        rfl)
      have HB3 := Lib.hid (fun (W : World) (h : Fr B w2 W) => Nat.le_trans HB2.out h.size)
      clear hr HQ HFI hb2 df HV hq2 hjc hfj
      generalize hLj : L[j] = y at *
      go_wp2_with fail
      go_region
      all_goals
        go_wp2_with fail
        go_at_call 29
        with_reducible refine (settle_any B _ gQ win _ vl vr _ la re (HVD.out _ _).1.drew (HSZ.out _ _) (HB3.out _ ((HVD.out _ _).2.trans (Fr.below (below_drew' (Below.refl _ _))))) hwin).mono ?_
        rintro e w4 ⟨rfl, ve4, vl4, vr4, L4, hq4, hm4, hF4⟩
        go_wp2_with fail
        refine bodyPost_end (results_none rfl _ _ _) rfl ?_
        rw [HSTP.out _ (by decide)]
        exact ⟨rfl, ve4, vl4, vr4, L4, hq4, hm4, ((hF2.trans (HVD.out _ _).2).trans (Fr.below (below_drew' (Below.refl _ _)))).trans hF4⟩
end Go.Proofs.Ytinebbleilnejaa
