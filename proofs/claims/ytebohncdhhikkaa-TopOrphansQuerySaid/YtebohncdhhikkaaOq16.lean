/-
  Queries: walk of 'mlCommits'.
-/
import Derived.Test.YtebohncdhhikkaaOq14
import Derived.OrdersHeld
namespace Go.Proofs.Ytebohncdhhikkaa
open Go.RowKit Go.V
set_option linter.unusedVariables false
/-- The state of the loop. -/
structure CmSt (w wr : World) (Aq : Option Addr) (kq : Nat) (q : List Oq.N) : Prop where
  res : Blk wr w.heap.size 38 #[.slice none 0 0]
  box : Blk wr (w.heap.size + 2) 38 #[.slice Aq q.length kq]
  own : wr.ownsRow w.heap.size 50 4 (.slice Aq q.length kq) q.length (nsV q)
  bel : Below w.heap.size w wr
theorem CmSt.below {w wr wr' : World} {Aq : Option Addr} {kq : Nat} {q : List Oq.N} (h : CmSt w wr Aq kq q) (hb : Below wr.heap.size wr wr') : CmSt w wr' Aq kq q :=
  ⟨h.res.below hb h.res.lt, h.box.below hb h.box.lt, own_below h.own hb, h.bel.trans (hb.mono h.bel.size)⟩
theorem CmSt.put {w wr : World} {Aq A5 : Option Addr} {kq k5 : Nat} {q q5 : List Oq.N} (h : CmSt w wr Aq kq q) (ho : wr.ownsRow w.heap.size 50 4 (.slice A5 q5.length k5) q5.length (nsV q5)) : CmSt w (wr.setCell ⟨w.heap.size + 2, 0, none⟩ (.slice A5 q5.length k5)) A5 k5 q5 :=
  ⟨h.res.far (by simp) _, h.box.set_ 0 _, own_setCell ho (own_blk_ne ho h.box (by decide)) _, h.bel.setCell (by simp) _⟩
theorem qv_lit (w : World) (x : Oq.N) : QV (w.alloc (.cells (nC x).toArray 50)) (some ⟨w.heap.size, 0, none⟩) [x] := by
  have := SV.of_blk (Blk.new w 50 (nC x).toArray)
  unfold QV; rw [nsV_oneN]; exact this
set_option maxRecDepth 100000 in
set_option maxHeartbeats 16000000 in
theorem mlCommits_any (w : World) (A : Option Addr) (k : Nat) (gs : List Int) (hv : IV w A gs) (hl : gs.length ≤ 8) :
    Calls Try.prog 12 #[.slice A gs.length k] w (JnPost w (Oq.cq gs)) := by
  have HV := Lib.hid (fun (w1 : World) (hb : Below w.heap.size w w1) (i : Nat) (hi : i < gs.length) => hv.atIn hb i hi)
  have HQ := Lib.hid (fun (i : Nat) (hi : i < gs.length) => (show Oq.cq (gs.take (i + 1)) = Oq.joined 14 (Oq.cq (gs.take i)) [⟨3, gs[i], 0, 0⟩] from by rw [List.take_succ_eq_append_getElem hi, Oq.cq_snoc]))
  have HP := Lib.hid (show ∀ e w', JnPost w (Oq.cq (gs.take gs.length)) e w' → JnPost w (Oq.cq gs) e w' from fun e w' h => by rwa [List.take_length] at h)
  have HLE := Lib.hid (show ∀ q g, (Oq.joined 14 q [(⟨3, g, 0, 0⟩ : Oq.N)]).length = q.length + 2 from fun q g => by rw [Oq.joined_len]; rfl)
  have st0 : CmSt w (((w.alloc (.cells #[.slice none 0 0] 38)).alloc (.cells #[.int .i64 2, .int .i64 0, .int .i64 0, .int .i64 0] 50)).alloc (.cells #[.slice (some ⟨w.heap.size + 1, 0, none⟩) 1 1] 38)) (some ⟨w.heap.size + 1, 0, none⟩) 1 (Oq.cq (gs.take 0)) :=
    ⟨((Blk.new w 38 #[.slice none 0 0]).alloc _).alloc _, by
      have := Blk.new ((w.alloc (.cells #[.slice none 0 0] 38)).alloc (.cells #[.int .i64 2, .int .i64 0, .int .i64 0, .int .i64 0] 50)) 38 #[.slice (some ⟨w.heap.size + 1, 0, none⟩) 1 1]
      simpa [Oq.cq] using this,
     by
      have b := (blk_new1 w (.cells #[.slice none 0 0] 38) 50 #[.int .i64 2, .int .i64 0, .int .i64 0, .int .i64 0]).alloc (.cells #[.slice (some ⟨w.heap.size + 1, 0, none⟩) 1 1] 38)
      exact own_of_blk b (by omega) (Nat.le_refl _) (by simp [maxLen, Oq.cq]) rfl rfl, below_alloc3 _ _ _ _⟩
  have hle0 : (Oq.cq (gs.take 0)).length ≤ 2 * 0 + 1 := by simp [Oq.cq]
  clear hv
  go_enter Try.func12, Try.ntmps12
  go_wp2_with fail
  go_loopw [4] (fun iv wr => ∃ (i : Nat) (Aq : Option Addr) (kq : Nat), i ≤ gs.length ∧ iv = .int .i64 i ∧ (Oq.cq (gs.take i)).length ≤ 2 * i + 1 ∧ CmSt w wr Aq kq (Oq.cq (gs.take i))) (fun iv _ => gs.length - (intOf iv).toNat)
  case atStart => exact ⟨0, _, _, Nat.zero_le _, rfl, hle0, st0⟩
  case round =>
    clear st0 hle0
    obtain ⟨i, Aq, kq, hi, rfl, hle, st⟩ := hrel
    obtain ⟨wb, rfl⟩ : ∃ wo : World, wo = wr := ⟨_, rfl⟩
    by_cases hlt : i < gs.length
    · have hlt' : (i : Int) < gs.length := by omega
      obtain ⟨b, off, e, hbs, hc⟩ := HV.out w (Below.refl _ _) i hlt
      subst e
      have HQi := Lib.hid (HQ.out i hlt)
      have HPi := Lib.hid (HLE.out (Oq.cq (gs.take i)) gs[i])
      rw [← HQi.out] at HPi
      obtain ⟨J, hJ⟩ : ∃ J, J = Oq.cq (gs.take (i + 1)) := ⟨_, rfl⟩
      rw [← hJ] at HQi HPi
      have HJE := Lib.hid hJ
      clear hJ
      generalize gs[i] = g at *
      generalize Oq.cq (gs.take i) = Q at *
      have hq40 : Q.length ≤ 40 := by omega
      have hbo : b < wb.heap.size := Nat.lt_of_lt_of_le hbs st.bel.size
      have HJ := Lib.hid (fun (w6 : World) (h6 : QV w6 Aq Q) (gl : Nat) (h7 : QV w6 (some ⟨gl, 0, none⟩) [⟨3, g, 0, 0⟩]) => (show Calls Try.prog 10 #[.int .i64 14, .agg #[.slice Aq Q.length kq], .agg #[.slice (some ⟨gl, 0, none⟩) 1 1]] w6 (JnPost w6 J) from HQi.out ▸ join_any w6 14 Aq (some ⟨gl, 0, none⟩) kq 1 Q [⟨3, g, 0, 0⟩] h6 h7 hq40 (by simp) (by intro x hx; simp at hx; subst hx; simp)))
      have HK8 := Lib.hid (fun (w6 : World) (h6 : Below wb.heap.size wb w6) => (show w6.cell? ⟨b, off + i, none⟩ = some (.int .i64 g) from ((st.below h6).bel.cell (p := ⟨b, off + i, none⟩) hbs).trans hc))
      have HK9 := Lib.hid (fun (w6 : World) (h6 : Below w.heap.size w w6) => (show w6.cell? ⟨b, off + i, none⟩ = some (.int .i64 g) from (h6.cell (p := ⟨b, off + i, none⟩) hbs).trans hc))
      clear HV HQ HLE
      go_wp2_with fail
      have stq := st.below (below_drew' (Below.refl _ _))
      refine wp_region_noPanic ?_
      refine wp_region_held_drew (S := (fun w6 : World => w6.cell? ⟨b, off + i, none⟩ = some (.int .i64 g))) (by kernel_rfl) ?_ (fun hSC => ?_)
      · exact HK8.out _ (below_drew' (Below.refl _ _))
      have hq : Below wb.heap.size wb wb.drew := below_drew' (Below.refl _ _)
      have hszb : wb.heap.size ≤ wb.drew.heap.size := Nat.le_refl _
      generalize hWg : wb.drew = WE at *
      clear hWg
      refine wpAnyH_take (i := 1) (v := .slice (some ⟨b, off, none⟩) gs.length k) rfl (by kernel_rfl) (by kernel_rfl) (by kernel_rfl) (fun _ _ _ h => h) (Or.inl ⟨by kernel_rfl, ?qC1⟩) (by assumption) ?rqC1
      case qC1 => (intro w hSw; (try dsimp only at hSw); go_simp)
      try simp only [Act.put, List.setIfInBounds_toArray]
      refine wpAnyH_take (i := 2) (v := .int .i64 (i : Int)) rfl (by kernel_rfl) (by kernel_rfl) (by kernel_rfl) (fun _ _ _ h => h) (Or.inl ⟨by kernel_rfl, ?qC2⟩) (by assumption) ?rqC2
      case qC2 => (intro w hSw; (try dsimp only at hSw); go_simp)
      try simp only [Act.put, List.setIfInBounds_toArray]
      refine wpAnyH_take (i := 3) (v := .pointer (some ⟨b, off + i, none⟩)) rfl (by kernel_rfl) (by kernel_rfl) (by kernel_rfl) (fun _ _ _ h => h) (Or.inl ⟨by kernel_rfl, ?qC3⟩) (by assumption) ?rqC3
      case qC3 => (intro w hSw; (try dsimp only at hSw); go_simp)
      try simp only [Act.put, List.setIfInBounds_toArray]
      refine wpAnyH_take (i := 4) (v := .int .i64 g) rfl (by kernel_rfl) (by kernel_rfl) (by kernel_rfl) (fun _ _ _ h => h) (Or.inl ⟨by kernel_rfl, ?qC4⟩) (by assumption) ?rqC4
      case qC4 => (intro w hSw; (try dsimp only at hSw); go_simp)
      try simp only [Act.put, List.setIfInBounds_toArray]
      refine wpAnyH_take (i := 5) (v := .agg #[.int .i64 3, .int .i64 g, .int .i64 0, .int .i64 0]) rfl (by kernel_rfl) (by kernel_rfl) (by kernel_rfl) (fun _ _ _ h => h) (Or.inl ⟨by kernel_rfl, ?qC5⟩) (by assumption) ?rqC5
      case qC5 => (intro w hSw; (try dsimp only at hSw); go_simp)
      try simp only [Act.put, List.setIfInBounds_toArray]
      refine wpAnyH_ready (rs := [0, 6]) (by kernel_rfl) (by simp) ?_
      refine AllReadyH.cons rfl (fun K hK => ?nC6) (AllReadyH.cons rfl (fun K hK => ?nC7) (AllReadyH.nil))
      case nC6 =>
        have q9 := (stq.box.cell 0).trans rfl
        have l9 := stq.box.lt
        go_simp
        refine hK.out _ _ ?_ (fun hSC8 => ?_)
        · exact HK8.out _ (hq)
        clear hK K
        try simp only [Act.put, List.setIfInBounds_toArray]
        clear q9 l9
        refine wpAnyH_ready (rs := [6]) (by kernel_rfl) (by simp) ?_
        refine AllReadyH.cons rfl (fun K hK => ?nC9) (AllReadyH.nil)
        go_simp
        refine hK.out _ _ ?_ (fun hSC11 => ?_)
        · exact HK8.out _ (hq.alloc hq.size (.cells #[.int .i64 3, .int .i64 g, .int .i64 0, .int .i64 0] 50))
        clear hK K
        try simp only [Act.put, List.setIfInBounds_toArray]
        replace hq := hq.alloc hq.size (.cells #[.int .i64 3, .int .i64 g, .int .i64 0, .int .i64 0] 50)
        have hvL : QV (WE.alloc (.cells #[.int .i64 3, .int .i64 g, .int .i64 0, .int .i64 0] 50)) (some ⟨WE.heap.size, 0, none⟩) [⟨3, g, 0, 0⟩] := qv_lit WE ⟨3, g, 0, 0⟩
        replace stq := stq.below (below_alloc1 WE (.cells #[.int .i64 3, .int .i64 g, .int .i64 0, .int .i64 0] 50))
        generalize WE.alloc (.cells #[.int .i64 3, .int .i64 g, .int .i64 0, .int .i64 0] 50) = WC10 at *
        generalize WE.heap.size = gL at *
        refine wpAnyH_take (i := 7) (v := .agg #[.slice (some ⟨gL, 0, none⟩) 1 1]) rfl (by kernel_rfl) (by kernel_rfl) (by kernel_rfl) (fun _ _ _ h => h) (Or.inl ⟨by kernel_rfl, ?qC12⟩) (by assumption) ?rqC12
        case qC12 => (intro w hSw; (try dsimp only at hSw); go_simp)
        try simp only [Act.put, List.setIfInBounds_toArray]
        refine wpAnyH_ready (rs := [8]) (by kernel_rfl) (by simp) ?_
        refine AllReadyH.cons rfl (fun K hK => ?nC13) (AllReadyH.nil)
        have hvQ : QV WC10 Aq Q := SV.of_own stq.own
        go_simp
        go_at_call 10
        with_reducible refine (HJ.out _ hvQ gL hvL).mono ?_
        rintro e WC14 ⟨A5, c5, rfl, hown5, hb9⟩
        try go_wp2_with fail
        refine hK.out _ _ ?_ (fun hSC15 => ?_)
        · exact HK8.out _ (hq.trans (hb9.mono hq.size))
        clear hK K
        try simp only [Act.put, List.setIfInBounds_toArray]
        replace hq := hq.trans (hb9.mono hq.size)
        replace hown5 := own_base hown5 stq.bel.size
        replace stq := stq.below hb9
        clear hb9 hvL hvQ
        refine wpAnyH_ready (rs := [9]) (by kernel_rfl) (by simp) ?_
        refine AllReadyH.cons rfl (fun K hK => ?nC16) (AllReadyH.nil)
        have q9 := (stq.box.cell 0).trans rfl
        have f9 := stq.box.frozen 0
        have l9 := stq.box.lt
        go_simp
        refine hK.out _ _ ?_ (fun hS9 => ?_)
        · exact HK9.out _ (stq.bel.setCell (by simp; omega) _)
        clear hK K
        try simp only [Act.put, List.setIfInBounds_toArray]
        refine wpAnyH_done (by kernel_rfl) ?_ _
        refine NoPanic.normal ?_
        have st2 := stq.put hown5
        clear stq hown5
        go_wp2_with fail
        go_roundw
        case rel => exact ⟨i + 1, A5, c5, by omega, by go_num, by rw [← HJE.out]; have := HPi.out; omega, by rw [← HJE.out]; exact st2⟩
        case measure => simp [intOf]; omega
      case nC7 =>
        go_simp
        refine hK.out _ _ ?_ (fun hSC18 => ?_)
        · exact HK8.out _ (hq.alloc hq.size (.cells #[.int .i64 3, .int .i64 g, .int .i64 0, .int .i64 0] 50))
        clear hK K
        try simp only [Act.put, List.setIfInBounds_toArray]
        replace hq := hq.alloc hq.size (.cells #[.int .i64 3, .int .i64 g, .int .i64 0, .int .i64 0] 50)
        have hvL : QV (WE.alloc (.cells #[.int .i64 3, .int .i64 g, .int .i64 0, .int .i64 0] 50)) (some ⟨WE.heap.size, 0, none⟩) [⟨3, g, 0, 0⟩] := qv_lit WE ⟨3, g, 0, 0⟩
        replace stq := stq.below (below_alloc1 WE (.cells #[.int .i64 3, .int .i64 g, .int .i64 0, .int .i64 0] 50))
        generalize WE.alloc (.cells #[.int .i64 3, .int .i64 g, .int .i64 0, .int .i64 0] 50) = WC17 at *
        generalize WE.heap.size = gL at *
        refine wpAnyH_take (i := 7) (v := .agg #[.slice (some ⟨gL, 0, none⟩) 1 1]) rfl (by kernel_rfl) (by kernel_rfl) (by kernel_rfl) (fun _ _ _ h => h) (Or.inl ⟨by kernel_rfl, ?qC19⟩) (by assumption) ?rqC19
        case qC19 => (intro w hSw; (try dsimp only at hSw); go_simp)
        try simp only [Act.put, List.setIfInBounds_toArray]
        refine wpAnyH_ready (rs := [0]) (by kernel_rfl) (by simp) ?_
        refine AllReadyH.cons rfl (fun K hK => ?nC20) (AllReadyH.nil)
        have q9 := (stq.box.cell 0).trans rfl
        have l9 := stq.box.lt
        go_simp
        refine hK.out _ _ ?_ (fun hSC21 => ?_)
        · exact HK8.out _ (hq)
        clear hK K
        try simp only [Act.put, List.setIfInBounds_toArray]
        clear q9 l9
        refine wpAnyH_ready (rs := [8]) (by kernel_rfl) (by simp) ?_
        refine AllReadyH.cons rfl (fun K hK => ?nC22) (AllReadyH.nil)
        have hvQ : QV WC17 Aq Q := SV.of_own stq.own
        go_simp
        go_at_call 10
        with_reducible refine (HJ.out _ hvQ gL hvL).mono ?_
        rintro e WC23 ⟨A5, c5, rfl, hown5, hb9⟩
        try go_wp2_with fail
        refine hK.out _ _ ?_ (fun hSC24 => ?_)
        · exact HK8.out _ (hq.trans (hb9.mono hq.size))
        clear hK K
        try simp only [Act.put, List.setIfInBounds_toArray]
        replace hq := hq.trans (hb9.mono hq.size)
        replace hown5 := own_base hown5 stq.bel.size
        replace stq := stq.below hb9
        clear hb9 hvL hvQ
        refine wpAnyH_ready (rs := [9]) (by kernel_rfl) (by simp) ?_
        refine AllReadyH.cons rfl (fun K hK => ?nC25) (AllReadyH.nil)
        have q9 := (stq.box.cell 0).trans rfl
        have f9 := stq.box.frozen 0
        have l9 := stq.box.lt
        go_simp
        refine hK.out _ _ ?_ (fun hS9 => ?_)
        · exact HK9.out _ (stq.bel.setCell (by simp; omega) _)
        clear hK K
        try simp only [Act.put, List.setIfInBounds_toArray]
        refine wpAnyH_done (by kernel_rfl) ?_ _
        refine NoPanic.normal ?_
        have st2 := stq.put hown5
        clear stq hown5
        go_wp2_with fail
        go_roundw
        case rel => exact ⟨i + 1, A5, c5, by omega, by go_num, by rw [← HJE.out]; have := HPi.out; omega, by rw [← HJE.out]; exact st2⟩
        case measure => simp [intOf]; omega
    · obtain rfl : i = gs.length := by omega
      have HF := Lib.hid (HP.out)
      clear HP
      generalize Oq.cq (gs.take gs.length) = Q at *
      have q0 := (st.res.cell 0).trans rfl
      have f0 := st.res.frozen 0
      have l0 := st.res.lt
      have q1 := (st.box.cell 0).trans rfl
      have l1 := st.box.lt
      have b4 := st.res.set_ 0 (.slice Aq Q.length kq)
      have ho := own_setCell st.own (own_blk_ne st.own st.res (by decide)) (p := ⟨w.heap.size, 0, none⟩) (.slice Aq Q.length kq)
      have hb := st.bel.setCell (p := ⟨w.heap.size, 0, none⟩) (Nat.le_refl _) (.slice Aq Q.length kq)
      clear st
      go_wp2_with fail
      refine bodyPost_ret (results_q rfl _ _ w.heap.size (.slice Aq Q.length kq) rfl b4) rfl ?_
      exact HF.out _ _ ⟨Aq, kq, rfl, ho, hb⟩
end Go.Proofs.Ytebohncdhhikkaa
