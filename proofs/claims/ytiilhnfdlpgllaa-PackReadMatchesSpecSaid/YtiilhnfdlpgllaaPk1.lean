/-
  Objects: walks of 'check' and of the reference's 'ObjectFault'.
-/
import Derived.Test.YtiilhnfdlpgllaaPkV
namespace Go.Proofs.Ytiilhnfdlpgllaa
open Go.RowKit Go.V
set_option linter.unusedVariables false

theorem blk_new1 (w : World) (o : Obj) (t : TypeId) (cs : Array Value) : Blk ((w.alloc o).alloc (.cells cs t)) (w.heap.size + 1) t cs := by
  have := Blk.new (w.alloc o) t cs; rwa [World.size_alloc] at this
theorem below_alloc2 (w : World) (o o' : Obj) : Below w.heap.size w ((w.alloc o).alloc o') := (below_alloc1 w o).alloc (by simp) _
theorem below_alloc3 (w : World) (o o' o'' : Obj) : Below w.heap.size w (((w.alloc o).alloc o').alloc o'') := (below_alloc2 w o o').alloc (by simp; omega) _
set_option maxRecDepth 100000 in
set_option maxHeartbeats 8000000 in
theorem check_any (w : World) (o : Ob.O) (Al : Option Addr) (kl : Nat) (Ad : Option Addr) (kd : Nat) (ho : ObA w Free o Al kl Ad kd) :
    Calls Try.prog 45 #[obV o Al kl Ad kd] w (FaultPost w (Ob.obF o)) := by
  obtain ⟨hk, hall, hlk, hdk, hll, hdl, hls, hds⟩ := ho
  have hls1 := hls.keep (Keeps.alloc w Free (.cells #[.int .i64 o.kind, .slice Al o.links.length kl, .slice Ad o.data.length kd] 44))
  have hls2 := hls1.keep (Keeps.alloc _ Free (.cells #[.int .i64 0, .int .i64 0] 28))
  have HF := Lib.hid (Ob.obF.eq_1 o)
  unfold I64 at hk
  clear hls hls1 hds
  by_cases h1 : o.kind < 1 ∨ 3 < o.kind
  · have H := Lib.hid (show Ob.obF o = (4, 0) from by rw [HF.out, if_pos h1])
    skip
    clear HF hls2
    generalize Ob.obF o = r at *
    obtain ⟨kk, ls, da⟩ := o
    simp only at *
    by_cases h1a : kk < 1
    · have h1b : decide (kk < 1) = true := by simpa using h1a
      go_enter Try.func45, Try.ntmps45
      go_wp2_with fail
      refine bodyPost_ret (results_c rfl _ _ (w.heap.size + 1) (.int .i64 4) (.int .i64 0) rfl (blk_new1 _ _ _ _)) rfl (FaultPost.mk_ H.out ?_)
      exact below_alloc2 _ _ _
    · have h1b : decide (kk < 1) = false := by simpa using h1a
      have h1c : decide (3 < kk) = true := by simp; omega
      go_enter Try.func45, Try.ntmps45
      go_wp2_with fail
      refine bodyPost_ret (results_c rfl _ _ (w.heap.size + 1) (.int .i64 4) (.int .i64 0) rfl (blk_new1 _ _ _ _)) rfl (FaultPost.mk_ H.out ?_)
      exact below_alloc2 _ _ _
  · have h1b : decide (o.kind < 1) = false := by simp; omega
    have h1c : decide (3 < o.kind) = false := by simp; omega
    skip
    by_cases h2 : 30 < o.links.length
    · have H := Lib.hid (show Ob.obF o = (2, 0) from by rw [HF.out, if_neg h1, if_pos h2])
      have h2' : (30 : Int) < o.links.length := by omega
      clear HF hls2
      generalize Ob.obF o = r at *
      obtain ⟨kk, ls, da⟩ := o
      simp only at *
      go_enter Try.func45, Try.ntmps45
      go_wp2_with fail
      refine bodyPost_ret (results_c rfl _ _ (w.heap.size + 1) (.int .i64 2) (.int .i64 0) rfl (blk_new1 _ _ _ _)) rfl (FaultPost.mk_ H.out ?_)
      exact below_alloc2 _ _ _
    · have h2' : (o.links.length : Int) ≤ 30 := by omega
      by_cases h3 : 1000 < o.data.length
      · have H := Lib.hid (show Ob.obF o = (10, 0) from by rw [HF.out, if_neg h1, if_neg h2, if_pos h3])
        have h3' : (1000 : Int) < o.data.length := by omega
        clear HF hls2
        generalize Ob.obF o = r at *
        obtain ⟨kk, ls, da⟩ := o
        simp only at *
        go_enter Try.func45, Try.ntmps45
        go_wp2_with fail
        refine bodyPost_ret (results_c rfl _ _ (w.heap.size + 1) (.int .i64 10) (.int .i64 0) rfl (blk_new1 _ _ _ _)) rfl (FaultPost.mk_ H.out ?_)
        exact below_alloc2 _ _ _
      · have h3' : (o.data.length : Int) ≤ 1000 := by omega
        by_cases h4 : o.kind = 1 ∧ 0 < o.links.length
        · have H := Lib.hid (show Ob.obF o = (5, 0) from by rw [HF.out, if_neg h1, if_neg h2, if_neg h3, if_pos h4])
          obtain ⟨h4a, h4b⟩ := h4
          have h4c : (0 : Int) < o.links.length := by omega
          have h4d : ((o.links.length : Int) != 0) = true := bne_iff_ne.2 (by omega)
          clear HF hls2 h1 h1b h1c
          generalize Ob.obF o = r at *
          obtain ⟨kk, ls, da⟩ := o
          simp only at *
          subst h4a
          go_enter Try.func45, Try.ntmps45
          go_wp2_with fail
          refine bodyPost_ret (results_c rfl _ _ (w.heap.size + 1) (.int .i64 5) (.int .i64 0) rfl (blk_new1 _ _ _ _)) rfl (FaultPost.mk_ H.out ?_)
          exact below_alloc2 _ _ _
        · have H0 := Lib.hid (show Ob.obF o = Ob.lnFrom o.links 0 from by rw [HF.out, if_neg h1, if_neg h2, if_neg h3, if_neg h4])
          have HK : (o.kind == 1) = false ∨ (o.kind = 1 ∧ o.links = []) := by
            by_cases hk1 : o.kind = 1
            · exact .inr ⟨hk1, List.eq_nil_of_length_eq_zero (Nat.eq_zero_of_not_pos fun h => h4 ⟨hk1, h⟩)⟩
            · exact .inl (by simpa using hk1)
          clear HF h4 h1
          generalize Ob.obF o = r at *
          obtain ⟨kk, ls, da⟩ := o
          simp only at *
          rcases HK with hk1 | ⟨hk1, hnil⟩
          · go_enter Try.func45, Try.ntmps45
            go_wp2_with fail
            go_loop [41] (fun v => ∃ j : Nat, j ≤ ls.length ∧ v = .int .i64 j ∧ Hid (Ob.lnFrom ls 0 = Ob.lnFrom ls j)) (fun v => ls.length - (intOf v).toNat)
            case atStart => exact ⟨0, Nat.zero_le _, rfl, Lib.hid rfl⟩
            case round =>
              obtain ⟨j, hj, rfl, HJ⟩ := hrel
              by_cases hlt : j < ls.length
              · have hlt' : (j : Int) < ls.length := by omega
                obtain ⟨b, off, e, hb, hc⟩ := hls2.sv.int j hlt
                subst e
                have hjb := hall j hlt
                unfold I64 at hjb
                by_cases hr : ls[j] < 0 ∨ 2305843009213693951 ≤ ls[j]
                · have H := Lib.hid (show r = (3, (j : Int)) from by rw [H0.out, HJ.out, Ob.lnFrom_bad ls j hlt hr])
                  skip
                  generalize ls[j] = x at *
                  by_cases hr0 : x < 0
                  · have hr1 : decide (x < 0) = true := by simpa using hr0
                    clear hr
                    go_wp2_with fail
                    refine bodyPost_ret (results_c rfl _ _ (w.heap.size + 1) (.int .i64 3) (.int .i64 j) rfl (blk_new1 _ _ _ _)) rfl (FaultPost.mk_ H.out ?_)
                    exact below_alloc2 _ _ _
                  · have hr1 : decide (x < 0) = false := by simpa using hr0
                    have hr2 : decide (2305843009213693951 ≤ x) = true := by simp; omega
                    clear hr
                    go_wp2_with fail
                    refine bodyPost_ret (results_c rfl _ _ (w.heap.size + 1) (.int .i64 3) (.int .i64 j) rfl (blk_new1 _ _ _ _)) rfl (FaultPost.mk_ H.out ?_)
                    exact below_alloc2 _ _ _
                · have HJ2 := Lib.hid (HJ.out.trans (Ob.lnFrom_next ls j hlt hr))
                  have hr1 : decide (ls[j] < 0) = false := by simp; omega
                  have hr2 : decide (2305843009213693951 ≤ ls[j]) = false := by simp; omega
                  skip
                  generalize ls[j] = x at *
                  go_wp2_with fail
                  go_round
                  case rel => exact ⟨j + 1, by omega, by go_num, HJ2⟩
                  case measure => simp [intOf]; omega
              · obtain rfl : j = ls.length := by omega
                have H := Lib.hid (show r = (0, 0) from by rw [H0.out, HJ.out, Ob.lnFrom_end ls _ (Nat.le_refl _)])
                go_wp2_with fail
                refine bodyPost_ret (results_c rfl _ _ (w.heap.size + 1) (.int .i64 0) (.int .i64 0) rfl (blk_new1 _ _ _ _)) rfl (FaultPost.mk_ H.out ?_)
                exact below_alloc2 _ _ _
          · subst hk1 hnil
            have H := Lib.hid (show r = (0, 0) from by rw [H0.out, Ob.lnFrom_end [] 0 (Nat.le_refl _)])
            go_enter Try.func45, Try.ntmps45
            go_wp2_with fail
            refine wp_loop_rounds 1 ?_
            rw [rounds_succ]
            go_wp2_with fail
            refine bodyPost_ret (results_c rfl _ _ (w.heap.size + 1) (.int .i64 0) (.int .i64 0) rfl (blk_new1 _ _ _ _)) rfl (FaultPost.mk_ H.out ?_)
            exact below_alloc2 _ _ _
set_option maxRecDepth 100000 in
set_option maxHeartbeats 8000000 in
theorem obFault_any (w : World) (o : Ob.O) (Al : Option Addr) (kl : Nat) (Ad : Option Addr) (kd : Nat) (ho : ObA w Free o Al kl Ad kd) :
    Calls Try.prog 30 #[obV o Al kl Ad kd] w (FaultPost w (Ob.obF o)) := by
  obtain ⟨hk, hall, hlk, hdk, hll, hdl, hls, hds⟩ := ho
  have hls1 := hls.keep (Keeps.alloc w Free (.cells #[.int .i64 o.kind, .slice Al o.links.length kl, .slice Ad o.data.length kd] 44))
  have hls2 := hls1.keep (Keeps.alloc _ Free (.cells #[.int .i64 0, .int .i64 0] 28))
  have HF := Lib.hid (Ob.obF.eq_1 o)
  unfold I64 at hk
  clear hls hls1 hds
  by_cases h1 : o.kind < 1 ∨ 3 < o.kind
  · have H := Lib.hid (show Ob.obF o = (4, 0) from by rw [HF.out, if_pos h1])
    have HN := Lib.hid (show (decide (1 ≤ o.kind) && decide (o.kind ≤ 3)) = false from by rw [Bool.and_eq_false_iff]; simp only [decide_eq_false_iff_not]; omega)
    clear HF hls2
    generalize Ob.obF o = r at *
    obtain ⟨kk, ls, da⟩ := o
    simp only at *
    by_cases h1a : kk < 1
    · have h1b : decide (kk < 1) = true := by simpa using h1a
      go_enter Try.func30, Try.ntmps30
      go_wp2_with (first | (go_at_call 19; refine (in_any _ _ _ _).mono ?_; rintro e w' ⟨rfl, rfl⟩; rw [HN.out]) | (go_at_call 18; refine (fault_any _ _ _).mono ?_; rintro e w' ⟨rfl, rfl⟩))
      refine bodyPost_ret (results_c rfl _ _ (w.heap.size + 1) (.int .i64 4) (.int .i64 0) rfl ((blk_new1 _ _ _ _).alloc _)) rfl (FaultPost.mk_ H.out ?_)
      exact below_alloc3 _ _ _ _
    · have h1b : decide (kk < 1) = false := by simpa using h1a
      have h1c : decide (3 < kk) = true := by simp; omega
      go_enter Try.func30, Try.ntmps30
      go_wp2_with (first | (go_at_call 19; refine (in_any _ _ _ _).mono ?_; rintro e w' ⟨rfl, rfl⟩; rw [HN.out]) | (go_at_call 18; refine (fault_any _ _ _).mono ?_; rintro e w' ⟨rfl, rfl⟩))
      refine bodyPost_ret (results_c rfl _ _ (w.heap.size + 1) (.int .i64 4) (.int .i64 0) rfl ((blk_new1 _ _ _ _).alloc _)) rfl (FaultPost.mk_ H.out ?_)
      exact below_alloc3 _ _ _ _
  · have h1b : decide (o.kind < 1) = false := by simp; omega
    have h1c : decide (3 < o.kind) = false := by simp; omega
    have HN := Lib.hid (show (decide (1 ≤ o.kind) && decide (o.kind ≤ 3)) = true from by rw [decide_eq_true (by omega), decide_eq_true (by omega)]; rfl)
    by_cases h2 : 30 < o.links.length
    · have H := Lib.hid (show Ob.obF o = (2, 0) from by rw [HF.out, if_neg h1, if_pos h2])
      have h2' : (30 : Int) < o.links.length := by omega
      clear HF hls2
      generalize Ob.obF o = r at *
      obtain ⟨kk, ls, da⟩ := o
      simp only at *
      go_enter Try.func30, Try.ntmps30
      go_wp2_with (first | (go_at_call 19; refine (in_any _ _ _ _).mono ?_; rintro e w' ⟨rfl, rfl⟩; rw [HN.out]) | (go_at_call 18; refine (fault_any _ _ _).mono ?_; rintro e w' ⟨rfl, rfl⟩))
      refine bodyPost_ret (results_c rfl _ _ (w.heap.size + 1) (.int .i64 2) (.int .i64 0) rfl ((blk_new1 _ _ _ _).alloc _)) rfl (FaultPost.mk_ H.out ?_)
      exact below_alloc3 _ _ _ _
    · have h2' : (o.links.length : Int) ≤ 30 := by omega
      by_cases h3 : 1000 < o.data.length
      · have H := Lib.hid (show Ob.obF o = (10, 0) from by rw [HF.out, if_neg h1, if_neg h2, if_pos h3])
        have h3' : (1000 : Int) < o.data.length := by omega
        clear HF hls2
        generalize Ob.obF o = r at *
        obtain ⟨kk, ls, da⟩ := o
        simp only at *
        go_enter Try.func30, Try.ntmps30
        go_wp2_with (first | (go_at_call 19; refine (in_any _ _ _ _).mono ?_; rintro e w' ⟨rfl, rfl⟩; rw [HN.out]) | (go_at_call 18; refine (fault_any _ _ _).mono ?_; rintro e w' ⟨rfl, rfl⟩))
        refine bodyPost_ret (results_c rfl _ _ (w.heap.size + 1) (.int .i64 10) (.int .i64 0) rfl ((blk_new1 _ _ _ _).alloc _)) rfl (FaultPost.mk_ H.out ?_)
        exact below_alloc3 _ _ _ _
      · have h3' : (o.data.length : Int) ≤ 1000 := by omega
        by_cases h4 : o.kind = 1 ∧ 0 < o.links.length
        · have H := Lib.hid (show Ob.obF o = (5, 0) from by rw [HF.out, if_neg h1, if_neg h2, if_neg h3, if_pos h4])
          obtain ⟨h4a, h4b⟩ := h4
          have h4c : (0 : Int) < o.links.length := by omega
          have h4d : ((o.links.length : Int) != 0) = true := bne_iff_ne.2 (by omega)
          clear HF hls2 h1 h1b h1c
          generalize Ob.obF o = r at *
          obtain ⟨kk, ls, da⟩ := o
          simp only at *
          subst h4a
          go_enter Try.func30, Try.ntmps30
          go_wp2_with (first | (go_at_call 19; refine (in_any _ _ _ _).mono ?_; rintro e w' ⟨rfl, rfl⟩; rw [HN.out]) | (go_at_call 18; refine (fault_any _ _ _).mono ?_; rintro e w' ⟨rfl, rfl⟩))
          refine bodyPost_ret (results_c rfl _ _ (w.heap.size + 1) (.int .i64 5) (.int .i64 0) rfl ((blk_new1 _ _ _ _).alloc _)) rfl (FaultPost.mk_ H.out ?_)
          exact below_alloc3 _ _ _ _
        · have H0 := Lib.hid (show Ob.obF o = Ob.lnFrom o.links 0 from by rw [HF.out, if_neg h1, if_neg h2, if_neg h3, if_neg h4])
          have HK : (o.kind == 1) = false ∨ (o.kind = 1 ∧ o.links = []) := by
            by_cases hk1 : o.kind = 1
            · exact .inr ⟨hk1, List.eq_nil_of_length_eq_zero (Nat.eq_zero_of_not_pos fun h => h4 ⟨hk1, h⟩)⟩
            · exact .inl (by simpa using hk1)
          clear HF h4 h1
          generalize Ob.obF o = r at *
          obtain ⟨kk, ls, da⟩ := o
          simp only at *
          rcases HK with hk1 | ⟨hk1, hnil⟩
          · go_enter Try.func30, Try.ntmps30
            go_wp2_with (first | (go_at_call 19; refine (in_any _ _ _ _).mono ?_; rintro e w' ⟨rfl, rfl⟩; rw [HN.out]))
            go_loop [3] (fun v => ∃ j : Nat, j ≤ ls.length ∧ v = .int .i64 j ∧ Hid (Ob.lnFrom ls 0 = Ob.lnFrom ls j)) (fun v => ls.length - (intOf v).toNat)
            case atStart => exact ⟨0, Nat.zero_le _, rfl, Lib.hid rfl⟩
            case round =>
              obtain ⟨j, hj, rfl, HJ⟩ := hrel
              by_cases hlt : j < ls.length
              · have hlt' : (j : Int) < ls.length := by omega
                obtain ⟨b, off, e, hb, hc⟩ := hls2.sv.int j hlt
                subst e
                have hjb := hall j hlt
                unfold I64 at hjb
                by_cases hr : ls[j] < 0 ∨ 2305843009213693951 ≤ ls[j]
                · have H := Lib.hid (show r = (3, (j : Int)) from by rw [H0.out, HJ.out, Ob.lnFrom_bad ls j hlt hr])
                  have HN := Lib.hid (show (decide (0 ≤ ls[j]) && decide (ls[j] ≤ 2305843009213693950)) = false from by rw [Bool.and_eq_false_iff]; simp only [decide_eq_false_iff_not]; omega)
                  generalize ls[j] = x at *
                  by_cases hr0 : x < 0
                  · have hr1 : decide (x < 0) = true := by simpa using hr0
                    clear hr
                    go_wp2_with (first | (go_at_call 19; refine (in_any _ _ _ _).mono ?_; rintro e w' ⟨rfl, rfl⟩; rw [HN.out]) | (go_at_call 18; refine (fault_any _ _ _).mono ?_; rintro e w' ⟨rfl, rfl⟩))
                    refine bodyPost_ret (results_c rfl _ _ (w.heap.size + 1) (.int .i64 3) (.int .i64 j) rfl ((blk_new1 _ _ _ _).alloc _)) rfl (FaultPost.mk_ H.out ?_)
                    exact below_alloc3 _ _ _ _
                  · have hr1 : decide (x < 0) = false := by simpa using hr0
                    have hr2 : decide (2305843009213693951 ≤ x) = true := by simp; omega
                    clear hr
                    go_wp2_with (first | (go_at_call 19; refine (in_any _ _ _ _).mono ?_; rintro e w' ⟨rfl, rfl⟩; rw [HN.out]) | (go_at_call 18; refine (fault_any _ _ _).mono ?_; rintro e w' ⟨rfl, rfl⟩))
                    refine bodyPost_ret (results_c rfl _ _ (w.heap.size + 1) (.int .i64 3) (.int .i64 j) rfl ((blk_new1 _ _ _ _).alloc _)) rfl (FaultPost.mk_ H.out ?_)
                    exact below_alloc3 _ _ _ _
                · have HJ2 := Lib.hid (HJ.out.trans (Ob.lnFrom_next ls j hlt hr))
                  have hr1 : decide (ls[j] < 0) = false := by simp; omega
                  have hr2 : decide (2305843009213693951 ≤ ls[j]) = false := by simp; omega
                  have HN := Lib.hid (show (decide (0 ≤ ls[j]) && decide (ls[j] ≤ 2305843009213693950)) = true from by rw [decide_eq_true (by omega), decide_eq_true (by omega)]; rfl)
                  generalize ls[j] = x at *
                  go_wp2_with (first | (go_at_call 19; refine (in_any _ _ _ _).mono ?_; rintro e w' ⟨rfl, rfl⟩; rw [HN.out]))
                  go_round
                  case rel => exact ⟨j + 1, by omega, by go_num, HJ2⟩
                  case measure => simp [intOf]; omega
              · obtain rfl : j = ls.length := by omega
                have H := Lib.hid (show r = (0, 0) from by rw [H0.out, HJ.out, Ob.lnFrom_end ls _ (Nat.le_refl _)])
                go_wp2_with fail
                refine bodyPost_ret (results_c rfl _ _ (w.heap.size + 1) (.int .i64 0) (.int .i64 0) rfl (blk_new1 _ _ _ _)) rfl (FaultPost.mk_ H.out ?_)
                exact below_alloc2 _ _ _
          · subst hk1 hnil
            have H := Lib.hid (show r = (0, 0) from by rw [H0.out, Ob.lnFrom_end [] 0 (Nat.le_refl _)])
            go_enter Try.func30, Try.ntmps30
            go_wp2_with (first | (go_at_call 19; refine (in_any _ _ _ _).mono ?_; rintro e w' ⟨rfl, rfl⟩; rw [HN.out]))
            refine wp_loop_rounds 1 ?_
            rw [rounds_succ]
            go_wp2_with fail
            refine bodyPost_ret (results_c rfl _ _ (w.heap.size + 1) (.int .i64 0) (.int .i64 0) rfl (blk_new1 _ _ _ _)) rfl (FaultPost.mk_ H.out ?_)
            exact below_alloc2 _ _ _
end Go.Proofs.Ytiilhnfdlpgllaa
