/-
  Delta chains: walk of the reference's 'ChainFault'.
-/
import Derived.Test.YtiphcpibhffdjaaWalk11
namespace Go.Proofs.Ytiphcpibhffdjaa
open Go.RowKit Go.V
set_option linter.unusedVariables false

def FaultPost (w : World) (r : Int × Int) (e : Ending) (w' : World) : Prop := e = .returned (.agg #[.int .i64 r.1, .int .i64 r.2]) ∧ Below w.heap.size w w'
theorem FaultPost.mk_ {w w' : World} {r : Int × Int} {a b : Int} (h : r = (a, b)) (hb : Below w.heap.size w w') : FaultPost w r (.returned (.agg #[.int .i64 a, .int .i64 b])) w' := by
  subst h; exact ⟨rfl, hb⟩
theorem gen_world {C : World → Prop} {w : World} (F : World → Prop) (hF : F w) (h : ∀ wz, F wz → C wz) : C w := h w hF
set_option maxRecDepth 100000 in
set_option maxHeartbeats 8000000 in
theorem chainFault_any (w : World) (A : Option Addr) (k : Nat) (c : List Dc.En) (hv : ChV w Free A c) (hl64 : c.length ≤ 9223372036854775807) :
    Calls Try.prog 21 #[.slice A c.length k] w (FaultPost w (Dc.chFault c)) := by
  by_cases hl : 20 < c.length
  · have H := Lib.hid (show Dc.chFault c = (2, -1) from by unfold Dc.chFault; rw [if_pos hl])
    have hl' : (20 : Int) < c.length := by omega
    clear hv
    go_enter Try.func21, Try.ntmps21
    go_wp2_with (go_at_call 12; refine (fault_any _ _ _).mono ?_; rintro e w' ⟨rfl, rfl⟩)
    refine bodyPost_ret (results_c rfl _ _ w.heap.size (.int .i64 2) (.int .i64 (-1)) rfl ((Blk.new _ _ _).alloc _)) rfl (FaultPost.mk_ H.out ?_)
    exact (below_alloc1 w _).alloc (by simp) _
  · have hl' : (c.length : Int) ≤ 20 := by omega
    have hl2 : c.length ≤ 20 := by omega
    have H := Lib.hid (show Dc.chFault c = Dc.chFrom c 0 from by unfold Dc.chFault; rw [if_neg hl])
    have HROW := Lib.hid (fun (w' : World) (hb : Below w.heap.size w w') i hi => (hv.keep (free_below hb)).row (w := w') i hi)
    have HV := Lib.hid (fun (w' : World) (hb : Below w.heap.size w w') => hv.keep (free_below hb))
    clear hv hl
    go_enter Try.func21, Try.ntmps21
    go_wp2_with fail
    go_loopw [3] (fun v wr => ∃ i : Nat, i ≤ c.length ∧ v = .int .i64 i ∧ Blk wr w.heap.size 26 #[.int .i64 0, .int .i64 0] ∧ Below w.heap.size w wr ∧ Hid (Dc.chFrom c 0 = Dc.chFrom c i) ∧ Hid (∀ j, j < i → Dc.code c j = 0)) (fun v _ => c.length - (intOf v).toNat)
    case atStart => exact ⟨0, Nat.zero_le _, rfl, Blk.new _ _ _, below_alloc1 _ _, Lib.hid rfl, Lib.hid (fun j h => absurd h (Nat.not_lt_zero _))⟩
    case round =>
      obtain ⟨i, hi, rfl, hblk, hbel, HJ, HZ⟩ := hrel
      obtain ⟨wo, rfl⟩ : ∃ wo : World, wo = wr := ⟨_, rfl⟩
      have hsz := hbel.size
      have hlt0 := hblk.lt
      have hc0 := hblk.cell 0
      have hc1 := hblk.cell 1
      have hf0 := hblk.frozen 0
      have hf1 := hblk.frozen 1
      simp only [List.getElem?_toArray, List.getElem?_cons_zero, List.getElem?_cons_succ] at hc0 hc1
      by_cases hlt : i < c.length
      · have hlt' : (i : Int) < c.length := by omega
        obtain ⟨b, off, Ad, kd, Ao, ko, us, e, hb, _, d0, d1, d2, j0, j1, j2, j3, j4, hsd, hso, hrows⟩ := HROW.out _ hbel i hlt
        subst e
        rw [Dc.en_eq c i hlt] at d0 d1 d2 j0 j1 j2 j3 j4 hsd hrows
        have HC1 := Lib.hid (Dc.chFrom_next c i hlt)
        have HC2 := Lib.hid (Dc.chFrom_bad c i hlt)
        have HCO := Lib.hid (show Dc.code c i = _ from Dc.code.eq_1 c i)
        have HSH := Lib.hid (Dc.shape.eq_1 (Dc.en c i) i)
        have HBAD := Lib.hid (fun (h : Dc.shape (Dc.en c i) i ≠ 0) => show Dc.chFault c = (Dc.shape (Dc.en c i) i, (i : Int)) from by
          have hcc : Dc.code c i = Dc.shape (Dc.en c i) i := by rw [HCO.out, if_pos h]
          rw [H.out, HJ.out, HC2.out (by rw [hcc]; exact h), hcc])
        unfold I64 at j0
        clear hsd
        by_cases h3 : (Dc.en c i).base < -1 ∨ (i : Int) ≤ (Dc.en c i).base
        · have HS := Lib.hid (show Dc.shape (Dc.en c i) i = 3 from by rw [HSH.out, if_pos h3])
          have HB := Lib.hid (show Dc.chFault c = (3, (i : Int)) from by rw [HBAD.out (by rw [HS.out]; decide), HS.out])
          have HN := Lib.hid (show (decide (-1 ≤ (Dc.en c i).base) && decide ((Dc.en c i).base ≤ (i : Int) - 1)) = false from by
            rw [Bool.and_eq_false_iff]; simp only [decide_eq_false_iff_not]; omega)
          clear hrows hso HSH HCO HBAD h3 HS HC1 HC2 j0 j1 j2 j3 j4
          generalize Dc.en c i = x at *
          obtain ⟨bb, dat, del⟩ := x
          simp only at *
          go_wp2_with (first | (go_at_call 18; refine (in_any _ _ _ _).mono ?_; rintro e w' ⟨rfl, rfl⟩; rw [HN.out]) | (go_at_call 12; refine (fault_any _ _ _).mono ?_; rintro e w' ⟨rfl, rfl⟩))
          refine bodyPost_ret (results_c rfl _ _ w.heap.size (.int .i64 3) (.int .i64 i) rfl (((blk_put2 hblk _ _).alloc _).alloc _)) rfl (FaultPost.mk_ HB.out ?_)
          exact (((hbel.setCell (by simp) _).setCell (by simp) _).alloc (by simp; omega) _).alloc (by simp; omega) _
        · have HN := Lib.hid (show (decide (-1 ≤ (Dc.en c i).base) && decide ((Dc.en c i).base ≤ (i : Int) - 1)) = true from by
            rw [Bool.and_eq_true]; simp only [decide_eq_true_eq]; omega)
          by_cases h5 : ((Dc.en c i).base = -1 ∧ 0 < (Dc.en c i).delta.length) ∨ ((Dc.en c i).base ≠ -1 ∧ 0 < (Dc.en c i).data.length)
          · have HS := Lib.hid (show Dc.shape (Dc.en c i) i = 5 from by rw [HSH.out, if_neg h3, if_pos h5])
            have HB := Lib.hid (show Dc.chFault c = (5, (i : Int)) from by rw [HBAD.out (by rw [HS.out]; decide), HS.out])
            clear hrows hso HSH HCO HBAD HS HC1 HC2 j1 j2 j3 j4
            generalize Dc.en c i = x at *
            obtain ⟨bb, dat, del⟩ := x
            simp only at *
            rcases h5 with ⟨hm, hd⟩ | ⟨hm, hd⟩
            · subst hm
              have hd' : decide ((0 : Int) < del.length) = true := by simp; omega
              clear h3
              go_wp2_with (first | (go_at_call 18; refine (in_any _ _ _ _).mono ?_; rintro e w' ⟨rfl, rfl⟩; rw [HN.out]) | (go_at_call 12; refine (fault_any _ _ _).mono ?_; rintro e w' ⟨rfl, rfl⟩))
              refine bodyPost_ret (results_c rfl _ _ w.heap.size (.int .i64 5) (.int .i64 i) rfl (((blk_put2 hblk _ _).alloc _).alloc _)) rfl (FaultPost.mk_ HB.out ?_)
              exact (((hbel.setCell (by simp) _).setCell (by simp) _).alloc (by simp; omega) _).alloc (by simp; omega) _
            · have hbp : 0 ≤ bb := by omega
              have hbp' : decide (bb < 0) = false := by simp; omega
              have hbp2 : decide (0 ≤ bb) = true := by simp; omega
              have hd' : decide ((0 : Int) < dat.length) = true := by simp; omega
              clear h3
              go_wp2_with (first | (go_at_call 18; refine (in_any _ _ _ _).mono ?_; rintro e w' ⟨rfl, rfl⟩; rw [HN.out]) | (go_at_call 12; refine (fault_any _ _ _).mono ?_; rintro e w' ⟨rfl, rfl⟩))
              refine bodyPost_ret (results_c rfl _ _ w.heap.size (.int .i64 5) (.int .i64 i) rfl (((blk_put2 hblk _ _).alloc _).alloc _)) rfl (FaultPost.mk_ HB.out ?_)
              exact (((hbel.setCell (by simp) _).setCell (by simp) _).alloc (by simp; omega) _).alloc (by simp; omega) _
          · by_cases hneg : (Dc.en c i).base = -1
            · have hdel : (Dc.en c i).delta = [] := List.eq_nil_of_length_eq_zero (by have := fun h' => h5 (.inl ⟨hneg, h'⟩); omega)
              by_cases h10 : 1000 < (Dc.en c i).data.length
              · have HS := Lib.hid (show Dc.shape (Dc.en c i) i = 10 from by rw [HSH.out, if_neg h3, if_neg h5, if_pos h10])
                have HB := Lib.hid (show Dc.chFault c = (10, (i : Int)) from by rw [HBAD.out (by rw [HS.out]; decide), HS.out])
                clear hrows hso HSH HCO HBAD HS HC1 HC2 j0 j1 j2 j3 j4 h3 h5
                generalize Dc.en c i = x at *
                obtain ⟨bb, dat, del⟩ := x
                simp only at *
                subst hneg hdel
                have h10' : (1000 : Int) < dat.length := by omega
                go_wp2_with (first | (go_at_call 18; refine (in_any _ _ _ _).mono ?_; rintro e w' ⟨rfl, rfl⟩; rw [HN.out]) | (go_at_call 12; refine (fault_any _ _ _).mono ?_; rintro e w' ⟨rfl, rfl⟩))
                refine bodyPost_ret (results_c rfl _ _ w.heap.size (.int .i64 10) (.int .i64 i) rfl (((blk_put2 hblk _ _).alloc _).alloc _)) rfl (FaultPost.mk_ HB.out ?_)
                exact (((hbel.setCell (by simp) _).setCell (by simp) _).alloc (by simp; omega) _).alloc (by simp; omega) _
              · have hz : Dc.code c i = 0 := by
                  rw [HCO.out, if_neg (by rw [HSH.out, if_neg h3, if_neg h5, if_neg h10]; simp), if_neg (by omega)]
                have HB := Lib.hid (HJ.out.trans (HC1.out hz))
                have HZ2 := Lib.hid (show ∀ j, j < i + 1 → Dc.code c j = 0 from fun j hj => by
                  rcases Nat.lt_or_ge j i with h | h
                  · exact HZ.out j h
                  · obtain rfl : j = i := by omega
                    exact hz)
                clear hrows hso HSH HCO HBAD HC1 HC2 j0 j1 j2 j3 j4 h3 h5 hz
                generalize Dc.en c i = x at *
                obtain ⟨bb, dat, del⟩ := x
                simp only at *
                subst hneg hdel
                have h10' : (dat.length : Int) ≤ 1000 := by omega
                go_wp2_with (first | (go_at_call 18; refine (in_any _ _ _ _).mono ?_; rintro e w' ⟨rfl, rfl⟩; rw [HN.out]) | (go_at_call 12; refine (fault_any _ _ _).mono ?_; rintro e w' ⟨rfl, rfl⟩))
                go_roundw
                case rel => exact ⟨i + 1, by omega, by go_num, hblk.alloc _, hbel.alloc hsz _, HB, HZ2⟩
                case measure => simp [intOf]; omega
            · have hdat : (Dc.en c i).data = [] := List.eq_nil_of_length_eq_zero (by have := fun h' => h5 (.inr ⟨hneg, h'⟩); omega)
              obtain ⟨q, hq⟩ := Int.eq_ofNat_of_zero_le (show 0 ≤ (Dc.en c i).base by omega)
              have hqi : q < i := by omega
              have hS0 : Dc.shape (Dc.en c i) i = 0 := by rw [HSH.out, if_neg h3, if_neg h5, if_neg (by rw [hdat]; simp)]
              have hcode : Dc.code c i = (Dc.apply (Dc.ver c q) (Dc.en c i).delta).2.1 := by rw [HCO.out, if_neg (by rw [hS0]; simp), if_pos (by omega), hq]; rfl
              have hvl := Dc.ver_len (HZ.out q hqi)
              have HC23 := Lib.hid (fun (w1 : World) (hb1 : Below w.heap.size w w1) => chainVersion_any (some ⟨b, off, none⟩) k c hl2 (q + 1) q w1 (Nat.lt_succ_self _) (HV.out _ hb1) (by omega) (fun j hj => HZ.out j (by omega)))
              have HC16 := Lib.hid (fun (w1 : World) (A6 : Option Addr) (c6 : Nat) (hb1 : Below wo.heap.size wo w1) (hs6 : SA w1 Free A6 (bytesV (Dc.ver c q))) (hc6 : (Dc.ver c q).length ≤ c6) =>
                applyDelta_any w1 A6 Ao c6 ko (Dc.ver c q) (Dc.en c i).delta us hs6.sv hc6 ((hrows.mono (OpA.keep (free_below hb1))).mono OpA.toR) (hso.keep (free_below hb1)).sv (by omega) (by omega))
              have HBAD2 := Lib.hid (fun (h : Dc.code c i ≠ 0) => show Dc.chFault c = (Dc.code c i, (i : Int)) from by rw [H.out, HJ.out, HC2.out h])
              have HOKN := Lib.hid (fun (h : Dc.code c i = 0) => HJ.out.trans (HC1.out h))
              have HZ2 := Lib.hid (fun (hz : Dc.code c i = 0) => show ∀ j, j < i + 1 → Dc.code c j = 0 from fun j hj => by
                  rcases Nat.lt_or_ge j i with h | h
                  · exact HZ.out j h
                  · obtain rfl : j = i := by omega
                    exact hz)
              rw [hq] at d0 HN
              rw [hdat] at d1
              rw [hcode] at HBAD2 HOKN HZ2
              clear HCO HSH HC1 HC2 h3 h5 hneg hS0 HBAD HROW HV HZ HJ H hso hrows hcode hdat hq j0 j1 j2 j3 j4
              generalize (Dc.en c i).delta = del at *
              generalize Dc.ver c q = vq at *
              generalize Dc.apply vq del = r at *
              obtain ⟨out, cd, ix⟩ := r
              simp only at HBAD2 HOKN HZ2
              have hw0 : Below wo.heap.size wo (wo.alloc (.cells #[.int .i64 q, .slice Ad 0 kd, .slice Ao del.length ko] 45)) := below_alloc1 wo _
              have HS : Hid (∀ (w6 : World), Below (wo.alloc (.cells #[.int .i64 q, .slice Ad 0 kd, .slice Ao del.length ko] 45)).heap.size (wo.alloc (.cells #[.int .i64 q, .slice Ad 0 kd, .slice Ao del.length ko] 45)) w6 → w6.cell? ⟨wo.heap.size, 0, none⟩ = some (.int .i64 (q : Int)) ∧ w6.cell? ⟨wo.heap.size, 2, none⟩ = some (.slice Ao del.length ko)) := Lib.hid fun w6 hb6 => by
                have hB := (Blk.new wo 45 #[.int .i64 q, .slice Ad 0 kd, .slice Ao del.length ko]).below hb6 (by simp)
                exact ⟨hB.cell 0, hB.cell 2⟩
              have hk0 : Below (wo.alloc (.cells #[.int .i64 q, .slice Ad 0 kd, .slice Ao del.length ko] 45)).heap.size (wo.alloc (.cells #[.int .i64 q, .slice Ad 0 kd, .slice Ao del.length ko] 45)) ((wo.alloc (.cells #[.int .i64 q, .slice Ad 0 kd, .slice Ao del.length ko] 45))).drew := below_drew' (Below.refl _ _)
              have hk3 : Below (wo.alloc (.cells #[.int .i64 q, .slice Ad 0 kd, .slice Ao del.length ko] 45)).heap.size (wo.alloc (.cells #[.int .i64 q, .slice Ad 0 kd, .slice Ao del.length ko] 45)) (((wo.alloc (.cells #[.int .i64 q, .slice Ad 0 kd, .slice Ao del.length ko] 45))).alloc (.cells #[.int .i64 0, .int .i64 0] 26)).drew := below_drew' ((Below.refl _ _).alloc (by simp) _)
              have HX := Lib.hid (fun w6 (h : Below (wo.alloc (.cells #[.int .i64 q, .slice Ad 0 kd, .slice Ao del.length ko] 45)).heap.size (wo.alloc (.cells #[.int .i64 q, .slice Ad 0 kd, .slice Ao del.length ko] 45)) w6) => hw0.trans (h.mono (by simp)))
              go_wp2_with (go_at_call 18; refine (in_any _ _ _ _).mono ?_; rintro e w' ⟨rfl, rfl⟩; rw [HN.out])
              go_region_held3 (fun w' => w'.cell? ⟨wo.heap.size, 0, none⟩ = some (.int .i64 (q : Int)) ∧ w'.cell? ⟨wo.heap.size, 2, none⟩ = some (.slice Ao del.length ko))
                (first | exact HS.out _ hk0 | exact HS.out _ hk3 | exact HS.out _ hk4 | exact HS.out _ hk5 | exact HS.out _ hk6 | exact HS.out _ (hk6.alloc hk6.size _) | exact HS.out _ ((hk6.setCell (by first | omega | (simp; done) | (simp; omega)) _).setCell (by first | omega | (simp; done) | (simp; omega)) _))
                (first | (go_at_call 23; first | ((with_reducible refine (HC23.out _ (hbel.trans ((HX.out _ hk0).mono hsz))).mono ?_); rintro e w6 ⟨A6, c6, rfl, hc6, hs6, hb6⟩; have hk4 : Below (wo.alloc (.cells #[.int .i64 q, .slice Ad 0 kd, .slice Ao del.length ko] 45)).heap.size (wo.alloc (.cells #[.int .i64 q, .slice Ad 0 kd, .slice Ao del.length ko] 45)) w6 := hk0.trans (hb6.mono hk0.size); have hk5 := hk4.alloc hk4.size (.cells #[.int .i64 0, .int .i64 0] 26); have hs6' := hs6.keep (Keeps.alloc w6 Free (.cells #[.int .i64 0, .int .i64 0] 26))) | ((with_reducible refine (HC23.out _ (hbel.trans ((HX.out _ hk3).mono hsz))).mono ?_); rintro e w6 ⟨A6, c6, rfl, hc6, hs6, hb6⟩; have hk4 : Below (wo.alloc (.cells #[.int .i64 q, .slice Ad 0 kd, .slice Ao del.length ko] 45)).heap.size (wo.alloc (.cells #[.int .i64 q, .slice Ad 0 kd, .slice Ao del.length ko] 45)) w6 := hk3.trans (hb6.mono hk3.size); have nk : Blk w6 (wo.heap.size + 1) 26 #[.int .i64 0, .int .i64 0] := by have h := (Blk.new ((wo.alloc (.cells #[.int .i64 q, .slice Ad 0 kd, .slice Ao del.length ko] 45))) 26 #[.int .i64 0, .int .i64 0]).drew.below hb6 (by simp); simpa using h)) | (go_at_call 16; first | ((with_reducible refine (HC16.out _ A6 c6 (HX.out _ hk4) hs6 hc6).mono ?_); rintro e w7 ⟨v7, rfl, hown7, hb7⟩; have hk6 : Below (wo.alloc (.cells #[.int .i64 q, .slice Ad 0 kd, .slice Ao del.length ko] 45)).heap.size (wo.alloc (.cells #[.int .i64 q, .slice Ad 0 kd, .slice Ao del.length ko] 45)) w7 := hk4.trans (hb7.mono hk4.size); have hz7 := hk6.size; try (have nk2 := nk.below hb7 nk.lt; have n0 := nk2.cell 0; have n1 := nk2.cell 1; have n2 := nk2.frozen 0; have n3 := nk2.frozen 1; have n4 := nk2.lt; simp only [List.getElem?_toArray, List.getElem?_cons_zero, List.getElem?_cons_succ] at n0 n1)) | ((with_reducible refine (HC16.out _ A6 c6 (HX.out _ hk5) hs6' hc6).mono ?_); rintro e w7 ⟨v7, rfl, hown7, hb7⟩; have hk6 : Below (wo.alloc (.cells #[.int .i64 q, .slice Ad 0 kd, .slice Ao del.length ko] 45)).heap.size (wo.alloc (.cells #[.int .i64 q, .slice Ad 0 kd, .slice Ao del.length ko] 45)) w7 := hk5.trans (hb7.mono hk5.size); have hz7 := hk6.size; have hz4 := hk4.size; have nk2 := (Blk.new w6 26 #[.int .i64 0, .int .i64 0]).below hb7 (by simp); have n0 := nk2.cell 0; have n1 := nk2.cell 1; have n2 := nk2.frozen 0; have n3 := nk2.frozen 1; have n4 := nk2.lt; simp only [List.getElem?_toArray, List.getElem?_cons_zero, List.getElem?_cons_succ] at n0 n1)))
              · have hkw := hbel.trans ((HX.out _ hk6).mono hsz)
                have hr := hblk.below (HX.out _ hk6) hlt0
                refine gen_world (C := fun wz => Exit.then _ _ _ _ wz) (fun wz => Below w.heap.size w wz ∧ Blk wz w.heap.size 26 #[.int .i64 0, .int .i64 0] ∧ Blk wz (w7.heap.size) 26 #[.int .i64 cd, .int .i64 ix]) ?_ ?_
                · exact ⟨hkw.alloc hkw.size _, hr.alloc _, Blk.new _ _ _⟩
                intro wz hz
                have z0 := hz.2.2.cell 0
                have z1 := hz.2.2.cell 1
                have r0 := hz.2.1.cell 0
                have r1 := hz.2.1.cell 1
                have r2 := hz.2.1.frozen 0
                have r3 := hz.2.1.frozen 1
                have r4 := hz.2.1.lt
                simp only [List.getElem?_toArray, List.getElem?_cons_zero, List.getElem?_cons_succ] at z0 z1 r0 r1
                by_cases hcd : cd = 0
                · have hb0 : (cd == 0) = true := by simp [hcd]
                  have hb1 : (cd != 0) = false := by simp [hcd]
                  have HB := Lib.hid (HOKN.out hcd)
                  have HZ3 := Lib.hid (HZ2.out hcd)
                  clear hk6
                  go_wp2_with fail
                  go_roundw
                  case rel => exact ⟨i + 1, by omega, by go_num, hz.2.1, hz.1, HB, HZ3⟩
                  case measure => simp [intOf]; omega
                · have hb0 : (cd == 0) = false := by simpa using hcd
                  have hb1 : (cd != 0) = true := by simpa using hcd
                  have HB := Lib.hid (HBAD2.out hcd)
                  clear hk6
                  go_wp2_with (go_at_call 12; refine (fault_any _ _ _).mono ?_; rintro e w' ⟨rfl, rfl⟩)
                  refine bodyPost_ret (results_c rfl _ _ w.heap.size (.int .i64 cd) (.int .i64 i) rfl ((blk_put2 hz.2.1 _ _).alloc _)) rfl (FaultPost.mk_ HB.out ?_)
                  exact ((hz.1.setCell (by simp) _).setCell (by simp) _).alloc (by simp; omega) _
              · have hkw := hbel.trans ((HX.out _ hk6).mono hsz)
                have hr := hblk.below (HX.out _ hk6) hlt0
                have hq4 := (HX.out _ hk4).size
                refine gen_world (C := fun wz => Exit.then _ _ _ _ wz) (fun wz => Below w.heap.size w wz ∧ Blk wz w.heap.size 26 #[.int .i64 0, .int .i64 0] ∧ Blk wz (w6.heap.size) 26 #[.int .i64 cd, .int .i64 ix]) ?_ ?_
                · exact ⟨(hkw.setCell (by simp; omega) _).setCell (by simp; omega) _, (hr.far (by simp; omega) _).far (by simp; omega) _, blk_put2 nk2 _ _⟩
                intro wz hz
                have z0 := hz.2.2.cell 0
                have z1 := hz.2.2.cell 1
                have r0 := hz.2.1.cell 0
                have r1 := hz.2.1.cell 1
                have r2 := hz.2.1.frozen 0
                have r3 := hz.2.1.frozen 1
                have r4 := hz.2.1.lt
                simp only [List.getElem?_toArray, List.getElem?_cons_zero, List.getElem?_cons_succ] at z0 z1 r0 r1
                by_cases hcd : cd = 0
                · have hb0 : (cd == 0) = true := by simp [hcd]
                  have hb1 : (cd != 0) = false := by simp [hcd]
                  have HB := Lib.hid (HOKN.out hcd)
                  have HZ3 := Lib.hid (HZ2.out hcd)
                  clear hk6
                  go_wp2_with fail
                  go_roundw
                  case rel => exact ⟨i + 1, by omega, by go_num, hz.2.1, hz.1, HB, HZ3⟩
                  case measure => simp [intOf]; omega
                · have hb0 : (cd == 0) = false := by simpa using hcd
                  have hb1 : (cd != 0) = true := by simpa using hcd
                  have HB := Lib.hid (HBAD2.out hcd)
                  clear hk6
                  go_wp2_with (go_at_call 12; refine (fault_any _ _ _).mono ?_; rintro e w' ⟨rfl, rfl⟩)
                  refine bodyPost_ret (results_c rfl _ _ w.heap.size (.int .i64 cd) (.int .i64 i) rfl ((blk_put2 hz.2.1 _ _).alloc _)) rfl (FaultPost.mk_ HB.out ?_)
                  exact ((hz.1.setCell (by simp) _).setCell (by simp) _).alloc (by simp; omega) _
              · have hkw := hbel.trans ((HX.out _ hk6).mono hsz)
                have hr := hblk.below (HX.out _ hk6) hlt0
                refine gen_world (C := fun wz => Exit.then _ _ _ _ wz) (fun wz => Below w.heap.size w wz ∧ Blk wz w.heap.size 26 #[.int .i64 0, .int .i64 0] ∧ Blk wz (wo.heap.size + 1) 26 #[.int .i64 cd, .int .i64 ix]) ?_ ?_
                · exact ⟨(hkw.setCell (by simp; omega) _).setCell (by simp; omega) _, (hr.far (by simp; omega) _).far (by simp; omega) _, blk_put2 nk2 _ _⟩
                intro wz hz
                have z0 := hz.2.2.cell 0
                have z1 := hz.2.2.cell 1
                have r0 := hz.2.1.cell 0
                have r1 := hz.2.1.cell 1
                have r2 := hz.2.1.frozen 0
                have r3 := hz.2.1.frozen 1
                have r4 := hz.2.1.lt
                simp only [List.getElem?_toArray, List.getElem?_cons_zero, List.getElem?_cons_succ] at z0 z1 r0 r1
                by_cases hcd : cd = 0
                · have hb0 : (cd == 0) = true := by simp [hcd]
                  have hb1 : (cd != 0) = false := by simp [hcd]
                  have HB := Lib.hid (HOKN.out hcd)
                  have HZ3 := Lib.hid (HZ2.out hcd)
                  clear hk6
                  go_wp2_with fail
                  go_roundw
                  case rel => exact ⟨i + 1, by omega, by go_num, hz.2.1, hz.1, HB, HZ3⟩
                  case measure => simp [intOf]; omega
                · have hb0 : (cd == 0) = false := by simpa using hcd
                  have hb1 : (cd != 0) = true := by simpa using hcd
                  have HB := Lib.hid (HBAD2.out hcd)
                  clear hk6
                  go_wp2_with (go_at_call 12; refine (fault_any _ _ _).mono ?_; rintro e w' ⟨rfl, rfl⟩)
                  refine bodyPost_ret (results_c rfl _ _ w.heap.size (.int .i64 cd) (.int .i64 i) rfl ((blk_put2 hz.2.1 _ _).alloc _)) rfl (FaultPost.mk_ HB.out ?_)
                  exact ((hz.1.setCell (by simp) _).setCell (by simp) _).alloc (by simp; omega) _
      · obtain rfl : i = c.length := by omega
        go_wp2_with fail
        refine bodyPost_ret (results_c rfl _ _ w.heap.size (.int .i64 0) (.int .i64 0) rfl (blk_put2 hblk _ _)) rfl (FaultPost.mk_ ?_ ?_)
        · rw [H.out, HJ.out, Dc.chFrom_end c _ (Nat.le_refl _)]
        · exact (hbel.setCell (by simp) _).setCell (by simp) _
end Go.Proofs.Ytiphcpibhffdjaa
