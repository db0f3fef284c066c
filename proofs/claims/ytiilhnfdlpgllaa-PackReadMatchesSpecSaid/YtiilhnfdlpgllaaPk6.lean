/-
  Objects: walk of 'Validate'.
-/
import Derived.Test.YtiilhnfdlpgllaaPk4
namespace Go.Proofs.Ytiilhnfdlpgllaa
open Go.RowKit Go.V
set_option linter.unusedVariables false

/-- The value of a store. -/
abbrev stV (A : Option Addr) (n k : Nat) : Value := .agg #[.slice A n k]
/-- The state of the loops over a store: the parameter's copy and the result's cells. -/
structure VaSt (w wr : World) (A : Option Addr) (n k : Nat) : Prop where
  box : Blk wr w.heap.size 24 #[.slice A n k]
  res : Blk wr (w.heap.size + 1) 28 #[.int .i64 0, .int .i64 0]
  bel : Below w.heap.size w wr
theorem VaSt.below {w wr w' : World} {A : Option Addr} {n k : Nat} (h : VaSt w wr A n k) (hb : Below wr.heap.size wr w') : VaSt w w' A n k :=
  ⟨h.box.below hb h.box.lt, h.res.below hb h.res.lt, h.bel.trans (hb.mono h.bel.size)⟩
theorem VaSt.alloc {w wr : World} {A : Option Addr} {n k : Nat} (h : VaSt w wr A n k) (o : Obj) : VaSt w (wr.alloc o) A n k := h.below (below_alloc1 _ _)
theorem VaSt.drewN {w wr : World} {A : Option Addr} {n k : Nat} (h : VaSt w wr A n k) (q : Nat) : VaSt w (wr.drewN q) A n k := h.below (below_drewN (Below.refl _ _) _)
set_option maxRecDepth 100000 in
set_option maxHeartbeats 16000000 in
theorem validate_any (w : World) (A : Option Addr) (k : Nat) (s : List Ob.S) (hv : StV w Free A s) (hl64 : s.length ≤ 9223372036854775807) :
    Calls Try.prog 32 #[stV A s.length k] w (FaultPost w (Ob.stF s)) := by
  by_cases hl : 40 < s.length
  · have H := Lib.hid (show Ob.stF s = (2, 0) from by unfold Ob.stF; rw [if_pos hl])
    have hl' : (40 : Int) < s.length := by omega
    clear hv
    go_enter Try.func32, Try.ntmps32
    go_wp2_with fail
    refine bodyPost_ret (results_c rfl _ _ (w.heap.size + 1) (.int .i64 2) (.int .i64 0) rfl (blk_new1 _ _ _ _)) rfl (FaultPost.mk_ H.out ?_)
    exact below_alloc2 _ _ _
  · have hl' : (s.length : Int) ≤ 40 := by omega
    have H := Lib.hid (show Ob.stF s = Ob.stFrom s 0 from by unfold Ob.stF; rw [if_neg hl])
    have HROW := Lib.hid (fun (w' : World) (hb : Below w.heap.size w w') i hi => (hv.keep (free_below hb)).row (w := w') i hi)
    clear hv hl
    go_enter Try.func32, Try.ntmps32
    go_wp2_with fail
    go_loopw [15] (fun v wr => ∃ i : Nat, i ≤ s.length ∧ v = .int .i64 i ∧ VaSt w wr A s.length k ∧ Hid (Ob.stFrom s 0 = Ob.stFrom s i)) (fun v _ => s.length - (intOf v).toNat)
    case atStart => exact ⟨0, Nat.zero_le _, rfl, ⟨(Blk.new _ _ _).alloc _, blk_new1 _ _ _ _, below_alloc2 _ _ _⟩, Lib.hid rfl⟩
    case round =>
      obtain ⟨i, hi, rfl, st, HJ⟩ := hrel
      obtain ⟨wo, rfl⟩ : ∃ wo : World, wo = wr := ⟨_, rfl⟩
      have hsz := st.bel.size
      have hlt0 := st.res.lt
      by_cases hlt : i < s.length
      · have hlt' : (i : Int) < s.length := by omega
        obtain ⟨b, off, Al, kl, Ad, kd, e, hb, _, d0, d1, d2, d3, hx, hob⟩ := HROW.out _ st.bel i hlt
        subst e
        have HC1 := Lib.hid (Ob.stFrom_next s i hlt)
        have HC2 := Lib.hid (Ob.stFrom_bad s i hlt)
        have HCO := Lib.hid (Ob.code.eq_1 s i)
        have HBAD := Lib.hid (fun (h : Ob.code s i ≠ 0) => show Ob.stF s = (Ob.code s i, (i : Int)) from by rw [H.out, HJ.out, HC2.out h])
        unfold I64 at hx
        by_cases hf : (Ob.obF (Ob.it s i).ob).1 ≠ 0
        · have HD := Lib.hid (fun (w' : World) (hb : Below wo.heap.size wo w') => digest_bad w' (Ob.it s i).ob Al kl Ad kd (hob.keep (free_below hb)) hf)
          have hcc : Ob.code s i = (Ob.obF (Ob.it s i).ob).1 := by rw [HCO.out, if_pos hf]
          have HB := Lib.hid (show Ob.stF s = ((Ob.obF (Ob.it s i).ob).1, (i : Int)) from by rw [HBAD.out (by rw [hcc]; exact hf), hcc])
          have hf1 : ((Ob.obF (Ob.it s i).ob).1 == 0) = false := by simpa using hf
          have hf2 : ((Ob.obF (Ob.it s i).ob).1 != 0) = true := by simpa using hf
          clear HC1 HC2 HCO HBAD hcc hob hf
          generalize Ob.it s i = x at *
          generalize Ob.obF x.ob = r at *
          obtain ⟨cd, ix⟩ := r
          obtain ⟨xd, kk, ls, da⟩ := x
          simp only at *
          go_wp2_with fail
          go_at_call 29
          refine (HD.out _ (below_alloc1 _ _)).mono ?_
          rintro e w2 ⟨rfl, hb2'⟩
          have hb2 : Below wo.heap.size wo w2 := (below_alloc1 wo (.cells #[.int .i64 xd, .int .i64 kk, .slice Al ls.length kl, .slice Ad da.length kd] 46)).trans (hb2'.mono (by simp))
          have st2 := st.below hb2
          have hlt2 := st2.res.lt
          have hf0 := st2.res.frozen 0
          have hf1' := st2.res.frozen 1
          have hc0 := st2.res.cell 0
          have hc1 := st2.res.cell 1
          simp only [List.getElem?_toArray, List.getElem?_cons_zero, List.getElem?_cons_succ] at hc0 hc1
          have hsz2 := st2.bel.size
          clear hb2 hb2' st HD
          go_wp2_with fail
          refine bodyPost_ret (results_c rfl _ _ (w.heap.size + 1) (.int .i64 cd) (.int .i64 i) rfl ((blk_put2 st2.res _ _).alloc _)) rfl (FaultPost.mk_ HB.out ?_)
          exact (((st2.bel.setCell (by simp) _).setCell (by simp) _).alloc (by simp; omega) _)
        · have hok : Ob.Ok (Ob.it s i).ob := (Ob.obF_ok (by simpa using hf)).2
          have HD := Lib.hid (fun (w' : World) (hb : Below wo.heap.size wo w') => digest_ok w' (Ob.it s i).ob Al kl Ad kd (hob.keep (free_below hb)) hok)
          have hcp := Lib.hid (HCO.out.trans (if_neg hf))
          clear HCO hob hok hf
          by_cases hd : ((Ob.dig (Ob.it s i).ob : Nat) : Int) ≠ (Ob.it s i).dig
          · have hcc : Ob.code s i = 18 := by rw [hcp.out, if_pos hd]
            have HB := Lib.hid (show Ob.stF s = (18, (i : Int)) from by rw [HBAD.out (by rw [hcc]; decide), hcc])
            have hd1 : (((Ob.dig (Ob.it s i).ob : Nat) : Int) == (Ob.it s i).dig) = false := by simpa using hd
            have hd2 : (((Ob.dig (Ob.it s i).ob : Nat) : Int) != (Ob.it s i).dig) = true := bne_iff_ne.2 hd
            clear HC1 HC2 HBAD hcp hcc hd
            generalize Ob.it s i = x at *
            generalize Ob.dig x.ob = dg at *
            obtain ⟨xd, kk, ls, da⟩ := x
            simp only at *
            go_wp2_with fail
            go_at_call 29
            refine (HD.out _ (below_alloc1 _ _)).mono ?_
            rintro e w2 ⟨rfl, hb2'⟩
            have hb2 : Below wo.heap.size wo w2 := (below_alloc1 wo (.cells #[.int .i64 xd, .int .i64 kk, .slice Al ls.length kl, .slice Ad da.length kd] 46)).trans (hb2'.mono (by simp))
            have hBx := ((Blk.new wo 46 #[.int .i64 xd, .int .i64 kk, .slice Al ls.length kl, .slice Ad da.length kd]).below hb2' (by simp))
            have hcx := hBx.cell 0
            have hlx := hBx.lt
            have st2 := st.below hb2
            have hlt2 := st2.res.lt
            have hf0 := st2.res.frozen 0
            have hf1' := st2.res.frozen 1
            have hc0 := st2.res.cell 0
            have hc1 := st2.res.cell 1
            have hbx0 := st2.box.cell 0
            simp only [List.getElem?_toArray, List.getElem?_cons_zero, List.getElem?_cons_succ] at hc0 hc1 hbx0 hcx
            have hsz2 := st2.bel.size
            have hlbx := st2.box.lt
            clear hb2 hb2' st HD
            go_wp2_with fail
            refine bodyPost_ret (results_c rfl _ _ (w.heap.size + 1) (.int .i64 18) (.int .i64 i) rfl ((blk_put2 st2.res _ _).alloc _)) rfl (FaultPost.mk_ HB.out ?_)
            exact (((st2.bel.setCell (by simp) _).setCell (by simp) _).alloc (by simp; omega) _)
          · have hcq := Lib.hid (hcp.out.trans (if_neg hd))
            have hde : ((Ob.dig (Ob.it s i).ob : Nat) : Int) = (Ob.it s i).dig := by omega
            by_cases hi0 : i = 0
            · have hcc : Ob.code s i = 0 := by rw [hcq.out, if_neg (by omega)]
              have HJ2 := Lib.hid (HJ.out.trans (HC1.out hcc))
              have hz1 : decide ((0 : Int) < (i : Int)) = false := by simp; omega
              have hz2 : decide (0 < i) = false := by simp; omega
              clear HC1 HC2 HBAD hcp hcq hcc hd hi0
              generalize Ob.it s i = x at *
              generalize Ob.dig x.ob = dg at *
              obtain ⟨xd, kk, ls, da⟩ := x
              simp only at *
              subst hde
              have hd1 : ((dg : Int) == (dg : Int)) = true := by simp
              have hd2 : ((dg : Int) != (dg : Int)) = false := by simp
              go_wp2_with fail
              go_at_call 29
              refine (HD.out _ (below_alloc1 _ _)).mono ?_
              rintro e w2 ⟨rfl, hb2'⟩
              have hb2 : Below wo.heap.size wo w2 := (below_alloc1 wo (.cells #[.int .i64 dg, .int .i64 kk, .slice Al ls.length kl, .slice Ad da.length kd] 46)).trans (hb2'.mono (by simp))
              have hBx := ((Blk.new wo 46 #[.int .i64 dg, .int .i64 kk, .slice Al ls.length kl, .slice Ad da.length kd]).below hb2' (by simp))
              have hcx := hBx.cell 0
              have hlx := hBx.lt
              have st2 := st.below hb2
              have hlt2 := st2.res.lt
              have hf0 := st2.res.frozen 0
              have hf1' := st2.res.frozen 1
              have hc0 := st2.res.cell 0
              have hc1 := st2.res.cell 1
              have hbx0 := st2.box.cell 0
              simp only [List.getElem?_toArray, List.getElem?_cons_zero, List.getElem?_cons_succ] at hc0 hc1 hbx0 hcx
              have hsz2 := st2.bel.size
              have hlbx := st2.box.lt
              clear hb2 hb2' st HD
              go_wp2_with fail
              go_roundw
              case rel => exact ⟨i + 1, by omega, by go_num, st2.alloc _, HJ2⟩
              case measure => simp [intOf]; omega
            · have hz1 : decide ((0 : Int) < (i : Int)) = true := by simp; omega
              have hz2 : decide (0 < i) = true := by simp; omega
              have hz3 : (0 : Int) ≤ (i : Int) - 1 := by omega
              have hz4 : (i : Int) - 1 < s.length := by omega
              obtain ⟨b', off', Al', kl', Ad', kd', e', hb', _, d0', _, _, _, hx', _⟩ := HROW.out _ st.bel (i - 1) (by omega)
              cases e'
              by_cases hle : (Ob.it s i).dig ≤ (Ob.it s (i - 1)).dig
              · have hcc : Ob.code s i = 5 := by rw [hcq.out, if_pos ⟨by omega, hle⟩]
                have HB := Lib.hid (show Ob.stF s = (5, (i : Int)) from by rw [HBAD.out (by rw [hcc]; decide), hcc])
                have hle' : decide ((Ob.it s i).dig ≤ (Ob.it s (i - 1)).dig) = true := by simpa using hle
                clear HC1 HC2 HBAD hcp hcq hcc hd hi0 hle
                generalize (Ob.it s (i - 1)).dig = pd at *
                generalize Ob.it s i = x at *
                generalize Ob.dig x.ob = dg at *
                obtain ⟨xd, kk, ls, da⟩ := x
                simp only at *
                subst hde
                have hd1 : ((dg : Int) == (dg : Int)) = true := by simp
                have hd2 : ((dg : Int) != (dg : Int)) = false := by simp
                go_wp2_with fail
                go_at_call 29
                refine (HD.out _ (below_alloc1 _ _)).mono ?_
                rintro e w2 ⟨rfl, hb2'⟩
                have hb2 : Below wo.heap.size wo w2 := (below_alloc1 wo (.cells #[.int .i64 dg, .int .i64 kk, .slice Al ls.length kl, .slice Ad da.length kd] 46)).trans (hb2'.mono (by simp))
                have hBx := ((Blk.new wo 46 #[.int .i64 dg, .int .i64 kk, .slice Al ls.length kl, .slice Ad da.length kd]).below hb2' (by simp))
                have hcx := hBx.cell 0
                have hlx := hBx.lt
                have hpd := (hb2.cell (p := ⟨b, off + (i - 1) * 4, none⟩) hb).trans d0'
                have hbb : b < w2.heap.size := Nat.lt_of_lt_of_le hb hb2.size
                have st2 := st.below hb2
                have hlt2 := st2.res.lt
                have hf0 := st2.res.frozen 0
                have hf1' := st2.res.frozen 1
                have hc0 := st2.res.cell 0
                have hc1 := st2.res.cell 1
                have hbx0 := st2.box.cell 0
                simp only [List.getElem?_toArray, List.getElem?_cons_zero, List.getElem?_cons_succ] at hc0 hc1 hbx0 hcx
                have hsz2 := st2.bel.size
                have hlbx := st2.box.lt
                clear hb2 hb2' st HD
                go_wp2_with fail
                refine bodyPost_ret (results_c rfl _ _ (w.heap.size + 1) (.int .i64 5) (.int .i64 i) rfl ((blk_put2 st2.res _ _).alloc _)) rfl (FaultPost.mk_ HB.out ?_)
                exact (((st2.bel.setCell (by simp) _).setCell (by simp) _).alloc (by simp; omega) _)
              · have hcc : Ob.code s i = 0 := by rw [hcq.out, if_neg (by rintro ⟨_, h⟩; exact hle h)]
                have HJ2 := Lib.hid (HJ.out.trans (HC1.out hcc))
                have hle' : decide ((Ob.it s i).dig ≤ (Ob.it s (i - 1)).dig) = false := by simpa using hle
                clear HC1 HC2 HBAD hcp hcq hcc hd hi0 hle
                generalize (Ob.it s (i - 1)).dig = pd at *
                generalize Ob.it s i = x at *
                generalize Ob.dig x.ob = dg at *
                obtain ⟨xd, kk, ls, da⟩ := x
                simp only at *
                subst hde
                have hd1 : ((dg : Int) == (dg : Int)) = true := by simp
                have hd2 : ((dg : Int) != (dg : Int)) = false := by simp
                go_wp2_with fail
                go_at_call 29
                refine (HD.out _ (below_alloc1 _ _)).mono ?_
                rintro e w2 ⟨rfl, hb2'⟩
                have hb2 : Below wo.heap.size wo w2 := (below_alloc1 wo (.cells #[.int .i64 dg, .int .i64 kk, .slice Al ls.length kl, .slice Ad da.length kd] 46)).trans (hb2'.mono (by simp))
                have hBx := ((Blk.new wo 46 #[.int .i64 dg, .int .i64 kk, .slice Al ls.length kl, .slice Ad da.length kd]).below hb2' (by simp))
                have hcx := hBx.cell 0
                have hlx := hBx.lt
                have hpd := (hb2.cell (p := ⟨b, off + (i - 1) * 4, none⟩) hb).trans d0'
                have hbb : b < w2.heap.size := Nat.lt_of_lt_of_le hb hb2.size
                have st2 := st.below hb2
                have hlt2 := st2.res.lt
                have hf0 := st2.res.frozen 0
                have hf1' := st2.res.frozen 1
                have hc0 := st2.res.cell 0
                have hc1 := st2.res.cell 1
                have hbx0 := st2.box.cell 0
                simp only [List.getElem?_toArray, List.getElem?_cons_zero, List.getElem?_cons_succ] at hc0 hc1 hbx0 hcx
                have hsz2 := st2.bel.size
                have hlbx := st2.box.lt
                clear hb2 hb2' st HD
                go_wp2_with fail
                go_roundw
                case rel => exact ⟨i + 1, by omega, by go_num, st2.alloc _, HJ2⟩
                case measure => simp [intOf]; omega
      · obtain rfl : i = s.length := by omega
        have hf0 := st.res.frozen 0
        have hf1' := st.res.frozen 1
        have hc0 := st.res.cell 0
        have hc1 := st.res.cell 1
        simp only [List.getElem?_toArray, List.getElem?_cons_zero, List.getElem?_cons_succ] at hc0 hc1
        go_wp2_with fail
        refine bodyPost_ret (results_c rfl _ _ (w.heap.size + 1) (.int .i64 0) (.int .i64 0) rfl (blk_put2 st.res _ _)) rfl (FaultPost.mk_ ?_ ?_)
        · rw [H.out, HJ.out, Ob.stFrom_end s _ (Nat.le_refl _)]
        · exact (st.bel.setCell (by simp) _).setCell (by simp) _
end Go.Proofs.Ytiilhnfdlpgllaa
