/-
  Objects: walk of the reference's 'StoreFault'.
-/
import Derived.Test.YtiilhnfdlpgllaaPk5
import Derived.Test.YtiilhnfdlpgllaaPk6
namespace Go.Proofs.Ytiilhnfdlpgllaa
open Go.RowKit Go.V
set_option linter.unusedVariables false

set_option maxRecDepth 100000 in
set_option maxHeartbeats 16000000 in
theorem storeFault_any (w : World) (A : Option Addr) (k : Nat) (s : List Ob.S) (hv : StV w Free A s) (hl64 : s.length ≤ 9223372036854775807) :
    Calls Try.prog 16 #[stV A s.length k] w (FaultPost w (Ob.stF s)) := by
  by_cases hl : 40 < s.length
  · have H := Lib.hid (show Ob.stF s = (2, 0) from by unfold Ob.stF; rw [if_pos hl])
    have hl' : (40 : Int) < s.length := by omega
    clear hv
    go_enter Try.func16, Try.ntmps16
    go_wp2_with (go_at_call 18; refine (fault_any _ _ _).mono ?_; rintro e w' ⟨rfl, rfl⟩)
    refine bodyPost_ret (results_c rfl _ _ (w.heap.size + 1) (.int .i64 2) (.int .i64 0) rfl ((blk_new1 _ _ _ _).alloc _)) rfl (FaultPost.mk_ H.out ?_)
    exact below_alloc3 _ _ _ _
  · have hl' : (s.length : Int) ≤ 40 := by omega
    have H := Lib.hid (show Ob.stF s = Ob.stFrom s 0 from by unfold Ob.stF; rw [if_neg hl])
    have HROW := Lib.hid (fun (w' : World) (hb : Below w.heap.size w w') i hi => (hv.keep (free_below hb)).row (w := w') i hi)
    clear hv hl
    go_enter Try.func16, Try.ntmps16
    go_wp2_with fail
    go_loopw [3] (fun v wr => ∃ i : Nat, i ≤ s.length ∧ v = .int .i64 i ∧ VaSt w wr A s.length k ∧ Hid (Ob.stFrom s 0 = Ob.stFrom s i)) (fun v _ => s.length - (intOf v).toNat)
    case atStart => exact ⟨0, Nat.zero_le _, rfl, ⟨(Blk.new _ _ _).alloc _, blk_new1 _ _ _ _, below_alloc2 _ _ _⟩, Lib.hid rfl⟩
    case round =>
      obtain ⟨i, hi, rfl, st, HJ⟩ := hrel
      obtain ⟨wo, rfl⟩ : ∃ wo : World, wo = wr := ⟨_, rfl⟩
      have hsz := st.bel.size
      have hlt0 := st.res.lt
      have hlb0 := st.box.lt
      have hbx := st.box.cell 0
      simp only [List.getElem?_toArray, List.getElem?_cons_zero] at hbx
      by_cases hlt : i < s.length
      · have hlt' : (i : Int) < s.length := by omega
        obtain ⟨b, off, Al, kl, Ad, kd, e, hb, _, d0, d1, d2, d3, hx, hob⟩ := HROW.out _ st.bel i hlt
        subst e
        have HC1 := Lib.hid (Ob.stFrom_next s i hlt)
        have HC2 := Lib.hid (Ob.stFrom_bad s i hlt)
        have HCO := Lib.hid (Ob.code.eq_1 s i)
        have HBAD := Lib.hid (fun (h : Ob.code s i ≠ 0) => show Ob.stF s = (Ob.code s i, (i : Int)) from by rw [H.out, HJ.out, HC2.out h])
        have HF30 := Lib.hid (obFault_any wo (Ob.it s i).ob Al kl Ad kd hob)
        unfold I64 at hx
        by_cases hf : (Ob.obF (Ob.it s i).ob).1 ≠ 0
        · have hcc : Ob.code s i = (Ob.obF (Ob.it s i).ob).1 := by rw [HCO.out, if_pos hf]
          have HB := Lib.hid (show Ob.stF s = ((Ob.obF (Ob.it s i).ob).1, (i : Int)) from by rw [HBAD.out (by rw [hcc]; exact hf), hcc])
          have hf1 : ((Ob.obF (Ob.it s i).ob).1 == 0) = false := by simpa using hf
          have hf2 : ((Ob.obF (Ob.it s i).ob).1 != 0) = true := by simpa using hf
          clear HC1 HC2 HCO HBAD hcc hob hf
          generalize Ob.it s i = x at *
          generalize Ob.obF x.ob = r at *
          obtain ⟨cd, ix⟩ := r
          obtain ⟨xd, kk, ls, da⟩ := x
          simp only at *
          go_wp2_with fail
          go_at_call 30
          refine HF30.out.mono ?_
          rintro e w2 ⟨rfl, hb2⟩
          have st2 := st.below hb2
          have hlt2 := st2.res.lt
          have hlt2b : w.heap.size < w2.heap.size := Nat.lt_of_succ_lt hlt2
          have hf0 := st2.res.frozen 0
          have hf1' := st2.res.frozen 1
          have hc0 := st2.res.cell 0
          have hc1 := st2.res.cell 1
          simp only [List.getElem?_toArray, List.getElem?_cons_zero, List.getElem?_cons_succ] at hc0 hc1
          have hsz2 := st2.bel.size
          clear hb2 st HF30
          go_wp2_with (go_at_call 18; refine (fault_any _ _ _).mono ?_; rintro e w' ⟨rfl, rfl⟩)
          refine bodyPost_ret (results_c rfl _ _ (w.heap.size + 1) (.int .i64 cd) (.int .i64 i) rfl (((blk_put2 st2.res _ _).alloc _).alloc _)) rfl (FaultPost.mk_ HB.out ?_)
          exact ((((st2.bel.setCell (by simp) _).setCell (by simp) _).alloc (by simp; omega) _).alloc (by simp; omega) _)
        · have hok : Ob.Ok (Ob.it s i).ob := (Ob.obF_ok (by simpa using hf)).2
          have hofz := hok.f
          have HD := Lib.hid (fun (w' : World) (hb : Below wo.heap.size wo w') => objDigest_any w' (Ob.it s i).ob Al kl Ad kd (hob.keep (free_below hb)) hok)
          have hcp := Lib.hid (HCO.out.trans (if_neg hf))
          rw [hofz] at HF30
          clear HCO hob hok hf hofz
          by_cases hd : ((Ob.dig (Ob.it s i).ob : Nat) : Int) ≠ (Ob.it s i).dig
          · have hcc : Ob.code s i = 18 := by rw [hcp.out, if_pos hd]
            have HB := Lib.hid (show Ob.stF s = (18, (i : Int)) from by rw [HBAD.out (by rw [hcc]; decide), hcc])
            have hd1 : (((Ob.dig (Ob.it s i).ob : Nat) : Int) == (Ob.it s i).dig) = false := by simpa using hd
            have hd2 : (((Ob.dig (Ob.it s i).ob : Nat) : Int) != (Ob.it s i).dig) = true := bne_iff_ne.2 hd
            clear HC1 HC2 HBAD hcp hcc hd
            generalize Ob.it s i = x at *
            generalize Ob.dig x.ob = dg at *
            obtain ⟨xd, kk, ls, da⟩ := x
            simp only at *
            go_wp2_with fail
            go_at_call 30
            refine HF30.out.mono ?_
            rintro e w2 ⟨rfl, hb2'⟩
            have hb2 : Below wo.heap.size wo (w2.alloc (.cells #[.int .i64 0, .int .i64 0] 28)) := hb2'.alloc hb2'.size _
            have HK : Hid (∀ w6 : World, Below wo.heap.size wo w6 → w6.cell? ⟨w.heap.size, 0, none⟩ = some (.slice (some ⟨b, off, none⟩) s.length k) ∧ w6.cell? ⟨b, off + i * 4, none⟩ = some (.int .i64 xd) ∧ w6.cell? ⟨b, off + i * 4 + 1, none⟩ = some (.int .i64 kk) ∧ w6.cell? ⟨b, off + i * 4 + 2, none⟩ = some (.slice Al ls.length kl) ∧ w6.cell? ⟨b, off + i * 4 + 3, none⟩ = some (.slice Ad da.length kd)) := Lib.hid fun w6 h6 =>
              ⟨(h6.cell (p := ⟨w.heap.size, 0, none⟩) hlb0).trans hbx, (h6.cell (p := ⟨b, _, none⟩) hb).trans d0, (h6.cell (p := ⟨b, _, none⟩) hb).trans d1, (h6.cell (p := ⟨b, _, none⟩) hb).trans d2, (h6.cell (p := ⟨b, _, none⟩) hb).trans d3⟩
            have hk0 : Below wo.heap.size wo (w2.alloc (.cells #[.int .i64 0, .int .i64 0] 28)).drew := below_drew' hb2
            go_wp2_with fail
            go_region_held3 (fun w6 => w6.cell? ⟨w.heap.size, 0, none⟩ = some (.slice (some ⟨b, off, none⟩) s.length k) ∧ w6.cell? ⟨b, off + i * 4, none⟩ = some (.int .i64 xd) ∧ w6.cell? ⟨b, off + i * 4 + 1, none⟩ = some (.int .i64 kk) ∧ w6.cell? ⟨b, off + i * 4 + 2, none⟩ = some (.slice Al ls.length kl) ∧ w6.cell? ⟨b, off + i * 4 + 3, none⟩ = some (.slice Ad da.length kd))
              (first | exact HK.out _ hk0 | exact HK.out _ hk7)
              (first | (go_at_call 31; (with_reducible refine (HD.out _ hk0).mono ?_); rintro e w3 ⟨rfl, hb3⟩; have hk7 : Below wo.heap.size wo w3 := hk0.trans (hb3.mono hk0.size)))
            have st3 := st.below hk7
            have hlt2 := st3.res.lt
            have hf0 := st3.res.frozen 0
            have hf1' := st3.res.frozen 1
            have hc0 := st3.res.cell 0
            have hc1 := st3.res.cell 1
            have hbx3 := st3.box.cell 0
            simp only [List.getElem?_toArray, List.getElem?_cons_zero, List.getElem?_cons_succ] at hc0 hc1 hbx3
            have hsz2 := st3.bel.size
            have hlbx := st3.box.lt
            have hd0 := (HK.out _ hk7).2.1
            clear hb2 hb2' st HD HK hk0
            go_wp2_with (go_at_call 18; refine (fault_any _ _ _).mono ?_; rintro e w' ⟨rfl, rfl⟩)
            refine bodyPost_ret (results_c rfl _ _ (w.heap.size + 1) (.int .i64 18) (.int .i64 i) rfl ((blk_put2 st3.res _ _).alloc _)) rfl (FaultPost.mk_ HB.out ?_)
            exact (((st3.bel.setCell (by simp) _).setCell (by simp) _).alloc (by simp; omega) _)
          · have hcq := Lib.hid (hcp.out.trans (if_neg hd))
            have hde : ((Ob.dig (Ob.it s i).ob : Nat) : Int) = (Ob.it s i).dig := by omega
            by_cases hi0 : i = 0
            · have hcc : Ob.code s i = 0 := by rw [hcq.out, if_neg (by omega)]
              have HJ2 := Lib.hid (HJ.out.trans (HC1.out hcc))
              have hz1 : decide ((0 : Int) < (i : Int)) = false := by simp; omega
              have hz2 : decide (0 < i) = false := by simp; omega
              clear HC1 HC2 HBAD hcp hcq hcc hd hi0
              generalize Ob.it s i = x at *
              generalize Ob.dig x.ob = dg at *
              obtain ⟨xd, kk, ls, da⟩ := x
              simp only at *
              subst hde
              have hd1 : ((dg : Int) == (dg : Int)) = true := by simp
              have hd2 : ((dg : Int) != (dg : Int)) = false := by simp
              go_wp2_with fail
              go_at_call 30
              refine HF30.out.mono ?_
              rintro e w2 ⟨rfl, hb2'⟩
              have hb2 : Below wo.heap.size wo (w2.alloc (.cells #[.int .i64 0, .int .i64 0] 28)) := hb2'.alloc hb2'.size _
              have HK : Hid (∀ w6 : World, Below wo.heap.size wo w6 → w6.cell? ⟨w.heap.size, 0, none⟩ = some (.slice (some ⟨b, off, none⟩) s.length k) ∧ w6.cell? ⟨b, off + i * 4, none⟩ = some (.int .i64 (dg : Int)) ∧ w6.cell? ⟨b, off + i * 4 + 1, none⟩ = some (.int .i64 kk) ∧ w6.cell? ⟨b, off + i * 4 + 2, none⟩ = some (.slice Al ls.length kl) ∧ w6.cell? ⟨b, off + i * 4 + 3, none⟩ = some (.slice Ad da.length kd)) := Lib.hid fun w6 h6 =>
                ⟨(h6.cell (p := ⟨w.heap.size, 0, none⟩) hlb0).trans hbx, (h6.cell (p := ⟨b, _, none⟩) hb).trans d0, (h6.cell (p := ⟨b, _, none⟩) hb).trans d1, (h6.cell (p := ⟨b, _, none⟩) hb).trans d2, (h6.cell (p := ⟨b, _, none⟩) hb).trans d3⟩
              have hk0 : Below wo.heap.size wo (w2.alloc (.cells #[.int .i64 0, .int .i64 0] 28)).drew := below_drew' hb2
              go_wp2_with fail
              go_region_held3 (fun w6 => w6.cell? ⟨w.heap.size, 0, none⟩ = some (.slice (some ⟨b, off, none⟩) s.length k) ∧ w6.cell? ⟨b, off + i * 4, none⟩ = some (.int .i64 (dg : Int)) ∧ w6.cell? ⟨b, off + i * 4 + 1, none⟩ = some (.int .i64 kk) ∧ w6.cell? ⟨b, off + i * 4 + 2, none⟩ = some (.slice Al ls.length kl) ∧ w6.cell? ⟨b, off + i * 4 + 3, none⟩ = some (.slice Ad da.length kd))
                (first | exact HK.out _ hk0 | exact HK.out _ hk7)
                (first | (go_at_call 31; (with_reducible refine (HD.out _ hk0).mono ?_); rintro e w3 ⟨rfl, hb3⟩; have hk7 : Below wo.heap.size wo w3 := hk0.trans (hb3.mono hk0.size)))
              have st3 := st.below hk7
              have hlt2 := st3.res.lt
              have hf0 := st3.res.frozen 0
              have hf1' := st3.res.frozen 1
              have hc0 := st3.res.cell 0
              have hc1 := st3.res.cell 1
              have hbx3 := st3.box.cell 0
              simp only [List.getElem?_toArray, List.getElem?_cons_zero, List.getElem?_cons_succ] at hc0 hc1 hbx3
              have hsz2 := st3.bel.size
              have hlbx := st3.box.lt
              have hd0 := (HK.out _ hk7).2.1
              clear hb2 hb2' st HD HK hk0
              go_wp2_with fail
              go_quiet (fail)
              go_wp2_with fail
              go_roundw
              case rel => exact ⟨i + 1, by omega, by go_num, st3.drewN _, HJ2⟩
              case measure => simp [intOf]; omega
            · have hz1 : decide ((0 : Int) < (i : Int)) = true := by simp; omega
              have hz2 : decide (0 < i) = true := by simp; omega
              have hz3 : (0 : Int) ≤ (i : Int) - 1 := by omega
              have hz4 : (i : Int) - 1 < s.length := by omega
              have hz5 : IntKind.i64.wrap ((i : Int) - 1) = (i : Int) - 1 := IntWalk.i64_in _ (by omega)
              have hz6 : ((i : Int) - 1).toNat = i - 1 := by omega
              obtain ⟨b', off', Al', kl', Ad', kd', e', hb', _, d0', _, _, _, hx', _⟩ := HROW.out _ st.bel (i - 1) (by omega)
              cases e'
              by_cases hle : (Ob.it s i).dig ≤ (Ob.it s (i - 1)).dig
              · have hcc : Ob.code s i = 5 := by rw [hcq.out, if_pos ⟨by omega, hle⟩]
                have HB := Lib.hid (show Ob.stF s = (5, (i : Int)) from by rw [HBAD.out (by rw [hcc]; decide), hcc])
                have hle' : decide ((Ob.it s i).dig ≤ (Ob.it s (i - 1)).dig) = true := by simpa using hle
                clear HC1 HC2 HBAD hcp hcq hcc hd hi0 hle
                generalize (Ob.it s (i - 1)).dig = pd at *
                generalize Ob.it s i = x at *
                generalize Ob.dig x.ob = dg at *
                obtain ⟨xd, kk, ls, da⟩ := x
                simp only at *
                subst hde
                have hd1 : ((dg : Int) == (dg : Int)) = true := by simp
                have hd2 : ((dg : Int) != (dg : Int)) = false := by simp
                go_wp2_with fail
                go_at_call 30
                refine HF30.out.mono ?_
                rintro e w2 ⟨rfl, hb2'⟩
                have hb2 : Below wo.heap.size wo (w2.alloc (.cells #[.int .i64 0, .int .i64 0] 28)) := hb2'.alloc hb2'.size _
                have HK : Hid (∀ w6 : World, Below wo.heap.size wo w6 → w6.cell? ⟨w.heap.size, 0, none⟩ = some (.slice (some ⟨b, off, none⟩) s.length k) ∧ w6.cell? ⟨b, off + i * 4, none⟩ = some (.int .i64 (dg : Int)) ∧ w6.cell? ⟨b, off + i * 4 + 1, none⟩ = some (.int .i64 kk) ∧ w6.cell? ⟨b, off + i * 4 + 2, none⟩ = some (.slice Al ls.length kl) ∧ w6.cell? ⟨b, off + i * 4 + 3, none⟩ = some (.slice Ad da.length kd)) := Lib.hid fun w6 h6 =>
                  ⟨(h6.cell (p := ⟨w.heap.size, 0, none⟩) hlb0).trans hbx, (h6.cell (p := ⟨b, _, none⟩) hb).trans d0, (h6.cell (p := ⟨b, _, none⟩) hb).trans d1, (h6.cell (p := ⟨b, _, none⟩) hb).trans d2, (h6.cell (p := ⟨b, _, none⟩) hb).trans d3⟩
                have hk0 : Below wo.heap.size wo (w2.alloc (.cells #[.int .i64 0, .int .i64 0] 28)).drew := below_drew' hb2
                go_wp2_with fail
                go_region_held3 (fun w6 => w6.cell? ⟨w.heap.size, 0, none⟩ = some (.slice (some ⟨b, off, none⟩) s.length k) ∧ w6.cell? ⟨b, off + i * 4, none⟩ = some (.int .i64 (dg : Int)) ∧ w6.cell? ⟨b, off + i * 4 + 1, none⟩ = some (.int .i64 kk) ∧ w6.cell? ⟨b, off + i * 4 + 2, none⟩ = some (.slice Al ls.length kl) ∧ w6.cell? ⟨b, off + i * 4 + 3, none⟩ = some (.slice Ad da.length kd))
                  (first | exact HK.out _ hk0 | exact HK.out _ hk7)
                  (first | (go_at_call 31; (with_reducible refine (HD.out _ hk0).mono ?_); rintro e w3 ⟨rfl, hb3⟩; have hk7 : Below wo.heap.size wo w3 := hk0.trans (hb3.mono hk0.size)))
                have hpd := (hk7.cell (p := ⟨b, off + (i - 1) * 4, none⟩) hb).trans d0'
                have hbb : b < w3.heap.size := Nat.lt_of_lt_of_le hb hk7.size
                have st3 := st.below hk7
                have hlt2 := st3.res.lt
                have hf0 := st3.res.frozen 0
                have hf1' := st3.res.frozen 1
                have hc0 := st3.res.cell 0
                have hc1 := st3.res.cell 1
                have hbx3 := st3.box.cell 0
                simp only [List.getElem?_toArray, List.getElem?_cons_zero, List.getElem?_cons_succ] at hc0 hc1 hbx3
                have hsz2 := st3.bel.size
                have hlbx := st3.box.lt
                have hd0 := (HK.out _ hk7).2.1
                clear hb2 hb2' st HD HK hk0
                go_wp2_with fail
                go_quiet (fail)
                refine gen_world (C := fun w9 => Exit.then _ _ _ _ w9) (fun w9 => VaSt w w9 _ s.length k) (st3.drewN _) ?_
                intro w9 st9
                have nlt2 := st9.res.lt
                have nf0 := st9.res.frozen 0
                have nf1' := st9.res.frozen 1
                have nc0 := st9.res.cell 0
                have nc1 := st9.res.cell 1
                have nsz2 := st9.bel.size
                simp only [List.getElem?_toArray, List.getElem?_cons_zero, List.getElem?_cons_succ] at nc0 nc1
                go_wp2_with (go_at_call 18; refine (fault_any _ _ _).mono ?_; rintro e w' ⟨rfl, rfl⟩)
                refine bodyPost_ret (results_c rfl _ _ (w.heap.size + 1) (.int .i64 5) (.int .i64 i) rfl ((blk_put2 st9.res _ _).alloc _)) rfl (FaultPost.mk_ HB.out ?_)
                exact (((st9.bel.setCell (by simp) _).setCell (by simp) _).alloc (by simp; omega) _)
              · have hcc : Ob.code s i = 0 := by rw [hcq.out, if_neg (by rintro ⟨_, h⟩; exact hle h)]
                have HJ2 := Lib.hid (HJ.out.trans (HC1.out hcc))
                have hle' : decide ((Ob.it s i).dig ≤ (Ob.it s (i - 1)).dig) = false := by simpa using hle
                clear HC1 HC2 HBAD hcp hcq hcc hd hi0 hle
                generalize (Ob.it s (i - 1)).dig = pd at *
                generalize Ob.it s i = x at *
                generalize Ob.dig x.ob = dg at *
                obtain ⟨xd, kk, ls, da⟩ := x
                simp only at *
                subst hde
                have hd1 : ((dg : Int) == (dg : Int)) = true := by simp
                have hd2 : ((dg : Int) != (dg : Int)) = false := by simp
                go_wp2_with fail
                go_at_call 30
                refine HF30.out.mono ?_
                rintro e w2 ⟨rfl, hb2'⟩
                have hb2 : Below wo.heap.size wo (w2.alloc (.cells #[.int .i64 0, .int .i64 0] 28)) := hb2'.alloc hb2'.size _
                have HK : Hid (∀ w6 : World, Below wo.heap.size wo w6 → w6.cell? ⟨w.heap.size, 0, none⟩ = some (.slice (some ⟨b, off, none⟩) s.length k) ∧ w6.cell? ⟨b, off + i * 4, none⟩ = some (.int .i64 (dg : Int)) ∧ w6.cell? ⟨b, off + i * 4 + 1, none⟩ = some (.int .i64 kk) ∧ w6.cell? ⟨b, off + i * 4 + 2, none⟩ = some (.slice Al ls.length kl) ∧ w6.cell? ⟨b, off + i * 4 + 3, none⟩ = some (.slice Ad da.length kd)) := Lib.hid fun w6 h6 =>
                  ⟨(h6.cell (p := ⟨w.heap.size, 0, none⟩) hlb0).trans hbx, (h6.cell (p := ⟨b, _, none⟩) hb).trans d0, (h6.cell (p := ⟨b, _, none⟩) hb).trans d1, (h6.cell (p := ⟨b, _, none⟩) hb).trans d2, (h6.cell (p := ⟨b, _, none⟩) hb).trans d3⟩
                have hk0 : Below wo.heap.size wo (w2.alloc (.cells #[.int .i64 0, .int .i64 0] 28)).drew := below_drew' hb2
                go_wp2_with fail
                go_region_held3 (fun w6 => w6.cell? ⟨w.heap.size, 0, none⟩ = some (.slice (some ⟨b, off, none⟩) s.length k) ∧ w6.cell? ⟨b, off + i * 4, none⟩ = some (.int .i64 (dg : Int)) ∧ w6.cell? ⟨b, off + i * 4 + 1, none⟩ = some (.int .i64 kk) ∧ w6.cell? ⟨b, off + i * 4 + 2, none⟩ = some (.slice Al ls.length kl) ∧ w6.cell? ⟨b, off + i * 4 + 3, none⟩ = some (.slice Ad da.length kd))
                  (first | exact HK.out _ hk0 | exact HK.out _ hk7)
                  (first | (go_at_call 31; (with_reducible refine (HD.out _ hk0).mono ?_); rintro e w3 ⟨rfl, hb3⟩; have hk7 : Below wo.heap.size wo w3 := hk0.trans (hb3.mono hk0.size)))
                have hpd := (hk7.cell (p := ⟨b, off + (i - 1) * 4, none⟩) hb).trans d0'
                have hbb : b < w3.heap.size := Nat.lt_of_lt_of_le hb hk7.size
                have st3 := st.below hk7
                have hlt2 := st3.res.lt
                have hf0 := st3.res.frozen 0
                have hf1' := st3.res.frozen 1
                have hc0 := st3.res.cell 0
                have hc1 := st3.res.cell 1
                have hbx3 := st3.box.cell 0
                simp only [List.getElem?_toArray, List.getElem?_cons_zero, List.getElem?_cons_succ] at hc0 hc1 hbx3
                have hsz2 := st3.bel.size
                have hlbx := st3.box.lt
                have hd0 := (HK.out _ hk7).2.1
                clear hb2 hb2' st HD HK hk0
                go_wp2_with fail
                go_quiet (fail)
                go_wp2_with fail
                go_roundw
                case rel => exact ⟨i + 1, by omega, by go_num, st3.drewN _, HJ2⟩
                case measure => simp [intOf]; omega
      · obtain rfl : i = s.length := by omega
        have hf0 := st.res.frozen 0
        have hf1' := st.res.frozen 1
        have hc0 := st.res.cell 0
        have hc1 := st.res.cell 1
        simp only [List.getElem?_toArray, List.getElem?_cons_zero, List.getElem?_cons_succ] at hc0 hc1
        go_wp2_with fail
        refine bodyPost_ret (results_c rfl _ _ (w.heap.size + 1) (.int .i64 0) (.int .i64 0) rfl (blk_put2 st.res _ _)) rfl (FaultPost.mk_ ?_ ?_)
        · rw [H.out, HJ.out, Ob.stFrom_end s _ (Nat.le_refl _)]
        · exact (st.bel.setCell (by simp) _).setCell (by simp) _
end Go.Proofs.Ytiilhnfdlpgllaa
