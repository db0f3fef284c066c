/-
  References: walk of the reference's 'RefsFault'.
-/
import Derived.Test.YtfbbgnhelannjaaDoorRf9
namespace Go.Proofs.YtfbbgnhelannjaaDoor
open Go.RowKit Go.V Go.Shelf Go.Lib
set_option linter.unusedVariables false

set_option maxRecDepth 100000 in
set_option maxHeartbeats 16000000 in
theorem refsFault_any (w : World) (A : Option Addr) (k : Nat) (s : List Rf.R) (hv : SA w Free A (rsV s)) (hl : s.length ≤ 9223372036854775807) :
    Calls Tryd.prog 19 #[.agg #[.slice A s.length k]] w (FaultPost w (Rf.rfF s)) := by
  have HV := Lib.hid hv
  have hF := Rf.rfF.eq_1 s
  generalize Rf.rfF s = r at *
  have st0 : VaSt w ((w.alloc (.cells #[.slice A s.length k] 26)).alloc (.cells #[.int .i64 0, .int .i64 0] 30)) A s.length k :=
    ⟨(Blk.new _ _ _).alloc _, by simpa using Blk.new (w.alloc (.cells #[.slice A s.length k] 26)) 30 #[.int .i64 0, .int .i64 0], below_alloc2 _ _ _⟩
  clear hv
  by_cases h30 : 30 < s.length
  · have H := Lib.hid (hF.trans (if_pos h30))
    have h30' : (30 : Int) < s.length := by omega
    clear hF h30
    go_enter Tryd.func19, Tryd.ntmps19
    go_wp2_with fail
    go_at_call 21
    refine (fault_any _ _ _).mono ?_
    rintro e w9 ⟨rfl, rfl⟩
    go_wp2_with fail
    refine bodyPost_ret (results_c30 rfl _ _ (w.heap.size + 1) (.int .i64 2) (.int .i64 (-1)) rfl ((by simpa using Blk.new (w.alloc (.cells #[.slice A s.length k] 26)) 30 #[.int .i64 2, .int .i64 (-1)] : Blk ((w.alloc (.cells #[.slice A s.length k] 26)).alloc (.cells #[.int .i64 2, .int .i64 (-1)] 30)) (w.heap.size + 1) 30 #[.int .i64 2, .int .i64 (-1)]).alloc _)) rfl ?_
    exact FaultPost.mk_ H.out (below_alloc3 _ _ _ _)
  · have H := Lib.hid (hF.trans (if_neg h30))
    have h30' : ¬ (30 : Int) < s.length := by omega
    clear hF h30
    go_enter Tryd.func19, Tryd.ntmps19
    go_wp2_with fail
    go_loopw [3] (fun iv wr => ∃ i : Nat, i ≤ s.length ∧ iv = .int .i64 i ∧ Hid (r = Rf.rfFrom s i ∧ ∀ j, j < i → (Rf.it s j).name.length ≤ 60) ∧ VaSt w wr A s.length k) (fun iv _ => s.length - (intOf iv).toNat)
    case atStart => exact ⟨0, Nat.zero_le _, rfl, Lib.hid ⟨H.out, fun j hj => by omega⟩, st0⟩
    case round =>
      obtain ⟨i, hi, rfl, HR, st⟩ := hrel
      obtain ⟨wo, rfl⟩ : ∃ wo : World, wo = wr := ⟨_, rfl⟩
      have c0 : wo.cell? ⟨w.heap.size, 0, none⟩ = some (.slice A s.length k) := (st.bx.cell 0).trans rfl
      have hbl := st.bx.lt
      by_cases hlt : i < s.length
      · have hlt' : (i : Int) < s.length := by omega
        obtain ⟨b, off, e, hb, _, d0, d1⟩ := rsV_row (HV.out.keep (free_below st.bel)) i hlt
        subst e
        have HN := Lib.hid (refName_any wo (Rf.it s i).name)
        have hc := Rf.code.eq_1 s i
        have HBAD : Hid (Rf.code s i ≠ 0 → r = (Rf.code s i, (i : Int))) := Lib.hid fun h => by rw [HR.out.1, Rf.rfFrom_bad s i hlt h]
        have HNX : Hid (Rf.code s i = 0 → r = Rf.rfFrom s (i + 1)) := Lib.hid fun h => by rw [HR.out.1, Rf.rfFrom_next s i hlt h]
        have HLN := Lib.hid HR.out.2
        clear HR
        have HT0 := Lib.hid (fun (w' : World) (hw : Below wo.heap.size wo w') j (hj : j < s.length) => show ∃ b' off', some (⟨b, off, none⟩ : Addr) = some ⟨b', off', none⟩ ∧ b' < w'.heap.size ∧ w'.cell? ⟨b', off' + j * 2, none⟩ = some (strV (Rf.it s j).name) ∧ w'.cell? ⟨b', off' + j * 2 + 1, none⟩ = some (.int .i64 (Rf.it s j).tgt) from by
          obtain ⟨b', off', e', h0, _, h1, h2⟩ := rsV_row (HV.out.keep (free_below (st.bel.trans (hw.mono st.bel.size)))) j hj
          exact ⟨b', off', e', h0, h1, h2⟩)
        by_cases hn : Rf.nameOk (Rf.it s i).name = false
        · rw [if_pos hn] at hc
          have HB := Lib.hid (show r = (12, (i : Int)) from by rw [HBAD.out (by rw [hc]; decide), hc])
          rw [hn] at HN
          clear hc hn HBAD HNX HLN
          go_wp2_with fail
          go_at_call 17
          refine HN.out.mono ?_
          rintro e w2 ⟨rfl, hb2⟩
          have st2 := st.below hb2
          clear HN c0 d0 d1 hbl
          obtain ⟨b', off', e', hbb, d0, d1⟩ := HT0.out w2 hb2 i hlt
          cases e'
          generalize Rf.it s i = x at *
          have c0 : w2.cell? ⟨w.heap.size, 0, none⟩ = some (.slice (some ⟨b, off, none⟩) s.length k) := (st2.bx.cell 0).trans rfl
          have c1 : w2.cell? ⟨w.heap.size + 1, 0, none⟩ = some (.int .i64 0) := (st2.br.cell 0).trans rfl
          have c2 : w2.cell? ⟨w.heap.size + 1, 1, none⟩ = some (.int .i64 0) := (st2.br.cell 1).trans rfl
          have f1 := st2.br.frozen 0
          have f2 := st2.br.frozen 1
          have l0 := st2.bx.lt
          have l1 := st2.br.lt
          go_wp2_with fail
          go_at_call 21
          refine (fault_any _ _ _).mono ?_
          rintro e w9 ⟨rfl, rfl⟩
          go_wp2_with fail
          refine bodyPost_ret (results_c30 rfl _ _ (w.heap.size + 1) (.int .i64 12) (.int .i64 i) rfl ((blk_put2 st2.br _ _).alloc _)) rfl (FaultPost.mk_ HB.out ?_)
          exact (((st2.bel.setCell (by simp) _).setCell (by simp) _).alloc (by simp [World.setCell]; have := st2.bel.size; omega) _)
        · rw [if_neg hn] at hc
          have hn2 : Rf.nameOk (Rf.it s i).name = true := by simpa using hn
          have hx60 : (Rf.it s i).name.length ≤ 60 := by have := hn2; unfold Rf.nameOk at this; rw [Bool.and_eq_true] at this; simpa using this.1
          have HLN2 := Lib.hid (show ∀ j, j < i + 1 → (Rf.it s j).name.length ≤ 60 from fun j hj => by
            by_cases e : j = i
            · rw [e]; exact hx60
            · exact HLN.out j (by omega))
          rw [hn2] at HN
          clear hn hn2
          go_wp2_with fail
          go_at_call 17
          refine HN.out.mono ?_
          rintro e w2 ⟨rfl, hb2⟩
          have st2 := st.below hb2
          clear HN c0 d0 d1 hbl
          obtain ⟨b', off', e', hbb, d0, d1⟩ := HT0.out w2 hb2 i hlt
          cases e'
          have HD := Lib.hid (isDigest46_any w2 (Rf.it s i).tgt)
          by_cases hd : Rf.dgOk (Rf.it s i).tgt = false
          · rw [if_pos hd] at hc
            have HB := Lib.hid (show r = (3, (i : Int)) from by rw [HBAD.out (by rw [hc]; decide), hc])
            rw [hd] at HD
            clear hc hd HBAD HNX HLN HLN2 hx60
            generalize Rf.it s i = x at *
            have c0 : w2.cell? ⟨w.heap.size, 0, none⟩ = some (.slice (some ⟨b, off, none⟩) s.length k) := (st2.bx.cell 0).trans rfl
            have c1 : w2.cell? ⟨w.heap.size + 1, 0, none⟩ = some (.int .i64 0) := (st2.br.cell 0).trans rfl
            have c2 : w2.cell? ⟨w.heap.size + 1, 1, none⟩ = some (.int .i64 0) := (st2.br.cell 1).trans rfl
            have f1 := st2.br.frozen 0
            have f2 := st2.br.frozen 1
            have l0 := st2.bx.lt
            have l1 := st2.br.lt
            go_wp2_with fail
            go_at_call 46
            refine HD.out.mono ?_
            rintro e w3 ⟨rfl, rfl⟩
            go_wp2_with fail
            go_at_call 21
            refine (fault_any _ _ _).mono ?_
            rintro e w9 ⟨rfl, rfl⟩
            go_wp2_with fail
            refine bodyPost_ret (results_c30 rfl _ _ (w.heap.size + 1) (.int .i64 3) (.int .i64 i) rfl ((blk_put2 st2.br _ _).alloc _)) rfl (FaultPost.mk_ HB.out ?_)
            exact (((st2.bel.setCell (by simp) _).setCell (by simp) _).alloc (by simp [World.setCell]; have := st2.bel.size; omega) _)
          · rw [if_neg hd] at hc
            have hd2 : Rf.dgOk (Rf.it s i).tgt = true := by simpa using hd
            rw [hd2] at HD
            clear hd hd2
            have HT := Lib.hid (fun j hj => HT0.out w2 hb2 j hj)
            have HCF := Lib.hid (fun (w1 : World) j (hj : j < i) => refConflict_any w1 (Rf.it s j).name (Rf.it s i).name (by have := HLN2.out j (by omega); omega) (by omega))
            have HC5 : Hid (Rf.code s i = if 0 < i ∧ ¬ (Rf.it s (i - 1)).name < (Rf.it s i).name then 5 else if (s.take i).any (fun r => Rf.conf r.name (Rf.it s i).name) then 19 else 0) := Lib.hid hc
            have HJ : Hid ((0 < i → (Rf.it s (i - 1)).name < (Rf.it s i).name) → (∀ j, j < i → Rf.conf (Rf.it s j).name (Rf.it s i).name = false) → r = Rf.rfFrom s (i + 1)) := Lib.hid fun h1 h2 => HNX.out (by
              rw [HC5.out, if_neg (fun h => h.2 (h1 h.1)), if_neg]
              rw [Bool.not_eq_true, List.any_eq_false]
              intro y hy
              obtain ⟨j, hj, rfl⟩ := List.mem_iff_getElem.1 hy
              simp at hj
              have := h2 j (by omega)
              rw [← Rf.it_eq s j (by omega)] at this
              simpa using this)
            have H19 : Hid ((0 < i → (Rf.it s (i - 1)).name < (Rf.it s i).name) → ∀ j, j < i → Rf.conf (Rf.it s j).name (Rf.it s i).name = true → r = (19, (i : Int))) := Lib.hid fun h1 j hj h2 => by
              have : Rf.code s i = 19 := by
                rw [HC5.out, if_neg (fun h => h.2 (h1 h.1)), if_pos]
                rw [List.any_eq_true]
                refine ⟨s[j], ?_, by rw [Rf.it_eq s j (by omega)]; exact h2⟩
                rw [List.mem_take_iff_getElem]; exact ⟨j, by omega, rfl⟩
              rw [HBAD.out (by rw [this]; decide), this]
            have H5 : Hid (0 < i → ¬ (Rf.it s (i - 1)).name < (Rf.it s i).name → r = (5, (i : Int))) := Lib.hid fun h0 h1 => by
              have : Rf.code s i = 5 := by rw [HC5.out, if_pos ⟨h0, h1⟩]
              rw [HBAD.out (by rw [this]; decide), this]
            clear hc HC5 HNX HBAD HLN hx60
            by_cases hi0 : i = 0
            · have hz1 : decide ((0 : Int) < (i : Int)) = false := by simp; omega
              have hz2 : decide (0 < i) = false := by simp; omega
              have hz3 : ¬ (0 : Int) < i := by omega
              have H19b := Lib.hid (H19.out (fun h => absurd h (by omega)))
              have HJb := Lib.hid (HJ.out (fun h => absurd h (by omega)))
              clear H19 HJ H5
              obtain ⟨x, hx⟩ : ∃ x, x = Rf.it s i := ⟨_, rfl⟩
              have HX := Lib.hid hx.symm
              rw [← hx] at HD HCF H19b HJb d0 d1
              clear hx
              clear hi0
              have c0 : w2.cell? ⟨w.heap.size, 0, none⟩ = some (.slice (some ⟨b, off, none⟩) s.length k) := (st2.bx.cell 0).trans rfl
              have c1 : w2.cell? ⟨w.heap.size + 1, 0, none⟩ = some (.int .i64 0) := (st2.br.cell 0).trans rfl
              have c2 : w2.cell? ⟨w.heap.size + 1, 1, none⟩ = some (.int .i64 0) := (st2.br.cell 1).trans rfl
              have f1 := st2.br.frozen 0
              have f2 := st2.br.frozen 1
              have l0 := st2.bx.lt
              have l1 := st2.br.lt
              go_wp2_with fail
              go_at_call 46
              refine HD.out.mono ?_
              rintro e w3 ⟨rfl, rfl⟩
              go_wp2_with fail
              go_quiet (fail)
              have hq : Below w3.heap.size w3 (w3.drewN nq) := below_drewN' (Below.refl _ _) nq
              have st3 := st2.below hq
              generalize hw3 : w3.drewN nq = w5 at *
              clear hw3
              clear c0 c1 c2 f1 f2 l0 l1
              have HT5 := Lib.hid (fun (w' : World) (hw : Below w5.heap.size w5 w') j (hj : j < s.length) => HT0.out w' ((hb2.trans (hq.mono hb2.size)).trans (hw.mono (hb2.trans (hq.mono hb2.size)).size)) j hj)
              clear HT HT0 st2 hq d0 d1 hbb HD
              go_wp2_with fail
              go_loopw [4] (fun kv wr => ∃ kk : Nat, kk ≤ i ∧ kv = .int .i64 kk ∧ Hid (∀ j, j < kk → Rf.conf (Rf.it s j).name x.name = false) ∧ VaSt w wr (some ⟨b, off, none⟩) s.length k ∧ Below w5.heap.size w5 wr) (fun kv _ => i - (intOf kv).toNat)
              case atStart => exact ⟨0, Nat.zero_le _, rfl, Lib.hid (fun j hj => by omega), st3, Below.refl _ _⟩
              case round =>
                obtain ⟨kk, hkk, rfl, HK, st4, hb4⟩ := hrel
                obtain ⟨w6, rfl⟩ : ∃ w6 : World, w6 = wr := ⟨_, rfl⟩
                by_cases hki : kk < i
                · exact absurd hki (by omega)
                · obtain rfl : kk = i := by omega
                  have HE := Lib.hid (HJb.out HK.out)
                  clear HK
                  go_wp2_with fail
                  go_roundw
                  case rel => exact ⟨kk + 1, by omega, by go_num, Lib.hid ⟨HE.out, HLN2.out⟩, st4⟩
                  case measure => simp [intOf]; omega
            · have hz1 : decide ((0 : Int) < (i : Int)) = true := by simp; omega
              have hz2 : decide (0 < i) = true := by simp; omega
              have hz3 : (0 : Int) ≤ (i : Int) - 1 := by omega
              have hz4 : (i : Int) - 1 < s.length := by omega
              have hz5 : (0 : Int) < i := by omega
              obtain ⟨b', off', e', _, hp, _⟩ := HT.out (i - 1) (by omega)
              cases e'
              by_cases hle : (Rf.it s (i - 1)).name < (Rf.it s i).name
              · have hcmp := leq_false hle
                have H19b := Lib.hid (H19.out (fun _ => hle))
                have HJb := Lib.hid (HJ.out (fun _ => hle))
                clear H19 HJ H5
                obtain ⟨x, hx⟩ : ∃ x, x = Rf.it s i := ⟨_, rfl⟩
                have HX := Lib.hid hx.symm
                rw [← hx] at HD HCF H19b HJb d0 d1
                clear hx
                rw [HX.out] at hcmp
                clear hle
                have c0 : w2.cell? ⟨w.heap.size, 0, none⟩ = some (.slice (some ⟨b, off, none⟩) s.length k) := (st2.bx.cell 0).trans rfl
                have c1 : w2.cell? ⟨w.heap.size + 1, 0, none⟩ = some (.int .i64 0) := (st2.br.cell 0).trans rfl
                have c2 : w2.cell? ⟨w.heap.size + 1, 1, none⟩ = some (.int .i64 0) := (st2.br.cell 1).trans rfl
                have f1 := st2.br.frozen 0
                have f2 := st2.br.frozen 1
                have l0 := st2.bx.lt
                have l1 := st2.br.lt
                go_wp2_with fail
                go_at_call 46
                refine HD.out.mono ?_
                rintro e w3 ⟨rfl, rfl⟩
                go_wp2_with fail
                go_quiet (fail)
                have hq : Below w3.heap.size w3 (w3.drewN nq) := below_drewN' (Below.refl _ _) nq
                have st3 := st2.below hq
                generalize hw3 : w3.drewN nq = w5 at *
                clear hw3
                clear c0 c1 c2 f1 f2 l0 l1
                clear hp hcmp hz1 hz2 hz3 hz4 hz5
                have HT5 := Lib.hid (fun (w' : World) (hw : Below w5.heap.size w5 w') j (hj : j < s.length) => HT0.out w' ((hb2.trans (hq.mono hb2.size)).trans (hw.mono (hb2.trans (hq.mono hb2.size)).size)) j hj)
                clear HT HT0 st2 hq d0 d1 hbb HD
                go_wp2_with fail
                go_loopw [4] (fun kv wr => ∃ kk : Nat, kk ≤ i ∧ kv = .int .i64 kk ∧ Hid (∀ j, j < kk → Rf.conf (Rf.it s j).name x.name = false) ∧ VaSt w wr (some ⟨b, off, none⟩) s.length k ∧ Below w5.heap.size w5 wr) (fun kv _ => i - (intOf kv).toNat)
                case atStart => exact ⟨0, Nat.zero_le _, rfl, Lib.hid (fun j hj => by omega), st3, Below.refl _ _⟩
                case round =>
                  obtain ⟨kk, hkk, rfl, HK, st4, hb4⟩ := hrel
                  obtain ⟨w6, rfl⟩ : ∃ w6 : World, w6 = wr := ⟨_, rfl⟩
                  by_cases hki : kk < i
                  · have hki' : (kk : Int) < i := by omega
                    have hkl : (kk : Int) < s.length := by omega
                    obtain ⟨b', off', e', hbb, d0, _⟩ := HT5.out w6 hb4 kk (by omega)
                    cases e'
                    obtain ⟨b', off', e', _, d1, _⟩ := HT5.out w6 hb4 i hlt
                    cases e'
                    have HF1 := Lib.hid (fun w1 => HCF.out w1 kk hki)
                    have HK1 : Hid (Rf.conf (Rf.it s kk).name x.name = false → ∀ j, j < kk + 1 → Rf.conf (Rf.it s j).name x.name = false) := Lib.hid fun h j hj => by
                      by_cases e : j = kk
                      · rw [e]; exact h
                      · exact HK.out j (by omega)
                    have HB1 : Hid (Rf.conf (Rf.it s kk).name x.name = true → r = (19, (i : Int))) := Lib.hid fun h => H19b.out kk hki h
                    rw [HX.out] at d1
                    clear HK
                    generalize Rf.it s kk = y at *
                    have c0 : w6.cell? ⟨w.heap.size, 0, none⟩ = some (.slice (some ⟨b, off, none⟩) s.length k) := (st4.bx.cell 0).trans rfl
                    have c1 : w6.cell? ⟨w.heap.size + 1, 0, none⟩ = some (.int .i64 0) := (st4.br.cell 0).trans rfl
                    have c2 : w6.cell? ⟨w.heap.size + 1, 1, none⟩ = some (.int .i64 0) := (st4.br.cell 1).trans rfl
                    have f1 := st4.br.frozen 0
                    have f2 := st4.br.frozen 1
                    have l0 := st4.bx.lt
                    have l1 := st4.br.lt
                    cases hcf : Rf.conf y.name x.name with
                    | true =>
                      rw [hcf] at HF1
                      have HE := Lib.hid (HB1.out hcf)
                      clear hcf HB1 HK1
                      have hk0 : Below w6.heap.size w6 w6.drew := below_drew' (Below.refl _ _)
                      have HKK : Hid (∀ w7 : World, Below w6.heap.size w6 w7 → w7.cell? ⟨w.heap.size, 0, none⟩ = some (.slice (some ⟨b, off, none⟩) s.length k) ∧ w7.cell? ⟨b, off + kk * 2, none⟩ = some (strV y.name) ∧ w7.cell? ⟨b, off + i * 2, none⟩ = some (strV x.name)) := Lib.hid fun w7 h7 => ⟨(h7.cell (p := ⟨_, _, none⟩) l0).trans c0, (h7.cell (p := ⟨_, _, none⟩) hbb).trans d0, (h7.cell (p := ⟨_, _, none⟩) hbb).trans d1⟩
                      go_wp2_with fail
                      go_region_held3 (fun w7 => w7.cell? ⟨w.heap.size, 0, none⟩ = some (.slice (some ⟨b, off, none⟩) s.length k) ∧ w7.cell? ⟨b, off + kk * 2, none⟩ = some (strV y.name) ∧ w7.cell? ⟨b, off + i * 2, none⟩ = some (strV x.name))
                        (first | exact HKK.out _ hk0 | exact HKK.out _ hk1)
                        (first | (go_at_call 24; (with_reducible refine (HF1.out _).mono ?_); rintro e w8 ⟨rfl, hv⟩; have hk1 : Below w6.heap.size w6 w8 := hk0.trans (hv.mono hk0.size)))
                      have st8 := st4.below hk1
                      clear c0 c1 c2 f1 f2 l0 l1 HKK d0 d1
                      have e0 : w8.cell? ⟨w.heap.size + 1, 0, none⟩ = some (.int .i64 0) := (st8.br.cell 0).trans rfl
                      have e1 : w8.cell? ⟨w.heap.size + 1, 1, none⟩ = some (.int .i64 0) := (st8.br.cell 1).trans rfl
                      have g1 := st8.br.frozen 0
                      have g2 := st8.br.frozen 1
                      have m1 := st8.br.lt
                      have HB := HE
                      go_wp2_with fail
                      go_at_call 21
                      refine (fault_any _ _ _).mono ?_
                      rintro e w9 ⟨rfl, rfl⟩
                      go_wp2_with fail
                      refine bodyPost_ret (results_c30 rfl _ _ (w.heap.size + 1) (.int .i64 19) (.int .i64 i) rfl ((blk_put2 st8.br _ _).alloc _)) rfl (FaultPost.mk_ HB.out ?_)
                      exact (((st8.bel.setCell (by simp) _).setCell (by simp) _).alloc (by simp [World.setCell]; have := st8.bel.size; omega) _)
                    | false =>
                      rw [hcf] at HF1
                      have HE := Lib.hid (HK1.out hcf)
                      clear hcf HB1 HK1
                      have hk0 : Below w6.heap.size w6 w6.drew := below_drew' (Below.refl _ _)
                      have HKK : Hid (∀ w7 : World, Below w6.heap.size w6 w7 → w7.cell? ⟨w.heap.size, 0, none⟩ = some (.slice (some ⟨b, off, none⟩) s.length k) ∧ w7.cell? ⟨b, off + kk * 2, none⟩ = some (strV y.name) ∧ w7.cell? ⟨b, off + i * 2, none⟩ = some (strV x.name)) := Lib.hid fun w7 h7 => ⟨(h7.cell (p := ⟨_, _, none⟩) l0).trans c0, (h7.cell (p := ⟨_, _, none⟩) hbb).trans d0, (h7.cell (p := ⟨_, _, none⟩) hbb).trans d1⟩
                      go_wp2_with fail
                      go_region_held3 (fun w7 => w7.cell? ⟨w.heap.size, 0, none⟩ = some (.slice (some ⟨b, off, none⟩) s.length k) ∧ w7.cell? ⟨b, off + kk * 2, none⟩ = some (strV y.name) ∧ w7.cell? ⟨b, off + i * 2, none⟩ = some (strV x.name))
                        (first | exact HKK.out _ hk0 | exact HKK.out _ hk1)
                        (first | (go_at_call 24; (with_reducible refine (HF1.out _).mono ?_); rintro e w8 ⟨rfl, hv⟩; have hk1 : Below w6.heap.size w6 w8 := hk0.trans (hv.mono hk0.size)))
                      have st8 := st4.below hk1
                      clear c0 c1 c2 f1 f2 l0 l1 HKK d0 d1
                      go_wp2_with fail
                      go_roundw
                      case rel => exact ⟨kk + 1, by omega, by go_num, HE, st8, hb4.trans (hk1.mono hb4.size)⟩
                      case measure => simp [intOf]; omega
                  · obtain rfl : kk = i := by omega
                    have HE := Lib.hid (HJb.out HK.out)
                    clear HK
                    go_wp2_with fail
                    go_roundw
                    case rel => exact ⟨kk + 1, by omega, by go_num, Lib.hid ⟨HE.out, HLN2.out⟩, st4⟩
                    case measure => simp [intOf]; omega
              · have hcmp := leq_true hle
                have HB := Lib.hid (H5.out (by omega) hle)
                clear H5 H19 HJ HCF HLN2 hle
                generalize Rf.it s (i - 1) = y at *
                generalize Rf.it s i = x at *
                have c0 : w2.cell? ⟨w.heap.size, 0, none⟩ = some (.slice (some ⟨b, off, none⟩) s.length k) := (st2.bx.cell 0).trans rfl
                have c1 : w2.cell? ⟨w.heap.size + 1, 0, none⟩ = some (.int .i64 0) := (st2.br.cell 0).trans rfl
                have c2 : w2.cell? ⟨w.heap.size + 1, 1, none⟩ = some (.int .i64 0) := (st2.br.cell 1).trans rfl
                have f1 := st2.br.frozen 0
                have f2 := st2.br.frozen 1
                have l0 := st2.bx.lt
                have l1 := st2.br.lt
                go_wp2_with fail
                go_at_call 46
                refine HD.out.mono ?_
                rintro e w3 ⟨rfl, rfl⟩
                go_wp2_with fail
                go_quiet (fail)
                have hq : Below w3.heap.size w3 (w3.drewN nq) := below_drewN' (Below.refl _ _) nq
                have st3 := st2.below hq
                generalize hw3 : w3.drewN nq = w5 at *
                clear hw3
                clear c0 c1 c2 f1 f2 l0 l1
                have c0 : w5.cell? ⟨w.heap.size, 0, none⟩ = some (.slice (some ⟨b, off, none⟩) s.length k) := (st3.bx.cell 0).trans rfl
                have c1 : w5.cell? ⟨w.heap.size + 1, 0, none⟩ = some (.int .i64 0) := (st3.br.cell 0).trans rfl
                have c2 : w5.cell? ⟨w.heap.size + 1, 1, none⟩ = some (.int .i64 0) := (st3.br.cell 1).trans rfl
                have f1 := st3.br.frozen 0
                have f2 := st3.br.frozen 1
                have l0 := st3.bx.lt
                have l1 := st3.br.lt
                go_wp2_with fail
                go_at_call 21
                refine (fault_any _ _ _).mono ?_
                rintro e w9 ⟨rfl, rfl⟩
                go_wp2_with fail
                refine bodyPost_ret (results_c30 rfl _ _ (w.heap.size + 1) (.int .i64 5) (.int .i64 i) rfl ((blk_put2 st3.br _ _).alloc _)) rfl (FaultPost.mk_ HB.out ?_)
                exact (((st3.bel.setCell (by simp) _).setCell (by simp) _).alloc (by simp [World.setCell]; have := st3.bel.size; omega) _)
      · obtain rfl : i = s.length := by omega
        have c1 : wo.cell? ⟨w.heap.size + 1, 0, none⟩ = some (.int .i64 0) := (st.br.cell 0).trans rfl
        have c2 : wo.cell? ⟨w.heap.size + 1, 1, none⟩ = some (.int .i64 0) := (st.br.cell 1).trans rfl
        have f1 := st.br.frozen 0
        have f2 := st.br.frozen 1
        have l1 := st.br.lt
        have HB := Lib.hid (show r = (0, 0) from by rw [HR.out.1, Rf.rfFrom_end s _ (Nat.le_refl _)])
        go_wp2_with fail
        refine bodyPost_ret (results_c30 rfl _ _ (w.heap.size + 1) (.int .i64 0) (.int .i64 0) rfl (blk_put2 st.br _ _)) rfl (FaultPost.mk_ HB.out ?_)
        exact (st.bel.setCell (by simp) _).setCell (by simp) _
end Go.Proofs.YtfbbgnhelannjaaDoor
