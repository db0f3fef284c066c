/-
  Markers: walk of 'Orphans', given what 'Validate' tells, second part.
-/
import Derived.Test.YtebohncdhhikkaaOq4
import Derived.Test.YtebohncdhhikkaaView5
import Derived.Deep.WholeRow
namespace Go.Proofs.Ytebohncdhhikkaa
open Go.RowKit Go.V
set_option linter.unusedVariables false

theorem ints_one (os : List Int) : ∀ u ∈ intsV os, u.oneCell' = true := intsV_one os
set_option maxRecDepth 100000 in
set_option maxHeartbeats 16000000 in
theorem orphans_any (w : World) (A1 : Option Addr) (k1 : Nat) (ms : List Oq.Mk) (hv1 : MV w A1 ms) (hl1 : ms.length ≤ 9223372036854775807) (A : Option Addr) (k : Nat) (l : List Hs.Cm) (hv : CV w A l) (hl : l.length ≤ 9223372036854775807)
    (HOV : ∀ w1, Below w.heap.size w w1 → Calls Try.prog 16 #[.slice A1 ms.length k1] w1 (OvPost w1 ms)) :
    Calls Try.prog 5 #[.slice A1 ms.length k1, .slice A l.length k] w (OrPost w ms l) := by
  replace HOV := Lib.hid HOV
  have HHV := Lib.hid (fun (w1 : World) (hb : Below w.heap.size w w1) => validate_any w1 A k l (hv.below hb) hl)
  have HGN := Lib.hid (fun (w1 : World) (hb : Below w.heap.size w w1) hok => gone_any w1 A1 k1 ms (hv1.below hb) hl1 hok)
  have HV := Lib.hid (fun (w1 : World) (hb : Below w.heap.size w w1) => hv.below hb)
  have HVO := Lib.hid (Hs.validate_ok l)
  clear hv hv1
  have b0 := Blk.new w 28 #[.int .i64 0, .int .i64 0]
  have hb0 := below_alloc1 w (.cells #[.int .i64 0, .int .i64 0] 28)
  have hmk := run_make_row' (P := Try.prog) 46 4 (.bool false) 1 Try.underlying46 info4 rfl .i64 .i64 l.length
  obtain ⟨i0, hi0, hz0, hz1, hz2⟩ := info_parts info3
  go_enter Try.func5, Try.ntmps5
  go_wp2_with fail
  go_at_call 16
  with_reducible refine (HOV.out _ hb0).mono ?_
  rintro e w1 ⟨c, ix, rfl, hcok, hb1⟩
  replace b0 := b0.below hb1 b0.lt
  replace hb0 := hb0.trans (hb1.mono hb0.size)
  clear HOV hb1
  by_cases hz : c = 0
  · obtain ⟨hix, h40, hok⟩ := hcok hz
    subst hz
    subst hix
    have b1 := b0.alloc (.cells #[.int .i64 0, .int .i64 0] 28)
    have hb1 := hb0.alloc hb0.size (.cells #[.int .i64 0, .int .i64 0] 28)
    have HH2 := Lib.hid (HHV.out _ hb1)
    clear HHV hcok b0 hb0
    go_wp2_with fail
    go_at_call 17
    with_reducible refine HH2.out.mono ?_
    rintro e w2 ⟨rfl, hb2⟩
    replace b1 := b1.below hb2 b1.lt
    replace hb1 := hb1.trans (hb2.mono hb1.size)
    clear hb2 HH2
    by_cases hbad : (Hs.validate l).1 = 0
    · obtain ⟨hvz, hsok⟩ := HVO.out hbad
      rw [hvz]
      have HSO := Lib.hid hsok
      have HOK := Lib.hid hok
      have b2 := b1.alloc (.cells #[.int .i64 0, .int .i64 0] 28)
      have hb2 := hb1.alloc hb1.size (.cells #[.int .i64 0, .int .i64 0] 28)
      have HG2 := Lib.hid (HGN.out _ hb2 hok)
      have hl60 := hsok.len
      replace hmk := hmk (by omega) (by omega)
      clear HVO HGN hbad hvz hsok hok b1 hb1
      go_wp2_with fail
      go_at_call 18
      with_reducible refine HG2.out.mono ?_
      rintro e w3 ⟨rfl, hb3⟩
      replace b2 := b2.below hb3 b2.lt
      replace hb2 := hb2.trans (hb3.mono hb2.size)
      have hLN : boolsA (tab 60 fun i : Nat => Oq.lost ms (i : Int)) = boolsA (tab 60 (Oq.lostN ms)) := rfl
      rw [hLN]
      clear hLN
      generalize hLL : Oq.lostN ms = L at *
      have HLL := Lib.hid hLL
      have hCSz : (boolsA (tab 60 L)).size = 60 := boolsA_size 60 L
      have hone := boolsA_one (tab 60 L)
      have hsz2 : (Try.prog.info? 52).map (·.size) = some (boolsA (tab 60 L)).size := by rw [hCSz]; kernel_rfl
      have bL := (Blk.new w3 52 (boolsA (tab 60 L))).alloc (.cells (madeCells #[.bool false] l.length) 4)
      have bB := blk_made_bool (w3.alloc (.cells (boolsA (tab 60 L)) 52)) 4 l.length
      have hszB : (w3.alloc (.cells (boolsA (tab 60 L)) 52)).heap.size = w3.heap.size + 1 := by simp
      rw [hszB] at bB
      have st0 : OrSt w ((w3.alloc (.cells (boolsA (tab 60 L)) 52)).alloc (.cells (madeCells #[.bool false] l.length) 4)) (w3.heap.size + 1) w3.heap.size l.length (Oq.oAt l L 0) L :=
        ⟨bB, bL, (b2.alloc _).alloc _, (hb2.alloc hb2.size _).alloc (by simp; have := hb2.size; omega) _, Nat.le_succ_of_le hb2.size⟩
      clear hLL bL bB b2 hb2 hb3 HG2
      generalize boolsA (tab 60 L) = CS at *
      go_wp2_with (first | (refine wpList_store_row rfl 52 (.tmp 8) (.tmp 30) rfl w3.heap.size CS rfl rfl 52 _ (Blk.new w3 52 _) hsz2 (by rw [hCSz]; rfl) hone ?_; rw [World.setRow_alloc_new]))
      have HV0 := Lib.hid (HV.out w (Below.refl _ _))
      have HPN := Lib.hid (fun i j hi hj => HSO.out.par_nat i j hi hj)
      have HPL := Lib.hid (fun i hi => Hs.pars_length l i hi)
      have h3l := Lib.hid (fun i hi => HSO.out.par_len i hi)
      clear HV
      go_loopw [10, 36] (fun ov iv wr => ∃ (i : Nat) (Ao : Option Addr) (co : Nat), i ≤ l.length ∧ ov = .slice Ao (Oq.orph l L i).length co ∧ iv = .int .i64 i ∧ OrSt w wr (w3.heap.size + 1) w3.heap.size l.length (Oq.oAt l L i) L ∧ wr.ownsRow w.heap.size 3 1 (.slice Ao (Oq.orph l L i).length co) (Oq.orph l L i).length (intsV (Oq.orph l L i))) (fun _ iv _ => l.length - (intOf iv).toNat)
      case atStart => exact ⟨0, none, 0, Nat.zero_le _, rfl, rfl, st0, World.ownsRow_nil _ _ _ _⟩
      case round =>
        clear st0
        obtain ⟨i, Ao, co, hi, rfl, rfl, st, hown⟩ := hrel
        obtain ⟨wo, rfl⟩ : ∃ wo : World, wo = wr := ⟨_, rfl⟩
        have hsz := st.bel.size
        by_cases hlt : i < l.length
        · have hlt' : (i : Int) < l.length := by omega
          obtain ⟨b, off, Ap, kp, e, hb, d0, d1, d2, d3, d4, hco, hip⟩ := HV0.out.row i hlt
          subst e
          replace d0 := (st.bel.cell (p := ⟨b, off + i * 5, none⟩) hb).trans d0
          replace d1 := (st.bel.cell (p := ⟨b, off + i * 5 + 1, none⟩) hb).trans d1
          replace d2 := (st.bel.cell (p := ⟨b, off + i * 5 + 2, none⟩) hb).trans d2
          replace d3 := (st.bel.cell (p := ⟨b, off + i * 5 + 3, none⟩) hb).trans d3
          replace d4 := (st.bel.cell (p := ⟨b, off + i * 5 + 4, none⟩) hb).trans d4
          have hbo : b < wo.heap.size := Nat.lt_of_lt_of_le hb hsz
          have HP := Lib.hid (fun j hj => HPN.out i j hlt hj)
          have hpl := HPL.out i hlt
          have h3 := h3l.out i hlt
          have HSU := Lib.hid (Oq.orph_succ l L i)
          have holn := Oq.orph_len l L i
          generalize l[i] = cm at *
          obtain ⟨par, au, tm, tr, msg⟩ := cm
          simp only at *
          have HIP := Lib.hid hip
          have hal := below_alloc1 wo (.cells #[.slice Ap par.length kp, .int .i64 au, .int .i64 tm, .int .i64 tr, .string msg] 45)
          have st1 := (st.below hal).congr (Oq.oIn_zero l L i)
          have hown1 := hown.alloc (.cells #[.slice Ap par.length kp, .int .i64 au, .int .i64 tm, .int .i64 tr, .string msg] 45)
          have HAL := Lib.hid (Oq.oIn_all l L i par.length (by omega))
          clear st hown hco hip
          go_wp2_with fail
          go_loopw [44] (fun jv wr => ∃ j : Nat, j ≤ par.length ∧ jv = .int .i64 j ∧ OrSt w wr (w3.heap.size + 1) w3.heap.size l.length (Oq.oIn l L i j) L ∧ wr.ownsRow w.heap.size 3 1 (.slice Ao (Oq.orph l L i).length co) (Oq.orph l L i).length (intsV (Oq.orph l L i))) (fun jv _ => par.length - (intOf jv).toNat)
          case atStart => exact ⟨0, Nat.zero_le _, rfl, st1, hown1⟩
          case round =>
            clear st1 hown1 hal d0 d1 d2 d3 d4
            obtain ⟨j, hj, rfl, st, hown⟩ := hrel
            obtain ⟨wi, rfl⟩ : ∃ wi : World, wi = wr := ⟨_, rfl⟩
            by_cases hjl : j < par.length
            · have hjl' : (j : Int) < par.length := by omega
              obtain ⟨b', off', e', hb', hc'⟩ := HIP.out.atIn st.bel j hjl
              subst e'
              obtain ⟨p, hp, hpi, hj', hpe⟩ := HP.out j hjl
              rw [hp] at hc'
              have hpn : p < l.length := by omega
              have hpn' : (p : Int) < l.length := by omega
              have hp60 : p < 60 := by omega
              have hp60' : (p : Int) < 60 := by omega
              have hp0 : (0 : Int) ≤ p := by omega
              have q1 := blk_tabB st.fl i hlt
              have q2 := blk_tabB st.fl p hpn
              have q3 := blk_tabB st.lo p hp60
              have qf := st.fl.frozen i
              have l1 := st.fl.lt
              have l2 := st.lo.lt
              have hst := st.set_ (f' := Oq.oIn l L i (j + 1)) i (Oq.oIn l L i j i || Oq.oIn l L i j p || L p) (fun q _ => Oq.oIn_succ l L i j q p hj' hpe hpi)
              have hown2 := own_setCell4 (i := i) hown st.fl (.bool (Oq.oIn l L i j i || Oq.oIn l L i j p || L p))
              clear hp hpe st hown
              generalize Oq.oIn l L i j i = v1 at *
              generalize Oq.oIn l L i j p = v2 at *
              generalize L p = v3 at *
              cases v1 with
              | true =>
                simp only [Bool.true_or] at hst hown2
                go_wp2_with fail
                go_roundw
                case rel => exact ⟨j + 1, by omega, by go_num, hst, hown2⟩
                case measure => simp [intOf]; omega
              | false =>
                cases v2 with
                | true =>
                  simp only [Bool.true_or, Bool.false_or] at hst hown2
                  go_wp2_with fail
                  go_roundw
                  case rel => exact ⟨j + 1, by omega, by go_num, hst, hown2⟩
                  case measure => simp [intOf]; omega
                | false =>
                  simp only [Bool.false_or] at hst hown2
                  go_wp2_with fail
                  go_roundw
                  case rel => exact ⟨j + 1, by omega, by go_num, hst, hown2⟩
                  case measure => simp [intOf]; omega
            · obtain rfl : j = par.length := by omega
              have st2 := st.congr HAL.out.symm
              have hi60 : i < 60 := by omega
              have hi60' : (i : Int) < 60 := by omega
              have q1 := blk_tabB st2.fl i hlt
              have q3 := blk_tabB st2.lo i hi60
              have l1 := st2.fl.lt
              have l2 := st2.lo.lt
              have hsw := st2.bel.size
              clear st HAL HP HIP
              generalize hv1 : Oq.oAt l L (i + 1) i = v1 at *
              generalize hv3 : L i = v3 at *
              cases v1 with
              | false =>
                have HE : Hid (Oq.orph l L (i + 1) = Oq.orph l L i) := Lib.hid (by rw [HSU.out]; simp)
                clear HSU
                go_wp2_with fail
                go_roundw
                case rel => exact ⟨i + 1, Ao, co, by omega, by rw [HE.out], by go_num, st2, by rw [HE.out]; exact hown⟩
                case measure => simp [intOf]; omega
              | true =>
                cases v3 with
                | true =>
                  have HE : Hid (Oq.orph l L (i + 1) = Oq.orph l L i) := Lib.hid (by rw [HSU.out]; simp)
                  clear HSU
                  go_wp2_with fail
                  go_roundw
                  case rel => exact ⟨i + 1, Ao, co, by omega, by rw [HE.out], by go_num, st2, by rw [HE.out]; exact hown⟩
                  case measure => simp [intOf]; omega
                | false =>
                  have HE : Hid (Oq.orph l L (i + 1) = Oq.orph l L i ++ [(i : Int)]) := Lib.hid (by rw [HSU.out]; simp)
                  clear HSU
                  generalize Oq.orph l L i = os at *
                  have h63 : os.length + 1 ≤ maxLen := by unfold maxLen; omega
                  have hby : (os.length + 1) * 8 ≤ 140737488355328 := by omega
                  have hu : (wi.alloc (.cells #[.int .i64 (i : Int)] 3)).cell? ⟨wi.heap.size, 0, none⟩ = some (.int .i64 (i : Int)) := ((Blk.new wi 3 #[.int .i64 (i : Int)]).cell 0).trans rfl
                  go_wp2_with (first | (at_builtin; refine wpList_app1 _ rfl (.tmp 77) (.tmp 79) 26 rfl w.heap.size 3 i0 (.int .i64 0) 8 Try.underlying26 hi0 hz0 hz1 hz2 rfl Ao os.length co (intsV os) rfl (hown.alloc _) wi.heap.size 1 (.int .i64 (i : Int)) rfl hu rfl h63 hby (Nat.le_trans hsw (by simp)) ?_))
                  intro A' c' w' hown' hg' hc'
                  have st5 := st2.app _ hown hg'
                  clear hg' hown hu hc' st2
                  go_wp2_with fail
                  go_roundw
                  case rel => exact ⟨i + 1, A', c', by omega, by rw [HE.out]; simp, by go_num, st5, by rw [HE.out]; simpa [intsV] using hown'⟩
                  case measure => simp [intOf]; omega
        · obtain rfl : i = l.length := by omega
          have HF := Lib.hid (show ∀ W, IV W Ao (Oq.orph l L l.length) → Below w.heap.size w W → OrPost w ms l (.returned (.tuple #[.slice Ao (Oq.orph l L l.length).length co, .agg #[.int .i64 0, .int .i64 0]])) W from fun W h1 h2 =>
            ⟨0, 0, Ao, Oq.orph l L l.length, co, rfl, fun h => absurd rfl h, fun _ => ⟨HSO.out, HOK.out, h40, by rw [HLL.out]⟩, h1, h2⟩)
          have hownR := own_setCell (own_setCell hown (own_blk_ne hown st.rs (by decide)) (p := ⟨w.heap.size, 0, none⟩) (.int .i64 0)) (p := ⟨w.heap.size, 1, none⟩) (own_blk_ne hown st.rs (by decide)) (.int .i64 0)
          have q0 := (st.rs.cell 0).trans rfl
          have q1 := (st.rs.cell 1).trans rfl
          have f0 := st.rs.frozen 0
          have f1 := st.rs.frozen 1
          have l1 := st.rs.lt
          clear HSO HOK HLL
          generalize Oq.orph l L l.length = os at *
          go_wp2_with fail
          refine bodyPost_ret (results_tc rfl _ _ w.heap.size (.int .i64 0) (.int .i64 0) rfl (blk_put26 st.rs _ _)) rfl ?_
          exact HF.out _ (SV.of_own hownR) ((st.bel.setCell (p := ⟨w.heap.size, 0, none⟩) (Nat.le_refl _) _).setCell (p := ⟨w.heap.size, 1, none⟩) (Nat.le_refl _) _)
    · have hx1 : ((Hs.validate l).1 == 0) = false := by simpa using hbad
      have hx2 : ((Hs.validate l).1 != 0) = true := by simpa using hbad
      have HF := Lib.hid (show ∀ W, Below w.heap.size w W → OrPost w ms l (.returned (.tuple #[.slice none 0 0, .agg #[.int .i64 (Hs.validate l).1, .int .i64 (-2)]])) W from fun W h2 =>
        ⟨(Hs.validate l).1, -2, none, [], 0, rfl, fun _ => rfl, fun h => absurd h hbad, .inl rfl, h2⟩)
      clear hbad HVO HGN hmk hok
      generalize Hs.validate l = v at *
      obtain ⟨cd, ix⟩ := v
      simp only at *
      have q0 := (b1.cell 0).trans rfl
      have q1 := (b1.cell 1).trans rfl
      have f0 := b1.frozen 0
      have f1 := b1.frozen 1
      have l1 := b1.lt
      go_wp2_with fail
      go_region
      all_goals
        go_wp2_with fail
        refine bodyPost_ret (results_tc rfl _ _ w.heap.size (.int .i64 cd) (.int .i64 (-2)) rfl ((blk_put26 b1 _ _).alloc _).drew) rfl ?_
        exact HF.out _ (below_drew' (((hb1.setCell (p := ⟨w.heap.size, 0, none⟩) (Nat.le_refl _) _).setCell (p := ⟨w.heap.size, 1, none⟩) (Nat.le_refl _) _).alloc (by simp [World.setCell]; exact hb1.size) _))
  · have hx1 : (c == 0) = false := by simpa using hz
    have hx2 : (c != 0) = true := by simpa using hz
    have HF := Lib.hid (show ∀ W, Below w.heap.size w W → OrPost w ms l (.returned (.tuple #[.slice none 0 0, .agg #[.int .i64 c, .int .i64 ix]])) W from fun W h2 =>
      ⟨c, ix, none, [], 0, rfl, fun _ => rfl, fun h => absurd h hz, .inl rfl, h2⟩)
    have q0 := (b0.cell 0).trans rfl
    have q1 := (b0.cell 1).trans rfl
    have f0 := b0.frozen 0
    have f1 := b0.frozen 1
    have l1 := b0.lt
    clear hz hcok HVO HGN hmk HHV
    go_wp2_with fail
    go_region
    all_goals
      go_wp2_with fail
      refine bodyPost_ret (results_tc rfl _ _ w.heap.size (.int .i64 c) (.int .i64 ix) rfl ((blk_put26 b0 _ _).alloc _).drew) rfl ?_
      exact HF.out _ (below_drew' (((hb0.setCell (p := ⟨w.heap.size, 0, none⟩) (Nat.le_refl _) _).setCell (p := ⟨w.heap.size, 1, none⟩) (Nat.le_refl _) _).alloc (by simp [World.setCell]; exact hb0.size) _))
end Go.Proofs.Ytebohncdhhikkaa
