/-
  Queries: walk of 'Eval' at a query that is right.
-/
import Derived.Test.YtebohncdhhikkaaOq11
import Derived.OrdersHeld
namespace Go.Proofs.Ytebohncdhhikkaa
open Go.RowKit Go.V
set_option linter.unusedVariables false
set_option maxRecDepth 100000 in
set_option maxHeartbeats 32000000 in
theorem eval_any (w : World) (A A2 : Option Addr) (k k2 : Nat) (l : List Hs.Cm) (q : List Oq.N) (hv : CV w A l) (hok : Hs.Ok l) (hq : QV w A2 q) (h0 : 0 < q.length) (h40 : q.length ≤ 40) (r : Int) (hrun : Oq.run q 0 [] = some [r]) (hko : Oq.KOk q) :
    Calls Try.prog 14 #[.slice A l.length k, .agg #[.slice A2 q.length k2]] w (EvPost w l q) := by
  have hl60 := hok.len
  have HVA := Lib.hid (fun (w1 : World) (hb : Below w.heap.size w w1) => (show Calls Try.prog 17 #[.slice A l.length k] w1 (FaultPost w1 (0, 0)) from Hs.validate_of_ok hok ▸ validate_any w1 A k l (hv.below hb) (by omega)))
  have HVQ := Lib.hid (fun (w1 : World) (hb : Below w.heap.size w w1) => vq_any w1 A2 k2 q r (hq.below hb) h0 h40 hrun)
  have HN := Lib.hid (fun (w1 : World) (hb : Below w.heap.size w w1) (i : Nat) (hi : i < q.length) => hq.at_ hb i hi)
  have HI := Lib.hid (fun (i : Nat) (hi : i < q.length) => Oq.ops_in q 0 [] [r] hrun (by simp) i hi)
  have HK := Lib.hid (fun (i : Nat) (hi : i < q.length) => hko q[i] (List.getElem_mem hi))
  have HT := Lib.hid (fun (i : Nat) (hi : i < q.length) => Oq.evL_take l q i hi)
  have HL := Lib.hid (fun (i : Nat) (hi : i ≤ q.length) => (show (Oq.evL l (q.take i) []).length = i by rw [Oq.evL_len]; simp; omega))
  have HCV := Lib.hid (fun (w1 : World) (hb : Below w.heap.size w w1) => hv.below hb)
  have HOK := Lib.hid hok
  have hmT := run_make_row' (P := Try.prog) 64 46 (.slice none 0 0) 24 Try.underlying64 info46 rfl .i64 .i64 q.length (by omega) (by omega)
  have hmB := run_make_row' (P := Try.prog) 46 4 (.bool false) 1 Try.underlying46 info4 rfl .i64 .i64 l.length (by omega) (by omega)
  have hz : ¬ ((q.length : Int) = 0) := by omega
  have bq := (Blk.new w 38 #[.slice A2 q.length k2]).alloc (.cells #[.int .i64 0, .int .i64 0] 28)
  have br := blk_new1 w (.cells #[.slice A2 q.length k2] 38) 28 #[.int .i64 0, .int .i64 0]
  have hb0 := below_alloc2 w (.cells #[.slice A2 q.length k2] 38) (.cells #[.int .i64 0, .int .i64 0] 28)
  clear hv hq hrun hko hok
  go_enter Try.func14, Try.ntmps14
  go_wp2_with fail
  go_at_call 17
  with_reducible refine (HVA.out _ hb0).mono ?_
  rintro e w1 ⟨rfl, hb1⟩
  replace bq := (bq.below hb1 bq.lt).alloc (.cells #[.int .i64 0, .int .i64 0] 28)
  replace br := (br.below hb1 br.lt).alloc (.cells #[.int .i64 0, .int .i64 0] 28)
  replace hb0 := hb0.trans (hb1.mono hb0.size)
  replace hb0 := hb0.alloc hb0.size (.cells #[.int .i64 0, .int .i64 0] 28)
  clear hb1 HVA
  have c0 := (bq.cell 0).trans rfl
  go_wp2_with fail
  go_at_call 27
  with_reducible refine (HVQ.out _ hb0).mono ?_
  rintro e w2 ⟨rfl, hb2⟩
  replace bq := (bq.below hb2 bq.lt)
  replace br := (br.below hb2 br.lt)
  replace hb0 := hb0.trans (hb2.mono hb0.size)
  clear hb2 HVQ c0
  have c0 := (bq.cell 0).trans rfl
  have lq := bq.lt
  have lr := br.lt
  have st0 : EvSt w ((w2.alloc (.cells #[.int .i64 0, .int .i64 0] 28)).alloc (.cells (madeCells #[.slice none 0 0] q.length) 46)) (w2.heap.size + 1) l.length 0 (List.replicate q.length (.slice none 0 0)) (Oq.evL l (q.take 0) []) :=
    ⟨by have := blk_new1 w2 (.cells #[.int .i64 0, .int .i64 0] 28) 46 (madeCells #[.slice none 0 0] q.length); rwa [made_eq] at this ⊢, fun j hj => absurd hj (by simp [Oq.evL]), (br.alloc _).alloc _, (hb0.alloc hb0.size _).alloc (by simp; have := hb0.size; omega) _, by have := hb0.size; omega, Nat.zero_le _⟩
  have hgT : w2.heap.size + 1 ≠ w.heap.size + 1 := by omega
  have hgT2 : w.heap.size + 1 < w2.heap.size + 1 := by omega
  have hlenR : (List.replicate q.length (Value.slice none 0 0)).length = q.length := by simp
  have HR0 := Lib.hid hlenR
  go_wp2_with fail
  generalize List.replicate q.length (Value.slice none 0 0) = cs0 at *
  generalize (w2.alloc (.cells #[.int .i64 0, .int .i64 0] 28)).alloc (.cells (madeCells #[.slice none 0 0] q.length) 46) = W3 at *
  generalize w2.heap.size + 1 = gT at *
  clear bq br hb0 c0 lq lr hmT
  go_loopw [37] (fun iv wr => ∃ (i lim : Nat) (cs : List Value), i ≤ q.length ∧ iv = .int .i64 i ∧ cs.length = q.length ∧ EvSt w wr gT l.length lim cs (Oq.evL l (q.take i) [])) (fun iv _ => q.length - (intOf iv).toNat)
  case atStart => exact ⟨0, 0, cs0, Nat.zero_le _, rfl, HR0.out, st0⟩
  case round =>
    clear st0 hlenR HR0
    obtain ⟨i, lim, cs, hi, rfl, hcl, st⟩ := hrel
    obtain ⟨wo, rfl⟩ : ∃ wo : World, wo = wr := ⟨_, rfl⟩
    by_cases hlt : i < q.length
    · have hlt' : (i : Int) < q.length := by omega
      obtain ⟨b, off, e, hbs, d0, d1, d2, d3⟩ := HN.out _ st.bel i hlt
      subst e
      have hI := HI.out i hlt
      have hK := HK.out i hlt
      have HTi := Lib.hid (HT.out i hlt)
      have HLi := HL.out i hi
      generalize q[i] = x at *
      obtain ⟨kd, nu, le, ri⟩ := x
      simp only at hI hK d0 d1 d2 d3
      rw [Nat.zero_add] at hI
      have HO := Lib.hid (fun w1 => operands_any w1 kd)
      have hlw := st.hl
      have hbelo := st.bel
      have bN := Blk.new wo 50 #[.int .i64 kd, .int .i64 nu, .int .i64 le, .int .i64 ri]
      have st1 := st.below (below_alloc1 wo (.cells #[.int .i64 kd, .int .i64 nu, .int .i64 le, .int .i64 ri] 50))
      have hlx := wo.heap.size
      have hszo : wo.heap.size < (wo.alloc (.cells #[.int .i64 kd, .int .i64 nu, .int .i64 le, .int .i64 ri] 50)).heap.size := by simp
      obtain ⟨ci, hci⟩ : ∃ v, cs[i]? = some v := ⟨_, List.getElem?_eq_getElem (by omega)⟩
      have hlo : w.heap.size ≤ wo.heap.size := st.bel.size
      have hgo : gT < wo.heap.size := st.tbl.lt
      have hro : w.heap.size + 1 < wo.heap.size := st.rs.lt
      clear st
      rcases (show (kd = 2 ∨ kd = 3) ∨ (kd = 8 ∨ kd = 9) ∨ (kd = 14 ∨ kd = 16) by omega) with hk2 | hk2 | hk2
      · have HVN := Lib.hid (Oq.evN_leaf l (Oq.sAt (Oq.evL l (q.take i) [])) ⟨kd, nu, le, ri⟩ hk2)
        have har : Oq.ar kd = 0 := by rcases hk2 with rfl | rfl <;> rfl
        have hO2 := Lib.hid (HO.out (wo.alloc (.cells #[.int .i64 kd, .int .i64 nu, .int .i64 le, .int .i64 ri] 50)))
        rw [har] at hO2
        clear HO hK HK
        go_wp2_with fail
        go_at_call 28
        with_reducible refine hO2.out.mono ?_
        rintro e w' ⟨rfl, hww⟩
        rw [hww]
        clear hww w'
        have HLF0 := Lib.hid (fun (w1 : World) (cv : List Value) (hcv : cv.length = 5) (j : Nat) => leaf_any w1 ⟨kd, nu, le, ri⟩ hk2 cv hcv j)
        generalize hwn : wo.alloc (.cells #[.int .i64 kd, .int .i64 nu, .int .i64 le, .int .i64 ri] 50) = wN at *
        clear hwn
        have tc := st1.cell i hci
        have tf := st1.tbl.frozen i
        have tl := st1.tbl.lt
        have st2 := (st1.put i (by rw [HLi]; exact Nat.le_refl _) (.slice (some ⟨wN.heap.size, 0, none⟩) l.length l.length) hgT).below (below_alloc1 _ (.cells (madeCells #[.bool false] l.length) 4))
        have bN2 := (bN.far (p := ⟨gT, i, none⟩) (by simp; omega) (.slice (some ⟨wN.heap.size, 0, none⟩) l.length l.length)).alloc (.cells (madeCells #[.bool false] l.length) 4)
        have bG2 := blk_made_bool (wN.setCell ⟨gT, i, none⟩ (.slice (some ⟨wN.heap.size, 0, none⟩) l.length l.length)) 4 l.length
        have hszN : (wN.setCell ⟨gT, i, none⟩ (.slice (some ⟨wN.heap.size, 0, none⟩) l.length l.length)).heap.size = wN.heap.size := by simp
        rw [hszN] at bG2
        rw [tab_congr (f := fun _ => false) (g := fun j => decide (j < 0) && Oq.lf ⟨kd, nu, le, ri⟩ j) (fun _ _ => by simp)] at bG2
        go_wp2_with fail
        generalize (wN.setCell ⟨gT, i, none⟩ (.slice (some ⟨wN.heap.size, 0, none⟩) l.length l.length)).alloc (.cells (madeCells #[.bool false] l.length) 4) = W4 at *
        generalize hgg0 : wN.heap.size = g at *
        generalize hbn0 : wo.heap.size = bNn at *
        have hgl : lim ≤ g := by omega
        have hgg : g ≠ gT := by omega
        have hgr : g ≠ w.heap.size + 1 := by omega
        have hgw : w.heap.size ≤ g := by omega
        have hgn : bNn ≠ g := by omega
        have hci1 : (cs.set i (.slice (some ⟨g, 0, none⟩) l.length l.length))[i]? = some (.slice (some ⟨g, 0, none⟩) l.length l.length) := by rw [List.getElem?_set_self (by omega)]
        have hcl1 : (cs.set i (.slice (some ⟨g, 0, none⟩) l.length l.length)).length = q.length := by rw [List.length_set]; exact hcl
        have HSET := Lib.hid (fun (j y : Nat) => (show (decide (y < j + 1) && Oq.lf ⟨kd, nu, le, ri⟩ y) = if y = j then Oq.lf ⟨kd, nu, le, ri⟩ j else (decide (y < j) && Oq.lf ⟨kd, nu, le, ri⟩ y) from by
          by_cases e : y = j
          · subst e; simp
          · have : decide (y < j + 1) = decide (y < j) := by congr 1; exact propext ⟨fun _ => by omega, fun _ => by omega⟩
            rw [this, if_neg e]))
        generalize cs.set i (.slice (some ⟨g, 0, none⟩) l.length l.length) = cs1 at *
        clear tc tf tl st1 hbelo
        go_loopw [115] (fun jv wr => ∃ j : Nat, j ≤ l.length ∧ jv = .int .i64 j ∧ EvSt w wr gT l.length lim cs1 (Oq.evL l (q.take i) []) ∧ Blk wr bNn 50 #[.int .i64 kd, .int .i64 nu, .int .i64 le, .int .i64 ri] ∧ Blk wr g 4 (boolsA (tab l.length fun y => decide (y < j) && Oq.lf ⟨kd, nu, le, ri⟩ y))) (fun jv _ => l.length - (intOf jv).toNat)
        case atStart => exact ⟨0, Nat.zero_le _, rfl, st2, bN2, bG2⟩
        case round =>
          clear st2 bN2 bG2
          obtain ⟨j, hj, rfl, st, bN, bG⟩ := hrel
          obtain ⟨wi, rfl⟩ : ∃ wi : World, wi = wr := ⟨_, rfl⟩
          by_cases hjl : j < l.length
          · have hjl' : (j : Int) < l.length := by omega
            obtain ⟨b', off', Ap, kp, e', hb', f0, f1, f2, f3, f4, hco, hip⟩ := (HCV.out w (Below.refl _ _)).row j hjl
            subst e'
            replace f0 := (st.bel.cell (p := ⟨b', off' + j * 5, none⟩) hb').trans f0
            replace f1 := (st.bel.cell (p := ⟨b', off' + j * 5 + 1, none⟩) hb').trans f1
            replace f2 := (st.bel.cell (p := ⟨b', off' + j * 5 + 2, none⟩) hb').trans f2
            replace f3 := (st.bel.cell (p := ⟨b', off' + j * 5 + 3, none⟩) hb').trans f3
            replace f4 := (st.bel.cell (p := ⟨b', off' + j * 5 + 4, none⟩) hb').trans f4
            have hbo : b' < wi.heap.size := Nat.lt_of_lt_of_le hb' st.bel.size
            generalize l[j] = cm at *
            obtain ⟨par, au, tm, tr, msg⟩ := cm
            simp only at f0 f1 f2 f3 f4 hip
            have HLF := Lib.hid (fun (w1 : World) (j : Nat) => HLF0.out w1 [.slice Ap par.length kp, .int .i64 au, .int .i64 tm, .int .i64 tr, .string msg] rfl j)
            have hbg := bG.lt
            have hbn := bN.lt
            have hbt := st.tbl.lt
            have bC4 := Blk.new wi 45 #[.slice Ap par.length kp, .int .i64 au, .int .i64 tm, .int .i64 tr, .string msg]
            have st4 := st.below (below_alloc1 wi (.cells #[.slice Ap par.length kp, .int .i64 au, .int .i64 tm, .int .i64 tr, .string msg] 45))
            have bN4 := bN.alloc (.cells #[.slice Ap par.length kp, .int .i64 au, .int .i64 tm, .int .i64 tr, .string msg] 45)
            have bG4 := bG.alloc (.cells #[.slice Ap par.length kp, .int .i64 au, .int .i64 tm, .int .i64 tr, .string msg] 45)
            clear hco hip st bN bG HLF0
            go_wp2_with fail
            generalize hbc : wi.heap.size = bCn at *
            generalize wi.alloc (.cells #[.slice Ap par.length kp, .int .i64 au, .int .i64 tm, .int .i64 tr, .string msg] 45) = wb at *
            have HKS := Lib.hid (fun (w6 : World) (h6 : EvSt w w6 gT l.length lim cs1 (Oq.evL l (q.take i) [])) (h7 : Blk w6 bNn 50 #[.int .i64 kd, .int .i64 nu, .int .i64 le, .int .i64 ri]) (h8 : Blk w6 bCn 45 #[.slice Ap par.length kp, .int .i64 au, .int .i64 tm, .int .i64 tr, .string msg]) => show w6.cell? ⟨gT, i, none⟩ = some (.slice (some ⟨g, 0, none⟩) l.length l.length) ∧ w6.cell? ⟨bNn, 0, none⟩ = some (.int .i64 kd) ∧ w6.cell? ⟨bNn, 1, none⟩ = some (.int .i64 nu) ∧ w6.cell? ⟨bNn, 2, none⟩ = some (.int .i64 le) ∧ w6.cell? ⟨bNn, 3, none⟩ = some (.int .i64 ri) ∧ w6.cell? ⟨bCn, 0, none⟩ = some (.slice Ap par.length kp) ∧ w6.cell? ⟨bCn, 1, none⟩ = some (.int .i64 au) ∧ w6.cell? ⟨bCn, 2, none⟩ = some (.int .i64 tm) ∧ w6.cell? ⟨bCn, 3, none⟩ = some (.int .i64 tr) ∧ w6.cell? ⟨bCn, 4, none⟩ = some (.string msg) from ⟨h6.cell i hci1, (h7.cell 0).trans rfl, (h7.cell 1).trans rfl, (h7.cell 2).trans rfl, (h7.cell 3).trans rfl, (h8.cell 0).trans rfl, (h8.cell 1).trans rfl, (h8.cell 2).trans rfl, (h8.cell 3).trans rfl, (h8.cell 4).trans rfl⟩)
            have HK8 := Lib.hid (fun (w6 : World) (h6 : Below wb.heap.size wb w6) => HKS.out w6 (st4.below h6) (bN4.below h6 bN4.lt) (bC4.below h6 bC4.lt))
            have stq := st4.below (below_drew' (Below.refl _ _))
            have bNq := bN4.drew
            have bCq := bC4.drew
            have bGq := bG4.drew
            refine wp_region_noPanic ?_
            refine wp_region_held_drew (S := (fun w6 : World => w6.cell? ⟨gT, i, none⟩ = some (.slice (some ⟨g, 0, none⟩) l.length l.length) ∧ w6.cell? ⟨bNn, 0, none⟩ = some (.int .i64 kd) ∧ w6.cell? ⟨bNn, 1, none⟩ = some (.int .i64 nu) ∧ w6.cell? ⟨bNn, 2, none⟩ = some (.int .i64 le) ∧ w6.cell? ⟨bNn, 3, none⟩ = some (.int .i64 ri) ∧ w6.cell? ⟨bCn, 0, none⟩ = some (.slice Ap par.length kp) ∧ w6.cell? ⟨bCn, 1, none⟩ = some (.int .i64 au) ∧ w6.cell? ⟨bCn, 2, none⟩ = some (.int .i64 tm) ∧ w6.cell? ⟨bCn, 3, none⟩ = some (.int .i64 tr) ∧ w6.cell? ⟨bCn, 4, none⟩ = some (.string msg))) (by kernel_rfl) ?_ (fun hSE => ?_)
            · exact HK8.out _ (below_drew' (Below.refl _ _))
            have hq : Below wb.heap.size wb wb.drew := below_drew' (Below.refl _ _)
            have hszb : wb.heap.size ≤ wb.drew.heap.size := Nat.le_refl _
            generalize hWg : wb.drew = WE at *
            clear hWg
            refine wpAnyH_take (i := 0) (v := .slice (some ⟨gT, 0, none⟩) q.length q.length) rfl (by kernel_rfl) (by kernel_rfl) (by kernel_rfl) (fun _ _ _ h => h) (Or.inl ⟨by kernel_rfl, ?qE1⟩) (by assumption) ?rqE1
            case qE1 => (intro w hSw; (try dsimp only at hSw); go_simp)
            try simp only [Act.put, List.setIfInBounds_toArray]
            refine wpAnyH_take (i := 1) (v := .int .i64 (i : Int)) rfl (by kernel_rfl) (by kernel_rfl) (by kernel_rfl) (fun _ _ _ h => h) (Or.inl ⟨by kernel_rfl, ?qE2⟩) (by assumption) ?rqE2
            case qE2 => (intro w hSw; (try dsimp only at hSw); go_simp)
            try simp only [Act.put, List.setIfInBounds_toArray]
            refine wpAnyH_take (i := 2) (v := .pointer (some ⟨gT, i, none⟩)) rfl (by kernel_rfl) (by kernel_rfl) (by kernel_rfl) (fun _ _ _ h => h) (Or.inl ⟨by kernel_rfl, ?qE3⟩) (by assumption) ?rqE3
            case qE3 => (intro w hSw; (try dsimp only at hSw); go_simp)
            try simp only [Act.put, List.setIfInBounds_toArray]
            refine wpAnyH_take (i := 3) (v := .slice (some ⟨g, 0, none⟩) l.length l.length) rfl (by kernel_rfl) (by kernel_rfl) (by kernel_rfl) (fun _ _ _ h => h) (Or.inl ⟨by kernel_rfl, ?qE4⟩) (by assumption) ?rqE4
            case qE4 => (intro w hSw; (try dsimp only at hSw); go_simp)
            try simp only [Act.put, List.setIfInBounds_toArray]
            refine wpAnyH_take (i := 4) (v := .int .i64 (j : Int)) rfl (by kernel_rfl) (by kernel_rfl) (by kernel_rfl) (fun _ _ _ h => h) (Or.inl ⟨by kernel_rfl, ?qE5⟩) (by assumption) ?rqE5
            case qE5 => (intro w hSw; (try dsimp only at hSw); go_simp)
            try simp only [Act.put, List.setIfInBounds_toArray]
            refine wpAnyH_take (i := 5) (v := .agg #[.int .i64 kd, .int .i64 nu, .int .i64 le, .int .i64 ri]) rfl (by kernel_rfl) (by kernel_rfl) (by kernel_rfl) (fun _ _ _ h => h) (Or.inl ⟨by kernel_rfl, ?qE6⟩) (by assumption) ?rqE6
            case qE6 => (intro w hSw; (try dsimp only at hSw); go_simp)
            try simp only [Act.put, List.setIfInBounds_toArray]
            refine wpAnyH_take (i := 6) (v := .agg #[.slice Ap par.length kp, .int .i64 au, .int .i64 tm, .int .i64 tr, .string msg]) rfl (by kernel_rfl) (by kernel_rfl) (by kernel_rfl) (fun _ _ _ h => h) (Or.inl ⟨by kernel_rfl, ?qE7⟩) (by assumption) ?rqE7
            case qE7 => (intro w hSw; (try dsimp only at hSw); go_simp)
            try simp only [Act.put, List.setIfInBounds_toArray]
            refine wpAnyH_take (i := 7) (v := .int .i64 (j : Int)) rfl (by kernel_rfl) (by kernel_rfl) (by kernel_rfl) (fun _ _ _ h => h) (Or.inl ⟨by kernel_rfl, ?qE8⟩) (by assumption) ?rqE8
            case qE8 => (intro w hSw; (try dsimp only at hSw); go_simp)
            try simp only [Act.put, List.setIfInBounds_toArray]
            refine wpAnyH_ready (rs := [8]) (by kernel_rfl) (by simp) ?_
            refine AllReadyH.cons rfl (fun K hK => ?nE9) (AllReadyH.nil)
            go_simp
            go_at_call 29
            with_reducible refine (HLF.out WE j).mono ?_
            rintro e WE10 ⟨rfl, hb9⟩
            try go_wp2_with fail
            refine hK.out _ _ ?_ (fun hSE11 => ?_)
            · exact HK8.out _ (hq.trans (hb9.mono hq.size))
            clear hK K
            try simp only [Act.put, List.setIfInBounds_toArray]
            replace hq := hq.trans (hb9.mono hq.size)
            replace stq := stq.below hb9
            replace bNq := bNq.below hb9 bNq.lt
            replace bCq := bCq.below hb9 bCq.lt
            replace bGq := bGq.below hb9 bGq.lt
            clear hb9
            refine wpAnyH_take (i := 9) (v := .pointer (some ⟨g, j, none⟩)) rfl (by kernel_rfl) (by kernel_rfl) (by kernel_rfl) (fun _ _ _ h => h) (Or.inl ⟨by kernel_rfl, ?qE12⟩) (by assumption) ?rqE12
            case qE12 => (intro w hSw; (try dsimp only at hSw); go_simp)
            try simp only [Act.put, List.setIfInBounds_toArray]
            refine wpAnyH_ready (rs := [10]) (by kernel_rfl) (by simp) ?_
            refine AllReadyH.cons rfl (fun K hK => ?nE13) (AllReadyH.nil)
            have q9 := blk_tabB bGq j hjl
            have f9 := bGq.frozen j
            have l9 := bGq.lt
            go_simp
            refine hK.out _ _ ?_ (fun hS9 => ?_)
            · exact HKS.out _ (stq.far (p := ⟨g, j, none⟩) hgl hgg hgr hgw _) (bNq.far (by first | omega | (simp; omega)) _) (bCq.far (by first | omega | (simp; omega)) _)
            clear hK K
            try simp only [Act.put, List.setIfInBounds_toArray]
            refine wpAnyH_done (by kernel_rfl) ?_ _
            refine NoPanic.normal ?_
            go_wp2_with fail
            go_roundw
            case rel => exact ⟨j + 1, by omega, by go_num, (stq.far (p := ⟨g, j, none⟩) hgl hgg hgr hgw _), (bNq.far (by first | omega | (simp; omega)) _), blk_tabB_set bGq j _ (fun y _ => HSET.out j y)⟩
            case measure => simp [intOf]; omega
          · obtain rfl : j = l.length := by omega
            have st2 : EvSt w wi gT l.length (g + 1) cs1 (Oq.evL l (q.take (i + 1)) []) := by
              rw [HTi.out, HVN.out]
              refine st.push (by rw [HLi]; exact hci1) ?_ (by omega) bG.lt
              rw [tab_congr (f := fun y => decide (y < l.length) && Oq.lf ⟨kd, nu, le, ri⟩ y) (g := Oq.lf ⟨kd, nu, le, ri⟩) (fun y hy => by simp [hy])] at bG
              exact RowIs.of_blk bG (by unfold maxLen; omega)
            clear st bN bG
            go_wp2_with fail
            go_roundw
            case rel => exact ⟨i + 1, g + 1, cs1, by omega, by go_num, hcl1, st2⟩
            case measure => simp [intOf]; omega
      · obtain ⟨hI1, hI2⟩ := hI
        have har1 : 1 ≤ Oq.ar kd := by rcases hk2 with rfl | rfl <;> decide
        obtain ⟨hle0, hle1⟩ := hI1 har1
        obtain ⟨li, rfl⟩ := Int.eq_ofNat_of_zero_le hle0
        have hli : li < i := by omega
        have hliq : (li : Int) < q.length := by omega
        clear hI1 hI2 har1 hle0 hle1
        have HVN := Lib.hid (show Oq.evN l (Oq.sAt (Oq.evL l (q.take i) [])) ⟨kd, nu, ((li : Nat) : Int), ri⟩ = Oq.oneV l kd (Oq.sAt (Oq.evL l (q.take i) []) ((li : Nat) : Int)) from Oq.evN_one l (Oq.sAt (Oq.evL l (q.take i) [])) ⟨kd, nu, ((li : Nat) : Int), ri⟩ hk2)
        have har : Oq.ar kd = 1 := by rcases hk2 with rfl | rfl <;> rfl
        have hO2 := Lib.hid (HO.out (wo.alloc (.cells #[.int .i64 kd, .int .i64 nu, .int .i64 ((li : Nat) : Int), .int .i64 ri] 50)))
        rw [har] at hO2
        clear HO hK HK
        go_wp2_with fail
        go_at_call 28
        with_reducible refine hO2.out.mono ?_
        rintro e w' ⟨rfl, hww⟩
        rw [hww]
        clear hww w'
        obtain ⟨v1, hv1, hr1⟩ := st1.rows li (by rw [HLi]; exact hli)
        obtain ⟨A1, c1, rfl, hbv1⟩ := hr1.bv
        have hsat : Oq.sAt (Oq.evL l (q.take i) []) ((li : Nat) : Int) = (Oq.evL l (q.take i) [])[li]'(by rw [HLi]; exact hli) := Oq.sAt_get _ _ _
        generalize (Oq.evL l (q.take i) [])[li]'(by rw [HLi]; exact hli) = F1 at *
        have HON := Lib.hid (fun (w1 : World) (hb : Below (wo.alloc (.cells #[.int .i64 kd, .int .i64 nu, .int .i64 ((li : Nat) : Int), .int .i64 ri] 50)).heap.size (wo.alloc (.cells #[.int .i64 kd, .int .i64 nu, .int .i64 ((li : Nat) : Int), .int .i64 ri] 50)) w1) => one_any w1 A A1 k c1 kd hk2 l F1 (HCV.out w1 (st1.bel.trans (hb.mono st1.bel.size))) HOK.out (hbv1.below hb))
        clear hr1 hbv1
        generalize hwn : wo.alloc (.cells #[.int .i64 kd, .int .i64 nu, .int .i64 ((li : Nat) : Int), .int .i64 ri] 50) = wb at *
        clear hwn
        generalize hbn0 : wo.heap.size = bNn at *
        have HKS := Lib.hid (fun (w6 : World) (h7 : Blk w6 bNn 50 #[.int .i64 kd, .int .i64 nu, .int .i64 ((li : Nat) : Int), .int .i64 ri]) (h6 : w6.cell? ⟨gT, li, none⟩ = some (.slice A1 l.length c1)) => show w6.cell? ⟨bNn, 0, none⟩ = some (.int .i64 kd) ∧ w6.cell? ⟨bNn, 2, none⟩ = some (.int .i64 ((li : Nat) : Int)) ∧ w6.cell? ⟨gT, li, none⟩ = some (.slice A1 l.length c1) from ⟨(h7.cell 0).trans rfl, (h7.cell 2).trans rfl, h6⟩)
        have HK8 := Lib.hid (fun (w6 : World) (h6 : Below wb.heap.size wb w6) => HKS.out w6 (bN.below h6 bN.lt) ((st1.below h6).cell li hv1))
        clear hbelo
        go_wp2_with fail
        have stq := st1.below (below_drew' (Below.refl _ _))
        have bNq := bN.drew
        refine wp_region_noPanic ?_
        refine wp_region_held_drew (S := (fun w6 : World => w6.cell? ⟨bNn, 0, none⟩ = some (.int .i64 kd) ∧ w6.cell? ⟨bNn, 2, none⟩ = some (.int .i64 ((li : Nat) : Int)) ∧ w6.cell? ⟨gT, li, none⟩ = some (.slice A1 l.length c1))) (by kernel_rfl) ?_ (fun hSO => ?_)
        · exact HK8.out _ (below_drew' (Below.refl _ _))
        have hq : Below wb.heap.size wb wb.drew := below_drew' (Below.refl _ _)
        have hszb : wb.heap.size ≤ wb.drew.heap.size := Nat.le_refl _
        generalize hWg : wb.drew = WE at *
        clear hWg
        refine wpAnyH_take (i := 0) (v := .slice (some ⟨gT, 0, none⟩) q.length q.length) rfl (by kernel_rfl) (by kernel_rfl) (by kernel_rfl) (fun _ _ _ h => h) (Or.inl ⟨by kernel_rfl, ?qO1⟩) (by assumption) ?rqO1
        case qO1 => (intro w hSw; (try dsimp only at hSw); go_simp)
        try simp only [Act.put, List.setIfInBounds_toArray]
        refine wpAnyH_take (i := 1) (v := .int .i64 (i : Int)) rfl (by kernel_rfl) (by kernel_rfl) (by kernel_rfl) (fun _ _ _ h => h) (Or.inl ⟨by kernel_rfl, ?qO2⟩) (by assumption) ?rqO2
        case qO2 => (intro w hSw; (try dsimp only at hSw); go_simp)
        try simp only [Act.put, List.setIfInBounds_toArray]
        refine wpAnyH_take (i := 2) (v := .slice A l.length k) rfl (by kernel_rfl) (by kernel_rfl) (by kernel_rfl) (fun _ _ _ h => h) (Or.inl ⟨by kernel_rfl, ?qO3⟩) (by assumption) ?rqO3
        case qO3 => (intro w hSw; (try dsimp only at hSw); go_simp)
        try simp only [Act.put, List.setIfInBounds_toArray]
        refine wpAnyH_take (i := 3) (v := .pointer (some ⟨bNn, 0, none⟩)) rfl (by kernel_rfl) (by kernel_rfl) (by kernel_rfl) (fun _ _ _ h => h) (Or.inl ⟨by kernel_rfl, ?qO4⟩) (by assumption) ?rqO4
        case qO4 => (intro w hSw; (try dsimp only at hSw); go_simp)
        try simp only [Act.put, List.setIfInBounds_toArray]
        refine wpAnyH_take (i := 4) (v := .int .i64 kd) rfl (by kernel_rfl) (by kernel_rfl) (by kernel_rfl) (fun _ _ _ h => h) (Or.inl ⟨by kernel_rfl, ?qO5⟩) (by assumption) ?rqO5
        case qO5 => (intro w hSw; (try dsimp only at hSw); go_simp)
        try simp only [Act.put, List.setIfInBounds_toArray]
        refine wpAnyH_take (i := 5) (v := .slice (some ⟨gT, 0, none⟩) q.length q.length) rfl (by kernel_rfl) (by kernel_rfl) (by kernel_rfl) (fun _ _ _ h => h) (Or.inl ⟨by kernel_rfl, ?qO6⟩) (by assumption) ?rqO6
        case qO6 => (intro w hSw; (try dsimp only at hSw); go_simp)
        try simp only [Act.put, List.setIfInBounds_toArray]
        refine wpAnyH_take (i := 6) (v := .pointer (some ⟨bNn, 2, none⟩)) rfl (by kernel_rfl) (by kernel_rfl) (by kernel_rfl) (fun _ _ _ h => h) (Or.inl ⟨by kernel_rfl, ?qO7⟩) (by assumption) ?rqO7
        case qO7 => (intro w hSw; (try dsimp only at hSw); go_simp)
        try simp only [Act.put, List.setIfInBounds_toArray]
        refine wpAnyH_take (i := 7) (v := .int .i64 ((li : Nat) : Int)) rfl (by kernel_rfl) (by kernel_rfl) (by kernel_rfl) (fun _ _ _ h => h) (Or.inl ⟨by kernel_rfl, ?qO8⟩) (by assumption) ?rqO8
        case qO8 => (intro w hSw; (try dsimp only at hSw); go_simp)
        try simp only [Act.put, List.setIfInBounds_toArray]
        refine wpAnyH_take (i := 8) (v := .pointer (some ⟨gT, li, none⟩)) rfl (by kernel_rfl) (by kernel_rfl) (by kernel_rfl) (fun _ _ _ h => h) (Or.inl ⟨by kernel_rfl, ?qO9⟩) (by assumption) ?rqO9
        case qO9 => (intro w hSw; (try dsimp only at hSw); go_simp)
        try simp only [Act.put, List.setIfInBounds_toArray]
        refine wpAnyH_take (i := 9) (v := .slice A1 l.length c1) rfl (by kernel_rfl) (by kernel_rfl) (by kernel_rfl) (fun _ _ _ h => h) (Or.inl ⟨by kernel_rfl, ?qO10⟩) (by assumption) ?rqO10
        case qO10 => (intro w hSw; (try dsimp only at hSw); go_simp)
        try simp only [Act.put, List.setIfInBounds_toArray]
        refine wpAnyH_ready (rs := [10]) (by kernel_rfl) (by simp) ?_
        refine AllReadyH.cons rfl (fun K hK => ?nO11) (AllReadyH.nil)
        go_simp
        go_at_call 30
        with_reducible refine (HON.out WE hq).mono ?_
        rintro e WO12 ⟨A9, c9, rfl, ho9, hb9⟩
        try go_wp2_with fail
        refine hK.out _ _ ?_ (fun hSO13 => ?_)
        · exact HK8.out _ (hq.trans (hb9.mono hq.size))
        clear hK K
        try simp only [Act.put, List.setIfInBounds_toArray]
        replace hq := hq.trans (hb9.mono hq.size)
        have hlw9 := Nat.le_trans stq.hl hb9.size
        replace stq := stq.below hb9
        replace bNq := bNq.below hb9 bNq.lt
        have hr9 := RowIs.of_own ho9
        clear hb9 ho9
        refine wpAnyH_take (i := 11) (v := .pointer (some ⟨gT, i, none⟩)) rfl (by kernel_rfl) (by kernel_rfl) (by kernel_rfl) (fun _ _ _ h => h) (Or.inl ⟨by kernel_rfl, ?qO14⟩) (by assumption) ?rqO14
        case qO14 => (intro w hSw; (try dsimp only at hSw); go_simp)
        try simp only [Act.put, List.setIfInBounds_toArray]
        refine wpAnyH_ready (rs := [12]) (by kernel_rfl) (by simp) ?_
        refine AllReadyH.cons rfl (fun K hK => ?nO15) (AllReadyH.nil)
        have q9 := stq.cell i hci
        have f9 := stq.tbl.frozen i
        have l9 := stq.tbl.lt
        go_simp
        refine hK.out _ _ ?_ (fun hS9 => ?_)
        have stp := stq.put i (by rw [HLi]; exact Nat.le_refl _) (.slice A9 l.length c9) hgT
        have hcip : (cs.set i (.slice A9 l.length c9))[i]? = some (.slice A9 l.length c9) := by rw [List.getElem?_set_self (by omega)]
        have hcip2 : (cs.set i (.slice A9 l.length c9))[li]? = some (.slice A1 l.length c1) := by rw [List.getElem?_set_ne (by omega)]; exact hv1
        · exact HKS.out _ (bNq.far (by first | omega | (simp; omega)) _) (stp.cell li hcip2)
        clear hK K
        try simp only [Act.put, List.setIfInBounds_toArray]
        refine wpAnyH_done (by kernel_rfl) ?_ _
        refine NoPanic.normal ?_
        have stp := stq.put i (by rw [HLi]; exact Nat.le_refl _) (.slice A9 l.length c9) hgT
        have hcip : (cs.set i (.slice A9 l.length c9))[i]? = some (.slice A9 l.length c9) := by rw [List.getElem?_set_self (by omega)]
        have st2 : EvSt w (WO12.setCell ⟨gT, i, none⟩ (.slice A9 l.length c9)) gT l.length WO12.heap.size (cs.set i (.slice A9 l.length c9)) (Oq.evL l (q.take (i + 1)) []) := by
          rw [HTi.out, HVN.out, hsat]
          exact stp.push (by rw [HLi]; exact hcip) (hr9.tbl stq.tbl i _) hlw9 (by simp)
        have hcl1 : (cs.set i (.slice A9 l.length c9)).length = q.length := by rw [List.length_set]; exact hcl
        clear stp stq
        go_wp2_with fail
        go_roundw
        case rel => exact ⟨i + 1, _, _, by omega, by go_num, hcl1, st2⟩
        case measure => simp [intOf]; omega
      · obtain ⟨hI1, hI2⟩ := hI
        have har1 : 1 ≤ Oq.ar kd := by rcases hk2 with rfl | rfl <;> decide
        have har2 : Oq.ar kd = 2 := by rcases hk2 with rfl | rfl <;> decide
        obtain ⟨hle0, hle1⟩ := hI1 har1
        obtain ⟨hre0, hre1⟩ := hI2 har2
        obtain ⟨li, rfl⟩ := Int.eq_ofNat_of_zero_le hle0
        obtain ⟨r2, rfl⟩ := Int.eq_ofNat_of_zero_le hre0
        have hli : li < i := by omega
        have hri : r2 < i := by omega
        have hliq : (li : Int) < q.length := by omega
        have hriq : (r2 : Int) < q.length := by omega
        clear hI1 hI2 har1 har2 hle0 hle1 hre0 hre1
        have HVN := Lib.hid (show Oq.evN l (Oq.sAt (Oq.evL l (q.take i) [])) ⟨kd, nu, ((li : Nat) : Int), ((r2 : Nat) : Int)⟩ = Oq.binV kd (Oq.sAt (Oq.evL l (q.take i) []) ((li : Nat) : Int)) (Oq.sAt (Oq.evL l (q.take i) []) ((r2 : Nat) : Int)) from Oq.evN_bin l (Oq.sAt (Oq.evL l (q.take i) [])) ⟨kd, nu, ((li : Nat) : Int), ((r2 : Nat) : Int)⟩ hk2)
        have har : Oq.ar kd = 2 := by rcases hk2 with rfl | rfl <;> rfl
        have hO2 := Lib.hid (HO.out (wo.alloc (.cells #[.int .i64 kd, .int .i64 nu, .int .i64 ((li : Nat) : Int), .int .i64 ((r2 : Nat) : Int)] 50)))
        rw [har] at hO2
        clear HO hK HK
        go_wp2_with fail
        go_at_call 28
        with_reducible refine hO2.out.mono ?_
        rintro e w' ⟨rfl, hww⟩
        rw [hww]
        clear hww w'
        obtain ⟨v1, hv1, hr1⟩ := st1.rows li (by rw [HLi]; exact hli)
        obtain ⟨v2, hv2, hr2⟩ := st1.rows r2 (by rw [HLi]; exact hri)
        obtain ⟨A1, c1, rfl, hbv1⟩ := hr1.bv
        obtain ⟨A5, c5, rfl, hbv2⟩ := hr2.bv
        have hsat1 : Oq.sAt (Oq.evL l (q.take i) []) ((li : Nat) : Int) = (Oq.evL l (q.take i) [])[li]'(by rw [HLi]; exact hli) := Oq.sAt_get _ _ _
        have hsat2 : Oq.sAt (Oq.evL l (q.take i) []) ((r2 : Nat) : Int) = (Oq.evL l (q.take i) [])[r2]'(by rw [HLi]; exact hri) := Oq.sAt_get _ _ _
        generalize hF1 : (Oq.evL l (q.take i) [])[li]'(by rw [HLi]; exact hli) = F1 at *
        generalize hF2 : (Oq.evL l (q.take i) [])[r2]'(by rw [HLi]; exact hri) = F2 at *
        have HMN := Lib.hid (fun (w1 : World) (hb : Below (wo.alloc (.cells #[.int .i64 kd, .int .i64 nu, .int .i64 ((li : Nat) : Int), .int .i64 ((r2 : Nat) : Int)] 50)).heap.size (wo.alloc (.cells #[.int .i64 kd, .int .i64 nu, .int .i64 ((li : Nat) : Int), .int .i64 ((r2 : Nat) : Int)] 50)) w1) => minus_any w1 A1 A5 c1 c5 l.length F1 F2 (hbv1.below hb) (hbv2.below hb) hl60)
        clear hr1 hbv1 hr2 hbv2
        generalize hwn : wo.alloc (.cells #[.int .i64 kd, .int .i64 nu, .int .i64 ((li : Nat) : Int), .int .i64 ((r2 : Nat) : Int)] 50) = wN at *
        clear hwn
        generalize hbn0 : wo.heap.size = bNn at *
        have tcl := st1.cell li hv1
        have tcr := st1.cell r2 hv2
        have tn0 := (bN.cell 0).trans rfl
        have tn2 := (bN.cell 2).trans rfl
        have tn3 := (bN.cell 3).trans rfl
        have lN := bN.lt
        have tlN := st1.tbl.lt
        have HF1 := Lib.hid hF1
        have HF2 := Lib.hid hF2
        have HS1 := Lib.hid hsat1
        have HS2 := Lib.hid hsat2
        clear hbelo hF1 hF2 hsat1 hsat2
        go_wp2_with fail
        go_quiet (fail)
        go_wp2_with fail
        go_at_call 31
        with_reducible refine (HMN.out _ (below_drewN (Below.refl _ _) _)).mono ?_
        rintro e w5 ⟨g, rfl, hgw0, bG, hb5⟩
        have hsz5 := hb5.size
        have st2 := (st1.below (below_drewN (Below.refl _ _) nq)).below hb5
        have bN2 := (bN.drewN nq).below hb5 lN
        have hwNs : (wN.drewN nq).heap.size = wN.heap.size := rfl
        rw [hwNs] at hgw0 hsz5
        clear st1 bN hb5 HMN tcl tcr tn0 tn2 tn3
        have tc := st2.cell i hci
        have tf := st2.tbl.frozen i
        have tl := st2.tbl.lt
        have hgn : g ≠ gT := by omega
        have st := st2.put i (by rw [HLi]; exact Nat.le_refl _) (.slice (some ⟨g, 0, none⟩) l.length l.length) hgT
        have bN := bN2.far (p := ⟨gT, i, none⟩) (by simp; omega) (.slice (some ⟨g, 0, none⟩) l.length l.length)
        replace bG := bG.far (p := ⟨gT, i, none⟩) hgn (.slice (some ⟨g, 0, none⟩) l.length l.length)
        clear st2 bN2
        go_wp2_with fail
        generalize w5.setCell ⟨gT, i, none⟩ (.slice (some ⟨g, 0, none⟩) l.length l.length) = W5 at *
        have hgl : lim ≤ g := by omega
        have hgr : g ≠ w.heap.size + 1 := by omega
        have hgw : w.heap.size ≤ g := by omega
        have hgb : bNn ≠ g := by omega
        have hci1 : (cs.set i (.slice (some ⟨g, 0, none⟩) l.length l.length))[i]? = some (.slice (some ⟨g, 0, none⟩) l.length l.length) := by rw [List.getElem?_set_self (by omega)]
        have hcsl : (cs.set i (.slice (some ⟨g, 0, none⟩) l.length l.length))[li]? = some (.slice A1 l.length c1) := by rw [List.getElem?_set_ne (by omega)]; exact hv1
        have hcsr : (cs.set i (.slice (some ⟨g, 0, none⟩) l.length l.length))[r2]? = some (.slice A5 l.length c5) := by rw [List.getElem?_set_ne (by omega)]; exact hv2
        have hcl1 : (cs.set i (.slice (some ⟨g, 0, none⟩) l.length l.length)).length = q.length := by rw [List.length_set]; exact hcl
        generalize cs.set i (.slice (some ⟨g, 0, none⟩) l.length l.length) = cs1 at *
        have HBV := Lib.hid (fun (wr : World) (h : EvSt w wr gT l.length lim cs1 (Oq.evL l (q.take i) [])) => (show BV wr A1 (tab l.length F1) ∧ BV wr A5 (tab l.length F2) from ⟨by
          obtain ⟨v, e, hr⟩ := h.rows li (by rw [HLi]; exact hli)
          rw [hcsl] at e
          injection e with e
          subst e
          rw [HF1.out] at hr
          obtain ⟨A', c', e', hb⟩ := hr.bv
          injection e' with e1 e2 e3
          subst e1
          exact hb, by
          obtain ⟨v, e, hr⟩ := h.rows r2 (by rw [HLi]; exact hri)
          rw [hcsr] at e
          injection e with e
          subst e
          rw [HF2.out] at hr
          obtain ⟨A', c', e', hb⟩ := hr.bv
          injection e' with e1 e2 e3
          subst e1
          exact hb⟩))
        clear tc tf tl hv1 hv2 hcsl hcsr HF1 HF2
        have hsat1 := HS1.out
        have hsat2 := HS2.out
        replace hsat1 := Lib.hid hsat1
        replace hsat2 := Lib.hid hsat2
        clear HS1 HS2
        rcases hk2 with rfl | rfl
        · rw [tab_congr (f := fun y => F1 y && !F2 y) (g := fun y => cond (decide (y < 0)) (F1 y || F2 y) (F1 y && !F2 y)) (fun _ _ => by simp)] at bG
          go_loopw [63] (fun jv wr => ∃ j : Nat, j ≤ l.length ∧ jv = .int .i64 j ∧ EvSt w wr gT l.length lim cs1 (Oq.evL l (q.take i) []) ∧ Blk wr bNn 50 #[.int .i64 14, .int .i64 nu, .int .i64 ((li : Nat) : Int), .int .i64 ((r2 : Nat) : Int)] ∧ Blk wr g 4 (boolsA (tab l.length fun y => cond (decide (y < j)) (F1 y || F2 y) (F1 y && !F2 y)))) (fun jv _ => l.length - (intOf jv).toNat)
          case atStart => exact ⟨0, Nat.zero_le _, rfl, st, bN, bG⟩
          case round =>
            clear st bN bG
            obtain ⟨j, hj, rfl, st, bN, bG⟩ := hrel
            obtain ⟨wi, rfl⟩ : ∃ wi : World, wi = wr := ⟨_, rfl⟩
            by_cases hjl : j < l.length
            · have hjl' : (j : Int) < l.length := by omega
              obtain ⟨x1, x2⟩ := HBV.out _ st
              obtain ⟨b1, o1, eA, _, y1⟩ := x1.at_ j (by simpa using hjl)
              obtain ⟨b2, o2, eB, _, y2⟩ := x2.at_ j (by simpa using hjl)
              rw [tab_get] at y1 y2
              clear HBV x1 x2
              subst eA
              subst eB
              have q0 := st.cell i hci1
              have q1 := blk_tabB bG j hjl
              have qf := bG.frozen j
              have ql := bG.lt
              have qn := (bN.cell 0).trans rfl
              have qnl := bN.lt
              have qt := st.tbl.lt
              have bG2 := blk_tabB_set (g' := fun y => cond (decide (y < j + 1)) (F1 y || F2 y) (F1 y && !F2 y)) bG j (F1 j || F2 j) (fun y _ => by
                by_cases e : y = j
                · subst e; simp
                · have : decide (y < j + 1) = decide (y < j) := by congr 1; exact propext ⟨fun _ => by omega, fun _ => by omega⟩
                  rw [this, if_neg e])
              have st2 := (st.far (p := ⟨g, j, none⟩) hgl hgn hgr hgw (.bool (F1 j || F2 j))).below (below_drew' (Below.refl _ _))
              have bN2 := (bN.far (p := ⟨g, j, none⟩) hgb (.bool (F1 j || F2 j))).drew
              replace bG2 := bG2.drew
              clear st bN bG
              generalize cond (decide (j < j)) (F1 j || F2 j) (F1 j && !F2 j) = old at *
              generalize F1 j = u1 at *
              generalize F2 j = u2 at *
              cases u1 with
              | true =>
                simp only [Bool.true_or] at st2 bN2 bG2
                go_wp2_with fail
                go_region
                all_goals
                  go_wp2_with fail
                  go_roundw
                  case rel => exact ⟨j + 1, by omega, by go_num, st2, bN2, bG2⟩
                  case measure => simp [intOf]; omega
              | false =>
                simp only [Bool.false_or] at st2 bN2 bG2
                go_wp2_with fail
                go_region
                all_goals
                  go_wp2_with fail
                  go_roundw
                  case rel => exact ⟨j + 1, by omega, by go_num, st2, bN2, bG2⟩
                  case measure => simp [intOf]; omega
            · obtain rfl : j = l.length := by omega
              have st2 : EvSt w wi gT l.length (g + 1) cs1 (Oq.evL l (q.take (i + 1)) []) := by
                rw [HTi.out, HVN.out, hsat1.out, hsat2.out]
                refine st.push (by rw [HLi]; exact hci1) ?_ (by omega) bG.lt
                have bG' : Blk wi g 4 (boolsA (tab l.length (Oq.binV 14 F1 F2))) := by
                  rw [tab_congr (f := Oq.binV 14 F1 F2) (g := fun y => cond (decide (y < l.length)) (F1 y || F2 y) (F1 y && !F2 y)) (fun y hy => by simp [Oq.binV, hy])]; exact bG
                exact RowIs.of_blk bG' (by unfold maxLen; omega)
              clear st bN bG
              go_wp2_with fail
              go_roundw
              case rel => exact ⟨i + 1, g + 1, cs1, by omega, by go_num, hcl1, st2⟩
              case measure => simp [intOf]; omega
        · have tn0 := (bN.cell 0).trans rfl
          have lN5 := bN.lt
          go_loopw [63] (fun jv wr => ∃ j : Nat, j ≤ l.length ∧ jv = .int .i64 j ∧ wr = W5) (fun jv _ => l.length - (intOf jv).toNat)
          case atStart => exact ⟨0, Nat.zero_le _, rfl, by first | exact rfl | trivial⟩
          case round =>
            obtain ⟨j, hj, rfl, rfl⟩ := hrel
            by_cases hjl : j < l.length
            · have hjl' : (j : Int) < l.length := by omega
              go_wp2_with fail
              go_roundw
              case rel => exact ⟨j + 1, by omega, by go_num, by first | exact rfl | trivial⟩
              case measure => simp [intOf]; omega
            · obtain rfl : j = l.length := by omega
              have st2 : EvSt w wr gT l.length (g + 1) cs1 (Oq.evL l (q.take (i + 1)) []) := by
                rw [HTi.out, HVN.out, hsat1.out, hsat2.out]
                refine st.push (by rw [HLi]; exact hci1) ?_ (by omega) bG.lt
                have bG' : Blk wr g 4 (boolsA (tab l.length (Oq.binV 16 F1 F2))) := by
                  rw [tab_congr (f := Oq.binV 16 F1 F2) (g := fun y => F1 y && !F2 y) (fun y hy => by simp [Oq.binV, hy])]; exact bG
                exact RowIs.of_blk bG' (by unfold maxLen; omega)
              clear st bN bG
              go_wp2_with fail
              go_roundw
              case rel => exact ⟨i + 1, g + 1, cs1, by omega, by go_num, hcl1, st2⟩
              case measure => simp [intOf]; omega
    · obtain rfl : i = q.length := by omega
      have HLi := HL.out q.length (Nat.le_refl _)
      obtain ⟨v, hcv, hr⟩ := st.rows (q.length - 1) (by rw [HLi]; omega)
      obtain ⟨A9, c9, rfl, hbv⟩ := hr.bv
      have hval : Oq.val l q = (Oq.evL l (q.take q.length) [])[q.length - 1]'(by rw [HLi]; omega) := by
        rw [← Oq.sAt_get]
        unfold Oq.val
        rw [List.take_length]
        congr 1
        omega
      rw [← hval] at hbv
      have HF := Lib.hid (fun (W : World) (hbW : BV W A9 (tab l.length (Oq.val l q))) (hbe : Below w.heap.size w W) => (show EvPost w l q (.returned (.tuple #[.slice A9 l.length c9, .agg #[.int .i64 0, .int .i64 0]])) W from ⟨A9, c9, rfl, hbW, hbe⟩))
      have hbs := st.bel
      have tc := st.cell (q.length - 1) hcv
      have hsub : IntKind.i64.wrap ((q.length : Int) - 1) = ((q.length - 1 : Nat) : Int) := by rw [IntWalk.i64_in _ (by omega)]; omega
      have hm : ((q.length - 1 : Nat) : Int) < q.length := by omega
      have q0 := (st.rs.cell 0).trans rfl
      have q1 := (st.rs.cell 1).trans rfl
      have f0 := st.rs.frozen 0
      have f1 := st.rs.frozen 1
      have l1 := st.rs.lt
      have l2 := st.tbl.lt
      have hownR : BV ((wo.setCell ⟨w.heap.size + 1, 0, none⟩ (.int .i64 0)).setCell ⟨w.heap.size + 1, 1, none⟩ (.int .i64 0)) A9 (tab l.length (Oq.val l q)) := by
        obtain ⟨A', c', e', ho, _⟩ := hr
        injection e' with e1 e2 e3
        subst e1
        rw [← hval] at ho
        have := own_setCell (own_setCell ho (own_blk_ne ho st.rs (by decide)) (p := ⟨w.heap.size + 1, 0, none⟩) (.int .i64 0)) (p := ⟨w.heap.size + 1, 1, none⟩) (own_blk_ne ho st.rs (by decide)) (.int .i64 0)
        exact SV.of_own this
      have brs := st.rs
      clear hr hbv hval st hcv
      generalize q.length - 1 = m at *
      go_wp2_with fail
      refine bodyPost_ret (results_tc rfl _ _ (w.heap.size + 1) (.int .i64 0) (.int .i64 0) rfl (blk_put26 brs _ _)) rfl ?_
      exact HF.out _ hownR ((hbs.setCell (p := ⟨w.heap.size + 1, 0, none⟩) (by simp) _).setCell (p := ⟨w.heap.size + 1, 1, none⟩) (by simp) _)
end Go.Proofs.Ytebohncdhhikkaa
