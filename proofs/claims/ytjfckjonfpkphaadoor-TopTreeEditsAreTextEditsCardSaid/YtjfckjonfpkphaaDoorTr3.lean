/-
  File trees: walks of 'Validate', 'Second'.
-/
import Derived.Test.YtjfckjonfpkphaaDoorTr2
import Derived.Deep.RegionHeld3
import Derived.Deep.DeepCutAuto
namespace Go.Proofs.YtjfckjonfpkphaaDoor
open Go.RowKit Go.V Go.Shelf
set_option linter.unusedVariables false

theorem less_eq : ∀ a b : List UInt8, Op.bytesLess a b = decide (a < b)
  | a, [] => by cases a <;> simp [Op.bytesLess]
  | [], y :: b => by simp [Op.bytesLess]
  | x :: a, y :: b => by
    rw [Op.bytesLess, less_eq a b, Bool.eq_iff_iff]
    simp [List.cons_lt_cons_iff]
theorem nlt_tri (a b : List UInt8) : a < b ∨ a = b ∨ b < a := by
  by_cases h : a < b
  · exact .inl h
  · by_cases k : b < a
    · exact .inr (.inr k)
    · exact .inr (.inl (List.le_antisymm (List.not_lt.1 k) (List.not_lt.1 h)))
theorem leq_true {a b : List UInt8} (h : ¬ a < b) : (Op.bytesLess b a || b == a) = true := by
  rw [less_eq, Bool.or_eq_true, decide_eq_true_iff, beq_iff_eq]
  rcases nlt_tri a b with k | k | k
  · exact absurd k h
  · exact .inr k.symm
  · exact .inl k
theorem leq_false {a b : List UInt8} (h : a < b) : (Op.bytesLess b a || b == a) = false := by
  rw [less_eq, Bool.or_eq_false_iff, decide_eq_false_iff_not, beq_eq_false_iff_ne]
  exact ⟨fun k => List.lt_irrefl a (List.lt_trans h k), fun k => List.lt_irrefl a (by rw [k] at h; exact h)⟩
theorem below_drewN' {B : Nat} {a w : World} (h : Below B a w) (n : Nat) : Below B a (w.drewN n) := below_drewN h n
theorem slice_to25 (W : World) (A : Option Addr) (n k m : Nat) (h : m ≤ k) : (Instr.slice 22 (.slice A n k) none (some (.int .i64 (m : Int))) none).run Tryd.prog W = .ok (.slice A m k) W := by
  have hu := Tryd.underlying22
  have h1 : (m : Int) ≤ k := by omega
  by_cases hk : k = 0
  · subst hk
    obtain rfl : m = 0 := by omega
    simp [Instr.slice, Instr.sliceBounds, Instr.sliceBound, go_sem, hu]
  · have h2 : ¬ k = 0 := hk
    rcases A with _ | ⟨b, off, _⟩ <;> simp [Instr.slice, Instr.sliceBounds, Instr.sliceBound, go_sem, hu, h1, h2] <;> (intro hh; omega)
theorem VfV.take {w : World} {X : Nat → Prop} {A : Option Addr} {t : List Tr.F} (h : VfV w X A t) (i : Nat) : VfV w X A (t.take i) := by
  obtain ⟨vs, h1, h2⟩ := h
  exact ⟨vs.take (i * 2), h1.take _, (RowsR.take FlR.len h2 i).1⟩
/-- The box of the tree and the result. -/
structure TvSt (w wr : World) (A : Option Addr) (n k : Nat) : Prop where
  bx : Blk wr w.heap.size 24 #[.slice A n k]
  r : Blk wr (w.heap.size + 1) 29 #[.int .i64 0, .int .i64 0]
  bel : Below w.heap.size w wr
section
variable {w wr w' : World} {A : Option Addr} {n k : Nat}
theorem TvSt.below (h : TvSt w wr A n k) (hb : Below wr.heap.size wr w') : TvSt w w' A n k :=
  ⟨h.bx.below hb h.bx.lt, h.r.below hb h.r.lt, h.bel.trans (hb.mono h.bel.size)⟩
theorem TvSt.facts (h : TvSt w wr A n k) : wr.cell? ⟨w.heap.size, 0, none⟩ = some (.slice A n k) ∧ wr.cell? ⟨w.heap.size + 1, 0, none⟩ = some (.int .i64 0) ∧ wr.cell? ⟨w.heap.size + 1, 1, none⟩ = some (.int .i64 0) ∧
    wr.frozen? ⟨w.heap.size + 1, 0, none⟩ = false ∧ wr.frozen? ⟨w.heap.size + 1, 1, none⟩ = false ∧ w.heap.size < wr.heap.size ∧ w.heap.size + 1 < wr.heap.size :=
  ⟨(h.bx.cell 0).trans rfl, (h.r.cell 0).trans rfl, (h.r.cell 1).trans rfl, h.r.frozen 0, h.r.frozen 1, h.bx.lt, h.r.lt⟩
theorem TvSt.put (h : TvSt w wr A n k) (u v : Value) : Blk ((wr.setCell ⟨w.heap.size + 1, 0, none⟩ u).setCell ⟨w.heap.size + 1, 1, none⟩ v) (w.heap.size + 1) 29 #[u, v] ∧ Below w.heap.size w ((wr.setCell ⟨w.heap.size + 1, 0, none⟩ u).setCell ⟨w.heap.size + 1, 1, none⟩ v) :=
  ⟨blk_put2 h.r u v, (h.bel.setCell (p := ⟨w.heap.size + 1, 0, none⟩) (by simp only; omega) u).setCell (p := ⟨w.heap.size + 1, 1, none⟩) (by simp only; omega) v⟩
end
set_option maxRecDepth 100000 in
set_option maxHeartbeats 16000000 in
theorem tvalidate_any (w : World) (hm : Mx w) (A : Option Addr) (k : Nat) (t : List Tr.F) (hv : VfV w Free A t) (hl : t.length ≤ 9223372036854775807) (hk : t.length ≤ k) :
    Calls Tryd.prog 4 #[.agg #[.slice A t.length k]] w (FaultPost w (Tr.vlF t)) := by
  have HV := Lib.hid (fun (w' : World) (hb : Below w.heap.size w w') => hv.keep (free_below hb))
  have HM := Lib.hid hm.fun_
  have HLF := Lib.hid (Tr.vlF.eq_1 t)
  generalize hr : Tr.vlF t = r at *
  clear hr hv hm
  have st0 : TvSt w ((w.alloc (.cells #[.slice A t.length k] 24)).alloc (.cells #[.int .i64 0, .int .i64 0] 29)) A t.length k := ⟨(Blk.new _ _ _).alloc _, blk_new1 _ _ _ _, below_alloc2 _ _ _⟩
  by_cases h24 : 24 < t.length
  · have H := Lib.hid (HLF.out.trans (if_pos h24))
    have h24' : (24 : Int) < t.length := by omega
    clear HLF h24
    go_enter Tryd.func4, Tryd.ntmps4
    go_wp2_with fail
    refine bodyPost_ret (results_c rfl _ _ (w.heap.size + 1) (.int .i64 2) (.int .i64 (-1)) rfl (blk_new1 w (.cells #[.slice A t.length k] 24) 29 #[.int .i64 2, .int .i64 (-1)])) rfl (FaultPost.mk_ H.out (below_alloc2 _ _ _))
  · have H := Lib.hid (HLF.out.trans (if_neg h24))
    have h24' : ¬ (24 : Int) < t.length := by omega
    clear HLF
    go_enter Tryd.func4, Tryd.ntmps4
    go_wp2_with fail
    go_loopw [14] (fun iv wr => ∃ i : Nat, i ≤ t.length ∧ iv = .int .i64 i ∧ Hid (r = Tr.vlFrom t i) ∧ Hid (∀ j, j < i → Tr.pathOk (Tr.it t j).path = true) ∧ TvSt w wr A t.length k) (fun iv _ => t.length - (intOf iv).toNat)
    case atStart => exact ⟨0, Nat.zero_le _, rfl, H, Lib.hid (fun j hj => by omega), st0⟩
    case round =>
      obtain ⟨i, hi, rfl, HI, HJ, st⟩ := hrel
      obtain ⟨wo, rfl⟩ : ∃ wo : World, wo = wr := ⟨_, rfl⟩
      by_cases hlt2 : i < t.length
      · have hlt' : (i : Int) < t.length := by omega
        obtain ⟨b, off, A', k', e, hb, _, d0, d1, dl⟩ := (HV.out _ st.bel).row i hlt2
        subst e
        have HC := Lib.hid (Tr.flC.eq_1 t i)
        have HIB := Lib.hid (fun h => HI.out.trans (Tr.vlFrom_bad t i hlt2 h))
        have HIN := Lib.hid (fun h => HI.out.trans (Tr.vlFrom_next t i hlt2 h))
        have HPRE := Lib.hid (fun (h0 : 0 < i) (w1 : World) (hb1 : Below w.heap.size w w1) => by
          obtain ⟨b2, off2, A2, k2, e2, hb2, _, c0, _, _⟩ := (HV.out _ hb1).row (i - 1) (by omega)
          simp at e2; obtain ⟨rfl, rfl⟩ := e2
          exact (⟨hb2, c0⟩ : b < w1.heap.size ∧ w1.cell? ⟨b, off + (i - 1) * 2, none⟩ = some (strV (Tr.it t (i - 1)).path)))
        clear HI
        have hal := below_alloc1 wo (.cells #[strV (Tr.it t i).path, .slice A' (Tr.it t i).lines.length k'] 36)
        have st1 := st.below hal
        have bf := Blk.new wo 36 #[strV (Tr.it t i).path, .slice A' (Tr.it t i).lines.length k']
        have HVP := Lib.hid (validPath_any (wo.alloc (.cells #[strV (Tr.it t i).path, .slice A' (Tr.it t i).lines.length k'] 36)) (HM.out _ st1.bel) (Tr.it t i).path)
        have HCL := Lib.hid (fun (w1 : World) (hb1 : Below w.heap.size w w1) (hp : (Tr.it t i).path.length ≤ 60) => by
          have := clash_any w1 (some ⟨b, off, none⟩) k (t.take i) (Tr.it t i).path ((HV.out _ hb1).take i) (by simp; omega) (fun j hj => by
            have hj' : j < i := by simp at hj; omega
            rw [← Tr.it_eq (t.take i) j hj, List.getElem_take, Tr.it_eq t j (by omega)]
            have := Tr.pathOk_len (HJ.out j hj'); omega) (by omega)
          rwa [List.length_take, Nat.min_eq_left (by omega)] at this)
        have HSEC := Lib.hid (fun (w1 : World) (hb1 : Below wo.heap.size wo w1) => lnSecond_any w1 A' k' (Tr.it t i).lines (i : Int) (dl.ls.keep (free_below hb1)) (by have := dl.ll; omega))
        have hs1 : ∀ W, (Instr.slice 22 (.slice (some ⟨b, off, none⟩) t.length k) none (some (.int .i64 (i : Int))) none).run Tryd.prog W = .ok (.slice (some ⟨b, off, none⟩) i k) W := fun W => slice_to25 W _ _ _ i (by omega)
        have hlz : Hid ((Tr.lnF (Tr.it t i).lines).1 = 0 → Tr.lnF (Tr.it t i).lines = (0, 0)) := Lib.hid lnF_zero
        have HPL := Lib.hid (fun h => Tr.pathOk_len (l := (Tr.it t i).path) h)
        have HJN : Hid (Tr.pathOk (Tr.it t i).path = true → ∀ j, j < i + 1 → Tr.pathOk (Tr.it t j).path = true) := Lib.hid fun h j hj => by
          by_cases e : j = i
          · subst e; exact h
          · exact HJ.out j (by omega)
        clear HJ dl
        generalize hfc : Tr.flC t i = fc at *
        clear hfc
        generalize hpv : (Tr.it t (i - 1)).path = pv at *
        clear hpv
        generalize Tr.clash (t.take i) (Tr.it t i).path = cl at *
        generalize Tr.it t i = x at *
        obtain ⟨p0, p1, p2, p3, p4, l0, l1⟩ := st1.facts
        have b0 := (bf.cell 0).trans rfl
        have b1 := (bf.cell 1).trans rfl
        have bl := bf.lt
        go_wp2_with fail
        go_at_call 10
        with_reducible refine HVP.out.mono ?_
        rintro e w1 ⟨rfl, hb1⟩
        have st2 := st1.below hb1
        have bf2 := bf.below hb1 bf.lt
        have hbo := hal.trans (hb1.mono hal.size)
        clear st1 bf hb1 HVP p0 p1 p2 p3 p4 l0 l1 b0 b1 bl hal
        obtain ⟨p0, p1, p2, p3, p4, l0, l1⟩ := st2.facts
        have b0 := (bf2.cell 0).trans rfl
        have b1 := (bf2.cell 1).trans rfl
        have bl := bf2.lt
        cases hpo : Tr.pathOk x.path with
        | false =>
          have H2 : Hid (r = (12, (i : Int))) := Lib.hid (by
            have e := HC.out; rw [if_pos hpo] at e
            have := HIB.out (by rw [e]; decide)
            rw [e] at this; exact this)
          clear HC HIB HIN HCL HSEC hlz HPL HJN hpo
          go_wp2_with fail
          obtain ⟨k1, k2⟩ := st2.put (.int .i64 12) (.int .i64 i)
          exact bodyPost_ret (results_c rfl _ _ (w.heap.size + 1) (.int .i64 12) (.int .i64 i) rfl k1) rfl (FaultPost.mk_ H2.out k2)
        | true =>
          have HC2 := Lib.hid (HC.out.trans (if_neg (by rw [hpo]; decide)))
          have hpl := HPL.out hpo
          have HJN2 := Lib.hid (HJN.out hpo)
          clear HC HPL HJN hpo
          have HKB := Lib.hid (fun (w6 : World) (h6 : Below w1.heap.size w1 w6) => show w6.cell? ⟨w.heap.size, 0, none⟩ = some (.slice (some ⟨b, off, none⟩) t.length k) ∧ w6.cell? ⟨wo.heap.size, 0, none⟩ = some (strV x.path) ∧ w6.cell? ⟨wo.heap.size, 1, none⟩ = some (.slice A' x.lines.length k') from
            ⟨(h6.cell (p := ⟨_, _, none⟩) l0).trans p0, (h6.cell (p := ⟨_, _, none⟩) bl).trans b0, (h6.cell (p := ⟨_, _, none⟩) bl).trans b1⟩)
          by_cases hbad : 0 < i ∧ ¬ pv < x.path
          · obtain ⟨hi0, hnl⟩ := hbad
            have H2 : Hid (r = (5, (i : Int))) := Lib.hid (by
              have e := HC2.out; rw [if_pos ⟨hi0, hnl⟩] at e
              have := HIB.out (by rw [e]; decide)
              rw [e] at this; exact this)
            obtain ⟨c0, c1⟩ := HPRE.out hi0 _ st2.bel
            have hi0' : (0 : Int) < i := by omega
            have hg1 : decide ((0 : Int) < i) = true := by simp; omega
            have hg2 : decide (0 < i) = true := by simp; omega
            have hsub : IntKind.i64.wrap ((i : Int) - 1) = ((i - 1 : Nat) : Int) := by rw [IntWalk.i64_in _ (by omega)]; omega
            have hj : ((i - 1 : Nat) : Int) < t.length := by omega
            have hle := leq_true hnl
            clear HC2 HIB HIN HCL HSEC hlz HJN2 HPRE hnl hi0 HKB
            generalize i - 1 = j at *
            go_wp2_with fail
            go_quiet (fail)
            go_wp2_with fail
            obtain ⟨k1, k2⟩ := (st2.below (below_drewN' (Below.refl _ _) nq)).put (.int .i64 5) (.int .i64 i)
            exact bodyPost_ret (results_c rfl _ _ (w.heap.size + 1) (.int .i64 5) (.int .i64 i) rfl k1) rfl (FaultPost.mk_ H2.out k2)
          · have HC3 := Lib.hid (HC2.out.trans (if_neg hbad))
            clear HC2
            go_wp2_with fail
            go_cut [26] (fun v wx => v = .bool false ∧ ∃ n, wx = w1.drewN n)
            case first =>
              by_cases hi0 : 0 < i
              · obtain ⟨c0, c1⟩ := HPRE.out hi0 _ st2.bel
                have hlt9 : pv < x.path := Classical.byContradiction fun h => hbad ⟨hi0, h⟩
                have hi0' : (0 : Int) < i := by omega
                have hg1 : decide ((0 : Int) < i) = true := by simp; omega
                have hg2 : decide (0 < i) = true := by simp; omega
                have hsub : IntKind.i64.wrap ((i : Int) - 1) = ((i - 1 : Nat) : Int) := by rw [IntWalk.i64_in _ (by omega)]; omega
                have hj : ((i - 1 : Nat) : Int) < t.length := by omega
                have hle := leq_false hlt9
                clear HC3 HIB HIN HCL HSEC hlz HJN2 HPRE hlt9 hi0 HKB hbad
                generalize i - 1 = j at *
                go_quiet (fail)
                go_wp2_with fail
                go_meet
                exact ⟨rfl, _, rfl⟩
              · have hi0' : ¬ (0 : Int) < i := by omega
                have hg1 : decide ((0 : Int) < i) = false := by simp; omega
                have hg2 : decide (0 < i) = false := by simp; omega
                clear HC3 HIB HIN HCL HSEC hlz HJN2 HPRE hi0 HKB hbad
                go_quiet (fail)
                go_wp2_with fail
                go_meet
                exact ⟨rfl, _, rfl⟩
            case rest =>
              obtain ⟨rfl, n2, rfl⟩ := hcut
              have hbz := below_drewN' (Below.refl w1.heap.size w1) n2
              have HK := Lib.hid (fun (w6 : World) (h6 : Below (w1.drewN n2).heap.size (w1.drewN n2) w6) => HKB.out w6 (hbz.trans (h6.mono hbz.size)))
              have st3 := st2.below hbz
              have bf3 := bf2.below hbz bf2.lt
              have hbo3 := hbo.trans (hbz.mono hbo.size)
              clear st2 bf2 hbo hbz HKB HPRE hbad p0 p1 p2 p3 p4 l0 l1 b0 b1 bl
              generalize w1.drewN n2 = wq at *
              have hk0 : Below wq.heap.size wq wq.drew := below_drew' (Below.refl _ _)
              have bl := bf3.lt
              have l0 := st3.bx.lt
              go_wp2_with fail
              go_region_held3 (fun w6 => w6.cell? ⟨w.heap.size, 0, none⟩ = some (.slice (some ⟨b, off, none⟩) t.length k) ∧ w6.cell? ⟨wo.heap.size, 0, none⟩ = some (strV x.path) ∧ w6.cell? ⟨wo.heap.size, 1, none⟩ = some (.slice A' x.lines.length k'))
                (first | exact HK.out _ hk0 | exact HK.out _ hk1)
                (first | (go_at_call 11; (with_reducible refine (HCL.out _ (st3.bel.trans (hk0.mono st3.bel.size)) hpl).mono ?_); rintro e v1 ⟨rfl, hv1⟩; have hk1 : Below wq.heap.size wq v1 := hk0.trans (hv1.mono hk0.size)))
              have st4 := st3.below hk1
              have bf4 := bf3.below hk1 bf3.lt
              have hbo4 := hbo3.trans (hk1.mono hbo3.size)
              clear st3 bf3 hbo3 hk0 hk1 hv1 bl l0 HK HCL
              obtain ⟨p0, p1, p2, p3, p4, l0, l1⟩ := st4.facts
              have b0 := (bf4.cell 0).trans rfl
              have b1 := (bf4.cell 1).trans rfl
              have bl := bf4.lt
              cases cl with
              | true =>
                have H2 : Hid (r = (7, (i : Int))) := Lib.hid (by
                  have e := HC3.out; rw [if_pos rfl] at e
                  have := HIB.out (by rw [e]; decide)
                  rw [e] at this; exact this)
                clear HC3 HIB HIN HSEC hlz HJN2
                go_wp2_with fail
                obtain ⟨k1, k2⟩ := st4.put (.int .i64 7) (.int .i64 i)
                exact bodyPost_ret (results_c rfl _ _ (w.heap.size + 1) (.int .i64 7) (.int .i64 i) rfl k1) rfl (FaultPost.mk_ H2.out k2)
              | false =>
                have HC4 := Lib.hid (HC3.out.trans (if_neg (by decide)))
                clear HC3
                have HS2 := Lib.hid (HSEC.out _ hbo4)
                clear HSEC
                go_wp2_with fail
                go_at_call 12
                with_reducible refine HS2.out.mono ?_
                rintro e w5 ⟨rfl, hb5⟩
                have st5 := st4.below hb5
                clear st4 bf4 hbo4 p0 p1 p2 p3 p4 l0 l1 b0 b1 bl HS2
                obtain ⟨p0, p1, p2, p3, p4, l0, l1⟩ := st5.facts
                by_cases hln : (Tr.lnF x.lines).1 ≠ 0
                · have H2 : Hid (r = ((Tr.lnF x.lines).1, (i : Int))) := Lib.hid (by
                    have e := HC4.out
                    have := HIB.out (by rw [e]; exact hln)
                    rw [e] at this; exact this)
                  have hsf : secF (Tr.lnF x.lines) (i : Int) = ((Tr.lnF x.lines).1, (i : Int)) := if_pos hln
                  have hx1 : ((Tr.lnF x.lines).1 == 0) = false := by simpa using hln
                  have hx2 : ((Tr.lnF x.lines).1 != 0) = true := by simpa using hln
                  rw [hsf]
                  clear HC4 HIB HIN hlz HJN2 hsf hln
                  generalize (Tr.lnF x.lines).1 = cd at *
                  go_wp2_with fail
                  obtain ⟨k1, k2⟩ := st5.put (.int .i64 cd) (.int .i64 i)
                  exact bodyPost_ret (results_c rfl _ _ (w.heap.size + 1) (.int .i64 cd) (.int .i64 i) rfl (k1.alloc _)) rfl (FaultPost.mk_ H2.out (k2.alloc (by simp [World.setCell]; omega) _))
                · have hz := Classical.not_not.1 hln
                  have H2 := Lib.hid (HIN.out (by rw [HC4.out, hz]))
                  have hsf : secF (Tr.lnF x.lines) (i : Int) = (0, 0) := if_neg hln
                  rw [hsf]
                  have st6 := st5.below (below_alloc1 w5 (.cells #[.int .i64 0, .int .i64 0] 29))
                  clear HC4 HIB HIN hlz hsf hln hz
                  go_wp2_with fail
                  go_roundw
                  case rel => exact ⟨i + 1, by omega, by go_num, H2, HJN2, st6⟩
                  case measure => simp [intOf]; omega
      · obtain rfl : i = t.length := by omega
        have H2 : Hid (r = (0, 0)) := Lib.hid (by rw [HI.out, Tr.vlFrom_end t _ (Nat.le_refl _)])
        obtain ⟨p0, p1, p2, p3, p4, l0, l1⟩ := st.facts
        clear HI
        go_wp2_with fail
        obtain ⟨k1, k2⟩ := st.put (.int .i64 0) (.int .i64 0)
        exact bodyPost_ret (results_c rfl _ _ (w.heap.size + 1) (.int .i64 0) (.int .i64 0) rfl k1) rfl (FaultPost.mk_ H2.out k2)
end Go.Proofs.YtjfckjonfpkphaaDoor
