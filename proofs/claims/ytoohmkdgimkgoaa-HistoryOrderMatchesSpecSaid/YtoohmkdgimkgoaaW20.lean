/-
  Histories: walk of 'Generations'.
-/
import Derived.Test.YtoohmkdgimkgoaaW14
import Derived.Test.YtoohmkdgimkgoaaPure7
import Derived.StillTailTactics
import Derived.BigRegion
namespace Go.Proofs.Ytoohmkdgimkgoaa
open Go.RowKit Go.V
set_option linter.unusedVariables false

structure GenSt (w wB wr : World) (l : List Hs.Cm) (f : Nat → Int) : Prop where
  tab : TabRel wB wr l.length f
  res : Blk wr w.heap.size 26 #[.int .i64 0, .int .i64 0]
  lo : w.heap.size < wB.heap.size
  bel : Below w.heap.size w wr
theorem GenSt.set_ {w wB wr : World} {l : List Hs.Cm} {f f' : Nat → Int} (h : GenSt w wB wr l f) (i : Nat) (x : Int) (hf : ∀ j, j < l.length → f' j = if j = i then x else f j) : GenSt w wB (wr.setCell ⟨wB.heap.size, i, none⟩ (.int .i64 x)) l f' :=
  ⟨h.tab.set_ i x hf, h.res.far (by have := h.lo; simp; omega) _, h.lo, h.bel.setCell (by have := h.lo; simp; omega) _⟩
theorem GenSt.alloc {w wB wr : World} {l : List Hs.Cm} {f : Nat → Int} (h : GenSt w wB wr l f) (o : Obj) : GenSt w wB (wr.alloc o) l f := ⟨h.tab.alloc o, h.res.alloc o, h.lo, h.bel.alloc h.bel.size o⟩
theorem GenSt.drewN {w wB wr : World} {l : List Hs.Cm} {f : Nat → Int} (h : GenSt w wB wr l f) (n : Nat) : GenSt w wB (wr.drewN n) l f := ⟨⟨h.tab.blk.drewN n, below_drewN h.tab.bel n⟩, h.res.drewN n, h.lo, below_drewN h.bel n⟩
theorem GenSt.congr {w wB wr : World} {l : List Hs.Cm} {f f' : Nat → Int} (h : GenSt w wB wr l f) (hf : ∀ j, j < l.length → f' j = f j) : GenSt w wB wr l f' :=
  ⟨⟨by have := h.tab.blk; rw [← tab_congr (f := f') (g := f) hf] at this; exact this, h.tab.bel⟩, h.res, h.lo, h.bel⟩

set_option maxRecDepth 100000 in
set_option maxHeartbeats 8000000 in
theorem gens_ok (w : World) (A : Option Addr) (k : Nat) (l : List Hs.Cm) (hv : CV w A l) (hok : Hs.Ok l) :
    Calls Try.prog 33 #[.slice A l.length k] w (IntsPost w (tab l.length (Hs.gen l))) := by
  have hl := hok.len
  have hmk := run_make_row' (P := Try.prog) 37 3 (.int .i64 0) 8 Try.underlying37 info3 rfl .i64 .i64 l.length (by omega) (by omega)
  have HC := Lib.hid (fun w1 h => validate_any w1 A k l h (by omega))
  have HV := Lib.hid (Hs.validate_of_ok hok)
  go_enter Try.func33, Try.ntmps33
  go_wp2_with fail
  go_at_call 20
  refine (HC.out _ (hv.alloc _)).mono ?_
  rw [HV.out]
  rintro e w1 ⟨rfl, hb1⟩
  have hblk := (Blk.new w 26 #[.int .i64 0, .int .i64 0]).below hb1 (by simp)
  have hbel := (below_alloc1 w (.cells #[.int .i64 0, .int .i64 0] 26)).trans (hb1.mono (by simp))
  have hsz := hbel.size
  have hlt := hblk.lt
  clear hb1 HC HV
  go_wp2_with fail
  have hz : w1.heap.size + 1 = (w1.alloc (.cells #[.int .i64 0, .int .i64 0] 26)).heap.size := by simp
  rw [hz]
  clear hz
  have hblkB := hblk.alloc (.cells #[.int .i64 0, .int .i64 0] 26)
  have hbelB := hbel.alloc hsz (.cells #[.int .i64 0, .int .i64 0] 26)
  generalize hwB : w1.alloc (.cells #[.int .i64 0, .int .i64 0] 26) = wB at *
  have hloB : w.heap.size < wB.heap.size := by rw [← hwB]; simp; omega
  have hszB := hbelB.size
  clear hwB hblk hbel hsz hlt
  go_loopw [21] (fun v wr => ∃ i : Nat, i ≤ l.length ∧ v = .int .i64 i ∧ GenSt w wB wr l (Hs.genT l i)) (fun v _ => l.length - (intOf v).toNat)
  case atStart => exact ⟨0, Nat.zero_le _, rfl, ⟨blk_made_int _ _ _, below_alloc1 _ _⟩, hblkB.alloc _, hloB, hbelB.alloc hszB _⟩
  case round =>
    obtain ⟨i, hi, rfl, st⟩ := hrel
    obtain ⟨wo, rfl⟩ : ∃ wo : World, wo = wr := ⟨_, rfl⟩
    have hsz := st.tab.bel.size
    have hlt0 := st.tab.blk.lt
    by_cases hlt : i < l.length
    · obtain ⟨b, off, Ap, kp, e, hb, c0, c1, c2, c3, c4, hok', hip⟩ := hv.rowIn st.bel i hlt
      subst e
      have HP := Lib.hid (hok.par_nat i · hlt)
      have HB := Lib.hid (fun kk hk => Hs.genF_bd l (Hs.genT l i) i i (by omega) (Hs.genT_bd l i) kk hk)
      have HB2 := Lib.hid (Hs.genT_bd l i)
      have hpl := hok.par_len i hlt
      have HPL := Lib.hid (Hs.pars_length l i hlt)
      have HE := Lib.hid (fun j => Hs.genIn_all l i l[i].par.length j (by rw [Hs.pars_length l i hlt]))
      have HS := Lib.hid (Hs.genIn_succ l i)
      generalize l[i] = c at *
      obtain ⟨p1, p2, p3, p4, p5, p6⟩ := hok'
      have st1 := (st.set_ (f' := Hs.genIn l i 0) i 1 (fun j _ => Hs.genIn_zero l i j)).alloc (.cells #[.slice Ap c.par.length kp, .int .i64 c.au, .int .i64 c.tm, .int .i64 c.tr, .string c.msg] 41)
      have hci := blk_tab st.tab.blk i hlt
      have hfi := st.tab.blk.frozen i
      have hp3 : c.par.length ≤ 9223372036854775807 := p1
      have hlt' : (i : Int) < l.length := by omega
      clear p2 p3 p4 p5 p6 p1
      go_wp2_with fail
      clear hci hfi st
      go_loopw [32] (fun v wr => ∃ j : Nat, j ≤ c.par.length ∧ v = .int .i64 j ∧ GenSt w wB wr l (Hs.genIn l i j)) (fun v _ => c.par.length - (intOf v).toNat)
      case atStart => exact ⟨0, Nat.zero_le _, rfl, st1⟩
      case round =>
        obtain ⟨j, hj, rfl, st2⟩ := hrel
        obtain ⟨w2, rfl⟩ : ∃ w2 : World, w2 = wr := ⟨_, rfl⟩
        clear st1
        by_cases hjl : j < c.par.length
        · obtain ⟨b', off', e', hb', hc'⟩ := hip.atIn st2.bel j hjl
          subst e'
          obtain ⟨p, hp, hpi, hj', hpe⟩ := HP.out j hjl
          rw [hp] at hc'
          have hcp := blk_tab st2.tab.blk p (by omega)
          have hci := blk_tab st2.tab.blk i hlt
          have e1 : Hs.genIn l i j p = Hs.genT l i p := by unfold Hs.genIn; rw [if_neg (by omega)]
          have e2 : Hs.genIn l i j i = Hs.genF l (Hs.genT l i) i j := by unfold Hs.genIn; rw [if_pos rfl]
          rw [e1] at hcp
          rw [e2] at hci
          have hfi := st2.tab.blk.frozen i
          have hb1 := HB.out j (by rw [HPL.out]; omega)
          have hb2 := HB2.out p
          have hpn : (p : Int) < l.length := by omega
          have hst := st2.set_ (f' := Hs.genIn l i (j + 1)) i (max (Hs.genF l (Hs.genT l i) i j) (Hs.genT l i p + 1)) (fun q hq => by rw [HS.out j q hj', hpe])
          clear hp hpe HP HS e1 e2
          generalize Hs.genF l (Hs.genT l i) i j = v1 at *
          generalize Hs.genT l i p = v2 at *
          have hmx : max v1 (v2 + 1) = if v1 < v2 + 1 then v2 + 1 else v1 := by split <;> omega
          rw [hmx] at hst
          clear hmx
          go_wp2_with fail
          go_still_tail 13, (by kernel_rfl)
          change wpList _ _ _ _ _ w2.drew
          go_wp2
          go_roundw
          case rel => exact ⟨j + 1, by omega, by go_num, hst.drewN 1⟩
          case measure => simp [intOf]; omega
        · obtain rfl : j = c.par.length := by omega
          have st3 := st2.congr (f' := Hs.genT l (i + 1)) (fun q _ => (HE.out q).symm)
          clear st2
          go_wp2_with fail
          go_roundw
          case rel => exact ⟨i + 1, by omega, by go_num, st3⟩
          case measure => simp [intOf]; omega
    · obtain rfl : i = l.length := by omega
      have d0 := st.res.cell 0
      have d1 := st.res.cell 1
      have e0 := st.res.frozen 0
      have e1 := st.res.frozen 1
      have hlr := st.res.lt
      simp only [List.getElem?_toArray, List.getElem?_cons_zero, List.getElem?_cons_succ] at d0 d1
      go_wp2_with fail
      refine bodyPost_ret (results_tc rfl _ _ w.heap.size (.int .i64 0) (.int .i64 0) rfl (blk_put26 st.res _ _)) rfl ?_
      refine ⟨some ⟨wB.heap.size, 0, none⟩, l.length, by rw [tab_length]; rfl, by rw [tab_length]; exact Nat.le_refl _, ?_, (st.bel.setCell (by simp) _).setCell (by simp) _⟩
      exact SV.of_ints ((st.tab.blk.far (by have := st.lo; simp; omega) _).far (by have := st.lo; simp; omega) _)
end Go.Proofs.Ytoohmkdgimkgoaa
