/-
  Histories: walks of 'Candidates' and 'Next'.
-/
import Derived.Test.YtoohmkdgimkgoaaW25
import Derived.Test.YtoohmkdgimkgoaaW26
namespace Go.Proofs.Ytoohmkdgimkgoaa
open Go.RowKit Go.V
set_option linter.unusedVariables false

theorem nats_ints' (xs : List Nat) : Hs.nats (Hs.ints xs) = xs := by
  unfold Hs.nats Hs.ints
  rw [List.map_map]
  conv => rhs; rw [← List.map_id xs]
  apply List.map_congr_left
  intro x _; simp
def candRes (l : List Hs.Cm) (good : List Int) (bad : Int) : List Int × (Int × Int) :=
  if (bcheck l good bad).1 ≠ 0 then ([], bcheck l good bad) else (Hs.ints (Hs.cand l (Hs.nats good) bad.toNat), (0, 0))
def nextRes (l : List Hs.Cm) (good : List Int) (bad : Int) : Int × (Int × Int) :=
  if (bcheck l good bad).1 ≠ 0 then (0, bcheck l good bad) else (Hs.nextI l (Hs.cand l (Hs.nats good) bad.toNat), (0, 0))

set_option maxRecDepth 100000 in
set_option maxHeartbeats 4000000 in
theorem candidates_any (w : World) (A A2 : Option Addr) (k k2 : Nat) (l : List Hs.Cm) (good : List Int) (bad : Int) (hv : CV w A l) (hl : l.length ≤ 9223372036854775807) (hv2 : IV w A2 good) (hi64 : ∀ (j : Nat) (h : j < good.length), I64 good[j]) (hl2 : good.length ≤ 9223372036854775807) :
    Calls Try.prog 38 #[.slice A l.length k, .slice A2 good.length k2, .int .i64 bad] w (IRes w (candRes l good bad)) := by
  have HC := Lib.hid (fun w1 h h2 => bcheck_any w1 A A2 k k2 l good bad h hl h2 hi64 hl2)
  have HR := Lib.hid (show candRes l good bad = if (bcheck l good bad).1 ≠ 0 then ([], bcheck l good bad) else (Hs.ints (Hs.cand l (Hs.nats good) bad.toNat), (0, 0)) from rfl)
  have HM := Lib.hid (bcheck_cases l good bad)
  go_enter Try.func38, Try.ntmps38
  go_wp2_with fail
  go_at_call 56
  refine (HC.out _ (hv.alloc _) (hv2.alloc _)).mono ?_
  rintro e w1 ⟨rfl, hb1⟩
  have hblk := (Blk.new w 26 #[.int .i64 0, .int .i64 0]).below hb1 (by simp)
  have hbel := (below_alloc1 w (.cells #[.int .i64 0, .int .i64 0] 26)).trans (hb1.mono (by simp))
  have hsz := hbel.size
  have hlt := hblk.lt
  have hc0 := hblk.cell 0
  have hc1 := hblk.cell 1
  have hf0 := hblk.frozen 0
  have hf1 := hblk.frozen 1
  simp only [List.getElem?_toArray, List.getElem?_cons_zero, List.getElem?_cons_succ] at hc0 hc1
  clear hb1 HC
  rcases HM.out with hbad | ⟨he, gs, b, rfl, rfl, hs, hgl⟩
  · have H := Lib.hid (HR.out.trans (if_pos hbad))
    have h1 : ((bcheck l good bad).1 == 0) = false := by simpa using hbad
    have h2 : ((bcheck l good bad).1 != 0) = true := by simpa using hbad
    clear hbad HM HR
    generalize bcheck l good bad = r at *
    obtain ⟨c, i⟩ := r
    simp only at h1 h2
    go_wp2_with fail
    go_region
    all_goals
      go_wp2_with fail
      refine bodyPost_ret (results_tc rfl _ _ w.heap.size (.int .i64 c) (.int .i64 i) rfl (((blk_put26 hblk _ _).alloc _).drewN 1)) rfl ?_
      rw [H.out]
      exact IRes.of_none ⟨rfl, below_drewN (((hbel.setCell (by simp) _).setCell (by simp) _).alloc (by simp; omega) _) 1⟩
  · have H := Lib.hid (show candRes l (Hs.ints gs) b = (Hs.ints (Hs.cand l gs b), (0, 0)) from by rw [HR.out, he, nats_ints']; rfl)
    rw [he]
    have hlen := Hs.ints_length gs
    rw [hlen] at hl2 ⊢
    have hbel1 := hbel.alloc hsz (.cells #[.int .i64 0, .int .i64 0] 26)
    have HCALL := Lib.hid (cand_any _ A A2 k k2 l gs b (hv.below hbel1) hs.ok (hv2.below hbel1) hs.hgood hs.hbad hl2)
    clear HM HR he hs hlen hi64 hv2
    go_wp2_with fail
    go_at_call 57
    refine HCALL.out.mono ?_
    generalize Hs.ints (Hs.cand l gs b) = xs at *
    rintro e w2 ⟨A3, c3, rfl, hc3, hv3, hfr3, hb2⟩
    have hbel2 := hbel1.trans (hb2.mono hbel1.size)
    have hblk2 := (hblk.alloc (.cells #[.int .i64 0, .int .i64 0] 26)).below hb2 (by simp; omega)
    have d0 := hblk2.cell 0
    have d1 := hblk2.cell 1
    have e0 := hblk2.frozen 0
    have e1 := hblk2.frozen 1
    have hlt2 := hblk2.lt
    simp only [List.getElem?_toArray, List.getElem?_cons_zero, List.getElem?_cons_succ] at d0 d1
    have HFR := Lib.hid hfr3
    clear hbel1 hb2 HCALL hfr3
    go_wp2_with fail
    refine bodyPost_ret (results_tc rfl _ _ w.heap.size (.int .i64 0) (.int .i64 0) rfl (blk_put26 hblk2 _ _)) rfl ?_
    rw [H.out]
    exact ⟨A3, c3, rfl, hc3, (hv3.setLow HFR.out (by simp; omega) _).setLow HFR.out (by simp; omega) _, (hbel2.setCell (by simp) _).setCell (by simp) _⟩

/-- A number and a fault. -/
def NRes (w : World) (r : Int × (Int × Int)) (e : Ending) (w' : World) : Prop :=
  e = .returned (.tuple #[.int .i64 r.1, .agg #[.int .i64 r.2.1, .int .i64 r.2.2]]) ∧ Below w.heap.size w w'

set_option maxRecDepth 100000 in
set_option maxHeartbeats 4000000 in
theorem bnext_any (w : World) (A A2 : Option Addr) (k k2 : Nat) (l : List Hs.Cm) (good : List Int) (bad : Int) (hv : CV w A l) (hl : l.length ≤ 9223372036854775807) (hv2 : IV w A2 good) (hi64 : ∀ (j : Nat) (h : j < good.length), I64 good[j]) (hl2 : good.length ≤ 9223372036854775807) :
    Calls Try.prog 39 #[.slice A l.length k, .slice A2 good.length k2, .int .i64 bad] w (NRes w (nextRes l good bad)) := by
  have HC := Lib.hid (fun w1 h h2 => bcheck_any w1 A A2 k k2 l good bad h hl h2 hi64 hl2)
  have HR := Lib.hid (show nextRes l good bad = if (bcheck l good bad).1 ≠ 0 then (0, bcheck l good bad) else (Hs.nextI l (Hs.cand l (Hs.nats good) bad.toNat), (0, 0)) from rfl)
  have HM := Lib.hid (bcheck_cases l good bad)
  go_enter Try.func39, Try.ntmps39
  go_wp2_with fail
  go_at_call 56
  refine (HC.out _ (hv.alloc _) (hv2.alloc _)).mono ?_
  rintro e w1 ⟨rfl, hb1⟩
  have hblk := (Blk.new w 26 #[.int .i64 0, .int .i64 0]).below hb1 (by simp)
  have hbel := (below_alloc1 w (.cells #[.int .i64 0, .int .i64 0] 26)).trans (hb1.mono (by simp))
  have hsz := hbel.size
  have hlt := hblk.lt
  have hc0 := hblk.cell 0
  have hc1 := hblk.cell 1
  have hf0 := hblk.frozen 0
  have hf1 := hblk.frozen 1
  simp only [List.getElem?_toArray, List.getElem?_cons_zero, List.getElem?_cons_succ] at hc0 hc1
  clear hb1 HC
  rcases HM.out with hbad | ⟨he, gs, b, rfl, rfl, hs, hgl⟩
  · have H := Lib.hid (HR.out.trans (if_pos hbad))
    have h1 : ((bcheck l good bad).1 == 0) = false := by simpa using hbad
    have h2 : ((bcheck l good bad).1 != 0) = true := by simpa using hbad
    clear hbad HM HR
    generalize bcheck l good bad = r at *
    obtain ⟨c, i⟩ := r
    simp only at h1 h2
    go_wp2_with fail
    go_region
    all_goals
      go_wp2_with fail
      refine bodyPost_ret (results_tc rfl _ _ w.heap.size (.int .i64 c) (.int .i64 i) rfl (((blk_put26 hblk _ _).alloc _).drewN 1)) rfl ?_
      rw [H.out]
      exact ⟨rfl, below_drewN (((hbel.setCell (by simp) _).setCell (by simp) _).alloc (by simp; omega) _) 1⟩
  · have H := Lib.hid (show nextRes l (Hs.ints gs) b = (Hs.nextI l (Hs.cand l gs b), (0, 0)) from by rw [HR.out, he, nats_ints']; rfl)
    rw [he]
    have hlen := Hs.ints_length gs
    rw [hlen] at hl2 ⊢
    have hbel1 := hbel.alloc hsz (.cells #[.int .i64 0, .int .i64 0] 26)
    have HCALL := Lib.hid (cand_any _ A A2 k k2 l gs b (hv.below hbel1) hs.ok (hv2.below hbel1) hs.hgood hs.hbad hl2)
    have hcl := Hs.cand_len l gs b
    have hok60 := hs.ok.len
    have HCLT := Lib.hid (Hs.cand_lt l gs b)
    have HN := Lib.hid (fun w3 A3 c3 h h3 => next_any w3 A A3 k c3 l (Hs.cand l gs b) h hs.ok h3 HCLT.out (by omega))
    clear HM HR he hs hlen hi64 hv2
    go_wp2_with fail
    go_at_call 57
    refine HCALL.out.mono ?_
    generalize Hs.cand l gs b = cs at *
    rintro e w2 ⟨A3, c3, rfl, hc3, hv3, hfr3, hb2⟩
    have hbel2 := hbel1.trans (hb2.mono hbel1.size)
    have hblk2 := (hblk.alloc (.cells #[.int .i64 0, .int .i64 0] 26)).below hb2 (by simp; omega)
    have hlt2 := hblk2.lt
    have HNC := Lib.hid (HN.out w2 A3 c3 (hv.below hbel2) hv3)
    clear hbel1 hb2 HCALL hfr3 HN HCLT
    simp only [Hs.ints_length]
    go_wp2_with fail
    go_at_call 58
    refine HNC.out.mono ?_
    generalize Hs.nextI l cs = nx at *
    rintro e w3 ⟨rfl, hb3⟩
    have hbel3 := hbel2.trans (hb3.mono hbel2.size)
    have hblk3 := hblk2.below hb3 hlt2
    have d0 := hblk3.cell 0
    have d1 := hblk3.cell 1
    have e0 := hblk3.frozen 0
    have e1 := hblk3.frozen 1
    have hlt3 := hblk3.lt
    simp only [List.getElem?_toArray, List.getElem?_cons_zero, List.getElem?_cons_succ] at d0 d1
    go_wp2_with fail
    refine bodyPost_ret (results_tc rfl _ _ w.heap.size (.int .i64 0) (.int .i64 0) rfl (blk_put26 hblk3 _ _)) rfl ?_
    rw [H.out]
    exact ⟨rfl, (hbel3.setCell (by simp) _).setCell (by simp) _⟩
end Go.Proofs.Ytoohmkdgimkgoaa
