/-
  RefsBatchSplits: the law's walk.
-/
import Derived.Test.YtfbbgnhelannjaaDoorRf21
import Derived.Test.YtfbbgnhelannjaaDoorRf23
import Derived.Deep.RegionHeld3
import Derived.Deep.DeepCutAuto
namespace Rf
theorem btF_cases (s : List R) (l : List U) : ((btF s l).2.1 ≠ 0 ∧ (btF s l).1 = []) ∨ (Ok s ∧ l.length ≤ 30 ∧ ∃ x, app s l = some x ∧ btF s l = (x, (0, 0))) := by
  unfold btF
  by_cases h1 : (rfF s).1 ≠ 0
  · left; rw [if_pos h1]; exact ⟨h1, rfl⟩
  · rw [if_neg h1]
    have hok := (rfF_ok (s := s) (by simpa using h1)).2
    by_cases h2 : 30 < l.length
    · left; rw [if_pos h2]; exact ⟨by decide, rfl⟩
    · rw [if_neg h2]
      rcases ha : app s l with _ | x
      · left
        obtain ⟨c, j, hc, e⟩ := batF_none l 0 ha
        rw [e]; exact ⟨hc, rfl⟩
      · right; exact ⟨hok, by omega, x, rfl, batF_some l 0 ha⟩
theorem btF_ok {s x : List R} {l : List U} (h : Ok s) (hl : l.length ≤ 30) (ha : app s l = some x) : btF s l = (x, (0, 0)) := by
  unfold btF
  rw [h.f, if_neg (by decide), if_neg (by omega)]
  exact batF_some l 0 ha
end Rf
namespace Go.Proofs.YtfbbgnhelannjaaDoor
open Go.RowKit Go.V Go.Shelf Go.Lib
set_option linter.unusedVariables false

/-- A set and a fault in new variables. -/
def TwoOut (w0 : World) (rl : List Rf.R) (c i : Int) (p q : Value) (wx : World) : Prop := ∃ gp gq A k, p = .pointer (some ⟨gp, 0, none⟩) ∧ q = .pointer (some ⟨gq, 0, none⟩) ∧ Blk wx gp 26 #[.slice A rl.length k] ∧ Blk wx gq 30 #[.int .i64 c, .int .i64 i] ∧
  SA wx Free A (rsV rl) ∧ rl.length ≤ k ∧ Below w0.heap.size w0 wx
section
variable {w0 w9 : World} {rl : List Rf.R} {c i : Int} {A : Option Addr} {k n : Nat}
theorem TwoOut.aa (hq : Below w0.heap.size w0 w9) (hk : rl.length ≤ k) (hs : SA w9 (Under n) A (rsV rl)) : TwoOut w0 rl c i (.pointer (some ⟨w9.heap.size, 0, none⟩)) (.pointer (some ⟨w9.heap.size + 1, 0, none⟩)) ((w9.alloc (.cells #[.slice A rl.length k] 26)).alloc (.cells #[.int .i64 c, .int .i64 i] 30)) :=
  ⟨_, _, A, k, rfl, rfl, (Blk.new _ _ _).alloc _, blk_new1 _ _ _ _, (hs.mono (X' := Free) fun _ h => h.elim).keep ((Keeps.alloc _ _ _).trans (Keeps.alloc _ _ _)), hk, hq.trans ((below_alloc2 w9 _ _).mono hq.size)⟩
theorem TwoOut.ab (hq : Below w0.heap.size w0 w9) (hk : rl.length ≤ k) (hs : SA w9 (Under n) A (rsV rl)) : TwoOut w0 rl c i (.pointer (some ⟨w9.heap.size + 1, 0, none⟩)) (.pointer (some ⟨w9.heap.size, 0, none⟩)) ((w9.alloc (.cells #[.int .i64 c, .int .i64 i] 30)).alloc (.cells #[.slice A rl.length k] 26)) :=
  ⟨_, _, A, k, rfl, rfl, blk_new1 _ _ _ _, (Blk.new _ _ _).alloc _, (hs.mono (X' := Free) fun _ h => h.elim).keep ((Keeps.alloc _ _ _).trans (Keeps.alloc _ _ _)), hk, hq.trans ((below_alloc2 w9 _ _).mono hq.size)⟩
theorem TwoOut.ba {g : Nat} (hq : Below w0.heap.size w0 w9) (hk : rl.length ≤ k) (hs : SA w9 (Under n) A (rsV rl)) (hb : Blk w9 g 26 #[.slice none 0 0]) (h0 : w0.heap.size ≤ g) (hg : g < n) :
    TwoOut w0 rl c i (.pointer (some ⟨g, 0, none⟩)) (.pointer (some ⟨w9.heap.size, 0, none⟩)) ((w9.setCell ⟨g, 0, none⟩ (.slice A rl.length k)).alloc (.cells #[.int .i64 c, .int .i64 i] 30)) := by
  have hz : (w9.setCell ⟨g, 0, none⟩ (.slice A rl.length k)).heap.size = w9.heap.size := by simp [World.setCell]
  have hb2 : Below w0.heap.size w0 (w9.setCell ⟨g, 0, none⟩ (.slice A rl.length k)) := hq.setCell h0 _
  refine ⟨g, w9.heap.size, A, k, rfl, rfl, ?_, by rw [← hz]; exact Blk.new _ _ _, ((hs.keep (Keeps.setCell w9 _ ⟨g, 0, none⟩ (.slice A rl.length k) hg)).mono (X' := Free) fun _ h => h.elim).keep (Keeps.alloc _ _ _), hk, hb2.alloc hb2.size _⟩
  exact Blk.alloc (by simpa using hb.set_ 0 (.slice A rl.length k)) _
theorem TwoOut.bb {g : Nat} (hq : Below w0.heap.size w0 w9) (hk : rl.length ≤ k) (hs : SA w9 (Under n) A (rsV rl)) (hb : Blk w9 g 30 #[.int .i64 0, .int .i64 0]) (h0 : w0.heap.size ≤ g) (hg : g < n) :
    TwoOut w0 rl c i (.pointer (some ⟨w9.heap.size, 0, none⟩)) (.pointer (some ⟨g, 0, none⟩)) (((w9.setCell ⟨g, 0, none⟩ (.int .i64 c)).setCell ⟨g, 1, none⟩ (.int .i64 i)).alloc (.cells #[.slice A rl.length k] 26)) := by
  have hz : ((w9.setCell ⟨g, 0, none⟩ (.int .i64 c)).setCell ⟨g, 1, none⟩ (.int .i64 i)).heap.size = w9.heap.size := by simp [World.setCell]
  have hb2 : Below w0.heap.size w0 ((w9.setCell ⟨g, 0, none⟩ (.int .i64 c)).setCell ⟨g, 1, none⟩ (.int .i64 i)) := (hq.setCell (p := ⟨g, 0, none⟩) h0 _).setCell (p := ⟨g, 1, none⟩) h0 _
  exact ⟨w9.heap.size, g, A, k, rfl, rfl, by rw [← hz]; exact Blk.new _ _ _, (blk_put2 hb _ _).alloc _, ((hs.keep ((Keeps.setCell w9 _ ⟨g, 0, none⟩ (.int .i64 c) hg).trans (Keeps.setCell _ _ ⟨g, 1, none⟩ (.int .i64 i) hg))).mono (X' := Free) fun _ h => h.elim).keep (Keeps.alloc _ _ _), hk, hb2.alloc hb2.size _⟩
theorem TwoOut.ca {g g' : Nat} (hq : Below w0.heap.size w0 w9) (hk : rl.length ≤ k) (hs : SA w9 (Under n) A (rsV rl)) (hb : Blk w9 g 26 #[.slice none 0 0]) (hb' : Blk w9 g' 30 #[.int .i64 0, .int .i64 0]) (hne : g ≠ g') (h0 : w0.heap.size ≤ g) (h0' : w0.heap.size ≤ g') (hg : g < n) (hg' : g' < n) :
    TwoOut w0 rl c i (.pointer (some ⟨g, 0, none⟩)) (.pointer (some ⟨g', 0, none⟩)) (((w9.setCell ⟨g, 0, none⟩ (.slice A rl.length k)).setCell ⟨g', 0, none⟩ (.int .i64 c)).setCell ⟨g', 1, none⟩ (.int .i64 i)) := by
  obtain ⟨k1, k2, k3⟩ := put12 hb hb' hne (.slice A rl.length k) (.int .i64 c) (.int .i64 i)
  exact ⟨g, g', A, k, rfl, rfl, k1, k2, (hs.keep (((Keeps.setCell w9 _ ⟨g, 0, none⟩ (.slice A rl.length k) hg).trans (Keeps.setCell _ _ ⟨g', 0, none⟩ (.int .i64 c) hg')).trans (Keeps.setCell _ _ ⟨g', 1, none⟩ (.int .i64 i) hg'))).mono (X' := Free) fun _ h => h.elim, hk, k3 _ _ h0 h0' hq⟩
end
theorem slice_to41 (W : World) (A : Option Addr) (n k m : Nat) (h : m ≤ k) : (Instr.slice 41 (.slice A n k) none (some (.int .i64 (m : Int))) none).run Tryd.prog W = .ok (.slice A m k) W := by
  have hu := Tryd.underlying41
  have h1 : (m : Int) ≤ k := by omega
  by_cases hk : k = 0
  · subst hk
    obtain rfl : m = 0 := by omega
    simp [Instr.slice, Instr.sliceBounds, Instr.sliceBound, go_sem]
  · have h2 : ¬ k = 0 := hk
    rcases A with _ | ⟨b, off, _⟩ <;> simp [Instr.slice, Instr.sliceBounds, Instr.sliceBound, go_sem] <;> (intro hh; omega)
theorem slice_from41 (W : World) (A : Option Addr) (n k m : Nat) (h : m ≤ n) (hk : n ≤ k) : (Instr.slice 41 (.slice A n k) (some (.int .i64 (m : Int))) none none).run Tryd.prog W = .ok (.slice (if k = m then A else A.map (·.add (m * 3))) (n - m) (k - m)) W := by
  have hu := Tryd.underlying41
  have h1 : (m : Int) ≤ n := by omega
  by_cases hk : k = m
  · simp [Instr.slice, Instr.sliceBounds, Instr.sliceBound, go_sem, hk] <;> (intro hh; omega)
  · simp [Instr.slice, Instr.sliceBounds, Instr.sliceBound, go_sem, hk] <;> (intro hh; omega)
theorem usV_take (l : List Rf.U) (m : Nat) : usV (l.take m) = (usV l).take (m * 3) := Fl.take uC_len m l
theorem usV_drop (l : List Rf.U) (m : Nat) : usV (l.drop m) = (usV l).drop (m * 3) := Fl.drop uC_len m l
set_option maxRecDepth 100000 in
set_option maxHeartbeats 64000000 in
theorem law8_any (w : World) (hm : Mx w) (A : Option Addr) (k : Nat) (s : List Rf.R) (hv : SA w Free A (rsV s)) (hl : s.length * 24 ≤ 140737488351232) (hk : s.length ≤ k)
    (A2 : Option Addr) (k2 : Nat) (l : List Rf.U) (hv2 : SA w Free A2 (usV l)) (hl2 : l.length * 32 ≤ 140737488351232) (hk2 : l.length ≤ k2) (n : Int) :
    Calls Tryd.prog 8 #[.agg #[.slice A s.length k], .slice A2 l.length k2, .int .i64 n] w fun e w' => e = .returned (.bool true) ∧ Below w.heap.size w w' := by
  have hM := Lib.hid hm
  have V0 := Lib.hid hv
  have V2 := Lib.hid hv2
  have HBF := Lib.hid (Rf.btF_cases s l)
  have H25 := Lib.hid (fun (w1 : World) (hm : Mx w1) (hv : SA w1 Free A (rsV s)) (hv2 : SA w1 Free A2 (usV l)) => batch_any w1 hm A k s hv (by omega) hk A2 k2 l hv2)
  clear hm hv hv2
  generalize hr : Rf.btF s l = r at *
  have HR := Lib.hid hr
  clear hr
  have HB0 := Lib.hid (Below.refl w.heap.size w)
  go_enter Tryd.func8, Tryd.ntmps8
  have bx := Blk.new w 26 #[.slice A s.length k]
  have HBa1 := Lib.hid (HB0.out.alloc HB0.out.size (.cells #[.slice A s.length k] 26))
  replace hM := Lib.hid (hM.out.below (below_alloc1 w (.cells #[.slice A s.length k] 26)))
  replace V0 := Lib.hid (V0.out.keep (Keeps.alloc w _ (.cells #[.slice A s.length k] 26)))
  replace V2 := Lib.hid (V2.out.keep (Keeps.alloc w _ (.cells #[.slice A s.length k] 26)))
  go_wp2_with fail
  go_at_call 15
  refine (example_any _ hM.out).mono ?_
  rintro e w1 ⟨rfl, hb1'⟩
  have HBm1 := Lib.hid (HBa1.out.trans (hb1'.mono HBa1.out.size))
  replace bx := bx.below hb1' bx.lt
  replace hM := Lib.hid (hM.out.below hb1')
  replace V0 := Lib.hid (V0.out.keep (free_below hb1'))
  replace V2 := Lib.hid (V2.out.keep (free_below hb1'))
  have bx_l : w.heap.size < w1.heap.size := bx.lt
  have bx_l1 : w.heap.size < w1.heap.size + 1 := Nat.lt_succ_of_lt bx_l
  have bx_l2 : w.heap.size < w1.heap.size + 1 + 1 := Nat.lt_succ_of_lt bx_l1
  have bx_0 : w1.cell? ⟨w.heap.size, 0, none⟩ = some (.slice A s.length k) := (bx.cell 0).trans rfl
  clear hb1'
  obtain ⟨rl, c1, i1⟩ := r
  go_wp2_with fail
  go_at_call 25
  refine (H25.out _ hM.out V0.out V2.out).mono ?_
  rintro e w2 ⟨Ag, cg, rfl, hcg, hsg, hb2'⟩
  have HBm2 := Lib.hid (HBm1.out.trans (hb2'.mono HBm1.out.size))
  replace bx := bx.below hb2' bx.lt
  replace hM := Lib.hid (hM.out.below hb2')
  replace V0 := Lib.hid (V0.out.keep (free_below hb2'))
  replace V2 := Lib.hid (V2.out.keep (free_below hb2'))
  clear bx_l bx_l1 bx_l2 bx_0
  have bx_l : w.heap.size < w2.heap.size := bx.lt
  have bx_l1 : w.heap.size < w2.heap.size + 1 := Nat.lt_succ_of_lt bx_l
  have bx_l2 : w.heap.size < w2.heap.size + 1 + 1 := Nat.lt_succ_of_lt bx_l1
  have bx_0 : w2.cell? ⟨w.heap.size, 0, none⟩ = some (.slice A s.length k) := (bx.cell 0).trans rfl
  have Vg := Lib.hid (hsg.mono (X' := Free) (fun _ h => h.elim))
  clear hsg
  clear hb2'
  simp only at *
  replace bx := bx.alloc (.cells #[.slice Ag rl.length cg] 26)
  have g := Blk.new w2 26 #[.slice Ag rl.length cg]
  have HBa2 := Lib.hid (HBm2.out.alloc HBm2.out.size (.cells #[.slice Ag rl.length cg] 26))
  replace hM := Lib.hid (hM.out.below (below_alloc1 w2 (.cells #[.slice Ag rl.length cg] 26)))
  replace V0 := Lib.hid (V0.out.keep (Keeps.alloc w2 _ (.cells #[.slice Ag rl.length cg] 26)))
  replace V2 := Lib.hid (V2.out.keep (Keeps.alloc w2 _ (.cells #[.slice Ag rl.length cg] 26)))
  replace Vg := Lib.hid (Vg.out.keep (Keeps.alloc w2 _ (.cells #[.slice Ag rl.length cg] 26)))
  replace bx := bx.alloc (.cells #[.int .i64 c1, .int .i64 i1] 30)
  replace g := g.alloc (.cells #[.int .i64 c1, .int .i64 i1] 30)
  have f : Blk ((w2.alloc (.cells #[.slice Ag rl.length cg] 26)).alloc (.cells #[.int .i64 c1, .int .i64 i1] 30)) (w2.heap.size + 1) 30 #[.int .i64 c1, .int .i64 i1] := by simpa using Blk.new (w2.alloc (.cells #[.slice Ag rl.length cg] 26)) 30 #[.int .i64 c1, .int .i64 i1]
  have HBa3 := Lib.hid (HBa2.out.alloc HBa2.out.size (.cells #[.int .i64 c1, .int .i64 i1] 30))
  replace hM := Lib.hid (hM.out.below (below_alloc1 (w2.alloc (.cells #[.slice Ag rl.length cg] 26)) (.cells #[.int .i64 c1, .int .i64 i1] 30)))
  replace V0 := Lib.hid (V0.out.keep (Keeps.alloc (w2.alloc (.cells #[.slice Ag rl.length cg] 26)) _ (.cells #[.int .i64 c1, .int .i64 i1] 30)))
  replace V2 := Lib.hid (V2.out.keep (Keeps.alloc (w2.alloc (.cells #[.slice Ag rl.length cg] 26)) _ (.cells #[.int .i64 c1, .int .i64 i1] 30)))
  replace Vg := Lib.hid (Vg.out.keep (Keeps.alloc (w2.alloc (.cells #[.slice Ag rl.length cg] 26)) _ (.cells #[.int .i64 c1, .int .i64 i1] 30)))
  rcases HBF.out with ⟨hc, hx⟩ | ⟨hok, h30, x, hap, he⟩
  · have hx1 : (c1 == 0) = false := by simpa using hc
    have hx2 : (c1 != 0) = true := by simpa using hc
    subst hx
    clear HBF H25 HR hc
    go_wp2_with fail
    go_ret
    exact ⟨by simp, HBa3.out⟩
  · injection he with e1 e2
    injection e2 with e2 e3
    subst e1
    subst e2
    subst e3
    clear HBF
    by_cases hin : 0 ≤ n ∧ n ≤ l.length
    · obtain ⟨m, rfl⟩ := Int.eq_ofNat_of_zero_le hin.1
      have hml : m ≤ l.length := by have := hin.2; omega
      have hmk : (m : Int) ≤ k2 := by omega
      have hb : (decide (0 ≤ (m : Int)) && decide ((m : Int) ≤ (l.length : Int))) = true := by rw [Bool.and_eq_true]; exact ⟨by simp, by simpa using hml⟩
      clear hin
      obtain ⟨y, hy1, hy2⟩ := Rf.app_split m hap
      have hoky := Rf.app_ok _ hok hy1
      have htl : (l.take m).length = m := by simp; omega
      have hdl : (l.drop m).length = l.length - m := by simp
      have hylen := hoky.len
      have HA := Lib.hid (fun (w1 : World) (hm : Mx w1) (hv : SA w1 Free A (rsV s)) (hv2 : SA w1 Free A2 (usV l)) => by
        have := batch_any w1 hm A k s hv (by omega) hk A2 k2 (l.take m) (by rw [usV_take]; exact hv2.take _)
        rw [Rf.btF_ok hok (by omega) hy1, htl] at this
        exact this)
      have HB := Lib.hid (fun (Ay : Option Addr) (ky : Nat) (w1 : World) (hm : Mx w1) (hv : SA w1 Free Ay (rsV y)) (hky : y.length ≤ ky) (hv2 : SA w1 Free A2 (usV l)) => by
        have := batch_any w1 hm Ay ky y hv (by omega) hky (if k2 = m then A2 else A2.map (·.add (m * 3))) (k2 - m) (l.drop m) (by rw [usV_drop]; exact hv2.drop _ _ (fun h => .inl (by rw [Fl.len uC_len]; omega)))
        rw [Rf.btF_ok hoky (by omega) hy2, hdl] at this
        exact this)
      have hxl := (Rf.app_ok _ hok hap).len
      clear hap hy1 hy2 hok hoky H25 HR h30 htl hdl
      have hs1 : ∀ W, (Instr.slice 41 (.slice A2 l.length k2) none (some (.int .i64 (m : Int))) none).run Tryd.prog W = .ok (.slice A2 m k2) W := fun W => slice_to41 W A2 l.length k2 m (by omega)
      have hs2 : ∀ W, (Instr.slice 41 (.slice A2 l.length k2) (some (.int .i64 (m : Int))) none none).run Tryd.prog W = .ok (.slice (if k2 = m then A2 else A2.map (·.add (m * 3))) (l.length - m) (k2 - m)) W := fun W => slice_from41 W A2 l.length k2 m hml hk2
      go_wp2_with (go_at_call 26; refine (in_any _ _ _ _).mono ?_; rintro e w9 ⟨rfl, hw9⟩; have hw9 := hw9.symm; subst hw9; rw [hb])
      generalize hwq : (w2.alloc (.cells #[.slice Ag rl.length cg] 26)).alloc (.cells #[.int .i64 0, .int .i64 0] 30) = wq at *
      clear hwq
      have hbq := Lib.hid HBa3.out
      have HK : Hid (∀ w6 : World, Below wq.heap.size wq w6 → w6.cell? ⟨w.heap.size, 0, none⟩ = some (.slice A s.length k)) := Lib.hid fun w6 h6 => (h6.cell (p := ⟨_, _, none⟩) bx.lt).trans ((bx.cell 0).trans rfl)
      have HA2 := Lib.hid (fun (wd : World) (hb : Below wq.heap.size wq wd) => HA.out wd (hM.out.below hb) (V0.out.keep (free_below hb)) (V2.out.keep (free_below hb)))
      have hq0 : Below wq.heap.size wq wq.drew := below_drew' (Below.refl _ _)
      have hq1 : ∀ o, Below wq.heap.size wq (wq.alloc o).drew := fun o => below_drew' (below_alloc1 _ o)
      have hq2 : ∀ o o2, Below wq.heap.size wq ((wq.alloc o).alloc o2).drew := fun o o2 => below_drew' (below_alloc2 _ o o2)
      go_cut [9, 10] (fun p q wx => TwoOut wq y 0 0 p q wx)
      case first =>
        have c0 : wq.cell? ⟨w.heap.size, 0, none⟩ = some (.slice A s.length k) := HK.out _ (Below.refl _ _)
        have l0 := bx.lt
        go_region_with (first
          | (go_at_call 25; (with_reducible refine (HA2.out (wq.drew) hq0).mono ?_); rintro e w9 ⟨Aa, ca, rfl, hca, hsa, hb9⟩; have hq9 : Below wq.heap.size wq w9 := hq0.trans (hb9.mono hq0.size))
          | (go_at_call 25; (with_reducible refine (HA2.out ((wq.alloc (.cells #[.slice none 0 0] 26)).drew) (hq1 _)).mono ?_); rintro e w9 ⟨Aa, ca, rfl, hca, hsa, hb9⟩; have hq9 : Below wq.heap.size wq w9 := (hq1 _).trans (hb9.mono (hq1 _).size); have bA : Blk w9 wq.heap.size 26 #[.slice none 0 0] := (show Blk (wq.alloc (.cells #[.slice none 0 0] 26)).drew wq.heap.size 26 #[.slice none 0 0] from (Blk.new wq 26 #[.slice none 0 0])).below hb9 (show wq.heap.size < (wq.alloc (.cells #[.slice none 0 0] 26)).drew.heap.size from Blk.lt (Blk.new wq 26 #[.slice none 0 0])); have bA0 := bA.frozen 0; have bA1 : w9.cell? ⟨wq.heap.size, 0, none⟩ = some (.slice none 0 0) := (bA.cell 0).trans rfl; have bA2 := bA.lt)
          | (go_at_call 25; (with_reducible refine (HA2.out ((wq.alloc (.cells #[.int .i64 0, .int .i64 0] 30)).drew) (hq1 _)).mono ?_); rintro e w9 ⟨Aa, ca, rfl, hca, hsa, hb9⟩; have hq9 : Below wq.heap.size wq w9 := (hq1 _).trans (hb9.mono (hq1 _).size); have bB : Blk w9 wq.heap.size 30 #[.int .i64 0, .int .i64 0] := (show Blk (wq.alloc (.cells #[.int .i64 0, .int .i64 0] 30)).drew wq.heap.size 30 #[.int .i64 0, .int .i64 0] from (Blk.new wq 30 #[.int .i64 0, .int .i64 0])).below hb9 (show wq.heap.size < (wq.alloc (.cells #[.int .i64 0, .int .i64 0] 30)).drew.heap.size from Blk.lt (Blk.new wq 30 #[.int .i64 0, .int .i64 0])); have bB0 := bB.frozen 0; have bB1 := bB.frozen 1; have bB2 : w9.cell? ⟨wq.heap.size, 0, none⟩ = some (.int .i64 0) := (bB.cell 0).trans rfl; have bB3 : w9.cell? ⟨wq.heap.size, 1, none⟩ = some (.int .i64 0) := (bB.cell 1).trans rfl; have bB4 := bB.lt)
          | (go_at_call 25; (with_reducible refine (HA2.out (((wq.alloc (.cells #[.slice none 0 0] 26)).alloc (.cells #[.int .i64 0, .int .i64 0] 30)).drew) (hq2 _ _)).mono ?_); rintro e w9 ⟨Aa, ca, rfl, hca, hsa, hb9⟩; have hq9 : Below wq.heap.size wq w9 := (hq2 _ _).trans (hb9.mono (hq2 _ _).size); have bA : Blk w9 wq.heap.size 26 #[.slice none 0 0] := (show Blk ((wq.alloc (.cells #[.slice none 0 0] 26)).alloc (.cells #[.int .i64 0, .int .i64 0] 30)).drew wq.heap.size 26 #[.slice none 0 0] from ((Blk.new wq 26 #[.slice none 0 0]).alloc (.cells #[.int .i64 0, .int .i64 0] 30))).below hb9 (show wq.heap.size < ((wq.alloc (.cells #[.slice none 0 0] 26)).alloc (.cells #[.int .i64 0, .int .i64 0] 30)).drew.heap.size from Blk.lt ((Blk.new wq 26 #[.slice none 0 0]).alloc (.cells #[.int .i64 0, .int .i64 0] 30))); have bA0 := bA.frozen 0; have bA1 : w9.cell? ⟨wq.heap.size, 0, none⟩ = some (.slice none 0 0) := (bA.cell 0).trans rfl; have bA2 := bA.lt; have bB : Blk w9 (wq.heap.size + 1) 30 #[.int .i64 0, .int .i64 0] := (show Blk ((wq.alloc (.cells #[.slice none 0 0] 26)).alloc (.cells #[.int .i64 0, .int .i64 0] 30)).drew (wq.heap.size + 1) 30 #[.int .i64 0, .int .i64 0] from (blk_new1 wq (.cells #[.slice none 0 0] 26) 30 #[.int .i64 0, .int .i64 0])).below hb9 (show (wq.heap.size + 1) < ((wq.alloc (.cells #[.slice none 0 0] 26)).alloc (.cells #[.int .i64 0, .int .i64 0] 30)).drew.heap.size from Blk.lt (blk_new1 wq (.cells #[.slice none 0 0] 26) 30 #[.int .i64 0, .int .i64 0])); have bB0 := bB.frozen 0; have bB1 := bB.frozen 1; have bB2 : w9.cell? ⟨(wq.heap.size + 1), 0, none⟩ = some (.int .i64 0) := (bB.cell 0).trans rfl; have bB3 : w9.cell? ⟨(wq.heap.size + 1), 1, none⟩ = some (.int .i64 0) := (bB.cell 1).trans rfl; have bB4 := bB.lt)
          | (go_at_call 25; (with_reducible refine (HA2.out (((wq.alloc (.cells #[.int .i64 0, .int .i64 0] 30)).alloc (.cells #[.slice none 0 0] 26)).drew) (hq2 _ _)).mono ?_); rintro e w9 ⟨Aa, ca, rfl, hca, hsa, hb9⟩; have hq9 : Below wq.heap.size wq w9 := (hq2 _ _).trans (hb9.mono (hq2 _ _).size); have bB : Blk w9 wq.heap.size 30 #[.int .i64 0, .int .i64 0] := (show Blk ((wq.alloc (.cells #[.int .i64 0, .int .i64 0] 30)).alloc (.cells #[.slice none 0 0] 26)).drew wq.heap.size 30 #[.int .i64 0, .int .i64 0] from ((Blk.new wq 30 #[.int .i64 0, .int .i64 0]).alloc (.cells #[.slice none 0 0] 26))).below hb9 (show wq.heap.size < ((wq.alloc (.cells #[.int .i64 0, .int .i64 0] 30)).alloc (.cells #[.slice none 0 0] 26)).drew.heap.size from Blk.lt ((Blk.new wq 30 #[.int .i64 0, .int .i64 0]).alloc (.cells #[.slice none 0 0] 26))); have bB0 := bB.frozen 0; have bB1 := bB.frozen 1; have bB2 : w9.cell? ⟨wq.heap.size, 0, none⟩ = some (.int .i64 0) := (bB.cell 0).trans rfl; have bB3 : w9.cell? ⟨wq.heap.size, 1, none⟩ = some (.int .i64 0) := (bB.cell 1).trans rfl; have bB4 := bB.lt; have bA : Blk w9 (wq.heap.size + 1) 26 #[.slice none 0 0] := (show Blk ((wq.alloc (.cells #[.int .i64 0, .int .i64 0] 30)).alloc (.cells #[.slice none 0 0] 26)).drew (wq.heap.size + 1) 26 #[.slice none 0 0] from (blk_new1 wq (.cells #[.int .i64 0, .int .i64 0] 30) 26 #[.slice none 0 0])).below hb9 (show (wq.heap.size + 1) < ((wq.alloc (.cells #[.int .i64 0, .int .i64 0] 30)).alloc (.cells #[.slice none 0 0] 26)).drew.heap.size from Blk.lt (blk_new1 wq (.cells #[.int .i64 0, .int .i64 0] 30) 26 #[.slice none 0 0])); have bA0 := bA.frozen 0; have bA1 : w9.cell? ⟨(wq.heap.size + 1), 0, none⟩ = some (.slice none 0 0) := (bA.cell 0).trans rfl; have bA2 := bA.lt))
        all_goals
          go_wp2_with fail
          go_meet
          first
            | exact TwoOut.aa hq9 hca hsa
            | exact TwoOut.ab hq9 hca hsa
            | exact TwoOut.ba hq9 hca hsa bA (Nat.le_refl _) (by show _ < (World.alloc _ _).heap.size; simp)
            | exact TwoOut.bb hq9 hca hsa bB (Nat.le_refl _) (by show _ < (World.alloc _ _).heap.size; simp)
            | exact TwoOut.ca hq9 hca hsa bA bB (by omega) (by omega) (by omega) (by show _ < (World.alloc _ _).heap.size; simp; try omega) (by show _ < (World.alloc _ _).heap.size; simp; try omega)
      case rest =>
        obtain ⟨gp, gq, Ay, ky, rfl, rfl, ba, bb, hsy, hky, hbc⟩ := hcut
        obtain ⟨wa, rfl⟩ : ∃ wa : World, wa = wc := ⟨_, rfl⟩
        have hbw := Lib.hid (hbq.out.trans (hbc.mono hbq.out.size))
        replace bx := bx.below hbc bx.lt
        replace g := g.below hbc g.lt
        replace hM := Lib.hid (hM.out.below hbc)
        replace V2 := Lib.hid (V2.out.keep (free_below hbc))
        replace Vg := Lib.hid (Vg.out.keep (free_below hbc))
        have hbb := Lib.hid (show ∀ w6 : World, Below wa.heap.size wa w6 → gq < w6.heap.size ∧ w6.cell? ⟨gq, 0, none⟩ = some (.int .i64 0) from fun w6 h6 => ⟨Nat.lt_of_lt_of_le bb.lt h6.size, (h6.cell (p := ⟨_, _, none⟩) bb.lt).trans ((bb.cell 0).trans rfl)⟩)
        clear HK HA HA2 hbc hq0 hq1 hq2 hbq f V0 bb
        have HK : Hid (∀ w6 : World, Below wa.heap.size wa w6 → w6.cell? ⟨gp, 0, none⟩ = some (.slice Ay y.length ky)) := Lib.hid fun w6 h6 => (h6.cell (p := ⟨_, _, none⟩) ba.lt).trans ((ba.cell 0).trans rfl)
        have HB2 := Lib.hid (fun (wd : World) (hb : Below wa.heap.size wa wd) => HB.out Ay ky wd (hM.out.below hb) (hsy.keep (free_below hb)) hky (V2.out.keep (free_below hb)))
        have l0 := ba.lt
        clear ba hsy hky hb HB hs1
        generalize (if k2 = m then A2 else A2.map (·.add (m * 3))) = Ax at *
        go_wp2_with fail
        have hq0 : Below wa.heap.size wa wa.drew := below_drew' (Below.refl _ _)
        have hq1 : ∀ o, Below wa.heap.size wa (wa.alloc o).drew := fun o => below_drew' (below_alloc1 _ o)
        have hq2 : ∀ o o2, Below wa.heap.size wa ((wa.alloc o).alloc o2).drew := fun o o2 => below_drew' (below_alloc2 _ o o2)
        go_cut [11, 12] (fun p q wx => TwoOut wa rl 0 0 p q wx)
        case first =>
          have c0 : wa.cell? ⟨gp, 0, none⟩ = some (.slice Ay y.length ky) := HK.out _ (Below.refl _ _)
          go_region_with (first
            | (go_at_call 25; (with_reducible refine (HB2.out (wa.drew) hq0).mono ?_); rintro e w9 ⟨Aa, ca, rfl, hca, hsa, hb9⟩; have hq9 : Below wa.heap.size wa w9 := hq0.trans (hb9.mono hq0.size))
            | (go_at_call 25; (with_reducible refine (HB2.out ((wa.alloc (.cells #[.slice none 0 0] 26)).drew) (hq1 _)).mono ?_); rintro e w9 ⟨Aa, ca, rfl, hca, hsa, hb9⟩; have hq9 : Below wa.heap.size wa w9 := (hq1 _).trans (hb9.mono (hq1 _).size); have bA : Blk w9 wa.heap.size 26 #[.slice none 0 0] := (show Blk (wa.alloc (.cells #[.slice none 0 0] 26)).drew wa.heap.size 26 #[.slice none 0 0] from (Blk.new wa 26 #[.slice none 0 0])).below hb9 (show wa.heap.size < (wa.alloc (.cells #[.slice none 0 0] 26)).drew.heap.size from Blk.lt (Blk.new wa 26 #[.slice none 0 0])); have bA0 := bA.frozen 0; have bA1 : w9.cell? ⟨wa.heap.size, 0, none⟩ = some (.slice none 0 0) := (bA.cell 0).trans rfl; have bA2 := bA.lt)
            | (go_at_call 25; (with_reducible refine (HB2.out ((wa.alloc (.cells #[.int .i64 0, .int .i64 0] 30)).drew) (hq1 _)).mono ?_); rintro e w9 ⟨Aa, ca, rfl, hca, hsa, hb9⟩; have hq9 : Below wa.heap.size wa w9 := (hq1 _).trans (hb9.mono (hq1 _).size); have bB : Blk w9 wa.heap.size 30 #[.int .i64 0, .int .i64 0] := (show Blk (wa.alloc (.cells #[.int .i64 0, .int .i64 0] 30)).drew wa.heap.size 30 #[.int .i64 0, .int .i64 0] from (Blk.new wa 30 #[.int .i64 0, .int .i64 0])).below hb9 (show wa.heap.size < (wa.alloc (.cells #[.int .i64 0, .int .i64 0] 30)).drew.heap.size from Blk.lt (Blk.new wa 30 #[.int .i64 0, .int .i64 0])); have bB0 := bB.frozen 0; have bB1 := bB.frozen 1; have bB2 : w9.cell? ⟨wa.heap.size, 0, none⟩ = some (.int .i64 0) := (bB.cell 0).trans rfl; have bB3 : w9.cell? ⟨wa.heap.size, 1, none⟩ = some (.int .i64 0) := (bB.cell 1).trans rfl; have bB4 := bB.lt)
            | (go_at_call 25; (with_reducible refine (HB2.out (((wa.alloc (.cells #[.slice none 0 0] 26)).alloc (.cells #[.int .i64 0, .int .i64 0] 30)).drew) (hq2 _ _)).mono ?_); rintro e w9 ⟨Aa, ca, rfl, hca, hsa, hb9⟩; have hq9 : Below wa.heap.size wa w9 := (hq2 _ _).trans (hb9.mono (hq2 _ _).size); have bA : Blk w9 wa.heap.size 26 #[.slice none 0 0] := (show Blk ((wa.alloc (.cells #[.slice none 0 0] 26)).alloc (.cells #[.int .i64 0, .int .i64 0] 30)).drew wa.heap.size 26 #[.slice none 0 0] from ((Blk.new wa 26 #[.slice none 0 0]).alloc (.cells #[.int .i64 0, .int .i64 0] 30))).below hb9 (show wa.heap.size < ((wa.alloc (.cells #[.slice none 0 0] 26)).alloc (.cells #[.int .i64 0, .int .i64 0] 30)).drew.heap.size from Blk.lt ((Blk.new wa 26 #[.slice none 0 0]).alloc (.cells #[.int .i64 0, .int .i64 0] 30))); have bA0 := bA.frozen 0; have bA1 : w9.cell? ⟨wa.heap.size, 0, none⟩ = some (.slice none 0 0) := (bA.cell 0).trans rfl; have bA2 := bA.lt; have bB : Blk w9 (wa.heap.size + 1) 30 #[.int .i64 0, .int .i64 0] := (show Blk ((wa.alloc (.cells #[.slice none 0 0] 26)).alloc (.cells #[.int .i64 0, .int .i64 0] 30)).drew (wa.heap.size + 1) 30 #[.int .i64 0, .int .i64 0] from (blk_new1 wa (.cells #[.slice none 0 0] 26) 30 #[.int .i64 0, .int .i64 0])).below hb9 (show (wa.heap.size + 1) < ((wa.alloc (.cells #[.slice none 0 0] 26)).alloc (.cells #[.int .i64 0, .int .i64 0] 30)).drew.heap.size from Blk.lt (blk_new1 wa (.cells #[.slice none 0 0] 26) 30 #[.int .i64 0, .int .i64 0])); have bB0 := bB.frozen 0; have bB1 := bB.frozen 1; have bB2 : w9.cell? ⟨(wa.heap.size + 1), 0, none⟩ = some (.int .i64 0) := (bB.cell 0).trans rfl; have bB3 : w9.cell? ⟨(wa.heap.size + 1), 1, none⟩ = some (.int .i64 0) := (bB.cell 1).trans rfl; have bB4 := bB.lt)
            | (go_at_call 25; (with_reducible refine (HB2.out (((wa.alloc (.cells #[.int .i64 0, .int .i64 0] 30)).alloc (.cells #[.slice none 0 0] 26)).drew) (hq2 _ _)).mono ?_); rintro e w9 ⟨Aa, ca, rfl, hca, hsa, hb9⟩; have hq9 : Below wa.heap.size wa w9 := (hq2 _ _).trans (hb9.mono (hq2 _ _).size); have bB : Blk w9 wa.heap.size 30 #[.int .i64 0, .int .i64 0] := (show Blk ((wa.alloc (.cells #[.int .i64 0, .int .i64 0] 30)).alloc (.cells #[.slice none 0 0] 26)).drew wa.heap.size 30 #[.int .i64 0, .int .i64 0] from ((Blk.new wa 30 #[.int .i64 0, .int .i64 0]).alloc (.cells #[.slice none 0 0] 26))).below hb9 (show wa.heap.size < ((wa.alloc (.cells #[.int .i64 0, .int .i64 0] 30)).alloc (.cells #[.slice none 0 0] 26)).drew.heap.size from Blk.lt ((Blk.new wa 30 #[.int .i64 0, .int .i64 0]).alloc (.cells #[.slice none 0 0] 26))); have bB0 := bB.frozen 0; have bB1 := bB.frozen 1; have bB2 : w9.cell? ⟨wa.heap.size, 0, none⟩ = some (.int .i64 0) := (bB.cell 0).trans rfl; have bB3 : w9.cell? ⟨wa.heap.size, 1, none⟩ = some (.int .i64 0) := (bB.cell 1).trans rfl; have bB4 := bB.lt; have bA : Blk w9 (wa.heap.size + 1) 26 #[.slice none 0 0] := (show Blk ((wa.alloc (.cells #[.int .i64 0, .int .i64 0] 30)).alloc (.cells #[.slice none 0 0] 26)).drew (wa.heap.size + 1) 26 #[.slice none 0 0] from (blk_new1 wa (.cells #[.int .i64 0, .int .i64 0] 30) 26 #[.slice none 0 0])).below hb9 (show (wa.heap.size + 1) < ((wa.alloc (.cells #[.int .i64 0, .int .i64 0] 30)).alloc (.cells #[.slice none 0 0] 26)).drew.heap.size from Blk.lt (blk_new1 wa (.cells #[.int .i64 0, .int .i64 0] 30) 26 #[.slice none 0 0])); have bA0 := bA.frozen 0; have bA1 : w9.cell? ⟨(wa.heap.size + 1), 0, none⟩ = some (.slice none 0 0) := (bA.cell 0).trans rfl; have bA2 := bA.lt))
          all_goals
            go_wp2_with fail
            go_meet
            first
              | exact TwoOut.aa hq9 hca hsa
              | exact TwoOut.ab hq9 hca hsa
              | exact TwoOut.ba hq9 hca hsa bA (Nat.le_refl _) (by show _ < (World.alloc _ _).heap.size; simp)
              | exact TwoOut.bb hq9 hca hsa bB (Nat.le_refl _) (by show _ < (World.alloc _ _).heap.size; simp)
              | exact TwoOut.ca hq9 hca hsa bA bB (by omega) (by omega) (by omega) (by show _ < (World.alloc _ _).heap.size; simp; try omega) (by show _ < (World.alloc _ _).heap.size; simp; try omega)
        case rest =>
          obtain ⟨gr, gt, Az, kz, rfl, rfl, bc, bd, hsz, hkz, hbd⟩ := hcut
          obtain ⟨wb, rfl⟩ : ∃ wb : World, wb = wc := ⟨_, rfl⟩
          have hbw2 := Lib.hid (hbw.out.trans (hbd.mono hbw.out.size))
          obtain ⟨q0, q1⟩ := hbb.out _ hbd
          have g0 : wb.cell? ⟨w2.heap.size, 0, none⟩ = some (.slice Ag rl.length cg) := (hbd.cell (p := ⟨_, _, none⟩) g.lt).trans ((g.cell 0).trans rfl)
          have g1 := Nat.lt_of_lt_of_le g.lt hbd.size
          have c0 : wb.cell? ⟨gr, 0, none⟩ = some (.slice Az rl.length kz) := (bc.cell 0).trans rfl
          have c1 := bc.lt
          have d0 : wb.cell? ⟨gt, 0, none⟩ = some (.int .i64 0) := (bd.cell 0).trans rfl
          have d1 := bd.lt
          have HST := Lib.hid (refStores_any wb Az Ag kz cg rl rl hsz (Vg.out.keep (free_below hbd)) (by omega) (by omega))
          clear HK HB2 hbd hq0 hq1 hq2 hbw bc bd g bx hsz
          go_wp2_with fail
          go_at_call 22
          refine HST.out.mono ?_
          rintro e w9 ⟨rfl, hb9⟩
          go_wp2_with fail
          go_ret
          exact ⟨by simp, hbw2.out.trans (hb9.mono hbw2.out.size)⟩
    · have hb : (decide (0 ≤ n) && decide (n ≤ (l.length : Int))) = false := by
        rw [Bool.and_eq_false_iff]
        by_cases h0 : 0 ≤ n
        · right; simp; omega
        · left; simpa using h0
      clear hin hok hap H25 HR h30
      go_wp2_with fail
      go_at_call 26
      refine (in_any _ _ _ _).mono ?_
      rintro e w9 ⟨rfl, hw9⟩
      have hw9 := hw9.symm
      subst hw9
      rw [hb]
      go_wp2_with fail
      go_ret
      exact ⟨by simp, HBa3.out⟩
end Go.Proofs.YtfbbgnhelannjaaDoor
