/-
  Objects: walks of 'Has' and 'Get'.
-/
import Derived.Test.YtiilhnfdlpgllaaOb5
import Derived.Test.YtiilhnfdlpgllaaOb2
namespace Go.Proofs.Ytiilhnfdlpgllaa
open Go.RowKit Go.V
set_option linter.unusedVariables false

theorem results_44_28 {fn : Func} {a b : Tmp} (h : fn.results = #[.cell a 44, .cell b 28]) (tmps : Array Value) (w : World) (g g' : Nat) (x y z c i : Value) (ha : tmps.getD a undef = .pointer (some ⟨g, 0, none⟩)) (hb' : tmps.getD b undef = .pointer (some ⟨g', 0, none⟩))
    (hb : Blk w g 44 #[x, y, z]) (hc : Blk w g' 28 #[c, i]) : (results fn tmps).run Try.prog w = .ok (.tuple #[.agg #[x, y, z], .agg #[c, i]]) w := by
  have h0 := hb.cell 0
  have h1 := hb.cell 1
  have h2 := hb.cell 2
  have k0 := hc.cell 0
  have k1 := hc.cell 1
  simp only [List.getElem?_toArray, List.getElem?_cons_zero, List.getElem?_cons_succ] at h0 h1 h2 k0 k1
  have ha' : tmps[a]?.getD undef = .pointer (some ⟨g, 0, none⟩) := by simpa using ha
  have hb'' : tmps[b]?.getD undef = .pointer (some ⟨g', 0, none⟩) := by simpa using hb'
  simp [results, h, go_sem, ha', hb'', h0, h1, h2, k0, k1]
/-- What 'Has' answers. -/
def HsPost (w : World) (s : List Ob.S) (d : Int) (e : Ending) (w' : World) : Prop := Below w.heap.size w w' ∧
  (((Ob.stF s).1 ≠ 0 ∧ e = .returned (.tuple #[.bool false, .agg #[.int .i64 (Ob.stF s).1, .int .i64 (Ob.stF s).2]])) ∨ (Ob.StOk s ∧ e = .returned (.tuple #[.bool (Ob.fnd s d), .agg #[.int .i64 0, .int .i64 0]])))
set_option maxRecDepth 100000 in
set_option maxHeartbeats 8000000 in
theorem has_any (w : World) (A : Option Addr) (k : Nat) (s : List Ob.S) (d : Int) (hv : StV w Free A s) (hl64 : s.length ≤ 9223372036854775807) :
    Calls Try.prog 35 #[stV A s.length k, .int .i64 d] w (HsPost w s d) := by
  have HC := Lib.hid (fun (w1 : World) (hb : Below w.heap.size w w1) => validate_any w1 A k s (hv.keep (free_below hb)) hl64)
  have HFI := Lib.hid (fun (w1 : World) (hb : Below w.heap.size w w1) (h : Ob.StOk s) => find_any w1 A k s d (hv.keep (free_below hb)) (by have := h.len; omega) h.sorted)
  clear hv
  go_enter Try.func35, Try.ntmps35
  go_wp2_with fail
  go_at_call 32
  refine (HC.out _ (below_alloc2 _ _ _)).mono ?_
  rintro e w1 ⟨rfl, hb1⟩
  have hblk := (blk_new1 w (.cells #[.slice A s.length k] 24) 28 #[.int .i64 0, .int .i64 0]).below hb1 (by simp)
  have hbox := ((Blk.new w 24 #[.slice A s.length k]).alloc (.cells #[.int .i64 0, .int .i64 0] 28)).below hb1 (by simp; omega)
  have hbw := (below_alloc2 w (.cells #[.slice A s.length k] 24) (.cells #[.int .i64 0, .int .i64 0] 28)).trans (hb1.mono (by simp; omega))
  have hsz := hbw.size
  have hlt := hblk.lt
  have hltb : w.heap.size < w1.heap.size := Nat.lt_of_succ_lt hlt
  have hc0 := hblk.cell 0
  have hc1 := hblk.cell 1
  have hf0 := hblk.frozen 0
  have hf1 := hblk.frozen 1
  have p0 := hbox.cell 0
  simp only [List.getElem?_toArray, List.getElem?_cons_zero, List.getElem?_cons_succ] at hc0 hc1 p0
  clear hb1 HC
  by_cases hbad : (Ob.stF s).1 ≠ 0
  · have H : Hid (∀ w' : World, Below w.heap.size w w' → HsPost w s d (.returned (.tuple #[.bool false, .agg #[.int .i64 (Ob.stF s).1, .int .i64 (Ob.stF s).2]])) w') := Lib.hid fun w' hb => ⟨hb, .inl ⟨hbad, rfl⟩⟩
    have hb1 : ((Ob.stF s).1 == 0) = false := by simpa using hbad
    have hb2 : ((Ob.stF s).1 != 0) = true := by simpa using hbad
    clear hbad HFI
    generalize HsPost w s d = R at *
    generalize Ob.stF s = r at *
    obtain ⟨cd, ix⟩ := r
    simp only at hb1 hb2
    go_wp2_with fail
    go_region
    all_goals
      go_wp2_with fail
      refine bodyPost_ret (results_tc rfl _ _ (w.heap.size + 1) (.int .i64 cd) (.int .i64 ix) rfl (((blk_put2 hblk _ _).alloc _).drewN 1)) rfl ?_
      refine H.out _ ?_
      exact below_drewN (((hbw.setCell (by simp) _).setCell (by simp) _).alloc (by simp; omega) _) 1
  · obtain ⟨hz, hok⟩ := Ob.stF_ok (by simpa using hbad)
    have H : Hid (∀ w' : World, Below w.heap.size w w' → HsPost w s d (.returned (.tuple #[.bool (Ob.fnd s d), .agg #[.int .i64 0, .int .i64 0]])) w') := Lib.hid fun w' hb => ⟨hb, .inr ⟨hok, rfl⟩⟩
    rw [hz]
    have hbw2 := hbw.alloc hsz (.cells #[.int .i64 0, .int .i64 0] 28)
    have hblk2 := hblk.alloc (.cells #[.int .i64 0, .int .i64 0] 28)
    have HF2 := Lib.hid (HFI.out _ hbw2 hok)
    clear HFI hz hbad
    generalize HsPost w s d = R at *
    generalize Ob.fnd s d = q at *
    go_wp2_with fail
    go_at_call 43
    refine HF2.out.mono ?_
    rintro e w2 ⟨rfl, hb2⟩
    have hbw3 := hbw2.trans (hb2.mono hbw2.size)
    have hblk3 := hblk2.below hb2 hblk2.lt
    have hlt3 := hblk3.lt
    have hf03 := hblk3.frozen 0
    have hf13 := hblk3.frozen 1
    have hc03 := hblk3.cell 0
    have hc13 := hblk3.cell 1
    simp only [List.getElem?_toArray, List.getElem?_cons_zero, List.getElem?_cons_succ] at hc03 hc13
    clear HF2
    go_wp2_with fail
    refine bodyPost_ret (results_tc rfl _ _ (w.heap.size + 1) (.int .i64 0) (.int .i64 0) rfl (blk_put2 hblk3 _ _)) rfl ?_
    exact H.out _ ((hbw3.setCell (by simp) _).setCell (by simp) _)
/-- The object of nothing. -/
abbrev zObj : Value := .agg #[.int .i64 0, .slice none 0 0, .slice none 0 0]
/-- What 'Get' answers. -/
def GtPost (w : World) (s : List Ob.S) (d : Int) (e : Ending) (w' : World) : Prop := Below w.heap.size w w' ∧
  (((Ob.stF s).1 ≠ 0 ∧ e = .returned (.tuple #[zObj, .agg #[.int .i64 (Ob.stF s).1, .int .i64 (Ob.stF s).2]])) ∨ (Ob.StOk s ∧ Ob.fnd s d = false ∧ e = .returned (.tuple #[zObj, .agg #[.int .i64 6, .int .i64 (-1)]])) ∨
    (Ob.StOk s ∧ Ob.fnd s d = true ∧ ∃ A1 k1 A2 k2, e = .returned (.tuple #[obV (Ob.it s (Ob.lb s d)).ob A1 k1 A2 k2, .agg #[.int .i64 0, .int .i64 0]]) ∧ ObA w' (Under w.heap.size) (Ob.it s (Ob.lb s d)).ob A1 k1 A2 k2))
theorem put32 {w1 : World} {g1 g2 : Nat} {t1 t2 : TypeId} {a b c d e : Value} (h1 : Blk w1 g1 t1 #[a, b, c]) (h2 : Blk w1 g2 t2 #[d, e]) (hne : g1 ≠ g2) (x y z u v : Value) :
    Blk (((((w1.setCell ⟨g1, 0, none⟩ x).setCell ⟨g1, 1, none⟩ y).setCell ⟨g1, 2, none⟩ z).setCell ⟨g2, 0, none⟩ u).setCell ⟨g2, 1, none⟩ v) g1 t1 #[x, y, z] ∧
    Blk (((((w1.setCell ⟨g1, 0, none⟩ x).setCell ⟨g1, 1, none⟩ y).setCell ⟨g1, 2, none⟩ z).setCell ⟨g2, 0, none⟩ u).setCell ⟨g2, 1, none⟩ v) g2 t2 #[u, v] ∧
    ∀ (B : Nat) (w0 : World), B ≤ g1 → B ≤ g2 → Below B w0 w1 → Below B w0 (((((w1.setCell ⟨g1, 0, none⟩ x).setCell ⟨g1, 1, none⟩ y).setCell ⟨g1, 2, none⟩ z).setCell ⟨g2, 0, none⟩ u).setCell ⟨g2, 1, none⟩ v) :=
  ⟨((blk_put3 h1 x y z).far (p := ⟨g2, 0, none⟩) hne u).far (p := ⟨g2, 1, none⟩) hne v,
   blk_put2 (((h2.far (p := ⟨g1, 0, none⟩) (Ne.symm hne) x).far (p := ⟨g1, 1, none⟩) (Ne.symm hne) y).far (p := ⟨g1, 2, none⟩) (Ne.symm hne) z) u v,
   fun B w0 h3 h4 hb => ((((hb.setCell (p := ⟨g1, 0, none⟩) h3 _).setCell (p := ⟨g1, 1, none⟩) h3 _).setCell (p := ⟨g1, 2, none⟩) h3 _).setCell (p := ⟨g2, 0, none⟩) h4 _).setCell (p := ⟨g2, 1, none⟩) h4 _⟩
theorem blk_new2 (w : World) (o o' : Obj) (t : TypeId) (cs : Array Value) : Blk (((w.alloc o).alloc o').alloc (.cells cs t)) (w.heap.size + 2) t cs := by
  simpa using Blk.new ((w.alloc o).alloc o') t cs
set_option maxRecDepth 100000 in
set_option maxHeartbeats 8000000 in
theorem get_any (w : World) (A : Option Addr) (k : Nat) (s : List Ob.S) (d : Int) (hv : StV w Free A s) (hl64 : s.length ≤ 9223372036854775807) :
    Calls Try.prog 36 #[stV A s.length k, .int .i64 d] w (GtPost w s d) := by
  have HC := Lib.hid (fun (w1 : World) (hb : Below w.heap.size w w1) => validate_any w1 A k s (hv.keep (free_below hb)) hl64)
  have HFI := Lib.hid (fun (w1 : World) (hb : Below w.heap.size w w1) (h : Ob.StOk s) => find_any w1 A k s d (hv.keep (free_below hb)) (by have := h.len; omega) h.sorted)
  have HROW := Lib.hid (fun (w' : World) (hb : Below w.heap.size w w') i hi => (hv.keep (free_below hb)).row (w := w') i hi)
  clear hv
  go_enter Try.func36, Try.ntmps36
  go_wp2_with fail
  go_at_call 32
  refine (HC.out _ (below_alloc3 _ _ _ _)).mono ?_
  rintro e w1 ⟨rfl, hb1⟩
  have hobj := ((blk_new1 w (.cells #[.slice A s.length k] 24) 44 #[.int .i64 0, .slice none 0 0, .slice none 0 0]).alloc (.cells #[.int .i64 0, .int .i64 0] 28)).below hb1 (by simp)
  have hblk := (blk_new2 w (.cells #[.slice A s.length k] 24) (.cells #[.int .i64 0, .slice none 0 0, .slice none 0 0] 44) 28 #[.int .i64 0, .int .i64 0]).below hb1 (by simp)
  have hbox := (((Blk.new w 24 #[.slice A s.length k]).alloc (.cells #[.int .i64 0, .slice none 0 0, .slice none 0 0] 44)).alloc (.cells #[.int .i64 0, .int .i64 0] 28)).below hb1 (by simp; omega)
  have hbw := (below_alloc3 w (.cells #[.slice A s.length k] 24) (.cells #[.int .i64 0, .slice none 0 0, .slice none 0 0] 44) (.cells #[.int .i64 0, .int .i64 0] 28)).trans (hb1.mono (by simp; omega))
  have hsz := hbw.size
  have hlt := hblk.lt
  have hltb : w.heap.size < w1.heap.size := by omega
  have hlto : w.heap.size + 1 < w1.heap.size := by omega
  have hc0 := hblk.cell 0
  have hc1 := hblk.cell 1
  have hf0 := hblk.frozen 0
  have hf1 := hblk.frozen 1
  have o0 := hobj.cell 0
  have o1 := hobj.cell 1
  have o2 := hobj.cell 2
  have of0 := hobj.frozen 0
  have of1 := hobj.frozen 1
  have of2 := hobj.frozen 2
  have p0 := hbox.cell 0
  simp only [List.getElem?_toArray, List.getElem?_cons_zero, List.getElem?_cons_succ] at hc0 hc1 p0 o0 o1 o2
  clear hb1 HC
  by_cases hbad : (Ob.stF s).1 ≠ 0
  · have H : Hid (∀ w' : World, Below w.heap.size w w' → GtPost w s d (.returned (.tuple #[zObj, .agg #[.int .i64 (Ob.stF s).1, .int .i64 (Ob.stF s).2]])) w') := Lib.hid fun w' hb => ⟨hb, .inl ⟨hbad, rfl⟩⟩
    have hb1 : ((Ob.stF s).1 == 0) = false := by simpa using hbad
    have hb2 : ((Ob.stF s).1 != 0) = true := by simpa using hbad
    clear hbad HFI HROW
    generalize GtPost w s d = R at *
    generalize Ob.stF s = r at *
    obtain ⟨cd, ix⟩ := r
    simp only at hb1 hb2
    go_wp2_with fail
    go_region
    all_goals
      go_wp2_with fail
      obtain ⟨k1, k2, k3⟩ := put32 hobj hblk (by omega) (.int .i64 0) (.slice none 0 0) (.slice none 0 0) (.int .i64 cd) (.int .i64 ix)
      refine bodyPost_ret (results_44_28 rfl _ _ (w.heap.size + 1) (w.heap.size + 2) (.int .i64 0) (.slice none 0 0) (.slice none 0 0) (.int .i64 cd) (.int .i64 ix) rfl rfl ((k1.alloc _).drewN 1) ((k2.alloc _).drewN 1)) rfl ?_
      refine H.out _ ?_
      exact below_drewN ((k3 _ _ (by omega) (by omega) hbw).alloc (by simp [World.setCell]; omega) _) 1
  · obtain ⟨hz, hok⟩ := Ob.stF_ok (by simpa using hbad)
    rw [hz]
    have hbw2 := hbw.alloc hsz (.cells #[.int .i64 0, .int .i64 0] 28)
    have hblk2 := hblk.alloc (.cells #[.int .i64 0, .int .i64 0] 28)
    have hobj2 := hobj.alloc (.cells #[.int .i64 0, .int .i64 0] 28)
    have hbox2 := hbox.alloc (.cells #[.int .i64 0, .int .i64 0] 28)
    have HF2 := Lib.hid (HFI.out _ hbw2 hok)
    have HNO : Hid (∀ w' : World, Ob.fnd s d = false → Below w.heap.size w w' → GtPost w s d (.returned (.tuple #[zObj, .agg #[.int .i64 6, .int .i64 (-1)]])) w') := Lib.hid fun w' h hb => ⟨hb, .inr (.inl ⟨hok, h, rfl⟩)⟩
    have HYES : Hid (∀ (w' : World) A1 k1 A2 k2, Ob.fnd s d = true → Below w.heap.size w w' → ObA w' (Under w.heap.size) (Ob.it s (Ob.lb s d)).ob A1 k1 A2 k2 → GtPost w s d (.returned (.tuple #[obV (Ob.it s (Ob.lb s d)).ob A1 k1 A2 k2, .agg #[.int .i64 0, .int .i64 0]])) w') := Lib.hid fun w' A1 k1 A2 k2 h hb ho => ⟨hb, .inr (.inr ⟨hok, h, A1, k1, A2, k2, rfl, ho⟩)⟩
    have HLK := Lib.hid (fun i hi => (hok.ok i hi).ln)
    have HFD := Lib.hid (show Ob.fnd s d = (decide (Ob.lb s d < s.length) && decide ((Ob.it s (Ob.lb s d)).dig = d)) from rfl)
    clear HFI hz hbad hok
    generalize GtPost w s d = R at *
    have hlt2 := hobj2.lt
    go_wp2_with fail
    go_at_call 43
    refine HF2.out.mono ?_
    rintro e w2 ⟨rfl, hb2⟩
    have hbw3 := hbw2.trans (hb2.mono hbw2.size)
    have hblk3 := hblk2.below hb2 hblk2.lt
    have hobj3 := hobj2.below hb2 hobj2.lt
    have hbox3 := hbox2.below hb2 hbox2.lt
    have hlt3 := hblk3.lt
    have hlt4 := hobj3.lt
    have hlt5 := hbox3.lt
    have hf03 := hblk3.frozen 0
    have hf13 := hblk3.frozen 1
    have hc03 := hblk3.cell 0
    have hc13 := hblk3.cell 1
    have o03 := hobj3.cell 0
    have o13 := hobj3.cell 1
    have o23 := hobj3.cell 2
    have of03 := hobj3.frozen 0
    have of13 := hobj3.frozen 1
    have of23 := hobj3.frozen 2
    have p03 := hbox3.cell 0
    simp only [List.getElem?_toArray, List.getElem?_cons_zero, List.getElem?_cons_succ] at hc03 hc13 o03 o13 o23 p03
    clear HF2 hobj hobj2 hblk hblk2 hbox hbox2 o0 o1 o2 of0 of1 of2 p0 hc0 hc1 hf0 hf1
    by_cases hf : Ob.fnd s d = true
    · have hpl : Ob.lb s d < s.length := by
        have := HFD.out; rw [hf] at this; have h := this.symm; rw [Bool.and_eq_true] at h; simpa using h.1
      obtain ⟨b, off, Al, kl, Ad, kd, e, hb, _, d0, d1, d2, d3, hx, hob⟩ := HROW.out _ hbw3 _ hpl
      subst e
      have hlk := HLK.out _ hpl
      have HCO := Lib.hid (copyObject_any w2 _ Al kl Ad kd hob (by omega))
      have HY := Lib.hid (fun w' A1 k1 A2 k2 => HYES.out w' A1 k1 A2 k2 hf)
      rw [hf]
      clear hf hob hlk HYES HNO HFD HLK
      generalize hxx : Ob.it s (Ob.lb s d) = x at *
      clear hxx
      generalize Ob.lb s d = p at *
      obtain ⟨xd, kk, ls, da⟩ := x
      simp only at *
      have hpi : (p : Int) < s.length := by omega
      go_wp2_with fail
      go_at_call 50
      refine HCO.out.mono ?_
      rintro e w4 ⟨A1, k1, A2, k2, rfl, hob4, hb4⟩
      have hbw4 := hbw3.trans (hb4.mono hbw3.size)
      have hblk4 := hblk3.below hb4 hblk3.lt
      have hobj4 := hobj3.below hb4 hobj3.lt
      have m0 := hblk4.cell 0
      have m1 := hblk4.cell 1
      have m2 := hblk4.frozen 0
      have m3 := hblk4.frozen 1
      have n0 := hobj4.cell 0
      have n1 := hobj4.cell 1
      have n2 := hobj4.cell 2
      have n3 := hobj4.frozen 0
      have n4 := hobj4.frozen 1
      have n5 := hobj4.frozen 2
      simp only [List.getElem?_toArray, List.getElem?_cons_zero, List.getElem?_cons_succ] at m0 m1 n0 n1 n2
      clear HCO
      go_wp2_with fail
      obtain ⟨j1, j2, j3⟩ := put32 hobj4 hblk4 (by omega) (.int .i64 kk) (.slice A1 ls.length k1) (.slice A2 da.length k2) (.int .i64 0) (.int .i64 0)
      refine bodyPost_ret (results_44_28 rfl _ _ (w.heap.size + 1) (w.heap.size + 2) (.int .i64 kk) (.slice A1 ls.length k1) (.slice A2 da.length k2) (.int .i64 0) (.int .i64 0) rfl rfl j1 j2) rfl ?_
      have hu1 : Under w2.heap.size (w.heap.size + 1) := hlt4
      have hu2 : Under w2.heap.size (w.heap.size + 2) := hlt3
      have hkp := ((((Keeps.setCell w4 (Under w2.heap.size) ⟨w.heap.size + 1, 0, none⟩ (.int .i64 kk) hu1).trans (Keeps.setCell _ _ ⟨w.heap.size + 1, 1, none⟩ (.slice A1 ls.length k1) hu1)).trans (Keeps.setCell _ _ ⟨w.heap.size + 1, 2, none⟩ (.slice A2 da.length k2) hu1)).trans (Keeps.setCell _ _ ⟨w.heap.size + 2, 0, none⟩ (.int .i64 0) hu2)).trans (Keeps.setCell _ _ ⟨w.heap.size + 2, 1, none⟩ (.int .i64 0) hu2)
      exact HY.out _ _ _ _ _ (j3 _ _ (by omega) (by omega) hbw4) ((hob4.keep hkp).mono_ (fun b hb => Nat.lt_of_lt_of_le hb (by omega)))
    · have hff : Ob.fnd s d = false := by simpa using hf
      have HN := Lib.hid (fun w' => HNO.out w' hff)
      rw [hff]
      clear hf hff HYES HNO HFD HLK HROW
      generalize Ob.lb s d = p at *
      go_wp2_with fail
      obtain ⟨j1, j2, j3⟩ := put32 hobj3 hblk3 (by omega) (.int .i64 0) (.slice none 0 0) (.slice none 0 0) (.int .i64 6) (.int .i64 (-1))
      refine bodyPost_ret (results_44_28 rfl _ _ (w.heap.size + 1) (w.heap.size + 2) (.int .i64 0) (.slice none 0 0) (.slice none 0 0) (.int .i64 6) (.int .i64 (-1)) rfl rfl j1 j2) rfl ?_
      exact HN.out _ (j3 _ _ (by omega) (by omega) hbw3)
end Go.Proofs.Ytiilhnfdlpgllaa
