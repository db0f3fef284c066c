/-
  The merge queue: walk of Run at valid events.
-/
import Derived.Test.YtinebbleilnejaaMq14
namespace Go.Proofs.Ytinebbleilnejaa
open Go.RowKit Go.V
set_option linter.unusedVariables false
/-- One event as three cells. -/
def EvR (v : Mq.Ev) (cs : List Value) : Prop := cs = [.int .i64 v.kind, .int .i64 v.c, .int .i64 0]
theorem EvR.len (v : Mq.Ev) (cs : List Value) (h : EvR v cs) : cs.length = 3 := by unfold EvR at h; subst h; rfl
def evsV (l : List Mq.Ev) : List Value := l.flatMap fun v => [.int .i64 v.kind, .int .i64 v.c, .int .i64 0]
theorem evs_rows : ∀ l : List Mq.Ev, RowsR EvR l (evsV l)
  | [] => rfl
  | v :: l => ⟨_, _, rfl, rfl, evs_rows l⟩
/-- The slice at A holds the events l. -/
def EvV (w : World) (A : Option Addr) (l : List Mq.Ev) : Prop := SV w w.heap.size A (evsV l)
theorem EvV.below {w w' : World} {A : Option Addr} {l : List Mq.Ev} (h : EvV w A l) (hb : Below w.heap.size w w') : EvV w' A l := (SV.below h hb (Nat.le_refl _)).more hb.size
theorem EvV.row {w : World} {A : Option Addr} {l : List Mq.Ev} (h : EvV w A l) (i : Nat) (hi : i < l.length) : ∃ b off, A = some ⟨b, off, none⟩ ∧ b < w.heap.size ∧
    w.cell? ⟨b, off + i * 3, none⟩ = some (.int .i64 l[i].kind) ∧ w.cell? ⟨b, off + i * 3 + 1, none⟩ = some (.int .i64 l[i].c) ∧ w.cell? ⟨b, off + i * 3 + 2, none⟩ = some (.int .i64 0) := by
  obtain ⟨b, off, cs, e, hb, hr, hc⟩ := SV.row EvR.len (by omega) h (evs_rows l) i hi
  unfold EvR at hr
  subst hr
  exact ⟨b, off, e, hb, hc 0 _ rfl, hc 1 _ rfl, hc 2 _ rfl⟩
theorem results_cc {fn : Func} {a b : Tmp} (h : fn.results = #[.cell a 34, .cell b 26]) (tmps : Array Value) (w : World) (g g' : Nat) (x y z u v : Value) (ha : tmps.getD a undef = .pointer (some ⟨g, 0, none⟩)) (hb : tmps.getD b undef = .pointer (some ⟨g', 0, none⟩))
    (h1 : Blk w g 34 #[x, y, z]) (h2 : Blk w g' 26 #[u, v]) :
    (results fn tmps).run Try.prog w = .ok (.tuple #[.agg #[x, y, z], .agg #[u, v]]) w := by
  have c0 := h1.cell 0
  have c1 := h1.cell 1
  have c2 := h1.cell 2
  have e0 := h2.cell 0
  have e1 := h2.cell 1
  simp only [List.getElem?_toArray, List.getElem?_cons_zero, List.getElem?_cons_succ] at c0 c1 c2 e0 e1
  have ha' : tmps[a]?.getD undef = .pointer (some ⟨g, 0, none⟩) := by simpa using ha
  have hb' : tmps[b]?.getD undef = .pointer (some ⟨g', 0, none⟩) := by simpa using hb
  simp [results, h, go_sem, ha', hb', c0, c1, c2, e0, e1]
theorem QS.far {B : Nat} {wr : World} {gQ : Nat} {win : Int} {ve vl vr : Value} {L : List (Mq.E × Value)} {la re : List Int} (h : QS B wr gQ win ve L vl vr la re) {g i : Nat} {t : TypeId} {cs : Array Value} (hb : Blk wr g t cs) (h1 : t ≠ 56) (h2 : t ≠ 38) (h3 : t ≠ 3) (u : Value) : QS B (wr.setCell ⟨g, i, none⟩ u) gQ win ve L vl vr la re :=
  h.keep (only_setCell (World.grownBy.refl wr (some g)) (.inl rfl) u) fun g' e hlt => by
    injection e with e
    subst e
    exact ⟨Blk.ne_ hb h.q h1, fun e => own_blk_ne h.e hb (Ne.symm h2) e.symm, fun e => own_blk_ne h.l hb (Ne.symm h3) e.symm, fun e => own_blk_ne h.r hb (Ne.symm h3) e.symm, fun j hj e => own_blk_ne (h.a j hj) hb (Ne.symm h3) e.symm⟩
/-- What Run tells. -/
def RnPost (w : World) (win : Nat) (q : Mq.Q) (e : Ending) (w' : World) : Prop :=
  ∃ gQ ve vl vr L, e = .returned (.tuple #[.agg #[ve, vl, vr], .agg #[.int .i64 0, .int .i64 0]]) ∧ QS w.heap.size w' gQ (win : Int) ve L vl vr q.la q.re ∧ L.map (·.1) = q.es ∧ Below w.heap.size w w'
set_option maxRecDepth 100000 in
set_option maxHeartbeats 16000000 in
theorem run_any (w : World) (A : Option Addr) (k : Nat) (l : List Mq.Ev) (win : Nat) (hv : EvV w A l) (hl : l.length ≤ 40) (hw1 : 1 ≤ win) (hw4 : win ≤ 4) (hvc : Mq.VC win l) :
    Calls Try.prog 6 #[.int .i64 (win : Int), .slice A l.length k] w (RnPost w win (Mq.run win l)) := by
  have HV := Lib.hid (fun (W : World) (hb : Below w.heap.size w W) => hv.below hb)
  have HVC := Lib.hid hvc
  have HRN := Lib.hid (fun (i : Nat) (hi : i < l.length) => (show Mq.run win (l.take (i + 1)) = Mq.step win (Mq.run win (l.take i)) l[i] from by rw [List.take_succ_eq_append_getElem hi, Mq.run_snoc]))
  have HALL := Lib.hid (show Mq.run win (l.take l.length) = Mq.run win l from by rw [List.take_length])
  clear hv hvc
  have hwI1 : ¬ (win : Int) < 1 := by omega
  have hwI4 : ¬ (4 : Int) < win := by omega
  have hl40 : ¬ (40 : Int) < l.length := by omega
  have g1 : Blk (((w.alloc (.cells #[.slice none 0 0, .slice none 0 0, .slice none 0 0] 34)).alloc (.cells #[.int .i64 0, .int .i64 0] 26)).alloc (.cells #[.slice none 0 0, .slice none 0 0, .slice none 0 0, .int .i64 (win : Int)] 56)) w.heap.size 34 #[.slice none 0 0, .slice none 0 0, .slice none 0 0] := ((Blk.new _ _ _).alloc _).alloc _
  have g2 : Blk (((w.alloc (.cells #[.slice none 0 0, .slice none 0 0, .slice none 0 0] 34)).alloc (.cells #[.int .i64 0, .int .i64 0] 26)).alloc (.cells #[.slice none 0 0, .slice none 0 0, .slice none 0 0, .int .i64 (win : Int)] 56)) (w.heap.size + 1) 26 #[.int .i64 0, .int .i64 0] := by
    have := (Blk.new (w.alloc (.cells #[.slice none 0 0, .slice none 0 0, .slice none 0 0] 34)) 26 #[.int .i64 0, .int .i64 0]).alloc (.cells #[.slice none 0 0, .slice none 0 0, .slice none 0 0, .int .i64 (win : Int)] 56)
    rwa [World.size_alloc] at this
  have g3 : Blk (((w.alloc (.cells #[.slice none 0 0, .slice none 0 0, .slice none 0 0] 34)).alloc (.cells #[.int .i64 0, .int .i64 0] 26)).alloc (.cells #[.slice none 0 0, .slice none 0 0, .slice none 0 0, .int .i64 (win : Int)] 56)) (w.heap.size + 1 + 1) 56 #[.slice none 0 0, .slice none 0 0, .slice none 0 0, .int .i64 (win : Int)] := by
    have := Blk.new ((w.alloc (.cells #[.slice none 0 0, .slice none 0 0, .slice none 0 0] 34)).alloc (.cells #[.int .i64 0, .int .i64 0] 26)) 56 #[.slice none 0 0, .slice none 0 0, .slice none 0 0, .int .i64 (win : Int)]
    rwa [World.size_alloc, World.size_alloc] at this
  have hb3 : Below w.heap.size w (((w.alloc (.cells #[.slice none 0 0, .slice none 0 0, .slice none 0 0] 34)).alloc (.cells #[.int .i64 0, .int .i64 0] 26)).alloc (.cells #[.slice none 0 0, .slice none 0 0, .slice none 0 0, .int .i64 (win : Int)] 56)) := ((below_alloc1 w _).alloc (by simp) _).alloc (by simp; omega) _
  have hq0 : QS w.heap.size (((w.alloc (.cells #[.slice none 0 0, .slice none 0 0, .slice none 0 0] 34)).alloc (.cells #[.int .i64 0, .int .i64 0] 26)).alloc (.cells #[.slice none 0 0, .slice none 0 0, .slice none 0 0, .int .i64 (win : Int)] 56)) (w.heap.size + 1 + 1) (win : Int) (.slice none 0 0) [] (.slice none 0 0) (.slice none 0 0) [] [] :=
    ⟨g3, by omega, World.ownsRow_nil _ _ _ _, World.ownsRow_nil _ _ _ _, World.ownsRow_nil _ _ _ _, fun j h => absurd h (by simp), by
      unfold Sp
      refine List.pairwise_cons.2 ⟨fun b _ g hg => (by cases hg), List.pairwise_cons.2 ⟨fun b _ g hg => (by cases hg), List.Pairwise.nil⟩⟩⟩
  go_enter Try.func6, Try.ntmps6
  go_wp2_with fail
  generalize (((w.alloc (.cells #[.slice none 0 0, .slice none 0 0, .slice none 0 0] 34)).alloc (.cells #[.int .i64 0, .int .i64 0] 26)).alloc (.cells #[.slice none 0 0, .slice none 0 0, .slice none 0 0, .int .i64 (win : Int)] 56)) = wq at *
  go_loopw [28] (fun iv wr => ∃ (i : Nat) (ve vl vr : Value) (L : List (Mq.E × Value)), i ≤ l.length ∧ iv = .int .i64 i ∧ QS w.heap.size wr (w.heap.size + 1 + 1) (win : Int) ve L vl vr (Mq.run win (l.take i)).la (Mq.run win (l.take i)).re ∧ Hid (L.map (·.1) = (Mq.run win (l.take i)).es) ∧ Blk wr w.heap.size 34 #[.slice none 0 0, .slice none 0 0, .slice none 0 0] ∧ Blk wr (w.heap.size + 1) 26 #[.int .i64 0, .int .i64 0] ∧ Below w.heap.size w wr) (fun iv _ => l.length - (intOf iv).toNat)
  case atStart => exact ⟨0, _, _, _, [], Nat.zero_le _, rfl, hq0, Lib.hid rfl, g1, g2, hb3⟩
  case round =>
    clear g1 g2 g3 hb3 hq0
    obtain ⟨i, ve, vl, vr, L, hi, rfl, hq, HM, g1, g2, hb⟩ := hrel
    obtain ⟨wo, rfl⟩ : ∃ wo : World, wo = wr := ⟨_, rfl⟩
    by_cases hlt : i < l.length
    · have hltI : (i : Int) < l.length := by omega
      obtain ⟨b, off, e, hbs, d0, d1, d2⟩ := (HV.out wo hb).row i hlt
      subst e
      have hSz := HVC.out.1 i (by omega)
      have hVa := HVC.out.2 i hlt
      have HR1 := Lib.hid (HRN.out i hlt)
      generalize Mq.run win (l.take i) = q at *
      generalize hqe : Mq.run win (l.take (i + 1)) = q' at *
      have HEQ := Lib.hid hqe
      clear hqe
      obtain ⟨es, la, re⟩ := q
      have hes := HM.out
      simp only at hes hq
      subst hes
      generalize l[i] = v at *
      have hal := below_alloc1 wo (.cells #[.int .i64 v.kind, .int .i64 v.c, .int .i64 0] 31)
      have bE := Blk.new wo 31 #[.int .i64 v.kind, .int .i64 v.c, .int .i64 0]
      have hq1 := hq.below hal
      have HCK := Lib.hid (check_any w.heap.size _ _ _ ve vl vr L la re v hq1 hSz hVa)
      have HQ1 := Lib.hid (fun (W : World) (hbW : Below (wo.alloc (.cells #[.int .i64 v.kind, .int .i64 v.c, .int .i64 0] 31)).heap.size (wo.alloc (.cells #[.int .i64 v.kind, .int .i64 v.c, .int .i64 0] 31)) W) => And.intro (hq1.below hbW) (And.intro (bE.below hbW bE.lt) (And.intro (((g1.alloc _).below hbW (g1.alloc _).lt)) (And.intro (((g2.alloc _).below hbW (g2.alloc _).lt)) (hb.trans ((hal.trans (hbW.mono hal.size)).mono hb.size))))))
      have HSV := Lib.hid (And.intro hSz hVa)
      clear hSz hVa hq hq1 bE hal g1 g2 HM
      go_wp2_with fail
      go_at_call 14
      with_reducible refine HCK.out.mono ?_
      rintro e w2 ⟨rfl, hb2⟩
      obtain ⟨hq2, bE2, g1, g2, hw2⟩ := HQ1.out w2 hb2
      have c0 := (bE2.cell 0).trans rfl
      have c1 := (bE2.cell 1).trans rfl
      have c2 := (bE2.cell 2).trans rfl
      have HST := Lib.hid (step_any w.heap.size w2 _ win ve vl vr L la re v hq2 HSV.out.1 HSV.out.2 hw2.size hw4)
      clear HCK HQ1 hq2 bE2 hb2
      go_wp2_with fail
      go_at_call 15
      with_reducible refine HST.out.mono ?_
      rintro e w3 ⟨rfl, ve3, vl3, vr3, L3, hq3, hm3, hF3⟩
      have g1' := hF3.blk g1 (by decide) (by decide) (by decide)
      have g2' := hF3.blk g2 (by decide) (by decide) (by decide)
      have hb3 := hw2.trans ((hF3.low hw2.size))
      have HX := Lib.hid (show QS w.heap.size w3 (w.heap.size + 1 + 1) (win : Int) ve3 L3 vl3 vr3 q'.la q'.re ∧ L3.map (·.1) = q'.es from by rw [HR1.out]; exact ⟨hq3, hm3⟩)
      clear hq3 hm3 hF3 g1 g2 HST c0 c1 c2
      go_wp2_with fail
      go_roundw
      case rel => exact ⟨i + 1, ve3, vl3, vr3, L3, by omega, by go_num, by rw [HEQ.out]; exact HX.out.1, by rw [HEQ.out]; exact Lib.hid HX.out.2, g1', g2', hb3⟩
      case measure => simp [intOf]; omega
    · obtain rfl : i = l.length := by omega
      have hltI : ¬ (l.length : Int) < l.length := by omega
      rw [HALL.out] at hq HM
      obtain ⟨A1, c1, rfl⟩ := hq.len
      obtain ⟨Al, cl, hvl, _⟩ := own_form hq.l
      obtain ⟨Ar, cr, hvr, _⟩ := own_form hq.r
      subst hvl
      subst hvr
      generalize hqq : Mq.run win l = q at *
      have HQQ := Lib.hid hqq
      clear hqq
      generalize q.la.length = nl at *
      generalize q.re.length = nr at *
      have p0 := (hq.q.cell 0).trans rfl
      have p1 := (hq.q.cell 1).trans rfl
      have p2 := (hq.q.cell 2).trans rfl
      have a0 := (g1.cell 0).trans rfl
      have a1 := (g1.cell 1).trans rfl
      have a2 := (g1.cell 2).trans rfl
      have b0 := (g2.cell 0).trans rfl
      have b1 := (g2.cell 1).trans rfl
      have fa0 := g1.frozen 0
      have fa1 := g1.frozen 1
      have fa2 := g1.frozen 2
      have fb0 := g2.frozen 0
      have fb1 := g2.frozen 1
      have k0 := g1.set_ 0 (.slice A1 L.length c1)
      have k1 := k0.set_ 1 (.slice Al nl cl)
      have k2 := k1.set_ 2 (.slice Ar nr cr)
      have k2' : Blk (((wo.setCell ⟨w.heap.size, 0, none⟩ (.slice A1 L.length c1)).setCell ⟨w.heap.size, 1, none⟩ (.slice Al nl cl)).setCell ⟨w.heap.size, 2, none⟩ (.slice Ar nr cr)) w.heap.size 34 #[.slice A1 L.length c1, .slice Al nl cl, .slice Ar nr cr] := by simpa using k2
      have m2 := ((g2.far (p := ⟨w.heap.size, 0, none⟩) (by simp) (.slice A1 L.length c1)).far (p := ⟨w.heap.size, 1, none⟩) (by simp) (.slice Al nl cl)).far (p := ⟨w.heap.size, 2, none⟩) (by simp) (.slice Ar nr cr)
      have m3 := blk_put26 m2 (.int .i64 0) (.int .i64 0)
      have k3 := (k2'.far (p := ⟨w.heap.size + 1, 0, none⟩) (by simp) (.int .i64 0)).far (p := ⟨w.heap.size + 1, 1, none⟩) (by simp) (.int .i64 0)
      have hqf := (((hq.far (i := 0) g1 (by decide) (by decide) (by decide) (.slice A1 L.length c1)).far (i := 1) k0 (by decide) (by decide) (by decide) (.slice Al nl cl)).far (i := 2) k1 (by decide) (by decide) (by decide) (.slice Ar nr cr))
      have m2a := m2.set_ 0 (.int .i64 0)
      have hqf2 := (hqf.far (i := 0) m2 (by decide) (by decide) (by decide) (.int .i64 0)).far (i := 1) m2a (by decide) (by decide) (by decide) (.int .i64 0)
      have hbf := ((((hb.setCell (p := ⟨w.heap.size, 0, none⟩) (Nat.le_refl _) (.slice A1 L.length c1)).setCell (p := ⟨w.heap.size, 1, none⟩) (Nat.le_refl _) (.slice Al nl cl)).setCell (p := ⟨w.heap.size, 2, none⟩) (Nat.le_refl _) (.slice Ar nr cr)).setCell (p := ⟨w.heap.size + 1, 0, none⟩) (Nat.le_succ _) (.int .i64 0)).setCell (p := ⟨w.heap.size + 1, 1, none⟩) (Nat.le_succ _) (.int .i64 0)
      have HFIN := Lib.hid (And.intro k3 (And.intro m3 (And.intro hqf2 (And.intro HM.out hbf))))
      clear k0 k1 k2 k2' m2 m3 k3 hqf m2a hqf2 hbf hq HM HALL g1 g2 hb
      go_wp2_with fail
      refine bodyPost_ret (results_cc rfl _ _ w.heap.size (w.heap.size + 1) _ _ _ _ _ rfl rfl HFIN.out.1 HFIN.out.2.1) rfl ?_
      exact ⟨w.heap.size + 1 + 1, _, _, _, L, rfl, HFIN.out.2.2.1, HFIN.out.2.2.2.1, HFIN.out.2.2.2.2⟩
end Go.Proofs.Ytinebbleilnejaa
