/-
  RefsBatchMatchesSpec: the law's walk.
-/
import Derived.Test.YtfbbgnhelannjaaDoorRf21
import Derived.Test.YtfbbgnhelannjaaDoorRf23
import Derived.StillTailTactics
namespace Rf
/-- What the loop of the law keeps: the answer follows from the set so far, or it is the fault. -/
def B7 (r : List R × (Int × Int)) (l : List U) (i : Nat) (cd ix : Int) (x : List R) : Prop :=
  (cd = 0 ∧ ix = 0 ∧ Ok x ∧ r = batF x (l.drop i) i) ∨ (cd ≠ 0 ∧ r = ([], (cd, ix)))
theorem B7.end_ {r : List R × (Int × Int)} {l : List U} {ix : Int} {x : List R} (h : B7 r l l.length 0 ix x) : Ok x ∧ r = (x, (0, 0)) := by
  rcases h with ⟨_, _, h1, h2⟩ | ⟨h, _⟩
  · exact ⟨h1, by rw [h2, batF_end x l _ _ (Nat.le_refl _)]⟩
  · exact absurd rfl h
theorem B7.bad {r : List R × (Int × Int)} {l : List U} {i : Nat} {cd ix : Int} {x : List R} (h : B7 r l i cd ix x) (hc : cd ≠ 0) : r = ([], (cd, ix)) := by
  rcases h with ⟨h, _⟩ | ⟨_, h⟩
  · exact absurd h hc
  · exact h
theorem B7.step {r : List R × (Int × Int)} {l : List U} {i : Nat} {ix : Int} {x : List R} (h : B7 r l i 0 ix x) (hi : i < l.length) : Ok x ∧ ix = 0 ∧ (upC x l[i] ≠ 0 → B7 r l (i + 1) (upC x l[i]) i x) ∧ (upC x l[i] = 0 → B7 r l (i + 1) 0 0 (upS x l[i])) := by
  rcases h with ⟨_, e, h1, h2⟩ | ⟨h, _⟩
  · exact ⟨h1, e, fun hc => .inr ⟨hc, by rw [h2, batF_bad x l i hi hc]⟩, fun hc => .inl ⟨rfl, rfl, h1.up (upC_ok.1 hc), by rw [h2, batF_next x l i hi hc]⟩⟩
  · exact absurd rfl h
end Rf
namespace Go.Proofs.YtfbbgnhelannjaaDoor
open Go.RowKit Go.V Go.Shelf Go.Lib
set_option linter.unusedVariables false

/-- Two blocks. -/
def Two (v x : Nat) : Nat → Prop := fun b => b = v ∨ b = x
structure L7St (w wr : World) (g f v x : Nat) (A : Option Addr) (n k : Nat) (Ag : Option Addr) (rl : List Rf.R) (cg : Nat) (c1 i1 cd ix : Int) (Ax : Option Addr) (cx : Nat) (xs : List Rf.R) : Prop where
  bx : Blk wr w.heap.size 26 #[.slice A n k]
  bg : Blk wr g 26 #[.slice Ag rl.length cg]
  bf : Blk wr f 30 #[.int .i64 c1, .int .i64 i1]
  bv : Blk wr v 30 #[.int .i64 cd, .int .i64 ix]
  bs : Blk wr x 26 #[.slice Ax xs.length cx]
  row : SA wr (Two v x) Ax (rsV xs)
  got : SA wr (Two v x) Ag (rsV rl)
  bel : Below w.heap.size w wr
  ord : w.heap.size < g ∧ g < f ∧ f < v ∧ v < x
section
variable {w wr w' : World} {g f v x : Nat} {A : Option Addr} {n k : Nat} {Ag : Option Addr} {rl : List Rf.R} {cg : Nat} {c1 i1 cd ix : Int} {Ax : Option Addr} {cx : Nat} {xs : List Rf.R}
theorem L7St.below (h : L7St w wr g f v x A n k Ag rl cg c1 i1 cd ix Ax cx xs) (hb : Below wr.heap.size wr w') : L7St w w' g f v x A n k Ag rl cg c1 i1 cd ix Ax cx xs :=
  ⟨h.bx.below hb h.bx.lt, h.bg.below hb h.bg.lt, h.bf.below hb h.bf.lt, h.bv.below hb h.bv.lt, h.bs.below hb h.bs.lt, h.row.keep (Keeps.below hb fun _ _ h => h), h.got.keep (Keeps.below hb fun _ _ h => h), h.bel.trans (hb.mono h.bel.size), h.ord⟩
theorem L7St.setv (h : L7St w wr g f v x A n k Ag rl cg c1 i1 cd ix Ax cx xs) (a b : Int) : L7St w ((wr.setCell ⟨v, 0, none⟩ (.int .i64 a)).setCell ⟨v, 1, none⟩ (.int .i64 b)) g f v x A n k Ag rl cg c1 i1 a b Ax cx xs := by
  obtain ⟨o1, o2, o3, o4⟩ := h.ord
  have far : ∀ {b' : Nat} {t : TypeId} {cs : Array Value} (p q : Value), Blk wr b' t cs → b' ≠ v → Blk ((wr.setCell ⟨v, 0, none⟩ p).setCell ⟨v, 1, none⟩ q) b' t cs := fun p q hb hne => (hb.far (p := ⟨v, 0, none⟩) hne p).far (p := ⟨v, 1, none⟩) hne q
  have kp : ∀ (p q : Value), Keeps wr (Two v x) ((wr.setCell ⟨v, 0, none⟩ p).setCell ⟨v, 1, none⟩ q) (Two v x) := fun p q => (Keeps.setCell wr _ ⟨v, 0, none⟩ p (.inl rfl)).trans (Keeps.setCell _ _ ⟨v, 1, none⟩ q (.inl rfl))
  exact ⟨far _ _ h.bx (by omega), far _ _ h.bg (by omega), far _ _ h.bf (by omega), blk_put2 h.bv _ _, far _ _ h.bs (by omega), h.row.keep (kp _ _), h.got.keep (kp _ _), (h.bel.setCell (p := ⟨v, 0, none⟩) (show w.heap.size ≤ v by omega) _).setCell (p := ⟨v, 1, none⟩) (show w.heap.size ≤ v by omega) _, h.ord⟩
theorem L7St.sets (h : L7St w wr g f v x A n k Ag rl cg c1 i1 cd ix Ax cx xs) {Ay : Option Addr} {cy : Nat} {ys : List Rf.R} (hr : SA wr (Two v x) Ay (rsV ys)) : L7St w (wr.setCell ⟨x, 0, none⟩ (.slice Ay ys.length cy)) g f v x A n k Ag rl cg c1 i1 cd ix Ay cy ys := by
  obtain ⟨o1, o2, o3, o4⟩ := h.ord
  have kp := Keeps.setCell wr (Two v x) ⟨x, 0, none⟩ (.slice Ay ys.length cy) (.inr rfl)
  exact ⟨h.bx.far (p := ⟨x, 0, none⟩) (by simp only; omega) _, h.bg.far (p := ⟨x, 0, none⟩) (by simp only; omega) _, h.bf.far (p := ⟨x, 0, none⟩) (by simp only; omega) _, h.bv.far (p := ⟨x, 0, none⟩) (by simp only; omega) _, by simpa using h.bs.set_ 0 (.slice Ay ys.length cy), hr.keep kp, h.got.keep kp, h.bel.setCell (p := ⟨x, 0, none⟩) (show w.heap.size ≤ x by omega) _, h.ord⟩
theorem L7St.facts (h : L7St w wr g f v x A n k Ag rl cg c1 i1 cd ix Ax cx xs) : wr.cell? ⟨v, 0, none⟩ = some (.int .i64 cd) ∧ wr.cell? ⟨v, 1, none⟩ = some (.int .i64 ix) ∧ wr.frozen? ⟨v, 0, none⟩ = false ∧ wr.frozen? ⟨v, 1, none⟩ = false ∧ wr.cell? ⟨x, 0, none⟩ = some (.slice Ax xs.length cx) ∧ wr.frozen? ⟨x, 0, none⟩ = false ∧ v < wr.heap.size ∧ x < wr.heap.size :=
  ⟨(h.bv.cell 0).trans rfl, (h.bv.cell 1).trans rfl, h.bv.frozen 0, h.bv.frozen 1, (h.bs.cell 0).trans rfl, h.bs.frozen 0, h.bv.lt, h.bs.lt⟩
theorem L7St.facts2 (h : L7St w wr g f v x A n k Ag rl cg c1 i1 cd ix Ax cx xs) : wr.cell? ⟨f, 0, none⟩ = some (.int .i64 c1) ∧ wr.cell? ⟨f, 1, none⟩ = some (.int .i64 i1) ∧ wr.cell? ⟨g, 0, none⟩ = some (.slice Ag rl.length cg) ∧ g < wr.heap.size ∧ f < wr.heap.size :=
  ⟨(h.bf.cell 0).trans rfl, (h.bf.cell 1).trans rfl, (h.bg.cell 0).trans rfl, h.bg.lt, h.bf.lt⟩
/-- The loop's beginning. -/
theorem L7St.of {w3 : World} (bx : Blk w3 w.heap.size 26 #[.slice A n k]) (bg : Blk w3 g 26 #[.slice Ag rl.length cg]) (bf : Blk w3 f 30 #[.int .i64 c1, .int .i64 i1]) (hb : Below w.heap.size w w3) (Vx : SA w3 Free Ax (rsV xs)) (Vg : SA w3 Free Ag (rsV rl)) (h1 : w.heap.size < g) (h2 : g < f)
    (wL : World) (hL : Below w3.heap.size w3 wL) (hv : w3.heap.size ≤ v) (hx : v < x) (bv : Blk wL v 30 #[.int .i64 cd, .int .i64 ix]) (bs : Blk wL x 26 #[.slice Ax xs.length cx]) : L7St w wL g f v x A n k Ag rl cg c1 i1 cd ix Ax cx xs :=
  ⟨bx.below hL bx.lt, bg.below hL bg.lt, bf.below hL bf.lt, bv, bs, Vx.keep (Keeps.below hL fun b hb hX => by unfold Two at hX; omega), Vg.keep (Keeps.below hL fun b hb hX => by unfold Two at hX; omega), hb.trans (hL.mono hb.size), h1, h2, by have := bf.lt; omega, hx⟩
end
set_option maxRecDepth 100000 in
set_option maxHeartbeats 64000000 in
theorem law7_any (w : World) (hm : Mx w) (A : Option Addr) (k : Nat) (s : List Rf.R) (hv : SA w Free A (rsV s)) (hl : s.length * 24 ≤ 140737488351232) (hk : s.length ≤ k)
    (A2 : Option Addr) (k2 : Nat) (l : List Rf.U) (hv2 : SA w Free A2 (usV l)) (hl2 : l.length * 32 ≤ 140737488351232) :
    Calls Tryd.prog 7 #[.agg #[.slice A s.length k], .slice A2 l.length k2] w fun e w' => e = .returned (.bool true) ∧ Below w.heap.size w w' := by
  have hM := Lib.hid hm
  have V0 := Lib.hid hv
  have HV2 := Lib.hid (fun (w1 : World) (hb : Below w.heap.size w w1) => hv2.keep (free_below hb))
  have HBF := Lib.hid (Rf.btF.eq_1 s l)
  have H25 := Lib.hid (fun (w1 : World) (hm : Mx w1) (hv : SA w1 Free A (rsV s)) (hv2 : SA w1 Free A2 (usV l)) => batch_any w1 hm A k s hv (by omega) hk A2 k2 l hv2)
  have H19 := Lib.hid (fun (w1 : World) (hv : SA w1 Free A (rsV s)) => refsFault_any w1 A k s hv (by omega))
  have H20 := Lib.hid (fun (xs : List Rf.R) (u : Rf.U) (hok : Rf.Ok xs) (w1 : World) (Ax : Option Addr) (cx : Nat) (hv : SA w1 Free Ax (rsV xs)) => updateCode_any w1 Ax cx xs u hv (by have := hok.len; omega) (Rf.ok_names hok))
  have H23 := Lib.hid (fun (xs : List Rf.R) (u : Rf.U) (hok : Rf.Ok xs) (w1 : World) (Ax : Option Addr) (cx : Nat) (hv : SA w1 Free Ax (rsV xs)) => by
    have := updateRefs_any w1 Ax cx xs u hv (by have := hok.len; omega)
    rw [Rf.upR_eq hok.srt u] at this
    exact this)
  clear hm hv hv2
  generalize hr : Rf.btF s l = r at *
  clear hr
  have HB0 := Lib.hid (Below.refl w.heap.size w)
  go_enter Tryd.func7, Tryd.ntmps7
  have bx := Blk.new w 26 #[.slice A s.length k]
  have HBa1 := Lib.hid (HB0.out.alloc HB0.out.size (.cells #[.slice A s.length k] 26))
  replace hM := Lib.hid (hM.out.below (below_alloc1 w (.cells #[.slice A s.length k] 26)))
  replace V0 := Lib.hid (V0.out.keep (Keeps.alloc w _ (.cells #[.slice A s.length k] 26)))
  go_wp2_with fail
  go_at_call 15
  refine (example_any _ hM.out).mono ?_
  rintro e w1 ⟨rfl, hb1'⟩
  have HBm1 := Lib.hid (HBa1.out.trans (hb1'.mono HBa1.out.size))
  replace bx := bx.below hb1' bx.lt
  replace hM := Lib.hid (hM.out.below hb1')
  replace V0 := Lib.hid (V0.out.keep (free_below hb1'))
  have bx_l : w.heap.size < w1.heap.size := bx.lt
  have bx_l1 : w.heap.size < w1.heap.size + 1 := Nat.lt_succ_of_lt bx_l
  have bx_l2 : w.heap.size < w1.heap.size + 1 + 1 := Nat.lt_succ_of_lt bx_l1
  have bx_0 : w1.cell? ⟨w.heap.size, 0, none⟩ = some (.slice A s.length k) := (bx.cell 0).trans rfl
  clear hb1'
  go_wp2_with fail
  go_at_call 25
  refine (H25.out _ hM.out V0.out (HV2.out _ HBm1.out)).mono ?_
  rintro e w2 ⟨Ag, cg, rfl, hcg, hsg, hb2'⟩
  have HBm2 := Lib.hid (HBm1.out.trans (hb2'.mono HBm1.out.size))
  replace bx := bx.below hb2' bx.lt
  replace hM := Lib.hid (hM.out.below hb2')
  replace V0 := Lib.hid (V0.out.keep (free_below hb2'))
  clear bx_l bx_l1 bx_l2 bx_0
  have bx_l : w.heap.size < w2.heap.size := bx.lt
  have bx_l1 : w.heap.size < w2.heap.size + 1 := Nat.lt_succ_of_lt bx_l
  have bx_l2 : w.heap.size < w2.heap.size + 1 + 1 := Nat.lt_succ_of_lt bx_l1
  have bx_0 : w2.cell? ⟨w.heap.size, 0, none⟩ = some (.slice A s.length k) := (bx.cell 0).trans rfl
  have Vg := Lib.hid (hsg.mono (X' := Free) (fun _ h => h.elim))
  clear hsg
  clear hb2'
  obtain ⟨rl, c1, i1⟩ := r
  simp only at *
  have hw2 : w.heap.size < w2.heap.size := bx_l
  replace bx := bx.alloc (.cells #[.slice Ag rl.length cg] 26)
  have g := Blk.new w2 26 #[.slice Ag rl.length cg]
  have HBa2 := Lib.hid (HBm2.out.alloc HBm2.out.size (.cells #[.slice Ag rl.length cg] 26))
  replace hM := Lib.hid (hM.out.below (below_alloc1 w2 (.cells #[.slice Ag rl.length cg] 26)))
  replace V0 := Lib.hid (V0.out.keep (Keeps.alloc w2 _ (.cells #[.slice Ag rl.length cg] 26)))
  replace Vg := Lib.hid (Vg.out.keep (Keeps.alloc w2 _ (.cells #[.slice Ag rl.length cg] 26)))
  replace bx := bx.alloc (.cells #[.int .i64 c1, .int .i64 i1] 30)
  replace g := g.alloc (.cells #[.int .i64 c1, .int .i64 i1] 30)
  have f : Blk ((w2.alloc (.cells #[.slice Ag rl.length cg] 26)).alloc (.cells #[.int .i64 c1, .int .i64 i1] 30)) (w2.heap.size + 1) 30 #[.int .i64 c1, .int .i64 i1] := by simpa using Blk.new (w2.alloc (.cells #[.slice Ag rl.length cg] 26)) 30 #[.int .i64 c1, .int .i64 i1]
  have HBa3 := Lib.hid (HBa2.out.alloc HBa2.out.size (.cells #[.int .i64 c1, .int .i64 i1] 30))
  replace hM := Lib.hid (hM.out.below (below_alloc1 (w2.alloc (.cells #[.slice Ag rl.length cg] 26)) (.cells #[.int .i64 c1, .int .i64 i1] 30)))
  replace V0 := Lib.hid (V0.out.keep (Keeps.alloc (w2.alloc (.cells #[.slice Ag rl.length cg] 26)) _ (.cells #[.int .i64 c1, .int .i64 i1] 30)))
  replace Vg := Lib.hid (Vg.out.keep (Keeps.alloc (w2.alloc (.cells #[.slice Ag rl.length cg] 26)) _ (.cells #[.int .i64 c1, .int .i64 i1] 30)))
  go_wp2_with fail
  go_at_call 19
  refine (H19.out _ V0.out).mono ?_
  rintro e w3 ⟨rfl, hb3'⟩
  have HBm3 := Lib.hid (HBa3.out.trans (hb3'.mono HBa3.out.size))
  replace bx := bx.below hb3' bx.lt
  replace g := g.below hb3' g.lt
  replace f := f.below hb3' f.lt
  replace hM := Lib.hid (hM.out.below hb3')
  replace V0 := Lib.hid (V0.out.keep (free_below hb3'))
  replace Vg := Lib.hid (Vg.out.keep (free_below hb3'))
  clear bx_l bx_l1 bx_l2 bx_0
  have bx_l : w.heap.size < w3.heap.size := bx.lt
  have bx_l1 : w.heap.size < w3.heap.size + 1 := Nat.lt_succ_of_lt bx_l
  have bx_l2 : w.heap.size < w3.heap.size + 1 + 1 := Nat.lt_succ_of_lt bx_l1
  have bx_0 : w3.cell? ⟨w.heap.size, 0, none⟩ = some (.slice A s.length k) := (bx.cell 0).trans rfl
  have g_l : w2.heap.size < w3.heap.size := g.lt
  have g_l1 : w2.heap.size < w3.heap.size + 1 := Nat.lt_succ_of_lt g_l
  have g_l2 : w2.heap.size < w3.heap.size + 1 + 1 := Nat.lt_succ_of_lt g_l1
  have g_0 : w3.cell? ⟨w2.heap.size, 0, none⟩ = some (.slice Ag rl.length cg) := (g.cell 0).trans rfl
  have f_l : w2.heap.size + 1 < w3.heap.size := f.lt
  have f_l1 : w2.heap.size + 1 < w3.heap.size + 1 := Nat.lt_succ_of_lt f_l
  have f_l2 : w2.heap.size + 1 < w3.heap.size + 1 + 1 := Nat.lt_succ_of_lt f_l1
  have f_0 : w3.cell? ⟨w2.heap.size + 1, 0, none⟩ = some (.int .i64 c1) := (f.cell 0).trans rfl
  have f_1 : w3.cell? ⟨w2.heap.size + 1, 1, none⟩ = some (.int .i64 i1) := (f.cell 1).trans rfl
  clear hb3'
  have HOF := Lib.hid (fun (v x : Nat) (cd ix : Int) (wL : World) (h1 : Below w3.heap.size w3 wL) (h2 : w3.heap.size ≤ v) (h3 : v < x) (b1 : Blk wL v 30 #[.int .i64 cd, .int .i64 ix]) (b2 : Blk wL x 26 #[.slice A s.length k]) => L7St.of (cx := k) bx g f HBm3.out V0.out Vg.out (by have := HBm1.out.size; have := HBm2.out.size; omega) (Nat.lt_succ_self _) wL h1 h2 h3 b1 b2)
  clear H25 H19 V0 Vg
  by_cases hbad : (Rf.rfF s).1 ≠ 0
  · have HP : Hid (Rf.B7 (rl, (c1, i1)) l 0 (Rf.rfF s).1 (Rf.rfF s).2 s) := Lib.hid (.inr ⟨hbad, by rw [HBF.out, if_pos hbad]⟩)
    have hx1 : ((Rf.rfF s).1 == 0) = false := by simpa using hbad
    clear hbad HBF
    generalize Rf.rfF s = q at *
    obtain ⟨cd, ix⟩ := q
    simp only at *
    have st0 := HOF.out w3.heap.size (w3.heap.size + 1) cd ix _ (below_alloc2 _ _ _) (Nat.le_refl _) (Nat.lt_succ_self _) ((Blk.new _ _ _).alloc _) (blk_new1 _ (.cells #[.int .i64 cd, .int .i64 ix] 30) 26 #[.slice A s.length k])
    clear HOF
    go_wp2_with fail
    obtain ⟨v, hv0⟩ : ∃ v, v = w3.heap.size := ⟨_, rfl⟩
    obtain ⟨g0, hg0⟩ : ∃ g0, g0 = w2.heap.size := ⟨_, rfl⟩
    simp only [← hv0, ← hg0] at *
    go_loopw [9] (fun iv wr => ∃ i : Nat, i ≤ l.length ∧ iv = .int .i64 i ∧ ∃ cd ix Ax cx xs, L7St w wr g0 (g0 + 1) v (v + 1) A s.length k Ag rl cg c1 i1 cd ix Ax cx xs ∧ Hid (Rf.B7 (rl, (c1, i1)) l i cd ix xs)) (fun iv _ => l.length - (intOf iv).toNat)
    case atStart => exact ⟨0, Nat.zero_le _, rfl, cd, ix, A, k, s, st0, HP⟩
    case round =>
      obtain ⟨i, hi, rfl, cd, ix, Ax, cx, xs, st, HB⟩ := hrel
      obtain ⟨wo, rfl⟩ : ∃ wo : World, wo = wr := ⟨_, rfl⟩
      obtain ⟨p0, p1, p2, p3, p4, p5, l0, l1⟩ := st.facts
      by_cases hcd : cd ≠ 0
      · have hx1 : (cd == 0) = false := by simpa using hcd
        have hx2 : (cd != 0) = true := by simpa using hcd
        have hE := HB.out.bad hcd
        obtain ⟨q0, q1, q2, l2, l3⟩ := st.facts2
        obtain ⟨rfl, hE2⟩ : rl = [] ∧ (c1, i1) = (cd, ix) := by simpa using hE
        obtain ⟨rfl, rfl⟩ : c1 = cd ∧ i1 = ix := by simpa using hE2
        have hbf := Lib.hid st.bel
        have hcc : (c1 == c1) = true := by simp
        have hii : (i1 == i1) = true := by simp
        clear st HB hE hE2 hcd
        by_cases hlt : i < l.length
        · have hlt' : (i : Int) < l.length := by omega
          have hltb : decide ((i : Int) < l.length) = true := by simp; omega
          go_wp2_with fail
          go_ret
          exact ⟨by simp, hbf.out⟩
        · obtain rfl : i = l.length := by omega
          go_wp2_with fail
          go_ret
          exact ⟨by simp, hbf.out⟩
      obtain rfl : cd = 0 := by simpa using hcd
      clear hcd
      by_cases hlt : i < l.length
      · have hlt' : (i : Int) < l.length := by omega
        have hltb : decide ((i : Int) < l.length) = true := by simp; omega
        obtain ⟨hok, rfl, hb1, hb2⟩ := HB.out.step hlt
        have HS1 := Lib.hid hb1
        have HS2 := Lib.hid hb2
        clear hb1 hb2 HB
        obtain ⟨b, off, e, hb, _, d0, d1, d2⟩ := usV_row (HV2.out _ st.bel) i hlt
        subst e
        have HUV := Lib.hid (fun (w1 : World) (h1 : Below wo.heap.size wo w1) => show b < w1.heap.size ∧ w1.cell? ⟨b, off + i * 3, none⟩ = some (strV l[i].name) ∧ w1.cell? ⟨b, off + i * 3 + 1, none⟩ = some (.int .i64 l[i].old) ∧ w1.cell? ⟨b, off + i * 3 + 2, none⟩ = some (.int .i64 l[i].new) from ⟨Nat.lt_of_lt_of_le hb h1.size, (h1.cell (p := ⟨b, _, none⟩) hb).trans d0, (h1.cell (p := ⟨b, _, none⟩) hb).trans d1, (h1.cell (p := ⟨b, _, none⟩) hb).trans d2⟩)
        have HC20 := Lib.hid (H20.out xs l[i] hok)
        have HC23 := Lib.hid (H23.out xs l[i] hok)
        clear hok
        generalize l[i] = u at *
        obtain ⟨un, uo, uw⟩ := u
        simp only at d0 d1 d2
        have hd1 := below_drew' (Below.refl wo.heap.size wo)
        have std := st.below hd1
        go_wp2_with fail
        go_still_tail 5, (by kernel_rfl)
        change wpList _ _ _ _ _ wo.drew
        go_wp2_with fail
        go_at_call 20
        refine (HC20.out wo.drew _ _ (std.row.mono (fun _ h => h.elim))).mono ?_
        rintro e w5 ⟨rfl, hb5⟩
        have st5 := std.below hb5
        have hud := hd1.trans (hb5.mono hd1.size)
        clear HC20 std hb5 st p0 p1 p2 p3 p4 p5 l0 l1 d0 d1 d2 hb
        obtain ⟨p0, p1, p2, p3, p4, p5, l0, l1⟩ := st5.facts
        obtain ⟨hb, d0, d1, d2⟩ := HUV.out _ hud
        by_cases hc : Rf.upC xs ⟨un, uo, uw⟩ = 0
        · have HE := Lib.hid (HS2.out hc)
          rw [hc]
          clear HS1 HS2 hc
          have hd5 := below_drew' (Below.refl w5.heap.size w5)
          have std := st5.below hd5
          go_wp2_with fail
          go_still_tail 5, (by kernel_rfl)
          change wpList _ _ _ _ _ w5.drew
          go_wp2_with fail
          go_at_call 23
          refine (HC23.out w5.drew _ _ (std.row.mono (fun _ h => h.elim))).mono ?_
          rintro e w6 ⟨Ay, cy, rfl, hown, hb6⟩
          have st6 := std.below hb6
          have st7 := st6.sets (Ay := Ay) (cy := cy) (SA.of_own' hown (fun b' hb' hX => by have h1 : w5.heap.size ≤ b' := (hown.lt b' hb').1; have h2 := l0; have h3 := l1; unfold Two at hX; omega))
          clear std p0 p1 p2 p3 p4 p5 l0 l1 d0 d1 d2 hb
          obtain ⟨p0, p1, p2, p3, p4, p5, l0, l1⟩ := st6.facts
          clear st6 hown hb6
          go_wp2_with fail
          go_roundw
          case rel => exact ⟨i + 1, by omega, by go_num, 0, 0, Ay, cy, _, st7, HE⟩
          case measure => simp [intOf]; omega
        · have HE := Lib.hid (HS1.out hc)
          have hc1 : (Rf.upC xs ⟨un, uo, uw⟩ != 0) = true := by simpa using hc
          have hc2 : (Rf.upC xs ⟨un, uo, uw⟩ == 0) = false := by simpa using hc
          clear HS1 HS2 hc HC23
          generalize Rf.upC xs ⟨un, uo, uw⟩ = cc at *
          go_wp2_with fail
          go_at_call 21
          refine (fault_b _ _ _).mono ?_
          rintro e w6 ⟨rfl, hb6⟩
          have st6 := st5.below hb6
          have st7 := st6.setv cc i
          clear p0 p1 p2 p3 p4 p5 l0 l1 d0 d1 d2 hb
          obtain ⟨p0, p1, p2, p3, p4, p5, l0, l1⟩ := st6.facts
          clear st6 st5 hb6
          go_wp2_with fail
          go_roundw
          case rel => exact ⟨i + 1, by omega, by go_num, cc, i, Ax, cx, xs, st7, HE⟩
          case measure => simp [intOf]; omega
      · obtain rfl : i = l.length := by omega
        obtain ⟨hok, hE⟩ := HB.out.end_
        have hlen := hok.len
        obtain ⟨q0, q1, q2, l2, l3⟩ := st.facts2
        obtain ⟨rfl, hE2⟩ : rl = xs ∧ (c1, i1) = (0, 0) := by simpa using hE
        obtain ⟨rfl, rfl⟩ : c1 = 0 ∧ i1 = 0 := by simpa using hE2
        clear hE hE2 hok HB
        have hbf := Lib.hid st.bel
        have HST := Lib.hid (refStores_any wo Ag Ax cg cx rl rl (st.got.mono (fun _ h => h.elim)) (st.row.mono (fun _ h => h.elim)) (by omega) (by omega))
        clear st hlen
        go_wp2_with fail
        go_at_call 22
        refine HST.out.mono ?_
        rintro e w9 ⟨rfl, hb9⟩
        go_wp2_with fail
        go_ret
        exact ⟨by simp, hbf.out.trans (hb9.mono hbf.out.size)⟩
  · obtain ⟨hz, hok⟩ := Rf.rfF_ok (by simpa using hbad)
    have HP2 := Lib.hid (HBF.out.trans (if_neg hbad))
    rw [hz]
    clear hbad hz HBF
    by_cases h30 : 30 < l.length
    · have HP : Hid (Rf.B7 (rl, (c1, i1)) l 0 2 (-2) s) := Lib.hid (.inr ⟨by decide, by rw [HP2.out, if_pos h30]⟩)
      have h30' : (30 : Int) < l.length := by omega
      clear h30 hok HP2
      have v := Blk.new w3 30 #[.int .i64 0, .int .i64 0]
      have v_l := v.lt
      have v_0 := (v.cell 0).trans rfl
      have HA := Lib.hid (below_alloc1 w3 (.cells #[.int .i64 0, .int .i64 0] 30))
      go_wp2_with fail
      go_at_call 21
      refine (fault_b _ _ _).mono ?_
      rintro e w4 ⟨rfl, hb4⟩
      have vw := v.below hb4 v.lt
      have vl := vw.lt
      have f0 := vw.frozen 0
      have f1 := vw.frozen 1
      have v0 := (vw.cell 0).trans rfl
      have v1 := (vw.cell 1).trans rfl
      have hs4 : w3.heap.size + 1 ≤ w4.heap.size := by simpa using hb4.size
      have HB4 := Lib.hid (HA.out.trans (hb4.mono HA.out.size))
      have st0 := HOF.out w3.heap.size w4.heap.size 2 (-2) (((w4.setCell ⟨w3.heap.size, 0, none⟩ (.int .i64 2)).setCell ⟨w3.heap.size, 1, none⟩ (.int .i64 (-2))).alloc (.cells #[.slice A s.length k] 26)) ((((HB4.out.setCell (p := ⟨w3.heap.size, 0, none⟩) (Nat.le_refl _) _).setCell (p := ⟨w3.heap.size, 1, none⟩) (Nat.le_refl _) _)).alloc (by simp [World.setCell]; omega) _) (Nat.le_refl _) (by omega) ((blk_put2 vw _ _).alloc _) (by simpa [World.setCell] using Blk.new ((w4.setCell ⟨w3.heap.size, 0, none⟩ (.int .i64 2)).setCell ⟨w3.heap.size, 1, none⟩ (.int .i64 (-2))) 26 #[.slice A s.length k])
      clear HOF
      replace bx := bx.below HB4.out bx.lt
      have bx_0 : w4.cell? ⟨w.heap.size, 0, none⟩ = some (.slice A s.length k) := (bx.cell 0).trans rfl
      have bx_l : w.heap.size < w4.heap.size := bx.lt
      have bxne : ¬ (w.heap.size = w3.heap.size) := by omega
      have bxne2 : ¬ (w3.heap.size = w.heap.size) := by omega
      clear hb4 HB4 HA v vw v_l v_0
      go_wp2_with fail
      obtain ⟨v, hv0⟩ : ∃ v, v = w3.heap.size := ⟨_, rfl⟩
      obtain ⟨g0, hg0⟩ : ∃ g0, g0 = w2.heap.size := ⟨_, rfl⟩
      simp only [← hv0, ← hg0] at *
      obtain ⟨x, hx0⟩ : ∃ x, x = w4.heap.size := ⟨_, rfl⟩
      simp only [← hx0] at *
      go_loopw [9] (fun iv wr => ∃ i : Nat, i ≤ l.length ∧ iv = .int .i64 i ∧ ∃ cd ix Ax cx xs, L7St w wr g0 (g0 + 1) v x A s.length k Ag rl cg c1 i1 cd ix Ax cx xs ∧ Hid (Rf.B7 (rl, (c1, i1)) l i cd ix xs)) (fun iv _ => l.length - (intOf iv).toNat)
      case atStart => exact ⟨0, Nat.zero_le _, rfl, 2, (-2), A, k, s, st0, HP⟩
      case round =>
        obtain ⟨i, hi, rfl, cd, ix, Ax, cx, xs, st, HB⟩ := hrel
        obtain ⟨wo, rfl⟩ : ∃ wo : World, wo = wr := ⟨_, rfl⟩
        obtain ⟨p0, p1, p2, p3, p4, p5, l0, l1⟩ := st.facts
        by_cases hcd : cd ≠ 0
        · have hx1 : (cd == 0) = false := by simpa using hcd
          have hx2 : (cd != 0) = true := by simpa using hcd
          have hE := HB.out.bad hcd
          obtain ⟨q0, q1, q2, l2, l3⟩ := st.facts2
          obtain ⟨rfl, hE2⟩ : rl = [] ∧ (c1, i1) = (cd, ix) := by simpa using hE
          obtain ⟨rfl, rfl⟩ : c1 = cd ∧ i1 = ix := by simpa using hE2
          have hbf := Lib.hid st.bel
          have hcc : (c1 == c1) = true := by simp
          have hii : (i1 == i1) = true := by simp
          clear st HB hE hE2 hcd
          by_cases hlt : i < l.length
          · have hlt' : (i : Int) < l.length := by omega
            have hltb : decide ((i : Int) < l.length) = true := by simp; omega
            go_wp2_with fail
            go_ret
            exact ⟨by simp, hbf.out⟩
          · obtain rfl : i = l.length := by omega
            go_wp2_with fail
            go_ret
            exact ⟨by simp, hbf.out⟩
        obtain rfl : cd = 0 := by simpa using hcd
        clear hcd
        by_cases hlt : i < l.length
        · have hlt' : (i : Int) < l.length := by omega
          have hltb : decide ((i : Int) < l.length) = true := by simp; omega
          obtain ⟨hok, rfl, hb1, hb2⟩ := HB.out.step hlt
          have HS1 := Lib.hid hb1
          have HS2 := Lib.hid hb2
          clear hb1 hb2 HB
          obtain ⟨b, off, e, hb, _, d0, d1, d2⟩ := usV_row (HV2.out _ st.bel) i hlt
          subst e
          have HUV := Lib.hid (fun (w1 : World) (h1 : Below wo.heap.size wo w1) => show b < w1.heap.size ∧ w1.cell? ⟨b, off + i * 3, none⟩ = some (strV l[i].name) ∧ w1.cell? ⟨b, off + i * 3 + 1, none⟩ = some (.int .i64 l[i].old) ∧ w1.cell? ⟨b, off + i * 3 + 2, none⟩ = some (.int .i64 l[i].new) from ⟨Nat.lt_of_lt_of_le hb h1.size, (h1.cell (p := ⟨b, _, none⟩) hb).trans d0, (h1.cell (p := ⟨b, _, none⟩) hb).trans d1, (h1.cell (p := ⟨b, _, none⟩) hb).trans d2⟩)
          have HC20 := Lib.hid (H20.out xs l[i] hok)
          have HC23 := Lib.hid (H23.out xs l[i] hok)
          clear hok
          generalize l[i] = u at *
          obtain ⟨un, uo, uw⟩ := u
          simp only at d0 d1 d2
          have hd1 := below_drew' (Below.refl wo.heap.size wo)
          have std := st.below hd1
          go_wp2_with fail
          go_still_tail 5, (by kernel_rfl)
          change wpList _ _ _ _ _ wo.drew
          go_wp2_with fail
          go_at_call 20
          refine (HC20.out wo.drew _ _ (std.row.mono (fun _ h => h.elim))).mono ?_
          rintro e w5 ⟨rfl, hb5⟩
          have st5 := std.below hb5
          have hud := hd1.trans (hb5.mono hd1.size)
          clear HC20 std hb5 st p0 p1 p2 p3 p4 p5 l0 l1 d0 d1 d2 hb
          obtain ⟨p0, p1, p2, p3, p4, p5, l0, l1⟩ := st5.facts
          obtain ⟨hb, d0, d1, d2⟩ := HUV.out _ hud
          by_cases hc : Rf.upC xs ⟨un, uo, uw⟩ = 0
          · have HE := Lib.hid (HS2.out hc)
            rw [hc]
            clear HS1 HS2 hc
            have hd5 := below_drew' (Below.refl w5.heap.size w5)
            have std := st5.below hd5
            go_wp2_with fail
            go_still_tail 5, (by kernel_rfl)
            change wpList _ _ _ _ _ w5.drew
            go_wp2_with fail
            go_at_call 23
            refine (HC23.out w5.drew _ _ (std.row.mono (fun _ h => h.elim))).mono ?_
            rintro e w6 ⟨Ay, cy, rfl, hown, hb6⟩
            have st6 := std.below hb6
            have st7 := st6.sets (Ay := Ay) (cy := cy) (SA.of_own' hown (fun b' hb' hX => by have h1 : w5.heap.size ≤ b' := (hown.lt b' hb').1; have h2 := l0; have h3 := l1; unfold Two at hX; omega))
            clear std p0 p1 p2 p3 p4 p5 l0 l1 d0 d1 d2 hb
            obtain ⟨p0, p1, p2, p3, p4, p5, l0, l1⟩ := st6.facts
            clear st6 hown hb6
            go_wp2_with fail
            go_roundw
            case rel => exact ⟨i + 1, by omega, by go_num, 0, 0, Ay, cy, _, st7, HE⟩
            case measure => simp [intOf]; omega
          · have HE := Lib.hid (HS1.out hc)
            have hc1 : (Rf.upC xs ⟨un, uo, uw⟩ != 0) = true := by simpa using hc
            have hc2 : (Rf.upC xs ⟨un, uo, uw⟩ == 0) = false := by simpa using hc
            clear HS1 HS2 hc HC23
            generalize Rf.upC xs ⟨un, uo, uw⟩ = cc at *
            go_wp2_with fail
            go_at_call 21
            refine (fault_b _ _ _).mono ?_
            rintro e w6 ⟨rfl, hb6⟩
            have st6 := st5.below hb6
            have st7 := st6.setv cc i
            clear p0 p1 p2 p3 p4 p5 l0 l1 d0 d1 d2 hb
            obtain ⟨p0, p1, p2, p3, p4, p5, l0, l1⟩ := st6.facts
            clear st6 st5 hb6
            go_wp2_with fail
            go_roundw
            case rel => exact ⟨i + 1, by omega, by go_num, cc, i, Ax, cx, xs, st7, HE⟩
            case measure => simp [intOf]; omega
        · obtain rfl : i = l.length := by omega
          obtain ⟨hok, hE⟩ := HB.out.end_
          have hlen := hok.len
          obtain ⟨q0, q1, q2, l2, l3⟩ := st.facts2
          obtain ⟨rfl, hE2⟩ : rl = xs ∧ (c1, i1) = (0, 0) := by simpa using hE
          obtain ⟨rfl, rfl⟩ : c1 = 0 ∧ i1 = 0 := by simpa using hE2
          clear hE hE2 hok HB
          have hbf := Lib.hid st.bel
          have HST := Lib.hid (refStores_any wo Ag Ax cg cx rl rl (st.got.mono (fun _ h => h.elim)) (st.row.mono (fun _ h => h.elim)) (by omega) (by omega))
          clear st hlen
          go_wp2_with fail
          go_at_call 22
          refine HST.out.mono ?_
          rintro e w9 ⟨rfl, hb9⟩
          go_wp2_with fail
          go_ret
          exact ⟨by simp, hbf.out.trans (hb9.mono hbf.out.size)⟩
    · have HP : Hid (Rf.B7 (rl, (c1, i1)) l 0 0 0 s) := Lib.hid (.inl ⟨rfl, rfl, hok, by rw [HP2.out, if_neg h30]; rfl⟩)
      have h30' : ¬ (30 : Int) < l.length := by omega
      clear h30 hok HP2
      have st0 := HOF.out w3.heap.size (w3.heap.size + 1) 0 0 _ (below_alloc2 _ _ _) (Nat.le_refl _) (Nat.lt_succ_self _) ((Blk.new _ _ _).alloc _) (blk_new1 _ (.cells #[.int .i64 0, .int .i64 0] 30) 26 #[.slice A s.length k])
      clear HOF
      go_wp2_with fail
      obtain ⟨v, hv0⟩ : ∃ v, v = w3.heap.size := ⟨_, rfl⟩
      obtain ⟨g0, hg0⟩ : ∃ g0, g0 = w2.heap.size := ⟨_, rfl⟩
      simp only [← hv0, ← hg0] at *
      go_loopw [9] (fun iv wr => ∃ i : Nat, i ≤ l.length ∧ iv = .int .i64 i ∧ ∃ cd ix Ax cx xs, L7St w wr g0 (g0 + 1) v (v + 1) A s.length k Ag rl cg c1 i1 cd ix Ax cx xs ∧ Hid (Rf.B7 (rl, (c1, i1)) l i cd ix xs)) (fun iv _ => l.length - (intOf iv).toNat)
      case atStart => exact ⟨0, Nat.zero_le _, rfl, 0, 0, A, k, s, st0, HP⟩
      case round =>
        obtain ⟨i, hi, rfl, cd, ix, Ax, cx, xs, st, HB⟩ := hrel
        obtain ⟨wo, rfl⟩ : ∃ wo : World, wo = wr := ⟨_, rfl⟩
        obtain ⟨p0, p1, p2, p3, p4, p5, l0, l1⟩ := st.facts
        by_cases hcd : cd ≠ 0
        · have hx1 : (cd == 0) = false := by simpa using hcd
          have hx2 : (cd != 0) = true := by simpa using hcd
          have hE := HB.out.bad hcd
          obtain ⟨q0, q1, q2, l2, l3⟩ := st.facts2
          obtain ⟨rfl, hE2⟩ : rl = [] ∧ (c1, i1) = (cd, ix) := by simpa using hE
          obtain ⟨rfl, rfl⟩ : c1 = cd ∧ i1 = ix := by simpa using hE2
          have hbf := Lib.hid st.bel
          have hcc : (c1 == c1) = true := by simp
          have hii : (i1 == i1) = true := by simp
          clear st HB hE hE2 hcd
          by_cases hlt : i < l.length
          · have hlt' : (i : Int) < l.length := by omega
            have hltb : decide ((i : Int) < l.length) = true := by simp; omega
            go_wp2_with fail
            go_ret
            exact ⟨by simp, hbf.out⟩
          · obtain rfl : i = l.length := by omega
            go_wp2_with fail
            go_ret
            exact ⟨by simp, hbf.out⟩
        obtain rfl : cd = 0 := by simpa using hcd
        clear hcd
        by_cases hlt : i < l.length
        · have hlt' : (i : Int) < l.length := by omega
          have hltb : decide ((i : Int) < l.length) = true := by simp; omega
          obtain ⟨hok, rfl, hb1, hb2⟩ := HB.out.step hlt
          have HS1 := Lib.hid hb1
          have HS2 := Lib.hid hb2
          clear hb1 hb2 HB
          obtain ⟨b, off, e, hb, _, d0, d1, d2⟩ := usV_row (HV2.out _ st.bel) i hlt
          subst e
          have HUV := Lib.hid (fun (w1 : World) (h1 : Below wo.heap.size wo w1) => show b < w1.heap.size ∧ w1.cell? ⟨b, off + i * 3, none⟩ = some (strV l[i].name) ∧ w1.cell? ⟨b, off + i * 3 + 1, none⟩ = some (.int .i64 l[i].old) ∧ w1.cell? ⟨b, off + i * 3 + 2, none⟩ = some (.int .i64 l[i].new) from ⟨Nat.lt_of_lt_of_le hb h1.size, (h1.cell (p := ⟨b, _, none⟩) hb).trans d0, (h1.cell (p := ⟨b, _, none⟩) hb).trans d1, (h1.cell (p := ⟨b, _, none⟩) hb).trans d2⟩)
          have HC20 := Lib.hid (H20.out xs l[i] hok)
          have HC23 := Lib.hid (H23.out xs l[i] hok)
          clear hok
          generalize l[i] = u at *
          obtain ⟨un, uo, uw⟩ := u
          simp only at d0 d1 d2
          have hd1 := below_drew' (Below.refl wo.heap.size wo)
          have std := st.below hd1
          go_wp2_with fail
          go_still_tail 5, (by kernel_rfl)
          change wpList _ _ _ _ _ wo.drew
          go_wp2_with fail
          go_at_call 20
          refine (HC20.out wo.drew _ _ (std.row.mono (fun _ h => h.elim))).mono ?_
          rintro e w5 ⟨rfl, hb5⟩
          have st5 := std.below hb5
          have hud := hd1.trans (hb5.mono hd1.size)
          clear HC20 std hb5 st p0 p1 p2 p3 p4 p5 l0 l1 d0 d1 d2 hb
          obtain ⟨p0, p1, p2, p3, p4, p5, l0, l1⟩ := st5.facts
          obtain ⟨hb, d0, d1, d2⟩ := HUV.out _ hud
          by_cases hc : Rf.upC xs ⟨un, uo, uw⟩ = 0
          · have HE := Lib.hid (HS2.out hc)
            rw [hc]
            clear HS1 HS2 hc
            have hd5 := below_drew' (Below.refl w5.heap.size w5)
            have std := st5.below hd5
            go_wp2_with fail
            go_still_tail 5, (by kernel_rfl)
            change wpList _ _ _ _ _ w5.drew
            go_wp2_with fail
            go_at_call 23
            refine (HC23.out w5.drew _ _ (std.row.mono (fun _ h => h.elim))).mono ?_
            rintro e w6 ⟨Ay, cy, rfl, hown, hb6⟩
            have st6 := std.below hb6
            have st7 := st6.sets (Ay := Ay) (cy := cy) (SA.of_own' hown (fun b' hb' hX => by have h1 : w5.heap.size ≤ b' := (hown.lt b' hb').1; have h2 := l0; have h3 := l1; unfold Two at hX; omega))
            clear std p0 p1 p2 p3 p4 p5 l0 l1 d0 d1 d2 hb
            obtain ⟨p0, p1, p2, p3, p4, p5, l0, l1⟩ := st6.facts
            clear st6 hown hb6
            go_wp2_with fail
            go_roundw
            case rel => exact ⟨i + 1, by omega, by go_num, 0, 0, Ay, cy, _, st7, HE⟩
            case measure => simp [intOf]; omega
          · have HE := Lib.hid (HS1.out hc)
            have hc1 : (Rf.upC xs ⟨un, uo, uw⟩ != 0) = true := by simpa using hc
            have hc2 : (Rf.upC xs ⟨un, uo, uw⟩ == 0) = false := by simpa using hc
            clear HS1 HS2 hc HC23
            generalize Rf.upC xs ⟨un, uo, uw⟩ = cc at *
            go_wp2_with fail
            go_at_call 21
            refine (fault_b _ _ _).mono ?_
            rintro e w6 ⟨rfl, hb6⟩
            have st6 := st5.below hb6
            have st7 := st6.setv cc i
            clear p0 p1 p2 p3 p4 p5 l0 l1 d0 d1 d2 hb
            obtain ⟨p0, p1, p2, p3, p4, p5, l0, l1⟩ := st6.facts
            clear st6 st5 hb6
            go_wp2_with fail
            go_roundw
            case rel => exact ⟨i + 1, by omega, by go_num, cc, i, Ax, cx, xs, st7, HE⟩
            case measure => simp [intOf]; omega
        · obtain rfl : i = l.length := by omega
          obtain ⟨hok, hE⟩ := HB.out.end_
          have hlen := hok.len
          obtain ⟨q0, q1, q2, l2, l3⟩ := st.facts2
          obtain ⟨rfl, hE2⟩ : rl = xs ∧ (c1, i1) = (0, 0) := by simpa using hE
          obtain ⟨rfl, rfl⟩ : c1 = 0 ∧ i1 = 0 := by simpa using hE2
          clear hE hE2 hok HB
          have hbf := Lib.hid st.bel
          have HST := Lib.hid (refStores_any wo Ag Ax cg cx rl rl (st.got.mono (fun _ h => h.elim)) (st.row.mono (fun _ h => h.elim)) (by omega) (by omega))
          clear st hlen
          go_wp2_with fail
          go_at_call 22
          refine HST.out.mono ?_
          rintro e w9 ⟨rfl, hb9⟩
          go_wp2_with fail
          go_ret
          exact ⟨by simp, hbf.out.trans (hb9.mono hbf.out.size)⟩
end Go.Proofs.YtfbbgnhelannjaaDoor
