/-
  File trees: walk of the reference's 'WriteTree'.
  File trees: walk of the reference's 'TreePaths'.
-/
import Derived.Test.YtjljknocnebnaaaDoorG14
import Derived.Test.YtjljknocnebnaaaDoorG09
import Derived.Test.YtjljknocnebnaaaDoorG10
import Derived.Test.YtjljknocnebnaaaDoorG07
namespace Go.Proofs.YtjljknocnebnaaaDoor
open Go.RowKit Go.V Go.Shelf
set_option linter.unusedVariables false

/-- The boxes and results of 'WriteTree'. -/
structure WtB (w wr : World) (At : Option Addr) (n kt : Nat) (A : Option Addr) (k m : Nat) : Prop where
  bx : Blk wr w.heap.size 24 #[.slice A m k]
  bt : Blk wr (w.heap.size + 1) 27 #[.slice At n kt]
  r1 : Blk wr (w.heap.size + 2) 24 #[.slice none 0 0]
  r2 : Blk wr (w.heap.size + 3) 30 #[.int .i64 0, .int .i64 0]
  bel : Below w.heap.size w wr
/-- What 'WriteTree' may still change. -/
abbrev Wt4 (w : World) : Nat → Prop := fun b => w.heap.size ≤ b ∧ b ≤ w.heap.size + 3
section
variable {w wr w' : World} {At : Option Addr} {n kt : Nat} {A : Option Addr} {k m : Nat}
theorem WtB.below (h : WtB w wr At n kt A k m) (hb : Below wr.heap.size wr w') : WtB w w' At n kt A k m :=
  ⟨h.bx.below hb h.bx.lt, h.bt.below hb h.bt.lt, h.r1.below hb h.r1.lt, h.r2.below hb h.r2.lt, h.bel.trans (hb.mono h.bel.size)⟩
theorem WtB.facts (h : WtB w wr At n kt A k m) :
    wr.cell? ⟨w.heap.size, 0, none⟩ = some (.slice A m k) ∧ wr.cell? ⟨w.heap.size + 1, 0, none⟩ = some (.slice At n kt) ∧ wr.cell? ⟨w.heap.size + 2, 0, none⟩ = some (.slice none 0 0) ∧ wr.frozen? ⟨w.heap.size + 2, 0, none⟩ = false ∧
    wr.cell? ⟨w.heap.size + 3, 0, none⟩ = some (.int .i64 0) ∧ wr.cell? ⟨w.heap.size + 3, 1, none⟩ = some (.int .i64 0) ∧ wr.frozen? ⟨w.heap.size + 3, 0, none⟩ = false ∧ wr.frozen? ⟨w.heap.size + 3, 1, none⟩ = false ∧ wr.frozen? ⟨w.heap.size, 0, none⟩ = false ∧
    w.heap.size < wr.heap.size ∧ w.heap.size + 1 < wr.heap.size ∧ w.heap.size + 2 < wr.heap.size ∧ w.heap.size + 3 < wr.heap.size :=
  ⟨(h.bx.cell 0).trans rfl, (h.bt.cell 0).trans rfl, (h.r1.cell 0).trans rfl, h.r1.frozen 0, (h.r2.cell 0).trans rfl, (h.r2.cell 1).trans rfl, h.r2.frozen 0, h.r2.frozen 1, h.bx.frozen 0, h.bx.lt, h.bt.lt, h.r1.lt, h.r2.lt⟩
theorem WtB.setS (h : WtB w wr At n kt A k m) (A' : Option Addr) (k' m' : Nat) : WtB w (wr.setCell ⟨w.heap.size, 0, none⟩ (.slice A' m' k')) At n kt A' k' m' :=
  ⟨by simpa using h.bx.set_ 0 (.slice A' m' k'), h.bt.far (p := ⟨w.heap.size, 0, none⟩) (by simp) _, h.r1.far (p := ⟨w.heap.size, 0, none⟩) (by simp) _, h.r2.far (p := ⟨w.heap.size, 0, none⟩) (by simp) _, h.bel.setCell (p := ⟨w.heap.size, 0, none⟩) (Nat.le_refl _) _⟩
/-- A block that is not of them is written. -/
theorem WtB.far (h : WtB w wr At n kt A k m) {p : Addr} (hp : w.heap.size + 4 ≤ p.block) (u : Value) : WtB w (wr.setCell p u) At n kt A k m :=
  ⟨h.bx.far (by omega) _, h.bt.far (by omega) _, h.r1.far (by omega) _, h.r2.far (by omega) _, h.bel.setCell (by omega) _⟩
end
/-- What 'WriteTree' tells. -/
def WtPost (w : World) (q : (List Ob.S × Int) × (Int × Int)) (e : Ending) (w' : World) : Prop :=
  ∃ A c, e = .returned (.tuple #[stV A q.1.1.length c, .int .i64 q.1.2, .agg #[.int .i64 q.2.1, .int .i64 q.2.2]]) ∧ StV w' Free A q.1.1 ∧ Below w.heap.size w w'
theorem WtPost.no {w w' : World} {q : (List Ob.S × Int) × (Int × Int)} {c i : Int} (h : q = (([], 0), (c, i))) (hb : Below w.heap.size w w') : WtPost w q (.returned (.tuple #[.agg #[.slice none 0 0], .int .i64 0, .agg #[.int .i64 c, .int .i64 i]])) w' := by
  subst h; exact ⟨none, 0, rfl, ⟨[], SA.nil, rfl⟩, hb⟩
set_option maxRecDepth 100000 in
set_option maxHeartbeats 32000000 in
theorem writeTree_any (w : World) (hm : Mx w) (A : Option Addr) (k : Nat) (s : List Ob.S) (hv : StV w Free A s) (hl64 : s.length ≤ 9223372036854775807) (At : Option Addr) (kt : Nat) (t : List Tr.F) (hvt : VfV w Free At t) (hlt64 : t.length ≤ 9223372036854775807) (hkt : t.length ≤ kt) :
    Calls Tryd.prog 10 #[stV A s.length k, .agg #[.slice At t.length kt]] w (WtPost w (Tr.wrF s t)) := by
  have HV := Lib.hid (fun (w1 : World) (hb : Below w.heap.size w w1) => (hv.keep (Keeps.below hb (fun b h1 h2 => by have : w.heap.size ≤ b := h2.1; omega)) : StV w1 (Wt4 w) A s))
  have HT := Lib.hid (fun (w1 : World) (hb : Below w.heap.size w w1) => hvt.keep (free_below hb))
  have HC := Lib.hid (fun (w1 : World) (hb : Below w.heap.size w w1) => storeFault_any w1 A k s (hv.keep (free_below hb)) hl64)
  have HC2 := Lib.hid (fun (w1 : World) (hb : Below w.heap.size w w1) => tvalidate_any w1 (hm.below hb) At kt t (HT.out _ hb) hlt64 hkt)
  have HF1 := Lib.hid (Tr.wrF_st (s := s) (t := t))
  have HF2 := Lib.hid (Tr.wrF_vl (s := s) (t := t))
  have HF3 := Lib.hid (Tr.wrF_no (s := s) (t := t))
  have HF4 := Lib.hid (Tr.wrF_ok (s := s) (t := t))
  have HSZ := Lib.hid (fun (h : (Ob.stF s).1 = 0) => Ob.stF_ok h)
  have HTZ := Lib.hid (fun (h : (Tr.vlF t).1 = 0) => Tr.vlF_ok h)
  clear hv hvt hm
  generalize hr : Tr.wrF s t = r at *
  clear hr
  have st0 : WtB w ((((w.alloc (.cells #[.slice A s.length k] 24)).alloc (.cells #[.slice At t.length kt] 27)).alloc (.cells #[.slice none 0 0] 24)).alloc (.cells #[.int .i64 0, .int .i64 0] 30)) At t.length kt A k s.length :=
    ⟨(((Blk.new _ _ _).alloc _).alloc _).alloc _, ((blk_new1 _ _ _ _).alloc _).alloc _, (blk_new2 _ _ _ _ _).alloc _,
      (by simpa using Blk.new (((w.alloc (.cells #[.slice A s.length k] 24)).alloc (.cells #[.slice At t.length kt] 27)).alloc (.cells #[.slice none 0 0] 24)) 30 #[.int .i64 0, .int .i64 0]),
      (below_alloc3 _ _ _ _).alloc (by simp; omega) _⟩
  go_enter Tryd.func10, Tryd.ntmps10
  go_wp2_with fail
  go_at_call 23
  with_reducible refine (HC.out _ st0.bel).mono ?_
  rintro e w1 ⟨rfl, hb1⟩
  have st1 := st0.below hb1
  obtain ⟨p0, p1, p2, p3, p4, p5, p6, p7, p8, l0, l1, l2, l3⟩ := st1.facts
  clear hb1 HC st0
  by_cases hbad : (Ob.stF s).1 ≠ 0
  · have H := Lib.hid (HF1.out hbad)
    have hx1 : ((Ob.stF s).1 == 0) = false := by simpa using hbad
    have hx2 : ((Ob.stF s).1 != 0) = true := by simpa using hbad
    clear hbad HF1 HF2 HF3 HF4 HSZ HTZ HV HT HC2
    generalize Ob.stF s = q at *
    obtain ⟨cd, ix⟩ := q
    simp only at hx1 hx2
    have HR : Hid (∀ w', Below w.heap.size w w' → WtPost w r (.returned (.tuple #[.agg #[.slice none 0 0], .int .i64 0, .agg #[.int .i64 cd, .int .i64 ix]])) w') := Lib.hid fun w' hb => WtPost.no H.out hb
    clear H
    generalize WtPost w r = R at *
    go_wp2_with fail
    go_region
    all_goals
      go_wp2_with fail
      obtain ⟨k1, k2, k3⟩ := put12 st1.r1 st1.r2 (by omega) (.slice none 0 0) (.int .i64 cd) (.int .i64 ix)
      refine bodyPost_ret (results_24_t_28 rfl _ _ (w.heap.size + 2) (w.heap.size + 3) (.slice none 0 0) (.int .i64 cd) (.int .i64 ix) rfl rfl (k1.alloc _).drew (k2.alloc _).drew) rfl ?_
      exact HR.out _ (below_drew' ((k3 _ _ (by omega) (by omega) st1.bel).alloc (by simp [World.setCell]; omega) _))
  · obtain ⟨hz, hok⟩ := HSZ.out (by simpa using hbad)
    have hzero : (Ob.stF s).1 = 0 := by simpa using hbad
    have HF2 := Lib.hid (HF2.out hzero)
    have HF3 := Lib.hid (fun h2 c => HF3.out hzero (c := c) h2)
    have HF4 := Lib.hid (fun h2 x => HF4.out hzero (x := x) h2)
    rw [hz]
    have st2 := st1.below (below_alloc1 w1 (.cells #[.int .i64 0, .int .i64 0] 30))
    clear hz hbad hzero p0 p1 p2 p3 p4 p5 p6 p7 p8 HF1 HSZ
    obtain ⟨p0, p1, p2, p3, p4, p5, p6, p7, p8, m0, m1, m2, m3⟩ := st2.facts
    go_wp2_with fail
    go_at_call 24
    with_reducible refine (HC2.out _ st2.bel).mono ?_
    rintro e w2 ⟨rfl, hb2⟩
    have st3 := st2.below hb2
    clear p0 p1 p2 p3 p4 p5 p6 p7 p8 l0 l1 l2 l3 m0 m1 m2 m3 HC2 hb2 st2 st1
    obtain ⟨p0, p1, p2, p3, p4, p5, p6, p7, p8, l0, l1, l2, l3⟩ := st3.facts
    by_cases hbad : (Tr.vlF t).1 ≠ 0
    · have H := Lib.hid (HF2.out hbad)
      have hx1 : ((Tr.vlF t).1 == 0) = false := by simpa using hbad
      have hx2 : ((Tr.vlF t).1 != 0) = true := by simpa using hbad
      clear hbad HF2 HF3 HF4 HTZ HV HT
      generalize Tr.vlF t = q at *
      obtain ⟨cd, ix⟩ := q
      simp only at hx1 hx2 H
      have HR : Hid (∀ w', Below w.heap.size w w' → WtPost w r (.returned (.tuple #[.agg #[.slice none 0 0], .int .i64 0, .agg #[.int .i64 cd, .int .i64 (-1)]])) w') := Lib.hid fun w' hb => WtPost.no H.out hb
      clear H
      generalize WtPost w r = R at *
      go_wp2_with (go_at_call 25; refine (fault_any _ _ _).mono ?_; rintro e w99 ⟨rfl, rfl⟩)
      obtain ⟨k1, k2, k3⟩ := put12 st3.r1 st3.r2 (by omega) (.slice none 0 0) (.int .i64 cd) (.int .i64 (-1))
      refine bodyPost_ret (results_24_t_28 rfl _ _ (w.heap.size + 2) (w.heap.size + 3) (.slice none 0 0) (.int .i64 cd) (.int .i64 (-1)) rfl rfl ((k1.alloc _).alloc _) ((k2.alloc _).alloc _)) rfl ?_
      exact HR.out _ (((k3 _ _ (by omega) (by omega) st3.bel).alloc (by simp [World.setCell]; omega) _).alloc (by simp [World.setCell]; omega) _)
    · have hzero : (Tr.vlF t).1 = 0 := by simpa using hbad
      obtain ⟨hvz, hvok⟩ := HTZ.out hzero
      rw [hvz]
      have HF3 := Lib.hid (HF3.out hzero)
      have HF4 := Lib.hid (HF4.out hzero)
      have st4 := st3.below (below_alloc1 w2 (.cells #[.int .i64 0, .int .i64 0] 30))
      have HS0 := Lib.hid (And.intro st4 (HV.out _ st4.bel))
      have HLN := Lib.hid (fun i hi => Tr.lines_len (hvok.lines i hi))
      have HOA := Lib.hid (Tr.objs_at t)
      have HOE := Lib.hid (Tr.objs_end t)
      have HVOK := Lib.hid hvok
      have hlen := hvok.len
      clear hvz hvok hbad hzero HF2 HTZ st3
      obtain ⟨p0, p1, p2, p3, p4, p5, p6, p7, p8, m0, m1, m2, m3⟩ := st4.facts
      go_wp2_with fail
      obtain ⟨W5, hW5⟩ : ∃ W5 : World, W5 = w2.alloc (.cells #[.int .i64 0, .int .i64 0] 30) := ⟨_, rfl⟩
      rw [← hW5] at HS0 ⊢
      clear hW5 p0 p1 p2 p3 p4 p5 p6 p7 p8 m0 m1 m2 m3 l0 l1 l2 l3 st4
      go_loopw [10] (fun iv wr => ∃ (i : Nat) (A' : Option Addr) (k' : Nat) (s' : List Ob.S), i ≤ t.length + 1 ∧ iv = .int .i64 i ∧ WtB w wr At t.length kt A' k' s'.length ∧ StV wr (Wt4 w) A' s' ∧ Ob.StOk s' ∧ Hid (Tr.putAll s (Tr.objs t) = Tr.putAll s' ((Tr.objs t).drop i)) ∧ Hid (∀ j, j < i → j < t.length → Ob.Ok (Tr.blobO (Tr.it t j).lines)) ∧ Hid (t.length < i → Ob.Ok (Tr.treeO t))) (fun iv _ => t.length + 1 - (intOf iv).toNat)
      case atStart => exact ⟨0, A, k, s, Nat.zero_le _, rfl, HS0.out.1, HS0.out.2, hok, Lib.hid (by simp), Lib.hid (fun j h => by omega), Lib.hid (fun h => by omega)⟩
      case round =>
        obtain ⟨i, A', k', s', hi, rfl, st, hsv, hok', HP, HO1, HO2⟩ := hrel
        obtain ⟨wo, rfl⟩ : ∃ wo : World, wo = wr := ⟨_, rfl⟩
        clear HS0 hok
        have hs40 := hok'.len
        have HOK := Lib.hid hok'
        obtain ⟨p0, p1, p2, p3, p4, p5, p6, p7, p8, l0, l1, l2, l3⟩ := st.facts
        clear hok'
        by_cases hle : i ≤ t.length
        · have hle' : (i : Int) ≤ t.length := by omega
          have sta := st.below (below_alloc1 wo (.cells #[.int .i64 0, .slice none 0 0, .slice none 0 0] 54))
          have hsa : StV _ (fun b => Wt4 w b ∨ b = wo.heap.size) A' s' := hsv.keep (Keeps.below (below_alloc1 wo (.cells #[.int .i64 0, .slice none 0 0, .slice none 0 0] 54)) (fun b hb h => h.elim id (fun e => by omega)))
          have bo := Blk.new wo 54 #[.int .i64 0, .slice none 0 0, .slice none 0 0]
          have hgx : w.heap.size + 4 ≤ wo.heap.size := l3
          have hx0 : wo.heap.size < (wo.alloc (.cells #[.int .i64 0, .slice none 0 0, .slice none 0 0] 54)).heap.size := by simp
          have HDL := Lib.hid (HOA.out i)
          clear st hsv
          go_upto_if 41 with fail
          obtain ⟨wa, hwa⟩ : ∃ W : World, W = wo.alloc (.cells #[.int .i64 0, .slice none 0 0, .slice none 0 0] 54) := ⟨_, rfl⟩
          rw [← hwa] at sta hsa bo hx0 ⊢
          generalize wo.heap.size = x at *
          clear hwa p0 p1 p2 p3 p4 p5 p6 p7 p8 l0 l1 l2 l3
          have hnX : ∀ b, Wt4 w b → b < wa.heap.size := fun b hb => by have := hb.2; omega
          go_cut [] (fun wx => ∃ (kk : Int) (lo : List Int) (da : List UInt8) (Al : Option Addr) (kl : Nat) (Ad : Option Addr) (kd : Nat), WtB w wx At t.length kt A' k' s'.length ∧ StV wx (Wt4 w) A' s' ∧ Blk wx x 54 #[.int .i64 kk, .slice Al lo.length kl, .slice Ad da.length kd] ∧ ObA wx (Wt4 w) ⟨kk, lo, da⟩ Al kl Ad kd ∧ Hid ((Tr.objs t).drop i = ⟨kk, lo, da⟩ :: (Tr.objs t).drop (i + 1)) ∧ Hid ((i < t.length → (⟨kk, lo, da⟩ : Ob.O) = Tr.blobO (Tr.it t i).lines) ∧ (i = t.length → (⟨kk, lo, da⟩ : Ob.O) = Tr.treeO t)))
          case first =>
            obtain ⟨p0, p1, p2, p3, p4, p5, p6, p7, p8, l0, l1, l2, l3⟩ := sta.facts
            by_cases hlt : i < t.length
            · have hlt' : (i : Int) < t.length := by omega
              have hlt0 : (0 : Int) ≤ i := by omega
              obtain ⟨b, off, A1, k1, e, hb, _, d0, d1, hln⟩ := (HT.out _ sta.bel).row i hlt
              subst e
              obtain ⟨h2, h3⟩ := HLN.out i hlt
              have HB := Lib.hid (linesBlob_any wa A1 k1 (Tr.it t i).lines hln.ls (by omega) (by omega))
              have HDL2 := Lib.hid (HDL.out hlt)
              clear HDL HLN HOA HOE HF3 HF4 HO1 HO2 HP hln d0
              generalize (Tr.it t i).lines = L at *
              generalize Tr.blobO L = o at *
              obtain ⟨kk, lo, da⟩ := o
              go_wp2_with fail
              go_at_call 26
              with_reducible refine (HB.out).mono ?_
              rintro e w6 ⟨Al, kl, Ad, kd, rfl, hob, hb6⟩
              have st6 := sta.below hb6
              have bo6 := bo.below hb6 bo.lt
              have hs6 := hsa.keep (Keeps.below hb6 fun _ _ h => h)
              have e1 := bo6.frozen 0
              have e2 := bo6.frozen 1
              have e3 := bo6.frozen 2
              have e4 := bo6.lt
              have e5 := (bo6.cell 0).trans rfl
              have e6 := (bo6.cell 1).trans rfl
              have e7 := (bo6.cell 2).trans rfl
              have st7 := Lib.hid (((st6.far (p := ⟨x, 0, none⟩) hgx (.int .i64 kk)).far (p := ⟨x, 1, none⟩) hgx (.slice Al lo.length kl)).far (p := ⟨x, 2, none⟩) hgx (.slice Ad da.length kd))
              have bo7 := Lib.hid (blk_put3 bo6 (.int .i64 kk) (.slice Al lo.length kl) (.slice Ad da.length kd))
              have hs7 := Lib.hid (hs6.keep ((((Keeps.setCell w6 (fun b => Wt4 w b ∨ b = x) ⟨x, 0, none⟩ (.int .i64 kk) (.inr rfl)).trans (Keeps.setCell _ _ ⟨x, 1, none⟩ (.slice Al lo.length kl) (.inr rfl))).trans (Keeps.setCell _ _ ⟨x, 2, none⟩ (.slice Ad da.length kd) (.inr rfl))).into (X'' := Wt4 w) fun b hb => .inl hb))
              have hob7 := Lib.hid (hob.keep ((((Keeps.setCell w6 (Under wa.heap.size) ⟨x, 0, none⟩ (.int .i64 kk) hx0).trans (Keeps.setCell _ _ ⟨x, 1, none⟩ (.slice Al lo.length kl) hx0)).trans (Keeps.setCell _ _ ⟨x, 2, none⟩ (.slice Ad da.length kd) hx0)).into (X'' := Wt4 w) hnX))
              clear HB sta bo hsa hob hb6 bo6 hs6 st6
              go_wp2_with fail
              go_meet
              exact ⟨kk, lo, da, Al, kl, Ad, kd, st7.out, hs7.out, bo7.out, hob7.out, HDL2, Lib.hid ⟨fun _ => rfl, fun e => by omega⟩⟩
            · obtain rfl : i = t.length := by omega
              have HB := Lib.hid (treeObject_any wa At kt t (HT.out _ sta.bel) hkt HVOK.out (fun j hj => HO1.out j hj hj))
              have HDL2 : Hid ((Tr.objs t).drop t.length = Tr.treeO t :: (Tr.objs t).drop (t.length + 1)) := Lib.hid (by rw [HOE.out, List.drop_of_length_le (by rw [Tr.objs_len]; exact Nat.le_refl _)])
              have hx9 : ¬ ((t.length : Int) < t.length) := by omega
              clear HDL HLN HOA HOE HF3 HF4 HO1 HO2 HP hlt
              generalize Tr.treeO t = o at *
              obtain ⟨kk, lo, da⟩ := o
              go_wp2_with fail
              go_at_call 27
              with_reducible refine (HB.out).mono ?_
              rintro e w6 ⟨Al, kl, Ad, kd, rfl, hob, hb6⟩
              have st6 := sta.below hb6
              have bo6 := bo.below hb6 bo.lt
              have hs6 := hsa.keep (Keeps.below hb6 fun _ _ h => h)
              have e1 := bo6.frozen 0
              have e2 := bo6.frozen 1
              have e3 := bo6.frozen 2
              have e4 := bo6.lt
              have e5 := (bo6.cell 0).trans rfl
              have e6 := (bo6.cell 1).trans rfl
              have e7 := (bo6.cell 2).trans rfl
              have st7 := Lib.hid (((st6.far (p := ⟨x, 0, none⟩) hgx (.int .i64 kk)).far (p := ⟨x, 1, none⟩) hgx (.slice Al lo.length kl)).far (p := ⟨x, 2, none⟩) hgx (.slice Ad da.length kd))
              have bo7 := Lib.hid (blk_put3 bo6 (.int .i64 kk) (.slice Al lo.length kl) (.slice Ad da.length kd))
              have hs7 := Lib.hid (hs6.keep ((((Keeps.setCell w6 (fun b => Wt4 w b ∨ b = x) ⟨x, 0, none⟩ (.int .i64 kk) (.inr rfl)).trans (Keeps.setCell _ _ ⟨x, 1, none⟩ (.slice Al lo.length kl) (.inr rfl))).trans (Keeps.setCell _ _ ⟨x, 2, none⟩ (.slice Ad da.length kd) (.inr rfl))).into (X'' := Wt4 w) fun b hb => .inl hb))
              have hob7 := Lib.hid (hob.keep ((((Keeps.setCell w6 (Under wa.heap.size) ⟨x, 0, none⟩ (.int .i64 kk) hx0).trans (Keeps.setCell _ _ ⟨x, 1, none⟩ (.slice Al lo.length kl) hx0)).trans (Keeps.setCell _ _ ⟨x, 2, none⟩ (.slice Ad da.length kd) hx0)).into (X'' := Wt4 w) hnX))
              clear HB sta bo hsa hob hb6 bo6 hs6 st6
              go_wp2_with fail
              go_meet
              exact ⟨kk, lo, da, Al, kl, Ad, kd, st7.out, hs7.out, bo7.out, hob7.out, HDL2, Lib.hid ⟨fun h => by omega, fun _ => rfl⟩⟩
          case rest =>
            obtain ⟨kk, lo, da, Al, kl, Ad, kd, st, hsv, bo, hob, HD, HOO⟩ := hcut
            obtain ⟨wb, rfl⟩ : ∃ wb : World, wb = wc := ⟨_, rfl⟩
            have HST := Lib.hid (Tr.all_step HOK.out ⟨kk, lo, da⟩ ((Tr.objs t).drop (i + 1)))
            have HPD := Lib.hid (HP.out.trans (congrArg (Tr.putAll s') HD.out))
            have HOF := Lib.hid (obFault_any wb ⟨kk, lo, da⟩ Al kl Ad kd (free_of hob))
            obtain ⟨p0, p1, p2, p3, p4, p5, p6, p7, p8, l0, l1, l2, l3⟩ := st.facts
            have f0 := (bo.cell 0).trans rfl
            have f1 := (bo.cell 1).trans rfl
            have f2 := (bo.cell 2).trans rfl
            have f3 := bo.lt
            clear HDL HLN HOA HOE HP HD sta hsa hx0 hnX
            go_wp2_with fail
            go_at_call 28
            with_reducible refine (HOF.out).mono ?_
            rintro e w6 ⟨rfl, hb6⟩
            have st6 := st.below hb6
            have hs6 := hsv.keep (Keeps.below hb6 fun _ _ h => h)
            have bo6 := bo.below hb6 bo.lt
            have hob6 := hob.keep (Keeps.below hb6 fun _ _ h => h)
            clear HOF st hsv bo hob hb6 p0 p1 p2 p3 p4 p5 p6 p7 p8 l0 l1 l2 l3 f0 f1 f2 f3
            obtain ⟨p0, p1, p2, p3, p4, p5, p6, p7, p8, l0, l1, l2, l3⟩ := st6.facts
            have f0 := (bo6.cell 0).trans rfl
            have f1 := (bo6.cell 1).trans rfl
            have f2 := (bo6.cell 2).trans rfl
            have f3 := bo6.lt
            rcases HST.out with ⟨hc, hp⟩ | hrest
            · generalize Ob.obF ⟨kk, lo, da⟩ = f at *
              obtain ⟨cd, ix⟩ := f
              try simp only at hc
              try simp only at hp
              have HR : Hid (∀ w', Below w.heap.size w w' → WtPost w r (.returned (.tuple #[.agg #[.slice none 0 0], .int .i64 0, .agg #[.int .i64 cd, .int .i64 (-2)]])) w') := Lib.hid fun w' hb => WtPost.no (HF3.out cd (HPD.out.trans hp) hc) hb
              have hx2 : (cd != 0) = true := by simpa using hc
              clear HST HPD HF3 HF4 HO1 HO2 HOO hc hp hs6 hob6 HOK HVOK
              go_wp2_with (go_at_call 25; refine (fault_any _ _ _).mono ?_; rintro e w99 ⟨rfl, rfl⟩)
              obtain ⟨k1, k2, k3⟩ := put12 st6.r1 st6.r2 (by omega) (.slice none 0 0) (.int .i64 cd) (.int .i64 (-2))
              refine bodyPost_ret (results_24_t_28 rfl _ _ (w.heap.size + 2) (w.heap.size + 3) (.slice none 0 0) (.int .i64 cd) (.int .i64 (-2)) rfl rfl ((k1.alloc _).alloc _) ((k2.alloc _).alloc _)) rfl ?_
              exact HR.out _ (((k3 _ _ (by omega) (by omega) st6.bel).alloc (by simp [World.setCell]; omega) _).alloc (by simp [World.setCell]; omega) _)
            · have hz : Ob.obF ⟨kk, lo, da⟩ = (0, 0) := by rcases hrest with ⟨_, h, _⟩ | ⟨_, h, _⟩ <;> exact h
              have hok2 : Ob.Ok ⟨kk, lo, da⟩ := by rcases hrest with ⟨h, _⟩ | ⟨h, _⟩ <;> exact h
              have hrest2 : ((Ob.putR s' ⟨kk, lo, da⟩).2.2 ≠ 0 ∧ Tr.putAll s' (⟨kk, lo, da⟩ :: (Tr.objs t).drop (i + 1)) = ([], (Ob.putR s' ⟨kk, lo, da⟩).2.2)) ∨ (∃ u, Ob.putR s' ⟨kk, lo, da⟩ = (u, ((Ob.dig ⟨kk, lo, da⟩ : Nat) : Int), 0) ∧ Ob.StOk u ∧ Tr.putAll s' (⟨kk, lo, da⟩ :: (Tr.objs t).drop (i + 1)) = Tr.putAll u ((Tr.objs t).drop (i + 1))) := by
                rcases hrest with ⟨_, _, h1, h2⟩ | ⟨_, _, h⟩
                · exact .inl ⟨h1, h2⟩
                · exact .inr h
              have hbl := below_alloc1 w6 (.cells #[.int .i64 0, .int .i64 0] 30)
              have HPO := Lib.hid (putObject_any _ A' k' s' ⟨kk, lo, da⟩ Al kl Ad kd (StV.keep hs6 ((Keeps.below hbl fun _ _ h => h).into fun b h => h.elim)) HOK.out (free_of (hob6.keep (Keeps.below hbl fun _ _ h => h))) hok2 (Wt4 w) (hs6.keep (Keeps.below hbl fun _ _ h => h)) (hob6.keep (Keeps.below hbl fun _ _ h => h)) (fun b hb => by have := hb.2; have := hbl.size; omega))
              have sta := st6.below hbl
              have HOO1 := Lib.hid (fun (h : i < t.length) => (HOO.out.1 h ▸ hok2 : Ob.Ok (Tr.blobO (Tr.it t i).lines)))
              have HOO2 := Lib.hid (fun (h : i = t.length) => (HOO.out.2 h ▸ hok2 : Ob.Ok (Tr.treeO t)))
              have HR2 := Lib.hid hrest2
              rw [hz]
              clear hz hok2 hrest hrest2 HST HOO hs6 hob6 HOK bo6
              generalize Ob.putR s' ⟨kk, lo, da⟩ = r' at *
              obtain ⟨us, dn, pc⟩ := r'
              go_wp2_with fail
              go_at_call 29
              with_reducible refine (HPO.out).mono ?_
              rintro e w7 ⟨A4, c4, rfl, hs4, hb7⟩
              try simp only at hs4
              have st7 := (sta.below hb7).setS A4 c4 us.length
              have hs7 := hs4.keep (Keeps.setCell w7 (Wt4 w) ⟨w.heap.size, 0, none⟩ (.slice A4 us.length c4) ⟨Nat.le_refl _, Nat.le_add_right _ _⟩)
              have st7' := sta.below hb7
              clear HPO hs4 hb7 hbl sta st6 p0 p1 p2 p3 p4 p5 p6 p7 p8 l0 l1 l2 l3 f0 f1 f2 f3
              obtain ⟨p0, p1, p2, p3, p4, p5, p6, p7, p8, l0, l1, l2, l3⟩ := st7'.facts
              rcases HR2.out with ⟨hc, hp⟩ | ⟨u, hu, hsu, hp⟩
              · try simp only at hc
                try simp only at hp
                have HR : Hid (∀ w', Below w.heap.size w w' → WtPost w r (.returned (.tuple #[.agg #[.slice none 0 0], .int .i64 0, .agg #[.int .i64 pc, .int .i64 (-2)]])) w') := Lib.hid fun w' hb => WtPost.no (HF3.out pc (HPD.out.trans hp) hc) hb
                have hx2 : (pc != 0) = true := by simpa using hc
                clear HR2 HPD HF3 HF4 HO1 HO2 HOO1 HOO2 hc hp hs7 HVOK
                go_wp2_with (go_at_call 25; refine (fault_any _ _ _).mono ?_; rintro e w99 ⟨rfl, rfl⟩)
                obtain ⟨k1, k2, k3⟩ := put12 st7.r1 st7.r2 (by omega) (.slice none 0 0) (.int .i64 pc) (.int .i64 (-2))
                refine bodyPost_ret (results_24_t_28 rfl _ _ (w.heap.size + 2) (w.heap.size + 3) (.slice none 0 0) (.int .i64 pc) (.int .i64 (-2)) rfl rfl (k1.alloc _) (k2.alloc _)) rfl ?_
                exact HR.out _ ((k3 _ _ (by omega) (by omega) st7.bel).alloc (by simp [World.setCell]; omega) _)
              · injection hu with e1 e2
                injection e2 with e2 e3
                subst e1 e2 e3
                have HPN := Lib.hid (HPD.out.trans hp)
                have HO1N : Hid (∀ j, j < i + 1 → j < t.length → Ob.Ok (Tr.blobO (Tr.it t j).lines)) := Lib.hid fun j h1 h2 => by
                  by_cases e : j = i
                  · subst e; exact HOO1.out h2
                  · exact HO1.out j (by omega) h2
                have HO2N : Hid (t.length < i + 1 → Ob.Ok (Tr.treeO t)) := Lib.hid fun h => HOO2.out (by omega)
                clear HR2 HPD hp HO1 HO2 HOO1 HOO2 HF3 HF4
                go_wp2_with fail
                go_roundw
                case rel => exact ⟨i + 1, A4, c4, us, by omega, by go_num, st7, hs7, hsu, HPN, HO1N, HO2N⟩
                case measure => simp [intOf]; omega
        · obtain rfl : i = t.length + 1 := by omega
          have hx9 : ¬ ((t.length : Int) + 1 ≤ t.length) := by omega
          have hx8 : ((t.length + 1 : Nat) : Int) = (t.length : Int) + 1 := by omega
          have H := Lib.hid (HF4.out s' (by rw [HP.out, List.drop_of_length_le (by rw [Tr.objs_len]; exact Nat.le_refl _)]; rfl))
          have HTO := Lib.hid (fun (W : World) (hb : Below w.heap.size w W) => treeObject_any W At kt t (HT.out _ hb) hkt HVOK.out (fun j hj => HO1.out j (by omega) hj))
          have HDG := Lib.hid (fun (W : World) (Al : Option Addr) (kl : Nat) (Ad : Option Addr) (kd : Nat) (h : ObA W Free (Tr.treeO t) Al kl Ad kd) => objDigest_any W (Tr.treeO t) Al kl Ad kd h (HO2.out (by omega)))
          have HK : Hid (∀ w6 : World, Below wo.heap.size wo w6 → w6.cell? ⟨w.heap.size, 0, none⟩ = some (.slice A' s'.length k') ∧ w6.cell? ⟨w.heap.size + 1, 0, none⟩ = some (.slice At t.length kt)) :=
            Lib.hid fun w6 h6 => ⟨((st.bx.below h6 st.bx.lt).cell 0).trans rfl, ((st.bt.below h6 st.bt.lt).cell 0).trans rfl⟩
          clear HP HO1 HO2 HOK HF3 HF4 HVOK HOA HOE HLN
          generalize Tr.treeO t = o at *
          generalize Ob.dig o = dg at *
          obtain ⟨kk, lo, da⟩ := o
          go_wp2_with fail
          have hbo := st.bel
          refine wp_region_noPanic ?_
          refine wp_region_held_drew (S := (fun w6 : World => w6.cell? ⟨w.heap.size, 0, none⟩ = some (.slice A' s'.length k') ∧ w6.cell? ⟨w.heap.size + 1, 0, none⟩ = some (.slice At t.length kt))) (by kernel_rfl) ?_ (fun hSF => ?_)
          · exact HK.out _ (below_drew' (Below.refl _ _))
          have hq : Below wo.heap.size wo wo.drew := below_drew' (Below.refl _ _)
          have hszb : wo.heap.size ≤ wo.drew.heap.size := Nat.le_refl _
          generalize hWg : wo.drew = WD at *
          clear hWg
          clear p0 p1 p2 p3 p4 p5 p6 p7 p8 l0 l1 l2 l3
          replace st := st.below hq
          replace hsv := hsv.keep (Keeps.below hq fun _ _ h => h)
          refine wpAnyH_take (i := 0) (v := .agg #[.slice A' s'.length k']) rfl (by kernel_rfl) (by kernel_rfl) (by kernel_rfl) (fun _ _ _ h => h) (Or.inl ⟨by kernel_rfl, ?qF1⟩) (by assumption) ?rqF1
          case qF1 => (intro w hSw; (try dsimp only at hSw); go_simp)
          try simp only [Act.put, List.setIfInBounds_toArray]
          refine wpAnyH_take (i := 1) (v := .agg #[.slice At t.length kt]) rfl (by kernel_rfl) (by kernel_rfl) (by kernel_rfl) (fun _ _ _ h => h) (Or.inl ⟨by kernel_rfl, ?qF2⟩) (by assumption) ?rqF2
          case qF2 => (intro w hSw; (try dsimp only at hSw); go_simp)
          try simp only [Act.put]
          refine wpAnyH_take (i := 4) (v := .agg #[.int .i64 0, .int .i64 0]) rfl (by kernel_rfl) (by kernel_rfl) (by kernel_rfl) (fun _ _ _ h => h) (Or.inl ⟨by kernel_rfl, ?qF3⟩) (by assumption) ?rqF3
          case qF3 => (intro w hSw; (try dsimp only at hSw); go_simp)
          try simp only [Act.put]
          refine wpAnyH_ready (rs := [2]) (by kernel_rfl) (by simp) ?_
          refine AllReadyH.cons rfl (fun K hK => ?nF4) (AllReadyH.nil)
          go_simp
          go_at_call 27
          with_reducible refine (HTO.out _ (hbo.trans (hq.mono hbo.size))).mono ?_
          rintro e WF5 ⟨Al, kl, Ad, kd, rfl, hob, hb9⟩
          try go_wp2_with fail
          refine hK.out _ _ ?_ (fun hSF6 => ?_)
          · exact HK.out _ (hq.trans (hb9.mono hq.size))
          clear hK K
          try simp only [Act.put, List.setIfInBounds_toArray]
          replace hq := hq.trans (hb9.mono hq.size)
          have zF7 : WD.heap.size ≤ WF5.heap.size := hb9.size
          replace hsv := hsv.keep (Keeps.below hb9 fun _ _ h => h)
          replace st := st.below hb9
          replace hob := free_of hob
          clear hb9
          refine wpAnyH_ready (rs := [3]) (by kernel_rfl) (by simp) ?_
          refine AllReadyH.cons rfl (fun K hK => ?nF8) (AllReadyH.nil)
          go_simp
          go_at_call 30
          with_reducible refine (HDG.out _ Al kl Ad kd hob).mono ?_
          rintro e WF9 ⟨rfl, hb9⟩
          try go_wp2_with fail
          refine hK.out _ _ ?_ (fun hSF10 => ?_)
          · exact HK.out _ (hq.trans (hb9.mono hq.size))
          clear hK K
          try simp only [Act.put, List.setIfInBounds_toArray]
          replace hq := hq.trans (hb9.mono hq.size)
          have zF11 : WF5.heap.size ≤ WF9.heap.size := hb9.size
          replace hsv := hsv.keep (Keeps.below hb9 fun _ _ h => h)
          replace st := st.below hb9
          clear hb9
          refine wpAnyH_ready (rs := [5]) (by kernel_rfl) (by simp) ?_
          refine AllReadyH.cons rfl (fun K hK => ?nF12) (AllReadyH.nil)
          obtain ⟨p0, p1, p2, p3, p4, p5, p6, p7, p8, l0, l1, l2, l3⟩ := st.facts
          obtain ⟨k1, k2, k3⟩ := put12 st.r1 st.r2 (by omega) (.slice A' s'.length k') (.int .i64 0) (.int .i64 0)
          go_simp
          refine hK.out _ _ ?_ (fun hSF13 => ?_)
          · exact ⟨((st.bx.far (p := ⟨w.heap.size + 2, 0, none⟩) (by simp) _).cell 0).trans rfl, ((st.bt.far (p := ⟨w.heap.size + 2, 0, none⟩) (by simp) _).cell 0).trans rfl⟩
          clear hK K
          try simp only [Act.put, List.setIfInBounds_toArray]
          refine wpAnyH_take (i := 6) (v := .int .i64 (dg : Int)) rfl (by kernel_rfl) (by kernel_rfl) (by kernel_rfl) (fun _ _ _ h => h) (Or.inl ⟨by kernel_rfl, ?qF14⟩) (by assumption) ?rqF14
          case qF14 => (intro w hSw; (try dsimp only at hSw); go_simp)
          try simp only [Act.put, List.setIfInBounds_toArray]
          refine wpAnyH_ready (rs := [7]) (by kernel_rfl) (by simp) ?_
          refine AllReadyH.cons rfl (fun K hK => ?nF15) (AllReadyH.nil)
          go_simp
          refine hK.out _ _ ?_ (fun hSF16 => ?_)
          · exact ⟨((((st.bx.far (p := ⟨w.heap.size + 2, 0, none⟩) (by simp) _).far (p := ⟨w.heap.size + 3, 0, none⟩) (by simp) _).far (p := ⟨w.heap.size + 3, 1, none⟩) (by simp) _).cell 0).trans rfl, ((((st.bt.far (p := ⟨w.heap.size + 2, 0, none⟩) (by simp) _).far (p := ⟨w.heap.size + 3, 0, none⟩) (by simp) _).far (p := ⟨w.heap.size + 3, 1, none⟩) (by simp) _).cell 0).trans rfl⟩
          clear hK K
          try simp only [Act.put, List.setIfInBounds_toArray]
          refine wpAnyH_done (by kernel_rfl) ?_ _
          refine NoPanic.normal ?_
          go_wp2_with fail
          refine bodyPost_ret (results_24_t_28 rfl _ _ (w.heap.size + 2) (w.heap.size + 3) (.slice A' s'.length k') (.int .i64 0) (.int .i64 0) rfl rfl k1 k2) rfl ?_
          rw [H.out]
          exact ⟨A', k', rfl, (hsv.keep (((Keeps.setCell WF9 (Wt4 w) ⟨w.heap.size + 2, 0, none⟩ _ ⟨by simp, by simp⟩).trans (Keeps.setCell _ _ ⟨w.heap.size + 3, 0, none⟩ _ ⟨by simp, by simp⟩)).trans (Keeps.setCell _ _ ⟨w.heap.size + 3, 1, none⟩ _ ⟨by simp, by simp⟩))).keep ((Keeps.refl _ _).into fun b h => h.elim), k3 _ _ (by omega) (by omega) st.bel⟩
end Go.Proofs.YtjljknocnebnaaaDoor
namespace Go.Proofs.YtjljknocnebnaaaDoor
open Go.RowKit Go.V Go.Shelf
set_option linter.unusedVariables false

theorem VaSt.facts {w wr : World} {A : Option Addr} {n k : Nat} (h : VaSt w wr A n k) : wr.cell? ⟨w.heap.size, 0, none⟩ = some (.slice A n k) ∧ wr.cell? ⟨w.heap.size + 1, 0, none⟩ = some (.int .i64 0) ∧ wr.cell? ⟨w.heap.size + 1, 1, none⟩ = some (.int .i64 0) ∧
    wr.frozen? ⟨w.heap.size + 1, 0, none⟩ = false ∧ wr.frozen? ⟨w.heap.size + 1, 1, none⟩ = false ∧ w.heap.size < wr.heap.size ∧ w.heap.size + 1 < wr.heap.size :=
  ⟨(h.box.cell 0).trans rfl, (h.res.cell 0).trans rfl, (h.res.cell 1).trans rfl, h.res.frozen 0, h.res.frozen 1, h.box.lt, h.res.lt⟩
theorem VaSt.put {w wr : World} {A : Option Addr} {n k : Nat} (h : VaSt w wr A n k) (u v : Value) : Blk ((wr.setCell ⟨w.heap.size + 1, 0, none⟩ u).setCell ⟨w.heap.size + 1, 1, none⟩ v) (w.heap.size + 1) 30 #[u, v] ∧ Below w.heap.size w ((wr.setCell ⟨w.heap.size + 1, 0, none⟩ u).setCell ⟨w.heap.size + 1, 1, none⟩ v) :=
  ⟨blk_put2 h.res u v, (h.bel.setCell (p := ⟨w.heap.size + 1, 0, none⟩) (by simp only; omega) u).setCell (p := ⟨w.heap.size + 1, 1, none⟩) (by simp only; omega) v⟩
/-- What 'TreePaths' tells: the links are those of the store. -/
def TpPost (w : World) (X : Nat → Prop) (q : (List (List UInt8) × List Int) × (Int × Int)) (e : Ending) (w' : World) : Prop :=
  ∃ A c B m, e = .returned (.tuple #[.slice A q.1.1.length c, .slice B q.1.2.length m, .agg #[.int .i64 q.2.1, .int .i64 q.2.2]]) ∧ LnA w' (Under w.heap.size) q.1.1 A c ∧ SA w' X B (intsV q.1.2) ∧ q.1.2.length ≤ m ∧ Below w.heap.size w w'
theorem TpPost.no {w w' : World} {X : Nat → Prop} {q : (List (List UInt8) × List Int) × (Int × Int)} {c i : Int} (h : q = (([], []), (c, i))) (hb : Below w.heap.size w w') : TpPost w X q (.returned (.tuple #[.slice none 0 0, .slice none 0 0, .agg #[.int .i64 c, .int .i64 i]])) w' := by
  subst h; exact ⟨none, 0, none, 0, rfl, ⟨Nat.le_refl _, Nat.zero_le _, SA.nil⟩, SA.nil, Nat.le_refl _, hb⟩
set_option maxRecDepth 100000 in
set_option maxHeartbeats 16000000 in
theorem treePaths_any (w : World) (hm : Mx w) (A : Option Addr) (k : Nat) (s : List Ob.S) (d : Int) (hv : StV w Free A s) (hl64 : s.length ≤ 9223372036854775807) (X : Nat → Prop) (hvX : StV w X A s) :
    Calls Tryd.prog 16 #[stV A s.length k, .int .i64 d] w (TpPost w X (Tr.ptF s d (-1))) := by
  have HV := Lib.hid (fun (w1 : World) (hb : Below w.heap.size w w1) => hv.keep (free_below hb))
  have HVX := Lib.hid (fun (w1 : World) (hb : Below w.heap.size w w1) => (hvX.keep (Keeps.below hb fun _ _ h => h) : StV w1 X A s))
  have HM := Lib.hid (fun (w1 : World) (hb : Below w.heap.size w w1) => hm.below hb)
  have st0 : VaSt w ((w.alloc (.cells #[.slice A s.length k] 24)).alloc (.cells #[.int .i64 0, .int .i64 0] 30)) A s.length k := ⟨(Blk.new _ _ _).alloc _, blk_new1 _ _ _ _, below_alloc2 _ _ _⟩
  have HC := Lib.hid (storeFault_any _ A k s (HV.out _ st0.bel) hl64)
  have HQa := Lib.hid (Tr.ptF_st (s := s) d (-1))
  have HQb := Lib.hid (fun (h : Ob.StOk s) (h2 : Tr.gtO s d = none) => Tr.ptF_none (s := s) (d := d) (-1) h h2)
  have HQc := Lib.hid (fun (h : Ob.StOk s) (o : Ob.O) (h2 : Tr.gtO s d = some o) => And.intro (Tr.ptF_bad (s := s) (d := d) (o := o) (-1) h h2) (Tr.ptF_ok (s := s) (d := d) (o := o) (-1) h h2))
  clear hv hvX hm
  generalize hq : Tr.ptF s d (-1) = q at *
  clear hq
  go_enter Tryd.func16, Tryd.ntmps16
  go_wp2_with fail
  go_at_call 23
  with_reducible refine (HC.out).mono ?_
  rintro e w1 ⟨rfl, hb1⟩
  have st1 := st0.below hb1
  clear hb1 HC st0
  obtain ⟨p0, p1, p2, f1, f2, l0, l1⟩ := st1.facts
  by_cases hbad : (Ob.stF s).1 ≠ 0
  · have H := Lib.hid (HQa.out hbad)
    have hx1 : ((Ob.stF s).1 == 0) = false := by simpa using hbad
    have hx2 : ((Ob.stF s).1 != 0) = true := by simpa using hbad
    clear hbad HQa HQb HQc HV HVX HM
    generalize Ob.stF s = q3 at *
    obtain ⟨cd, ix⟩ := q3
    simp only at hx1 hx2
    have HR : Hid (∀ w', Below w.heap.size w w' → TpPost w X q (.returned (.tuple #[.slice none 0 0, .slice none 0 0, .agg #[.int .i64 cd, .int .i64 ix]])) w') := Lib.hid fun w' hb => TpPost.no H.out hb
    clear H
    generalize TpPost w X q = R at *
    go_wp2_with fail
    go_region
    all_goals
      go_wp2_with fail
      obtain ⟨k1, k2⟩ := st1.put (.int .i64 cd) (.int .i64 ix)
      refine bodyPost_ret (results_tt30 rfl _ _ (w.heap.size + 1) (.int .i64 cd) (.int .i64 ix) rfl (k1.alloc _).drew) rfl ?_
      exact HR.out _ (below_drew' (k2.alloc (by simp [World.setCell]; omega) _))
  · obtain ⟨hz, hok⟩ := Ob.stF_ok (s := s) (by simpa using hbad)
    have hs40 := hok.len
    have HAT := Lib.hid (fun (w1 : World) (hb : Below w.heap.size w w1) => at2_any w1 A k s d (HV.out _ hb) (by omega))
    have HGA := Lib.hid (fun (r : Int) (h : Tr.AtIs s d r) => Tr.gtO_at hok h)
    have HQb := Lib.hid (HQb.out hok)
    have HQc := Lib.hid (HQc.out hok)
    have HOK := Lib.hid (fun i hi => hok.ok i hi)
    rw [hz]
    have st2 := st1.below (below_alloc1 w1 (.cells #[.int .i64 0, .int .i64 0] 30))
    clear hz hbad hok HQa p0 p1 p2 f1 f2
    obtain ⟨p0, p1, p2, f1, f2, m0, m1⟩ := st2.facts
    go_wp2_with fail
    go_at_call 35
    with_reducible refine (HAT.out _ st2.bel).mono ?_
    rintro e w2 ⟨⟨rr, rfl, hat⟩, hb2⟩
    have st3 := st2.below hb2
    clear HAT st1 st2 hb2 p0 p1 p2 f1 f2 m0 m1 l0 l1
    obtain ⟨p0, p1, p2, f1, f2, l0, l1⟩ := st3.facts
    rcases HGA.out rr hat with ⟨rfl, hg⟩ | ⟨i, rfl, hi, hg⟩
    · have H := Lib.hid (HQb.out hg)
      clear HQb HQc HGA hat hg HV HVX HM HOK
      have HR : Hid (∀ w', Below w.heap.size w w' → TpPost w X q (.returned (.tuple #[.slice none 0 0, .slice none 0 0, .agg #[.int .i64 6, .int .i64 (-1)]])) w') := Lib.hid fun w' hb => TpPost.no H.out hb
      clear H
      generalize TpPost w X q = R at *
      go_wp2_with (go_at_call 25; refine (fault_any _ _ _).mono ?_; rintro e w9 ⟨rfl, rfl⟩)
      obtain ⟨k1, k2⟩ := st3.put (.int .i64 6) (.int .i64 (-1))
      refine bodyPost_ret (results_tt30 rfl _ _ (w.heap.size + 1) (.int .i64 6) (.int .i64 (-1)) rfl (k1.alloc _)) rfl ?_
      exact HR.out _ (k2.alloc (by simp [World.setCell]; omega) _)
    · have hi' : (i : Int) < s.length := by omega
      have hi0' : (0 : Int) ≤ i := by omega
      have hix : ¬ ((i : Int) < 0) := by omega
      obtain ⟨HQc1, HQc2⟩ := HQc.out _ hg
      have HQ1 := Lib.hid HQc1
      have HQ2 := Lib.hid HQc2
      clear HQc1 HQc2
      have hdn := (HOK.out i hi).dn
      obtain ⟨b, off, Al, kl, Ad, kd, e, hb, _, d0, d1, d2, d3, hx, hob⟩ := (HV.out _ st3.bel).row i hi
      obtain ⟨b', off', Al', kl', Ad', kd', e', hb', _, d0', d1', d2', d3', hx', hobX⟩ := (HVX.out w (Below.refl _ _)).row i hi
      replace d2' := (st3.bel.cell (p := ⟨b', off' + i * 4 + 1 + 1, none⟩) hb').trans d2'
      replace d3' := (st3.bel.cell (p := ⟨b', off' + i * 4 + 1 + 2, none⟩) hb').trans d3'
      obtain ⟨rfl, rfl⟩ : b = b' ∧ off = off' := by subst e; injection e' with e'; injection e' with e1 e2; exact ⟨e1, e2⟩
      obtain ⟨rfl, rfl⟩ : Al = Al' ∧ kl = kl' := by rw [d2] at d2'; injection d2' with h; injection h with h1 h2 h3; exact ⟨h1, h3⟩
      obtain ⟨rfl, rfl⟩ : Ad = Ad' ∧ kd = kd' := by rw [d3] at d3'; injection d3' with h; injection h with h1 h2 h3; exact ⟨h1, h3⟩
      subst e
      have hw3 := below_alloc1 w2 (.cells #[.int .i64 (Ob.it s i).ob.kind, .slice Al (Ob.it s i).ob.links.length kl, .slice Ad (Ob.it s i).ob.data.length kd] 54)
      have bo := Blk.new w2 54 #[.int .i64 (Ob.it s i).ob.kind, .slice Al (Ob.it s i).ob.links.length kl, .slice Ad (Ob.it s i).ob.data.length kd]
      have st4 := st3.below hw3
      have HLX := Lib.hid (fun (w' : World) (hb : Below w.heap.size w w') => (hobX.ls.keep (Keeps.below hb fun _ _ h => h) : SA w' X Al (intsV (Ob.it s i).ob.links)))
      have hlk := hob.lk
      have hdk := hob.dk
      have HCU := Lib.hid (cut_any _ Ad kd (Ob.it s i).ob.data (hob.ds.keep (Keeps.below hw3 fun _ _ h => h)) hdk (by omega))
      have HPK := Lib.hid (Tr.prF_kind (o := (Ob.it s i).ob))
      have HPM := Lib.hid (Tr.prF_mal (o := (Ob.it s i).ob))
      have HPO := Lib.hid (Tr.prF_ok (o := (Ob.it s i).ob))
      have hcl := Tr.cut_len2 (Ob.it s i).ob.data
      clear hob hobX d0' d1' d2' d3' hb' hx hx' hat hg HQb HQc HGA HV HVX HOK e'
      generalize (Ob.it s i).ob = o at *
      obtain ⟨kk, lo, da⟩ := o
      simp only at *
      by_cases hk : kk = 2
      · subst hk
        have HPM2 := Lib.hid (HPM.out rfl)
        have HPO2 := Lib.hid (HPO.out rfl)
        clear HPK HPM HPO
        go_wp2_with fail
        go_at_call 36
        with_reducible refine (HCU.out).mono ?_
        rintro e w4 ⟨A4, c4, rfl, hc4, hs4, hb4⟩
        have st5 := st4.below hb4
        have bo5 := bo.below hb4 bo.lt
        have hbo5 := Lib.hid (hw3.trans (hb4.mono hw3.size))
        have hsz3 := st4.bel.size
        clear HCU st4 bo hw3 p0 p1 p2 f1 f2 l0 l1 d0 d1 d2 d3
        obtain ⟨p0, p1, p2, f1, f2, l0, l1⟩ := st5.facts
        have hLl : (Tr.cut da).1.length ≤ 1000 := by omega
        have hsvL := hs4
        generalize (Tr.cut da).1 = L at *
        generalize (Tr.cut da).2 = T at *
        generalize hzb : decide (T = []) = zb at *
        have rw0 := RwSt.start w4 27 49 2 (Below.refl w4.heap.size w4)
        have hx3 : Hid (Under (w2.alloc (.cells #[.int .i64 2, .slice Al lo.length kl, .slice Ad da.length kd] 54)).heap.size (w.heap.size + 1)) := Lib.hid (by unfold Under; have := st3.res.lt; simp; omega)
        obtain ⟨i0, hi0, hz0, hz1, hz2⟩ := info_parts info49
        clear hsvL hcl hdk hdn
        go_wp2_with fail
        go_loopw [13] (fun iv wr => ∃ (i : Nat) (B : Option Addr) (c : Nat), i ≤ L.length ∧ iv = .int .i64 i ∧ RwSt w4 wr w4.heap.size 27 49 2 B i c ((L.take i).flatMap fun p => [strV p, .slice none 0 0])) (fun iv _ => L.length - (intOf iv).toNat)
        case atStart => exact ⟨0, none, 0, Nat.zero_le _, rfl, rw0⟩
        case round =>
          obtain ⟨j, B, c, hj, rfl, rs⟩ := hrel
          obtain ⟨wo, rfl⟩ : ∃ wo : World, wo = wr := ⟨_, rfl⟩
          clear rw0
          by_cases hlt : j < L.length
          · have hlt' : (j : Int) < L.length := by omega
            have hj0 : (0 : Int) ≤ j := by omega
            obtain ⟨b1, off1, e0, hb1, _, d1⟩ := ssV_row hs4 j hlt
            subst e0
            have eL : (L.take (j + 1)).flatMap (fun p => [strV p, Value.slice none 0 0]) = (L.take j).flatMap (fun p => [strV p, Value.slice none 0 0]) ++ [strV L[j], .slice none 0 0] := by rw [List.take_succ_eq_append_getElem hlt, List.flatMap_append]; simp
            have eL := Lib.hid eL
            generalize L[j] = x at *
            generalize (L.take j).flatMap (fun p => [strV p, Value.slice none 0 0]) = xs at *
            have HK4 : Hid (∀ w6 : World, Below w4.heap.size w4 w6 → w6.cell? ⟨b1, off1 + j, none⟩ = some (strV x)) := Lib.hid fun w6 h6 => (h6.cell (p := ⟨b1, off1 + j, none⟩) hb1).trans d1
            have HK : Hid (∀ w6 : World, Below wo.heap.size wo w6 → w6.cell? ⟨b1, off1 + j, none⟩ = some (strV x)) := Lib.hid fun w6 h6 => HK4.out _ (rs.bel.trans (h6.mono rs.bel.size))
            have h63 : j + 1 ≤ maxLen := by unfold maxLen; omega
            have hby : (j + 1) * 40 ≤ 140737488355328 := by omega
            have hgs := rs.hg
            clear p0 p1 p2 f1 f2 l0 l1 d1
            go_wp2_with fail
            refine wp_region_noPanic ?_
            refine wp_region_held_drew (S := (fun w6 : World => w6.cell? ⟨b1, off1 + j, none⟩ = some (strV x))) (by kernel_rfl) ?_ (fun hSR => ?_)
            · exact HK.out _ (below_drew' (Below.refl _ _))
            have hq : Below wo.heap.size wo wo.drew := below_drew' (Below.refl _ _)
            have hszb : wo.heap.size ≤ wo.drew.heap.size := Nat.le_refl _
            generalize hWg : wo.drew = WR at *
            clear hWg
            replace rs := rs.below hq
            refine wpAnyH_take (i := 0) (v := .pointer (some ⟨w4.heap.size, 0, none⟩)) rfl (by kernel_rfl) (by kernel_rfl) (by kernel_rfl) (fun _ _ _ h => h) (Or.inl ⟨by kernel_rfl, ?qR1⟩) (by assumption) ?rqR1
            case qR1 => (intro w hSw; (try dsimp only at hSw); go_simp)
            try simp only [Act.put, List.setIfInBounds_toArray]
            refine wpAnyH_take (i := 2) (v := .slice (some ⟨b1, off1, none⟩) L.length c4) rfl (by kernel_rfl) (by kernel_rfl) (by kernel_rfl) (fun _ _ _ h => h) (Or.inl ⟨by kernel_rfl, ?qR2⟩) (by assumption) ?rqR2
            case qR2 => (intro w hSw; (try dsimp only at hSw); go_simp)
            try simp only [Act.put]
            refine wpAnyH_take (i := 3) (v := .int .i64 (j : Int)) rfl (by kernel_rfl) (by kernel_rfl) (by kernel_rfl) (fun _ _ _ h => h) (Or.inl ⟨by kernel_rfl, ?qR3⟩) (by assumption) ?rqR3
            case qR3 => (intro w hSw; (try dsimp only at hSw); go_simp)
            try simp only [Act.put]
            refine wpAnyH_take (i := 4) (v := .pointer (some ⟨b1, off1 + j, none⟩)) rfl (by kernel_rfl) (by kernel_rfl) (by kernel_rfl) (fun _ _ _ h => h) (Or.inl ⟨by kernel_rfl, ?qR4⟩) (by assumption) ?rqR4
            case qR4 => (intro w hSw; (try dsimp only at hSw); go_simp)
            try simp only [Act.put]
            refine wpAnyH_take (i := 5) (v := strV x) rfl (by kernel_rfl) (by kernel_rfl) (by kernel_rfl) (fun _ _ _ h => h) (Or.inl ⟨by kernel_rfl, ?qR5⟩) (by assumption) ?rqR5
            case qR5 => (intro w hSw; (try dsimp only at hSw); go_simp)
            try simp only [Act.put]
            refine wpAnyH_take (i := 6) (v := .agg #[strV x, .slice none 0 0]) rfl (by kernel_rfl) (by kernel_rfl) (by kernel_rfl) (fun _ _ _ h => h) (Or.inl ⟨by kernel_rfl, ?qR6⟩) (by assumption) ?rqR6
            case qR6 => (intro w hSw; (try dsimp only at hSw); go_simp)
            try simp only [Act.put]
            refine wpAnyH_ready (rs := [1, 7]) (by kernel_rfl) (by simp) ?_
            refine AllReadyH.cons rfl (fun K hK => ?nR7) (AllReadyH.cons rfl (fun K hK => ?nR8) (AllReadyH.nil))
            case nR7 =>
              have f1 := (rs.sb.cell 0).trans rfl
              have f1l := rs.sb.lt
              go_simp
              refine hK.out _ _ ?_ (fun hSR9 => ?_)
              · exact HK.out _ (hq)
              clear hK K
              try simp only [Act.put, List.setIfInBounds_toArray]
              refine wpAnyH_ready (rs := [7]) (by kernel_rfl) (by simp) ?_
              refine AllReadyH.cons rfl (fun K hK => ?nR10) (AllReadyH.nil)
              go_simp
              refine hK.out _ _ ?_ (fun hSR12 => ?_)
              · exact HK.out _ (hq.alloc hq.size (.cells #[strV x, .slice none 0 0] 49))
              clear hK K
              try simp only [Act.put, List.setIfInBounds_toArray]
              replace hq := hq.alloc hq.size (.cells #[strV x, .slice none 0 0] 49)
              have bl := Blk.new WR 49 #[strV x, .slice none 0 0]
              replace rs := rs.below (below_alloc1 WR (.cells #[strV x, .slice none 0 0] 49))
              have zR13 : WR.heap.size < (WR.alloc (.cells #[strV x, .slice none 0 0] 49)).heap.size := by simp
              generalize WR.alloc (.cells #[strV x, .slice none 0 0] 49) = WR11 at *
              refine wpAnyH_ready (rs := [8]) (by kernel_rfl) (by simp) ?_
              refine AllReadyH.cons rfl (fun K hK => ?nR14) (AllReadyH.nil)
              refine step_appNo _ rfl (.tmp 50) (.tmp 56) 25 rfl w4.heap.size 49 i0 _ 2 40 Tryd.underlying25 hi0 hz0 hz1 hz2 rfl (by decide) B j c xs rfl rs.own _ 1 [strV x, .slice none 0 0] rfl rfl (fun i' v hi' => by rw [bl.cell i', ← Array.getElem?_toList]; exact hi') (by intro u hu; simp at hu; rcases hu with rfl | rfl <;> rfl) h63 hby (Nat.le_of_lt rs.sb.lt) ?_
              intro g8 c8 WR15 hown8 hg8 hob8
              have rs9 := rs.app (by decide) hg8 hown8
              have bk8 := rs.sb.grown hg8 (own_blk_ne rs.own rs.sb (by decide))
              have f8 := bk8.frozen 0
              have f8l := bk8.lt
              have f8c := (bk8.cell 0).trans rfl
              have bx8 := HK4.out _ (rs.bel.grown hg8 rs.bel.size (fun b hb => by have := (rs.own.lt b hb).1; have := rs.hg; omega))
              refine hK.out _ _ ?_ (fun hSR16 => ?_)
              · exact bx8
              clear hK K
              try simp only [Act.put, List.setIfInBounds_toArray]
              clear hown8 hg8 hob8 bk8
              refine wpAnyH_take (i := 9) (v := .pointer (some ⟨w4.heap.size, 0, none⟩)) rfl (by kernel_rfl) (by kernel_rfl) (by kernel_rfl) (fun _ _ _ h => h) (Or.inl ⟨by kernel_rfl, ?qR17⟩) (by assumption) ?rqR17
              case qR17 => (intro w hSw; (try dsimp only at hSw); go_simp)
              try simp only [Act.put]
              refine wpAnyH_ready (rs := [10]) (by kernel_rfl) (by simp) ?_
              refine AllReadyH.cons rfl (fun K hK => ?nR18) (AllReadyH.nil)
              go_simp
              refine hK.out _ _ ?_ (fun hSR19 => ?_)
              · exact HK4.out _ rs9.bel
              clear hK K
              try simp only [Act.put, List.setIfInBounds_toArray]
              refine wpAnyH_done (by kernel_rfl) ?_ _
              refine NoPanic.normal ?_
              go_wp2_with fail
              go_roundw
              case rel => exact ⟨j + 1, _, _, by omega, by go_num, by rw [eL.out]; exact rs9⟩
              case measure => simp [intOf]; omega
            case nR8 =>
              go_simp
              refine hK.out _ _ ?_ (fun hSR21 => ?_)
              · exact HK.out _ (hq.alloc hq.size (.cells #[strV x, .slice none 0 0] 49))
              clear hK K
              try simp only [Act.put, List.setIfInBounds_toArray]
              replace hq := hq.alloc hq.size (.cells #[strV x, .slice none 0 0] 49)
              have bl := Blk.new WR 49 #[strV x, .slice none 0 0]
              replace rs := rs.below (below_alloc1 WR (.cells #[strV x, .slice none 0 0] 49))
              have zR22 : WR.heap.size < (WR.alloc (.cells #[strV x, .slice none 0 0] 49)).heap.size := by simp
              generalize WR.alloc (.cells #[strV x, .slice none 0 0] 49) = WR20 at *
              refine wpAnyH_ready (rs := [1]) (by kernel_rfl) (by simp) ?_
              refine AllReadyH.cons rfl (fun K hK => ?nR23) (AllReadyH.nil)
              have f1 := (rs.sb.cell 0).trans rfl
              have f1l := rs.sb.lt
              go_simp
              refine hK.out _ _ ?_ (fun hSR24 => ?_)
              · exact HK.out _ (hq)
              clear hK K
              try simp only [Act.put, List.setIfInBounds_toArray]
              refine wpAnyH_ready (rs := [8]) (by kernel_rfl) (by simp) ?_
              refine AllReadyH.cons rfl (fun K hK => ?nR25) (AllReadyH.nil)
              refine step_appNo _ rfl (.tmp 50) (.tmp 56) 25 rfl w4.heap.size 49 i0 _ 2 40 Tryd.underlying25 hi0 hz0 hz1 hz2 rfl (by decide) B j c xs rfl rs.own _ 1 [strV x, .slice none 0 0] rfl rfl (fun i' v hi' => by rw [bl.cell i', ← Array.getElem?_toList]; exact hi') (by intro u hu; simp at hu; rcases hu with rfl | rfl <;> rfl) h63 hby (Nat.le_of_lt rs.sb.lt) ?_
              intro g8 c8 WR26 hown8 hg8 hob8
              have rs9 := rs.app (by decide) hg8 hown8
              have bk8 := rs.sb.grown hg8 (own_blk_ne rs.own rs.sb (by decide))
              have f8 := bk8.frozen 0
              have f8l := bk8.lt
              have f8c := (bk8.cell 0).trans rfl
              have bx8 := HK4.out _ (rs.bel.grown hg8 rs.bel.size (fun b hb => by have := (rs.own.lt b hb).1; have := rs.hg; omega))
              refine hK.out _ _ ?_ (fun hSR27 => ?_)
              · exact bx8
              clear hK K
              try simp only [Act.put, List.setIfInBounds_toArray]
              clear hown8 hg8 hob8 bk8
              refine wpAnyH_take (i := 9) (v := .pointer (some ⟨w4.heap.size, 0, none⟩)) rfl (by kernel_rfl) (by kernel_rfl) (by kernel_rfl) (fun _ _ _ h => h) (Or.inl ⟨by kernel_rfl, ?qR28⟩) (by assumption) ?rqR28
              case qR28 => (intro w hSw; (try dsimp only at hSw); go_simp)
              try simp only [Act.put]
              refine wpAnyH_ready (rs := [10]) (by kernel_rfl) (by simp) ?_
              refine AllReadyH.cons rfl (fun K hK => ?nR29) (AllReadyH.nil)
              go_simp
              refine hK.out _ _ ?_ (fun hSR30 => ?_)
              · exact HK4.out _ rs9.bel
              clear hK K
              try simp only [Act.put, List.setIfInBounds_toArray]
              refine wpAnyH_done (by kernel_rfl) ?_ _
              refine NoPanic.normal ?_
              go_wp2_with fail
              go_roundw
              case rel => exact ⟨j + 1, _, _, by omega, by go_num, by rw [eL.out]; exact rs9⟩
              case measure => simp [intOf]; omega
          · obtain rfl : j = L.length := by omega
            rw [List.take_length] at rs
            obtain ⟨A', c', e, h8, hm8⟩ := own_form rs.own
            injection e with e1 _ e2
            subst e1
            subst e2
            have st6 := st5.below rs.bel
            have bo6 := bo5.below rs.bel bo5.lt
            have hv6 : VfV wo Free B (L.map fun p => (⟨p, []⟩ : Tr.F)) := ⟨_, SA.of_own rs.own (fun b h => False.elim h), rows_files wo L⟩
            have HT := tvalidate_any wo (HM.out _ st6.bel) B c (L.map fun p => (⟨p, []⟩ : Tr.F)) hv6 (by rw [List.length_map]; omega) (by rw [List.length_map]; exact h8)
            rw [List.length_map] at HT
            have HT2 := Lib.hid HT
            have sl6 := hs4.keep (Keeps.below rs.bel fun _ _ h => h)
            have HZ := Lib.hid (fun (h : (Tr.vlF (L.map fun p => (⟨p, []⟩ : Tr.F))).1 = 0) => (Tr.vlF_ok h).1)
            have r0 := (rs.sb.cell 0).trans rfl
            have r1 := rs.sb.lt
            clear p0 p1 p2 f1 f2 l0 l1 hv6 HM bo5 st5 hs4 rs HT
            obtain ⟨p0, p1, p2, f1, f2, l0, l1⟩ := st6.facts
            have o1 := (bo6.cell 1).trans rfl
            have o1l := bo6.lt
            have HR : Hid (∀ P : Tr.prF ⟨2, lo, da⟩ = (([], []), 5), ∀ w', Below w.heap.size w w' → TpPost w X q (.returned (.tuple #[.slice none 0 0, .slice none 0 0, .agg #[.int .i64 5, .int .i64 (-1)]])) w') := Lib.hid fun P w' hb => TpPost.no (by rw [HQ1.out (by rw [P]; decide), P]) hb
            have hfd : ∀ (a b : Int) (W : World), (Instr.field 30 (.agg #[.int .i64 a, .int .i64 b]) 0).run Tryd.prog W = .ok (.int .i64 a) W := fun _ _ _ => by kernel_rfl
            by_cases hz : T = []
            · obtain rfl : zb = true := by rw [← hzb]; exact decide_eq_true hz
              by_cases hn : L.length = lo.length
              · have hn' : ((L.length : Int) != lo.length) = false := by simp [hn]
                by_cases hf : (Tr.vlF (L.map fun p => (⟨p, []⟩ : Tr.F))).1 = 0
                · have HG := Lib.hid (show q = ((L, lo), (0, 0)) from by
                    have h9 := HPO2.out hz hn hf
                    rw [HQ2.out (by rw [h9]), h9])
                  have hHZ := HZ.out hf
                  rw [hHZ] at HT2
                  have HLN := Lib.hid hn
                  clear HR HPM2 HPO2 HQ1 HQ2 HZ hHZ hf hn hz
                  generalize (L.map fun p => (⟨p, []⟩ : Tr.F)) = ft at *
                  go_wp2_with fail
                  go_at_call 24
                  with_reducible refine (HT2.out).mono ?_
                  rintro e w7 ⟨rfl, hb7⟩
                  have st7 := st6.below hb7
                  have bo7 := bo6.below hb7 bo6.lt
                  have sl7 := sl6.keep (Keeps.below hb7 fun _ _ h => h)
                  clear p0 p1 p2 f1 f2 l0 l1 o1 o1l HT2 r0 r1
                  obtain ⟨p0, p1, p2, f1, f2, l0, l1⟩ := st7.facts
                  have o1 := (bo7.cell 1).trans rfl
                  have o1l := bo7.lt
                  go_wp2_with fail
                  go_region
                  all_goals
                    go_wp2_with fail
                    obtain ⟨k1, k2⟩ := st7.put (.int .i64 0) (.int .i64 0)
                    refine bodyPost_ret (results_tt30 rfl _ _ (w.heap.size + 1) (.int .i64 0) (.int .i64 0) rfl k1.drew) rfl ?_
                    rw [HG.out]
                    refine ⟨A4, c4, Al, kl, rfl, ⟨hc4, by show L.length ≤ _; omega, ?_⟩, HLX.out _ (below_drew' k2), hlk, below_drew' k2⟩
                    exact ((sl7.keep ((Keeps.setCell w7 _ ⟨w.heap.size + 1, 0, none⟩ _ hx3.out).trans (Keeps.setCell _ _ ⟨w.heap.size + 1, 1, none⟩ _ hx3.out))).keep (Keeps.drew _ _)).mono fun b hb => Nat.lt_of_lt_of_le hb hsz3
                · have H5 := Lib.hid (HR.out (HPM2.out (.inr (.inr hf))))
                  have hx1 : ((Tr.vlF (L.map fun p => (⟨p, []⟩ : Tr.F))).1 != 0) = true := by simpa using hf
                  clear HR HPM2 HPO2 HQ1 HQ2 HZ hf hn hz
                  generalize (L.map fun p => (⟨p, []⟩ : Tr.F)) = ft at *
                  generalize Tr.vlF ft = f at *
                  obtain ⟨cd, ix⟩ := f
                  simp only at hx1
                  go_wp2_with fail
                  go_at_call 24
                  with_reducible refine (HT2.out).mono ?_
                  rintro e w7 ⟨rfl, hb7⟩
                  have st7 := st6.below hb7
                  clear p0 p1 p2 f1 f2 l0 l1 o1 o1l HT2 r0 r1
                  obtain ⟨p0, p1, p2, f1, f2, l0, l1⟩ := st7.facts
                  go_wp2_with (go_at_call 25; refine (fault_any _ _ _).mono ?_; rintro e w9 ⟨rfl, rfl⟩)
                  obtain ⟨k1, k2⟩ := st7.put (.int .i64 5) (.int .i64 (-1))
                  refine bodyPost_ret (results_tt30 rfl _ _ (w.heap.size + 1) (.int .i64 5) (.int .i64 (-1)) rfl (k1.alloc _)) rfl ?_
                  exact H5.out _ (k2.alloc (by simp [World.setCell]; omega) _)
              · have hn' : ((L.length : Int) != lo.length) = true := by simp; omega
                have H5 := Lib.hid (HR.out (HPM2.out (.inr (.inl hn))))
                clear HR HPM2 HPO2 HQ1 HQ2 HZ hn hz HT2
                go_wp2_with (go_at_call 25; refine (fault_any _ _ _).mono ?_; rintro e w9 ⟨rfl, rfl⟩)
                obtain ⟨k1, k2⟩ := st6.put (.int .i64 5) (.int .i64 (-1))
                refine bodyPost_ret (results_tt30 rfl _ _ (w.heap.size + 1) (.int .i64 5) (.int .i64 (-1)) rfl (k1.alloc _)) rfl ?_
                exact H5.out _ (k2.alloc (by simp [World.setCell]; omega) _)
            · obtain rfl : zb = false := by rw [← hzb]; exact decide_eq_false hz
              have H5 := Lib.hid (HR.out (HPM2.out (.inl hz)))
              clear HR HPM2 HPO2 HQ1 HQ2 HZ hz HT2
              go_wp2_with (go_at_call 25; refine (fault_any _ _ _).mono ?_; rintro e w9 ⟨rfl, rfl⟩)
              obtain ⟨k1, k2⟩ := st6.put (.int .i64 5) (.int .i64 (-1))
              refine bodyPost_ret (results_tt30 rfl _ _ (w.heap.size + 1) (.int .i64 5) (.int .i64 (-1)) rfl (k1.alloc _)) rfl ?_
              exact H5.out _ (k2.alloc (by simp [World.setCell]; omega) _)
      · have hkk : (kk != 2) = true := by simpa using hk
        have H := Lib.hid (show q = (([], []), (8, -1)) from by rw [HQ1.out (by rw [HPK.out hk]; decide), HPK.out hk])
        clear hk HPK HPM HPO HQ1 HQ2 HLX HCU HM
        have HR : Hid (∀ w', Below w.heap.size w w' → TpPost w X q (.returned (.tuple #[.slice none 0 0, .slice none 0 0, .agg #[.int .i64 8, .int .i64 (-1)]])) w') := Lib.hid fun w' hb => TpPost.no H.out hb
        clear H
        generalize TpPost w X q = R at *
        go_wp2_with (go_at_call 25; refine (fault_any _ _ _).mono ?_; rintro e w9 ⟨rfl, rfl⟩)
        obtain ⟨k1, k2⟩ := st3.put (.int .i64 8) (.int .i64 (-1))
        refine bodyPost_ret (results_tt30 rfl _ _ (w.heap.size + 1) (.int .i64 8) (.int .i64 (-1)) rfl ((k1.alloc _).alloc _)) rfl ?_
        exact HR.out _ ((k2.alloc (by simp [World.setCell]; omega) _).alloc (by simp [World.setCell]; omega) _)
end Go.Proofs.YtjljknocnebnaaaDoor
