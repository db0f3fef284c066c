/-
  ObjectsGetMatchesSpec: the law's walk.
-/
import Derived.Test.YtiilhnfdlpgllaaOb10
import Derived.Test.YtiilhnfdlpgllaaOb12
import Derived.Test.YtiilhnfdlpgllaaPk7
namespace Go.Proofs.Ytiilhnfdlpgllaa
open Go.RowKit Go.V
set_option linter.unusedVariables false

/-- Nothing as an object. -/
def zO : Ob.O := ⟨0, [], []⟩
theorem zO_a (w : World) : ObA w Free zO none 0 none 0 := ⟨by simp [I64, zO], fun i h => by simp [zO] at h, by decide, by decide, by decide, by decide, SA.nil, SA.nil⟩
theorem objects_zz (w : World) : Calls Try.prog 24 #[zObj, zObj] w fun e w' => e = .returned (.bool true) ∧ Below w.heap.size w w' := by
  have := objects_any w zO zO none 0 none 0 none 0 none 0 (zO_a w) (zO_a w)
  rw [(eqO_iff zO zO).2 rfl] at this
  exact this
theorem fault_b (w : World) (c i : Int) : Calls Try.prog 18 #[.int .i64 c, .int .i64 i] w fun e w' => e = .returned (.agg #[.int .i64 c, .int .i64 i]) ∧ Below w.heap.size w w' :=
  (fault_any w c i).mono fun e w' ⟨h1, h2⟩ => ⟨h1, h2 ▸ below_alloc1 _ _⟩
set_option maxRecDepth 100000 in
set_option maxHeartbeats 16000000 in
theorem law11_any (w : World) (A : Option Addr) (k : Nat) (s : List Ob.S) (d : Int) (hv : StV w Free A s) (hl64 : s.length ≤ 9223372036854775807) :
    Calls Try.prog 11 #[stV A s.length k, .int .i64 d] w fun e w' => e = .returned (.bool true) ∧ Below w.heap.size w w' := by
  have HV := Lib.hid (fun (w1 : World) (hb : Below w.heap.size w w1) => hv.keep (free_below hb))
  have H16 := Lib.hid (fun (w1 : World) (hb : Below w.heap.size w w1) => storeFault_any w1 A k s (HV.out _ hb) hl64)
  have H35 := Lib.hid (fun (w1 : World) (hb : Below w.heap.size w w1) => has_any w1 A k s d (HV.out _ hb) hl64)
  have H36 := Lib.hid (fun (w1 : World) (hb : Below w.heap.size w w1) => get_any w1 A k s d (HV.out _ hb) hl64)
  have hb0 : Below w.heap.size w w := Below.refl _ _
  clear hv
  go_enter Try.func11, Try.ntmps11
  have bx := Blk.new w 24 #[.slice A s.length k]
  have B0a0 := hb0.alloc hb0.size (.cells #[.slice A s.length k] 24)
  go_wp2_with fail
  go_at_call 28
  refine (oexample_any _).mono ?_
  rintro e w1 ⟨rfl, hb1'⟩
  have B1 := B0a0.trans (hb1'.mono B0a0.size)
  replace bx := bx.below hb1' bx.lt
  have bx_l : w.heap.size < w1.heap.size := bx.lt
  have bx_0 : w1.cell? ⟨w.heap.size, 0, none⟩ = some (.slice A s.length k) := (bx.cell 0).trans rfl
  clear hb1'
  by_cases hbad : (Ob.stF s).1 ≠ 0
  · have K35 := Lib.hid (fun (w1 : World) (hb : Below w.heap.size w w1) => (H35.out w1 hb).mono (fun e w' (h : HsPost w1 s d e w') => show e = .returned (.tuple #[.bool false, .agg #[.int .i64 (Ob.stF s).1, .int .i64 (Ob.stF s).2]]) ∧ Below w1.heap.size w1 w' from
      ⟨h.2.elim (fun h => h.2) (fun h => absurd (by rw [h.1.f]) hbad), h.1⟩))
    have K36 := Lib.hid (fun (w1 : World) (hb : Below w.heap.size w w1) => (H36.out w1 hb).mono (fun e w' (h : GtPost w1 s d e w') => show e = .returned (.tuple #[zObj, .agg #[.int .i64 (Ob.stF s).1, .int .i64 (Ob.stF s).2]]) ∧ Below w1.heap.size w1 w' from
      ⟨h.2.elim (fun h => h.2) (fun h => h.elim (fun h => absurd (by rw [h.1.f]) hbad) (fun h => absurd (by rw [h.1.f]) hbad)), h.1⟩))
    have hx1 : ((Ob.stF s).1 == 0) = false := by simpa using hbad
    have hx2 : ((Ob.stF s).1 != 0) = true := by simpa using hbad
    clear hbad H35 H36 HV
    generalize Ob.stF s = q at *
    obtain ⟨cd, ix⟩ := q
    simp only at hx1 hx2
    go_wp2_with fail
    go_at_call 35
    refine (K35.out _ B1).mono ?_
    rintro e w2 ⟨rfl, hb2'⟩
    have B2 := B1.trans (hb2'.mono B1.size)
    replace bx := bx.below hb2' bx.lt
    clear bx_0 bx_l
    have bx_l : w.heap.size < w2.heap.size := bx.lt
    have bx_0 : w2.cell? ⟨w.heap.size, 0, none⟩ = some (.slice A s.length k) := (bx.cell 0).trans rfl
    clear hb2'
    replace bx := bx.alloc (.cells #[.int .i64 cd, .int .i64 ix] 28)
    have f := Blk.new w2 28 #[.int .i64 cd, .int .i64 ix]
    have B2a0 := B2.alloc B2.size (.cells #[.int .i64 cd, .int .i64 ix] 28)
    go_wp2_with fail
    go_at_call 36
    refine (K36.out _ B2a0).mono ?_
    rintro e w3 ⟨rfl, hb3'⟩
    have B3 := B2a0.trans (hb3'.mono B2a0.size)
    replace bx := bx.below hb3' bx.lt
    replace f := f.below hb3' f.lt
    clear bx_0 bx_l
    have bx_l : w.heap.size < w3.heap.size := bx.lt
    have bx_0 : w3.cell? ⟨w.heap.size, 0, none⟩ = some (.slice A s.length k) := (bx.cell 0).trans rfl
    have f_l : w2.heap.size < w3.heap.size := f.lt
    have f_0 : w3.cell? ⟨w2.heap.size, 0, none⟩ = some (.int .i64 cd) := (f.cell 0).trans rfl
    have f_1 : w3.cell? ⟨w2.heap.size, 1, none⟩ = some (.int .i64 ix) := (f.cell 1).trans rfl
    clear hb3'
    replace bx := bx.alloc (.cells #[.int .i64 0, .slice none 0 0, .slice none 0 0] 44)
    replace f := f.alloc (.cells #[.int .i64 0, .slice none 0 0, .slice none 0 0] 44)
    have o1 := Blk.new w3 44 #[.int .i64 0, .slice none 0 0, .slice none 0 0]
    have B3a0 := B3.alloc B3.size (.cells #[.int .i64 0, .slice none 0 0, .slice none 0 0] 44)
    replace bx := bx.alloc (.cells #[.int .i64 cd, .int .i64 ix] 28)
    replace f := f.alloc (.cells #[.int .i64 cd, .int .i64 ix] 28)
    replace o1 := o1.alloc (.cells #[.int .i64 cd, .int .i64 ix] 28)
    have g : Blk ((w3.alloc (.cells #[.int .i64 0, .slice none 0 0, .slice none 0 0] 44)).alloc (.cells #[.int .i64 cd, .int .i64 ix] 28)) (w3.heap.size + 1) 28 #[.int .i64 cd, .int .i64 ix] := by simpa using Blk.new (w3.alloc (.cells #[.int .i64 0, .slice none 0 0, .slice none 0 0] 44)) 28 #[.int .i64 cd, .int .i64 ix]
    have B3a1 := B3a0.alloc B3a0.size (.cells #[.int .i64 cd, .int .i64 ix] 28)
    go_wp2_with fail
    go_at_call 16
    refine (H16.out _ B3a1).mono ?_
    rintro e w4 ⟨rfl, hb4'⟩
    have B4 := B3a1.trans (hb4'.mono B3a1.size)
    replace bx := bx.below hb4' bx.lt
    replace f := f.below hb4' f.lt
    replace o1 := o1.below hb4' o1.lt
    replace g := g.below hb4' g.lt
    clear bx_0 bx_l f_0 f_1 f_l
    have bx_l : w.heap.size < w4.heap.size := bx.lt
    have bx_0 : w4.cell? ⟨w.heap.size, 0, none⟩ = some (.slice A s.length k) := (bx.cell 0).trans rfl
    have f_l : w2.heap.size < w4.heap.size := f.lt
    have f_0 : w4.cell? ⟨w2.heap.size, 0, none⟩ = some (.int .i64 cd) := (f.cell 0).trans rfl
    have f_1 : w4.cell? ⟨w2.heap.size, 1, none⟩ = some (.int .i64 ix) := (f.cell 1).trans rfl
    have o1_l : w3.heap.size < w4.heap.size := o1.lt
    have o1_0 : w4.cell? ⟨w3.heap.size, 0, none⟩ = some (.int .i64 0) := (o1.cell 0).trans rfl
    have o1_1 : w4.cell? ⟨w3.heap.size, 1, none⟩ = some (.slice none 0 0) := (o1.cell 1).trans rfl
    have o1_2 : w4.cell? ⟨w3.heap.size, 2, none⟩ = some (.slice none 0 0) := (o1.cell 2).trans rfl
    have g_l : w3.heap.size + 1 < w4.heap.size := g.lt
    have g_0 : w4.cell? ⟨w3.heap.size + 1, 0, none⟩ = some (.int .i64 cd) := (g.cell 0).trans rfl
    have g_1 : w4.cell? ⟨w3.heap.size + 1, 1, none⟩ = some (.int .i64 ix) := (g.cell 1).trans rfl
    clear hb4'
    replace bx := bx.alloc (.cells #[.int .i64 cd, .int .i64 ix] 28)
    replace f := f.alloc (.cells #[.int .i64 cd, .int .i64 ix] 28)
    replace o1 := o1.alloc (.cells #[.int .i64 cd, .int .i64 ix] 28)
    replace g := g.alloc (.cells #[.int .i64 cd, .int .i64 ix] 28)
    have v := Blk.new w4 28 #[.int .i64 cd, .int .i64 ix]
    have B4a0 := B4.alloc B4.size (.cells #[.int .i64 cd, .int .i64 ix] 28)
    go_wp2_with fail
    go_at_call 24
    refine (objects_zz _).mono ?_
    rintro e w5 ⟨rfl, hb5'⟩
    have B5 := B4a0.trans (hb5'.mono B4a0.size)
    replace bx := bx.below hb5' bx.lt
    replace f := f.below hb5' f.lt
    replace o1 := o1.below hb5' o1.lt
    replace g := g.below hb5' g.lt
    replace v := v.below hb5' v.lt
    clear bx_0 bx_l f_0 f_1 f_l g_0 g_1 g_l o1_0 o1_1 o1_2 o1_l
    have bx_l : w.heap.size < w5.heap.size := bx.lt
    have bx_0 : w5.cell? ⟨w.heap.size, 0, none⟩ = some (.slice A s.length k) := (bx.cell 0).trans rfl
    have f_l : w2.heap.size < w5.heap.size := f.lt
    have f_0 : w5.cell? ⟨w2.heap.size, 0, none⟩ = some (.int .i64 cd) := (f.cell 0).trans rfl
    have f_1 : w5.cell? ⟨w2.heap.size, 1, none⟩ = some (.int .i64 ix) := (f.cell 1).trans rfl
    have o1_l : w3.heap.size < w5.heap.size := o1.lt
    have o1_0 : w5.cell? ⟨w3.heap.size, 0, none⟩ = some (.int .i64 0) := (o1.cell 0).trans rfl
    have o1_1 : w5.cell? ⟨w3.heap.size, 1, none⟩ = some (.slice none 0 0) := (o1.cell 1).trans rfl
    have o1_2 : w5.cell? ⟨w3.heap.size, 2, none⟩ = some (.slice none 0 0) := (o1.cell 2).trans rfl
    have g_l : w3.heap.size + 1 < w5.heap.size := g.lt
    have g_0 : w5.cell? ⟨w3.heap.size + 1, 0, none⟩ = some (.int .i64 cd) := (g.cell 0).trans rfl
    have g_1 : w5.cell? ⟨w3.heap.size + 1, 1, none⟩ = some (.int .i64 ix) := (g.cell 1).trans rfl
    have v_l : w4.heap.size < w5.heap.size := v.lt
    have v_0 : w5.cell? ⟨w4.heap.size, 0, none⟩ = some (.int .i64 cd) := (v.cell 0).trans rfl
    have v_1 : w5.cell? ⟨w4.heap.size, 1, none⟩ = some (.int .i64 ix) := (v.cell 1).trans rfl
    clear hb5'
    go_wp2_with fail
    go_ret
    exact ⟨rfl, B5⟩
  · have hz := (Ob.stF_ok (by simpa using hbad)).1
    have hok := (Ob.stF_ok (by simpa using hbad)).2
    have hsl := hok.len
    rw [hz] at H16
    have H27 := Lib.hid (fun (w1 : World) (hb : Below w.heap.size w w1) => at_any w1 A k s d (HV.out _ hb) (by omega))
    rw [Ob.at_sorted hok.sorted d] at H27
    have K35 := Lib.hid (fun (w1 : World) (hb : Below w.heap.size w w1) => (H35.out w1 hb).mono (fun e w' (h : HsPost w1 s d e w') => show e = .returned (.tuple #[.bool (Ob.fnd s d), .agg #[.int .i64 0, .int .i64 0]]) ∧ Below w1.heap.size w1 w' from
      ⟨h.2.elim (fun h => absurd h.1 hbad) (fun h => h.2), h.1⟩))
    clear H35
    by_cases hf : Ob.fnd s d = true
    · have K36 := Lib.hid (fun (w1 : World) (hb : Below w.heap.size w w1) => (H36.out w1 hb).mono (fun e w' (h : GtPost w1 s d e w') => show ∃ A1 k1 A2 k2, e = .returned (.tuple #[obV (Ob.it s (Ob.lb s d)).ob A1 k1 A2 k2, .agg #[.int .i64 0, .int .i64 0]]) ∧ ObA w' Free (Ob.it s (Ob.lb s d)).ob A1 k1 A2 k2 ∧ Below w1.heap.size w1 w' from by
        obtain ⟨hb, h | h | h⟩ := h
        · exact absurd h.1 hbad
        · rw [hf] at h; exact absurd h.2.1 (by simp)
        · obtain ⟨_, _, A1, k1, A2, k2, e1, h1⟩ := h
          exact ⟨A1, k1, A2, k2, e1, h1.mono_ (fun _ h => h.elim), hb⟩))
      rw [if_pos hf] at H27
      rw [hf] at K35
      have hpl : Ob.lb s d < s.length := by
        have h := hf; unfold Ob.fnd at h; rw [Bool.and_eq_true] at h; simpa using h.1
      have HROW := Lib.hid ((HV.out w (Below.refl _ _)).row _ hpl)
      clear hbad hf H36 HV hz hok
      generalize Ob.it s (Ob.lb s d) = x at *
      generalize Ob.lb s d = p at *
      obtain ⟨b, off, Al, kl, Ad, kd, eA, hb, _, d0, d1, d2, d3, _, hob⟩ := HROW.out
      subst eA
      obtain ⟨xd, kk, ls, da⟩ := x
      simp only at *
      have HOB := Lib.hid (fun (w1 : World) (hb : Below w.heap.size w w1) A1 k1 A2 k2 (h1 : ObA w1 Free ⟨kk, ls, da⟩ A1 k1 A2 k2) => show Calls Try.prog 24 #[obV ⟨kk, ls, da⟩ A1 k1 A2 k2, obV ⟨kk, ls, da⟩ Al kl Ad kd] w1 (fun e w' => e = .returned (.bool true) ∧ Below w1.heap.size w1 w') from by
        have h := objects_any w1 ⟨kk, ls, da⟩ ⟨kk, ls, da⟩ A1 k1 A2 k2 Al kl Ad kd h1 (hob.keep (free_below hb))
        rw [(eqO_iff _ _).2 rfl] at h
        exact h)
      have hpi : (p : Int) < s.length := by omega
      have hp0 : (0 : Int) ≤ p := by omega
      clear hob HROW
      go_wp2_with fail
      go_at_call 35
      refine (K35.out _ B1).mono ?_
      rintro e w2 ⟨rfl, hb2'⟩
      have B2 := B1.trans (hb2'.mono B1.size)
      replace bx := bx.below hb2' bx.lt
      clear bx_0 bx_l
      have bx_l : w.heap.size < w2.heap.size := bx.lt
      have bx_0 : w2.cell? ⟨w.heap.size, 0, none⟩ = some (.slice (some ⟨b, off, none⟩) s.length k) := (bx.cell 0).trans rfl
      clear hb2'
      replace bx := bx.alloc (.cells #[.int .i64 0, .int .i64 0] 28)
      have f := Blk.new w2 28 #[.int .i64 0, .int .i64 0]
      have B2a0 := B2.alloc B2.size (.cells #[.int .i64 0, .int .i64 0] 28)
      have hq3 := Below.refl w.heap.size w
      go_wp2_with fail
      go_at_call 36
      refine (K36.out _ B2a0).mono ?_
      rintro e w9 ⟨A1, k1, A2, k2, rfl, hob9, hb9'⟩
      have HB9 := Lib.hid hob9
      clear hob9 hq3
      have B3 := B2a0.trans (hb9'.mono B2a0.size)
      replace bx := bx.below hb9' bx.lt
      replace f := f.below hb9' f.lt
      clear bx_0 bx_l
      have bx_l : w.heap.size < w9.heap.size := bx.lt
      have bx_0 : w9.cell? ⟨w.heap.size, 0, none⟩ = some (.slice (some ⟨b, off, none⟩) s.length k) := (bx.cell 0).trans rfl
      have f_l : w2.heap.size < w9.heap.size := f.lt
      have f_0 : w9.cell? ⟨w2.heap.size, 0, none⟩ = some (.int .i64 0) := (f.cell 0).trans rfl
      have f_1 : w9.cell? ⟨w2.heap.size, 1, none⟩ = some (.int .i64 0) := (f.cell 1).trans rfl
      clear hb9'
      replace bx := bx.alloc (.cells #[.int .i64 kk, .slice A1 ls.length k1, .slice A2 da.length k2] 44)
      replace f := f.alloc (.cells #[.int .i64 kk, .slice A1 ls.length k1, .slice A2 da.length k2] 44)
      have o1 := Blk.new w9 44 #[.int .i64 kk, .slice A1 ls.length k1, .slice A2 da.length k2]
      have B3a0 := B3.alloc B3.size (.cells #[.int .i64 kk, .slice A1 ls.length k1, .slice A2 da.length k2] 44)
      replace bx := bx.alloc (.cells #[.int .i64 0, .int .i64 0] 28)
      replace f := f.alloc (.cells #[.int .i64 0, .int .i64 0] 28)
      replace o1 := o1.alloc (.cells #[.int .i64 0, .int .i64 0] 28)
      have g : Blk ((w9.alloc (.cells #[.int .i64 kk, .slice A1 ls.length k1, .slice A2 da.length k2] 44)).alloc (.cells #[.int .i64 0, .int .i64 0] 28)) (w9.heap.size + 1) 28 #[.int .i64 0, .int .i64 0] := by simpa using Blk.new (w9.alloc (.cells #[.int .i64 kk, .slice A1 ls.length k1, .slice A2 da.length k2] 44)) 28 #[.int .i64 0, .int .i64 0]
      have B3a1 := B3a0.alloc B3a0.size (.cells #[.int .i64 0, .int .i64 0] 28)
      have hob9a := HB9.out.keep (free_below (below_alloc2 w9 (.cells #[.int .i64 kk, .slice A1 ls.length k1, .slice A2 da.length k2] 44) (.cells #[.int .i64 0, .int .i64 0] 28)))
      have HB9a := Lib.hid hob9a
      clear hob9a
      go_wp2_with fail
      go_at_call 16
      refine (H16.out _ B3a1).mono ?_
      rintro e w10 ⟨rfl, hb10'⟩
      have HB10 := Lib.hid ((HB9a.out.keep (free_below hb10')).keep (free_below (below_alloc1 w10 (.cells #[.int .i64 0, .int .i64 0] 28))))
      have B4 := B3a1.trans (hb10'.mono B3a1.size)
      replace bx := bx.below hb10' bx.lt
      replace f := f.below hb10' f.lt
      replace o1 := o1.below hb10' o1.lt
      replace g := g.below hb10' g.lt
      clear bx_0 bx_l f_0 f_1 f_l
      have bx_l : w.heap.size < w10.heap.size := bx.lt
      have bx_0 : w10.cell? ⟨w.heap.size, 0, none⟩ = some (.slice (some ⟨b, off, none⟩) s.length k) := (bx.cell 0).trans rfl
      have f_l : w2.heap.size < w10.heap.size := f.lt
      have f_0 : w10.cell? ⟨w2.heap.size, 0, none⟩ = some (.int .i64 0) := (f.cell 0).trans rfl
      have f_1 : w10.cell? ⟨w2.heap.size, 1, none⟩ = some (.int .i64 0) := (f.cell 1).trans rfl
      have o1_l : w9.heap.size < w10.heap.size := o1.lt
      have o1_0 : w10.cell? ⟨w9.heap.size, 0, none⟩ = some (.int .i64 kk) := (o1.cell 0).trans rfl
      have o1_1 : w10.cell? ⟨w9.heap.size, 1, none⟩ = some (.slice A1 ls.length k1) := (o1.cell 1).trans rfl
      have o1_2 : w10.cell? ⟨w9.heap.size, 2, none⟩ = some (.slice A2 da.length k2) := (o1.cell 2).trans rfl
      have g_l : w9.heap.size + 1 < w10.heap.size := g.lt
      have g_0 : w10.cell? ⟨w9.heap.size + 1, 0, none⟩ = some (.int .i64 0) := (g.cell 0).trans rfl
      have g_1 : w10.cell? ⟨w9.heap.size + 1, 1, none⟩ = some (.int .i64 0) := (g.cell 1).trans rfl
      clear hb10'
      replace bx := bx.alloc (.cells #[.int .i64 0, .int .i64 0] 28)
      replace f := f.alloc (.cells #[.int .i64 0, .int .i64 0] 28)
      replace o1 := o1.alloc (.cells #[.int .i64 0, .int .i64 0] 28)
      replace g := g.alloc (.cells #[.int .i64 0, .int .i64 0] 28)
      have v := Blk.new w10 28 #[.int .i64 0, .int .i64 0]
      have B4a0 := B4.alloc B4.size (.cells #[.int .i64 0, .int .i64 0] 28)
      go_wp2_with fail
      go_at_call 27
      refine (H27.out _ B4a0).mono ?_
      rintro e w11 ⟨rfl, hb11'⟩
      have HB11 := Lib.hid (HB10.out.keep (free_below hb11'))
      have B5 := B4a0.trans (hb11'.mono B4a0.size)
      replace bx := bx.below hb11' bx.lt
      replace f := f.below hb11' f.lt
      replace o1 := o1.below hb11' o1.lt
      replace g := g.below hb11' g.lt
      replace v := v.below hb11' v.lt
      clear bx_0 bx_l f_0 f_1 f_l g_0 g_1 g_l o1_0 o1_1 o1_2 o1_l
      have bx_l : w.heap.size < w11.heap.size := bx.lt
      have bx_0 : w11.cell? ⟨w.heap.size, 0, none⟩ = some (.slice (some ⟨b, off, none⟩) s.length k) := (bx.cell 0).trans rfl
      have f_l : w2.heap.size < w11.heap.size := f.lt
      have f_0 : w11.cell? ⟨w2.heap.size, 0, none⟩ = some (.int .i64 0) := (f.cell 0).trans rfl
      have f_1 : w11.cell? ⟨w2.heap.size, 1, none⟩ = some (.int .i64 0) := (f.cell 1).trans rfl
      have o1_l : w9.heap.size < w11.heap.size := o1.lt
      have o1_0 : w11.cell? ⟨w9.heap.size, 0, none⟩ = some (.int .i64 kk) := (o1.cell 0).trans rfl
      have o1_1 : w11.cell? ⟨w9.heap.size, 1, none⟩ = some (.slice A1 ls.length k1) := (o1.cell 1).trans rfl
      have o1_2 : w11.cell? ⟨w9.heap.size, 2, none⟩ = some (.slice A2 da.length k2) := (o1.cell 2).trans rfl
      have g_l : w9.heap.size + 1 < w11.heap.size := g.lt
      have g_0 : w11.cell? ⟨w9.heap.size + 1, 0, none⟩ = some (.int .i64 0) := (g.cell 0).trans rfl
      have g_1 : w11.cell? ⟨w9.heap.size + 1, 1, none⟩ = some (.int .i64 0) := (g.cell 1).trans rfl
      have v_l : w10.heap.size < w11.heap.size := v.lt
      have v_0 : w11.cell? ⟨w10.heap.size, 0, none⟩ = some (.int .i64 0) := (v.cell 0).trans rfl
      have v_1 : w11.cell? ⟨w10.heap.size, 1, none⟩ = some (.int .i64 0) := (v.cell 1).trans rfl
      clear hb11'
      have e1 := (B5.cell (p := ⟨b, off + p * 4 + 1, none⟩) hb).trans d1
      have e2 := (B5.cell (p := ⟨b, off + p * 4 + 2, none⟩) hb).trans d2
      have e3 := (B5.cell (p := ⟨b, off + p * 4 + 3, none⟩) hb).trans d3
      have el : b < w11.heap.size := Nat.lt_of_lt_of_le hb B5.size
      clear d0 d1 d2 d3
      have hobd := HB11.out.keep (free_below (below_drew' (Below.refl w11.heap.size w11)))
      have hkr6_0 : Below w11.heap.size w11 w11.drew := below_drew' (Below.refl _ _)
      have HKr6 : Hid (∀ w6 : World, Below w11.heap.size w11 w6 → w6.cell? ⟨w.heap.size, 0, none⟩ = some (.slice (some ⟨b, off, none⟩) s.length k) ∧ w6.cell? ⟨w2.heap.size, 0, none⟩ = some (.int .i64 0) ∧ w6.cell? ⟨w2.heap.size, 1, none⟩ = some (.int .i64 0) ∧ w6.cell? ⟨w9.heap.size, 0, none⟩ = some (.int .i64 kk) ∧ w6.cell? ⟨w9.heap.size, 1, none⟩ = some (.slice A1 ls.length k1) ∧ w6.cell? ⟨w9.heap.size, 2, none⟩ = some (.slice A2 da.length k2) ∧ w6.cell? ⟨w9.heap.size + 1, 0, none⟩ = some (.int .i64 0) ∧ w6.cell? ⟨w9.heap.size + 1, 1, none⟩ = some (.int .i64 0) ∧ w6.cell? ⟨b, off + p * 4 + 1, none⟩ = some (.int .i64 kk) ∧ w6.cell? ⟨b, off + p * 4 + 1 + 1, none⟩ = some (.slice Al ls.length kl) ∧ w6.cell? ⟨b, off + p * 4 + 1 + 2, none⟩ = some (.slice Ad da.length kd)) := Lib.hid fun w6 h6 => ⟨(h6.cell (p := ⟨_, _, none⟩) bx_l).trans bx_0, (h6.cell (p := ⟨_, _, none⟩) f_l).trans f_0, (h6.cell (p := ⟨_, _, none⟩) f_l).trans f_1, (h6.cell (p := ⟨_, _, none⟩) o1_l).trans o1_0, (h6.cell (p := ⟨_, _, none⟩) o1_l).trans o1_1, (h6.cell (p := ⟨_, _, none⟩) o1_l).trans o1_2, (h6.cell (p := ⟨_, _, none⟩) g_l).trans g_0, (h6.cell (p := ⟨_, _, none⟩) g_l).trans g_1, (h6.cell (p := ⟨_, _, none⟩) el).trans e1, (h6.cell (p := ⟨_, _, none⟩) el).trans e2, (h6.cell (p := ⟨_, _, none⟩) el).trans e3⟩
      go_wp2_with fail
      go_region_held3 (fun w6 => w6.cell? ⟨w.heap.size, 0, none⟩ = some (.slice (some ⟨b, off, none⟩) s.length k) ∧ w6.cell? ⟨w2.heap.size, 0, none⟩ = some (.int .i64 0) ∧ w6.cell? ⟨w2.heap.size, 1, none⟩ = some (.int .i64 0) ∧ w6.cell? ⟨w9.heap.size, 0, none⟩ = some (.int .i64 kk) ∧ w6.cell? ⟨w9.heap.size, 1, none⟩ = some (.slice A1 ls.length k1) ∧ w6.cell? ⟨w9.heap.size, 2, none⟩ = some (.slice A2 da.length k2) ∧ w6.cell? ⟨w9.heap.size + 1, 0, none⟩ = some (.int .i64 0) ∧ w6.cell? ⟨w9.heap.size + 1, 1, none⟩ = some (.int .i64 0) ∧ w6.cell? ⟨b, off + p * 4 + 1, none⟩ = some (.int .i64 kk) ∧ w6.cell? ⟨b, off + p * 4 + 1 + 1, none⟩ = some (.slice Al ls.length kl) ∧ w6.cell? ⟨b, off + p * 4 + 1 + 2, none⟩ = some (.slice Ad da.length kd))
        (first | exact HKr6.out _ hkr6_0 | exact HKr6.out _ hkr6_1)
        (first | (go_at_call 24; (with_reducible refine (HOB.out _ (B5.trans (hkr6_0.mono B5.size)) _ _ _ _ hobd).mono ?_); rintro e vr6_1 ⟨rfl, hvr6_1⟩; have hkr6_1 : Below w11.heap.size w11 vr6_1 := hkr6_0.trans (hvr6_1.mono hkr6_0.size)))
      have B6 := B5.trans (hkr6_1.mono B5.size)
      replace bx := bx.below hkr6_1 bx.lt
      replace f := f.below hkr6_1 f.lt
      replace o1 := o1.below hkr6_1 o1.lt
      replace g := g.below hkr6_1 g.lt
      replace v := v.below hkr6_1 v.lt
      clear bx_0 bx_l f_0 f_1 f_l g_0 g_1 g_l o1_0 o1_1 o1_2 o1_l v_0 v_1 v_l
      have bx_l : w.heap.size < vr6_1.heap.size := bx.lt
      have bx_0 : vr6_1.cell? ⟨w.heap.size, 0, none⟩ = some (.slice (some ⟨b, off, none⟩) s.length k) := (bx.cell 0).trans rfl
      have f_l : w2.heap.size < vr6_1.heap.size := f.lt
      have f_0 : vr6_1.cell? ⟨w2.heap.size, 0, none⟩ = some (.int .i64 0) := (f.cell 0).trans rfl
      have f_1 : vr6_1.cell? ⟨w2.heap.size, 1, none⟩ = some (.int .i64 0) := (f.cell 1).trans rfl
      have o1_l : w9.heap.size < vr6_1.heap.size := o1.lt
      have o1_0 : vr6_1.cell? ⟨w9.heap.size, 0, none⟩ = some (.int .i64 kk) := (o1.cell 0).trans rfl
      have o1_1 : vr6_1.cell? ⟨w9.heap.size, 1, none⟩ = some (.slice A1 ls.length k1) := (o1.cell 1).trans rfl
      have o1_2 : vr6_1.cell? ⟨w9.heap.size, 2, none⟩ = some (.slice A2 da.length k2) := (o1.cell 2).trans rfl
      have g_l : w9.heap.size + 1 < vr6_1.heap.size := g.lt
      have g_0 : vr6_1.cell? ⟨w9.heap.size + 1, 0, none⟩ = some (.int .i64 0) := (g.cell 0).trans rfl
      have g_1 : vr6_1.cell? ⟨w9.heap.size + 1, 1, none⟩ = some (.int .i64 0) := (g.cell 1).trans rfl
      have v_l : w10.heap.size < vr6_1.heap.size := v.lt
      have v_0 : vr6_1.cell? ⟨w10.heap.size, 0, none⟩ = some (.int .i64 0) := (v.cell 0).trans rfl
      have v_1 : vr6_1.cell? ⟨w10.heap.size, 1, none⟩ = some (.int .i64 0) := (v.cell 1).trans rfl
      clear HKr6
      go_wp2_with fail
      go_ret
      exact ⟨rfl, B6⟩
    · have hff : Ob.fnd s d = false := by simpa using hf
      have K36 := Lib.hid (fun (w1 : World) (hb : Below w.heap.size w w1) => (H36.out w1 hb).mono (fun e w' (h : GtPost w1 s d e w') => show e = .returned (.tuple #[zObj, .agg #[.int .i64 6, .int .i64 (-1)]]) ∧ Below w1.heap.size w1 w' from by
        obtain ⟨hb, h | h | h⟩ := h
        · exact absurd h.1 hbad
        · exact ⟨h.2.2, hb⟩
        · rw [hff] at h; exact absurd h.2.1 (by simp)))
      rw [if_neg hf] at H27
      rw [hff] at K35
      clear hbad hf hff H36 HV hz hok
      go_wp2_with fail
      go_at_call 35
      refine (K35.out _ B1).mono ?_
      rintro e w2 ⟨rfl, hb2'⟩
      have B2 := B1.trans (hb2'.mono B1.size)
      replace bx := bx.below hb2' bx.lt
      clear bx_0 bx_l
      have bx_l : w.heap.size < w2.heap.size := bx.lt
      have bx_0 : w2.cell? ⟨w.heap.size, 0, none⟩ = some (.slice A s.length k) := (bx.cell 0).trans rfl
      clear hb2'
      replace bx := bx.alloc (.cells #[.int .i64 0, .int .i64 0] 28)
      have f := Blk.new w2 28 #[.int .i64 0, .int .i64 0]
      have B2a0 := B2.alloc B2.size (.cells #[.int .i64 0, .int .i64 0] 28)
      go_wp2_with fail
      go_at_call 36
      refine (K36.out _ B2a0).mono ?_
      rintro e w3 ⟨rfl, hb3'⟩
      have B3 := B2a0.trans (hb3'.mono B2a0.size)
      replace bx := bx.below hb3' bx.lt
      replace f := f.below hb3' f.lt
      clear bx_0 bx_l
      have bx_l : w.heap.size < w3.heap.size := bx.lt
      have bx_0 : w3.cell? ⟨w.heap.size, 0, none⟩ = some (.slice A s.length k) := (bx.cell 0).trans rfl
      have f_l : w2.heap.size < w3.heap.size := f.lt
      have f_0 : w3.cell? ⟨w2.heap.size, 0, none⟩ = some (.int .i64 0) := (f.cell 0).trans rfl
      have f_1 : w3.cell? ⟨w2.heap.size, 1, none⟩ = some (.int .i64 0) := (f.cell 1).trans rfl
      clear hb3'
      replace bx := bx.alloc (.cells #[.int .i64 0, .slice none 0 0, .slice none 0 0] 44)
      replace f := f.alloc (.cells #[.int .i64 0, .slice none 0 0, .slice none 0 0] 44)
      have o1 := Blk.new w3 44 #[.int .i64 0, .slice none 0 0, .slice none 0 0]
      have B3a0 := B3.alloc B3.size (.cells #[.int .i64 0, .slice none 0 0, .slice none 0 0] 44)
      replace bx := bx.alloc (.cells #[.int .i64 6, .int .i64 (-1)] 28)
      replace f := f.alloc (.cells #[.int .i64 6, .int .i64 (-1)] 28)
      replace o1 := o1.alloc (.cells #[.int .i64 6, .int .i64 (-1)] 28)
      have g : Blk ((w3.alloc (.cells #[.int .i64 0, .slice none 0 0, .slice none 0 0] 44)).alloc (.cells #[.int .i64 6, .int .i64 (-1)] 28)) (w3.heap.size + 1) 28 #[.int .i64 6, .int .i64 (-1)] := by simpa using Blk.new (w3.alloc (.cells #[.int .i64 0, .slice none 0 0, .slice none 0 0] 44)) 28 #[.int .i64 6, .int .i64 (-1)]
      have B3a1 := B3a0.alloc B3a0.size (.cells #[.int .i64 6, .int .i64 (-1)] 28)
      go_wp2_with fail
      go_at_call 16
      refine (H16.out _ B3a1).mono ?_
      rintro e w4 ⟨rfl, hb4'⟩
      have B4 := B3a1.trans (hb4'.mono B3a1.size)
      replace bx := bx.below hb4' bx.lt
      replace f := f.below hb4' f.lt
      replace o1 := o1.below hb4' o1.lt
      replace g := g.below hb4' g.lt
      clear bx_0 bx_l f_0 f_1 f_l
      have bx_l : w.heap.size < w4.heap.size := bx.lt
      have bx_0 : w4.cell? ⟨w.heap.size, 0, none⟩ = some (.slice A s.length k) := (bx.cell 0).trans rfl
      have f_l : w2.heap.size < w4.heap.size := f.lt
      have f_0 : w4.cell? ⟨w2.heap.size, 0, none⟩ = some (.int .i64 0) := (f.cell 0).trans rfl
      have f_1 : w4.cell? ⟨w2.heap.size, 1, none⟩ = some (.int .i64 0) := (f.cell 1).trans rfl
      have o1_l : w3.heap.size < w4.heap.size := o1.lt
      have o1_0 : w4.cell? ⟨w3.heap.size, 0, none⟩ = some (.int .i64 0) := (o1.cell 0).trans rfl
      have o1_1 : w4.cell? ⟨w3.heap.size, 1, none⟩ = some (.slice none 0 0) := (o1.cell 1).trans rfl
      have o1_2 : w4.cell? ⟨w3.heap.size, 2, none⟩ = some (.slice none 0 0) := (o1.cell 2).trans rfl
      have g_l : w3.heap.size + 1 < w4.heap.size := g.lt
      have g_0 : w4.cell? ⟨w3.heap.size + 1, 0, none⟩ = some (.int .i64 6) := (g.cell 0).trans rfl
      have g_1 : w4.cell? ⟨w3.heap.size + 1, 1, none⟩ = some (.int .i64 (-1)) := (g.cell 1).trans rfl
      clear hb4'
      replace bx := bx.alloc (.cells #[.int .i64 0, .int .i64 0] 28)
      replace f := f.alloc (.cells #[.int .i64 0, .int .i64 0] 28)
      replace o1 := o1.alloc (.cells #[.int .i64 0, .int .i64 0] 28)
      replace g := g.alloc (.cells #[.int .i64 0, .int .i64 0] 28)
      have v := Blk.new w4 28 #[.int .i64 0, .int .i64 0]
      have B4a0 := B4.alloc B4.size (.cells #[.int .i64 0, .int .i64 0] 28)
      go_wp2_with fail
      go_at_call 27
      refine (H27.out _ B4a0).mono ?_
      rintro e w5 ⟨rfl, hb5'⟩
      have B5 := B4a0.trans (hb5'.mono B4a0.size)
      replace bx := bx.below hb5' bx.lt
      replace f := f.below hb5' f.lt
      replace o1 := o1.below hb5' o1.lt
      replace g := g.below hb5' g.lt
      replace v := v.below hb5' v.lt
      clear bx_0 bx_l f_0 f_1 f_l g_0 g_1 g_l o1_0 o1_1 o1_2 o1_l
      have bx_l : w.heap.size < w5.heap.size := bx.lt
      have bx_0 : w5.cell? ⟨w.heap.size, 0, none⟩ = some (.slice A s.length k) := (bx.cell 0).trans rfl
      have f_l : w2.heap.size < w5.heap.size := f.lt
      have f_0 : w5.cell? ⟨w2.heap.size, 0, none⟩ = some (.int .i64 0) := (f.cell 0).trans rfl
      have f_1 : w5.cell? ⟨w2.heap.size, 1, none⟩ = some (.int .i64 0) := (f.cell 1).trans rfl
      have o1_l : w3.heap.size < w5.heap.size := o1.lt
      have o1_0 : w5.cell? ⟨w3.heap.size, 0, none⟩ = some (.int .i64 0) := (o1.cell 0).trans rfl
      have o1_1 : w5.cell? ⟨w3.heap.size, 1, none⟩ = some (.slice none 0 0) := (o1.cell 1).trans rfl
      have o1_2 : w5.cell? ⟨w3.heap.size, 2, none⟩ = some (.slice none 0 0) := (o1.cell 2).trans rfl
      have g_l : w3.heap.size + 1 < w5.heap.size := g.lt
      have g_0 : w5.cell? ⟨w3.heap.size + 1, 0, none⟩ = some (.int .i64 6) := (g.cell 0).trans rfl
      have g_1 : w5.cell? ⟨w3.heap.size + 1, 1, none⟩ = some (.int .i64 (-1)) := (g.cell 1).trans rfl
      have v_l : w4.heap.size < w5.heap.size := v.lt
      have v_0 : w5.cell? ⟨w4.heap.size, 0, none⟩ = some (.int .i64 0) := (v.cell 0).trans rfl
      have v_1 : w5.cell? ⟨w4.heap.size, 1, none⟩ = some (.int .i64 0) := (v.cell 1).trans rfl
      clear hb5'
      have hkr6_0 : Below w5.heap.size w5 w5.drew := below_drew' (Below.refl _ _)
      have HKr6 : Hid (∀ w6 : World, Below w5.heap.size w5 w6 → w6.cell? ⟨w2.heap.size, 0, none⟩ = some (.int .i64 0) ∧ w6.cell? ⟨w2.heap.size, 1, none⟩ = some (.int .i64 0) ∧ w6.cell? ⟨w3.heap.size, 0, none⟩ = some (.int .i64 0) ∧ w6.cell? ⟨w3.heap.size, 1, none⟩ = some (.slice none 0 0) ∧ w6.cell? ⟨w3.heap.size, 2, none⟩ = some (.slice none 0 0) ∧ w6.cell? ⟨w3.heap.size + 1, 0, none⟩ = some (.int .i64 6) ∧ w6.cell? ⟨w3.heap.size + 1, 1, none⟩ = some (.int .i64 (-1))) := Lib.hid fun w6 h6 => ⟨(h6.cell (p := ⟨_, _, none⟩) f_l).trans f_0, (h6.cell (p := ⟨_, _, none⟩) f_l).trans f_1, (h6.cell (p := ⟨_, _, none⟩) o1_l).trans o1_0, (h6.cell (p := ⟨_, _, none⟩) o1_l).trans o1_1, (h6.cell (p := ⟨_, _, none⟩) o1_l).trans o1_2, (h6.cell (p := ⟨_, _, none⟩) g_l).trans g_0, (h6.cell (p := ⟨_, _, none⟩) g_l).trans g_1⟩
      go_wp2_with fail
      go_region_held3 (fun w6 => w6.cell? ⟨w2.heap.size, 0, none⟩ = some (.int .i64 0) ∧ w6.cell? ⟨w2.heap.size, 1, none⟩ = some (.int .i64 0) ∧ w6.cell? ⟨w3.heap.size, 0, none⟩ = some (.int .i64 0) ∧ w6.cell? ⟨w3.heap.size, 1, none⟩ = some (.slice none 0 0) ∧ w6.cell? ⟨w3.heap.size, 2, none⟩ = some (.slice none 0 0) ∧ w6.cell? ⟨w3.heap.size + 1, 0, none⟩ = some (.int .i64 6) ∧ w6.cell? ⟨w3.heap.size + 1, 1, none⟩ = some (.int .i64 (-1)))
        (first | exact HKr6.out _ hkr6_0 | exact HKr6.out _ hkr6_1 | exact HKr6.out _ hkr6_2)
        (first | (go_at_call 18; (with_reducible refine (fault_b _ _ _).mono ?_); rintro e vr6_1 ⟨rfl, hvr6_1⟩; have hkr6_1 : Below w5.heap.size w5 vr6_1 := hkr6_0.trans (hvr6_1.mono hkr6_0.size)) | (go_at_call 24; (with_reducible refine (objects_zz _).mono ?_); rintro e vr6_2 ⟨rfl, hvr6_2⟩; have hkr6_2 : Below w5.heap.size w5 vr6_2 := hkr6_1.trans (hvr6_2.mono hkr6_1.size)))
      have B6 := B5.trans (hkr6_2.mono B5.size)
      replace bx := bx.below hkr6_2 bx.lt
      replace f := f.below hkr6_2 f.lt
      replace o1 := o1.below hkr6_2 o1.lt
      replace g := g.below hkr6_2 g.lt
      replace v := v.below hkr6_2 v.lt
      clear bx_0 bx_l f_0 f_1 f_l g_0 g_1 g_l o1_0 o1_1 o1_2 o1_l v_0 v_1 v_l
      have bx_l : w.heap.size < vr6_2.heap.size := bx.lt
      have bx_0 : vr6_2.cell? ⟨w.heap.size, 0, none⟩ = some (.slice A s.length k) := (bx.cell 0).trans rfl
      have f_l : w2.heap.size < vr6_2.heap.size := f.lt
      have f_0 : vr6_2.cell? ⟨w2.heap.size, 0, none⟩ = some (.int .i64 0) := (f.cell 0).trans rfl
      have f_1 : vr6_2.cell? ⟨w2.heap.size, 1, none⟩ = some (.int .i64 0) := (f.cell 1).trans rfl
      have o1_l : w3.heap.size < vr6_2.heap.size := o1.lt
      have o1_0 : vr6_2.cell? ⟨w3.heap.size, 0, none⟩ = some (.int .i64 0) := (o1.cell 0).trans rfl
      have o1_1 : vr6_2.cell? ⟨w3.heap.size, 1, none⟩ = some (.slice none 0 0) := (o1.cell 1).trans rfl
      have o1_2 : vr6_2.cell? ⟨w3.heap.size, 2, none⟩ = some (.slice none 0 0) := (o1.cell 2).trans rfl
      have g_l : w3.heap.size + 1 < vr6_2.heap.size := g.lt
      have g_0 : vr6_2.cell? ⟨w3.heap.size + 1, 0, none⟩ = some (.int .i64 6) := (g.cell 0).trans rfl
      have g_1 : vr6_2.cell? ⟨w3.heap.size + 1, 1, none⟩ = some (.int .i64 (-1)) := (g.cell 1).trans rfl
      have v_l : w4.heap.size < vr6_2.heap.size := v.lt
      have v_0 : vr6_2.cell? ⟨w4.heap.size, 0, none⟩ = some (.int .i64 0) := (v.cell 0).trans rfl
      have v_1 : vr6_2.cell? ⟨w4.heap.size, 1, none⟩ = some (.int .i64 0) := (v.cell 1).trans rfl
      clear HKr6
      go_wp2_with fail
      go_ret
      exact ⟨rfl, B6⟩
end Go.Proofs.Ytiilhnfdlpgllaa
