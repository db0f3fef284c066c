/-
  PackRoundTrip: the law's walk.
-/
import Derived.Test.YtiilhnfdlpgllaaPk12
import Derived.Test.YtiilhnfdlpgllaaPk21
import Derived.Test.YtiilhnfdlpgllaaOb12
import Derived.Deep.RegionHeld3
namespace Go.Proofs.Ytiilhnfdlpgllaa
open Go.RowKit Go.V
set_option linter.unusedVariables false

theorem lb_it {s : List Ob.S} (h : Ob.Sorted s) (i : Nat) (hi : i < s.length) : Ob.lb s (Ob.it s i).dig = i := by
  refine Ob.lb_eq s _ i (by omega) (fun k hk => h.mono hk hi) (fun k hk hl => h.le hk hl)
theorem fnd_it {s : List Ob.S} (h : Ob.Sorted s) (i : Nat) (hi : i < s.length) : Ob.fnd s (Ob.it s i).dig = true := by
  unfold Ob.fnd; rw [lb_it h i hi]; simp [hi]
set_option maxRecDepth 100000 in
set_option maxHeartbeats 4000000 in
theorem law6_any (w : World) (A : Option Addr) (k : Nat) (s : List Ob.S) (hv : StV w Free A s) (hl64 : s.length ≤ 9223372036854775807) :
    Calls Try.prog 6 #[stV A s.length k] w fun e w' => e = .returned (.bool true) ∧ Below w.heap.size w w' := by
  have HC15 := Lib.hid (fun (w1 : World) (hb : Below w.heap.size w w1) => build_all w1 A k s (hv.keep (free_below hb)) hl64)
  have HV := Lib.hid (fun (w1 : World) (hb : Below w.heap.size w w1) => hv.keep (free_below hb))
  have hb0 : Below w.heap.size w w := Below.refl _ _
  clear hv
  go_enter Try.func6, Try.ntmps6
  have bx := Blk.new w 24 #[.slice A s.length k]
  have wB0a0 := hb0.alloc hb0.size (.cells #[.slice A s.length k] 24)
  go_wp2_with fail
  go_at_call 14
  refine (example_any _).mono ?_
  rintro e w1 ⟨rfl, hb1'⟩
  have wB1 := wB0a0.trans (hb1'.mono wB0a0.size)
  replace bx := bx.below hb1' bx.lt
  have bx_l : w.heap.size < w1.heap.size := bx.lt
  have bx_l2 : w.heap.size < w1.heap.size + 1 + 1 := Nat.lt_succ_of_lt (Nat.lt_succ_of_lt bx_l)
  have bx_0 : w1.cell? ⟨w.heap.size, 0, none⟩ = some (.slice A s.length k) := (bx.cell 0).trans rfl
  clear hb1'
  go_wp2_with fail
  go_at_call 15
  refine (HC15.out _ wB1).mono ?_
  rintro e w2 ⟨hb2', hres⟩
  have wB2 := wB1.trans (hb2'.mono wB1.size)
  replace bx := bx.below hb2' bx.lt
  clear bx_0 bx_l bx_l2
  have bx_l : w.heap.size < w2.heap.size := bx.lt
  have bx_l2 : w.heap.size < w2.heap.size + 1 + 1 := Nat.lt_succ_of_lt (Nat.lt_succ_of_lt bx_l)
  have bx_0 : w2.cell? ⟨w.heap.size, 0, none⟩ = some (.slice A s.length k) := (bx.cell 0).trans rfl
  clear hb2'
  rcases hres with ⟨hne, rfl⟩ | ⟨hok, hbig, rfl⟩ | ⟨hok, hsm, A2, c2, rfl, hc2, hs2⟩
  · have hx1 : ((Ob.stF s).1 == 0) = false := by simpa using hne
    have hx2 : ((Ob.stF s).1 != 0) = true := by simpa using hne
    clear HC15 hne
    generalize Ob.stF s = r at *
    obtain ⟨cd, ix⟩ := r
    simp only at hx1 hx2 ⊢
    replace bx := bx.alloc (.cells #[.int .i64 cd, .int .i64 ix] 28)
    have f := Blk.new w2 28 #[.int .i64 cd, .int .i64 ix]
    have wB2a0 := wB2.alloc wB2.size (.cells #[.int .i64 cd, .int .i64 ix] 28)
    go_wp2_with fail
    go_ret
    exact ⟨by simp, wB2a0⟩
  · clear HC15 hok hbig
    replace bx := bx.alloc (.cells #[.int .i64 10, .int .i64 (-1)] 28)
    have f := Blk.new w2 28 #[.int .i64 10, .int .i64 (-1)]
    have wB2a0 := wB2.alloc wB2.size (.cells #[.int .i64 10, .int .i64 (-1)] 28)
    go_wp2_with fail
    go_ret
    exact ⟨by simp, wB2a0⟩
  · have HRF := readF_pack hok hsm
    have H20 : Hid (∀ w1 : World, SA w1 Free A2 (bytesV (packB s)) → Calls Try.prog 20 #[.slice A2 (packB s).length c2] w1 fun e w' => ∃ A3 c3, e = .returned (.tuple #[.agg #[.slice A3 s.length c3], .agg #[.int .i64 0, .int .i64 0]]) ∧ StV w' Free A3 s ∧ Below w1.heap.size w1 w') := Lib.hid fun w1 h => (Read_any w1 A2 _ c2 (packB s) h rfl hc2).mono fun e w' h2 => by
      unfold RePost at h2
      rw [HRF] at h2
      obtain ⟨A3, c3, e1, h3, h4⟩ := h2
      exact ⟨A3, c3, e1, h3.keep ((Keeps.refl _ _).into fun _ h => h.elim), h4⟩
    have H23 : Hid (∀ (w1 : World) (i : Nat), SA w1 Free A2 (bytesV (packB s)) → i < s.length → Calls Try.prog 23 #[.slice A2 (packB s).length c2, .int .i64 (Ob.it s i).dig] w1 fun e w' => ∃ A1 k1 A3 k3, e = .returned (.tuple #[obV (Ob.it s i).ob A1 k1 A3 k3, .agg #[.int .i64 0, .int .i64 0]]) ∧ ObA w' Free (Ob.it s i).ob A1 k1 A3 k3 ∧ Below w1.heap.size w1 w') := Lib.hid fun w1 i h hi => (Lookup_any w1 A2 _ c2 (packB s) (Ob.it s i).dig h rfl hc2).mono fun e w' h2 => by
      obtain ⟨hb, ⟨c, hc, hr, _⟩ | ⟨s', _, _, hr, h3⟩⟩ := h2
      · rw [HRF] at hr; injection hr with _ hr; injection hr with _ hr; injection hr with hr _; exact absurd hr.symm hc
      · rw [HRF] at hr
        injection hr with hr _
        subst hr
        rcases h3 with ⟨h3, _⟩ | ⟨_, A1, k1, A3, k3, e1, h4⟩
        · rw [fnd_it hok.sorted i hi] at h3; cases h3
        · rw [lb_it hok.sorted i hi] at e1 h4
          exact ⟨A1, k1, A3, k3, e1, h4.mono_ (fun _ h => h.elim), hb⟩
    have HS := Lib.hid (hs2.mono (X' := Free) (fun _ h => h.elim))
    have hsl := hok.len
    have H22 := Lib.hid (fun (w1 : World) (hb : Below w.heap.size w w1) A3 c3 (h3 : StV w1 Free A3 s) => stores_any w1 A A3 k c3 s (HV.out w1 hb) h3 (by omega))
    clear HC15 hok hs2 HRF
    generalize packB s = pb at *
    have q0 : Below (w2).heap.size (w2) (w2) := Below.refl _ _
    replace bx := bx.alloc (.cells #[.int .i64 0, .int .i64 0] 28)
    have f := Blk.new w2 28 #[.int .i64 0, .int .i64 0]
    have wB2a0 := wB2.alloc wB2.size (.cells #[.int .i64 0, .int .i64 0] 28)
    have q0B2a0 := q0.alloc q0.size (.cells #[.int .i64 0, .int .i64 0] 28)
    go_wp2_with fail
    go_at_call 20
    refine (H20.out _ (HS.out.keep (free_below q0B2a0))).mono ?_
    rintro e w3 ⟨A3, c3, rfl, hst, hb3'⟩
    have HST := Lib.hid hst
    clear hst
    have wB3 := wB2a0.trans (hb3'.mono wB2a0.size)
    have q0B3 := q0B2a0.trans (hb3'.mono q0B2a0.size)
    replace bx := bx.below hb3' bx.lt
    replace f := f.below hb3' f.lt
    clear bx_0 bx_l bx_l2
    have bx_l : w.heap.size < w3.heap.size := bx.lt
    have bx_l2 : w.heap.size < w3.heap.size + 1 + 1 := Nat.lt_succ_of_lt (Nat.lt_succ_of_lt bx_l)
    have bx_0 : w3.cell? ⟨w.heap.size, 0, none⟩ = some (.slice A s.length k) := (bx.cell 0).trans rfl
    have f_l : w2.heap.size < w3.heap.size := f.lt
    have f_l2 : w2.heap.size < w3.heap.size + 1 + 1 := Nat.lt_succ_of_lt (Nat.lt_succ_of_lt f_l)
    have f_0 : w3.cell? ⟨w2.heap.size, 0, none⟩ = some (.int .i64 0) := (f.cell 0).trans rfl
    have f_1 : w3.cell? ⟨w2.heap.size, 1, none⟩ = some (.int .i64 0) := (f.cell 1).trans rfl
    clear hb3'
    replace bx := bx.alloc (.cells #[.slice A3 s.length c3] 24)
    replace f := f.alloc (.cells #[.slice A3 s.length c3] 24)
    have xs := Blk.new w3 24 #[.slice A3 s.length c3]
    have wB3a0 := wB3.alloc wB3.size (.cells #[.slice A3 s.length c3] 24)
    have q0B3a0 := q0B3.alloc q0B3.size (.cells #[.slice A3 s.length c3] 24)
    replace bx := bx.alloc (.cells #[.int .i64 0, .int .i64 0] 28)
    replace f := f.alloc (.cells #[.int .i64 0, .int .i64 0] 28)
    replace xs := xs.alloc (.cells #[.int .i64 0, .int .i64 0] 28)
    have fs : Blk ((w3.alloc (.cells #[.slice A3 s.length c3] 24)).alloc (.cells #[.int .i64 0, .int .i64 0] 28)) (w3.heap.size + 1) 28 #[.int .i64 0, .int .i64 0] := by simpa using Blk.new (w3.alloc (.cells #[.slice A3 s.length c3] 24)) 28 #[.int .i64 0, .int .i64 0]
    have wB3a1 := wB3a0.alloc wB3a0.size (.cells #[.int .i64 0, .int .i64 0] 28)
    have q0B3a1 := q0B3a0.alloc q0B3a0.size (.cells #[.int .i64 0, .int .i64 0] 28)
    go_wp2_with fail
    go_at_call 22
    refine (H22.out _ wB3a1 A3 c3 ((HST.out.keep (free_below (below_alloc1 _ _))).keep (free_below (below_alloc1 _ _)))).mono ?_
    rintro e w4 ⟨rfl, hb4'⟩
    have wB4 := wB3a1.trans (hb4'.mono wB3a1.size)
    have q0B4 := q0B3a1.trans (hb4'.mono q0B3a1.size)
    replace bx := bx.below hb4' bx.lt
    replace f := f.below hb4' f.lt
    replace xs := xs.below hb4' xs.lt
    replace fs := fs.below hb4' fs.lt
    clear bx_0 bx_l bx_l2 f_0 f_1 f_l f_l2
    have bx_l : w.heap.size < w4.heap.size := bx.lt
    have bx_l2 : w.heap.size < w4.heap.size + 1 + 1 := Nat.lt_succ_of_lt (Nat.lt_succ_of_lt bx_l)
    have bx_0 : w4.cell? ⟨w.heap.size, 0, none⟩ = some (.slice A s.length k) := (bx.cell 0).trans rfl
    have f_l : w2.heap.size < w4.heap.size := f.lt
    have f_l2 : w2.heap.size < w4.heap.size + 1 + 1 := Nat.lt_succ_of_lt (Nat.lt_succ_of_lt f_l)
    have f_0 : w4.cell? ⟨w2.heap.size, 0, none⟩ = some (.int .i64 0) := (f.cell 0).trans rfl
    have f_1 : w4.cell? ⟨w2.heap.size, 1, none⟩ = some (.int .i64 0) := (f.cell 1).trans rfl
    have xs_l : w3.heap.size < w4.heap.size := xs.lt
    have xs_l2 : w3.heap.size < w4.heap.size + 1 + 1 := Nat.lt_succ_of_lt (Nat.lt_succ_of_lt xs_l)
    have xs_0 : w4.cell? ⟨w3.heap.size, 0, none⟩ = some (.slice A3 s.length c3) := (xs.cell 0).trans rfl
    have fs_l : w3.heap.size + 1 < w4.heap.size := fs.lt
    have fs_l2 : w3.heap.size + 1 < w4.heap.size + 1 + 1 := Nat.lt_succ_of_lt (Nat.lt_succ_of_lt fs_l)
    have fs_0 : w4.cell? ⟨w3.heap.size + 1, 0, none⟩ = some (.int .i64 0) := (fs.cell 0).trans rfl
    have fs_1 : w4.cell? ⟨w3.heap.size + 1, 1, none⟩ = some (.int .i64 0) := (fs.cell 1).trans rfl
    clear hb4'
    have HQ0 := Lib.hid q0B4
    have HB0 := Lib.hid wB4
    clear bx_0 bx_l bx_l2 f_0 f_1 f_l f_l2 fs_0 fs_1 fs_l fs_l2 xs_0 xs_l xs_l2 f fs xs H20 H22 HST
    have HBX := Lib.hid bx
    clear bx
    go_wp2_with fail
    go_loopw [7] (fun iv wr => ∃ i : Nat, i ≤ s.length ∧ iv = .int .i64 i ∧ Below w4.heap.size w4 wr) (fun iv _ => s.length - (intOf iv).toNat)
    case atStart => exact ⟨0, Nat.zero_le _, rfl, Below.refl _ _⟩
    case round =>
      obtain ⟨i, hi, rfl, hbr⟩ := hrel
      obtain ⟨wo, rfl⟩ : ∃ wo : World, wo = wr := ⟨_, rfl⟩
      have bx := HBX.out.below hbr HBX.out.lt
      have q0 := HQ0.out.trans (hbr.mono HQ0.out.size)
      have b0 := HB0.out.trans (hbr.mono HB0.out.size)
      have c0 := hbr
      clear hbr
      by_cases hlt : i < s.length
      · have hlt' : (i : Int) < s.length := by omega
        obtain ⟨ba, off, Al, kl, Ad, kd, e, hb, _, d0, d1, d2, d3, hx, hob⟩ := (HV.out _ b0).row i hlt
        subst e
        have HL := Lib.hid (H23.out wo i (HS.out.keep (free_below q0)) hlt)
        clear H23
        generalize hxx : Ob.it s i = x at *
        clear hxx
        obtain ⟨xd, kk, ls, da⟩ := x
        simp only at *
        have HOB := Lib.hid (fun (w1 : World) (hb : Below wo.heap.size wo w1) A1 k1 A2 k2 (h1 : ObA w1 Free ⟨kk, ls, da⟩ A1 k1 A2 k2) => show Calls Try.prog 24 #[obV ⟨kk, ls, da⟩ A1 k1 A2 k2, obV ⟨kk, ls, da⟩ Al kl Ad kd] w1 (fun e w' => e = .returned (.bool true) ∧ Below w1.heap.size w1 w') from by
          have h := objects_any w1 ⟨kk, ls, da⟩ ⟨kk, ls, da⟩ A1 k1 A2 k2 Al kl Ad kd h1 (hob.keep (free_below hb))
          rw [(eqO_iff _ _).2 rfl] at h
          exact h)
        have q1 := (bx.cell 0).trans (rfl : _ = some (Value.slice (some ⟨ba, off, none⟩) s.length k))
        have q2 := bx.lt
        have r0 : Below wo.heap.size wo wo := Below.refl _ _
        clear hob
        go_wp2_with fail
        go_at_call 23
        refine (HL.out).mono ?_
        rintro e w21 ⟨A1, k1, A3, k3, rfl, hob1, hb21'⟩
        have HO1 := Lib.hid hob1
        clear hob1
        have wB21 := b0.trans (hb21'.mono b0.size)
        have cB21 := c0.trans (hb21'.mono c0.size)
        have rB21 := r0.trans (hb21'.mono r0.size)
        replace bx := bx.below hb21' bx.lt
        clear q1 q2
        have bx_l : w.heap.size < w21.heap.size := bx.lt
        have bx_l2 : w.heap.size < w21.heap.size + 1 + 1 := Nat.lt_succ_of_lt (Nat.lt_succ_of_lt bx_l)
        have bx_0 : w21.cell? ⟨w.heap.size, 0, none⟩ = some (.slice (some ⟨ba, off, none⟩) s.length k) := (bx.cell 0).trans rfl
        clear hb21'
        replace bx := bx.alloc (.cells #[.int .i64 kk, .slice A1 ls.length k1, .slice A3 da.length k3] 44)
        have o1 := Blk.new w21 44 #[.int .i64 kk, .slice A1 ls.length k1, .slice A3 da.length k3]
        have wB21a0 := wB21.alloc wB21.size (.cells #[.int .i64 kk, .slice A1 ls.length k1, .slice A3 da.length k3] 44)
        have cB21a0 := cB21.alloc cB21.size (.cells #[.int .i64 kk, .slice A1 ls.length k1, .slice A3 da.length k3] 44)
        have rB21a0 := rB21.alloc rB21.size (.cells #[.int .i64 kk, .slice A1 ls.length k1, .slice A3 da.length k3] 44)
        replace bx := bx.alloc (.cells #[.int .i64 0, .int .i64 0] 28)
        replace o1 := o1.alloc (.cells #[.int .i64 0, .int .i64 0] 28)
        have g : Blk ((w21.alloc (.cells #[.int .i64 kk, .slice A1 ls.length k1, .slice A3 da.length k3] 44)).alloc (.cells #[.int .i64 0, .int .i64 0] 28)) (w21.heap.size + 1) 28 #[.int .i64 0, .int .i64 0] := by simpa using Blk.new (w21.alloc (.cells #[.int .i64 kk, .slice A1 ls.length k1, .slice A3 da.length k3] 44)) 28 #[.int .i64 0, .int .i64 0]
        have wB21a1 := wB21a0.alloc wB21a0.size (.cells #[.int .i64 0, .int .i64 0] 28)
        have cB21a1 := cB21a0.alloc cB21a0.size (.cells #[.int .i64 0, .int .i64 0] 28)
        have rB21a1 := rB21a0.alloc rB21a0.size (.cells #[.int .i64 0, .int .i64 0] 28)
        have bx_l := bx.lt
        have bx_0 := (bx.cell 0).trans (rfl : _ = some (Value.slice (some ⟨ba, off, none⟩) s.length k))
        have o1_l := o1.lt
        have o1_0 := (o1.cell 0).trans (rfl : _ = some (Value.int .i64 kk))
        have o1_1 := (o1.cell 1).trans (rfl : _ = some (Value.slice A1 ls.length k1))
        have o1_2 := (o1.cell 2).trans (rfl : _ = some (Value.slice A3 da.length k3))
        have g_l := g.lt
        have g_0 := (g.cell 0).trans (rfl : _ = some (Value.int .i64 0))
        have g_1 := (g.cell 1).trans (rfl : _ = some (Value.int .i64 0))
        have e1 := (rB21a1.cell (p := ⟨ba, off + i * 4 + 1, none⟩) hb).trans d1
        have e2 := (rB21a1.cell (p := ⟨ba, off + i * 4 + 2, none⟩) hb).trans d2
        have e3 := (rB21a1.cell (p := ⟨ba, off + i * 4 + 3, none⟩) hb).trans d3
        have el := Nat.lt_of_lt_of_le hb rB21a1.size
        clear d0 d1 d2 d3
        have hobd := (HO1.out.keep (free_below (below_alloc2 w21 (.cells #[.int .i64 kk, .slice A1 ls.length k1, .slice A3 da.length k3] 44) (.cells #[.int .i64 0, .int .i64 0] 28)))).keep (free_below (below_drew' (Below.refl _ _)))
        have hk0 : Below ((w21.alloc (.cells #[.int .i64 kk, .slice A1 ls.length k1, .slice A3 da.length k3] 44)).alloc (.cells #[.int .i64 0, .int .i64 0] 28)).heap.size ((w21.alloc (.cells #[.int .i64 kk, .slice A1 ls.length k1, .slice A3 da.length k3] 44)).alloc (.cells #[.int .i64 0, .int .i64 0] 28)) ((w21.alloc (.cells #[.int .i64 kk, .slice A1 ls.length k1, .slice A3 da.length k3] 44)).alloc (.cells #[.int .i64 0, .int .i64 0] 28)).drew := below_drew' (Below.refl _ _)
        have HK : Hid (∀ w6 : World, Below ((w21.alloc (.cells #[.int .i64 kk, .slice A1 ls.length k1, .slice A3 da.length k3] 44)).alloc (.cells #[.int .i64 0, .int .i64 0] 28)).heap.size ((w21.alloc (.cells #[.int .i64 kk, .slice A1 ls.length k1, .slice A3 da.length k3] 44)).alloc (.cells #[.int .i64 0, .int .i64 0] 28)) w6 → w6.cell? ⟨w.heap.size, 0, none⟩ = some (.slice (some ⟨ba, off, none⟩) s.length k) ∧ w6.cell? ⟨w21.heap.size, 0, none⟩ = some (.int .i64 kk) ∧ w6.cell? ⟨w21.heap.size, 1, none⟩ = some (.slice A1 ls.length k1) ∧ w6.cell? ⟨w21.heap.size, 2, none⟩ = some (.slice A3 da.length k3) ∧ w6.cell? ⟨w21.heap.size + 1, 0, none⟩ = some (.int .i64 0) ∧ w6.cell? ⟨w21.heap.size + 1, 1, none⟩ = some (.int .i64 0) ∧ w6.cell? ⟨ba, off + i * 4 + 1, none⟩ = some (.int .i64 kk) ∧ w6.cell? ⟨ba, off + i * 4 + 1 + 1, none⟩ = some (.slice Al ls.length kl) ∧ w6.cell? ⟨ba, off + i * 4 + 1 + 2, none⟩ = some (.slice Ad da.length kd)) := Lib.hid fun w6 h6 => ⟨(h6.cell (p := ⟨_, _, none⟩) bx_l).trans bx_0, (h6.cell (p := ⟨_, _, none⟩) o1_l).trans o1_0, (h6.cell (p := ⟨_, _, none⟩) o1_l).trans o1_1, (h6.cell (p := ⟨_, _, none⟩) o1_l).trans o1_2, (h6.cell (p := ⟨_, _, none⟩) g_l).trans g_0, (h6.cell (p := ⟨_, _, none⟩) g_l).trans g_1, (h6.cell (p := ⟨_, _, none⟩) el).trans e1, (h6.cell (p := ⟨_, _, none⟩) el).trans e2, (h6.cell (p := ⟨_, _, none⟩) el).trans e3⟩
        have hp0 : (0 : Int) ≤ i := by omega
        clear bx_0 bx_l bx_l2 g_0 g_1 g_l o1_0 o1_1 o1_2 o1_l e1 e2 e3 el o1 g HO1
        go_wp2_with fail
        go_region_held3 (fun w6 => w6.cell? ⟨w.heap.size, 0, none⟩ = some (.slice (some ⟨ba, off, none⟩) s.length k) ∧ w6.cell? ⟨w21.heap.size, 0, none⟩ = some (.int .i64 kk) ∧ w6.cell? ⟨w21.heap.size, 1, none⟩ = some (.slice A1 ls.length k1) ∧ w6.cell? ⟨w21.heap.size, 2, none⟩ = some (.slice A3 da.length k3) ∧ w6.cell? ⟨w21.heap.size + 1, 0, none⟩ = some (.int .i64 0) ∧ w6.cell? ⟨w21.heap.size + 1, 1, none⟩ = some (.int .i64 0) ∧ w6.cell? ⟨ba, off + i * 4 + 1, none⟩ = some (.int .i64 kk) ∧ w6.cell? ⟨ba, off + i * 4 + 1 + 1, none⟩ = some (.slice Al ls.length kl) ∧ w6.cell? ⟨ba, off + i * 4 + 1 + 2, none⟩ = some (.slice Ad da.length kd))
          (first | exact HK.out _ hk0 | exact HK.out _ hk1)
          (first | (go_at_call 24; (with_reducible refine (HOB.out _ (rB21a1.trans (hk0.mono rB21a1.size)) _ _ _ _ hobd).mono ?_); rintro e wz ⟨rfl, hz1⟩; have hk1 := hk0.trans (hz1.mono hk0.size)))
        go_wp2_with fail
        go_roundw
        case rel => exact ⟨i + 1, by omega, by go_num, cB21a1.trans (hk1.mono cB21a1.size)⟩
        case measure => simp [intOf]; omega
      · have hge : ¬ (i : Int) < s.length := by omega
        have q1 := (bx.cell 0).trans (rfl : _ = some (Value.slice A s.length k))
        have q2 := bx.lt
        go_wp2_with fail
        go_ret
        exact ⟨rfl, b0⟩
end Go.Proofs.Ytiilhnfdlpgllaa
