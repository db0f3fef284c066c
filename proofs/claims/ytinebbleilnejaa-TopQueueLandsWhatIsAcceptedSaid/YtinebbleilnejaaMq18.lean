/-
  The merge queue: walk of nLands.
-/
import Derived.Test.YtinebbleilnejaaMq17
namespace Mq
theorem ex_run1 : run 1 [⟨1, 5⟩] = ⟨[⟨5, true, false, false, []⟩], [], []⟩ := rfl
theorem ex_run2 : run 1 [⟨1, 5⟩, ⟨3, 5⟩] = ⟨[], [5], []⟩ := rfl
theorem ex_vc : VC 1 [⟨1, 5⟩, ⟨3, 5⟩] := by
  refine VC.snoc (l := [⟨1, 5⟩]) (VC.snoc (l := []) (VC.nil 1) ⟨by decide, by decide, .inl ⟨rfl, fun j h => absurd h (by simp [run]), by simp [run], by simp [run], by simp [run]⟩⟩ ?_) ?_ ?_
  · show Sz (run 1 [⟨1, 5⟩])
    rw [ex_run1]
    exact ⟨by decide, by decide, by decide, fun j h => by
      have : j = 0 := by simp at h; omega
      subst this; show ([] : List Int).length ≤ 40; decide⟩
  · rw [ex_run1]
    exact ⟨by decide, by decide, .inr ⟨.inl rfl, by decide, by decide, by decide⟩⟩
  · show Sz (run 1 [⟨1, 5⟩, ⟨3, 5⟩])
    rw [ex_run2]
    exact ⟨by decide, by decide, by decide, fun j h => absurd h (by simp)⟩
theorem ex_ok : VOk 2 [[0]] := ⟨by decide, by decide, fun i h => by
  have : i = 0 := by simp at h; omega
  subst this
  refine ⟨by show ([0] : List Int).length ≠ 0; decide, fun j hj => ?_⟩
  have : j = 0 := by simp at hj; omega
  subst this
  exact ⟨by show (0 : Int) ≤ 0; decide, by show (0 : Int) < 2; decide, fun h => absurd h (by omega)⟩⟩
theorem ex_G : G [[0]] 2 = [1] := by decide
end Mq
namespace Go.Proofs.Ytinebbleilnejaa
open Go.RowKit Go.V
set_option linter.unusedVariables false
theorem iv_one (w : World) (x : Int) : IV (w.alloc (.cells #[.int .i64 x] 3)) (some ⟨w.heap.size, 0, none⟩) [x] := .inr ⟨w.heap.size, 0, rfl, by simp, fun j u hj => by
  rw [Nat.zero_add, (Blk.new w 3 #[.int .i64 x]).cell j, ← Array.getElem?_toList]; exact hj⟩
theorem greedy_ex (w3 : World) : Calls Try.prog 5 #[.int .i64 2, .slice (some ⟨w3.heap.size + 1, 0, none⟩) 1 1] ((w3.alloc (.cells #[.int .i64 0] 3)).alloc (.cells #[.slice (some ⟨w3.heap.size, 0, none⟩) 1 1] 23)) fun e w' =>
    ∃ Ag kg ix, e = .returned (.tuple #[.slice Ag 1 kg, .agg #[.int .i64 0, .int .i64 ix]]) ∧ IV w' Ag [1] ∧ Below w3.heap.size w3 w' := by
  have C1 : Blk ((w3.alloc (.cells #[.int .i64 0] 3)).alloc (.cells #[.slice (some ⟨w3.heap.size, 0, none⟩) 1 1] 23)) (w3.heap.size + 1) 23 #[.slice (some ⟨w3.heap.size, 0, none⟩) 1 1] := by
    have := Blk.new (w3.alloc (.cells #[.int .i64 0] 3)) 23 #[.slice (some ⟨w3.heap.size, 0, none⟩) 1 1]
    rwa [World.size_alloc] at this
  have hcu : CuV ((w3.alloc (.cells #[.int .i64 0] 3)).alloc (.cells #[.slice (some ⟨w3.heap.size, 0, none⟩) 1 1] 23)) (some ⟨w3.heap.size + 1, 0, none⟩) [[0]] := by
    refine ⟨[.slice (some ⟨w3.heap.size, 0, none⟩) 1 1], .inr ⟨w3.heap.size + 1, 0, rfl, by simp, fun j u hj => ?_⟩, ⟨[.slice (some ⟨w3.heap.size, 0, none⟩) 1 1], [], rfl, ⟨some ⟨w3.heap.size, 0, none⟩, 1, rfl, by decide, (iv_one w3 0).alloc _⟩, rfl⟩⟩
    rw [Nat.zero_add, C1.cell j, ← Array.getElem?_toList]; exact hj
  have hb5' : Below w3.heap.size w3 ((w3.alloc (.cells #[.int .i64 0] 3)).alloc (.cells #[.slice (some ⟨w3.heap.size, 0, none⟩) 1 1] 23)) := (below_alloc1 w3 _).alloc (by simp) _
  refine (greedy_any _ _ 1 [[0]] 2 hcu (by decide)).mono ?_
  rintro e w6 ⟨cd, ix, Ag, os, kg, rfl, hgr, hivg, hb6'⟩
  obtain ⟨rfl, _, hos⟩ := hgr.resolve_right (fun h => h.2 Mq.ex_ok)
  have hos1 : os = [1] := hos.trans Mq.ex_G
  subst hos1
  exact ⟨Ag, kg, ix, rfl, hivg, hb5'.trans (hb6'.mono hb5'.size)⟩
theorem decide_ex (w7 : World) : Calls Try.prog 10 #[.int .i64 1, .slice (some ⟨w7.heap.size, 0, none⟩) 1 1] (w7.alloc (.cells #[.int .i64 0, .slice none 0 0, .bool true] 49)) fun e w' =>
    ∃ A c, e = .returned (.tuple #[.slice A 1 c, .slice none 0 0, .agg #[.int .i64 0, .int .i64 0]]) ∧ IV w' A [0] ∧ Below w7.heap.size w7 w' := by
  have E1 := Blk.new w7 49 #[.int .i64 0, .slice none 0 0, .bool true]
  have hb := below_alloc1 w7 (.cells #[.int .i64 0, .slice none 0 0, .bool true] 49)
  refine (decide_any _ w7.heap.size E1.lt ((E1.cell 0).trans rfl) ((E1.cell 1).trans rfl) ((E1.cell 2).trans rfl)).mono ?_
  rintro e w9 ⟨A, c, rfl, hiv, hb2⟩
  exact ⟨A, c, rfl, hiv, hb.trans (hb2.mono hb.size)⟩
set_option maxRecDepth 100000 in
set_option maxHeartbeats 16000000 in
theorem nLands_any (w : World) : Calls Try.prog 4 #[] w fun e w' => e = .returned (.bool true) ∧ Below w.heap.size w w' := by
  have hb1 := below_alloc1 w (.cells #[.int .i64 1, .int .i64 5, .int .i64 0, .int .i64 3, .int .i64 5, .int .i64 0] 31)
  have hev : EvV (w.alloc (.cells #[.int .i64 1, .int .i64 5, .int .i64 0, .int .i64 3, .int .i64 5, .int .i64 0] 31)) (some ⟨w.heap.size, 0, none⟩) [⟨1, 5⟩, ⟨3, 5⟩] := .inr ⟨w.heap.size, 0, rfl, by simp, fun j u hj => by
    rw [Nat.zero_add, (Blk.new w 31 #[.int .i64 1, .int .i64 5, .int .i64 0, .int .i64 3, .int .i64 5, .int .i64 0]).cell j, ← Array.getElem?_toList]; exact hj⟩
  have HR : Hid (Calls Try.prog 6 #[.int .i64 1, .slice (some ⟨w.heap.size, 0, none⟩) 2 2] (w.alloc (.cells #[.int .i64 1, .int .i64 5, .int .i64 0, .int .i64 3, .int .i64 5, .int .i64 0] 31)) (RnPost _ 1 (Mq.run 1 [⟨1, 5⟩, ⟨3, 5⟩]))) := Lib.hid (run_any _ _ 2 [⟨1, 5⟩, ⟨3, 5⟩] 1 hev (by decide) (by decide) (by decide) Mq.ex_vc)
  rw [Mq.ex_run2] at HR
  clear hev
  go_enter Try.func4, Try.ntmps4
  go_wp2_with fail
  go_at_call 6
  with_reducible refine HR.out.mono ?_
  rintro e w2 ⟨gQ, ve, vl, vr, L, rfl, hq, _, hb2'⟩
  obtain ⟨A1, c1, rfl⟩ := hq.len
  obtain ⟨Al, cl, hvl, _⟩ := own_form hq.l
  obtain ⟨Ar, cr, hvr, _⟩ := own_form hq.r
  subst hvl
  subst hvr
  have hivl : IV w2 Al [5] := SV.of_own hq.l
  have hb2 := hb1.trans (hb2'.mono hb1.size)
  generalize L.length = nL at *
  have e1 : (Mq.Q.la ⟨[], [5], []⟩).length = 1 := rfl
  have e2 : (Mq.Q.re ⟨[], [5], []⟩).length = 0 := rfl
  rw [e1, e2]
  have B1 : Blk ((w2.alloc (.cells #[.slice A1 nL c1, .slice Al 1 cl, .slice Ar 0 cr] 34)).alloc (.cells #[.int .i64 0, .int .i64 0] 26)) w2.heap.size 34 #[.slice A1 nL c1, .slice Al 1 cl, .slice Ar 0 cr] := (Blk.new _ _ _).alloc _
  have B2 : Blk ((w2.alloc (.cells #[.slice A1 nL c1, .slice Al 1 cl, .slice Ar 0 cr] 34)).alloc (.cells #[.int .i64 0, .int .i64 0] 26)) (w2.heap.size + 1) 26 #[.int .i64 0, .int .i64 0] := by
    have := Blk.new (w2.alloc (.cells #[.slice A1 nL c1, .slice Al 1 cl, .slice Ar 0 cr] 34)) 26 #[.int .i64 0, .int .i64 0]
    rwa [World.size_alloc] at this
  have hb3 : Below w.heap.size w ((w2.alloc (.cells #[.slice A1 nL c1, .slice Al 1 cl, .slice Ar 0 cr] 34)).alloc (.cells #[.int .i64 0, .int .i64 0] 26)) := (hb2.alloc hb2.size _).alloc (by have := hb2.size; simp; omega) _
  have hiv3 : IV ((w2.alloc (.cells #[.slice A1 nL c1, .slice Al 1 cl, .slice Ar 0 cr] 34)).alloc (.cells #[.int .i64 0, .int .i64 0] 26)) Al [5] := (hivl.alloc _).alloc _
  clear hq hb2' hb1 hb2 hivl HR e1 e2
  have hs3 : ((w2.alloc (.cells #[.slice A1 nL c1, .slice Al 1 cl, .slice Ar 0 cr] 34)).alloc (.cells #[.int .i64 0, .int .i64 0] 26)).heap.size = w2.heap.size + 1 + 1 := by simp
  have hG := greedy_ex ((w2.alloc (.cells #[.slice A1 nL c1, .slice Al 1 cl, .slice Ar 0 cr] 34)).alloc (.cells #[.int .i64 0, .int .i64 0] 26))
  have HX3 := Lib.hid (fun (W : World) (hW : Below ((w2.alloc (.cells #[.slice A1 nL c1, .slice Al 1 cl, .slice Ar 0 cr] 34)).alloc (.cells #[.int .i64 0, .int .i64 0] 26)).heap.size ((w2.alloc (.cells #[.slice A1 nL c1, .slice Al 1 cl, .slice Ar 0 cr] 34)).alloc (.cells #[.int .i64 0, .int .i64 0] 26)) W) => And.intro (B1.below hW B1.lt) (And.intro (B2.below hW B2.lt) (And.intro (hiv3.below hW) (hb3.trans (hW.mono hb3.size)))))
  rw [hs3] at hG HX3
  have HG := Lib.hid hG
  clear hG hs3 B1 B2 hb3 hiv3
  go_wp2_with fail
  go_at_call 5
  with_reducible refine HG.out.mono ?_
  rintro e w6 ⟨Ag, kg, ix, rfl, hivg, hb6⟩
  obtain ⟨B1, B2, hiv6, hw6⟩ := HX3.out w6 hb6
  have hs7 : (w6.alloc (.cells #[.int .i64 0, .int .i64 ix] 26)).heap.size = w6.heap.size + 1 := by simp
  have B4 := Blk.new w6 26 #[.int .i64 0, .int .i64 ix]
  have hw7 := hw6.alloc hw6.size (.cells #[.int .i64 0, .int .i64 ix] 26)
  have hD := decide_ex (w6.alloc (.cells #[.int .i64 0, .int .i64 ix] 26))
  have HX7 := Lib.hid (fun (W : World) (hW : Below (w6.alloc (.cells #[.int .i64 0, .int .i64 ix] 26)).heap.size (w6.alloc (.cells #[.int .i64 0, .int .i64 ix] 26)) W) => And.intro ((B1.alloc _).below hW (B1.alloc _).lt) (And.intro ((B2.alloc _).below hW (B2.alloc _).lt) (And.intro (B4.below hW B4.lt) (And.intro ((hiv6.alloc _).below hW) (And.intro ((hivg.alloc _).below hW) (hw7.trans (hW.mono hw7.size)))))))
  rw [hs7] at hD HX7
  have HD := Lib.hid hD
  clear hD hs7 B1 B2 B4 hw6 hw7 hiv6 hivg hb6 HX3 HG
  go_wp2_with fail
  go_at_call 10
  with_reducible refine HD.out.mono ?_
  rintro e w9 ⟨Ad, cd, rfl, hivd, hb9⟩
  obtain ⟨B1, B2, B4, hivl, hivg, hw9⟩ := HX7.out w9 hb9
  replace B1 := B1.alloc (.cells #[.int .i64 0, .int .i64 0] 26)
  replace B2 := B2.alloc (.cells #[.int .i64 0, .int .i64 0] 26)
  replace B4 := B4.alloc (.cells #[.int .i64 0, .int .i64 0] 26)
  have B7 := Blk.new w9 26 #[.int .i64 0, .int .i64 0]
  have hw10 := hw9.alloc hw9.size (.cells #[.int .i64 0, .int .i64 0] 26)
  have q2 := (B2.cell 0).trans rfl
  have q4 := (B4.cell 0).trans rfl
  have q7 := (B7.cell 0).trans rfl
  have q1 := (B1.cell 1).trans rfl
  have hl1 := B1.lt
  have hl2 := B2.lt
  have hl4 := B4.lt
  have hivl2 := hivl.alloc (.cells #[.int .i64 0, .int .i64 0] 26)
  have hivg2 := hivg.alloc (.cells #[.int .i64 0, .int .i64 0] 26)
  have hivd2 := hivd.alloc (.cells #[.int .i64 0, .int .i64 0] 26)
  have hs10 : (w9.alloc (.cells #[.int .i64 0, .int .i64 0] 26)).heap.size = w9.heap.size + 1 := by simp
  have hI1 := ints_any ((w9.alloc (.cells #[.int .i64 0, .int .i64 0] 26)).alloc (.cells #[.int .i64 5] 3)) Al (some ⟨(w9.alloc (.cells #[.int .i64 0, .int .i64 0] 26)).heap.size, 0, none⟩) cl 1 [5] (hivl2.alloc _) (iv_one _ 5) (by decide)
  rw [hs10] at hI1
  have HI1 : Hid (Calls Try.prog 7 #[.slice Al 1 cl, .slice (some ⟨w9.heap.size + 1, 0, none⟩) 1 1] ((w9.alloc (.cells #[.int .i64 0, .int .i64 0] 26)).alloc (.cells #[.int .i64 5] 3)) fun e w' => e = .returned (.bool true) ∧ ∃ n, w' = World.drewN ((w9.alloc (.cells #[.int .i64 0, .int .i64 0] 26)).alloc (.cells #[.int .i64 5] 3)) n) := Lib.hid hI1
  have hs11 : ∀ n, (World.drewN ((w9.alloc (.cells #[.int .i64 0, .int .i64 0] 26)).alloc (.cells #[.int .i64 5] 3)) n).heap.size = w9.heap.size + 1 + 1 := fun n => by show ((w9.alloc (.cells #[.int .i64 0, .int .i64 0] 26)).alloc (.cells #[.int .i64 5] 3)).heap.size = _; simp
  have hs12 : ∀ n m, (World.drewN ((World.drewN ((w9.alloc (.cells #[.int .i64 0, .int .i64 0] 26)).alloc (.cells #[.int .i64 5] 3)) n).alloc (.cells #[.int .i64 1] 3)) m).heap.size = w9.heap.size + 1 + 1 + 1 := fun n m => by
    show ((World.drewN ((w9.alloc (.cells #[.int .i64 0, .int .i64 0] 26)).alloc (.cells #[.int .i64 5] 3)) n).alloc (.cells #[.int .i64 1] 3)).heap.size = _
    rw [World.size_alloc, hs11]
  have hg11 := fun n => ((hivg2.alloc (.cells #[.int .i64 5] 3)).drewN n).alloc (.cells #[.int .i64 1] 3)
  have hd11 := fun n m => ((((hivd2.alloc (.cells #[.int .i64 5] 3)).drewN n).alloc (.cells #[.int .i64 1] 3)).drewN m).alloc (.cells #[.int .i64 0] 3)
  have hI2 := fun n => ints_any ((World.drewN ((w9.alloc (.cells #[.int .i64 0, .int .i64 0] 26)).alloc (.cells #[.int .i64 5] 3)) n).alloc (.cells #[.int .i64 1] 3)) Ag (some ⟨(World.drewN ((w9.alloc (.cells #[.int .i64 0, .int .i64 0] 26)).alloc (.cells #[.int .i64 5] 3)) n).heap.size, 0, none⟩) kg 1 [1] (hg11 n) (iv_one (World.drewN ((w9.alloc (.cells #[.int .i64 0, .int .i64 0] 26)).alloc (.cells #[.int .i64 5] 3)) n) 1) (by decide)
  have HI2 : Hid (∀ n, Calls Try.prog 7 #[.slice Ag 1 kg, .slice (some ⟨w9.heap.size + 1 + 1, 0, none⟩) 1 1] ((World.drewN ((w9.alloc (.cells #[.int .i64 0, .int .i64 0] 26)).alloc (.cells #[.int .i64 5] 3)) n).alloc (.cells #[.int .i64 1] 3)) fun e w' => e = .returned (.bool true) ∧ ∃ m, w' = World.drewN ((World.drewN ((w9.alloc (.cells #[.int .i64 0, .int .i64 0] 26)).alloc (.cells #[.int .i64 5] 3)) n).alloc (.cells #[.int .i64 1] 3)) m) := Lib.hid (fun n => by
    have h := hI2 n
    rw [hs11] at h
    exact h)
  have hI3 := fun n m => ints_any ((World.drewN ((World.drewN ((w9.alloc (.cells #[.int .i64 0, .int .i64 0] 26)).alloc (.cells #[.int .i64 5] 3)) n).alloc (.cells #[.int .i64 1] 3)) m).alloc (.cells #[.int .i64 0] 3)) Ad (some ⟨(World.drewN ((World.drewN ((w9.alloc (.cells #[.int .i64 0, .int .i64 0] 26)).alloc (.cells #[.int .i64 5] 3)) n).alloc (.cells #[.int .i64 1] 3)) m).heap.size, 0, none⟩) cd 1 [0] (hd11 n m) (iv_one (World.drewN ((World.drewN ((w9.alloc (.cells #[.int .i64 0, .int .i64 0] 26)).alloc (.cells #[.int .i64 5] 3)) n).alloc (.cells #[.int .i64 1] 3)) m) 0) (by decide)
  have HI3 : Hid (∀ n m, Calls Try.prog 7 #[.slice Ad 1 cd, .slice (some ⟨w9.heap.size + 1 + 1 + 1, 0, none⟩) 1 1] ((World.drewN ((World.drewN ((w9.alloc (.cells #[.int .i64 0, .int .i64 0] 26)).alloc (.cells #[.int .i64 5] 3)) n).alloc (.cells #[.int .i64 1] 3)) m).alloc (.cells #[.int .i64 0] 3)) fun e w' => e = .returned (.bool true) ∧ ∃ k, w' = World.drewN ((World.drewN ((World.drewN ((w9.alloc (.cells #[.int .i64 0, .int .i64 0] 26)).alloc (.cells #[.int .i64 5] 3)) n).alloc (.cells #[.int .i64 1] 3)) m).alloc (.cells #[.int .i64 0] 3)) k) := Lib.hid (fun n m => by
    have h := hI3 n m
    rw [hs12] at h
    exact h)
  have HFN := Lib.hid (fun n m k => (show Below w.heap.size w (World.drewN ((World.drewN ((World.drewN ((w9.alloc (.cells #[.int .i64 0, .int .i64 0] 26)).alloc (.cells #[.int .i64 5] 3)) n).alloc (.cells #[.int .i64 1] 3)) m).alloc (.cells #[.int .i64 0] 3)) k) from by
    have k1 := Go.V.below_drewN (hw10.alloc hw10.size (.cells #[.int .i64 5] 3)) n
    have k2 := Go.V.below_drewN (k1.alloc k1.size (.cells #[.int .i64 1] 3)) m
    exact Go.V.below_drewN (k2.alloc k2.size (.cells #[.int .i64 0] 3)) k))
  clear hg11 hd11
  clear hI2 hI3 hs11 hs12
  clear hI1 hs10 hivl hivg hivd hivl2 hivg2 hivd2 hw9 hw10 hb9 HX7 HD B1 B2 B4 B7
  go_wp2_with fail
  with_reducible refine HI1.out.mono ?_
  rintro e w11 ⟨rfl, n, rfl⟩
  go_wp2_with fail
  with_reducible refine (HI2.out n).mono ?_
  rintro e w12 ⟨rfl, m, rfl⟩
  go_wp2_with fail
  with_reducible refine (HI3.out n m).mono ?_
  rintro e w13 ⟨rfl, k, rfl⟩
  go_wp2_with fail
  go_ret
  exact ⟨rfl, HFN.out n m k⟩
end Go.Proofs.Ytinebbleilnejaa
