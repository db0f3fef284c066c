/-
  ObjectsDigestMatchesSpec: the law's walk.
-/
import Derived.Test.YtiilhnfdlpgllaaOb10
import Derived.Test.YtiilhnfdlpgllaaPk5
namespace Go.Proofs.Ytiilhnfdlpgllaa
open Go.RowKit Go.V
set_option linter.unusedVariables false

set_option maxRecDepth 100000 in
set_option maxHeartbeats 8000000 in
theorem law8_any (w : World) (o : Ob.O) (Al : Option Addr) (kl : Nat) (Ad : Option Addr) (kd : Nat) (ho : ObA w Free o Al kl Ad kd) :
    Calls Try.prog 8 #[obV o Al kl Ad kd] w fun e w' => e = .returned (.bool true) ∧ Below w.heap.size w w' := by
  have HO := Lib.hid (fun (w1 : World) (hb : Below w.heap.size w w1) => ho.keep (free_below hb))
  clear ho
  obtain ⟨kk, ls, da⟩ := o
  go_enter Try.func8, Try.ntmps8
  go_wp2_with fail
  go_at_call 28
  refine (oexample_any _).mono ?_
  rintro e w1 ⟨rfl, hb1'⟩
  have hb1 := (below_alloc1 w (.cells #[.int .i64 kk, .slice Al ls.length kl, .slice Ad da.length kd] 44)).trans (hb1'.mono (by simp))
  have bo1 := (Blk.new w 44 #[.int .i64 kk, .slice Al ls.length kl, .slice Ad da.length kd]).below hb1' (by simp)
  have k0 := bo1.cell 0
  have k1 := bo1.cell 1
  have k2 := bo1.cell 2
  have kl1 := bo1.lt
  simp only [List.getElem?_toArray, List.getElem?_cons_zero, List.getElem?_cons_succ] at k0 k1 k2
  clear hb1'
  by_cases hob : (Ob.obF ⟨kk, ls, da⟩).1 ≠ 0
  · have HD := Lib.hid (digest_bad _ ⟨kk, ls, da⟩ Al kl Ad kd (HO.out _ hb1) hob)
    have HF := Lib.hid (fun (w1 : World) (hb : Below w.heap.size w w1) => obFault_any w1 ⟨kk, ls, da⟩ Al kl Ad kd (HO.out _ hb))
    have hx1 : ((Ob.obF ⟨kk, ls, da⟩).1 == 0) = false := by simpa using hob
    have hx2 : ((Ob.obF ⟨kk, ls, da⟩).1 != 0) = true := by simpa using hob
    clear hob HO
    generalize Ob.obF ⟨kk, ls, da⟩ = q at *
    obtain ⟨cd, ix⟩ := q
    simp only at hx1 hx2
    go_wp2_with fail
    go_at_call 29
    refine HD.out.mono ?_
    rintro e w2 ⟨rfl, hb2⟩
    have hbw := (hb1.trans (hb2.mono hb1.size))
    have hbx := hbw.alloc hbw.size (.cells #[.int .i64 cd, .int .i64 ix] 28)
    have bo2 := (bo1.below hb2 bo1.lt).alloc (.cells #[.int .i64 cd, .int .i64 ix] 28)
    have f2 := Blk.new w2 28 #[.int .i64 cd, .int .i64 ix]
    have j0 := (bo1.below hb2 bo1.lt).cell 0
    have j1 := (bo1.below hb2 bo1.lt).cell 1
    have j2 := (bo1.below hb2 bo1.lt).cell 2
    have jl := (bo1.below hb2 bo1.lt).lt
    simp only [List.getElem?_toArray, List.getElem?_cons_zero, List.getElem?_cons_succ] at j0 j1 j2
    clear hb2 HD bo1 k0 k1 k2
    go_wp2_with fail
    go_at_call 30
    refine (HF.out _ hbx).mono ?_
    rintro e w3 ⟨rfl, hb3⟩
    have f3 := f2.below hb3 f2.lt
    have m0 := f3.cell 0
    have m1 := f3.cell 1
    have ml := f3.lt
    simp only [List.getElem?_toArray, List.getElem?_cons_zero, List.getElem?_cons_succ] at m0 m1
    have hby := hbx.trans (hb3.mono hbx.size)
    clear hb3 HF
    go_wp2_with fail
    go_ret
    exact ⟨rfl, hby.alloc hby.size _⟩
  · have hok := (Ob.obF_ok (by simpa using hob)).2
    have hz := hok.f
    have HD := Lib.hid (digest_ok _ ⟨kk, ls, da⟩ Al kl Ad kd (HO.out _ hb1) hok)
    have HF := Lib.hid (fun (w1 : World) (hb : Below w.heap.size w w1) => obFault_any w1 ⟨kk, ls, da⟩ Al kl Ad kd (HO.out _ hb))
    have HG := Lib.hid (fun (w1 : World) (hb : Below w.heap.size w w1) => objDigest_any w1 ⟨kk, ls, da⟩ Al kl Ad kd (HO.out _ hb) hok)
    rw [hz] at HF
    clear hob HO hok hz
    generalize ((Ob.dig ⟨kk, ls, da⟩ : Nat) : Int) = dg at *
    go_wp2_with fail
    go_at_call 29
    refine HD.out.mono ?_
    rintro e w2 ⟨rfl, hb2⟩
    have hbw := (hb1.trans (hb2.mono hb1.size))
    have hbx := hbw.alloc hbw.size (.cells #[.int .i64 0, .int .i64 0] 28)
    have bo2 := (bo1.below hb2 bo1.lt).alloc (.cells #[.int .i64 0, .int .i64 0] 28)
    have f2 := Blk.new w2 28 #[.int .i64 0, .int .i64 0]
    have j0 := (bo1.below hb2 bo1.lt).cell 0
    have j1 := (bo1.below hb2 bo1.lt).cell 1
    have j2 := (bo1.below hb2 bo1.lt).cell 2
    have jl := (bo1.below hb2 bo1.lt).lt
    simp only [List.getElem?_toArray, List.getElem?_cons_zero, List.getElem?_cons_succ] at j0 j1 j2
    clear hb2 HD bo1 k0 k1 k2
    go_wp2_with fail
    go_at_call 30
    refine (HF.out _ hbx).mono ?_
    rintro e w3 ⟨rfl, hb3⟩
    have bo3 := (bo2.below hb3 bo2.lt)
    have f3 := f2.below hb3 f2.lt
    have m0 := f3.cell 0
    have m1 := f3.cell 1
    have ml := f3.lt
    have n0 := bo3.cell 0
    have n1 := bo3.cell 1
    have n2 := bo3.cell 2
    have nl := bo3.lt
    simp only [List.getElem?_toArray, List.getElem?_cons_zero, List.getElem?_cons_succ] at m0 m1 n0 n1 n2
    have hby := hbx.trans (hb3.mono hbx.size)
    have hbz := hby.alloc hby.size (.cells #[.int .i64 0, .int .i64 0] 28)
    clear hb3 HF j0 j1 j2
    go_wp2_with fail
    go_at_call 31
    refine (HG.out _ hbz).mono ?_
    rintro e w4 ⟨rfl, hb4⟩
    go_wp2_with fail
    go_ret
    exact ⟨by simp, hbz.trans (hb4.mono hbz.size)⟩
end Go.Proofs.Ytiilhnfdlpgllaa
