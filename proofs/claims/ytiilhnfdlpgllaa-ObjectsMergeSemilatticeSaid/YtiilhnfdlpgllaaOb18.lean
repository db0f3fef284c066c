/-
  ObjectsMergeSemilattice: the law's walk.
-/
import Derived.Test.YtiilhnfdlpgllaaOb10
import Derived.Test.YtiilhnfdlpgllaaOb12
import Derived.Test.YtiilhnfdlpgllaaOb17
import Derived.Test.YtiilhnfdlpgllaaObV
namespace Ob
/-- What the law needs of 'Merge'. -/
theorem merge_law (a b c : List S) : (∃ cd i, mergeF a b = ([], (cd, i)) ∧ (cd != 0) = true ∧ (cd == 0) = false) ∨
    (∃ u v cd i, mergeF a b = (u, (0, 0)) ∧ mergeF u c = (v, (cd, i)) ∧ (cd != 0) = true ∧ u.length ≤ 40) ∨
    ∃ u v z, mergeF a b = (u, (0, 0)) ∧ mergeF u c = (v, (0, 0)) ∧ mergeF a a = (a, (0, 0)) ∧ mergeF b a = (u, (0, 0)) ∧ mergeF b c = (z, (0, 0)) ∧ mergeF a z = (v, (0, 0)) ∧ a.length ≤ 40 ∧ u.length ≤ 40 ∧ v.length ≤ 40 ∧ z.length ≤ 40 := by
  rcases mergeF_cases a b with ⟨h1, h2⟩ | ⟨u, h1, h2⟩
  · refine .inl ⟨(mergeF a b).2.1, (mergeF a b).2.2, ?_, by simpa using h1, by simpa using h1⟩
    rw [← h2]
  · rcases mergeF_cases u c with ⟨k1, k2⟩ | ⟨v, k1, k2⟩
    · exact .inr (.inl ⟨u, (mergeF u c).1, (mergeF u c).2.1, (mergeF u c).2.2, h1, rfl, by simpa using k1, h2.len⟩)
    · obtain ⟨z, hz, hd⟩ := h2.assoc k2
      exact .inr (.inr ⟨u, v, z, h1, k1, (MgT.self h2.oka).eq, h2.comm.eq, hz.eq, hd.eq, h2.oka.len, h2.len, k2.len, hz.len⟩)
end Ob
namespace Go.Proofs.Ytiilhnfdlpgllaa
open Go.RowKit Go.V
set_option linter.unusedVariables false

set_option maxRecDepth 100000 in
set_option maxHeartbeats 16000000 in
theorem law13_any (w : World) (A : Option Addr) (k : Nat) (a : List Ob.S) (B : Option Addr) (j : Nat) (b : List Ob.S) (C : Option Addr) (l : Nat) (c : List Ob.S)
    (hva : StV w Free A a) (ha64 : a.length ≤ 9223372036854775807) (hvb : StV w Free B b) (hb64 : b.length ≤ 9223372036854775807) (hvc : StV w Free C c) (hc64 : c.length ≤ 9223372036854775807) :
    Calls Try.prog 13 #[stV A a.length k, stV B b.length j, stV C c.length l] w fun e w' => e = .returned (.bool true) ∧ Below w.heap.size w w' := by
  have HA := Lib.hid (fun (w1 : World) (hb : Below w.heap.size w w1) => hva.keep (free_below hb))
  have HYV := Lib.hid (fun (w1 : World) (hb : Below w.heap.size w w1) => hvb.keep (free_below hb))
  have HCV := Lib.hid (fun (w1 : World) (hb : Below w.heap.size w w1) => hvc.keep (free_below hb))
  have HAB := Lib.hid (fun (w1 : World) (hb : Below w.heap.size w w1) => merge_any w1 A k a B j b (HA.out _ hb) ha64 (HYV.out _ hb) hb64)
  have HAA := Lib.hid (fun (w1 : World) (hb : Below w.heap.size w w1) => merge_any w1 A k a A k a (HA.out _ hb) ha64 (HA.out _ hb) ha64)
  have HXA := Lib.hid (fun (w1 : World) (hb : Below w.heap.size w w1) => merge_any w1 B j b A k a (HYV.out _ hb) hb64 (HA.out _ hb) ha64)
  have HXC := Lib.hid (fun (w1 : World) (hb : Below w.heap.size w w1) => merge_any w1 B j b C l c (HYV.out _ hb) hb64 (HCV.out _ hb) hc64)
  have HUC := Lib.hid (fun (u : List Ob.S) (A1 : Option Addr) (k1 : Nat) (w1 : World) (h1 : StV w1 Free A1 u) (hl1 : u.length ≤ 9223372036854775807) (hb : Below w.heap.size w w1) => merge_any w1 A1 k1 u C l c h1 hl1 (HCV.out _ hb) hc64)
  have HAZ := Lib.hid (fun (u : List Ob.S) (A1 : Option Addr) (k1 : Nat) (w1 : World) (h1 : StV w1 Free A1 u) (hl1 : u.length ≤ 9223372036854775807) (hb : Below w.heap.size w w1) => merge_any w1 A k a A1 k1 u (HA.out _ hb) ha64 h1 hl1)
  have HLAW := Lib.hid (Ob.merge_law a b c)
  have hb0 : Below w.heap.size w w := Below.refl _ _
  clear hva hvb hvc HYV HCV
  go_enter Try.func13, Try.ntmps13
  have bx := Blk.new w 24 #[.slice A a.length k]
  have wB0a0 := hb0.alloc hb0.size (.cells #[.slice A a.length k] 24)
  replace bx := bx.alloc (.cells #[.slice B b.length j] 24)
  have by_ : Blk ((w.alloc (.cells #[.slice A a.length k] 24)).alloc (.cells #[.slice B b.length j] 24)) (w.heap.size + 1) 24 #[.slice B b.length j] := by simpa using Blk.new (w.alloc (.cells #[.slice A a.length k] 24)) 24 #[.slice B b.length j]
  have wB0a1 := wB0a0.alloc wB0a0.size (.cells #[.slice B b.length j] 24)
  replace bx := bx.alloc (.cells #[.slice C c.length l] 24)
  replace by_ := by_.alloc (.cells #[.slice C c.length l] 24)
  have bz : Blk (((w.alloc (.cells #[.slice A a.length k] 24)).alloc (.cells #[.slice B b.length j] 24)).alloc (.cells #[.slice C c.length l] 24)) (w.heap.size + 2) 24 #[.slice C c.length l] := by simpa using Blk.new ((w.alloc (.cells #[.slice A a.length k] 24)).alloc (.cells #[.slice B b.length j] 24)) 24 #[.slice C c.length l]
  have wB0a2 := wB0a1.alloc wB0a1.size (.cells #[.slice C c.length l] 24)
  go_wp2_with fail
  go_at_call 28
  refine (oexample_any _).mono ?_
  rintro e w1 ⟨rfl, hb1'⟩
  have wB1 := wB0a2.trans (hb1'.mono wB0a2.size)
  replace bx := bx.below hb1' bx.lt
  replace by_ := by_.below hb1' by_.lt
  replace bz := bz.below hb1' bz.lt
  have bx_l : w.heap.size < w1.heap.size := bx.lt
  have bx_l2 : w.heap.size < w1.heap.size + 1 + 1 := Nat.lt_succ_of_lt (Nat.lt_succ_of_lt bx_l)
  have bx_0 : w1.cell? ⟨w.heap.size, 0, none⟩ = some (.slice A a.length k) := (bx.cell 0).trans rfl
  have by__l : w.heap.size + 1 < w1.heap.size := by_.lt
  have by__l2 : w.heap.size + 1 < w1.heap.size + 1 + 1 := Nat.lt_succ_of_lt (Nat.lt_succ_of_lt by__l)
  have by__0 : w1.cell? ⟨w.heap.size + 1, 0, none⟩ = some (.slice B b.length j) := (by_.cell 0).trans rfl
  have bz_l : w.heap.size + 2 < w1.heap.size := bz.lt
  have bz_l2 : w.heap.size + 2 < w1.heap.size + 1 + 1 := Nat.lt_succ_of_lt (Nat.lt_succ_of_lt bz_l)
  have bz_0 : w1.cell? ⟨w.heap.size + 2, 0, none⟩ = some (.slice C c.length l) := (bz.cell 0).trans rfl
  clear hb1'
  rcases HLAW.out with ⟨cd, i, e1, hx1, hx2⟩ | ⟨u, v, cd, i, e1, e2, hx1, hul⟩ | ⟨u, v, z, e1, e2, e3, e4, e5, e6, hal, hul, hvl, hzl⟩
  · rw [e1] at HAB
    have HUC0 := Lib.hid (HUC.out [])
    clear e1 HLAW HAA HXA HXC HAZ HUC HA
    generalize Ob.mergeF [] c = r at *
    obtain ⟨l1, c1, i1⟩ := r
    go_wp2_with fail
    go_at_call 37
    refine (HAB.out _ wB1).mono ?_
    rintro e w2 ⟨A1, k1, rfl, _, hsa, hb2'⟩
    have wB2 := wB1.trans (hb2'.mono wB1.size)
    replace bx := bx.below hb2' bx.lt
    replace by_ := by_.below hb2' by_.lt
    replace bz := bz.below hb2' bz.lt
    clear bx_0 bx_l bx_l2 by__0 by__l by__l2 bz_0 bz_l bz_l2
    have bx_l : w.heap.size < w2.heap.size := bx.lt
    have bx_l2 : w.heap.size < w2.heap.size + 1 + 1 := Nat.lt_succ_of_lt (Nat.lt_succ_of_lt bx_l)
    have bx_0 : w2.cell? ⟨w.heap.size, 0, none⟩ = some (.slice A a.length k) := (bx.cell 0).trans rfl
    have by__l : w.heap.size + 1 < w2.heap.size := by_.lt
    have by__l2 : w.heap.size + 1 < w2.heap.size + 1 + 1 := Nat.lt_succ_of_lt (Nat.lt_succ_of_lt by__l)
    have by__0 : w2.cell? ⟨w.heap.size + 1, 0, none⟩ = some (.slice B b.length j) := (by_.cell 0).trans rfl
    have bz_l : w.heap.size + 2 < w2.heap.size := bz.lt
    have bz_l2 : w.heap.size + 2 < w2.heap.size + 1 + 1 := Nat.lt_succ_of_lt (Nat.lt_succ_of_lt bz_l)
    have bz_0 : w2.cell? ⟨w.heap.size + 2, 0, none⟩ = some (.slice C c.length l) := (bz.cell 0).trans rfl
    clear hb2'
    have HVa := Lib.hid (fun (w1 : World) (hb : Below w2.heap.size w2 w1) => hsa.keep (X' := Free) (Keeps.below hb (fun _ _ h => h.elim)))
    clear hsa
    have qa : Below (w2).heap.size (w2) (w2) := Below.refl _ _
    replace bx := bx.alloc (.cells #[.slice A1 0 k1] 24)
    replace by_ := by_.alloc (.cells #[.slice A1 0 k1] 24)
    replace bz := bz.alloc (.cells #[.slice A1 0 k1] 24)
    have xa := Blk.new w2 24 #[.slice A1 0 k1]
    have wB2a0 := wB2.alloc wB2.size (.cells #[.slice A1 0 k1] 24)
    have qaB2a0 := qa.alloc qa.size (.cells #[.slice A1 0 k1] 24)
    replace bx := bx.alloc (.cells #[.int .i64 cd, .int .i64 i] 28)
    replace by_ := by_.alloc (.cells #[.int .i64 cd, .int .i64 i] 28)
    replace bz := bz.alloc (.cells #[.int .i64 cd, .int .i64 i] 28)
    replace xa := xa.alloc (.cells #[.int .i64 cd, .int .i64 i] 28)
    have fa : Blk ((w2.alloc (.cells #[.slice A1 0 k1] 24)).alloc (.cells #[.int .i64 cd, .int .i64 i] 28)) (w2.heap.size + 1) 28 #[.int .i64 cd, .int .i64 i] := by simpa using Blk.new (w2.alloc (.cells #[.slice A1 0 k1] 24)) 28 #[.int .i64 cd, .int .i64 i]
    have wB2a1 := wB2a0.alloc wB2a0.size (.cells #[.int .i64 cd, .int .i64 i] 28)
    have qaB2a1 := qaB2a0.alloc qaB2a0.size (.cells #[.int .i64 cd, .int .i64 i] 28)
    go_wp2_with fail
    go_at_call 37
    refine (HUC0.out A1 k1 _ (HVa.out _ qaB2a1) (by simp) wB2a1).mono ?_
    rintro e w3 ⟨A2, k2, rfl, _, _, hb3'⟩
    have wB3 := wB2a1.trans (hb3'.mono wB2a1.size)
    have qaB3 := qaB2a1.trans (hb3'.mono qaB2a1.size)
    replace bx := bx.below hb3' bx.lt
    replace by_ := by_.below hb3' by_.lt
    replace bz := bz.below hb3' bz.lt
    replace xa := xa.below hb3' xa.lt
    replace fa := fa.below hb3' fa.lt
    clear bx_0 bx_l bx_l2 by__0 by__l by__l2 bz_0 bz_l bz_l2
    have bx_l : w.heap.size < w3.heap.size := bx.lt
    have bx_l2 : w.heap.size < w3.heap.size + 1 + 1 := Nat.lt_succ_of_lt (Nat.lt_succ_of_lt bx_l)
    have bx_0 : w3.cell? ⟨w.heap.size, 0, none⟩ = some (.slice A a.length k) := (bx.cell 0).trans rfl
    have by__l : w.heap.size + 1 < w3.heap.size := by_.lt
    have by__l2 : w.heap.size + 1 < w3.heap.size + 1 + 1 := Nat.lt_succ_of_lt (Nat.lt_succ_of_lt by__l)
    have by__0 : w3.cell? ⟨w.heap.size + 1, 0, none⟩ = some (.slice B b.length j) := (by_.cell 0).trans rfl
    have bz_l : w.heap.size + 2 < w3.heap.size := bz.lt
    have bz_l2 : w.heap.size + 2 < w3.heap.size + 1 + 1 := Nat.lt_succ_of_lt (Nat.lt_succ_of_lt bz_l)
    have bz_0 : w3.cell? ⟨w.heap.size + 2, 0, none⟩ = some (.slice C c.length l) := (bz.cell 0).trans rfl
    have xa_l : w2.heap.size < w3.heap.size := xa.lt
    have xa_l2 : w2.heap.size < w3.heap.size + 1 + 1 := Nat.lt_succ_of_lt (Nat.lt_succ_of_lt xa_l)
    have xa_0 : w3.cell? ⟨w2.heap.size, 0, none⟩ = some (.slice A1 0 k1) := (xa.cell 0).trans rfl
    have fa_l : w2.heap.size + 1 < w3.heap.size := fa.lt
    have fa_l2 : w2.heap.size + 1 < w3.heap.size + 1 + 1 := Nat.lt_succ_of_lt (Nat.lt_succ_of_lt fa_l)
    have fa_0 : w3.cell? ⟨w2.heap.size + 1, 0, none⟩ = some (.int .i64 cd) := (fa.cell 0).trans rfl
    have fa_1 : w3.cell? ⟨w2.heap.size + 1, 1, none⟩ = some (.int .i64 i) := (fa.cell 1).trans rfl
    clear hb3'
    replace bx := bx.alloc (.cells #[.slice A2 l1.length k2] 24)
    replace by_ := by_.alloc (.cells #[.slice A2 l1.length k2] 24)
    replace bz := bz.alloc (.cells #[.slice A2 l1.length k2] 24)
    replace xa := xa.alloc (.cells #[.slice A2 l1.length k2] 24)
    replace fa := fa.alloc (.cells #[.slice A2 l1.length k2] 24)
    have xb := Blk.new w3 24 #[.slice A2 l1.length k2]
    have wB3a0 := wB3.alloc wB3.size (.cells #[.slice A2 l1.length k2] 24)
    have qaB3a0 := qaB3.alloc qaB3.size (.cells #[.slice A2 l1.length k2] 24)
    replace bx := bx.alloc (.cells #[.int .i64 c1, .int .i64 i1] 28)
    replace by_ := by_.alloc (.cells #[.int .i64 c1, .int .i64 i1] 28)
    replace bz := bz.alloc (.cells #[.int .i64 c1, .int .i64 i1] 28)
    replace xa := xa.alloc (.cells #[.int .i64 c1, .int .i64 i1] 28)
    replace fa := fa.alloc (.cells #[.int .i64 c1, .int .i64 i1] 28)
    replace xb := xb.alloc (.cells #[.int .i64 c1, .int .i64 i1] 28)
    have fb : Blk ((w3.alloc (.cells #[.slice A2 l1.length k2] 24)).alloc (.cells #[.int .i64 c1, .int .i64 i1] 28)) (w3.heap.size + 1) 28 #[.int .i64 c1, .int .i64 i1] := by simpa using Blk.new (w3.alloc (.cells #[.slice A2 l1.length k2] 24)) 28 #[.int .i64 c1, .int .i64 i1]
    have wB3a1 := wB3a0.alloc wB3a0.size (.cells #[.int .i64 c1, .int .i64 i1] 28)
    have qaB3a1 := qaB3a0.alloc qaB3a0.size (.cells #[.int .i64 c1, .int .i64 i1] 28)
    go_wp2_with fail
    go_ret
    exact ⟨by simp, wB3a1⟩
  · rw [e1] at HAB
    have HUC0 := Lib.hid (HUC.out u)
    rw [e2] at HUC0
    have hul64 : u.length ≤ 9223372036854775807 := by omega
    clear e1 e2 HLAW HAA HXA HXC HAZ HUC HA
    have hz : ((0 : Int) != 0) = false := rfl
    go_wp2_with fail
    go_at_call 37
    refine (HAB.out _ wB1).mono ?_
    rintro e w2 ⟨A1, k1, rfl, _, hsa, hb2'⟩
    have wB2 := wB1.trans (hb2'.mono wB1.size)
    replace bx := bx.below hb2' bx.lt
    replace by_ := by_.below hb2' by_.lt
    replace bz := bz.below hb2' bz.lt
    clear bx_0 bx_l bx_l2 by__0 by__l by__l2 bz_0 bz_l bz_l2
    have bx_l : w.heap.size < w2.heap.size := bx.lt
    have bx_l2 : w.heap.size < w2.heap.size + 1 + 1 := Nat.lt_succ_of_lt (Nat.lt_succ_of_lt bx_l)
    have bx_0 : w2.cell? ⟨w.heap.size, 0, none⟩ = some (.slice A a.length k) := (bx.cell 0).trans rfl
    have by__l : w.heap.size + 1 < w2.heap.size := by_.lt
    have by__l2 : w.heap.size + 1 < w2.heap.size + 1 + 1 := Nat.lt_succ_of_lt (Nat.lt_succ_of_lt by__l)
    have by__0 : w2.cell? ⟨w.heap.size + 1, 0, none⟩ = some (.slice B b.length j) := (by_.cell 0).trans rfl
    have bz_l : w.heap.size + 2 < w2.heap.size := bz.lt
    have bz_l2 : w.heap.size + 2 < w2.heap.size + 1 + 1 := Nat.lt_succ_of_lt (Nat.lt_succ_of_lt bz_l)
    have bz_0 : w2.cell? ⟨w.heap.size + 2, 0, none⟩ = some (.slice C c.length l) := (bz.cell 0).trans rfl
    clear hb2'
    have HVa := Lib.hid (fun (w1 : World) (hb : Below w2.heap.size w2 w1) => hsa.keep (X' := Free) (Keeps.below hb (fun _ _ h => h.elim)))
    clear hsa
    have qa : Below (w2).heap.size (w2) (w2) := Below.refl _ _
    replace bx := bx.alloc (.cells #[.slice A1 u.length k1] 24)
    replace by_ := by_.alloc (.cells #[.slice A1 u.length k1] 24)
    replace bz := bz.alloc (.cells #[.slice A1 u.length k1] 24)
    have xa := Blk.new w2 24 #[.slice A1 u.length k1]
    have wB2a0 := wB2.alloc wB2.size (.cells #[.slice A1 u.length k1] 24)
    have qaB2a0 := qa.alloc qa.size (.cells #[.slice A1 u.length k1] 24)
    replace bx := bx.alloc (.cells #[.int .i64 0, .int .i64 0] 28)
    replace by_ := by_.alloc (.cells #[.int .i64 0, .int .i64 0] 28)
    replace bz := bz.alloc (.cells #[.int .i64 0, .int .i64 0] 28)
    replace xa := xa.alloc (.cells #[.int .i64 0, .int .i64 0] 28)
    have fa : Blk ((w2.alloc (.cells #[.slice A1 u.length k1] 24)).alloc (.cells #[.int .i64 0, .int .i64 0] 28)) (w2.heap.size + 1) 28 #[.int .i64 0, .int .i64 0] := by simpa using Blk.new (w2.alloc (.cells #[.slice A1 u.length k1] 24)) 28 #[.int .i64 0, .int .i64 0]
    have wB2a1 := wB2a0.alloc wB2a0.size (.cells #[.int .i64 0, .int .i64 0] 28)
    have qaB2a1 := qaB2a0.alloc qaB2a0.size (.cells #[.int .i64 0, .int .i64 0] 28)
    go_wp2_with fail
    go_at_call 37
    refine (HUC0.out A1 k1 _ (HVa.out _ qaB2a1) hul64 wB2a1).mono ?_
    rintro e w3 ⟨A2, k2, rfl, _, _, hb3'⟩
    have wB3 := wB2a1.trans (hb3'.mono wB2a1.size)
    have qaB3 := qaB2a1.trans (hb3'.mono qaB2a1.size)
    replace bx := bx.below hb3' bx.lt
    replace by_ := by_.below hb3' by_.lt
    replace bz := bz.below hb3' bz.lt
    replace xa := xa.below hb3' xa.lt
    replace fa := fa.below hb3' fa.lt
    clear bx_0 bx_l bx_l2 by__0 by__l by__l2 bz_0 bz_l bz_l2
    have bx_l : w.heap.size < w3.heap.size := bx.lt
    have bx_l2 : w.heap.size < w3.heap.size + 1 + 1 := Nat.lt_succ_of_lt (Nat.lt_succ_of_lt bx_l)
    have bx_0 : w3.cell? ⟨w.heap.size, 0, none⟩ = some (.slice A a.length k) := (bx.cell 0).trans rfl
    have by__l : w.heap.size + 1 < w3.heap.size := by_.lt
    have by__l2 : w.heap.size + 1 < w3.heap.size + 1 + 1 := Nat.lt_succ_of_lt (Nat.lt_succ_of_lt by__l)
    have by__0 : w3.cell? ⟨w.heap.size + 1, 0, none⟩ = some (.slice B b.length j) := (by_.cell 0).trans rfl
    have bz_l : w.heap.size + 2 < w3.heap.size := bz.lt
    have bz_l2 : w.heap.size + 2 < w3.heap.size + 1 + 1 := Nat.lt_succ_of_lt (Nat.lt_succ_of_lt bz_l)
    have bz_0 : w3.cell? ⟨w.heap.size + 2, 0, none⟩ = some (.slice C c.length l) := (bz.cell 0).trans rfl
    have xa_l : w2.heap.size < w3.heap.size := xa.lt
    have xa_l2 : w2.heap.size < w3.heap.size + 1 + 1 := Nat.lt_succ_of_lt (Nat.lt_succ_of_lt xa_l)
    have xa_0 : w3.cell? ⟨w2.heap.size, 0, none⟩ = some (.slice A1 u.length k1) := (xa.cell 0).trans rfl
    have fa_l : w2.heap.size + 1 < w3.heap.size := fa.lt
    have fa_l2 : w2.heap.size + 1 < w3.heap.size + 1 + 1 := Nat.lt_succ_of_lt (Nat.lt_succ_of_lt fa_l)
    have fa_0 : w3.cell? ⟨w2.heap.size + 1, 0, none⟩ = some (.int .i64 0) := (fa.cell 0).trans rfl
    have fa_1 : w3.cell? ⟨w2.heap.size + 1, 1, none⟩ = some (.int .i64 0) := (fa.cell 1).trans rfl
    clear hb3'
    replace bx := bx.alloc (.cells #[.slice A2 v.length k2] 24)
    replace by_ := by_.alloc (.cells #[.slice A2 v.length k2] 24)
    replace bz := bz.alloc (.cells #[.slice A2 v.length k2] 24)
    replace xa := xa.alloc (.cells #[.slice A2 v.length k2] 24)
    replace fa := fa.alloc (.cells #[.slice A2 v.length k2] 24)
    have xb := Blk.new w3 24 #[.slice A2 v.length k2]
    have wB3a0 := wB3.alloc wB3.size (.cells #[.slice A2 v.length k2] 24)
    have qaB3a0 := qaB3.alloc qaB3.size (.cells #[.slice A2 v.length k2] 24)
    replace bx := bx.alloc (.cells #[.int .i64 cd, .int .i64 i] 28)
    replace by_ := by_.alloc (.cells #[.int .i64 cd, .int .i64 i] 28)
    replace bz := bz.alloc (.cells #[.int .i64 cd, .int .i64 i] 28)
    replace xa := xa.alloc (.cells #[.int .i64 cd, .int .i64 i] 28)
    replace fa := fa.alloc (.cells #[.int .i64 cd, .int .i64 i] 28)
    replace xb := xb.alloc (.cells #[.int .i64 cd, .int .i64 i] 28)
    have fb : Blk ((w3.alloc (.cells #[.slice A2 v.length k2] 24)).alloc (.cells #[.int .i64 cd, .int .i64 i] 28)) (w3.heap.size + 1) 28 #[.int .i64 cd, .int .i64 i] := by simpa using Blk.new (w3.alloc (.cells #[.slice A2 v.length k2] 24)) 28 #[.int .i64 cd, .int .i64 i]
    have wB3a1 := wB3a0.alloc wB3a0.size (.cells #[.int .i64 cd, .int .i64 i] 28)
    have qaB3a1 := qaB3a0.alloc qaB3a0.size (.cells #[.int .i64 cd, .int .i64 i] 28)
    go_wp2_with fail
    go_ret
    exact ⟨by simp, wB3a1⟩
  · rw [e1] at HAB
    rw [e3] at HAA
    rw [e4] at HXA
    rw [e5] at HXC
    have HUC0 := Lib.hid (HUC.out u)
    rw [e2] at HUC0
    have HAZ0 := Lib.hid (HAZ.out z)
    rw [e6] at HAZ0
    have hul64 : u.length ≤ 9223372036854775807 := by omega
    have hvl64 : v.length ≤ 9223372036854775807 := by omega
    have hzl64 : z.length ≤ 9223372036854775807 := by omega
    clear e1 e2 e3 e4 e5 e6 HLAW HUC HAZ hal hul hvl hzl
    have hz : ((0 : Int) != 0) = false := rfl
    go_wp2_with fail
    go_at_call 37
    refine (HAB.out _ wB1).mono ?_
    rintro e w2 ⟨A1, k1, rfl, _, hsa, hb2'⟩
    have wB2 := wB1.trans (hb2'.mono wB1.size)
    replace bx := bx.below hb2' bx.lt
    replace by_ := by_.below hb2' by_.lt
    replace bz := bz.below hb2' bz.lt
    clear bx_0 bx_l bx_l2 by__0 by__l by__l2 bz_0 bz_l bz_l2
    have bx_l : w.heap.size < w2.heap.size := bx.lt
    have bx_l2 : w.heap.size < w2.heap.size + 1 + 1 := Nat.lt_succ_of_lt (Nat.lt_succ_of_lt bx_l)
    have bx_0 : w2.cell? ⟨w.heap.size, 0, none⟩ = some (.slice A a.length k) := (bx.cell 0).trans rfl
    have by__l : w.heap.size + 1 < w2.heap.size := by_.lt
    have by__l2 : w.heap.size + 1 < w2.heap.size + 1 + 1 := Nat.lt_succ_of_lt (Nat.lt_succ_of_lt by__l)
    have by__0 : w2.cell? ⟨w.heap.size + 1, 0, none⟩ = some (.slice B b.length j) := (by_.cell 0).trans rfl
    have bz_l : w.heap.size + 2 < w2.heap.size := bz.lt
    have bz_l2 : w.heap.size + 2 < w2.heap.size + 1 + 1 := Nat.lt_succ_of_lt (Nat.lt_succ_of_lt bz_l)
    have bz_0 : w2.cell? ⟨w.heap.size + 2, 0, none⟩ = some (.slice C c.length l) := (bz.cell 0).trans rfl
    clear hb2'
    have HVa := Lib.hid (fun (w1 : World) (hb : Below w2.heap.size w2 w1) => hsa.keep (X' := Free) (Keeps.below hb (fun _ _ h => h.elim)))
    clear hsa
    have qa : Below (w2).heap.size (w2) (w2) := Below.refl _ _
    replace bx := bx.alloc (.cells #[.slice A1 u.length k1] 24)
    replace by_ := by_.alloc (.cells #[.slice A1 u.length k1] 24)
    replace bz := bz.alloc (.cells #[.slice A1 u.length k1] 24)
    have xa := Blk.new w2 24 #[.slice A1 u.length k1]
    have wB2a0 := wB2.alloc wB2.size (.cells #[.slice A1 u.length k1] 24)
    have qaB2a0 := qa.alloc qa.size (.cells #[.slice A1 u.length k1] 24)
    replace bx := bx.alloc (.cells #[.int .i64 0, .int .i64 0] 28)
    replace by_ := by_.alloc (.cells #[.int .i64 0, .int .i64 0] 28)
    replace bz := bz.alloc (.cells #[.int .i64 0, .int .i64 0] 28)
    replace xa := xa.alloc (.cells #[.int .i64 0, .int .i64 0] 28)
    have fa : Blk ((w2.alloc (.cells #[.slice A1 u.length k1] 24)).alloc (.cells #[.int .i64 0, .int .i64 0] 28)) (w2.heap.size + 1) 28 #[.int .i64 0, .int .i64 0] := by simpa using Blk.new (w2.alloc (.cells #[.slice A1 u.length k1] 24)) 28 #[.int .i64 0, .int .i64 0]
    have wB2a1 := wB2a0.alloc wB2a0.size (.cells #[.int .i64 0, .int .i64 0] 28)
    have qaB2a1 := qaB2a0.alloc qaB2a0.size (.cells #[.int .i64 0, .int .i64 0] 28)
    go_wp2_with fail
    go_at_call 37
    refine (HUC0.out A1 k1 _ (HVa.out _ qaB2a1) hul64 wB2a1).mono ?_
    rintro e w3 ⟨A2, k2, rfl, _, hsb, hb3'⟩
    have wB3 := wB2a1.trans (hb3'.mono wB2a1.size)
    have qaB3 := qaB2a1.trans (hb3'.mono qaB2a1.size)
    replace bx := bx.below hb3' bx.lt
    replace by_ := by_.below hb3' by_.lt
    replace bz := bz.below hb3' bz.lt
    replace xa := xa.below hb3' xa.lt
    replace fa := fa.below hb3' fa.lt
    clear bx_0 bx_l bx_l2 by__0 by__l by__l2 bz_0 bz_l bz_l2
    have bx_l : w.heap.size < w3.heap.size := bx.lt
    have bx_l2 : w.heap.size < w3.heap.size + 1 + 1 := Nat.lt_succ_of_lt (Nat.lt_succ_of_lt bx_l)
    have bx_0 : w3.cell? ⟨w.heap.size, 0, none⟩ = some (.slice A a.length k) := (bx.cell 0).trans rfl
    have by__l : w.heap.size + 1 < w3.heap.size := by_.lt
    have by__l2 : w.heap.size + 1 < w3.heap.size + 1 + 1 := Nat.lt_succ_of_lt (Nat.lt_succ_of_lt by__l)
    have by__0 : w3.cell? ⟨w.heap.size + 1, 0, none⟩ = some (.slice B b.length j) := (by_.cell 0).trans rfl
    have bz_l : w.heap.size + 2 < w3.heap.size := bz.lt
    have bz_l2 : w.heap.size + 2 < w3.heap.size + 1 + 1 := Nat.lt_succ_of_lt (Nat.lt_succ_of_lt bz_l)
    have bz_0 : w3.cell? ⟨w.heap.size + 2, 0, none⟩ = some (.slice C c.length l) := (bz.cell 0).trans rfl
    have xa_l : w2.heap.size < w3.heap.size := xa.lt
    have xa_l2 : w2.heap.size < w3.heap.size + 1 + 1 := Nat.lt_succ_of_lt (Nat.lt_succ_of_lt xa_l)
    have xa_0 : w3.cell? ⟨w2.heap.size, 0, none⟩ = some (.slice A1 u.length k1) := (xa.cell 0).trans rfl
    have fa_l : w2.heap.size + 1 < w3.heap.size := fa.lt
    have fa_l2 : w2.heap.size + 1 < w3.heap.size + 1 + 1 := Nat.lt_succ_of_lt (Nat.lt_succ_of_lt fa_l)
    have fa_0 : w3.cell? ⟨w2.heap.size + 1, 0, none⟩ = some (.int .i64 0) := (fa.cell 0).trans rfl
    have fa_1 : w3.cell? ⟨w2.heap.size + 1, 1, none⟩ = some (.int .i64 0) := (fa.cell 1).trans rfl
    clear hb3'
    have HVb := Lib.hid (fun (w1 : World) (hb : Below w3.heap.size w3 w1) => hsb.keep (X' := Free) (Keeps.below hb (fun _ _ h => h.elim)))
    clear hsb
    have qb : Below (w3).heap.size (w3) (w3) := Below.refl _ _
    replace bx := bx.alloc (.cells #[.slice A2 v.length k2] 24)
    replace by_ := by_.alloc (.cells #[.slice A2 v.length k2] 24)
    replace bz := bz.alloc (.cells #[.slice A2 v.length k2] 24)
    replace xa := xa.alloc (.cells #[.slice A2 v.length k2] 24)
    replace fa := fa.alloc (.cells #[.slice A2 v.length k2] 24)
    have xb := Blk.new w3 24 #[.slice A2 v.length k2]
    have wB3a0 := wB3.alloc wB3.size (.cells #[.slice A2 v.length k2] 24)
    have qaB3a0 := qaB3.alloc qaB3.size (.cells #[.slice A2 v.length k2] 24)
    have qbB3a0 := qb.alloc qb.size (.cells #[.slice A2 v.length k2] 24)
    replace bx := bx.alloc (.cells #[.int .i64 0, .int .i64 0] 28)
    replace by_ := by_.alloc (.cells #[.int .i64 0, .int .i64 0] 28)
    replace bz := bz.alloc (.cells #[.int .i64 0, .int .i64 0] 28)
    replace xa := xa.alloc (.cells #[.int .i64 0, .int .i64 0] 28)
    replace fa := fa.alloc (.cells #[.int .i64 0, .int .i64 0] 28)
    replace xb := xb.alloc (.cells #[.int .i64 0, .int .i64 0] 28)
    have fb : Blk ((w3.alloc (.cells #[.slice A2 v.length k2] 24)).alloc (.cells #[.int .i64 0, .int .i64 0] 28)) (w3.heap.size + 1) 28 #[.int .i64 0, .int .i64 0] := by simpa using Blk.new (w3.alloc (.cells #[.slice A2 v.length k2] 24)) 28 #[.int .i64 0, .int .i64 0]
    have wB3a1 := wB3a0.alloc wB3a0.size (.cells #[.int .i64 0, .int .i64 0] 28)
    have qaB3a1 := qaB3a0.alloc qaB3a0.size (.cells #[.int .i64 0, .int .i64 0] 28)
    have qbB3a1 := qbB3a0.alloc qbB3a0.size (.cells #[.int .i64 0, .int .i64 0] 28)
    go_wp2_with fail
    go_at_call 37
    refine (HAA.out _ wB3a1).mono ?_
    rintro e w4 ⟨A3, k3, rfl, _, hsc, hb4'⟩
    have wB4 := wB3a1.trans (hb4'.mono wB3a1.size)
    have qaB4 := qaB3a1.trans (hb4'.mono qaB3a1.size)
    have qbB4 := qbB3a1.trans (hb4'.mono qbB3a1.size)
    replace bx := bx.below hb4' bx.lt
    replace by_ := by_.below hb4' by_.lt
    replace bz := bz.below hb4' bz.lt
    replace xa := xa.below hb4' xa.lt
    replace fa := fa.below hb4' fa.lt
    replace xb := xb.below hb4' xb.lt
    replace fb := fb.below hb4' fb.lt
    clear bx_0 bx_l bx_l2 by__0 by__l by__l2 bz_0 bz_l bz_l2 fa_0 fa_1 fa_l fa_l2 xa_0 xa_l xa_l2
    have bx_l : w.heap.size < w4.heap.size := bx.lt
    have bx_l2 : w.heap.size < w4.heap.size + 1 + 1 := Nat.lt_succ_of_lt (Nat.lt_succ_of_lt bx_l)
    have bx_0 : w4.cell? ⟨w.heap.size, 0, none⟩ = some (.slice A a.length k) := (bx.cell 0).trans rfl
    have by__l : w.heap.size + 1 < w4.heap.size := by_.lt
    have by__l2 : w.heap.size + 1 < w4.heap.size + 1 + 1 := Nat.lt_succ_of_lt (Nat.lt_succ_of_lt by__l)
    have by__0 : w4.cell? ⟨w.heap.size + 1, 0, none⟩ = some (.slice B b.length j) := (by_.cell 0).trans rfl
    have bz_l : w.heap.size + 2 < w4.heap.size := bz.lt
    have bz_l2 : w.heap.size + 2 < w4.heap.size + 1 + 1 := Nat.lt_succ_of_lt (Nat.lt_succ_of_lt bz_l)
    have bz_0 : w4.cell? ⟨w.heap.size + 2, 0, none⟩ = some (.slice C c.length l) := (bz.cell 0).trans rfl
    have xa_l : w2.heap.size < w4.heap.size := xa.lt
    have xa_l2 : w2.heap.size < w4.heap.size + 1 + 1 := Nat.lt_succ_of_lt (Nat.lt_succ_of_lt xa_l)
    have xa_0 : w4.cell? ⟨w2.heap.size, 0, none⟩ = some (.slice A1 u.length k1) := (xa.cell 0).trans rfl
    have fa_l : w2.heap.size + 1 < w4.heap.size := fa.lt
    have fa_l2 : w2.heap.size + 1 < w4.heap.size + 1 + 1 := Nat.lt_succ_of_lt (Nat.lt_succ_of_lt fa_l)
    have fa_0 : w4.cell? ⟨w2.heap.size + 1, 0, none⟩ = some (.int .i64 0) := (fa.cell 0).trans rfl
    have fa_1 : w4.cell? ⟨w2.heap.size + 1, 1, none⟩ = some (.int .i64 0) := (fa.cell 1).trans rfl
    have xb_l : w3.heap.size < w4.heap.size := xb.lt
    have xb_l2 : w3.heap.size < w4.heap.size + 1 + 1 := Nat.lt_succ_of_lt (Nat.lt_succ_of_lt xb_l)
    have xb_0 : w4.cell? ⟨w3.heap.size, 0, none⟩ = some (.slice A2 v.length k2) := (xb.cell 0).trans rfl
    have fb_l : w3.heap.size + 1 < w4.heap.size := fb.lt
    have fb_l2 : w3.heap.size + 1 < w4.heap.size + 1 + 1 := Nat.lt_succ_of_lt (Nat.lt_succ_of_lt fb_l)
    have fb_0 : w4.cell? ⟨w3.heap.size + 1, 0, none⟩ = some (.int .i64 0) := (fb.cell 0).trans rfl
    have fb_1 : w4.cell? ⟨w3.heap.size + 1, 1, none⟩ = some (.int .i64 0) := (fb.cell 1).trans rfl
    clear hb4'
    have HVc := Lib.hid (fun (w1 : World) (hb : Below w4.heap.size w4 w1) => hsc.keep (X' := Free) (Keeps.below hb (fun _ _ h => h.elim)))
    clear hsc
    have qc : Below (w4).heap.size (w4) (w4) := Below.refl _ _
    replace bx := bx.alloc (.cells #[.slice A3 a.length k3] 24)
    replace by_ := by_.alloc (.cells #[.slice A3 a.length k3] 24)
    replace bz := bz.alloc (.cells #[.slice A3 a.length k3] 24)
    replace xa := xa.alloc (.cells #[.slice A3 a.length k3] 24)
    replace fa := fa.alloc (.cells #[.slice A3 a.length k3] 24)
    replace xb := xb.alloc (.cells #[.slice A3 a.length k3] 24)
    replace fb := fb.alloc (.cells #[.slice A3 a.length k3] 24)
    have xc := Blk.new w4 24 #[.slice A3 a.length k3]
    have wB4a0 := wB4.alloc wB4.size (.cells #[.slice A3 a.length k3] 24)
    have qaB4a0 := qaB4.alloc qaB4.size (.cells #[.slice A3 a.length k3] 24)
    have qbB4a0 := qbB4.alloc qbB4.size (.cells #[.slice A3 a.length k3] 24)
    have qcB4a0 := qc.alloc qc.size (.cells #[.slice A3 a.length k3] 24)
    replace bx := bx.alloc (.cells #[.int .i64 0, .int .i64 0] 28)
    replace by_ := by_.alloc (.cells #[.int .i64 0, .int .i64 0] 28)
    replace bz := bz.alloc (.cells #[.int .i64 0, .int .i64 0] 28)
    replace xa := xa.alloc (.cells #[.int .i64 0, .int .i64 0] 28)
    replace fa := fa.alloc (.cells #[.int .i64 0, .int .i64 0] 28)
    replace xb := xb.alloc (.cells #[.int .i64 0, .int .i64 0] 28)
    replace fb := fb.alloc (.cells #[.int .i64 0, .int .i64 0] 28)
    replace xc := xc.alloc (.cells #[.int .i64 0, .int .i64 0] 28)
    have fc : Blk ((w4.alloc (.cells #[.slice A3 a.length k3] 24)).alloc (.cells #[.int .i64 0, .int .i64 0] 28)) (w4.heap.size + 1) 28 #[.int .i64 0, .int .i64 0] := by simpa using Blk.new (w4.alloc (.cells #[.slice A3 a.length k3] 24)) 28 #[.int .i64 0, .int .i64 0]
    have wB4a1 := wB4a0.alloc wB4a0.size (.cells #[.int .i64 0, .int .i64 0] 28)
    have qaB4a1 := qaB4a0.alloc qaB4a0.size (.cells #[.int .i64 0, .int .i64 0] 28)
    have qbB4a1 := qbB4a0.alloc qbB4a0.size (.cells #[.int .i64 0, .int .i64 0] 28)
    have qcB4a1 := qcB4a0.alloc qcB4a0.size (.cells #[.int .i64 0, .int .i64 0] 28)
    go_wp2_with fail
    go_at_call 37
    refine (HXA.out _ wB4a1).mono ?_
    rintro e w5 ⟨A4, k4, rfl, _, hsd, hb5'⟩
    have wB5 := wB4a1.trans (hb5'.mono wB4a1.size)
    have qaB5 := qaB4a1.trans (hb5'.mono qaB4a1.size)
    have qbB5 := qbB4a1.trans (hb5'.mono qbB4a1.size)
    have qcB5 := qcB4a1.trans (hb5'.mono qcB4a1.size)
    replace bx := bx.below hb5' bx.lt
    replace by_ := by_.below hb5' by_.lt
    replace bz := bz.below hb5' bz.lt
    replace xa := xa.below hb5' xa.lt
    replace fa := fa.below hb5' fa.lt
    replace xb := xb.below hb5' xb.lt
    replace fb := fb.below hb5' fb.lt
    replace xc := xc.below hb5' xc.lt
    replace fc := fc.below hb5' fc.lt
    clear bx_0 bx_l bx_l2 by__0 by__l by__l2 bz_0 bz_l bz_l2 fa_0 fa_1 fa_l fa_l2 fb_0 fb_1 fb_l fb_l2 xa_0 xa_l xa_l2 xb_0 xb_l xb_l2
    have bx_l : w.heap.size < w5.heap.size := bx.lt
    have bx_l2 : w.heap.size < w5.heap.size + 1 + 1 := Nat.lt_succ_of_lt (Nat.lt_succ_of_lt bx_l)
    have bx_0 : w5.cell? ⟨w.heap.size, 0, none⟩ = some (.slice A a.length k) := (bx.cell 0).trans rfl
    have by__l : w.heap.size + 1 < w5.heap.size := by_.lt
    have by__l2 : w.heap.size + 1 < w5.heap.size + 1 + 1 := Nat.lt_succ_of_lt (Nat.lt_succ_of_lt by__l)
    have by__0 : w5.cell? ⟨w.heap.size + 1, 0, none⟩ = some (.slice B b.length j) := (by_.cell 0).trans rfl
    have bz_l : w.heap.size + 2 < w5.heap.size := bz.lt
    have bz_l2 : w.heap.size + 2 < w5.heap.size + 1 + 1 := Nat.lt_succ_of_lt (Nat.lt_succ_of_lt bz_l)
    have bz_0 : w5.cell? ⟨w.heap.size + 2, 0, none⟩ = some (.slice C c.length l) := (bz.cell 0).trans rfl
    have xa_l : w2.heap.size < w5.heap.size := xa.lt
    have xa_l2 : w2.heap.size < w5.heap.size + 1 + 1 := Nat.lt_succ_of_lt (Nat.lt_succ_of_lt xa_l)
    have xa_0 : w5.cell? ⟨w2.heap.size, 0, none⟩ = some (.slice A1 u.length k1) := (xa.cell 0).trans rfl
    have fa_l : w2.heap.size + 1 < w5.heap.size := fa.lt
    have fa_l2 : w2.heap.size + 1 < w5.heap.size + 1 + 1 := Nat.lt_succ_of_lt (Nat.lt_succ_of_lt fa_l)
    have fa_0 : w5.cell? ⟨w2.heap.size + 1, 0, none⟩ = some (.int .i64 0) := (fa.cell 0).trans rfl
    have fa_1 : w5.cell? ⟨w2.heap.size + 1, 1, none⟩ = some (.int .i64 0) := (fa.cell 1).trans rfl
    have xb_l : w3.heap.size < w5.heap.size := xb.lt
    have xb_l2 : w3.heap.size < w5.heap.size + 1 + 1 := Nat.lt_succ_of_lt (Nat.lt_succ_of_lt xb_l)
    have xb_0 : w5.cell? ⟨w3.heap.size, 0, none⟩ = some (.slice A2 v.length k2) := (xb.cell 0).trans rfl
    have fb_l : w3.heap.size + 1 < w5.heap.size := fb.lt
    have fb_l2 : w3.heap.size + 1 < w5.heap.size + 1 + 1 := Nat.lt_succ_of_lt (Nat.lt_succ_of_lt fb_l)
    have fb_0 : w5.cell? ⟨w3.heap.size + 1, 0, none⟩ = some (.int .i64 0) := (fb.cell 0).trans rfl
    have fb_1 : w5.cell? ⟨w3.heap.size + 1, 1, none⟩ = some (.int .i64 0) := (fb.cell 1).trans rfl
    have xc_l : w4.heap.size < w5.heap.size := xc.lt
    have xc_l2 : w4.heap.size < w5.heap.size + 1 + 1 := Nat.lt_succ_of_lt (Nat.lt_succ_of_lt xc_l)
    have xc_0 : w5.cell? ⟨w4.heap.size, 0, none⟩ = some (.slice A3 a.length k3) := (xc.cell 0).trans rfl
    have fc_l : w4.heap.size + 1 < w5.heap.size := fc.lt
    have fc_l2 : w4.heap.size + 1 < w5.heap.size + 1 + 1 := Nat.lt_succ_of_lt (Nat.lt_succ_of_lt fc_l)
    have fc_0 : w5.cell? ⟨w4.heap.size + 1, 0, none⟩ = some (.int .i64 0) := (fc.cell 0).trans rfl
    have fc_1 : w5.cell? ⟨w4.heap.size + 1, 1, none⟩ = some (.int .i64 0) := (fc.cell 1).trans rfl
    clear hb5'
    have HVd := Lib.hid (fun (w1 : World) (hb : Below w5.heap.size w5 w1) => hsd.keep (X' := Free) (Keeps.below hb (fun _ _ h => h.elim)))
    clear hsd
    have qd : Below (w5).heap.size (w5) (w5) := Below.refl _ _
    replace bx := bx.alloc (.cells #[.slice A4 u.length k4] 24)
    replace by_ := by_.alloc (.cells #[.slice A4 u.length k4] 24)
    replace bz := bz.alloc (.cells #[.slice A4 u.length k4] 24)
    replace xa := xa.alloc (.cells #[.slice A4 u.length k4] 24)
    replace fa := fa.alloc (.cells #[.slice A4 u.length k4] 24)
    replace xb := xb.alloc (.cells #[.slice A4 u.length k4] 24)
    replace fb := fb.alloc (.cells #[.slice A4 u.length k4] 24)
    replace xc := xc.alloc (.cells #[.slice A4 u.length k4] 24)
    replace fc := fc.alloc (.cells #[.slice A4 u.length k4] 24)
    have xd := Blk.new w5 24 #[.slice A4 u.length k4]
    have wB5a0 := wB5.alloc wB5.size (.cells #[.slice A4 u.length k4] 24)
    have qaB5a0 := qaB5.alloc qaB5.size (.cells #[.slice A4 u.length k4] 24)
    have qbB5a0 := qbB5.alloc qbB5.size (.cells #[.slice A4 u.length k4] 24)
    have qcB5a0 := qcB5.alloc qcB5.size (.cells #[.slice A4 u.length k4] 24)
    have qdB5a0 := qd.alloc qd.size (.cells #[.slice A4 u.length k4] 24)
    replace bx := bx.alloc (.cells #[.int .i64 0, .int .i64 0] 28)
    replace by_ := by_.alloc (.cells #[.int .i64 0, .int .i64 0] 28)
    replace bz := bz.alloc (.cells #[.int .i64 0, .int .i64 0] 28)
    replace xa := xa.alloc (.cells #[.int .i64 0, .int .i64 0] 28)
    replace fa := fa.alloc (.cells #[.int .i64 0, .int .i64 0] 28)
    replace xb := xb.alloc (.cells #[.int .i64 0, .int .i64 0] 28)
    replace fb := fb.alloc (.cells #[.int .i64 0, .int .i64 0] 28)
    replace xc := xc.alloc (.cells #[.int .i64 0, .int .i64 0] 28)
    replace fc := fc.alloc (.cells #[.int .i64 0, .int .i64 0] 28)
    replace xd := xd.alloc (.cells #[.int .i64 0, .int .i64 0] 28)
    have fd : Blk ((w5.alloc (.cells #[.slice A4 u.length k4] 24)).alloc (.cells #[.int .i64 0, .int .i64 0] 28)) (w5.heap.size + 1) 28 #[.int .i64 0, .int .i64 0] := by simpa using Blk.new (w5.alloc (.cells #[.slice A4 u.length k4] 24)) 28 #[.int .i64 0, .int .i64 0]
    have wB5a1 := wB5a0.alloc wB5a0.size (.cells #[.int .i64 0, .int .i64 0] 28)
    have qaB5a1 := qaB5a0.alloc qaB5a0.size (.cells #[.int .i64 0, .int .i64 0] 28)
    have qbB5a1 := qbB5a0.alloc qbB5a0.size (.cells #[.int .i64 0, .int .i64 0] 28)
    have qcB5a1 := qcB5a0.alloc qcB5a0.size (.cells #[.int .i64 0, .int .i64 0] 28)
    have qdB5a1 := qdB5a0.alloc qdB5a0.size (.cells #[.int .i64 0, .int .i64 0] 28)
    go_wp2_with fail
    go_at_call 37
    refine (HXC.out _ wB5a1).mono ?_
    rintro e w6 ⟨A5, k5, rfl, _, hse, hb6'⟩
    have wB6 := wB5a1.trans (hb6'.mono wB5a1.size)
    have qaB6 := qaB5a1.trans (hb6'.mono qaB5a1.size)
    have qbB6 := qbB5a1.trans (hb6'.mono qbB5a1.size)
    have qcB6 := qcB5a1.trans (hb6'.mono qcB5a1.size)
    have qdB6 := qdB5a1.trans (hb6'.mono qdB5a1.size)
    replace bx := bx.below hb6' bx.lt
    replace by_ := by_.below hb6' by_.lt
    replace bz := bz.below hb6' bz.lt
    replace xa := xa.below hb6' xa.lt
    replace fa := fa.below hb6' fa.lt
    replace xb := xb.below hb6' xb.lt
    replace fb := fb.below hb6' fb.lt
    replace xc := xc.below hb6' xc.lt
    replace fc := fc.below hb6' fc.lt
    replace xd := xd.below hb6' xd.lt
    replace fd := fd.below hb6' fd.lt
    clear bx_0 bx_l bx_l2 by__0 by__l by__l2 bz_0 bz_l bz_l2 fa_0 fa_1 fa_l fa_l2 fb_0 fb_1 fb_l fb_l2 fc_0 fc_1 fc_l fc_l2 xa_0 xa_l xa_l2 xb_0 xb_l xb_l2 xc_0 xc_l xc_l2
    have bx_l : w.heap.size < w6.heap.size := bx.lt
    have bx_l2 : w.heap.size < w6.heap.size + 1 + 1 := Nat.lt_succ_of_lt (Nat.lt_succ_of_lt bx_l)
    have bx_0 : w6.cell? ⟨w.heap.size, 0, none⟩ = some (.slice A a.length k) := (bx.cell 0).trans rfl
    have by__l : w.heap.size + 1 < w6.heap.size := by_.lt
    have by__l2 : w.heap.size + 1 < w6.heap.size + 1 + 1 := Nat.lt_succ_of_lt (Nat.lt_succ_of_lt by__l)
    have by__0 : w6.cell? ⟨w.heap.size + 1, 0, none⟩ = some (.slice B b.length j) := (by_.cell 0).trans rfl
    have bz_l : w.heap.size + 2 < w6.heap.size := bz.lt
    have bz_l2 : w.heap.size + 2 < w6.heap.size + 1 + 1 := Nat.lt_succ_of_lt (Nat.lt_succ_of_lt bz_l)
    have bz_0 : w6.cell? ⟨w.heap.size + 2, 0, none⟩ = some (.slice C c.length l) := (bz.cell 0).trans rfl
    have xa_l : w2.heap.size < w6.heap.size := xa.lt
    have xa_l2 : w2.heap.size < w6.heap.size + 1 + 1 := Nat.lt_succ_of_lt (Nat.lt_succ_of_lt xa_l)
    have xa_0 : w6.cell? ⟨w2.heap.size, 0, none⟩ = some (.slice A1 u.length k1) := (xa.cell 0).trans rfl
    have fa_l : w2.heap.size + 1 < w6.heap.size := fa.lt
    have fa_l2 : w2.heap.size + 1 < w6.heap.size + 1 + 1 := Nat.lt_succ_of_lt (Nat.lt_succ_of_lt fa_l)
    have fa_0 : w6.cell? ⟨w2.heap.size + 1, 0, none⟩ = some (.int .i64 0) := (fa.cell 0).trans rfl
    have fa_1 : w6.cell? ⟨w2.heap.size + 1, 1, none⟩ = some (.int .i64 0) := (fa.cell 1).trans rfl
    have xb_l : w3.heap.size < w6.heap.size := xb.lt
    have xb_l2 : w3.heap.size < w6.heap.size + 1 + 1 := Nat.lt_succ_of_lt (Nat.lt_succ_of_lt xb_l)
    have xb_0 : w6.cell? ⟨w3.heap.size, 0, none⟩ = some (.slice A2 v.length k2) := (xb.cell 0).trans rfl
    have fb_l : w3.heap.size + 1 < w6.heap.size := fb.lt
    have fb_l2 : w3.heap.size + 1 < w6.heap.size + 1 + 1 := Nat.lt_succ_of_lt (Nat.lt_succ_of_lt fb_l)
    have fb_0 : w6.cell? ⟨w3.heap.size + 1, 0, none⟩ = some (.int .i64 0) := (fb.cell 0).trans rfl
    have fb_1 : w6.cell? ⟨w3.heap.size + 1, 1, none⟩ = some (.int .i64 0) := (fb.cell 1).trans rfl
    have xc_l : w4.heap.size < w6.heap.size := xc.lt
    have xc_l2 : w4.heap.size < w6.heap.size + 1 + 1 := Nat.lt_succ_of_lt (Nat.lt_succ_of_lt xc_l)
    have xc_0 : w6.cell? ⟨w4.heap.size, 0, none⟩ = some (.slice A3 a.length k3) := (xc.cell 0).trans rfl
    have fc_l : w4.heap.size + 1 < w6.heap.size := fc.lt
    have fc_l2 : w4.heap.size + 1 < w6.heap.size + 1 + 1 := Nat.lt_succ_of_lt (Nat.lt_succ_of_lt fc_l)
    have fc_0 : w6.cell? ⟨w4.heap.size + 1, 0, none⟩ = some (.int .i64 0) := (fc.cell 0).trans rfl
    have fc_1 : w6.cell? ⟨w4.heap.size + 1, 1, none⟩ = some (.int .i64 0) := (fc.cell 1).trans rfl
    have xd_l : w5.heap.size < w6.heap.size := xd.lt
    have xd_l2 : w5.heap.size < w6.heap.size + 1 + 1 := Nat.lt_succ_of_lt (Nat.lt_succ_of_lt xd_l)
    have xd_0 : w6.cell? ⟨w5.heap.size, 0, none⟩ = some (.slice A4 u.length k4) := (xd.cell 0).trans rfl
    have fd_l : w5.heap.size + 1 < w6.heap.size := fd.lt
    have fd_l2 : w5.heap.size + 1 < w6.heap.size + 1 + 1 := Nat.lt_succ_of_lt (Nat.lt_succ_of_lt fd_l)
    have fd_0 : w6.cell? ⟨w5.heap.size + 1, 0, none⟩ = some (.int .i64 0) := (fd.cell 0).trans rfl
    have fd_1 : w6.cell? ⟨w5.heap.size + 1, 1, none⟩ = some (.int .i64 0) := (fd.cell 1).trans rfl
    clear hb6'
    have HVe := Lib.hid (fun (w1 : World) (hb : Below w6.heap.size w6 w1) => hse.keep (X' := Free) (Keeps.below hb (fun _ _ h => h.elim)))
    clear hse
    have qe : Below (w6).heap.size (w6) (w6) := Below.refl _ _
    replace bx := bx.alloc (.cells #[.slice A5 z.length k5] 24)
    replace by_ := by_.alloc (.cells #[.slice A5 z.length k5] 24)
    replace bz := bz.alloc (.cells #[.slice A5 z.length k5] 24)
    replace xa := xa.alloc (.cells #[.slice A5 z.length k5] 24)
    replace fa := fa.alloc (.cells #[.slice A5 z.length k5] 24)
    replace xb := xb.alloc (.cells #[.slice A5 z.length k5] 24)
    replace fb := fb.alloc (.cells #[.slice A5 z.length k5] 24)
    replace xc := xc.alloc (.cells #[.slice A5 z.length k5] 24)
    replace fc := fc.alloc (.cells #[.slice A5 z.length k5] 24)
    replace xd := xd.alloc (.cells #[.slice A5 z.length k5] 24)
    replace fd := fd.alloc (.cells #[.slice A5 z.length k5] 24)
    have xe := Blk.new w6 24 #[.slice A5 z.length k5]
    have wB6a0 := wB6.alloc wB6.size (.cells #[.slice A5 z.length k5] 24)
    have qaB6a0 := qaB6.alloc qaB6.size (.cells #[.slice A5 z.length k5] 24)
    have qbB6a0 := qbB6.alloc qbB6.size (.cells #[.slice A5 z.length k5] 24)
    have qcB6a0 := qcB6.alloc qcB6.size (.cells #[.slice A5 z.length k5] 24)
    have qdB6a0 := qdB6.alloc qdB6.size (.cells #[.slice A5 z.length k5] 24)
    have qeB6a0 := qe.alloc qe.size (.cells #[.slice A5 z.length k5] 24)
    replace bx := bx.alloc (.cells #[.int .i64 0, .int .i64 0] 28)
    replace by_ := by_.alloc (.cells #[.int .i64 0, .int .i64 0] 28)
    replace bz := bz.alloc (.cells #[.int .i64 0, .int .i64 0] 28)
    replace xa := xa.alloc (.cells #[.int .i64 0, .int .i64 0] 28)
    replace fa := fa.alloc (.cells #[.int .i64 0, .int .i64 0] 28)
    replace xb := xb.alloc (.cells #[.int .i64 0, .int .i64 0] 28)
    replace fb := fb.alloc (.cells #[.int .i64 0, .int .i64 0] 28)
    replace xc := xc.alloc (.cells #[.int .i64 0, .int .i64 0] 28)
    replace fc := fc.alloc (.cells #[.int .i64 0, .int .i64 0] 28)
    replace xd := xd.alloc (.cells #[.int .i64 0, .int .i64 0] 28)
    replace fd := fd.alloc (.cells #[.int .i64 0, .int .i64 0] 28)
    replace xe := xe.alloc (.cells #[.int .i64 0, .int .i64 0] 28)
    have fe : Blk ((w6.alloc (.cells #[.slice A5 z.length k5] 24)).alloc (.cells #[.int .i64 0, .int .i64 0] 28)) (w6.heap.size + 1) 28 #[.int .i64 0, .int .i64 0] := by simpa using Blk.new (w6.alloc (.cells #[.slice A5 z.length k5] 24)) 28 #[.int .i64 0, .int .i64 0]
    have wB6a1 := wB6a0.alloc wB6a0.size (.cells #[.int .i64 0, .int .i64 0] 28)
    have qaB6a1 := qaB6a0.alloc qaB6a0.size (.cells #[.int .i64 0, .int .i64 0] 28)
    have qbB6a1 := qbB6a0.alloc qbB6a0.size (.cells #[.int .i64 0, .int .i64 0] 28)
    have qcB6a1 := qcB6a0.alloc qcB6a0.size (.cells #[.int .i64 0, .int .i64 0] 28)
    have qdB6a1 := qdB6a0.alloc qdB6a0.size (.cells #[.int .i64 0, .int .i64 0] 28)
    have qeB6a1 := qeB6a0.alloc qeB6a0.size (.cells #[.int .i64 0, .int .i64 0] 28)
    go_wp2_with fail
    go_at_call 37
    refine (HAZ0.out A5 k5 _ (HVe.out _ qeB6a1) hzl64 wB6a1).mono ?_
    rintro e w7 ⟨A6, k6, rfl, _, hsf, hb7'⟩
    have wB7 := wB6a1.trans (hb7'.mono wB6a1.size)
    have qaB7 := qaB6a1.trans (hb7'.mono qaB6a1.size)
    have qbB7 := qbB6a1.trans (hb7'.mono qbB6a1.size)
    have qcB7 := qcB6a1.trans (hb7'.mono qcB6a1.size)
    have qdB7 := qdB6a1.trans (hb7'.mono qdB6a1.size)
    have qeB7 := qeB6a1.trans (hb7'.mono qeB6a1.size)
    replace bx := bx.below hb7' bx.lt
    replace by_ := by_.below hb7' by_.lt
    replace bz := bz.below hb7' bz.lt
    replace xa := xa.below hb7' xa.lt
    replace fa := fa.below hb7' fa.lt
    replace xb := xb.below hb7' xb.lt
    replace fb := fb.below hb7' fb.lt
    replace xc := xc.below hb7' xc.lt
    replace fc := fc.below hb7' fc.lt
    replace xd := xd.below hb7' xd.lt
    replace fd := fd.below hb7' fd.lt
    replace xe := xe.below hb7' xe.lt
    replace fe := fe.below hb7' fe.lt
    clear bx_0 bx_l bx_l2 by__0 by__l by__l2 bz_0 bz_l bz_l2 fa_0 fa_1 fa_l fa_l2 fb_0 fb_1 fb_l fb_l2 fc_0 fc_1 fc_l fc_l2 fd_0 fd_1 fd_l fd_l2 xa_0 xa_l xa_l2 xb_0 xb_l xb_l2 xc_0 xc_l xc_l2 xd_0 xd_l xd_l2
    have bx_l : w.heap.size < w7.heap.size := bx.lt
    have bx_l2 : w.heap.size < w7.heap.size + 1 + 1 := Nat.lt_succ_of_lt (Nat.lt_succ_of_lt bx_l)
    have bx_0 : w7.cell? ⟨w.heap.size, 0, none⟩ = some (.slice A a.length k) := (bx.cell 0).trans rfl
    have by__l : w.heap.size + 1 < w7.heap.size := by_.lt
    have by__l2 : w.heap.size + 1 < w7.heap.size + 1 + 1 := Nat.lt_succ_of_lt (Nat.lt_succ_of_lt by__l)
    have by__0 : w7.cell? ⟨w.heap.size + 1, 0, none⟩ = some (.slice B b.length j) := (by_.cell 0).trans rfl
    have bz_l : w.heap.size + 2 < w7.heap.size := bz.lt
    have bz_l2 : w.heap.size + 2 < w7.heap.size + 1 + 1 := Nat.lt_succ_of_lt (Nat.lt_succ_of_lt bz_l)
    have bz_0 : w7.cell? ⟨w.heap.size + 2, 0, none⟩ = some (.slice C c.length l) := (bz.cell 0).trans rfl
    have xa_l : w2.heap.size < w7.heap.size := xa.lt
    have xa_l2 : w2.heap.size < w7.heap.size + 1 + 1 := Nat.lt_succ_of_lt (Nat.lt_succ_of_lt xa_l)
    have xa_0 : w7.cell? ⟨w2.heap.size, 0, none⟩ = some (.slice A1 u.length k1) := (xa.cell 0).trans rfl
    have fa_l : w2.heap.size + 1 < w7.heap.size := fa.lt
    have fa_l2 : w2.heap.size + 1 < w7.heap.size + 1 + 1 := Nat.lt_succ_of_lt (Nat.lt_succ_of_lt fa_l)
    have fa_0 : w7.cell? ⟨w2.heap.size + 1, 0, none⟩ = some (.int .i64 0) := (fa.cell 0).trans rfl
    have fa_1 : w7.cell? ⟨w2.heap.size + 1, 1, none⟩ = some (.int .i64 0) := (fa.cell 1).trans rfl
    have xb_l : w3.heap.size < w7.heap.size := xb.lt
    have xb_l2 : w3.heap.size < w7.heap.size + 1 + 1 := Nat.lt_succ_of_lt (Nat.lt_succ_of_lt xb_l)
    have xb_0 : w7.cell? ⟨w3.heap.size, 0, none⟩ = some (.slice A2 v.length k2) := (xb.cell 0).trans rfl
    have fb_l : w3.heap.size + 1 < w7.heap.size := fb.lt
    have fb_l2 : w3.heap.size + 1 < w7.heap.size + 1 + 1 := Nat.lt_succ_of_lt (Nat.lt_succ_of_lt fb_l)
    have fb_0 : w7.cell? ⟨w3.heap.size + 1, 0, none⟩ = some (.int .i64 0) := (fb.cell 0).trans rfl
    have fb_1 : w7.cell? ⟨w3.heap.size + 1, 1, none⟩ = some (.int .i64 0) := (fb.cell 1).trans rfl
    have xc_l : w4.heap.size < w7.heap.size := xc.lt
    have xc_l2 : w4.heap.size < w7.heap.size + 1 + 1 := Nat.lt_succ_of_lt (Nat.lt_succ_of_lt xc_l)
    have xc_0 : w7.cell? ⟨w4.heap.size, 0, none⟩ = some (.slice A3 a.length k3) := (xc.cell 0).trans rfl
    have fc_l : w4.heap.size + 1 < w7.heap.size := fc.lt
    have fc_l2 : w4.heap.size + 1 < w7.heap.size + 1 + 1 := Nat.lt_succ_of_lt (Nat.lt_succ_of_lt fc_l)
    have fc_0 : w7.cell? ⟨w4.heap.size + 1, 0, none⟩ = some (.int .i64 0) := (fc.cell 0).trans rfl
    have fc_1 : w7.cell? ⟨w4.heap.size + 1, 1, none⟩ = some (.int .i64 0) := (fc.cell 1).trans rfl
    have xd_l : w5.heap.size < w7.heap.size := xd.lt
    have xd_l2 : w5.heap.size < w7.heap.size + 1 + 1 := Nat.lt_succ_of_lt (Nat.lt_succ_of_lt xd_l)
    have xd_0 : w7.cell? ⟨w5.heap.size, 0, none⟩ = some (.slice A4 u.length k4) := (xd.cell 0).trans rfl
    have fd_l : w5.heap.size + 1 < w7.heap.size := fd.lt
    have fd_l2 : w5.heap.size + 1 < w7.heap.size + 1 + 1 := Nat.lt_succ_of_lt (Nat.lt_succ_of_lt fd_l)
    have fd_0 : w7.cell? ⟨w5.heap.size + 1, 0, none⟩ = some (.int .i64 0) := (fd.cell 0).trans rfl
    have fd_1 : w7.cell? ⟨w5.heap.size + 1, 1, none⟩ = some (.int .i64 0) := (fd.cell 1).trans rfl
    have xe_l : w6.heap.size < w7.heap.size := xe.lt
    have xe_l2 : w6.heap.size < w7.heap.size + 1 + 1 := Nat.lt_succ_of_lt (Nat.lt_succ_of_lt xe_l)
    have xe_0 : w7.cell? ⟨w6.heap.size, 0, none⟩ = some (.slice A5 z.length k5) := (xe.cell 0).trans rfl
    have fe_l : w6.heap.size + 1 < w7.heap.size := fe.lt
    have fe_l2 : w6.heap.size + 1 < w7.heap.size + 1 + 1 := Nat.lt_succ_of_lt (Nat.lt_succ_of_lt fe_l)
    have fe_0 : w7.cell? ⟨w6.heap.size + 1, 0, none⟩ = some (.int .i64 0) := (fe.cell 0).trans rfl
    have fe_1 : w7.cell? ⟨w6.heap.size + 1, 1, none⟩ = some (.int .i64 0) := (fe.cell 1).trans rfl
    clear hb7'
    have HVf := Lib.hid (fun (w1 : World) (hb : Below w7.heap.size w7 w1) => hsf.keep (X' := Free) (Keeps.below hb (fun _ _ h => h.elim)))
    clear hsf
    have qf : Below (w7).heap.size (w7) (w7) := Below.refl _ _
    replace bx := bx.alloc (.cells #[.slice A6 v.length k6] 24)
    replace by_ := by_.alloc (.cells #[.slice A6 v.length k6] 24)
    replace bz := bz.alloc (.cells #[.slice A6 v.length k6] 24)
    replace xa := xa.alloc (.cells #[.slice A6 v.length k6] 24)
    replace fa := fa.alloc (.cells #[.slice A6 v.length k6] 24)
    replace xb := xb.alloc (.cells #[.slice A6 v.length k6] 24)
    replace fb := fb.alloc (.cells #[.slice A6 v.length k6] 24)
    replace xc := xc.alloc (.cells #[.slice A6 v.length k6] 24)
    replace fc := fc.alloc (.cells #[.slice A6 v.length k6] 24)
    replace xd := xd.alloc (.cells #[.slice A6 v.length k6] 24)
    replace fd := fd.alloc (.cells #[.slice A6 v.length k6] 24)
    replace xe := xe.alloc (.cells #[.slice A6 v.length k6] 24)
    replace fe := fe.alloc (.cells #[.slice A6 v.length k6] 24)
    have xf := Blk.new w7 24 #[.slice A6 v.length k6]
    have wB7a0 := wB7.alloc wB7.size (.cells #[.slice A6 v.length k6] 24)
    have qaB7a0 := qaB7.alloc qaB7.size (.cells #[.slice A6 v.length k6] 24)
    have qbB7a0 := qbB7.alloc qbB7.size (.cells #[.slice A6 v.length k6] 24)
    have qcB7a0 := qcB7.alloc qcB7.size (.cells #[.slice A6 v.length k6] 24)
    have qdB7a0 := qdB7.alloc qdB7.size (.cells #[.slice A6 v.length k6] 24)
    have qeB7a0 := qeB7.alloc qeB7.size (.cells #[.slice A6 v.length k6] 24)
    have qfB7a0 := qf.alloc qf.size (.cells #[.slice A6 v.length k6] 24)
    replace bx := bx.alloc (.cells #[.int .i64 0, .int .i64 0] 28)
    replace by_ := by_.alloc (.cells #[.int .i64 0, .int .i64 0] 28)
    replace bz := bz.alloc (.cells #[.int .i64 0, .int .i64 0] 28)
    replace xa := xa.alloc (.cells #[.int .i64 0, .int .i64 0] 28)
    replace fa := fa.alloc (.cells #[.int .i64 0, .int .i64 0] 28)
    replace xb := xb.alloc (.cells #[.int .i64 0, .int .i64 0] 28)
    replace fb := fb.alloc (.cells #[.int .i64 0, .int .i64 0] 28)
    replace xc := xc.alloc (.cells #[.int .i64 0, .int .i64 0] 28)
    replace fc := fc.alloc (.cells #[.int .i64 0, .int .i64 0] 28)
    replace xd := xd.alloc (.cells #[.int .i64 0, .int .i64 0] 28)
    replace fd := fd.alloc (.cells #[.int .i64 0, .int .i64 0] 28)
    replace xe := xe.alloc (.cells #[.int .i64 0, .int .i64 0] 28)
    replace fe := fe.alloc (.cells #[.int .i64 0, .int .i64 0] 28)
    replace xf := xf.alloc (.cells #[.int .i64 0, .int .i64 0] 28)
    have ff : Blk ((w7.alloc (.cells #[.slice A6 v.length k6] 24)).alloc (.cells #[.int .i64 0, .int .i64 0] 28)) (w7.heap.size + 1) 28 #[.int .i64 0, .int .i64 0] := by simpa using Blk.new (w7.alloc (.cells #[.slice A6 v.length k6] 24)) 28 #[.int .i64 0, .int .i64 0]
    have wB7a1 := wB7a0.alloc wB7a0.size (.cells #[.int .i64 0, .int .i64 0] 28)
    have qaB7a1 := qaB7a0.alloc qaB7a0.size (.cells #[.int .i64 0, .int .i64 0] 28)
    have qbB7a1 := qbB7a0.alloc qbB7a0.size (.cells #[.int .i64 0, .int .i64 0] 28)
    have qcB7a1 := qcB7a0.alloc qcB7a0.size (.cells #[.int .i64 0, .int .i64 0] 28)
    have qdB7a1 := qdB7a0.alloc qdB7a0.size (.cells #[.int .i64 0, .int .i64 0] 28)
    have qeB7a1 := qeB7a0.alloc qeB7a0.size (.cells #[.int .i64 0, .int .i64 0] 28)
    have qfB7a1 := qfB7a0.alloc qfB7a0.size (.cells #[.int .i64 0, .int .i64 0] 28)
    go_wp2_with fail
    go_at_call 22
    refine (stores_any _ A3 A k3 k a (HVc.out _ qcB7a1) (HA.out _ wB7a1) ha64).mono ?_
    rintro e w8 ⟨rfl, hb8'⟩
    have wB8 := wB7a1.trans (hb8'.mono wB7a1.size)
    have qaB8 := qaB7a1.trans (hb8'.mono qaB7a1.size)
    have qbB8 := qbB7a1.trans (hb8'.mono qbB7a1.size)
    have qcB8 := qcB7a1.trans (hb8'.mono qcB7a1.size)
    have qdB8 := qdB7a1.trans (hb8'.mono qdB7a1.size)
    have qeB8 := qeB7a1.trans (hb8'.mono qeB7a1.size)
    have qfB8 := qfB7a1.trans (hb8'.mono qfB7a1.size)
    replace bx := bx.below hb8' bx.lt
    replace by_ := by_.below hb8' by_.lt
    replace bz := bz.below hb8' bz.lt
    replace xa := xa.below hb8' xa.lt
    replace fa := fa.below hb8' fa.lt
    replace xb := xb.below hb8' xb.lt
    replace fb := fb.below hb8' fb.lt
    replace xc := xc.below hb8' xc.lt
    replace fc := fc.below hb8' fc.lt
    replace xd := xd.below hb8' xd.lt
    replace fd := fd.below hb8' fd.lt
    replace xe := xe.below hb8' xe.lt
    replace fe := fe.below hb8' fe.lt
    replace xf := xf.below hb8' xf.lt
    replace ff := ff.below hb8' ff.lt
    clear bx_0 bx_l bx_l2 by__0 by__l by__l2 bz_0 bz_l bz_l2 fa_0 fa_1 fa_l fa_l2 fb_0 fb_1 fb_l fb_l2 fc_0 fc_1 fc_l fc_l2 fd_0 fd_1 fd_l fd_l2 fe_0 fe_1 fe_l fe_l2 xa_0 xa_l xa_l2 xb_0 xb_l xb_l2 xc_0 xc_l xc_l2 xd_0 xd_l xd_l2 xe_0 xe_l xe_l2
    have bx_l : w.heap.size < w8.heap.size := bx.lt
    have bx_l2 : w.heap.size < w8.heap.size + 1 + 1 := Nat.lt_succ_of_lt (Nat.lt_succ_of_lt bx_l)
    have bx_0 : w8.cell? ⟨w.heap.size, 0, none⟩ = some (.slice A a.length k) := (bx.cell 0).trans rfl
    have by__l : w.heap.size + 1 < w8.heap.size := by_.lt
    have by__l2 : w.heap.size + 1 < w8.heap.size + 1 + 1 := Nat.lt_succ_of_lt (Nat.lt_succ_of_lt by__l)
    have by__0 : w8.cell? ⟨w.heap.size + 1, 0, none⟩ = some (.slice B b.length j) := (by_.cell 0).trans rfl
    have bz_l : w.heap.size + 2 < w8.heap.size := bz.lt
    have bz_l2 : w.heap.size + 2 < w8.heap.size + 1 + 1 := Nat.lt_succ_of_lt (Nat.lt_succ_of_lt bz_l)
    have bz_0 : w8.cell? ⟨w.heap.size + 2, 0, none⟩ = some (.slice C c.length l) := (bz.cell 0).trans rfl
    have xa_l : w2.heap.size < w8.heap.size := xa.lt
    have xa_l2 : w2.heap.size < w8.heap.size + 1 + 1 := Nat.lt_succ_of_lt (Nat.lt_succ_of_lt xa_l)
    have xa_0 : w8.cell? ⟨w2.heap.size, 0, none⟩ = some (.slice A1 u.length k1) := (xa.cell 0).trans rfl
    have fa_l : w2.heap.size + 1 < w8.heap.size := fa.lt
    have fa_l2 : w2.heap.size + 1 < w8.heap.size + 1 + 1 := Nat.lt_succ_of_lt (Nat.lt_succ_of_lt fa_l)
    have fa_0 : w8.cell? ⟨w2.heap.size + 1, 0, none⟩ = some (.int .i64 0) := (fa.cell 0).trans rfl
    have fa_1 : w8.cell? ⟨w2.heap.size + 1, 1, none⟩ = some (.int .i64 0) := (fa.cell 1).trans rfl
    have xb_l : w3.heap.size < w8.heap.size := xb.lt
    have xb_l2 : w3.heap.size < w8.heap.size + 1 + 1 := Nat.lt_succ_of_lt (Nat.lt_succ_of_lt xb_l)
    have xb_0 : w8.cell? ⟨w3.heap.size, 0, none⟩ = some (.slice A2 v.length k2) := (xb.cell 0).trans rfl
    have fb_l : w3.heap.size + 1 < w8.heap.size := fb.lt
    have fb_l2 : w3.heap.size + 1 < w8.heap.size + 1 + 1 := Nat.lt_succ_of_lt (Nat.lt_succ_of_lt fb_l)
    have fb_0 : w8.cell? ⟨w3.heap.size + 1, 0, none⟩ = some (.int .i64 0) := (fb.cell 0).trans rfl
    have fb_1 : w8.cell? ⟨w3.heap.size + 1, 1, none⟩ = some (.int .i64 0) := (fb.cell 1).trans rfl
    have xc_l : w4.heap.size < w8.heap.size := xc.lt
    have xc_l2 : w4.heap.size < w8.heap.size + 1 + 1 := Nat.lt_succ_of_lt (Nat.lt_succ_of_lt xc_l)
    have xc_0 : w8.cell? ⟨w4.heap.size, 0, none⟩ = some (.slice A3 a.length k3) := (xc.cell 0).trans rfl
    have fc_l : w4.heap.size + 1 < w8.heap.size := fc.lt
    have fc_l2 : w4.heap.size + 1 < w8.heap.size + 1 + 1 := Nat.lt_succ_of_lt (Nat.lt_succ_of_lt fc_l)
    have fc_0 : w8.cell? ⟨w4.heap.size + 1, 0, none⟩ = some (.int .i64 0) := (fc.cell 0).trans rfl
    have fc_1 : w8.cell? ⟨w4.heap.size + 1, 1, none⟩ = some (.int .i64 0) := (fc.cell 1).trans rfl
    have xd_l : w5.heap.size < w8.heap.size := xd.lt
    have xd_l2 : w5.heap.size < w8.heap.size + 1 + 1 := Nat.lt_succ_of_lt (Nat.lt_succ_of_lt xd_l)
    have xd_0 : w8.cell? ⟨w5.heap.size, 0, none⟩ = some (.slice A4 u.length k4) := (xd.cell 0).trans rfl
    have fd_l : w5.heap.size + 1 < w8.heap.size := fd.lt
    have fd_l2 : w5.heap.size + 1 < w8.heap.size + 1 + 1 := Nat.lt_succ_of_lt (Nat.lt_succ_of_lt fd_l)
    have fd_0 : w8.cell? ⟨w5.heap.size + 1, 0, none⟩ = some (.int .i64 0) := (fd.cell 0).trans rfl
    have fd_1 : w8.cell? ⟨w5.heap.size + 1, 1, none⟩ = some (.int .i64 0) := (fd.cell 1).trans rfl
    have xe_l : w6.heap.size < w8.heap.size := xe.lt
    have xe_l2 : w6.heap.size < w8.heap.size + 1 + 1 := Nat.lt_succ_of_lt (Nat.lt_succ_of_lt xe_l)
    have xe_0 : w8.cell? ⟨w6.heap.size, 0, none⟩ = some (.slice A5 z.length k5) := (xe.cell 0).trans rfl
    have fe_l : w6.heap.size + 1 < w8.heap.size := fe.lt
    have fe_l2 : w6.heap.size + 1 < w8.heap.size + 1 + 1 := Nat.lt_succ_of_lt (Nat.lt_succ_of_lt fe_l)
    have fe_0 : w8.cell? ⟨w6.heap.size + 1, 0, none⟩ = some (.int .i64 0) := (fe.cell 0).trans rfl
    have fe_1 : w8.cell? ⟨w6.heap.size + 1, 1, none⟩ = some (.int .i64 0) := (fe.cell 1).trans rfl
    have xf_l : w7.heap.size < w8.heap.size := xf.lt
    have xf_l2 : w7.heap.size < w8.heap.size + 1 + 1 := Nat.lt_succ_of_lt (Nat.lt_succ_of_lt xf_l)
    have xf_0 : w8.cell? ⟨w7.heap.size, 0, none⟩ = some (.slice A6 v.length k6) := (xf.cell 0).trans rfl
    have ff_l : w7.heap.size + 1 < w8.heap.size := ff.lt
    have ff_l2 : w7.heap.size + 1 < w8.heap.size + 1 + 1 := Nat.lt_succ_of_lt (Nat.lt_succ_of_lt ff_l)
    have ff_0 : w8.cell? ⟨w7.heap.size + 1, 0, none⟩ = some (.int .i64 0) := (ff.cell 0).trans rfl
    have ff_1 : w8.cell? ⟨w7.heap.size + 1, 1, none⟩ = some (.int .i64 0) := (ff.cell 1).trans rfl
    clear hb8'
    go_wp2_with fail
    go_at_call 22
    refine (stores_any _ A1 A4 k1 k4 u (HVa.out _ qaB8) (HVd.out _ qdB8) hul64).mono ?_
    rintro e w9 ⟨rfl, hb9'⟩
    have wB9 := wB8.trans (hb9'.mono wB8.size)
    have qaB9 := qaB8.trans (hb9'.mono qaB8.size)
    have qbB9 := qbB8.trans (hb9'.mono qbB8.size)
    have qcB9 := qcB8.trans (hb9'.mono qcB8.size)
    have qdB9 := qdB8.trans (hb9'.mono qdB8.size)
    have qeB9 := qeB8.trans (hb9'.mono qeB8.size)
    have qfB9 := qfB8.trans (hb9'.mono qfB8.size)
    replace bx := bx.below hb9' bx.lt
    replace by_ := by_.below hb9' by_.lt
    replace bz := bz.below hb9' bz.lt
    replace xa := xa.below hb9' xa.lt
    replace fa := fa.below hb9' fa.lt
    replace xb := xb.below hb9' xb.lt
    replace fb := fb.below hb9' fb.lt
    replace xc := xc.below hb9' xc.lt
    replace fc := fc.below hb9' fc.lt
    replace xd := xd.below hb9' xd.lt
    replace fd := fd.below hb9' fd.lt
    replace xe := xe.below hb9' xe.lt
    replace fe := fe.below hb9' fe.lt
    replace xf := xf.below hb9' xf.lt
    replace ff := ff.below hb9' ff.lt
    clear bx_0 bx_l bx_l2 by__0 by__l by__l2 bz_0 bz_l bz_l2 fa_0 fa_1 fa_l fa_l2 fb_0 fb_1 fb_l fb_l2 fc_0 fc_1 fc_l fc_l2 fd_0 fd_1 fd_l fd_l2 fe_0 fe_1 fe_l fe_l2 ff_0 ff_1 ff_l ff_l2 xa_0 xa_l xa_l2 xb_0 xb_l xb_l2 xc_0 xc_l xc_l2 xd_0 xd_l xd_l2 xe_0 xe_l xe_l2 xf_0 xf_l xf_l2
    have bx_l : w.heap.size < w9.heap.size := bx.lt
    have bx_l2 : w.heap.size < w9.heap.size + 1 + 1 := Nat.lt_succ_of_lt (Nat.lt_succ_of_lt bx_l)
    have bx_0 : w9.cell? ⟨w.heap.size, 0, none⟩ = some (.slice A a.length k) := (bx.cell 0).trans rfl
    have by__l : w.heap.size + 1 < w9.heap.size := by_.lt
    have by__l2 : w.heap.size + 1 < w9.heap.size + 1 + 1 := Nat.lt_succ_of_lt (Nat.lt_succ_of_lt by__l)
    have by__0 : w9.cell? ⟨w.heap.size + 1, 0, none⟩ = some (.slice B b.length j) := (by_.cell 0).trans rfl
    have bz_l : w.heap.size + 2 < w9.heap.size := bz.lt
    have bz_l2 : w.heap.size + 2 < w9.heap.size + 1 + 1 := Nat.lt_succ_of_lt (Nat.lt_succ_of_lt bz_l)
    have bz_0 : w9.cell? ⟨w.heap.size + 2, 0, none⟩ = some (.slice C c.length l) := (bz.cell 0).trans rfl
    have xa_l : w2.heap.size < w9.heap.size := xa.lt
    have xa_l2 : w2.heap.size < w9.heap.size + 1 + 1 := Nat.lt_succ_of_lt (Nat.lt_succ_of_lt xa_l)
    have xa_0 : w9.cell? ⟨w2.heap.size, 0, none⟩ = some (.slice A1 u.length k1) := (xa.cell 0).trans rfl
    have fa_l : w2.heap.size + 1 < w9.heap.size := fa.lt
    have fa_l2 : w2.heap.size + 1 < w9.heap.size + 1 + 1 := Nat.lt_succ_of_lt (Nat.lt_succ_of_lt fa_l)
    have fa_0 : w9.cell? ⟨w2.heap.size + 1, 0, none⟩ = some (.int .i64 0) := (fa.cell 0).trans rfl
    have fa_1 : w9.cell? ⟨w2.heap.size + 1, 1, none⟩ = some (.int .i64 0) := (fa.cell 1).trans rfl
    have xb_l : w3.heap.size < w9.heap.size := xb.lt
    have xb_l2 : w3.heap.size < w9.heap.size + 1 + 1 := Nat.lt_succ_of_lt (Nat.lt_succ_of_lt xb_l)
    have xb_0 : w9.cell? ⟨w3.heap.size, 0, none⟩ = some (.slice A2 v.length k2) := (xb.cell 0).trans rfl
    have fb_l : w3.heap.size + 1 < w9.heap.size := fb.lt
    have fb_l2 : w3.heap.size + 1 < w9.heap.size + 1 + 1 := Nat.lt_succ_of_lt (Nat.lt_succ_of_lt fb_l)
    have fb_0 : w9.cell? ⟨w3.heap.size + 1, 0, none⟩ = some (.int .i64 0) := (fb.cell 0).trans rfl
    have fb_1 : w9.cell? ⟨w3.heap.size + 1, 1, none⟩ = some (.int .i64 0) := (fb.cell 1).trans rfl
    have xc_l : w4.heap.size < w9.heap.size := xc.lt
    have xc_l2 : w4.heap.size < w9.heap.size + 1 + 1 := Nat.lt_succ_of_lt (Nat.lt_succ_of_lt xc_l)
    have xc_0 : w9.cell? ⟨w4.heap.size, 0, none⟩ = some (.slice A3 a.length k3) := (xc.cell 0).trans rfl
    have fc_l : w4.heap.size + 1 < w9.heap.size := fc.lt
    have fc_l2 : w4.heap.size + 1 < w9.heap.size + 1 + 1 := Nat.lt_succ_of_lt (Nat.lt_succ_of_lt fc_l)
    have fc_0 : w9.cell? ⟨w4.heap.size + 1, 0, none⟩ = some (.int .i64 0) := (fc.cell 0).trans rfl
    have fc_1 : w9.cell? ⟨w4.heap.size + 1, 1, none⟩ = some (.int .i64 0) := (fc.cell 1).trans rfl
    have xd_l : w5.heap.size < w9.heap.size := xd.lt
    have xd_l2 : w5.heap.size < w9.heap.size + 1 + 1 := Nat.lt_succ_of_lt (Nat.lt_succ_of_lt xd_l)
    have xd_0 : w9.cell? ⟨w5.heap.size, 0, none⟩ = some (.slice A4 u.length k4) := (xd.cell 0).trans rfl
    have fd_l : w5.heap.size + 1 < w9.heap.size := fd.lt
    have fd_l2 : w5.heap.size + 1 < w9.heap.size + 1 + 1 := Nat.lt_succ_of_lt (Nat.lt_succ_of_lt fd_l)
    have fd_0 : w9.cell? ⟨w5.heap.size + 1, 0, none⟩ = some (.int .i64 0) := (fd.cell 0).trans rfl
    have fd_1 : w9.cell? ⟨w5.heap.size + 1, 1, none⟩ = some (.int .i64 0) := (fd.cell 1).trans rfl
    have xe_l : w6.heap.size < w9.heap.size := xe.lt
    have xe_l2 : w6.heap.size < w9.heap.size + 1 + 1 := Nat.lt_succ_of_lt (Nat.lt_succ_of_lt xe_l)
    have xe_0 : w9.cell? ⟨w6.heap.size, 0, none⟩ = some (.slice A5 z.length k5) := (xe.cell 0).trans rfl
    have fe_l : w6.heap.size + 1 < w9.heap.size := fe.lt
    have fe_l2 : w6.heap.size + 1 < w9.heap.size + 1 + 1 := Nat.lt_succ_of_lt (Nat.lt_succ_of_lt fe_l)
    have fe_0 : w9.cell? ⟨w6.heap.size + 1, 0, none⟩ = some (.int .i64 0) := (fe.cell 0).trans rfl
    have fe_1 : w9.cell? ⟨w6.heap.size + 1, 1, none⟩ = some (.int .i64 0) := (fe.cell 1).trans rfl
    have xf_l : w7.heap.size < w9.heap.size := xf.lt
    have xf_l2 : w7.heap.size < w9.heap.size + 1 + 1 := Nat.lt_succ_of_lt (Nat.lt_succ_of_lt xf_l)
    have xf_0 : w9.cell? ⟨w7.heap.size, 0, none⟩ = some (.slice A6 v.length k6) := (xf.cell 0).trans rfl
    have ff_l : w7.heap.size + 1 < w9.heap.size := ff.lt
    have ff_l2 : w7.heap.size + 1 < w9.heap.size + 1 + 1 := Nat.lt_succ_of_lt (Nat.lt_succ_of_lt ff_l)
    have ff_0 : w9.cell? ⟨w7.heap.size + 1, 0, none⟩ = some (.int .i64 0) := (ff.cell 0).trans rfl
    have ff_1 : w9.cell? ⟨w7.heap.size + 1, 1, none⟩ = some (.int .i64 0) := (ff.cell 1).trans rfl
    clear hb9'
    go_wp2_with fail
    go_at_call 22
    refine (stores_any _ A2 A6 k2 k6 v (HVb.out _ qbB9) (HVf.out _ qfB9) hvl64).mono ?_
    rintro e w10 ⟨rfl, hb10'⟩
    have wB10 := wB9.trans (hb10'.mono wB9.size)
    have qaB10 := qaB9.trans (hb10'.mono qaB9.size)
    have qbB10 := qbB9.trans (hb10'.mono qbB9.size)
    have qcB10 := qcB9.trans (hb10'.mono qcB9.size)
    have qdB10 := qdB9.trans (hb10'.mono qdB9.size)
    have qeB10 := qeB9.trans (hb10'.mono qeB9.size)
    have qfB10 := qfB9.trans (hb10'.mono qfB9.size)
    replace bx := bx.below hb10' bx.lt
    replace by_ := by_.below hb10' by_.lt
    replace bz := bz.below hb10' bz.lt
    replace xa := xa.below hb10' xa.lt
    replace fa := fa.below hb10' fa.lt
    replace xb := xb.below hb10' xb.lt
    replace fb := fb.below hb10' fb.lt
    replace xc := xc.below hb10' xc.lt
    replace fc := fc.below hb10' fc.lt
    replace xd := xd.below hb10' xd.lt
    replace fd := fd.below hb10' fd.lt
    replace xe := xe.below hb10' xe.lt
    replace fe := fe.below hb10' fe.lt
    replace xf := xf.below hb10' xf.lt
    replace ff := ff.below hb10' ff.lt
    clear bx_0 bx_l bx_l2 by__0 by__l by__l2 bz_0 bz_l bz_l2 fa_0 fa_1 fa_l fa_l2 fb_0 fb_1 fb_l fb_l2 fc_0 fc_1 fc_l fc_l2 fd_0 fd_1 fd_l fd_l2 fe_0 fe_1 fe_l fe_l2 ff_0 ff_1 ff_l ff_l2 xa_0 xa_l xa_l2 xb_0 xb_l xb_l2 xc_0 xc_l xc_l2 xd_0 xd_l xd_l2 xe_0 xe_l xe_l2 xf_0 xf_l xf_l2
    have bx_l : w.heap.size < w10.heap.size := bx.lt
    have bx_l2 : w.heap.size < w10.heap.size + 1 + 1 := Nat.lt_succ_of_lt (Nat.lt_succ_of_lt bx_l)
    have bx_0 : w10.cell? ⟨w.heap.size, 0, none⟩ = some (.slice A a.length k) := (bx.cell 0).trans rfl
    have by__l : w.heap.size + 1 < w10.heap.size := by_.lt
    have by__l2 : w.heap.size + 1 < w10.heap.size + 1 + 1 := Nat.lt_succ_of_lt (Nat.lt_succ_of_lt by__l)
    have by__0 : w10.cell? ⟨w.heap.size + 1, 0, none⟩ = some (.slice B b.length j) := (by_.cell 0).trans rfl
    have bz_l : w.heap.size + 2 < w10.heap.size := bz.lt
    have bz_l2 : w.heap.size + 2 < w10.heap.size + 1 + 1 := Nat.lt_succ_of_lt (Nat.lt_succ_of_lt bz_l)
    have bz_0 : w10.cell? ⟨w.heap.size + 2, 0, none⟩ = some (.slice C c.length l) := (bz.cell 0).trans rfl
    have xa_l : w2.heap.size < w10.heap.size := xa.lt
    have xa_l2 : w2.heap.size < w10.heap.size + 1 + 1 := Nat.lt_succ_of_lt (Nat.lt_succ_of_lt xa_l)
    have xa_0 : w10.cell? ⟨w2.heap.size, 0, none⟩ = some (.slice A1 u.length k1) := (xa.cell 0).trans rfl
    have fa_l : w2.heap.size + 1 < w10.heap.size := fa.lt
    have fa_l2 : w2.heap.size + 1 < w10.heap.size + 1 + 1 := Nat.lt_succ_of_lt (Nat.lt_succ_of_lt fa_l)
    have fa_0 : w10.cell? ⟨w2.heap.size + 1, 0, none⟩ = some (.int .i64 0) := (fa.cell 0).trans rfl
    have fa_1 : w10.cell? ⟨w2.heap.size + 1, 1, none⟩ = some (.int .i64 0) := (fa.cell 1).trans rfl
    have xb_l : w3.heap.size < w10.heap.size := xb.lt
    have xb_l2 : w3.heap.size < w10.heap.size + 1 + 1 := Nat.lt_succ_of_lt (Nat.lt_succ_of_lt xb_l)
    have xb_0 : w10.cell? ⟨w3.heap.size, 0, none⟩ = some (.slice A2 v.length k2) := (xb.cell 0).trans rfl
    have fb_l : w3.heap.size + 1 < w10.heap.size := fb.lt
    have fb_l2 : w3.heap.size + 1 < w10.heap.size + 1 + 1 := Nat.lt_succ_of_lt (Nat.lt_succ_of_lt fb_l)
    have fb_0 : w10.cell? ⟨w3.heap.size + 1, 0, none⟩ = some (.int .i64 0) := (fb.cell 0).trans rfl
    have fb_1 : w10.cell? ⟨w3.heap.size + 1, 1, none⟩ = some (.int .i64 0) := (fb.cell 1).trans rfl
    have xc_l : w4.heap.size < w10.heap.size := xc.lt
    have xc_l2 : w4.heap.size < w10.heap.size + 1 + 1 := Nat.lt_succ_of_lt (Nat.lt_succ_of_lt xc_l)
    have xc_0 : w10.cell? ⟨w4.heap.size, 0, none⟩ = some (.slice A3 a.length k3) := (xc.cell 0).trans rfl
    have fc_l : w4.heap.size + 1 < w10.heap.size := fc.lt
    have fc_l2 : w4.heap.size + 1 < w10.heap.size + 1 + 1 := Nat.lt_succ_of_lt (Nat.lt_succ_of_lt fc_l)
    have fc_0 : w10.cell? ⟨w4.heap.size + 1, 0, none⟩ = some (.int .i64 0) := (fc.cell 0).trans rfl
    have fc_1 : w10.cell? ⟨w4.heap.size + 1, 1, none⟩ = some (.int .i64 0) := (fc.cell 1).trans rfl
    have xd_l : w5.heap.size < w10.heap.size := xd.lt
    have xd_l2 : w5.heap.size < w10.heap.size + 1 + 1 := Nat.lt_succ_of_lt (Nat.lt_succ_of_lt xd_l)
    have xd_0 : w10.cell? ⟨w5.heap.size, 0, none⟩ = some (.slice A4 u.length k4) := (xd.cell 0).trans rfl
    have fd_l : w5.heap.size + 1 < w10.heap.size := fd.lt
    have fd_l2 : w5.heap.size + 1 < w10.heap.size + 1 + 1 := Nat.lt_succ_of_lt (Nat.lt_succ_of_lt fd_l)
    have fd_0 : w10.cell? ⟨w5.heap.size + 1, 0, none⟩ = some (.int .i64 0) := (fd.cell 0).trans rfl
    have fd_1 : w10.cell? ⟨w5.heap.size + 1, 1, none⟩ = some (.int .i64 0) := (fd.cell 1).trans rfl
    have xe_l : w6.heap.size < w10.heap.size := xe.lt
    have xe_l2 : w6.heap.size < w10.heap.size + 1 + 1 := Nat.lt_succ_of_lt (Nat.lt_succ_of_lt xe_l)
    have xe_0 : w10.cell? ⟨w6.heap.size, 0, none⟩ = some (.slice A5 z.length k5) := (xe.cell 0).trans rfl
    have fe_l : w6.heap.size + 1 < w10.heap.size := fe.lt
    have fe_l2 : w6.heap.size + 1 < w10.heap.size + 1 + 1 := Nat.lt_succ_of_lt (Nat.lt_succ_of_lt fe_l)
    have fe_0 : w10.cell? ⟨w6.heap.size + 1, 0, none⟩ = some (.int .i64 0) := (fe.cell 0).trans rfl
    have fe_1 : w10.cell? ⟨w6.heap.size + 1, 1, none⟩ = some (.int .i64 0) := (fe.cell 1).trans rfl
    have xf_l : w7.heap.size < w10.heap.size := xf.lt
    have xf_l2 : w7.heap.size < w10.heap.size + 1 + 1 := Nat.lt_succ_of_lt (Nat.lt_succ_of_lt xf_l)
    have xf_0 : w10.cell? ⟨w7.heap.size, 0, none⟩ = some (.slice A6 v.length k6) := (xf.cell 0).trans rfl
    have ff_l : w7.heap.size + 1 < w10.heap.size := ff.lt
    have ff_l2 : w7.heap.size + 1 < w10.heap.size + 1 + 1 := Nat.lt_succ_of_lt (Nat.lt_succ_of_lt ff_l)
    have ff_0 : w10.cell? ⟨w7.heap.size + 1, 0, none⟩ = some (.int .i64 0) := (ff.cell 0).trans rfl
    have ff_1 : w10.cell? ⟨w7.heap.size + 1, 1, none⟩ = some (.int .i64 0) := (ff.cell 1).trans rfl
    clear hb10'
    go_wp2_with fail
    go_ret
    exact ⟨by simp, wB10⟩
end Go.Proofs.Ytiilhnfdlpgllaa
