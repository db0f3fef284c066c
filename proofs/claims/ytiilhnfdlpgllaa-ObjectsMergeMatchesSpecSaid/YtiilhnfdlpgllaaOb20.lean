/-
  ObjectsMergeMatchesSpec: the law's walk.
-/
import Derived.Test.YtiilhnfdlpgllaaOb10
import Derived.Test.YtiilhnfdlpgllaaOb12
import Derived.Test.YtiilhnfdlpgllaaOb19
namespace Ob
theorem mergeF_len (a b : List S) : (mergeF a b).1.length ≤ 40 := by
  rcases mergeF_cases a b with ⟨_, h⟩ | ⟨u, h, k⟩
  · rw [h]; simp
  · rw [h]; exact k.len
end Ob
namespace Go.Proofs.Ytiilhnfdlpgllaa
open Go.RowKit Go.V
set_option linter.unusedVariables false

set_option maxRecDepth 100000 in
set_option maxHeartbeats 16000000 in
theorem law12_any (w : World) (A : Option Addr) (k : Nat) (a : List Ob.S) (B : Option Addr) (j : Nat) (b : List Ob.S)
    (hva : StV w Free A a) (ha64 : a.length ≤ 9223372036854775807) (hvb : StV w Free B b) (hb64 : b.length ≤ 9223372036854775807) :
    Calls Try.prog 12 #[stV A a.length k, stV B b.length j] w fun e w' => e = .returned (.bool true) ∧ Below w.heap.size w w' := by
  have HA := Lib.hid (fun (w1 : World) (hb : Below w.heap.size w w1) => hva.keep (free_below hb))
  have HYV := Lib.hid (fun (w1 : World) (hb : Below w.heap.size w w1) => hvb.keep (free_below hb))
  have HAB := Lib.hid (fun (w1 : World) (hb : Below w.heap.size w w1) => merge_any w1 A k a B j b (HA.out _ hb) ha64 (HYV.out _ hb) hb64)
  have H16 := Lib.hid (fun (w1 : World) (hb : Below w.heap.size w w1) => storeFault_any w1 A k a (HA.out _ hb) ha64)
  have J16 := Lib.hid (fun (w1 : World) (hb : Below w.heap.size w w1) => storeFault_any w1 B j b (HYV.out _ hb) hb64)
  have H38 := Lib.hid (fun (w1 : World) (hb : Below w.heap.size w w1) (X : Nat → Prop) (hX : ∀ g, X g → w.heap.size ≤ g ∧ g < w1.heap.size) (hla : a.length ≤ 40) (hlb : b.length ≤ 40) => mergeStores_any w1 A k a B j b (HA.out _ hb) (HYV.out _ hb) hla hlb X
    (hva.keep (Keeps.of_below hb (Nat.le_refl _) (fun g h _ => h) (fun g h e => absurd h (by have := (hX g e).1; omega))))
    (hvb.keep (Keeps.of_below hb (Nat.le_refl _) (fun g h _ => h) (fun g h e => absurd h (by have := (hX g e).1; omega)))) (fun g e => (hX g e).2))
  have HMF := Lib.hid (Ob.mergeF.eq_1 a b)
  have HLEN := Lib.hid (Ob.mergeF_len a b)
  have hb0 : Below w.heap.size w w := Below.refl _ _
  clear hva hvb HA HYV
  go_enter Try.func12, Try.ntmps12
  have bx := Blk.new w 24 #[.slice A a.length k]
  have wB0a0 := hb0.alloc hb0.size (.cells #[.slice A a.length k] 24)
  replace bx := bx.alloc (.cells #[.slice B b.length j] 24)
  have by_ : Blk ((w.alloc (.cells #[.slice A a.length k] 24)).alloc (.cells #[.slice B b.length j] 24)) (w.heap.size + 1) 24 #[.slice B b.length j] := by simpa using Blk.new (w.alloc (.cells #[.slice A a.length k] 24)) 24 #[.slice B b.length j]
  have wB0a1 := wB0a0.alloc wB0a0.size (.cells #[.slice B b.length j] 24)
  go_wp2_with fail
  go_at_call 28
  refine (oexample_any _).mono ?_
  rintro e w1 ⟨rfl, hb1'⟩
  have wB1 := wB0a1.trans (hb1'.mono wB0a1.size)
  replace bx := bx.below hb1' bx.lt
  replace by_ := by_.below hb1' by_.lt
  have bx_l : w.heap.size < w1.heap.size := bx.lt
  have bx_l2 : w.heap.size < w1.heap.size + 1 + 1 := Nat.lt_succ_of_lt (Nat.lt_succ_of_lt bx_l)
  have bx_0 : w1.cell? ⟨w.heap.size, 0, none⟩ = some (.slice A a.length k) := (bx.cell 0).trans rfl
  have by__l : w.heap.size + 1 < w1.heap.size := by_.lt
  have by__l2 : w.heap.size + 1 < w1.heap.size + 1 + 1 := Nat.lt_succ_of_lt (Nat.lt_succ_of_lt by__l)
  have by__0 : w1.cell? ⟨w.heap.size + 1, 0, none⟩ = some (.slice B b.length j) := (by_.cell 0).trans rfl
  clear hb1'
  by_cases hbad : (Ob.stF a).1 ≠ 0
  · have HR := Lib.hid (HMF.out.trans (if_pos hbad))
    rw [HR.out] at HAB
    have hx1 : ((Ob.stF a).1 == 0) = false := by simpa using hbad
    clear hbad HMF HR HLEN H38 J16
    generalize Ob.stF a = q at *
    obtain ⟨cd, ix⟩ := q
    simp only at hx1
    have hq2 : (cd == cd) = true := by simp
    have hq3 : (ix == ix) = true := by simp
    go_wp2_with fail
    go_at_call 37
    refine (HAB.out _ wB1).mono ?_
    rintro e w2 ⟨A1, k1, rfl, _, hsa, hb2'⟩
    have wB2 := wB1.trans (hb2'.mono wB1.size)
    replace bx := bx.below hb2' bx.lt
    replace by_ := by_.below hb2' by_.lt
    clear bx_0 bx_l bx_l2 by__0 by__l by__l2
    have bx_l : w.heap.size < w2.heap.size := bx.lt
    have bx_l2 : w.heap.size < w2.heap.size + 1 + 1 := Nat.lt_succ_of_lt (Nat.lt_succ_of_lt bx_l)
    have bx_0 : w2.cell? ⟨w.heap.size, 0, none⟩ = some (.slice A a.length k) := (bx.cell 0).trans rfl
    have by__l : w.heap.size + 1 < w2.heap.size := by_.lt
    have by__l2 : w.heap.size + 1 < w2.heap.size + 1 + 1 := Nat.lt_succ_of_lt (Nat.lt_succ_of_lt by__l)
    have by__0 : w2.cell? ⟨w.heap.size + 1, 0, none⟩ = some (.slice B b.length j) := (by_.cell 0).trans rfl
    clear hb2'
    have HVa := Lib.hid (fun (w1 : World) (hb : Below w2.heap.size w2 w1) => hsa.keep (X' := Free) (Keeps.below hb (fun _ _ h => h.elim)))
    have qa : Below (w2).heap.size (w2) (w2) := Below.refl _ _
    replace bx := bx.alloc (.cells #[.slice A1 0 k1] 24)
    replace by_ := by_.alloc (.cells #[.slice A1 0 k1] 24)
    have xa := Blk.new w2 24 #[.slice A1 0 k1]
    have wB2a0 := wB2.alloc wB2.size (.cells #[.slice A1 0 k1] 24)
    have qaB2a0 := qa.alloc qa.size (.cells #[.slice A1 0 k1] 24)
    replace bx := bx.alloc (.cells #[.int .i64 cd, .int .i64 ix] 28)
    replace by_ := by_.alloc (.cells #[.int .i64 cd, .int .i64 ix] 28)
    replace xa := xa.alloc (.cells #[.int .i64 cd, .int .i64 ix] 28)
    have fa : Blk ((w2.alloc (.cells #[.slice A1 0 k1] 24)).alloc (.cells #[.int .i64 cd, .int .i64 ix] 28)) (w2.heap.size + 1) 28 #[.int .i64 cd, .int .i64 ix] := by simpa using Blk.new (w2.alloc (.cells #[.slice A1 0 k1] 24)) 28 #[.int .i64 cd, .int .i64 ix]
    have wB2a1 := wB2a0.alloc wB2a0.size (.cells #[.int .i64 cd, .int .i64 ix] 28)
    have qaB2a1 := qaB2a0.alloc qaB2a0.size (.cells #[.int .i64 cd, .int .i64 ix] 28)
    go_wp2_with fail
    go_at_call 16
    refine (H16.out _ wB2a1).mono ?_
    rintro e w3 ⟨rfl, hb3'⟩
    have wB3 := wB2a1.trans (hb3'.mono wB2a1.size)
    have qaB3 := qaB2a1.trans (hb3'.mono qaB2a1.size)
    replace bx := bx.below hb3' bx.lt
    replace by_ := by_.below hb3' by_.lt
    replace xa := xa.below hb3' xa.lt
    replace fa := fa.below hb3' fa.lt
    clear bx_0 bx_l bx_l2 by__0 by__l by__l2
    have bx_l : w.heap.size < w3.heap.size := bx.lt
    have bx_l2 : w.heap.size < w3.heap.size + 1 + 1 := Nat.lt_succ_of_lt (Nat.lt_succ_of_lt bx_l)
    have bx_0 : w3.cell? ⟨w.heap.size, 0, none⟩ = some (.slice A a.length k) := (bx.cell 0).trans rfl
    have by__l : w.heap.size + 1 < w3.heap.size := by_.lt
    have by__l2 : w.heap.size + 1 < w3.heap.size + 1 + 1 := Nat.lt_succ_of_lt (Nat.lt_succ_of_lt by__l)
    have by__0 : w3.cell? ⟨w.heap.size + 1, 0, none⟩ = some (.slice B b.length j) := (by_.cell 0).trans rfl
    have xa_l : w2.heap.size < w3.heap.size := xa.lt
    have xa_l2 : w2.heap.size < w3.heap.size + 1 + 1 := Nat.lt_succ_of_lt (Nat.lt_succ_of_lt xa_l)
    have xa_0 : w3.cell? ⟨w2.heap.size, 0, none⟩ = some (.slice A1 0 k1) := (xa.cell 0).trans rfl
    have fa_l : w2.heap.size + 1 < w3.heap.size := fa.lt
    have fa_l2 : w2.heap.size + 1 < w3.heap.size + 1 + 1 := Nat.lt_succ_of_lt (Nat.lt_succ_of_lt fa_l)
    have fa_0 : w3.cell? ⟨w2.heap.size + 1, 0, none⟩ = some (.int .i64 cd) := (fa.cell 0).trans rfl
    have fa_1 : w3.cell? ⟨w2.heap.size + 1, 1, none⟩ = some (.int .i64 ix) := (fa.cell 1).trans rfl
    clear hb3'
    replace bx := bx.alloc (.cells #[.int .i64 cd, .int .i64 ix] 28)
    replace by_ := by_.alloc (.cells #[.int .i64 cd, .int .i64 ix] 28)
    replace xa := xa.alloc (.cells #[.int .i64 cd, .int .i64 ix] 28)
    replace fa := fa.alloc (.cells #[.int .i64 cd, .int .i64 ix] 28)
    have v := Blk.new w3 28 #[.int .i64 cd, .int .i64 ix]
    have wB3a0 := wB3.alloc wB3.size (.cells #[.int .i64 cd, .int .i64 ix] 28)
    have qaB3a0 := qaB3.alloc qaB3.size (.cells #[.int .i64 cd, .int .i64 ix] 28)
    replace bx := bx.alloc (.cells #[.slice none 0 0] 24)
    replace by_ := by_.alloc (.cells #[.slice none 0 0] 24)
    replace xa := xa.alloc (.cells #[.slice none 0 0] 24)
    replace fa := fa.alloc (.cells #[.slice none 0 0] 24)
    replace v := v.alloc (.cells #[.slice none 0 0] 24)
    have y : Blk ((w3.alloc (.cells #[.int .i64 cd, .int .i64 ix] 28)).alloc (.cells #[.slice none 0 0] 24)) (w3.heap.size + 1) 24 #[.slice none 0 0] := by simpa using Blk.new (w3.alloc (.cells #[.int .i64 cd, .int .i64 ix] 28)) 24 #[.slice none 0 0]
    have wB3a1 := wB3a0.alloc wB3a0.size (.cells #[.slice none 0 0] 24)
    have qaB3a1 := qaB3a0.alloc qaB3a0.size (.cells #[.slice none 0 0] 24)
    go_wp2_with fail
    go_at_call 22
    refine (stores_any _ A1 none k1 0 [] (HVa.out _ qaB3a1) ⟨[], SA.nil, rfl⟩ (by simp)).mono ?_
    rintro e w4 ⟨rfl, hb4'⟩
    have wB4 := wB3a1.trans (hb4'.mono wB3a1.size)
    have qaB4 := qaB3a1.trans (hb4'.mono qaB3a1.size)
    replace bx := bx.below hb4' bx.lt
    replace by_ := by_.below hb4' by_.lt
    replace xa := xa.below hb4' xa.lt
    replace fa := fa.below hb4' fa.lt
    replace v := v.below hb4' v.lt
    replace y := y.below hb4' y.lt
    clear bx_0 bx_l bx_l2 by__0 by__l by__l2 fa_0 fa_1 fa_l fa_l2 xa_0 xa_l xa_l2
    have bx_l : w.heap.size < w4.heap.size := bx.lt
    have bx_l2 : w.heap.size < w4.heap.size + 1 + 1 := Nat.lt_succ_of_lt (Nat.lt_succ_of_lt bx_l)
    have bx_0 : w4.cell? ⟨w.heap.size, 0, none⟩ = some (.slice A a.length k) := (bx.cell 0).trans rfl
    have by__l : w.heap.size + 1 < w4.heap.size := by_.lt
    have by__l2 : w.heap.size + 1 < w4.heap.size + 1 + 1 := Nat.lt_succ_of_lt (Nat.lt_succ_of_lt by__l)
    have by__0 : w4.cell? ⟨w.heap.size + 1, 0, none⟩ = some (.slice B b.length j) := (by_.cell 0).trans rfl
    have xa_l : w2.heap.size < w4.heap.size := xa.lt
    have xa_l2 : w2.heap.size < w4.heap.size + 1 + 1 := Nat.lt_succ_of_lt (Nat.lt_succ_of_lt xa_l)
    have xa_0 : w4.cell? ⟨w2.heap.size, 0, none⟩ = some (.slice A1 0 k1) := (xa.cell 0).trans rfl
    have fa_l : w2.heap.size + 1 < w4.heap.size := fa.lt
    have fa_l2 : w2.heap.size + 1 < w4.heap.size + 1 + 1 := Nat.lt_succ_of_lt (Nat.lt_succ_of_lt fa_l)
    have fa_0 : w4.cell? ⟨w2.heap.size + 1, 0, none⟩ = some (.int .i64 cd) := (fa.cell 0).trans rfl
    have fa_1 : w4.cell? ⟨w2.heap.size + 1, 1, none⟩ = some (.int .i64 ix) := (fa.cell 1).trans rfl
    have v_l : w3.heap.size < w4.heap.size := v.lt
    have v_l2 : w3.heap.size < w4.heap.size + 1 + 1 := Nat.lt_succ_of_lt (Nat.lt_succ_of_lt v_l)
    have v_0 : w4.cell? ⟨w3.heap.size, 0, none⟩ = some (.int .i64 cd) := (v.cell 0).trans rfl
    have v_1 : w4.cell? ⟨w3.heap.size, 1, none⟩ = some (.int .i64 ix) := (v.cell 1).trans rfl
    have y_l : w3.heap.size + 1 < w4.heap.size := y.lt
    have y_l2 : w3.heap.size + 1 < w4.heap.size + 1 + 1 := Nat.lt_succ_of_lt (Nat.lt_succ_of_lt y_l)
    have y_0 : w4.cell? ⟨w3.heap.size + 1, 0, none⟩ = some (.slice none 0 0) := (y.cell 0).trans rfl
    clear hb4'
    go_wp2_with fail
    go_ret
    exact ⟨by simp, wB4⟩
  · have hz := (Ob.stF_ok (by simpa using hbad)).1
    have hoka := (Ob.stF_ok (by simpa using hbad)).2
    have HMF2 := Lib.hid (HMF.out.trans (if_neg hbad))
    rw [hz] at H16
    clear hbad HMF hz
    by_cases hbad : (Ob.stF b).1 ≠ 0
    · have HR := Lib.hid (HMF2.out.trans (if_pos hbad))
      rw [HR.out] at HAB
      have hx1 : ((Ob.stF b).1 == 0) = false := by simpa using hbad
      clear hbad HMF2 HR HLEN H38 hoka
      generalize Ob.stF b = q at *
      obtain ⟨cd, ix⟩ := q
      simp only at hx1
      have hq2 : (cd == cd) = true := by simp
      have hq3 : (ix == ix) = true := by simp
      go_wp2_with fail
      go_at_call 37
      refine (HAB.out _ wB1).mono ?_
      rintro e w2 ⟨A1, k1, rfl, _, hsa, hb2'⟩
      have wB2 := wB1.trans (hb2'.mono wB1.size)
      replace bx := bx.below hb2' bx.lt
      replace by_ := by_.below hb2' by_.lt
      clear bx_0 bx_l bx_l2 by__0 by__l by__l2
      have bx_l : w.heap.size < w2.heap.size := bx.lt
      have bx_l2 : w.heap.size < w2.heap.size + 1 + 1 := Nat.lt_succ_of_lt (Nat.lt_succ_of_lt bx_l)
      have bx_0 : w2.cell? ⟨w.heap.size, 0, none⟩ = some (.slice A a.length k) := (bx.cell 0).trans rfl
      have by__l : w.heap.size + 1 < w2.heap.size := by_.lt
      have by__l2 : w.heap.size + 1 < w2.heap.size + 1 + 1 := Nat.lt_succ_of_lt (Nat.lt_succ_of_lt by__l)
      have by__0 : w2.cell? ⟨w.heap.size + 1, 0, none⟩ = some (.slice B b.length j) := (by_.cell 0).trans rfl
      clear hb2'
      have HVa := Lib.hid (fun (w1 : World) (hb : Below w2.heap.size w2 w1) => hsa.keep (X' := Free) (Keeps.below hb (fun _ _ h => h.elim)))
      have qa : Below (w2).heap.size (w2) (w2) := Below.refl _ _
      replace bx := bx.alloc (.cells #[.slice A1 0 k1] 24)
      replace by_ := by_.alloc (.cells #[.slice A1 0 k1] 24)
      have xa := Blk.new w2 24 #[.slice A1 0 k1]
      have wB2a0 := wB2.alloc wB2.size (.cells #[.slice A1 0 k1] 24)
      have qaB2a0 := qa.alloc qa.size (.cells #[.slice A1 0 k1] 24)
      replace bx := bx.alloc (.cells #[.int .i64 cd, .int .i64 ix] 28)
      replace by_ := by_.alloc (.cells #[.int .i64 cd, .int .i64 ix] 28)
      replace xa := xa.alloc (.cells #[.int .i64 cd, .int .i64 ix] 28)
      have fa : Blk ((w2.alloc (.cells #[.slice A1 0 k1] 24)).alloc (.cells #[.int .i64 cd, .int .i64 ix] 28)) (w2.heap.size + 1) 28 #[.int .i64 cd, .int .i64 ix] := by simpa using Blk.new (w2.alloc (.cells #[.slice A1 0 k1] 24)) 28 #[.int .i64 cd, .int .i64 ix]
      have wB2a1 := wB2a0.alloc wB2a0.size (.cells #[.int .i64 cd, .int .i64 ix] 28)
      have qaB2a1 := qaB2a0.alloc qaB2a0.size (.cells #[.int .i64 cd, .int .i64 ix] 28)
      go_wp2_with fail
      go_at_call 16
      refine (H16.out _ wB2a1).mono ?_
      rintro e w3 ⟨rfl, hb3'⟩
      have wB3 := wB2a1.trans (hb3'.mono wB2a1.size)
      have qaB3 := qaB2a1.trans (hb3'.mono qaB2a1.size)
      replace bx := bx.below hb3' bx.lt
      replace by_ := by_.below hb3' by_.lt
      replace xa := xa.below hb3' xa.lt
      replace fa := fa.below hb3' fa.lt
      clear bx_0 bx_l bx_l2 by__0 by__l by__l2
      have bx_l : w.heap.size < w3.heap.size := bx.lt
      have bx_l2 : w.heap.size < w3.heap.size + 1 + 1 := Nat.lt_succ_of_lt (Nat.lt_succ_of_lt bx_l)
      have bx_0 : w3.cell? ⟨w.heap.size, 0, none⟩ = some (.slice A a.length k) := (bx.cell 0).trans rfl
      have by__l : w.heap.size + 1 < w3.heap.size := by_.lt
      have by__l2 : w.heap.size + 1 < w3.heap.size + 1 + 1 := Nat.lt_succ_of_lt (Nat.lt_succ_of_lt by__l)
      have by__0 : w3.cell? ⟨w.heap.size + 1, 0, none⟩ = some (.slice B b.length j) := (by_.cell 0).trans rfl
      have xa_l : w2.heap.size < w3.heap.size := xa.lt
      have xa_l2 : w2.heap.size < w3.heap.size + 1 + 1 := Nat.lt_succ_of_lt (Nat.lt_succ_of_lt xa_l)
      have xa_0 : w3.cell? ⟨w2.heap.size, 0, none⟩ = some (.slice A1 0 k1) := (xa.cell 0).trans rfl
      have fa_l : w2.heap.size + 1 < w3.heap.size := fa.lt
      have fa_l2 : w2.heap.size + 1 < w3.heap.size + 1 + 1 := Nat.lt_succ_of_lt (Nat.lt_succ_of_lt fa_l)
      have fa_0 : w3.cell? ⟨w2.heap.size + 1, 0, none⟩ = some (.int .i64 cd) := (fa.cell 0).trans rfl
      have fa_1 : w3.cell? ⟨w2.heap.size + 1, 1, none⟩ = some (.int .i64 ix) := (fa.cell 1).trans rfl
      clear hb3'
      have bxlt := bx.lt
      have bylt := by_.lt
      have xalt := xa.lt
      have falt := fa.lt
      replace bx := bx.alloc (.cells #[.int .i64 0, .int .i64 0] 28)
      replace by_ := by_.alloc (.cells #[.int .i64 0, .int .i64 0] 28)
      replace xa := xa.alloc (.cells #[.int .i64 0, .int .i64 0] 28)
      replace fa := fa.alloc (.cells #[.int .i64 0, .int .i64 0] 28)
      have v := Blk.new w3 28 #[.int .i64 0, .int .i64 0]
      have wB3a0 := wB3.alloc wB3.size (.cells #[.int .i64 0, .int .i64 0] 28)
      have qaB3a0 := qaB3.alloc qaB3.size (.cells #[.int .i64 0, .int .i64 0] 28)
      go_wp2_with fail
      go_at_call 16
      refine (J16.out _ wB3a0).mono ?_
      rintro e w4 ⟨rfl, hb4'⟩
      have wB4 := wB3a0.trans (hb4'.mono wB3a0.size)
      have qaB4 := qaB3a0.trans (hb4'.mono qaB3a0.size)
      replace bx := bx.below hb4' bx.lt
      replace by_ := by_.below hb4' by_.lt
      replace xa := xa.below hb4' xa.lt
      replace fa := fa.below hb4' fa.lt
      replace v := v.below hb4' v.lt
      clear bx_0 bx_l bx_l2 by__0 by__l by__l2 fa_0 fa_1 fa_l fa_l2 xa_0 xa_l xa_l2
      have bx_l : w.heap.size < w4.heap.size := bx.lt
      have bx_l2 : w.heap.size < w4.heap.size + 1 + 1 := Nat.lt_succ_of_lt (Nat.lt_succ_of_lt bx_l)
      have bx_0 : w4.cell? ⟨w.heap.size, 0, none⟩ = some (.slice A a.length k) := (bx.cell 0).trans rfl
      have by__l : w.heap.size + 1 < w4.heap.size := by_.lt
      have by__l2 : w.heap.size + 1 < w4.heap.size + 1 + 1 := Nat.lt_succ_of_lt (Nat.lt_succ_of_lt by__l)
      have by__0 : w4.cell? ⟨w.heap.size + 1, 0, none⟩ = some (.slice B b.length j) := (by_.cell 0).trans rfl
      have xa_l : w2.heap.size < w4.heap.size := xa.lt
      have xa_l2 : w2.heap.size < w4.heap.size + 1 + 1 := Nat.lt_succ_of_lt (Nat.lt_succ_of_lt xa_l)
      have xa_0 : w4.cell? ⟨w2.heap.size, 0, none⟩ = some (.slice A1 0 k1) := (xa.cell 0).trans rfl
      have fa_l : w2.heap.size + 1 < w4.heap.size := fa.lt
      have fa_l2 : w2.heap.size + 1 < w4.heap.size + 1 + 1 := Nat.lt_succ_of_lt (Nat.lt_succ_of_lt fa_l)
      have fa_0 : w4.cell? ⟨w2.heap.size + 1, 0, none⟩ = some (.int .i64 cd) := (fa.cell 0).trans rfl
      have fa_1 : w4.cell? ⟨w2.heap.size + 1, 1, none⟩ = some (.int .i64 ix) := (fa.cell 1).trans rfl
      have v_l : w3.heap.size < w4.heap.size := v.lt
      have v_l2 : w3.heap.size < w4.heap.size + 1 + 1 := Nat.lt_succ_of_lt (Nat.lt_succ_of_lt v_l)
      have v_0 : w4.cell? ⟨w3.heap.size, 0, none⟩ = some (.int .i64 0) := (v.cell 0).trans rfl
      have v_f0 : w4.frozen? ⟨w3.heap.size, 0, none⟩ = false := v.frozen 0
      have v_1 : w4.cell? ⟨w3.heap.size, 1, none⟩ = some (.int .i64 0) := (v.cell 1).trans rfl
      have v_f1 : w4.frozen? ⟨w3.heap.size, 1, none⟩ = false := v.frozen 1
      clear hb4'
      have hvlo : w.heap.size ≤ w3.heap.size := by have := wB3.size; omega
      have ne0 : ¬ (w.heap.size = w3.heap.size) := Nat.ne_of_lt bxlt
      have nf0 : ¬ (w3.heap.size = w.heap.size) := Ne.symm ne0
      have ne1 : ¬ (w.heap.size + 1 = w3.heap.size) := Nat.ne_of_lt bylt
      have nf1 : ¬ (w3.heap.size = w.heap.size + 1) := Ne.symm ne1
      have ne2 : ¬ (w2.heap.size = w3.heap.size) := Nat.ne_of_lt xalt
      have nf2 : ¬ (w3.heap.size = w2.heap.size) := Ne.symm ne2
      have ne3 : ¬ (w2.heap.size + 1 = w3.heap.size) := Nat.ne_of_lt falt
      have nf3 : ¬ (w3.heap.size = w2.heap.size + 1) := Ne.symm ne3
      go_wp2_with fail
      go_at_call 22
      refine (stores_any _ A1 none k1 0 [] ⟨[], SA.nil, rfl⟩ ⟨[], SA.nil, rfl⟩ (by simp)).mono ?_
      rintro e wq ⟨rfl, hbq⟩
      go_wp2_with fail
      go_ret
      have hbv := ((wB4.setCell (p := ⟨w3.heap.size, 0, none⟩) hvlo (.int .i64 cd)).setCell (p := ⟨w3.heap.size, 1, none⟩) hvlo (.int .i64 ix)).alloc (by simpa [World.setCell] using wB4.size) (.cells #[.slice none 0 0] 24)
      exact ⟨by simp, hbv.trans (hbq.mono hbv.size)⟩
    · have hzb := (Ob.stF_ok (by simpa using hbad)).1
      have hokb := (Ob.stF_ok (by simpa using hbad)).2
      rw [hzb] at J16
      have K38 := Lib.hid (fun w1 hb X hX => H38.out w1 hb X hX hoka.len hokb.len)
      rw [← Ob.msR_eq hoka hokb] at K38
      have hl64 := HLEN.out
      clear hbad HMF2 hzb hoka hokb H38 HLEN
      generalize Ob.mergeF a b = r at *
      obtain ⟨l, cd, ix⟩ := r
      simp only at hl64
      have hl64' : l.length ≤ 9223372036854775807 := by omega
      have hq2 : (cd == cd) = true := by simp
      have hq3 : (ix == ix) = true := by simp
      go_wp2_with fail
      go_at_call 37
      refine (HAB.out _ wB1).mono ?_
      rintro e w2 ⟨A1, k1, rfl, _, hsa, hb2'⟩
      have wB2 := wB1.trans (hb2'.mono wB1.size)
      replace bx := bx.below hb2' bx.lt
      replace by_ := by_.below hb2' by_.lt
      clear bx_0 bx_l bx_l2 by__0 by__l by__l2
      have bx_l : w.heap.size < w2.heap.size := bx.lt
      have bx_l2 : w.heap.size < w2.heap.size + 1 + 1 := Nat.lt_succ_of_lt (Nat.lt_succ_of_lt bx_l)
      have bx_0 : w2.cell? ⟨w.heap.size, 0, none⟩ = some (.slice A a.length k) := (bx.cell 0).trans rfl
      have by__l : w.heap.size + 1 < w2.heap.size := by_.lt
      have by__l2 : w.heap.size + 1 < w2.heap.size + 1 + 1 := Nat.lt_succ_of_lt (Nat.lt_succ_of_lt by__l)
      have by__0 : w2.cell? ⟨w.heap.size + 1, 0, none⟩ = some (.slice B b.length j) := (by_.cell 0).trans rfl
      clear hb2'
      have HVa := Lib.hid (fun (w1 : World) (hb : Below w2.heap.size w2 w1) => hsa.keep (X' := Free) (Keeps.below hb (fun _ _ h => h.elim)))
      have qa : Below (w2).heap.size (w2) (w2) := Below.refl _ _
      replace bx := bx.alloc (.cells #[.slice A1 l.length k1] 24)
      replace by_ := by_.alloc (.cells #[.slice A1 l.length k1] 24)
      have xa := Blk.new w2 24 #[.slice A1 l.length k1]
      have wB2a0 := wB2.alloc wB2.size (.cells #[.slice A1 l.length k1] 24)
      have qaB2a0 := qa.alloc qa.size (.cells #[.slice A1 l.length k1] 24)
      replace bx := bx.alloc (.cells #[.int .i64 cd, .int .i64 ix] 28)
      replace by_ := by_.alloc (.cells #[.int .i64 cd, .int .i64 ix] 28)
      replace xa := xa.alloc (.cells #[.int .i64 cd, .int .i64 ix] 28)
      have fa : Blk ((w2.alloc (.cells #[.slice A1 l.length k1] 24)).alloc (.cells #[.int .i64 cd, .int .i64 ix] 28)) (w2.heap.size + 1) 28 #[.int .i64 cd, .int .i64 ix] := by simpa using Blk.new (w2.alloc (.cells #[.slice A1 l.length k1] 24)) 28 #[.int .i64 cd, .int .i64 ix]
      have wB2a1 := wB2a0.alloc wB2a0.size (.cells #[.int .i64 cd, .int .i64 ix] 28)
      have qaB2a1 := qaB2a0.alloc qaB2a0.size (.cells #[.int .i64 cd, .int .i64 ix] 28)
      go_wp2_with fail
      go_at_call 16
      refine (H16.out _ wB2a1).mono ?_
      rintro e w3 ⟨rfl, hb3'⟩
      have wB3 := wB2a1.trans (hb3'.mono wB2a1.size)
      have qaB3 := qaB2a1.trans (hb3'.mono qaB2a1.size)
      replace bx := bx.below hb3' bx.lt
      replace by_ := by_.below hb3' by_.lt
      replace xa := xa.below hb3' xa.lt
      replace fa := fa.below hb3' fa.lt
      clear bx_0 bx_l bx_l2 by__0 by__l by__l2
      have bx_l : w.heap.size < w3.heap.size := bx.lt
      have bx_l2 : w.heap.size < w3.heap.size + 1 + 1 := Nat.lt_succ_of_lt (Nat.lt_succ_of_lt bx_l)
      have bx_0 : w3.cell? ⟨w.heap.size, 0, none⟩ = some (.slice A a.length k) := (bx.cell 0).trans rfl
      have by__l : w.heap.size + 1 < w3.heap.size := by_.lt
      have by__l2 : w.heap.size + 1 < w3.heap.size + 1 + 1 := Nat.lt_succ_of_lt (Nat.lt_succ_of_lt by__l)
      have by__0 : w3.cell? ⟨w.heap.size + 1, 0, none⟩ = some (.slice B b.length j) := (by_.cell 0).trans rfl
      have xa_l : w2.heap.size < w3.heap.size := xa.lt
      have xa_l2 : w2.heap.size < w3.heap.size + 1 + 1 := Nat.lt_succ_of_lt (Nat.lt_succ_of_lt xa_l)
      have xa_0 : w3.cell? ⟨w2.heap.size, 0, none⟩ = some (.slice A1 l.length k1) := (xa.cell 0).trans rfl
      have fa_l : w2.heap.size + 1 < w3.heap.size := fa.lt
      have fa_l2 : w2.heap.size + 1 < w3.heap.size + 1 + 1 := Nat.lt_succ_of_lt (Nat.lt_succ_of_lt fa_l)
      have fa_0 : w3.cell? ⟨w2.heap.size + 1, 0, none⟩ = some (.int .i64 cd) := (fa.cell 0).trans rfl
      have fa_1 : w3.cell? ⟨w2.heap.size + 1, 1, none⟩ = some (.int .i64 ix) := (fa.cell 1).trans rfl
      clear hb3'
      have bxlt := bx.lt
      have bylt := by_.lt
      have xalt := xa.lt
      have falt := fa.lt
      replace bx := bx.alloc (.cells #[.int .i64 0, .int .i64 0] 28)
      replace by_ := by_.alloc (.cells #[.int .i64 0, .int .i64 0] 28)
      replace xa := xa.alloc (.cells #[.int .i64 0, .int .i64 0] 28)
      replace fa := fa.alloc (.cells #[.int .i64 0, .int .i64 0] 28)
      have v := Blk.new w3 28 #[.int .i64 0, .int .i64 0]
      have wB3a0 := wB3.alloc wB3.size (.cells #[.int .i64 0, .int .i64 0] 28)
      have qaB3a0 := qaB3.alloc qaB3.size (.cells #[.int .i64 0, .int .i64 0] 28)
      go_wp2_with fail
      go_at_call 16
      refine (J16.out _ wB3a0).mono ?_
      rintro e w4 ⟨rfl, hb4'⟩
      have wB4 := wB3a0.trans (hb4'.mono wB3a0.size)
      have qaB4 := qaB3a0.trans (hb4'.mono qaB3a0.size)
      replace bx := bx.below hb4' bx.lt
      replace by_ := by_.below hb4' by_.lt
      replace xa := xa.below hb4' xa.lt
      replace fa := fa.below hb4' fa.lt
      replace v := v.below hb4' v.lt
      clear bx_0 bx_l bx_l2 by__0 by__l by__l2 fa_0 fa_1 fa_l fa_l2 xa_0 xa_l xa_l2
      have bx_l : w.heap.size < w4.heap.size := bx.lt
      have bx_l2 : w.heap.size < w4.heap.size + 1 + 1 := Nat.lt_succ_of_lt (Nat.lt_succ_of_lt bx_l)
      have bx_0 : w4.cell? ⟨w.heap.size, 0, none⟩ = some (.slice A a.length k) := (bx.cell 0).trans rfl
      have by__l : w.heap.size + 1 < w4.heap.size := by_.lt
      have by__l2 : w.heap.size + 1 < w4.heap.size + 1 + 1 := Nat.lt_succ_of_lt (Nat.lt_succ_of_lt by__l)
      have by__0 : w4.cell? ⟨w.heap.size + 1, 0, none⟩ = some (.slice B b.length j) := (by_.cell 0).trans rfl
      have xa_l : w2.heap.size < w4.heap.size := xa.lt
      have xa_l2 : w2.heap.size < w4.heap.size + 1 + 1 := Nat.lt_succ_of_lt (Nat.lt_succ_of_lt xa_l)
      have xa_0 : w4.cell? ⟨w2.heap.size, 0, none⟩ = some (.slice A1 l.length k1) := (xa.cell 0).trans rfl
      have fa_l : w2.heap.size + 1 < w4.heap.size := fa.lt
      have fa_l2 : w2.heap.size + 1 < w4.heap.size + 1 + 1 := Nat.lt_succ_of_lt (Nat.lt_succ_of_lt fa_l)
      have fa_0 : w4.cell? ⟨w2.heap.size + 1, 0, none⟩ = some (.int .i64 cd) := (fa.cell 0).trans rfl
      have fa_1 : w4.cell? ⟨w2.heap.size + 1, 1, none⟩ = some (.int .i64 ix) := (fa.cell 1).trans rfl
      have v_l : w3.heap.size < w4.heap.size := v.lt
      have v_l2 : w3.heap.size < w4.heap.size + 1 + 1 := Nat.lt_succ_of_lt (Nat.lt_succ_of_lt v_l)
      have v_0 : w4.cell? ⟨w3.heap.size, 0, none⟩ = some (.int .i64 0) := (v.cell 0).trans rfl
      have v_f0 : w4.frozen? ⟨w3.heap.size, 0, none⟩ = false := v.frozen 0
      have v_1 : w4.cell? ⟨w3.heap.size, 1, none⟩ = some (.int .i64 0) := (v.cell 1).trans rfl
      have v_f1 : w4.frozen? ⟨w3.heap.size, 1, none⟩ = false := v.frozen 1
      clear hb4'
      have hvq : w2.heap.size ≤ w3.heap.size := by omega
      have bxne : w.heap.size ≠ w3.heap.size := Nat.ne_of_lt bxlt
      have byne : w.heap.size + 1 ≠ w3.heap.size := Nat.ne_of_lt bylt
      have xane : w2.heap.size ≠ w3.heap.size := Nat.ne_of_lt xalt
      have fane : w2.heap.size + 1 ≠ w3.heap.size := Nat.ne_of_lt falt
      have hvlo : w.heap.size ≤ w3.heap.size := by have := wB3.size; omega
      have ne0 : ¬ (w.heap.size = w3.heap.size) := Nat.ne_of_lt bxlt
      have nf0 : ¬ (w3.heap.size = w.heap.size) := Ne.symm ne0
      have ne1 : ¬ (w.heap.size + 1 = w3.heap.size) := Nat.ne_of_lt bylt
      have nf1 : ¬ (w3.heap.size = w.heap.size + 1) := Ne.symm ne1
      have ne2 : ¬ (w2.heap.size = w3.heap.size) := Nat.ne_of_lt xalt
      have nf2 : ¬ (w3.heap.size = w2.heap.size) := Ne.symm ne2
      have ne3 : ¬ (w2.heap.size + 1 = w3.heap.size) := Nat.ne_of_lt falt
      have nf3 : ¬ (w3.heap.size = w2.heap.size + 1) := Ne.symm ne3
      obtain ⟨wt, hwt⟩ : ∃ wt : World, wt = (w4.setCell ⟨w3.heap.size, 0, none⟩ (.int .i64 0)).setCell ⟨w3.heap.size, 1, none⟩ (.int .i64 0) := ⟨_, rfl⟩
      go_wp2_with fail
      go_at_call 38
      rw [← hwt]
      have bxt := (bx.far (p := ⟨w3.heap.size, 0, none⟩) bxne (.int .i64 0)).far (p := ⟨w3.heap.size, 1, none⟩) bxne (.int .i64 0)
      rw [← hwt] at bxt
      have by_t := (by_.far (p := ⟨w3.heap.size, 0, none⟩) byne (.int .i64 0)).far (p := ⟨w3.heap.size, 1, none⟩) byne (.int .i64 0)
      rw [← hwt] at by_t
      have xat := (xa.far (p := ⟨w3.heap.size, 0, none⟩) xane (.int .i64 0)).far (p := ⟨w3.heap.size, 1, none⟩) xane (.int .i64 0)
      rw [← hwt] at xat
      have fat := (fa.far (p := ⟨w3.heap.size, 0, none⟩) fane (.int .i64 0)).far (p := ⟨w3.heap.size, 1, none⟩) fane (.int .i64 0)
      rw [← hwt] at fat
      have vt := blk_put2 v (.int .i64 0) (.int .i64 0)
      rw [← hwt] at vt
      have bt := (wB4.setCell (p := ⟨w3.heap.size, 0, none⟩) hvlo (.int .i64 0)).setCell (p := ⟨w3.heap.size, 1, none⟩) hvlo (.int .i64 0)
      rw [← hwt] at bt
      have bqt := (qaB4.setCell (p := ⟨w3.heap.size, 0, none⟩) hvq (.int .i64 0)).setCell (p := ⟨w3.heap.size, 1, none⟩) hvq (.int .i64 0)
      rw [← hwt] at bqt
      have hsz : wt.heap.size = w4.heap.size := by rw [hwt]; simp [World.setCell]
      clear hwt
      have hvt := vt.lt
      have y : Blk (wt.alloc (.cells #[.slice none 0 0] 24)) w4.heap.size 24 #[.slice none 0 0] := by rw [← hsz]; exact Blk.new wt 24 #[.slice none 0 0]
      have by1 := bt.alloc bt.size (.cells #[.slice none 0 0] 24)
      have bqy := bqt.alloc bqt.size (.cells #[.slice none 0 0] 24)
      replace xat := xat.alloc (.cells #[.slice none 0 0] 24)
      replace fat := fat.alloc (.cells #[.slice none 0 0] 24)
      replace vt := vt.alloc (.cells #[.slice none 0 0] 24)
      refine (K38.out _ by1 (fun g => g = w3.heap.size ∨ g = w4.heap.size) (fun g hg => by rcases hg with rfl | rfl; exact ⟨hvlo, by simp; omega⟩; exact ⟨by have := bt.size; omega, by simp; omega⟩)).mono ?_
      rintro e w5 ⟨A2, k2, rfl, hs2, hb5⟩
      have B5 := by1.trans (hb5.mono by1.size)
      have Q5 := bqy.trans (hb5.mono bqy.size)
      have xa5 := xat.below hb5 xat.lt
      have xa5l := xa5.lt
      have xa5_0 : w5.cell? ⟨w2.heap.size, 0, none⟩ = some (.slice A1 l.length k1) := (xa5.cell 0).trans rfl
      have xa5f0 : w5.frozen? ⟨w2.heap.size, 0, none⟩ = false := xa5.frozen 0
      have fa5 := fat.below hb5 fat.lt
      have fa5l := fa5.lt
      have fa5_0 : w5.cell? ⟨w2.heap.size + 1, 0, none⟩ = some (.int .i64 cd) := (fa5.cell 0).trans rfl
      have fa5f0 : w5.frozen? ⟨w2.heap.size + 1, 0, none⟩ = false := fa5.frozen 0
      have fa5_1 : w5.cell? ⟨w2.heap.size + 1, 1, none⟩ = some (.int .i64 ix) := (fa5.cell 1).trans rfl
      have fa5f1 : w5.frozen? ⟨w2.heap.size + 1, 1, none⟩ = false := fa5.frozen 1
      have v5 := vt.below hb5 vt.lt
      have v5l := v5.lt
      have v5_0 : w5.cell? ⟨w3.heap.size, 0, none⟩ = some (.int .i64 0) := (v5.cell 0).trans rfl
      have v5f0 : w5.frozen? ⟨w3.heap.size, 0, none⟩ = false := v5.frozen 0
      have v5_1 : w5.cell? ⟨w3.heap.size, 1, none⟩ = some (.int .i64 0) := (v5.cell 1).trans rfl
      have v5f1 : w5.frozen? ⟨w3.heap.size, 1, none⟩ = false := v5.frozen 1
      have y5 := y.below hb5 y.lt
      have y5l := y5.lt
      have y5_0 : w5.cell? ⟨w4.heap.size, 0, none⟩ = some (.slice none 0 0) := (y5.cell 0).trans rfl
      have y5f0 : w5.frozen? ⟨w4.heap.size, 0, none⟩ = false := y5.frozen 0
      have my0 : ¬ (w2.heap.size = w4.heap.size) := by omega
      have my1 : ¬ (w2.heap.size + 1 = w4.heap.size) := by omega
      have my2 : ¬ (w3.heap.size = w4.heap.size) := by omega
      have mz0 := Ne.symm my0
      have mz1 := Ne.symm my1
      have mz2 := Ne.symm my2
      have hqt : w2.heap.size ≤ w4.heap.size := hsz ▸ bqt.size
      have HX1 := Lib.hid (hsa.keep (X' := fun g => g = w3.heap.size ∨ g = w4.heap.size) (Keeps.below Q5 (fun g h e => absurd h (by rcases e with e | e <;> omega))))
      have st1 := Keeps.setCell w5 (fun g => g = w3.heap.size ∨ g = w4.heap.size) ⟨w4.heap.size, 0, none⟩ (.slice A2 l.length k2) (.inr rfl)
      have st2 := Keeps.setCell (w5.setCell ⟨w4.heap.size, 0, none⟩ (.slice A2 l.length k2)) (fun g => g = w3.heap.size ∨ g = w4.heap.size) ⟨w3.heap.size, 0, none⟩ (.int .i64 cd) (.inl rfl)
      have st3 := Keeps.setCell ((w5.setCell ⟨w4.heap.size, 0, none⟩ (.slice A2 l.length k2)).setCell ⟨w3.heap.size, 0, none⟩ (.int .i64 cd)) (fun g => g = w3.heap.size ∨ g = w4.heap.size) ⟨w3.heap.size, 1, none⟩ (.int .i64 ix) (.inl rfl)
      have HK := ((st1.trans st2).trans st3).into (X'' := Free) (fun _ h => h.elim)
      have HW1 := Lib.hid (HX1.out.keep HK)
      have HW2 := Lib.hid (hs2.keep HK)
      have hwlo : w.heap.size ≤ w4.heap.size := hsz ▸ bt.size
      have hbv := ((B5.setCell (p := ⟨w4.heap.size, 0, none⟩) hwlo (.slice A2 l.length k2)).setCell (p := ⟨w3.heap.size, 0, none⟩) hvlo (.int .i64 cd)).setCell (p := ⟨w3.heap.size, 1, none⟩) hvlo (.int .i64 ix)
      clear st1 st2 st3 HK hs2 hsa HX1 xat fat vt bxt by_t bt bqt by1 bqy y hb5 bx by_ xa fa v bx_0 bx_l bx_l2 by__0 by__l by__l2 fa_0 fa_1 fa_l fa_l2 v_0 v_1 v_f0 v_f1 v_l v_l2 xa_0 xa_l xa_l2
      go_wp2_with fail
      go_at_call 22
      refine (stores_any _ A1 A2 k1 k2 l HW1.out HW2.out hl64').mono ?_
      rintro e wq ⟨rfl, hbq⟩
      go_wp2_with fail
      go_ret
      exact ⟨by simp, hbv.trans (hbq.mono hbv.size)⟩
end Go.Proofs.Ytiilhnfdlpgllaa
