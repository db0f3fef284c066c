/-
  ObjectsPutCommutes: the law's walk.
-/
import Derived.Test.YtiilhnfdlpgllaaOb10
import Derived.Test.YtiilhnfdlpgllaaOb12
import Derived.Test.YtiilhnfdlpgllaaObV
namespace Ob
/-- What the law needs of 'Put'. -/
theorem put_law (s : List S) (o p : O) : (∃ n c i, putF s o = ([], n, (c, i)) ∧ (c != 0) = true ∧ (c == 0) = false) ∨
    (∃ a n b m c i, putF s o = (a, n, (0, 0)) ∧ putF a p = (b, m, (c, i)) ∧ (c != 0) = true ∧ a.length ≤ 40) ∨
    ∃ a b c n m, putF s o = (a, n, (0, 0)) ∧ putF a p = (b, m, (0, 0)) ∧ putF s p = (c, m, (0, 0)) ∧ putF c o = (b, n, (0, 0)) ∧ a.length ≤ 40 ∧ b.length ≤ 40 ∧ c.length ≤ 40 := by
  rcases putF_cases s o with ⟨h1, h2⟩ | ⟨a, h1, h2⟩
  · refine .inl ⟨(putF s o).2.1, (putF s o).2.2.1, (putF s o).2.2.2, ?_, by simpa using h1, by simpa using h1⟩
    rw [← h2]
  · rcases putF_cases a p with ⟨k1, k2⟩ | ⟨b, k1, k2⟩
    · exact .inr (.inl ⟨a, _, (putF a p).1, (putF a p).2.1, (putF a p).2.2.1, (putF a p).2.2.2, h1, rfl, by simpa using k1, h2.len⟩)
    · obtain ⟨c, hc, hd⟩ := put_swap h2 k2
      exact .inr (.inr ⟨a, b, c, _, _, h1, k1, hc.eq, hd.eq, h2.len, k2.len, hc.len⟩)
end Ob
namespace Go.Proofs.Ytiilhnfdlpgllaa
open Go.RowKit Go.V
set_option linter.unusedVariables false

set_option maxRecDepth 100000 in
set_option maxHeartbeats 16000000 in
theorem law10_any (w : World) (A : Option Addr) (k : Nat) (s : List Ob.S) (o : Ob.O) (Al : Option Addr) (kl : Nat) (Ad : Option Addr) (kd : Nat) (p : Ob.O) (Bl : Option Addr) (jl : Nat) (Bd : Option Addr) (jd : Nat)
    (hv : StV w Free A s) (hl64 : s.length ≤ 9223372036854775807) (ho : ObA w Free o Al kl Ad kd) (hp : ObA w Free p Bl jl Bd jd) :
    Calls Try.prog 10 #[stV A s.length k, obV o Al kl Ad kd, obV p Bl jl Bd jd] w fun e w' => e = .returned (.bool true) ∧ Below w.heap.size w w' := by
  have HO := Lib.hid (fun (w1 : World) (hb : Below w.heap.size w w1) => ho.keep (free_below hb))
  have HP := Lib.hid (fun (w1 : World) (hb : Below w.heap.size w w1) => hp.keep (free_below hb))
  have HSO := Lib.hid (fun (w1 : World) (hb : Below w.heap.size w w1) => put_any w1 A k s o Al kl Ad kd (hv.keep (free_below hb)) hl64 (HO.out _ hb))
  have HSP := Lib.hid (fun (w1 : World) (hb : Below w.heap.size w w1) => put_any w1 A k s p Bl jl Bd jd (hv.keep (free_below hb)) hl64 (HP.out _ hb))
  have HLAW := Lib.hid (Ob.put_law s o p)
  have HAP := Lib.hid (fun (a : List Ob.S) (A1 : Option Addr) (k1 : Nat) (w1 : World) (h1 : StV w1 Free A1 a) (hl1 : a.length ≤ 9223372036854775807) (hb : Below w.heap.size w w1) => put_any w1 A1 k1 a p Bl jl Bd jd h1 hl1 (HP.out _ hb))
  have HCO := Lib.hid (fun (a : List Ob.S) (A1 : Option Addr) (k1 : Nat) (w1 : World) (h1 : StV w1 Free A1 a) (hl1 : a.length ≤ 9223372036854775807) (hb : Below w.heap.size w w1) => put_any w1 A1 k1 a o Al kl Ad kd h1 hl1 (HO.out _ hb))
  have hb0 : Below w.heap.size w w := Below.refl _ _
  clear hv ho hp HO HP
  obtain ⟨kk, ls, da⟩ := o
  obtain ⟨kp, lp, dp⟩ := p
  go_enter Try.func10, Try.ntmps10
  have bx := Blk.new w 24 #[.slice A s.length k]
  have wB0a0 := hb0.alloc hb0.size (.cells #[.slice A s.length k] 24)
  replace bx := bx.alloc (.cells #[.int .i64 kk, .slice Al ls.length kl, .slice Ad da.length kd] 44)
  have bo : Blk ((w.alloc (.cells #[.slice A s.length k] 24)).alloc (.cells #[.int .i64 kk, .slice Al ls.length kl, .slice Ad da.length kd] 44)) (w.heap.size + 1) 44 #[.int .i64 kk, .slice Al ls.length kl, .slice Ad da.length kd] := by simpa using Blk.new (w.alloc (.cells #[.slice A s.length k] 24)) 44 #[.int .i64 kk, .slice Al ls.length kl, .slice Ad da.length kd]
  have wB0a1 := wB0a0.alloc wB0a0.size (.cells #[.int .i64 kk, .slice Al ls.length kl, .slice Ad da.length kd] 44)
  replace bx := bx.alloc (.cells #[.int .i64 kp, .slice Bl lp.length jl, .slice Bd dp.length jd] 44)
  replace bo := bo.alloc (.cells #[.int .i64 kp, .slice Bl lp.length jl, .slice Bd dp.length jd] 44)
  have bp : Blk (((w.alloc (.cells #[.slice A s.length k] 24)).alloc (.cells #[.int .i64 kk, .slice Al ls.length kl, .slice Ad da.length kd] 44)).alloc (.cells #[.int .i64 kp, .slice Bl lp.length jl, .slice Bd dp.length jd] 44)) (w.heap.size + 2) 44 #[.int .i64 kp, .slice Bl lp.length jl, .slice Bd dp.length jd] := by simpa using Blk.new ((w.alloc (.cells #[.slice A s.length k] 24)).alloc (.cells #[.int .i64 kk, .slice Al ls.length kl, .slice Ad da.length kd] 44)) 44 #[.int .i64 kp, .slice Bl lp.length jl, .slice Bd dp.length jd]
  have wB0a2 := wB0a1.alloc wB0a1.size (.cells #[.int .i64 kp, .slice Bl lp.length jl, .slice Bd dp.length jd] 44)
  go_wp2_with fail
  go_at_call 28
  refine (oexample_any _).mono ?_
  rintro e w1 ⟨rfl, hb1'⟩
  have wB1 := wB0a2.trans (hb1'.mono wB0a2.size)
  replace bx := bx.below hb1' bx.lt
  replace bo := bo.below hb1' bo.lt
  replace bp := bp.below hb1' bp.lt
  have bx_l : w.heap.size < w1.heap.size := bx.lt
  have bx_l2 : w.heap.size < w1.heap.size + 1 + 1 := Nat.lt_succ_of_lt (Nat.lt_succ_of_lt bx_l)
  have bx_0 : w1.cell? ⟨w.heap.size, 0, none⟩ = some (.slice A s.length k) := (bx.cell 0).trans rfl
  have bo_l : w.heap.size + 1 < w1.heap.size := bo.lt
  have bo_l2 : w.heap.size + 1 < w1.heap.size + 1 + 1 := Nat.lt_succ_of_lt (Nat.lt_succ_of_lt bo_l)
  have bo_0 : w1.cell? ⟨w.heap.size + 1, 0, none⟩ = some (.int .i64 kk) := (bo.cell 0).trans rfl
  have bo_1 : w1.cell? ⟨w.heap.size + 1, 1, none⟩ = some (.slice Al ls.length kl) := (bo.cell 1).trans rfl
  have bo_2 : w1.cell? ⟨w.heap.size + 1, 2, none⟩ = some (.slice Ad da.length kd) := (bo.cell 2).trans rfl
  have bp_l : w.heap.size + 2 < w1.heap.size := bp.lt
  have bp_l2 : w.heap.size + 2 < w1.heap.size + 1 + 1 := Nat.lt_succ_of_lt (Nat.lt_succ_of_lt bp_l)
  have bp_0 : w1.cell? ⟨w.heap.size + 2, 0, none⟩ = some (.int .i64 kp) := (bp.cell 0).trans rfl
  have bp_1 : w1.cell? ⟨w.heap.size + 2, 1, none⟩ = some (.slice Bl lp.length jl) := (bp.cell 1).trans rfl
  have bp_2 : w1.cell? ⟨w.heap.size + 2, 2, none⟩ = some (.slice Bd dp.length jd) := (bp.cell 2).trans rfl
  clear hb1'
  rcases HLAW.out with ⟨n, c, i, e1, hx1, hx2⟩ | ⟨a, n, b, m, c, i, e1, e2, hx1, hal⟩ | ⟨a, b, c, n, m, e1, e2, e3, e4, hal, hbl, hcl⟩
  · rw [e1] at HSO
    clear e1 HLAW HSP HCO
    have h0 : ((0 : Nat) : Int) = 0 := rfl
    have HAP0 := Lib.hid (HAP.out [])
    clear HAP
    generalize Ob.putF [] ⟨kp, lp, dp⟩ = r at *
    obtain ⟨l1, n1, c1, i1⟩ := r
    go_wp2_with fail
    go_at_call 33
    refine (HSO.out _ wB1).mono ?_
    rintro e w2 ⟨A1, k1, rfl, _, hsa, hb2'⟩
    have wB2 := wB1.trans (hb2'.mono wB1.size)
    replace bx := bx.below hb2' bx.lt
    replace bo := bo.below hb2' bo.lt
    replace bp := bp.below hb2' bp.lt
    clear bo_0 bo_1 bo_2 bo_l bo_l2 bp_0 bp_1 bp_2 bp_l bp_l2 bx_0 bx_l bx_l2
    have bx_l : w.heap.size < w2.heap.size := bx.lt
    have bx_l2 : w.heap.size < w2.heap.size + 1 + 1 := Nat.lt_succ_of_lt (Nat.lt_succ_of_lt bx_l)
    have bx_0 : w2.cell? ⟨w.heap.size, 0, none⟩ = some (.slice A s.length k) := (bx.cell 0).trans rfl
    have bo_l : w.heap.size + 1 < w2.heap.size := bo.lt
    have bo_l2 : w.heap.size + 1 < w2.heap.size + 1 + 1 := Nat.lt_succ_of_lt (Nat.lt_succ_of_lt bo_l)
    have bo_0 : w2.cell? ⟨w.heap.size + 1, 0, none⟩ = some (.int .i64 kk) := (bo.cell 0).trans rfl
    have bo_1 : w2.cell? ⟨w.heap.size + 1, 1, none⟩ = some (.slice Al ls.length kl) := (bo.cell 1).trans rfl
    have bo_2 : w2.cell? ⟨w.heap.size + 1, 2, none⟩ = some (.slice Ad da.length kd) := (bo.cell 2).trans rfl
    have bp_l : w.heap.size + 2 < w2.heap.size := bp.lt
    have bp_l2 : w.heap.size + 2 < w2.heap.size + 1 + 1 := Nat.lt_succ_of_lt (Nat.lt_succ_of_lt bp_l)
    have bp_0 : w2.cell? ⟨w.heap.size + 2, 0, none⟩ = some (.int .i64 kp) := (bp.cell 0).trans rfl
    have bp_1 : w2.cell? ⟨w.heap.size + 2, 1, none⟩ = some (.slice Bl lp.length jl) := (bp.cell 1).trans rfl
    have bp_2 : w2.cell? ⟨w.heap.size + 2, 2, none⟩ = some (.slice Bd dp.length jd) := (bp.cell 2).trans rfl
    clear hb2'
    have HVa := Lib.hid (fun (w1 : World) (hb : Below w2.heap.size w2 w1) => hsa.keep (X' := Free) (Keeps.below hb (fun _ _ h => h.elim)))
    clear hsa
    have qa : Below (w2).heap.size (w2) (w2) := Below.refl _ _
    replace bx := bx.alloc (.cells #[.slice A1 0 k1] 24)
    replace bo := bo.alloc (.cells #[.slice A1 0 k1] 24)
    replace bp := bp.alloc (.cells #[.slice A1 0 k1] 24)
    have xa := Blk.new w2 24 #[.slice A1 0 k1]
    have wB2a0 := wB2.alloc wB2.size (.cells #[.slice A1 0 k1] 24)
    have qaB2a0 := qa.alloc qa.size (.cells #[.slice A1 0 k1] 24)
    replace bx := bx.alloc (.cells #[.int .i64 c, .int .i64 i] 28)
    replace bo := bo.alloc (.cells #[.int .i64 c, .int .i64 i] 28)
    replace bp := bp.alloc (.cells #[.int .i64 c, .int .i64 i] 28)
    replace xa := xa.alloc (.cells #[.int .i64 c, .int .i64 i] 28)
    have fa : Blk ((w2.alloc (.cells #[.slice A1 0 k1] 24)).alloc (.cells #[.int .i64 c, .int .i64 i] 28)) (w2.heap.size + 1) 28 #[.int .i64 c, .int .i64 i] := by simpa using Blk.new (w2.alloc (.cells #[.slice A1 0 k1] 24)) 28 #[.int .i64 c, .int .i64 i]
    have wB2a1 := wB2a0.alloc wB2a0.size (.cells #[.int .i64 c, .int .i64 i] 28)
    have qaB2a1 := qaB2a0.alloc qaB2a0.size (.cells #[.int .i64 c, .int .i64 i] 28)
    go_wp2_with fail
    go_at_call 33
    refine (HAP0.out A1 k1 _ (HVa.out _ qaB2a1) (by simp) wB2a1).mono ?_
    rintro e w3 ⟨A2, k2, rfl, _, _, hb3'⟩
    have wB3 := wB2a1.trans (hb3'.mono wB2a1.size)
    have qaB3 := qaB2a1.trans (hb3'.mono qaB2a1.size)
    replace bx := bx.below hb3' bx.lt
    replace bo := bo.below hb3' bo.lt
    replace bp := bp.below hb3' bp.lt
    replace xa := xa.below hb3' xa.lt
    replace fa := fa.below hb3' fa.lt
    clear bo_0 bo_1 bo_2 bo_l bo_l2 bp_0 bp_1 bp_2 bp_l bp_l2 bx_0 bx_l bx_l2
    have bx_l : w.heap.size < w3.heap.size := bx.lt
    have bx_l2 : w.heap.size < w3.heap.size + 1 + 1 := Nat.lt_succ_of_lt (Nat.lt_succ_of_lt bx_l)
    have bx_0 : w3.cell? ⟨w.heap.size, 0, none⟩ = some (.slice A s.length k) := (bx.cell 0).trans rfl
    have bo_l : w.heap.size + 1 < w3.heap.size := bo.lt
    have bo_l2 : w.heap.size + 1 < w3.heap.size + 1 + 1 := Nat.lt_succ_of_lt (Nat.lt_succ_of_lt bo_l)
    have bo_0 : w3.cell? ⟨w.heap.size + 1, 0, none⟩ = some (.int .i64 kk) := (bo.cell 0).trans rfl
    have bo_1 : w3.cell? ⟨w.heap.size + 1, 1, none⟩ = some (.slice Al ls.length kl) := (bo.cell 1).trans rfl
    have bo_2 : w3.cell? ⟨w.heap.size + 1, 2, none⟩ = some (.slice Ad da.length kd) := (bo.cell 2).trans rfl
    have bp_l : w.heap.size + 2 < w3.heap.size := bp.lt
    have bp_l2 : w.heap.size + 2 < w3.heap.size + 1 + 1 := Nat.lt_succ_of_lt (Nat.lt_succ_of_lt bp_l)
    have bp_0 : w3.cell? ⟨w.heap.size + 2, 0, none⟩ = some (.int .i64 kp) := (bp.cell 0).trans rfl
    have bp_1 : w3.cell? ⟨w.heap.size + 2, 1, none⟩ = some (.slice Bl lp.length jl) := (bp.cell 1).trans rfl
    have bp_2 : w3.cell? ⟨w.heap.size + 2, 2, none⟩ = some (.slice Bd dp.length jd) := (bp.cell 2).trans rfl
    have xa_l : w2.heap.size < w3.heap.size := xa.lt
    have xa_l2 : w2.heap.size < w3.heap.size + 1 + 1 := Nat.lt_succ_of_lt (Nat.lt_succ_of_lt xa_l)
    have xa_0 : w3.cell? ⟨w2.heap.size, 0, none⟩ = some (.slice A1 0 k1) := (xa.cell 0).trans rfl
    have fa_l : w2.heap.size + 1 < w3.heap.size := fa.lt
    have fa_l2 : w2.heap.size + 1 < w3.heap.size + 1 + 1 := Nat.lt_succ_of_lt (Nat.lt_succ_of_lt fa_l)
    have fa_0 : w3.cell? ⟨w2.heap.size + 1, 0, none⟩ = some (.int .i64 c) := (fa.cell 0).trans rfl
    have fa_1 : w3.cell? ⟨w2.heap.size + 1, 1, none⟩ = some (.int .i64 i) := (fa.cell 1).trans rfl
    clear hb3'
    replace bx := bx.alloc (.cells #[.slice A2 l1.length k2] 24)
    replace bo := bo.alloc (.cells #[.slice A2 l1.length k2] 24)
    replace bp := bp.alloc (.cells #[.slice A2 l1.length k2] 24)
    replace xa := xa.alloc (.cells #[.slice A2 l1.length k2] 24)
    replace fa := fa.alloc (.cells #[.slice A2 l1.length k2] 24)
    have xb := Blk.new w3 24 #[.slice A2 l1.length k2]
    have wB3a0 := wB3.alloc wB3.size (.cells #[.slice A2 l1.length k2] 24)
    have qaB3a0 := qaB3.alloc qaB3.size (.cells #[.slice A2 l1.length k2] 24)
    replace bx := bx.alloc (.cells #[.int .i64 c1, .int .i64 i1] 28)
    replace bo := bo.alloc (.cells #[.int .i64 c1, .int .i64 i1] 28)
    replace bp := bp.alloc (.cells #[.int .i64 c1, .int .i64 i1] 28)
    replace xa := xa.alloc (.cells #[.int .i64 c1, .int .i64 i1] 28)
    replace fa := fa.alloc (.cells #[.int .i64 c1, .int .i64 i1] 28)
    replace xb := xb.alloc (.cells #[.int .i64 c1, .int .i64 i1] 28)
    have fb : Blk ((w3.alloc (.cells #[.slice A2 l1.length k2] 24)).alloc (.cells #[.int .i64 c1, .int .i64 i1] 28)) (w3.heap.size + 1) 28 #[.int .i64 c1, .int .i64 i1] := by simpa using Blk.new (w3.alloc (.cells #[.slice A2 l1.length k2] 24)) 28 #[.int .i64 c1, .int .i64 i1]
    have wB3a1 := wB3a0.alloc wB3a0.size (.cells #[.int .i64 c1, .int .i64 i1] 28)
    have qaB3a1 := qaB3a0.alloc qaB3a0.size (.cells #[.int .i64 c1, .int .i64 i1] 28)
    go_wp2_with fail
    go_ret
    exact ⟨by simp, wB3a1⟩
  · rw [e1] at HSO
    have HAP0 := Lib.hid (HAP.out a)
    rw [e2] at HAP0
    have hal64 : a.length ≤ 9223372036854775807 := by omega
    clear e1 e2 HLAW HSP HCO HAP
    have hz : ((0 : Int) != 0) = false := rfl
    go_wp2_with fail
    go_at_call 33
    refine (HSO.out _ wB1).mono ?_
    rintro e w2 ⟨A1, k1, rfl, _, hsa, hb2'⟩
    have wB2 := wB1.trans (hb2'.mono wB1.size)
    replace bx := bx.below hb2' bx.lt
    replace bo := bo.below hb2' bo.lt
    replace bp := bp.below hb2' bp.lt
    clear bo_0 bo_1 bo_2 bo_l bo_l2 bp_0 bp_1 bp_2 bp_l bp_l2 bx_0 bx_l bx_l2
    have bx_l : w.heap.size < w2.heap.size := bx.lt
    have bx_l2 : w.heap.size < w2.heap.size + 1 + 1 := Nat.lt_succ_of_lt (Nat.lt_succ_of_lt bx_l)
    have bx_0 : w2.cell? ⟨w.heap.size, 0, none⟩ = some (.slice A s.length k) := (bx.cell 0).trans rfl
    have bo_l : w.heap.size + 1 < w2.heap.size := bo.lt
    have bo_l2 : w.heap.size + 1 < w2.heap.size + 1 + 1 := Nat.lt_succ_of_lt (Nat.lt_succ_of_lt bo_l)
    have bo_0 : w2.cell? ⟨w.heap.size + 1, 0, none⟩ = some (.int .i64 kk) := (bo.cell 0).trans rfl
    have bo_1 : w2.cell? ⟨w.heap.size + 1, 1, none⟩ = some (.slice Al ls.length kl) := (bo.cell 1).trans rfl
    have bo_2 : w2.cell? ⟨w.heap.size + 1, 2, none⟩ = some (.slice Ad da.length kd) := (bo.cell 2).trans rfl
    have bp_l : w.heap.size + 2 < w2.heap.size := bp.lt
    have bp_l2 : w.heap.size + 2 < w2.heap.size + 1 + 1 := Nat.lt_succ_of_lt (Nat.lt_succ_of_lt bp_l)
    have bp_0 : w2.cell? ⟨w.heap.size + 2, 0, none⟩ = some (.int .i64 kp) := (bp.cell 0).trans rfl
    have bp_1 : w2.cell? ⟨w.heap.size + 2, 1, none⟩ = some (.slice Bl lp.length jl) := (bp.cell 1).trans rfl
    have bp_2 : w2.cell? ⟨w.heap.size + 2, 2, none⟩ = some (.slice Bd dp.length jd) := (bp.cell 2).trans rfl
    clear hb2'
    have HVa := Lib.hid (fun (w1 : World) (hb : Below w2.heap.size w2 w1) => hsa.keep (X' := Free) (Keeps.below hb (fun _ _ h => h.elim)))
    clear hsa
    have qa : Below (w2).heap.size (w2) (w2) := Below.refl _ _
    replace bx := bx.alloc (.cells #[.slice A1 a.length k1] 24)
    replace bo := bo.alloc (.cells #[.slice A1 a.length k1] 24)
    replace bp := bp.alloc (.cells #[.slice A1 a.length k1] 24)
    have xa := Blk.new w2 24 #[.slice A1 a.length k1]
    have wB2a0 := wB2.alloc wB2.size (.cells #[.slice A1 a.length k1] 24)
    have qaB2a0 := qa.alloc qa.size (.cells #[.slice A1 a.length k1] 24)
    replace bx := bx.alloc (.cells #[.int .i64 0, .int .i64 0] 28)
    replace bo := bo.alloc (.cells #[.int .i64 0, .int .i64 0] 28)
    replace bp := bp.alloc (.cells #[.int .i64 0, .int .i64 0] 28)
    replace xa := xa.alloc (.cells #[.int .i64 0, .int .i64 0] 28)
    have fa : Blk ((w2.alloc (.cells #[.slice A1 a.length k1] 24)).alloc (.cells #[.int .i64 0, .int .i64 0] 28)) (w2.heap.size + 1) 28 #[.int .i64 0, .int .i64 0] := by simpa using Blk.new (w2.alloc (.cells #[.slice A1 a.length k1] 24)) 28 #[.int .i64 0, .int .i64 0]
    have wB2a1 := wB2a0.alloc wB2a0.size (.cells #[.int .i64 0, .int .i64 0] 28)
    have qaB2a1 := qaB2a0.alloc qaB2a0.size (.cells #[.int .i64 0, .int .i64 0] 28)
    go_wp2_with fail
    go_at_call 33
    refine (HAP0.out A1 k1 _ (HVa.out _ qaB2a1) hal64 wB2a1).mono ?_
    rintro e w3 ⟨A2, k2, rfl, _, _, hb3'⟩
    have wB3 := wB2a1.trans (hb3'.mono wB2a1.size)
    have qaB3 := qaB2a1.trans (hb3'.mono qaB2a1.size)
    replace bx := bx.below hb3' bx.lt
    replace bo := bo.below hb3' bo.lt
    replace bp := bp.below hb3' bp.lt
    replace xa := xa.below hb3' xa.lt
    replace fa := fa.below hb3' fa.lt
    clear bo_0 bo_1 bo_2 bo_l bo_l2 bp_0 bp_1 bp_2 bp_l bp_l2 bx_0 bx_l bx_l2
    have bx_l : w.heap.size < w3.heap.size := bx.lt
    have bx_l2 : w.heap.size < w3.heap.size + 1 + 1 := Nat.lt_succ_of_lt (Nat.lt_succ_of_lt bx_l)
    have bx_0 : w3.cell? ⟨w.heap.size, 0, none⟩ = some (.slice A s.length k) := (bx.cell 0).trans rfl
    have bo_l : w.heap.size + 1 < w3.heap.size := bo.lt
    have bo_l2 : w.heap.size + 1 < w3.heap.size + 1 + 1 := Nat.lt_succ_of_lt (Nat.lt_succ_of_lt bo_l)
    have bo_0 : w3.cell? ⟨w.heap.size + 1, 0, none⟩ = some (.int .i64 kk) := (bo.cell 0).trans rfl
    have bo_1 : w3.cell? ⟨w.heap.size + 1, 1, none⟩ = some (.slice Al ls.length kl) := (bo.cell 1).trans rfl
    have bo_2 : w3.cell? ⟨w.heap.size + 1, 2, none⟩ = some (.slice Ad da.length kd) := (bo.cell 2).trans rfl
    have bp_l : w.heap.size + 2 < w3.heap.size := bp.lt
    have bp_l2 : w.heap.size + 2 < w3.heap.size + 1 + 1 := Nat.lt_succ_of_lt (Nat.lt_succ_of_lt bp_l)
    have bp_0 : w3.cell? ⟨w.heap.size + 2, 0, none⟩ = some (.int .i64 kp) := (bp.cell 0).trans rfl
    have bp_1 : w3.cell? ⟨w.heap.size + 2, 1, none⟩ = some (.slice Bl lp.length jl) := (bp.cell 1).trans rfl
    have bp_2 : w3.cell? ⟨w.heap.size + 2, 2, none⟩ = some (.slice Bd dp.length jd) := (bp.cell 2).trans rfl
    have xa_l : w2.heap.size < w3.heap.size := xa.lt
    have xa_l2 : w2.heap.size < w3.heap.size + 1 + 1 := Nat.lt_succ_of_lt (Nat.lt_succ_of_lt xa_l)
    have xa_0 : w3.cell? ⟨w2.heap.size, 0, none⟩ = some (.slice A1 a.length k1) := (xa.cell 0).trans rfl
    have fa_l : w2.heap.size + 1 < w3.heap.size := fa.lt
    have fa_l2 : w2.heap.size + 1 < w3.heap.size + 1 + 1 := Nat.lt_succ_of_lt (Nat.lt_succ_of_lt fa_l)
    have fa_0 : w3.cell? ⟨w2.heap.size + 1, 0, none⟩ = some (.int .i64 0) := (fa.cell 0).trans rfl
    have fa_1 : w3.cell? ⟨w2.heap.size + 1, 1, none⟩ = some (.int .i64 0) := (fa.cell 1).trans rfl
    clear hb3'
    replace bx := bx.alloc (.cells #[.slice A2 b.length k2] 24)
    replace bo := bo.alloc (.cells #[.slice A2 b.length k2] 24)
    replace bp := bp.alloc (.cells #[.slice A2 b.length k2] 24)
    replace xa := xa.alloc (.cells #[.slice A2 b.length k2] 24)
    replace fa := fa.alloc (.cells #[.slice A2 b.length k2] 24)
    have xb := Blk.new w3 24 #[.slice A2 b.length k2]
    have wB3a0 := wB3.alloc wB3.size (.cells #[.slice A2 b.length k2] 24)
    have qaB3a0 := qaB3.alloc qaB3.size (.cells #[.slice A2 b.length k2] 24)
    replace bx := bx.alloc (.cells #[.int .i64 c, .int .i64 i] 28)
    replace bo := bo.alloc (.cells #[.int .i64 c, .int .i64 i] 28)
    replace bp := bp.alloc (.cells #[.int .i64 c, .int .i64 i] 28)
    replace xa := xa.alloc (.cells #[.int .i64 c, .int .i64 i] 28)
    replace fa := fa.alloc (.cells #[.int .i64 c, .int .i64 i] 28)
    replace xb := xb.alloc (.cells #[.int .i64 c, .int .i64 i] 28)
    have fb : Blk ((w3.alloc (.cells #[.slice A2 b.length k2] 24)).alloc (.cells #[.int .i64 c, .int .i64 i] 28)) (w3.heap.size + 1) 28 #[.int .i64 c, .int .i64 i] := by simpa using Blk.new (w3.alloc (.cells #[.slice A2 b.length k2] 24)) 28 #[.int .i64 c, .int .i64 i]
    have wB3a1 := wB3a0.alloc wB3a0.size (.cells #[.int .i64 c, .int .i64 i] 28)
    have qaB3a1 := qaB3a0.alloc qaB3a0.size (.cells #[.int .i64 c, .int .i64 i] 28)
    go_wp2_with fail
    go_ret
    exact ⟨by simp, wB3a1⟩
  · rw [e1] at HSO
    rw [e3] at HSP
    have HAP0 := Lib.hid (HAP.out a)
    rw [e2] at HAP0
    have HCO0 := Lib.hid (HCO.out c)
    rw [e4] at HCO0
    have hal64 : a.length ≤ 9223372036854775807 := by omega
    have hbl64 : b.length ≤ 9223372036854775807 := by omega
    have hcl64 : c.length ≤ 9223372036854775807 := by omega
    clear e1 e2 e3 e4 HLAW HCO HAP hal hbl hcl
    have hz : ((0 : Int) != 0) = false := rfl
    have hnn : (n == n) = true := by simp
    have hmm : (m == m) = true := by simp
    go_wp2_with fail
    go_at_call 33
    refine (HSO.out _ wB1).mono ?_
    rintro e w2 ⟨A1, k1, rfl, _, hsa, hb2'⟩
    have wB2 := wB1.trans (hb2'.mono wB1.size)
    replace bx := bx.below hb2' bx.lt
    replace bo := bo.below hb2' bo.lt
    replace bp := bp.below hb2' bp.lt
    clear bo_0 bo_1 bo_2 bo_l bo_l2 bp_0 bp_1 bp_2 bp_l bp_l2 bx_0 bx_l bx_l2
    have bx_l : w.heap.size < w2.heap.size := bx.lt
    have bx_l2 : w.heap.size < w2.heap.size + 1 + 1 := Nat.lt_succ_of_lt (Nat.lt_succ_of_lt bx_l)
    have bx_0 : w2.cell? ⟨w.heap.size, 0, none⟩ = some (.slice A s.length k) := (bx.cell 0).trans rfl
    have bo_l : w.heap.size + 1 < w2.heap.size := bo.lt
    have bo_l2 : w.heap.size + 1 < w2.heap.size + 1 + 1 := Nat.lt_succ_of_lt (Nat.lt_succ_of_lt bo_l)
    have bo_0 : w2.cell? ⟨w.heap.size + 1, 0, none⟩ = some (.int .i64 kk) := (bo.cell 0).trans rfl
    have bo_1 : w2.cell? ⟨w.heap.size + 1, 1, none⟩ = some (.slice Al ls.length kl) := (bo.cell 1).trans rfl
    have bo_2 : w2.cell? ⟨w.heap.size + 1, 2, none⟩ = some (.slice Ad da.length kd) := (bo.cell 2).trans rfl
    have bp_l : w.heap.size + 2 < w2.heap.size := bp.lt
    have bp_l2 : w.heap.size + 2 < w2.heap.size + 1 + 1 := Nat.lt_succ_of_lt (Nat.lt_succ_of_lt bp_l)
    have bp_0 : w2.cell? ⟨w.heap.size + 2, 0, none⟩ = some (.int .i64 kp) := (bp.cell 0).trans rfl
    have bp_1 : w2.cell? ⟨w.heap.size + 2, 1, none⟩ = some (.slice Bl lp.length jl) := (bp.cell 1).trans rfl
    have bp_2 : w2.cell? ⟨w.heap.size + 2, 2, none⟩ = some (.slice Bd dp.length jd) := (bp.cell 2).trans rfl
    clear hb2'
    have HVa := Lib.hid (fun (w1 : World) (hb : Below w2.heap.size w2 w1) => hsa.keep (X' := Free) (Keeps.below hb (fun _ _ h => h.elim)))
    clear hsa
    have qa : Below (w2).heap.size (w2) (w2) := Below.refl _ _
    replace bx := bx.alloc (.cells #[.slice A1 a.length k1] 24)
    replace bo := bo.alloc (.cells #[.slice A1 a.length k1] 24)
    replace bp := bp.alloc (.cells #[.slice A1 a.length k1] 24)
    have xa := Blk.new w2 24 #[.slice A1 a.length k1]
    have wB2a0 := wB2.alloc wB2.size (.cells #[.slice A1 a.length k1] 24)
    have qaB2a0 := qa.alloc qa.size (.cells #[.slice A1 a.length k1] 24)
    replace bx := bx.alloc (.cells #[.int .i64 0, .int .i64 0] 28)
    replace bo := bo.alloc (.cells #[.int .i64 0, .int .i64 0] 28)
    replace bp := bp.alloc (.cells #[.int .i64 0, .int .i64 0] 28)
    replace xa := xa.alloc (.cells #[.int .i64 0, .int .i64 0] 28)
    have fa : Blk ((w2.alloc (.cells #[.slice A1 a.length k1] 24)).alloc (.cells #[.int .i64 0, .int .i64 0] 28)) (w2.heap.size + 1) 28 #[.int .i64 0, .int .i64 0] := by simpa using Blk.new (w2.alloc (.cells #[.slice A1 a.length k1] 24)) 28 #[.int .i64 0, .int .i64 0]
    have wB2a1 := wB2a0.alloc wB2a0.size (.cells #[.int .i64 0, .int .i64 0] 28)
    have qaB2a1 := qaB2a0.alloc qaB2a0.size (.cells #[.int .i64 0, .int .i64 0] 28)
    go_wp2_with fail
    go_at_call 33
    refine (HAP0.out A1 k1 _ (HVa.out _ qaB2a1) hal64 wB2a1).mono ?_
    rintro e w3 ⟨A2, k2, rfl, _, hsb, hb3'⟩
    have wB3 := wB2a1.trans (hb3'.mono wB2a1.size)
    have qaB3 := qaB2a1.trans (hb3'.mono qaB2a1.size)
    replace bx := bx.below hb3' bx.lt
    replace bo := bo.below hb3' bo.lt
    replace bp := bp.below hb3' bp.lt
    replace xa := xa.below hb3' xa.lt
    replace fa := fa.below hb3' fa.lt
    clear bo_0 bo_1 bo_2 bo_l bo_l2 bp_0 bp_1 bp_2 bp_l bp_l2 bx_0 bx_l bx_l2
    have bx_l : w.heap.size < w3.heap.size := bx.lt
    have bx_l2 : w.heap.size < w3.heap.size + 1 + 1 := Nat.lt_succ_of_lt (Nat.lt_succ_of_lt bx_l)
    have bx_0 : w3.cell? ⟨w.heap.size, 0, none⟩ = some (.slice A s.length k) := (bx.cell 0).trans rfl
    have bo_l : w.heap.size + 1 < w3.heap.size := bo.lt
    have bo_l2 : w.heap.size + 1 < w3.heap.size + 1 + 1 := Nat.lt_succ_of_lt (Nat.lt_succ_of_lt bo_l)
    have bo_0 : w3.cell? ⟨w.heap.size + 1, 0, none⟩ = some (.int .i64 kk) := (bo.cell 0).trans rfl
    have bo_1 : w3.cell? ⟨w.heap.size + 1, 1, none⟩ = some (.slice Al ls.length kl) := (bo.cell 1).trans rfl
    have bo_2 : w3.cell? ⟨w.heap.size + 1, 2, none⟩ = some (.slice Ad da.length kd) := (bo.cell 2).trans rfl
    have bp_l : w.heap.size + 2 < w3.heap.size := bp.lt
    have bp_l2 : w.heap.size + 2 < w3.heap.size + 1 + 1 := Nat.lt_succ_of_lt (Nat.lt_succ_of_lt bp_l)
    have bp_0 : w3.cell? ⟨w.heap.size + 2, 0, none⟩ = some (.int .i64 kp) := (bp.cell 0).trans rfl
    have bp_1 : w3.cell? ⟨w.heap.size + 2, 1, none⟩ = some (.slice Bl lp.length jl) := (bp.cell 1).trans rfl
    have bp_2 : w3.cell? ⟨w.heap.size + 2, 2, none⟩ = some (.slice Bd dp.length jd) := (bp.cell 2).trans rfl
    have xa_l : w2.heap.size < w3.heap.size := xa.lt
    have xa_l2 : w2.heap.size < w3.heap.size + 1 + 1 := Nat.lt_succ_of_lt (Nat.lt_succ_of_lt xa_l)
    have xa_0 : w3.cell? ⟨w2.heap.size, 0, none⟩ = some (.slice A1 a.length k1) := (xa.cell 0).trans rfl
    have fa_l : w2.heap.size + 1 < w3.heap.size := fa.lt
    have fa_l2 : w2.heap.size + 1 < w3.heap.size + 1 + 1 := Nat.lt_succ_of_lt (Nat.lt_succ_of_lt fa_l)
    have fa_0 : w3.cell? ⟨w2.heap.size + 1, 0, none⟩ = some (.int .i64 0) := (fa.cell 0).trans rfl
    have fa_1 : w3.cell? ⟨w2.heap.size + 1, 1, none⟩ = some (.int .i64 0) := (fa.cell 1).trans rfl
    clear hb3'
    have HVb := Lib.hid (fun (w1 : World) (hb : Below w3.heap.size w3 w1) => hsb.keep (X' := Free) (Keeps.below hb (fun _ _ h => h.elim)))
    clear hsb
    have qb : Below (w3).heap.size (w3) (w3) := Below.refl _ _
    replace bx := bx.alloc (.cells #[.slice A2 b.length k2] 24)
    replace bo := bo.alloc (.cells #[.slice A2 b.length k2] 24)
    replace bp := bp.alloc (.cells #[.slice A2 b.length k2] 24)
    replace xa := xa.alloc (.cells #[.slice A2 b.length k2] 24)
    replace fa := fa.alloc (.cells #[.slice A2 b.length k2] 24)
    have xb := Blk.new w3 24 #[.slice A2 b.length k2]
    have wB3a0 := wB3.alloc wB3.size (.cells #[.slice A2 b.length k2] 24)
    have qaB3a0 := qaB3.alloc qaB3.size (.cells #[.slice A2 b.length k2] 24)
    have qbB3a0 := qb.alloc qb.size (.cells #[.slice A2 b.length k2] 24)
    replace bx := bx.alloc (.cells #[.int .i64 0, .int .i64 0] 28)
    replace bo := bo.alloc (.cells #[.int .i64 0, .int .i64 0] 28)
    replace bp := bp.alloc (.cells #[.int .i64 0, .int .i64 0] 28)
    replace xa := xa.alloc (.cells #[.int .i64 0, .int .i64 0] 28)
    replace fa := fa.alloc (.cells #[.int .i64 0, .int .i64 0] 28)
    replace xb := xb.alloc (.cells #[.int .i64 0, .int .i64 0] 28)
    have fb : Blk ((w3.alloc (.cells #[.slice A2 b.length k2] 24)).alloc (.cells #[.int .i64 0, .int .i64 0] 28)) (w3.heap.size + 1) 28 #[.int .i64 0, .int .i64 0] := by simpa using Blk.new (w3.alloc (.cells #[.slice A2 b.length k2] 24)) 28 #[.int .i64 0, .int .i64 0]
    have wB3a1 := wB3a0.alloc wB3a0.size (.cells #[.int .i64 0, .int .i64 0] 28)
    have qaB3a1 := qaB3a0.alloc qaB3a0.size (.cells #[.int .i64 0, .int .i64 0] 28)
    have qbB3a1 := qbB3a0.alloc qbB3a0.size (.cells #[.int .i64 0, .int .i64 0] 28)
    go_wp2_with fail
    go_at_call 33
    refine (HSP.out _ wB3a1).mono ?_
    rintro e w4 ⟨A3, k3, rfl, _, hsc, hb4'⟩
    have wB4 := wB3a1.trans (hb4'.mono wB3a1.size)
    have qaB4 := qaB3a1.trans (hb4'.mono qaB3a1.size)
    have qbB4 := qbB3a1.trans (hb4'.mono qbB3a1.size)
    replace bx := bx.below hb4' bx.lt
    replace bo := bo.below hb4' bo.lt
    replace bp := bp.below hb4' bp.lt
    replace xa := xa.below hb4' xa.lt
    replace fa := fa.below hb4' fa.lt
    replace xb := xb.below hb4' xb.lt
    replace fb := fb.below hb4' fb.lt
    clear bo_0 bo_1 bo_2 bo_l bo_l2 bp_0 bp_1 bp_2 bp_l bp_l2 bx_0 bx_l bx_l2 fa_0 fa_1 fa_l fa_l2 xa_0 xa_l xa_l2
    have bx_l : w.heap.size < w4.heap.size := bx.lt
    have bx_l2 : w.heap.size < w4.heap.size + 1 + 1 := Nat.lt_succ_of_lt (Nat.lt_succ_of_lt bx_l)
    have bx_0 : w4.cell? ⟨w.heap.size, 0, none⟩ = some (.slice A s.length k) := (bx.cell 0).trans rfl
    have bo_l : w.heap.size + 1 < w4.heap.size := bo.lt
    have bo_l2 : w.heap.size + 1 < w4.heap.size + 1 + 1 := Nat.lt_succ_of_lt (Nat.lt_succ_of_lt bo_l)
    have bo_0 : w4.cell? ⟨w.heap.size + 1, 0, none⟩ = some (.int .i64 kk) := (bo.cell 0).trans rfl
    have bo_1 : w4.cell? ⟨w.heap.size + 1, 1, none⟩ = some (.slice Al ls.length kl) := (bo.cell 1).trans rfl
    have bo_2 : w4.cell? ⟨w.heap.size + 1, 2, none⟩ = some (.slice Ad da.length kd) := (bo.cell 2).trans rfl
    have bp_l : w.heap.size + 2 < w4.heap.size := bp.lt
    have bp_l2 : w.heap.size + 2 < w4.heap.size + 1 + 1 := Nat.lt_succ_of_lt (Nat.lt_succ_of_lt bp_l)
    have bp_0 : w4.cell? ⟨w.heap.size + 2, 0, none⟩ = some (.int .i64 kp) := (bp.cell 0).trans rfl
    have bp_1 : w4.cell? ⟨w.heap.size + 2, 1, none⟩ = some (.slice Bl lp.length jl) := (bp.cell 1).trans rfl
    have bp_2 : w4.cell? ⟨w.heap.size + 2, 2, none⟩ = some (.slice Bd dp.length jd) := (bp.cell 2).trans rfl
    have xa_l : w2.heap.size < w4.heap.size := xa.lt
    have xa_l2 : w2.heap.size < w4.heap.size + 1 + 1 := Nat.lt_succ_of_lt (Nat.lt_succ_of_lt xa_l)
    have xa_0 : w4.cell? ⟨w2.heap.size, 0, none⟩ = some (.slice A1 a.length k1) := (xa.cell 0).trans rfl
    have fa_l : w2.heap.size + 1 < w4.heap.size := fa.lt
    have fa_l2 : w2.heap.size + 1 < w4.heap.size + 1 + 1 := Nat.lt_succ_of_lt (Nat.lt_succ_of_lt fa_l)
    have fa_0 : w4.cell? ⟨w2.heap.size + 1, 0, none⟩ = some (.int .i64 0) := (fa.cell 0).trans rfl
    have fa_1 : w4.cell? ⟨w2.heap.size + 1, 1, none⟩ = some (.int .i64 0) := (fa.cell 1).trans rfl
    have xb_l : w3.heap.size < w4.heap.size := xb.lt
    have xb_l2 : w3.heap.size < w4.heap.size + 1 + 1 := Nat.lt_succ_of_lt (Nat.lt_succ_of_lt xb_l)
    have xb_0 : w4.cell? ⟨w3.heap.size, 0, none⟩ = some (.slice A2 b.length k2) := (xb.cell 0).trans rfl
    have fb_l : w3.heap.size + 1 < w4.heap.size := fb.lt
    have fb_l2 : w3.heap.size + 1 < w4.heap.size + 1 + 1 := Nat.lt_succ_of_lt (Nat.lt_succ_of_lt fb_l)
    have fb_0 : w4.cell? ⟨w3.heap.size + 1, 0, none⟩ = some (.int .i64 0) := (fb.cell 0).trans rfl
    have fb_1 : w4.cell? ⟨w3.heap.size + 1, 1, none⟩ = some (.int .i64 0) := (fb.cell 1).trans rfl
    clear hb4'
    have HVc := Lib.hid (fun (w1 : World) (hb : Below w4.heap.size w4 w1) => hsc.keep (X' := Free) (Keeps.below hb (fun _ _ h => h.elim)))
    clear hsc
    have qc : Below (w4).heap.size (w4) (w4) := Below.refl _ _
    replace bx := bx.alloc (.cells #[.slice A3 c.length k3] 24)
    replace bo := bo.alloc (.cells #[.slice A3 c.length k3] 24)
    replace bp := bp.alloc (.cells #[.slice A3 c.length k3] 24)
    replace xa := xa.alloc (.cells #[.slice A3 c.length k3] 24)
    replace fa := fa.alloc (.cells #[.slice A3 c.length k3] 24)
    replace xb := xb.alloc (.cells #[.slice A3 c.length k3] 24)
    replace fb := fb.alloc (.cells #[.slice A3 c.length k3] 24)
    have xc := Blk.new w4 24 #[.slice A3 c.length k3]
    have wB4a0 := wB4.alloc wB4.size (.cells #[.slice A3 c.length k3] 24)
    have qaB4a0 := qaB4.alloc qaB4.size (.cells #[.slice A3 c.length k3] 24)
    have qbB4a0 := qbB4.alloc qbB4.size (.cells #[.slice A3 c.length k3] 24)
    have qcB4a0 := qc.alloc qc.size (.cells #[.slice A3 c.length k3] 24)
    replace bx := bx.alloc (.cells #[.int .i64 0, .int .i64 0] 28)
    replace bo := bo.alloc (.cells #[.int .i64 0, .int .i64 0] 28)
    replace bp := bp.alloc (.cells #[.int .i64 0, .int .i64 0] 28)
    replace xa := xa.alloc (.cells #[.int .i64 0, .int .i64 0] 28)
    replace fa := fa.alloc (.cells #[.int .i64 0, .int .i64 0] 28)
    replace xb := xb.alloc (.cells #[.int .i64 0, .int .i64 0] 28)
    replace fb := fb.alloc (.cells #[.int .i64 0, .int .i64 0] 28)
    replace xc := xc.alloc (.cells #[.int .i64 0, .int .i64 0] 28)
    have fc : Blk ((w4.alloc (.cells #[.slice A3 c.length k3] 24)).alloc (.cells #[.int .i64 0, .int .i64 0] 28)) (w4.heap.size + 1) 28 #[.int .i64 0, .int .i64 0] := by simpa using Blk.new (w4.alloc (.cells #[.slice A3 c.length k3] 24)) 28 #[.int .i64 0, .int .i64 0]
    have wB4a1 := wB4a0.alloc wB4a0.size (.cells #[.int .i64 0, .int .i64 0] 28)
    have qaB4a1 := qaB4a0.alloc qaB4a0.size (.cells #[.int .i64 0, .int .i64 0] 28)
    have qbB4a1 := qbB4a0.alloc qbB4a0.size (.cells #[.int .i64 0, .int .i64 0] 28)
    have qcB4a1 := qcB4a0.alloc qcB4a0.size (.cells #[.int .i64 0, .int .i64 0] 28)
    go_wp2_with fail
    go_at_call 33
    refine (HCO0.out A3 k3 _ (HVc.out _ qcB4a1) hcl64 wB4a1).mono ?_
    rintro e w5 ⟨A4, k4, rfl, _, hsd, hb5'⟩
    have wB5 := wB4a1.trans (hb5'.mono wB4a1.size)
    have qaB5 := qaB4a1.trans (hb5'.mono qaB4a1.size)
    have qbB5 := qbB4a1.trans (hb5'.mono qbB4a1.size)
    have qcB5 := qcB4a1.trans (hb5'.mono qcB4a1.size)
    replace bx := bx.below hb5' bx.lt
    replace bo := bo.below hb5' bo.lt
    replace bp := bp.below hb5' bp.lt
    replace xa := xa.below hb5' xa.lt
    replace fa := fa.below hb5' fa.lt
    replace xb := xb.below hb5' xb.lt
    replace fb := fb.below hb5' fb.lt
    replace xc := xc.below hb5' xc.lt
    replace fc := fc.below hb5' fc.lt
    clear bo_0 bo_1 bo_2 bo_l bo_l2 bp_0 bp_1 bp_2 bp_l bp_l2 bx_0 bx_l bx_l2 fa_0 fa_1 fa_l fa_l2 fb_0 fb_1 fb_l fb_l2 xa_0 xa_l xa_l2 xb_0 xb_l xb_l2
    have bx_l : w.heap.size < w5.heap.size := bx.lt
    have bx_l2 : w.heap.size < w5.heap.size + 1 + 1 := Nat.lt_succ_of_lt (Nat.lt_succ_of_lt bx_l)
    have bx_0 : w5.cell? ⟨w.heap.size, 0, none⟩ = some (.slice A s.length k) := (bx.cell 0).trans rfl
    have bo_l : w.heap.size + 1 < w5.heap.size := bo.lt
    have bo_l2 : w.heap.size + 1 < w5.heap.size + 1 + 1 := Nat.lt_succ_of_lt (Nat.lt_succ_of_lt bo_l)
    have bo_0 : w5.cell? ⟨w.heap.size + 1, 0, none⟩ = some (.int .i64 kk) := (bo.cell 0).trans rfl
    have bo_1 : w5.cell? ⟨w.heap.size + 1, 1, none⟩ = some (.slice Al ls.length kl) := (bo.cell 1).trans rfl
    have bo_2 : w5.cell? ⟨w.heap.size + 1, 2, none⟩ = some (.slice Ad da.length kd) := (bo.cell 2).trans rfl
    have bp_l : w.heap.size + 2 < w5.heap.size := bp.lt
    have bp_l2 : w.heap.size + 2 < w5.heap.size + 1 + 1 := Nat.lt_succ_of_lt (Nat.lt_succ_of_lt bp_l)
    have bp_0 : w5.cell? ⟨w.heap.size + 2, 0, none⟩ = some (.int .i64 kp) := (bp.cell 0).trans rfl
    have bp_1 : w5.cell? ⟨w.heap.size + 2, 1, none⟩ = some (.slice Bl lp.length jl) := (bp.cell 1).trans rfl
    have bp_2 : w5.cell? ⟨w.heap.size + 2, 2, none⟩ = some (.slice Bd dp.length jd) := (bp.cell 2).trans rfl
    have xa_l : w2.heap.size < w5.heap.size := xa.lt
    have xa_l2 : w2.heap.size < w5.heap.size + 1 + 1 := Nat.lt_succ_of_lt (Nat.lt_succ_of_lt xa_l)
    have xa_0 : w5.cell? ⟨w2.heap.size, 0, none⟩ = some (.slice A1 a.length k1) := (xa.cell 0).trans rfl
    have fa_l : w2.heap.size + 1 < w5.heap.size := fa.lt
    have fa_l2 : w2.heap.size + 1 < w5.heap.size + 1 + 1 := Nat.lt_succ_of_lt (Nat.lt_succ_of_lt fa_l)
    have fa_0 : w5.cell? ⟨w2.heap.size + 1, 0, none⟩ = some (.int .i64 0) := (fa.cell 0).trans rfl
    have fa_1 : w5.cell? ⟨w2.heap.size + 1, 1, none⟩ = some (.int .i64 0) := (fa.cell 1).trans rfl
    have xb_l : w3.heap.size < w5.heap.size := xb.lt
    have xb_l2 : w3.heap.size < w5.heap.size + 1 + 1 := Nat.lt_succ_of_lt (Nat.lt_succ_of_lt xb_l)
    have xb_0 : w5.cell? ⟨w3.heap.size, 0, none⟩ = some (.slice A2 b.length k2) := (xb.cell 0).trans rfl
    have fb_l : w3.heap.size + 1 < w5.heap.size := fb.lt
    have fb_l2 : w3.heap.size + 1 < w5.heap.size + 1 + 1 := Nat.lt_succ_of_lt (Nat.lt_succ_of_lt fb_l)
    have fb_0 : w5.cell? ⟨w3.heap.size + 1, 0, none⟩ = some (.int .i64 0) := (fb.cell 0).trans rfl
    have fb_1 : w5.cell? ⟨w3.heap.size + 1, 1, none⟩ = some (.int .i64 0) := (fb.cell 1).trans rfl
    have xc_l : w4.heap.size < w5.heap.size := xc.lt
    have xc_l2 : w4.heap.size < w5.heap.size + 1 + 1 := Nat.lt_succ_of_lt (Nat.lt_succ_of_lt xc_l)
    have xc_0 : w5.cell? ⟨w4.heap.size, 0, none⟩ = some (.slice A3 c.length k3) := (xc.cell 0).trans rfl
    have fc_l : w4.heap.size + 1 < w5.heap.size := fc.lt
    have fc_l2 : w4.heap.size + 1 < w5.heap.size + 1 + 1 := Nat.lt_succ_of_lt (Nat.lt_succ_of_lt fc_l)
    have fc_0 : w5.cell? ⟨w4.heap.size + 1, 0, none⟩ = some (.int .i64 0) := (fc.cell 0).trans rfl
    have fc_1 : w5.cell? ⟨w4.heap.size + 1, 1, none⟩ = some (.int .i64 0) := (fc.cell 1).trans rfl
    clear hb5'
    have HVd := Lib.hid (fun (w1 : World) (hb : Below w5.heap.size w5 w1) => hsd.keep (X' := Free) (Keeps.below hb (fun _ _ h => h.elim)))
    clear hsd
    have qd : Below (w5).heap.size (w5) (w5) := Below.refl _ _
    replace bx := bx.alloc (.cells #[.slice A4 b.length k4] 24)
    replace bo := bo.alloc (.cells #[.slice A4 b.length k4] 24)
    replace bp := bp.alloc (.cells #[.slice A4 b.length k4] 24)
    replace xa := xa.alloc (.cells #[.slice A4 b.length k4] 24)
    replace fa := fa.alloc (.cells #[.slice A4 b.length k4] 24)
    replace xb := xb.alloc (.cells #[.slice A4 b.length k4] 24)
    replace fb := fb.alloc (.cells #[.slice A4 b.length k4] 24)
    replace xc := xc.alloc (.cells #[.slice A4 b.length k4] 24)
    replace fc := fc.alloc (.cells #[.slice A4 b.length k4] 24)
    have xd := Blk.new w5 24 #[.slice A4 b.length k4]
    have wB5a0 := wB5.alloc wB5.size (.cells #[.slice A4 b.length k4] 24)
    have qaB5a0 := qaB5.alloc qaB5.size (.cells #[.slice A4 b.length k4] 24)
    have qbB5a0 := qbB5.alloc qbB5.size (.cells #[.slice A4 b.length k4] 24)
    have qcB5a0 := qcB5.alloc qcB5.size (.cells #[.slice A4 b.length k4] 24)
    have qdB5a0 := qd.alloc qd.size (.cells #[.slice A4 b.length k4] 24)
    replace bx := bx.alloc (.cells #[.int .i64 0, .int .i64 0] 28)
    replace bo := bo.alloc (.cells #[.int .i64 0, .int .i64 0] 28)
    replace bp := bp.alloc (.cells #[.int .i64 0, .int .i64 0] 28)
    replace xa := xa.alloc (.cells #[.int .i64 0, .int .i64 0] 28)
    replace fa := fa.alloc (.cells #[.int .i64 0, .int .i64 0] 28)
    replace xb := xb.alloc (.cells #[.int .i64 0, .int .i64 0] 28)
    replace fb := fb.alloc (.cells #[.int .i64 0, .int .i64 0] 28)
    replace xc := xc.alloc (.cells #[.int .i64 0, .int .i64 0] 28)
    replace fc := fc.alloc (.cells #[.int .i64 0, .int .i64 0] 28)
    replace xd := xd.alloc (.cells #[.int .i64 0, .int .i64 0] 28)
    have fd : Blk ((w5.alloc (.cells #[.slice A4 b.length k4] 24)).alloc (.cells #[.int .i64 0, .int .i64 0] 28)) (w5.heap.size + 1) 28 #[.int .i64 0, .int .i64 0] := by simpa using Blk.new (w5.alloc (.cells #[.slice A4 b.length k4] 24)) 28 #[.int .i64 0, .int .i64 0]
    have wB5a1 := wB5a0.alloc wB5a0.size (.cells #[.int .i64 0, .int .i64 0] 28)
    have qaB5a1 := qaB5a0.alloc qaB5a0.size (.cells #[.int .i64 0, .int .i64 0] 28)
    have qbB5a1 := qbB5a0.alloc qbB5a0.size (.cells #[.int .i64 0, .int .i64 0] 28)
    have qcB5a1 := qcB5a0.alloc qcB5a0.size (.cells #[.int .i64 0, .int .i64 0] 28)
    have qdB5a1 := qdB5a0.alloc qdB5a0.size (.cells #[.int .i64 0, .int .i64 0] 28)
    go_wp2_with fail
    go_at_call 22
    refine (stores_any _ A2 A4 k2 k4 b (HVb.out _ qbB5a1) (HVd.out _ qdB5a1) hbl64).mono ?_
    rintro e w6 ⟨rfl, hb6'⟩
    have wB6 := wB5a1.trans (hb6'.mono wB5a1.size)
    have qaB6 := qaB5a1.trans (hb6'.mono qaB5a1.size)
    have qbB6 := qbB5a1.trans (hb6'.mono qbB5a1.size)
    have qcB6 := qcB5a1.trans (hb6'.mono qcB5a1.size)
    have qdB6 := qdB5a1.trans (hb6'.mono qdB5a1.size)
    replace bx := bx.below hb6' bx.lt
    replace bo := bo.below hb6' bo.lt
    replace bp := bp.below hb6' bp.lt
    replace xa := xa.below hb6' xa.lt
    replace fa := fa.below hb6' fa.lt
    replace xb := xb.below hb6' xb.lt
    replace fb := fb.below hb6' fb.lt
    replace xc := xc.below hb6' xc.lt
    replace fc := fc.below hb6' fc.lt
    replace xd := xd.below hb6' xd.lt
    replace fd := fd.below hb6' fd.lt
    clear bo_0 bo_1 bo_2 bo_l bo_l2 bp_0 bp_1 bp_2 bp_l bp_l2 bx_0 bx_l bx_l2 fa_0 fa_1 fa_l fa_l2 fb_0 fb_1 fb_l fb_l2 fc_0 fc_1 fc_l fc_l2 xa_0 xa_l xa_l2 xb_0 xb_l xb_l2 xc_0 xc_l xc_l2
    have bx_l : w.heap.size < w6.heap.size := bx.lt
    have bx_l2 : w.heap.size < w6.heap.size + 1 + 1 := Nat.lt_succ_of_lt (Nat.lt_succ_of_lt bx_l)
    have bx_0 : w6.cell? ⟨w.heap.size, 0, none⟩ = some (.slice A s.length k) := (bx.cell 0).trans rfl
    have bo_l : w.heap.size + 1 < w6.heap.size := bo.lt
    have bo_l2 : w.heap.size + 1 < w6.heap.size + 1 + 1 := Nat.lt_succ_of_lt (Nat.lt_succ_of_lt bo_l)
    have bo_0 : w6.cell? ⟨w.heap.size + 1, 0, none⟩ = some (.int .i64 kk) := (bo.cell 0).trans rfl
    have bo_1 : w6.cell? ⟨w.heap.size + 1, 1, none⟩ = some (.slice Al ls.length kl) := (bo.cell 1).trans rfl
    have bo_2 : w6.cell? ⟨w.heap.size + 1, 2, none⟩ = some (.slice Ad da.length kd) := (bo.cell 2).trans rfl
    have bp_l : w.heap.size + 2 < w6.heap.size := bp.lt
    have bp_l2 : w.heap.size + 2 < w6.heap.size + 1 + 1 := Nat.lt_succ_of_lt (Nat.lt_succ_of_lt bp_l)
    have bp_0 : w6.cell? ⟨w.heap.size + 2, 0, none⟩ = some (.int .i64 kp) := (bp.cell 0).trans rfl
    have bp_1 : w6.cell? ⟨w.heap.size + 2, 1, none⟩ = some (.slice Bl lp.length jl) := (bp.cell 1).trans rfl
    have bp_2 : w6.cell? ⟨w.heap.size + 2, 2, none⟩ = some (.slice Bd dp.length jd) := (bp.cell 2).trans rfl
    have xa_l : w2.heap.size < w6.heap.size := xa.lt
    have xa_l2 : w2.heap.size < w6.heap.size + 1 + 1 := Nat.lt_succ_of_lt (Nat.lt_succ_of_lt xa_l)
    have xa_0 : w6.cell? ⟨w2.heap.size, 0, none⟩ = some (.slice A1 a.length k1) := (xa.cell 0).trans rfl
    have fa_l : w2.heap.size + 1 < w6.heap.size := fa.lt
    have fa_l2 : w2.heap.size + 1 < w6.heap.size + 1 + 1 := Nat.lt_succ_of_lt (Nat.lt_succ_of_lt fa_l)
    have fa_0 : w6.cell? ⟨w2.heap.size + 1, 0, none⟩ = some (.int .i64 0) := (fa.cell 0).trans rfl
    have fa_1 : w6.cell? ⟨w2.heap.size + 1, 1, none⟩ = some (.int .i64 0) := (fa.cell 1).trans rfl
    have xb_l : w3.heap.size < w6.heap.size := xb.lt
    have xb_l2 : w3.heap.size < w6.heap.size + 1 + 1 := Nat.lt_succ_of_lt (Nat.lt_succ_of_lt xb_l)
    have xb_0 : w6.cell? ⟨w3.heap.size, 0, none⟩ = some (.slice A2 b.length k2) := (xb.cell 0).trans rfl
    have fb_l : w3.heap.size + 1 < w6.heap.size := fb.lt
    have fb_l2 : w3.heap.size + 1 < w6.heap.size + 1 + 1 := Nat.lt_succ_of_lt (Nat.lt_succ_of_lt fb_l)
    have fb_0 : w6.cell? ⟨w3.heap.size + 1, 0, none⟩ = some (.int .i64 0) := (fb.cell 0).trans rfl
    have fb_1 : w6.cell? ⟨w3.heap.size + 1, 1, none⟩ = some (.int .i64 0) := (fb.cell 1).trans rfl
    have xc_l : w4.heap.size < w6.heap.size := xc.lt
    have xc_l2 : w4.heap.size < w6.heap.size + 1 + 1 := Nat.lt_succ_of_lt (Nat.lt_succ_of_lt xc_l)
    have xc_0 : w6.cell? ⟨w4.heap.size, 0, none⟩ = some (.slice A3 c.length k3) := (xc.cell 0).trans rfl
    have fc_l : w4.heap.size + 1 < w6.heap.size := fc.lt
    have fc_l2 : w4.heap.size + 1 < w6.heap.size + 1 + 1 := Nat.lt_succ_of_lt (Nat.lt_succ_of_lt fc_l)
    have fc_0 : w6.cell? ⟨w4.heap.size + 1, 0, none⟩ = some (.int .i64 0) := (fc.cell 0).trans rfl
    have fc_1 : w6.cell? ⟨w4.heap.size + 1, 1, none⟩ = some (.int .i64 0) := (fc.cell 1).trans rfl
    have xd_l : w5.heap.size < w6.heap.size := xd.lt
    have xd_l2 : w5.heap.size < w6.heap.size + 1 + 1 := Nat.lt_succ_of_lt (Nat.lt_succ_of_lt xd_l)
    have xd_0 : w6.cell? ⟨w5.heap.size, 0, none⟩ = some (.slice A4 b.length k4) := (xd.cell 0).trans rfl
    have fd_l : w5.heap.size + 1 < w6.heap.size := fd.lt
    have fd_l2 : w5.heap.size + 1 < w6.heap.size + 1 + 1 := Nat.lt_succ_of_lt (Nat.lt_succ_of_lt fd_l)
    have fd_0 : w6.cell? ⟨w5.heap.size + 1, 0, none⟩ = some (.int .i64 0) := (fd.cell 0).trans rfl
    have fd_1 : w6.cell? ⟨w5.heap.size + 1, 1, none⟩ = some (.int .i64 0) := (fd.cell 1).trans rfl
    clear hb6'
    go_wp2_with fail
    go_ret
    exact ⟨by simp, wB6⟩
end Go.Proofs.Ytiilhnfdlpgllaa
