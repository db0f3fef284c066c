/-
  Tree patches: walks of 'check' and 'ValidatePatch' at a patch with one edit.
-/
import Derived.Test.YtjfckjonfpkphaaDoorTq6
namespace Go.Proofs.YtjfckjonfpkphaaDoor
open Go.RowKit Go.V Go.Shelf
set_option linter.unusedVariables false

/-- An edit as a value; as cells. -/
abbrev chV (p : List UInt8) (A : Option Addr) (n k : Nat) : Value := .agg #[.int .i64 4, strV p, .string ⟨#[]⟩, .slice none 0 0, .slice A n k]
abbrev chC (p : List UInt8) (A : Option Addr) (n k : Nat) : Array Value := #[.int .i64 4, strV p, .string ⟨#[]⟩, .slice none 0 0, .slice A n k]
set_option maxRecDepth 100000 in
set_option maxHeartbeats 16000000 in
theorem check_any (w : World) (hm : Mx w) (p : List UInt8) (hp : Tr.pathOk p = true) (A : Option Addr) (k : Nat) (l : List Tp.H) (hv : HvV w Free A l) (h0 : 0 < l.length) (hl : l.length ≤ 9223372036854775807) (hk : l.length ≤ k) :
    Calls Tryd.prog 28 #[chV p A l.length k] w fun e w' => e = .returned (.int .i64 (Tp.vlF l).1) ∧ Below w.heap.size w w' := by
  have HP := Lib.hid (fun (w1 : World) (hb : Below w.heap.size w w1) => (show Calls Tryd.prog 10 #[strV p] w1 fun e w' => e = .returned (.bool true) ∧ Below w1.heap.size w1 w' from by
    have h := validPath_any w1 (hm.below hb) p; rw [hp] at h; exact h))
  have HPV := Lib.hid (fun (w1 : World) (hb : Below w.heap.size w w1) => pvalidate_any w1 A k l (hv.keep (free_below hb)) hl hk)
  have HLN := Lib.hid (fun (w1 : World) => (show Calls Tryd.prog 24 #[.slice none 0 0] w1 (FaultPost w1 (0, 0)) from lnValidate_any w1 none 0 [] SA.nil (by simp)))
  have h0' : (0 : Int) < l.length := by omega
  have hd1 : decide ((0 : Int) < l.length) = true := by simp; omega
  have hd2 : decide (0 < l.length) = true := by simp; omega
  have b0 := Blk.new w 58 (chC p A l.length k)
  have hb0 := below_alloc1 w (.cells (chC p A l.length k) 58)
  clear hv hm
  have hfld : ∀ (x y : Value) W, (Instr.field 29 (.agg #[x, y]) 0).run Tryd.prog W = .ok x W := fun _ _ _ => by kernel_rfl
  go_enter Tryd.func28, Tryd.ntmps28
  go_wp2_with fail
  go_quiet (fail)
  have hb1 := below_drewN hb0 nq
  have b1 := b0.drewN nq
  generalize ((w.alloc (.cells (chC p A l.length k) 58)).drewN nq) = w1 at *
  have q0 := (b1.cell 0).trans rfl
  have q1 := (b1.cell 1).trans rfl
  have q2 := (b1.cell 2).trans rfl
  have q3 := (b1.cell 3).trans rfl
  have q4 := (b1.cell 4).trans rfl
  have ql := b1.lt
  go_wp2_with fail
  go_at_call 10
  with_reducible refine (HP.out _ hb1).mono ?_
  rintro e w2 ⟨rfl, hb2⟩
  replace b1 := b1.below hb2 b1.lt
  replace hb1 := hb1.trans (hb2.mono hb1.size)
  clear q0 q1 q2 q3 q4 ql hb2 b0 hb0
  have q0 := (b1.cell 0).trans rfl
  have q1 := (b1.cell 1).trans rfl
  have q2 := (b1.cell 2).trans rfl
  have q3 := (b1.cell 3).trans rfl
  have q4 := (b1.cell 4).trans rfl
  have ql := b1.lt
  go_wp2_with fail
  go_at_call 24
  with_reducible refine (HLN.out _).mono ?_
  rintro e w3 ⟨rfl, hb2⟩
  replace b1 := b1.below hb2 b1.lt
  replace hb1 := hb1.trans (hb2.mono hb1.size)
  clear q0 q1 q2 q3 q4 ql hb2
  replace b1 := b1.alloc (.cells #[.int .i64 0, .int .i64 0] 29)
  replace hb1 := hb1.alloc hb1.size (.cells #[.int .i64 0, .int .i64 0] 29)
  have q4 := (b1.cell 4).trans rfl
  have ql := b1.lt
  go_wp2_with fail
  go_at_call 14
  with_reducible refine (HPV.out _ hb1).mono ?_
  rintro e w4 ⟨rfl, hb2⟩
  replace hb1 := hb1.trans (hb2.mono hb1.size)
  clear q4 ql hb2
  go_wp2_with fail
  go_ret
  exact ⟨rfl, hb1⟩
end Go.Proofs.YtjfckjonfpkphaaDoor
