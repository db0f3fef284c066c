/-
  Queries: walk of 'mlFork'.
-/
import Derived.Test.YtebohncdhhikkaaOq14
namespace Oq
def forkL : List Hs.Cm := [⟨[], 0, 0, 0, .empty⟩, ⟨[0], 0, 0, 0, .empty⟩, ⟨[0], 0, 0, 0, .empty⟩]
def forkQ : List N := [⟨3, 1, 0, 0⟩, ⟨8, 0, 0, 0⟩]
theorem fork_ok : Hs.Ok forkL := (Hs.validate_ok forkL (by kernel_rfl)).2
theorem fork_val : Go.V.tab 3 (val forkL forkQ) = [true, true, false] := by decide
theorem fork_run : run forkQ 0 [] = some [1] := by decide
theorem fork_k : KOk forkQ := by
  intro n hn
  simp [forkQ] at hn
  rcases hn with rfl | rfl <;> simp
end Oq
namespace Go.Proofs.Ytebohncdhhikkaa
open Go.RowKit Go.V
set_option linter.unusedVariables false
theorem fork_cv (w : World) (b0 b1 g : Nat) (h0 : Blk w b0 3 #[.int .i64 0]) (h1 : Blk w b1 3 #[.int .i64 0])
    (hg : Blk w g 45 #[.slice none 0 0, .int .i64 0, .int .i64 0, .int .i64 0, .string .empty, .slice (some ⟨b0, 0, none⟩) 1 1, .int .i64 0, .int .i64 0, .int .i64 0, .string .empty, .slice (some ⟨b1, 0, none⟩) 1 1, .int .i64 0, .int .i64 0, .int .i64 0, .string .empty]) :
    CV w (some ⟨g, 0, none⟩) Oq.forkL := by
  refine ⟨_, SV.of_blk hg, ?_⟩
  have ok : ∀ p : List Int, p = [] ∨ p = [0] → CoOk ⟨p, 0, 0, 0, .empty⟩ := fun p hp => by
    refine ⟨?_, by show (0 : Nat) ≤ _; omega, ?_, by show I64 0; unfold I64; omega, by show I64 0; unfold I64; omega, by show I64 0; unfold I64; omega⟩
    · rcases hp with rfl | rfl <;> simp
    · rcases hp with rfl | rfl
      · intro i h; simp at h
      · intro i h; simp at h; subst h; show I64 0; unfold I64; omega
  have r0 : RowsR (CoR w w.heap.size) [(⟨[], 0, 0, 0, .empty⟩ : Hs.Cm)] [.slice none 0 0, .int .i64 0, .int .i64 0, .int .i64 0, .string .empty] := RowsR.one ⟨none, 0, rfl, ok [] (.inl rfl), .inl rfl⟩
  have r1 : ∀ b, Blk w b 3 #[.int .i64 0] → RowsR (CoR w w.heap.size) [(⟨[0], 0, 0, 0, .empty⟩ : Hs.Cm)] [.slice (some ⟨b, 0, none⟩) 1 1, .int .i64 0, .int .i64 0, .int .i64 0, .string .empty] := fun b hb => RowsR.one ⟨some ⟨b, 0, none⟩, 1, rfl, ok [0] (.inr rfl), SV.of_blk hb⟩
  exact RowsR.append r0 (RowsR.append (r1 b0 h0) (r1 b1 h1))
/-- What 'mlFork' tells. -/
def FkPost (w : World) (e : Ending) (w' : World) : Prop := (∃ v, e = .returned (.tuple #[v, .bool true])) ∧ Below w.heap.size w w'
set_option maxRecDepth 100000 in
set_option maxHeartbeats 8000000 in
theorem mlFork_any (w : World) : Calls Try.prog 4 #[] w (FkPost w) := by
  have HE := Lib.hid (fun (w1 : World) (A A2 : Option Addr) (hv : CV w1 A Oq.forkL) (hq : QV w1 A2 Oq.forkQ) => (show Calls Try.prog 14 #[.slice A 3 3, .agg #[.slice A2 2 2]] w1 (EvPost w1 Oq.forkL Oq.forkQ) from eval_any w1 A A2 3 2 Oq.forkL Oq.forkQ hv Oq.fork_ok hq (by decide) (by decide) 1 Oq.fork_run Oq.fork_k))
  have B0 : Blk ((((w.alloc (.cells #[.int .i64 0] 3)).alloc (.cells #[.int .i64 0] 3)).alloc (.cells #[.slice none 0 0, .int .i64 0, .int .i64 0, .int .i64 0, .string ⟨#[]⟩, .slice (some ⟨w.heap.size, 0, none⟩) 1 1, .int .i64 0, .int .i64 0, .int .i64 0, .string ⟨#[]⟩, .slice (some ⟨w.heap.size + 1, 0, none⟩) 1 1, .int .i64 0, .int .i64 0, .int .i64 0, .string ⟨#[]⟩] 45)).alloc (.cells #[.int .i64 3, .int .i64 1, .int .i64 0, .int .i64 0, .int .i64 8, .int .i64 0, .int .i64 0, .int .i64 0] 50)) w.heap.size 3 #[.int .i64 0] := (((Blk.new w 3 #[.int .i64 0]).alloc _).alloc _).alloc _
  have B1 : Blk ((((w.alloc (.cells #[.int .i64 0] 3)).alloc (.cells #[.int .i64 0] 3)).alloc (.cells #[.slice none 0 0, .int .i64 0, .int .i64 0, .int .i64 0, .string ⟨#[]⟩, .slice (some ⟨w.heap.size, 0, none⟩) 1 1, .int .i64 0, .int .i64 0, .int .i64 0, .string ⟨#[]⟩, .slice (some ⟨w.heap.size + 1, 0, none⟩) 1 1, .int .i64 0, .int .i64 0, .int .i64 0, .string ⟨#[]⟩] 45)).alloc (.cells #[.int .i64 3, .int .i64 1, .int .i64 0, .int .i64 0, .int .i64 8, .int .i64 0, .int .i64 0, .int .i64 0] 50)) (w.heap.size + 1) 3 #[.int .i64 0] := ((blk_new1 w (.cells #[.int .i64 0] 3) 3 #[.int .i64 0]).alloc _).alloc _
  have B2 : Blk ((((w.alloc (.cells #[.int .i64 0] 3)).alloc (.cells #[.int .i64 0] 3)).alloc (.cells #[.slice none 0 0, .int .i64 0, .int .i64 0, .int .i64 0, .string ⟨#[]⟩, .slice (some ⟨w.heap.size, 0, none⟩) 1 1, .int .i64 0, .int .i64 0, .int .i64 0, .string ⟨#[]⟩, .slice (some ⟨w.heap.size + 1, 0, none⟩) 1 1, .int .i64 0, .int .i64 0, .int .i64 0, .string ⟨#[]⟩] 45)).alloc (.cells #[.int .i64 3, .int .i64 1, .int .i64 0, .int .i64 0, .int .i64 8, .int .i64 0, .int .i64 0, .int .i64 0] 50)) (w.heap.size + 1 + 1) 45 #[.slice none 0 0, .int .i64 0, .int .i64 0, .int .i64 0, .string ⟨#[]⟩, .slice (some ⟨w.heap.size, 0, none⟩) 1 1, .int .i64 0, .int .i64 0, .int .i64 0, .string ⟨#[]⟩, .slice (some ⟨w.heap.size + 1, 0, none⟩) 1 1, .int .i64 0, .int .i64 0, .int .i64 0, .string ⟨#[]⟩] := by
    have := (Blk.new ((w.alloc (.cells #[.int .i64 0] 3)).alloc (.cells #[.int .i64 0] 3)) 45 #[.slice none 0 0, .int .i64 0, .int .i64 0, .int .i64 0, .string ⟨#[]⟩, .slice (some ⟨w.heap.size, 0, none⟩) 1 1, .int .i64 0, .int .i64 0, .int .i64 0, .string ⟨#[]⟩, .slice (some ⟨w.heap.size + 1, 0, none⟩) 1 1, .int .i64 0, .int .i64 0, .int .i64 0, .string ⟨#[]⟩]).alloc (.cells #[.int .i64 3, .int .i64 1, .int .i64 0, .int .i64 0, .int .i64 8, .int .i64 0, .int .i64 0, .int .i64 0] 50)
    rw [World.size_alloc, World.size_alloc] at this
    exact this
  have B3 : Blk ((((w.alloc (.cells #[.int .i64 0] 3)).alloc (.cells #[.int .i64 0] 3)).alloc (.cells #[.slice none 0 0, .int .i64 0, .int .i64 0, .int .i64 0, .string ⟨#[]⟩, .slice (some ⟨w.heap.size, 0, none⟩) 1 1, .int .i64 0, .int .i64 0, .int .i64 0, .string ⟨#[]⟩, .slice (some ⟨w.heap.size + 1, 0, none⟩) 1 1, .int .i64 0, .int .i64 0, .int .i64 0, .string ⟨#[]⟩] 45)).alloc (.cells #[.int .i64 3, .int .i64 1, .int .i64 0, .int .i64 0, .int .i64 8, .int .i64 0, .int .i64 0, .int .i64 0] 50)) (w.heap.size + 1 + 1 + 1) 50 #[.int .i64 3, .int .i64 1, .int .i64 0, .int .i64 0, .int .i64 8, .int .i64 0, .int .i64 0, .int .i64 0] := by
    have := Blk.new (((w.alloc (.cells #[.int .i64 0] 3)).alloc (.cells #[.int .i64 0] 3)).alloc (.cells #[.slice none 0 0, .int .i64 0, .int .i64 0, .int .i64 0, .string ⟨#[]⟩, .slice (some ⟨w.heap.size, 0, none⟩) 1 1, .int .i64 0, .int .i64 0, .int .i64 0, .string ⟨#[]⟩, .slice (some ⟨w.heap.size + 1, 0, none⟩) 1 1, .int .i64 0, .int .i64 0, .int .i64 0, .string ⟨#[]⟩] 45)) 50 #[.int .i64 3, .int .i64 1, .int .i64 0, .int .i64 0, .int .i64 8, .int .i64 0, .int .i64 0, .int .i64 0]
    rw [World.size_alloc, World.size_alloc, World.size_alloc] at this
    exact this
  have hcv := fork_cv _ _ _ _ B0 B1 B2
  have hqv : QV ((((w.alloc (.cells #[.int .i64 0] 3)).alloc (.cells #[.int .i64 0] 3)).alloc (.cells #[.slice none 0 0, .int .i64 0, .int .i64 0, .int .i64 0, .string ⟨#[]⟩, .slice (some ⟨w.heap.size, 0, none⟩) 1 1, .int .i64 0, .int .i64 0, .int .i64 0, .string ⟨#[]⟩, .slice (some ⟨w.heap.size + 1, 0, none⟩) 1 1, .int .i64 0, .int .i64 0, .int .i64 0, .string ⟨#[]⟩] 45)).alloc (.cells #[.int .i64 3, .int .i64 1, .int .i64 0, .int .i64 0, .int .i64 8, .int .i64 0, .int .i64 0, .int .i64 0] 50)) (some ⟨w.heap.size + 1 + 1 + 1, 0, none⟩) Oq.forkQ := SV.of_blk B3
  have hb4 : Below w.heap.size w ((((w.alloc (.cells #[.int .i64 0] 3)).alloc (.cells #[.int .i64 0] 3)).alloc (.cells #[.slice none 0 0, .int .i64 0, .int .i64 0, .int .i64 0, .string ⟨#[]⟩, .slice (some ⟨w.heap.size, 0, none⟩) 1 1, .int .i64 0, .int .i64 0, .int .i64 0, .string ⟨#[]⟩, .slice (some ⟨w.heap.size + 1, 0, none⟩) 1 1, .int .i64 0, .int .i64 0, .int .i64 0, .string ⟨#[]⟩] 45)).alloc (.cells #[.int .i64 3, .int .i64 1, .int .i64 0, .int .i64 0, .int .i64 8, .int .i64 0, .int .i64 0, .int .i64 0] 50)) := (below_alloc3 w _ _ _).alloc (by simp; omega) _
  have HE2 := Lib.hid (HE.out _ _ _ hcv hqv)
  clear HE B0 B1 B2 B3 hcv hqv
  go_enter Try.func4, Try.ntmps4
  go_wp2_with fail
  go_at_call 14
  with_reducible refine HE2.out.mono ?_
  rintro e w1 ⟨A9, c9, he, hbv, hb5⟩
  replace he : e = .returned (.tuple #[.slice A9 3 c9, .agg #[.int .i64 0, .int .i64 0]]) := he
  subst he
  have hbel := hb4.trans (hb5.mono hb4.size)
  have hbv3 : BV w1 A9 [true, true, false] := Oq.fork_val ▸ hbv
  clear hb4 hb5 hbv HE2
  have hb6 := below_alloc2 w1 (.cells #[.int .i64 0, .int .i64 0] 28) (.cells #[.bool true, .bool true, .bool false] 4)
  have hbl : BV ((w1.alloc (.cells #[.int .i64 0, .int .i64 0] 28)).alloc (.cells #[.bool true, .bool true, .bool false] 4)) (some ⟨w1.heap.size + 1, 0, none⟩) [true, true, false] := SV.of_blk (blk_new1 w1 (.cells #[.int .i64 0, .int .i64 0] 28) 4 #[.bool true, .bool true, .bool false])
  have HB := Lib.hid (show Calls Try.prog 15 #[.slice A9 3 c9, .slice (some ⟨w1.heap.size + 1, 0, none⟩) 3 3] ((w1.alloc (.cells #[.int .i64 0, .int .i64 0] 28)).alloc (.cells #[.bool true, .bool true, .bool false] 4)) (fun e w' => e = .returned (.bool true) ∧ ∃ n, w' = World.drewN ((w1.alloc (.cells #[.int .i64 0, .int .i64 0] 28)).alloc (.cells #[.bool true, .bool true, .bool false] 4)) n) from bools_any _ A9 (some ⟨w1.heap.size + 1, 0, none⟩) c9 3 [true, true, false] (hbv3.below hb6) hbl (by decide))
  have hfin := hbel.trans (hb6.mono hbel.size)
  clear hbl hbv3 hb6
  go_wp2_with fail
  go_at_call 15
  with_reducible refine HB.out.mono ?_
  rintro e w2 ⟨rfl, n, rfl⟩
  go_wp2_with fail
  go_ret2
  exact ⟨⟨_, rfl⟩, below_drewN hfin _⟩
end Go.Proofs.Ytebohncdhhikkaa
