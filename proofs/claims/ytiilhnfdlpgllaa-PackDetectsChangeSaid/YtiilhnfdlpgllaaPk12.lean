/-
  PackBuildMatchesSpec: the example and the law's walk.
-/
import Derived.Test.YtiilhnfdlpgllaaPk11
import Derived.Test.YtiilhnfdlpgllaaPk7
namespace Go.Proofs.Ytiilhnfdlpgllaa
open Go.RowKit Go.V
set_option linter.unusedVariables false

theorem stV_nil (w : World) (X : Nat → Prop) : StV w X none [] := ⟨[], SA.nil, rfl⟩
set_option maxRecDepth 100000 in
set_option maxHeartbeats 8000000 in
theorem example_any (w : World) : Calls Try.prog 14 #[] w fun e w' => e = .returned (.bool true) ∧ Below w.heap.size w w' := by
  have HB := Lib.hid (build_all w none 0 [] (stV_nil w Free) (by simp))
  go_enter Try.func14, Try.ntmps14
  go_wp2_with fail
  go_at_call 15
  refine HB.out.mono ?_
  rintro e w1 ⟨hb1, hres⟩
  have hz : Ob.stF [] = (0, 0) := by unfold Ob.stF; rw [if_neg (by simp)]; exact Ob.stFrom_end [] 0 (Nat.le_refl _)
  have hp : packB [] = [80, 75, 0] ++ Ob.wide (Dg.ofL (body [])) := rfl
  have hpl : (packB []).length = 11 := by rw [hp]; simp
  rcases hres with ⟨hne, _⟩ | ⟨_, hbig, _⟩ | ⟨_, _, A, c, rfl, hc, hs⟩
  · rw [hz] at hne; exact absurd rfl hne
  · rw [hpl] at hbig; omega
  have hs2 := hs.keep (Keeps.alloc _ _ (.cells #[.int .i64 0, .int .i64 0] 28))
  obtain ⟨b, off, e, hb, _, hcells⟩ := hs2.at_ (by simp [hpl])
  subst e
  have q0 := hcells 0 (.int .u8 80) (by rw [hp]; rfl)
  have q1 := hcells 1 (.int .u8 75) (by rw [hp]; rfl)
  have q2 := hcells 2 (.int .u8 0) (by rw [hp]; rfl)
  rw [Nat.add_zero] at q0
  rw [hpl] at hc ⊢
  clear hs hs2 hcells
  go_wp2_with fail
  go_ret
  exact ⟨rfl, hb1.alloc hb1.size _⟩
end Go.Proofs.Ytiilhnfdlpgllaa
