/-
  Delta chains: slices of byte strings and of entries that came in.
-/
import Derived.Test.YtiphcpibhffdjaaView10
import Derived.Test.YtiphcpibhffdjaaChV
import Derived.Test.YtiphcpibhffdjaaLaw3
namespace Go.Proofs.Ytiphcpibhffdjaa
open Go.RowKit Go.V Go.ChangeShapes Go.WideShapes Go.ChangeAt Go.Deep
set_option linter.unusedVariables false

theorem reach_eq : reachBytes = 140737488351232 := by simp [reachBytes]
theorem open_vs {H : Type} {enc : TypeId × Value → H} {w : World} {base fuel : Nat} {spare : Nat → Bool} {held : Bool} {cs : List Value} {x : DataW H × List MemPlace} (h : DataW.trod enc Try.prog w base spare held fuel 39 cs = some x)
    (hz : ∀ n ∈ x.1.weights Try.prog 39, n ≤ reachBytes) :
    ∃ A c l, cs = [.slice A l.length c] ∧ l.length ≤ c ∧ c ≤ maxLen ∧ VsV w Free A l := by
  obtain ⟨A, c, l, vs, e, h1, h2, _, h3, h4⟩ := open_rows1 (R := BsR w Free) Try.underlying39 (by kernel_rfl) h hz (by
    intro v n y ht hzy
    obtain ⟨A, cc, l, e0, hlc, hcm, hsv⟩ := open_bytes Try.underlying22 Try.underlying5 (by kernel_rfl) ht
    simp at e0
    subst e0
    have hb := bytes_len Try.underlying22 Try.underlying5 (by kernel_rfl) (by kernel_rfl) ht hzy
    rw [reach_eq] at hb
    exact ⟨l, A, cc, rfl, hlc, hb, .of_sv hsv⟩)
  exact ⟨A, c, l, e, h1, h2, vs, .of_sv h3, h4⟩
theorem open_chain {H : Type} {enc : TypeId × Value → H} {w : World} {base fuel : Nat} {spare : Nat → Bool} {held : Bool} {cs : List Value} {x : DataW H × List MemPlace} (h : DataW.trod enc Try.prog w base spare held fuel 40 cs = some x)
    (hz : ∀ n ∈ x.1.weights Try.prog 40, n ≤ reachBytes) :
    ∃ A c l, cs = [.slice A l.length c] ∧ l.length ≤ c ∧ c ≤ maxLen ∧ ChV w Free A l := by
  have hb37 : Try.prog.bytesOf 37 = 40 := by kernel_rfl
  obtain ⟨A, c, l, vs, e, h1, h2, _, h3, h4⟩ := open_rows (R := EnR w Free) Try.underlying40 Try.underlying45 (by kernel_rfl) (by kernel_rfl) (by decide) h hz (by
    intro c ys n hyl hf
    obtain ⟨y0, _, t0, _⟩ := hf 0 _ rfl
    obtain ⟨y1, _, t1, z1⟩ := hf 1 _ rfl
    obtain ⟨y2, _, t2, z2⟩ := hf 2 _ rfl
    obtain ⟨a0, e0, rfl, w0⟩ := DataW.trod_int Try.underlying3 t0
    obtain ⟨A1, k1, l1, e1, hlc1, hcm1, hsv1⟩ := open_bytes Try.underlying22 Try.underlying5 (by kernel_rfl) t1
    simp at e1
    rw [e1] at t1
    have hb1 := bytes_len Try.underlying22 Try.underlying5 (by kernel_rfl) (by kernel_rfl) t1 z1
    rw [reach_eq] at hb1
    obtain ⟨A2, k2, l2, us, e2, hlc2, hcm2, hb2, hsv2, hr2⟩ := open_ops t2 z2
    rw [hb37, reach_eq] at hb2
    simp at e0 e2
    refine ⟨⟨a0, l1, l2⟩, A1, k1, A2, k2, us, ?_, bounds_i64 w0, hlc1, hb1, hlc2, by simp only; omega, .of_sv hsv1, .of_sv hsv2, hr2.mono fun o cs hh => OpA.of_R o cs hh⟩
    simp [List.range_succ, e0, e1, e2])
  exact ⟨A, c, l, e, h1, h2, vs, .of_sv h3, h4⟩
end Go.Proofs.Ytiphcpibhffdjaa
