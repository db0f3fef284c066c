/-
  Stores and objects that came in.
-/
import Derived.Test.YtiilhnfdlpgllaaView13
import Derived.Test.YtiilhnfdlpgllaaPkV
import Derived.ShutString
import Derived.Lib.SmallJoins
namespace Go.Proofs.Ytiilhnfdlpgllaa
open Go.RowKit Go.V Go.ChangeShapes Go.WideShapes Go.ChangeAt Go.Deep
set_option linter.unusedVariables false

theorem reach_eq : reachBytes = 140737488351232 := by simp [reachBytes]
section
variable {H : Type} {enc : TypeId × Value → H} {w : World} {base fuel : Nat} {spare : Nat → Bool} {held : Bool} {cs : List Value} {x : DataW H × List MemPlace}
theorem open_object (h : DataW.trod enc Try.prog w base spare held fuel 44 cs = some x) (hz : ∀ n ∈ x.1.weights Try.prog 44, n ≤ reachBytes) :
    ∃ o Al kl Ad kd, cs = [.int .i64 o.kind, .slice Al o.links.length kl, .slice Ad o.data.length kd] ∧ ObA w Free o Al kl Ad kd := by
  obtain ⟨y0, y1, y2, n, rfl, hl, t0, t1, t2⟩ := trod_struct3 Try.underlying44 h
  have hc : Try.prog.cellsOf 44 = 3 := by kernel_rfl
  have hc3 : Try.prog.cellsOf 3 = 1 := by kernel_rfl
  have hc42 : Try.prog.cellsOf 42 = 1 := by kernel_rfl
  have hc26 : Try.prog.cellsOf 26 = 1 := by kernel_rfl
  have hb3 : Try.prog.bytesOf 3 = 8 := by kernel_rfl
  rw [hc] at hl
  obtain _ | ⟨c0, _ | ⟨c1, _ | ⟨c2, _ | ⟨_, _⟩⟩⟩⟩ := cs <;> simp at hl
  have z1 := weights_field Try.underlying44 (j := 1) (y := y1.1) rfl rfl hz
  have z2 := weights_field Try.underlying44 (j := 2) (y := y2.1) rfl rfl hz
  simp only [hc3, hc42, hc26] at t0 t1 t2
  obtain ⟨a0, e0, rfl, w0⟩ := DataW.trod_int Try.underlying3 t0
  obtain ⟨A1, k1, l1, e1, hlc1, hcm1, hsv1, hw1⟩ := open_intl Try.underlying42 Try.underlying3 (by kernel_rfl) t1
  obtain ⟨A2, k2, l2, e2, hlc2, hcm2, hsv2⟩ := open_bytes Try.underlying26 Try.underlying5 (by kernel_rfl) t2
  simp at e0 e1 e2
  subst e1 e2
  have hln := ints_len Try.underlying42 Try.underlying3 (by kernel_rfl) (by kernel_rfl) t1 z1
  rw [reach_eq] at hln
  have hb1 := bytes_len Try.underlying26 Try.underlying5 (by kernel_rfl) (by kernel_rfl) t2 z2
  rw [reach_eq] at hb1
  refine ⟨⟨a0, l1, l2⟩, A1, k1, A2, k2, by simp [e0], bounds_i64 w0, ?_, hlc1, hlc2, ?_, hb1, .of_sv hsv1, .of_sv hsv2⟩
  · exact hw1
  · simp only; omega
theorem open_stored (h : DataW.trod enc Try.prog w base spare held fuel 46 cs = some x) (hz : ∀ n ∈ x.1.weights Try.prog 46, n ≤ reachBytes) : ∃ s, StR w Free s cs := by
  obtain ⟨y0, y1, n, rfl, hl, t0, t1⟩ := trod_struct2 Try.underlying46 h
  have hc : Try.prog.cellsOf 46 = 4 := by kernel_rfl
  have hc3 : Try.prog.cellsOf 3 = 1 := by kernel_rfl
  have hc44 : Try.prog.cellsOf 44 = 3 := by kernel_rfl
  rw [hc] at hl
  obtain _ | ⟨c0, _ | ⟨c1, _ | ⟨c2, _ | ⟨c3, _ | ⟨_, _⟩⟩⟩⟩⟩ := cs <;> simp at hl
  have z1 := weights_field Try.underlying46 (j := 1) (y := y1.1) rfl rfl hz
  simp only [hc3, hc44] at t0 t1
  obtain ⟨a0, e0, rfl, w0⟩ := DataW.trod_int Try.underlying3 t0
  obtain ⟨o, Al, kl, Ad, kd, e1, ho⟩ := open_object t1 z1
  simp at e0 e1
  obtain ⟨e1, e2, e3⟩ := e1
  subst e0 e1 e2 e3
  exact ⟨⟨a0, o⟩, Al, kl, Ad, kd, rfl, bounds_i64 w0, ho⟩
theorem open_store (h : DataW.trod enc Try.prog w base spare held fuel 24 cs = some x) (hz : ∀ n ∈ x.1.weights Try.prog 24, n ≤ reachBytes) :
    ∃ A c l, cs = [.slice A l.length c] ∧ l.length ≤ c ∧ c ≤ 9223372036854775807 ∧ l.length ≤ 140737488351232 ∧ StV w Free A l := by
  obtain ⟨y0, n, rfl, hl, t0⟩ := trod_struct1 Try.underlying24 h
  have hc : Try.prog.cellsOf 24 = 1 := by kernel_rfl
  have hc22 : Try.prog.cellsOf 22 = 1 := by kernel_rfl
  have hb : Try.prog.bytesOf 46 = 64 := by kernel_rfl
  rw [hc] at hl
  obtain _ | ⟨c0, _ | ⟨_, _⟩⟩ := cs <;> simp at hl
  have z0 := weights_field Try.underlying24 (j := 0) (y := y0.1) rfl rfl hz
  simp only [hc22] at t0
  obtain ⟨A, c, l, vs, e, h1, h2, h3, h4, h5⟩ := open_rowsG (R := StR w Free) (k := 4) Try.underlying22 (by kernel_rfl) (by decide) t0 z0 (fun cs' n y _ ht hz => open_stored ht hz)
  rw [hb, reach_eq] at h3
  simp at e
  subst e
  unfold maxLen at h2
  exact ⟨A, c, l, rfl, h1, h2, by omega, vs, .of_sv h4, h5⟩
end
end Go.Proofs.Ytiilhnfdlpgllaa
