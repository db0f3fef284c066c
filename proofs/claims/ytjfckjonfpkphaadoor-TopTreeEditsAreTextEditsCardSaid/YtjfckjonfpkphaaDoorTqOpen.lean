/-
  Trees and patches that came in; the row's wrap.
-/
import Derived.Test.YtjfckjonfpkphaaDoorView13
import Derived.Test.YtjfckjonfpkphaaDoorTq14
import Derived.ShutString
import Derived.Lib.SmallJoins
import Derived.Deep.DeepHandedRow
import Derived.Shelf.Vars
import Derived.Lay
import Derived.LaidLaws
namespace Go.Proofs.YtjfckjonfpkphaaDoor
open Go.RowKit Go.V Go.ChangeShapes Go.WideShapes Go.ChangeAt Go.Deep
set_option linter.unusedVariables false

theorem reach_eq : reachBytes = 140737488351232 := by simp [reachBytes]
theorem c3 : Tryd.prog.cellsOf 3 = 1 := by kernel_rfl
theorem c9 : Tryd.prog.cellsOf 9 = 1 := by kernel_rfl
theorem c22 : Tryd.prog.cellsOf 22 = 1 := by kernel_rfl
theorem c24 : Tryd.prog.cellsOf 24 = 1 := by kernel_rfl
theorem c25 : Tryd.prog.cellsOf 25 = 1 := by kernel_rfl
theorem c27 : Tryd.prog.cellsOf 27 = 1 := by kernel_rfl
theorem c32 : Tryd.prog.cellsOf 32 = 1 := by kernel_rfl
theorem c36 : Tryd.prog.cellsOf 36 = 2 := by kernel_rfl
theorem c49 : Tryd.prog.cellsOf 49 = 3 := by kernel_rfl
theorem str_of (s : ByteArray) : ∃ l : List UInt8, s = ⟨l.toArray⟩ := ⟨s.data.toList, by simp⟩
theorem weights_str {H : Type} {P : Program} {t : TypeId} {b : List UInt8} (hz : ∀ n ∈ (DataW.lit (.string b) : DataW H).weights P t, n ≤ reachBytes) : b.length ≤ reachBytes := hz b.length (by simp [DataW.weights])
section
variable {H : Type} {enc : TypeId × Value → H} {w : World} {base fuel : Nat} {spare : Nat → Bool} {held : Bool} {cs : List Value} {x : DataW H × List MemPlace}
/-- Rows that are what a function makes of their elements. -/
theorem rows_flat {α : Type} {f : α → List Value} {Pr : α → Prop} : ∀ {l : List α} {vs : List Value}, RowsR (fun a cs => cs = f a ∧ Pr a) l vs → vs = l.flatMap f ∧ ∀ a ∈ l, Pr a
  | [], vs, h => by simp only [RowsR] at h; exact ⟨by simp [h], by simp⟩
  | a :: l, vs, h => by
    obtain ⟨cs, rest, rfl, ⟨rfl, hp⟩, hr⟩ := h
    obtain ⟨h1, h2⟩ := rows_flat hr
    refine ⟨by rw [h1, List.flatMap_cons], fun b hb => ?_⟩
    rcases List.mem_cons.1 hb with rfl | hb
    · exact hp
    · exact h2 b hb
/-- What is known of a file's strings besides their cells. -/
def FlW (f : Tr.F) : Prop := f.path.length ≤ 140737488351232 ∧ f.lines.length ≤ 8796093022208 ∧ ∀ s ∈ f.lines, s.length ≤ 140737488351232
theorem open_strings (h : DataW.trod enc Tryd.prog w base spare held fuel 32 cs = some x) (hz : ∀ n ∈ x.1.weights Tryd.prog 32, n ≤ reachBytes) :
    ∃ A c l, cs = [.slice A l.length c] ∧ l.length * 16 ≤ 140737488351232 ∧ LnA w Free l A c ∧ ∀ s ∈ l, s.length ≤ 140737488351232 := by
  obtain ⟨A, c, l, vs, e, h1, h2, h3, h4, h5⟩ := open_rowsG (R := fun (s : List UInt8) cs => cs = sC s ∧ s.length ≤ reachBytes) (k := 1) Tryd.underlying32 c9 (by decide) h hz (fun cs' n y _ ht hz => by
    obtain ⟨s, e0, e1, hs⟩ := DataW.trod_string Tryd.underlying9 ht
    obtain ⟨l, rfl⟩ := str_of s
    rw [e1] at hz
    exact ⟨l, e0, by simpa using weights_str hz⟩)
  obtain ⟨rfl, h6⟩ := rows_flat h5
  have hb : Tryd.prog.bytesOf 9 = 16 := by kernel_rfl
  rw [hb, reach_eq] at h3
  exact ⟨A, c, l, e, h3, ⟨h1, by omega, .of_sv h4⟩, h6⟩
theorem open_file (h : DataW.trod enc Tryd.prog w base spare held fuel 36 cs = some x) (hz : ∀ n ∈ x.1.weights Tryd.prog 36, n ≤ reachBytes) : ∃ f, FlR w Free f cs ∧ FlW f := by
  obtain ⟨y0, y1, n, rfl, hl, t0, t1⟩ := trod_struct2 Tryd.underlying36 h
  rw [c36] at hl
  obtain _ | ⟨c0, _ | ⟨c1, _ | ⟨_, _⟩⟩⟩ := cs <;> simp at hl
  have z0 := weights_field Tryd.underlying36 (j := 0) (y := y0.1) rfl rfl hz
  have z1 := weights_field Tryd.underlying36 (j := 1) (y := y1.1) rfl rfl hz
  simp only [c9, c32] at t0 t1
  obtain ⟨s, e0, e1, hs⟩ := DataW.trod_string Tryd.underlying9 t0
  rw [e1] at z0
  obtain ⟨A, k, l, e2, h1, h2, h3⟩ := open_strings t1 z1
  obtain ⟨p, rfl⟩ := str_of s
  simp at e0 e2
  subst e0 e2
  exact ⟨⟨p, l⟩, ⟨A, k, rfl, h2⟩, (by have h9 := weights_str z0; rw [reach_eq] at h9; simpa using h9), by show l.length ≤ _; omega, h3⟩
theorem rows_and {α : Type} {R : α → List Value → Prop} {Pr : α → Prop} : ∀ {l : List α} {vs : List Value}, RowsR (fun a cs => R a cs ∧ Pr a) l vs → RowsR R l vs ∧ ∀ a ∈ l, Pr a
  | [], vs, h => ⟨h, by simp⟩
  | a :: l, vs, h => by
    obtain ⟨cs, rest, rfl, ⟨h0, hp⟩, hr⟩ := h
    obtain ⟨h1, h2⟩ := rows_and hr
    refine ⟨⟨cs, rest, rfl, h0, h1⟩, fun b hb => ?_⟩
    rcases List.mem_cons.1 hb with rfl | hb
    · exact hp
    · exact h2 b hb
theorem open_tree (h : DataW.trod enc Tryd.prog w base spare held fuel 24 cs = some x) (hz : ∀ n ∈ x.1.weights Tryd.prog 24, n ≤ reachBytes) :
    ∃ A c l, cs = [.slice A l.length c] ∧ l.length ≤ c ∧ c ≤ 9223372036854775807 ∧ l.length * 40 ≤ 140737488351232 ∧ VfV w Free A l ∧ ∀ f ∈ l, FlW f := by
  obtain ⟨y0, n, rfl, hl, t0⟩ := trod_struct1 Tryd.underlying24 h
  have hb : Tryd.prog.bytesOf 36 = 40 := by kernel_rfl
  rw [c24] at hl
  obtain _ | ⟨c0, _ | ⟨_, _⟩⟩ := cs <;> simp at hl
  have z0 := weights_field Tryd.underlying24 (j := 0) (y := y0.1) rfl rfl hz
  simp only [c22] at t0
  obtain ⟨A, c, l, vs, e, h1, h2, h3, h4, h5⟩ := open_rowsG (R := fun f cs => FlR w Free f cs ∧ FlW f) (k := 2) Tryd.underlying22 c36 (by decide) t0 z0 (fun cs' n y _ ht hz => open_file ht hz)
  obtain ⟨h6, h7⟩ := rows_and h5
  rw [hb, reach_eq] at h3
  simp at e
  subst e
  unfold maxLen at h2
  exact ⟨A, c, l, rfl, h1, h2, h3, ⟨vs, .of_sv h4, h6⟩, h7⟩
theorem open_hunk (h : DataW.trod enc Tryd.prog w base spare held fuel 49 cs = some x) (hz : ∀ n ∈ x.1.weights Tryd.prog 49, n ≤ reachBytes) : ∃ f, HkR w Free f cs := by
  obtain ⟨y0, y1, y2, n, rfl, hl, t0, t1, t2⟩ := trod_struct3 Tryd.underlying49 h
  rw [c49] at hl
  obtain _ | ⟨c0, _ | ⟨c1, _ | ⟨c2, _ | ⟨_, _⟩⟩⟩⟩ := cs <;> simp at hl
  have z1 := weights_field Tryd.underlying49 (j := 1) (y := y1.1) rfl rfl hz
  have z2 := weights_field Tryd.underlying49 (j := 2) (y := y2.1) rfl rfl hz
  simp only [c3, c32] at t0 t1 t2
  obtain ⟨a0, e0, rfl, w0⟩ := DataW.trod_int Tryd.underlying3 t0
  obtain ⟨A1, k1, l1, e1, h1, h2, h3⟩ := open_strings t1 z1
  obtain ⟨A2, k2, l2, e2, g1, g2, g3⟩ := open_strings t2 z2
  simp at e0 e1 e2
  subst e0 e1 e2
  exact ⟨⟨a0, l1, l2⟩, A1, k1, A2, k2, rfl, bounds_i64 w0, h2, g2⟩
theorem open_patch (h : DataW.trod enc Tryd.prog w base spare held fuel 27 cs = some x) (hz : ∀ n ∈ x.1.weights Tryd.prog 27, n ≤ reachBytes) :
    ∃ A c l, cs = [.slice A l.length c] ∧ l.length ≤ c ∧ c ≤ 9223372036854775807 ∧ l.length * 56 ≤ 140737488351232 ∧ HvV w Free A l ∧ True := by
  obtain ⟨y0, n, rfl, hl, t0⟩ := trod_struct1 Tryd.underlying27 h
  have hb : Tryd.prog.bytesOf 49 = 56 := by kernel_rfl
  rw [c27] at hl
  obtain _ | ⟨c0, _ | ⟨_, _⟩⟩ := cs <;> simp at hl
  have z0 := weights_field Tryd.underlying27 (j := 0) (y := y0.1) rfl rfl hz
  simp only [c25] at t0
  obtain ⟨A, c, l, vs, e, h1, h2, h3, h4, h5⟩ := open_rowsG (R := HkR w Free) (k := 3) Tryd.underlying25 c49 (by decide) t0 z0 (fun cs' n y _ ht hz => open_hunk ht hz)
  rw [hb, reach_eq] at h3
  simp at e
  subst e
  unfold maxLen at h2
  exact ⟨A, c, l, rfl, h1, h2, h3, ⟨vs, .of_sv h4, h5⟩, trivial⟩
end
/-- What the world's shape says of the library's own variable. -/
theorem mx_of {W : World} (h : W.ShapedOpen Tryd.prog) : Mx W :=
  cell_of_shapedOpen_int (zero := #[.int .i64 0]) (t := 3) h (of_decide_eq_true (by kernel_rfl)) (by kernel_rfl) rfl (by kernel_rfl) (by kernel_rfl) Tryd.underlying3
/-- There is an input that fits: a world in which the listed variables are laid. -/
theorem witness_laid {H : Type} {enc : TypeId × Value → H} {C : Checked} {os : Os} {f : FuncId} {fn : Func} {s : OpenSpec} {conds : List PathCond} {apart : Bool} {laid : List (String × DataW Unit)} (w0 : World) (args : Array Value) (hos : w0.os = os)
    (hsh : (w0.forCall (fun _ _ => 0) ⟨#[], args, []⟩).Shaped C.prog)
    (hok : Input.okWideB C.prog (w0.forCall (fun _ _ => 0) ⟨#[], args, []⟩) f ⟨#[], args, []⟩ = true)
    (hrow : s.preRow enc C.prog fn conds apart laid (w0.forCall (fun _ _ => 0) ⟨#[], args, []⟩).memory args) :
    ∃ (w : World) (tape : Tape) (i : Input), w.os = os ∧ (w.forCall tape i).Shaped C.prog ∧ i.vars = [] ∧ Input.okWide C.prog (w.forCall tape i) .any w.heap.size f i ∧
      s.preRow enc C.prog fn conds apart laid (w.forCall tape i).memory i.args ∧ ({} : Assume).holds C.prog (lone (Frame.enter C.prog f i.args .normal) [] (w.forCall tape i)) :=
  ⟨w0, fun _ _ => 0, ⟨#[], args, []⟩, hos, hsh, (Input.okWide_of_okWideB (base := 0) hok).1, (Input.okWide_of_okWideB hok).2, hrow, by
    simp only [Assume.holds]
    exact ⟨by simp, by simp, fun _ => Modest.zero, by simp, by simp⟩⟩
end Go.Proofs.YtjfckjonfpkphaaDoor
