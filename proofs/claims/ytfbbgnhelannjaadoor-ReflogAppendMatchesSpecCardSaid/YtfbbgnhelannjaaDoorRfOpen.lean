/-
  References: what came in; the row's wrap.
-/
import Derived.Test.YtfbbgnhelannjaaDoorView13
import Derived.Test.YtfbbgnhelannjaaDoorRf3
import Derived.ShutString
import Derived.Lib.SmallJoins
import Derived.Deep.DeepHandedRow
import Derived.Shelf.Vars
import Derived.Lay
import Derived.LaidLaws
namespace Go.Proofs.YtfbbgnhelannjaaDoor
open Go.RowKit Go.V Go.ChangeShapes Go.WideShapes Go.ChangeAt Go.Deep
set_option linter.unusedVariables false

theorem reach_eq : reachBytes = 140737488351232 := by simp [reachBytes]
theorem c3 : Tryd.prog.cellsOf 3 = 1 := by kernel_rfl
theorem c9 : Tryd.prog.cellsOf 9 = 1 := by kernel_rfl
theorem c24 : Tryd.prog.cellsOf 24 = 1 := by kernel_rfl
theorem c26 : Tryd.prog.cellsOf 26 = 1 := by kernel_rfl
theorem c28 : Tryd.prog.cellsOf 28 = 3 := by kernel_rfl
theorem c51 : Tryd.prog.cellsOf 51 = 2 := by kernel_rfl
theorem c69 : Tryd.prog.cellsOf 69 = 4 := by kernel_rfl
theorem str_of (s : ByteArray) : ∃ l : List UInt8, s = ⟨l.toArray⟩ := ⟨s.data.toList, by simp⟩
theorem weights_str {H : Type} {P : Program} {t : TypeId} {b : List UInt8} (hz : ∀ n ∈ (DataW.lit (.string b) : DataW H).weights P t, n ≤ reachBytes) : b.length ≤ reachBytes := hz b.length (by simp [DataW.weights])
section
variable {H : Type} {enc : TypeId × Value → H} {w : World} {base fuel : Nat} {spare : Nat → Bool} {held : Bool} {cs : List Value} {x : DataW H × List MemPlace}
theorem open_ref (h : DataW.trod enc Tryd.prog w base spare held fuel 51 cs = some x) (hz : ∀ n ∈ x.1.weights Tryd.prog 51, n ≤ reachBytes) : ∃ r : Rf.R, cs = rC r ∧ I64 r.tgt ∧ r.name.length ≤ reachBytes := by
  obtain ⟨y0, y1, n, rfl, hl, t0, t1⟩ := trod_struct2 Tryd.underlying51 h
  rw [c51] at hl
  obtain _ | ⟨c0, _ | ⟨c1, _ | ⟨_, _⟩⟩⟩ := cs <;> simp at hl
  have z0 := weights_field Tryd.underlying51 (j := 0) (y := y0.1) rfl rfl hz
  simp only [c9, c3] at t0 t1
  obtain ⟨s, e0, rfl, hs⟩ := DataW.trod_string Tryd.underlying9 t0
  obtain ⟨a1, e1, rfl, w1⟩ := DataW.trod_int Tryd.underlying3 t1
  simp at e0 e1
  obtain ⟨l, rfl⟩ := str_of s
  exact ⟨⟨l, a1⟩, by simp [rC, e0, e1], bounds_i64 w1, weights_str z0⟩
theorem open_rupd (h : DataW.trod enc Tryd.prog w base spare held fuel 28 cs = some x) (hz : ∀ n ∈ x.1.weights Tryd.prog 28, n ≤ reachBytes) : ∃ u : Rf.U, cs = uC u ∧ I64 u.old ∧ I64 u.new ∧ u.name.length ≤ reachBytes := by
  obtain ⟨y0, y1, y2, n, rfl, hl, t0, t1, t2⟩ := trod_struct3 Tryd.underlying28 h
  rw [c28] at hl
  obtain _ | ⟨c0, _ | ⟨c1, _ | ⟨c2, _ | ⟨_, _⟩⟩⟩⟩ := cs <;> simp at hl
  have z0 := weights_field Tryd.underlying28 (j := 0) (y := y0.1) rfl rfl hz
  simp only [c9, c3] at t0 t1 t2
  obtain ⟨s, e0, rfl, hs⟩ := DataW.trod_string Tryd.underlying9 t0
  obtain ⟨a1, e1, rfl, w1⟩ := DataW.trod_int Tryd.underlying3 t1
  obtain ⟨a2, e2, rfl, w2⟩ := DataW.trod_int Tryd.underlying3 t2
  simp at e0 e1 e2
  obtain ⟨l, rfl⟩ := str_of s
  exact ⟨⟨l, a1, a2⟩, by simp [uC, e0, e1, e2], bounds_i64 w1, bounds_i64 w2, weights_str z0⟩
theorem open_entry (h : DataW.trod enc Tryd.prog w base spare held fuel 69 cs = some x) (hz : ∀ n ∈ x.1.weights Tryd.prog 69, n ≤ reachBytes) : ∃ e : Rf.E, cs = eC e ∧ I64 e.time ∧ I64 e.upd.old ∧ I64 e.upd.new ∧ e.upd.name.length ≤ reachBytes := by
  obtain ⟨y0, y1, n, rfl, hl, t0, t1⟩ := trod_struct2 Tryd.underlying69 h
  rw [c69] at hl
  obtain _ | ⟨c0, _ | ⟨c1, _ | ⟨c2, _ | ⟨c3', _ | ⟨_, _⟩⟩⟩⟩⟩ := cs <;> simp at hl
  have z1 := weights_field Tryd.underlying69 (j := 1) (y := y1.1) rfl rfl hz
  simp only [c3, c28] at t0 t1
  obtain ⟨a0, e0, rfl, w0⟩ := DataW.trod_int Tryd.underlying3 t0
  obtain ⟨u, e1, h1, h2, h3⟩ := open_rupd t1 z1
  simp [uC] at e0 e1
  obtain ⟨e1, e2, e3⟩ := e1
  exact ⟨⟨a0, u⟩, by simp [eC, e0, e1, e2, e3], bounds_i64 w0, h1, h2, h3⟩
/-- Rows that are what a function makes of their elements. -/
theorem rows_flat {α : Type} {f : α → List Value} {Pr : α → Prop} : ∀ {l : List α} {vs : List Value}, RowsR (fun a cs => cs = f a ∧ Pr a) l vs → vs = l.flatMap f ∧ ∀ a ∈ l, Pr a
  | [], vs, h => by simp only [RowsR] at h; exact ⟨by simp [h], by simp⟩
  | a :: l, vs, h => by
    obtain ⟨cs, rest, rfl, ⟨rfl, hp⟩, hr⟩ := h
    obtain ⟨h1, h2⟩ := rows_flat hr
    refine ⟨by rw [h1, List.flatMap_cons], fun b hb => ?_⟩
    rcases List.mem_cons.1 hb with rfl | hb
    · exact hp
    · exact h2 b hb
theorem open_refs (h : DataW.trod enc Tryd.prog w base spare held fuel 24 cs = some x) (hz : ∀ n ∈ x.1.weights Tryd.prog 24, n ≤ reachBytes) :
    ∃ A c l, cs = [.slice A l.length c] ∧ l.length ≤ c ∧ c ≤ 9223372036854775807 ∧ l.length * 24 ≤ 140737488351232 ∧ SA w Free A (rsV l) ∧ ∀ r ∈ l, I64 r.tgt ∧ r.name.length ≤ reachBytes := by
  obtain ⟨A, c, l, vs, e, h1, h2, h3, h4, h5⟩ := open_rowsG (R := fun (r : Rf.R) cs => cs = rC r ∧ (I64 r.tgt ∧ r.name.length ≤ reachBytes)) (k := 2) Tryd.underlying24 c51 (by decide) h hz (fun cs' n y _ ht hz => open_ref ht hz)
  obtain ⟨rfl, h6⟩ := rows_flat h5
  have hb : Tryd.prog.bytesOf 51 = 24 := by kernel_rfl
  rw [hb, reach_eq] at h3
  exact ⟨A, c, l, e, h1, h2, h3, .of_sv h4, h6⟩
theorem open_rstore (h : DataW.trod enc Tryd.prog w base spare held fuel 26 cs = some x) (hz : ∀ n ∈ x.1.weights Tryd.prog 26, n ≤ reachBytes) :
    ∃ A c l, cs = [.slice A l.length c] ∧ l.length ≤ c ∧ c ≤ 9223372036854775807 ∧ l.length * 24 ≤ 140737488351232 ∧ SA w Free A (rsV l) ∧ ∀ r ∈ l, I64 r.tgt ∧ r.name.length ≤ reachBytes := by
  obtain ⟨y0, n, rfl, hl, t0⟩ := trod_struct1 Tryd.underlying26 h
  rw [c26] at hl
  obtain _ | ⟨c0, _ | ⟨_, _⟩⟩ := cs <;> simp at hl
  have z0 := weights_field Tryd.underlying26 (j := 0) (y := y0.1) rfl rfl hz
  simp only [c24] at t0
  obtain ⟨A, c, l, e, h1⟩ := open_refs t0 z0
  simp at e
  exact ⟨A, c, l, by simp [e], h1⟩
theorem open_upds (h : DataW.trod enc Tryd.prog w base spare held fuel 41 cs = some x) (hz : ∀ n ∈ x.1.weights Tryd.prog 41, n ≤ reachBytes) :
    ∃ A c l, cs = [.slice A l.length c] ∧ l.length ≤ c ∧ c ≤ 9223372036854775807 ∧ l.length * 32 ≤ 140737488351232 ∧ SA w Free A (usV l) ∧ ∀ u ∈ l, I64 u.old ∧ I64 u.new ∧ u.name.length ≤ reachBytes := by
  obtain ⟨A, c, l, vs, e, h1, h2, h3, h4, h5⟩ := open_rowsG (R := fun (r : Rf.U) cs => cs = uC r ∧ (I64 r.old ∧ I64 r.new ∧ r.name.length ≤ reachBytes)) (k := 3) Tryd.underlying41 c28 (by decide) h hz (fun cs' n y _ ht hz => open_rupd ht hz)
  obtain ⟨rfl, h6⟩ := rows_flat h5
  have hb : Tryd.prog.bytesOf 28 = 32 := by kernel_rfl
  rw [hb, reach_eq] at h3
  exact ⟨A, c, l, e, h1, h2, h3, .of_sv h4, h6⟩
theorem open_log (h : DataW.trod enc Tryd.prog w base spare held fuel 54 cs = some x) (hz : ∀ n ∈ x.1.weights Tryd.prog 54, n ≤ reachBytes) :
    ∃ A c l, cs = [.slice A l.length c] ∧ l.length ≤ c ∧ c ≤ 9223372036854775807 ∧ l.length * 40 ≤ 140737488351232 ∧ SA w Free A (esV l) ∧ ∀ e ∈ l, I64 e.time ∧ I64 e.upd.old ∧ I64 e.upd.new ∧ e.upd.name.length ≤ reachBytes := by
  obtain ⟨A, c, l, vs, e, h1, h2, h3, h4, h5⟩ := open_rowsG (R := fun (r : Rf.E) cs => cs = eC r ∧ (I64 r.time ∧ I64 r.upd.old ∧ I64 r.upd.new ∧ r.upd.name.length ≤ reachBytes)) (k := 4) Tryd.underlying54 c69 (by decide) h hz (fun cs' n y _ ht hz => open_entry ht hz)
  obtain ⟨rfl, h6⟩ := rows_flat h5
  have hb : Tryd.prog.bytesOf 69 = 40 := by kernel_rfl
  rw [hb, reach_eq] at h3
  exact ⟨A, c, l, e, h1, h2, h3, .of_sv h4, h6⟩
end
/-- What the world's shape says of the library's own variable. -/
theorem mx_of {W : World} (h : W.ShapedOpen Tryd.prog) : Mx W :=
  cell_of_shapedOpen_int (zero := #[.int .i64 0]) (t := 3) h (of_decide_eq_true (by kernel_rfl)) (by kernel_rfl) rfl (by kernel_rfl) (by kernel_rfl) Tryd.underlying3
/-- There is an input that fits: a world in which the listed variables are laid. -/
theorem witness_laid {H : Type} {enc : TypeId × Value → H} {C : Checked} {os : Os} {f : FuncId} {fn : Func} {s : OpenSpec} {conds : List PathCond} {apart : Bool} {laid : List (String × DataW Unit)} (w0 : World) (args : Array Value) (hos : w0.os = os)
    (hsh : (w0.forCall (fun _ _ => 0) ⟨#[], args, []⟩).Shaped C.prog)
    (hok : Input.okWideB C.prog (w0.forCall (fun _ _ => 0) ⟨#[], args, []⟩) f ⟨#[], args, []⟩ = true)
    (hrow : s.preRow enc C.prog fn conds apart laid (w0.forCall (fun _ _ => 0) ⟨#[], args, []⟩).memory args) :
    ∃ (w : World) (tape : Tape) (i : Input), w.os = os ∧ (w.forCall tape i).Shaped C.prog ∧ i.vars = [] ∧ Input.okWide C.prog (w.forCall tape i) .any w.heap.size f i ∧
      s.preRow enc C.prog fn conds apart laid (w.forCall tape i).memory i.args ∧ ({} : Assume).holds C.prog (lone (Frame.enter C.prog f i.args .normal) [] (w.forCall tape i)) :=
  ⟨w0, fun _ _ => 0, ⟨#[], args, []⟩, hos, hsh, (Input.okWide_of_okWideB (base := 0) hok).1, (Input.okWide_of_okWideB hok).2, hrow, by
    simp only [Assume.holds]
    exact ⟨by simp, by simp, fun _ => Modest.zero, by simp, by simp⟩⟩
end Go.Proofs.YtfbbgnhelannjaaDoor
