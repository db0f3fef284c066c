/-
  DeltachainApplyMatchesSpec: the walk, and opening a delta.
-/
import Derived.Test.YtiphcpibhffdjaaLaw1
import Derived.Test.YtiphcpibhffdjaaWalk5
import Derived.Test.YtiphcpibhffdjaaView4
namespace Go.Proofs.Ytiphcpibhffdjaa
open Go.RowKit Go.V Go.ChangeShapes Go.WideShapes Go.ChangeAt
set_option linter.unusedVariables false

section
variable (w : World) (A1 A2 : Option Addr) (c1 c2 : Nat) (base : List UInt8) (ops : List Dc.Op) (vs : List Value)

theorem ops_alloc {w : World} {ops : List Dc.Op} {vs : List Value} (h : RowsR (OpR w w.heap.size) ops vs) (o : Obj) : RowsR (OpR (w.alloc o) (w.alloc o).heap.size) ops vs :=
  h.mono fun x cs hh => OpR.keep (w := w) (B := w.heap.size) (w' := w.alloc o) (B' := (w.alloc o).heap.size) (fun p hp => World.cell?_alloc_lt w o p hp) (by simp) x cs hh
theorem ops_below {w w' : World} {ops : List Dc.Op} {vs : List Value} (h : RowsR (OpR w w.heap.size) ops vs) (hb : Below w.heap.size w w') : RowsR (OpR w' w'.heap.size) ops vs :=
  h.mono fun x cs hh => OpR.keep (w := w) (B := w.heap.size) (w' := w') (B' := w'.heap.size) (fun p hp => hb.cell hp) hb.size x cs hh

set_option maxRecDepth 100000 in
set_option maxHeartbeats 4000000 in
theorem applyLaw_any (h1 : SV w w.heap.size A1 (bytesV base)) (hc1 : base.length ≤ c1) (hr : RowsR (OpR w w.heap.size) ops vs) (h2 : SV w w.heap.size A2 vs)
    (hb : base.length ≤ 9223372036854775807) (ho : ops.length ≤ 9223372036854775807) :
    Calls Try.prog 4 #[.slice A1 base.length c1, .slice A2 ops.length c2] w fun e w' => e = .returned (.bool true) ∧ Below w.heap.size w w' := by
  go_enter Try.func4, Try.ntmps4
  go_wp2_with fail
  refine (example_any _).mono ?_
  rintro e w1 ⟨rfl, hbel1⟩
  have hsz1 := hbel1.size
  go_wp2_with fail
  refine (apply_any _ A1 A2 c1 c2 base ops vs ((h1.below hbel1 (Nat.le_refl _)).more hsz1) hc1 (ops_below hr hbel1) ((h2.below hbel1 (Nat.le_refl _)).more hsz1) hb ho).mono ?_
  rintro e w2 ⟨v, rfl, hown, hbel2⟩
  have hbel12 := hbel1.trans (hbel2.mono hsz1)
  have hsz2 := hbel12.size
  have hbelA : Below w.heap.size w (w2.alloc (.cells #[.int .i64 (Dc.apply base ops).2.1, .int .i64 (Dc.apply base ops).2.2] 26)) := hbel12.alloc hsz2 _
  have hszA := hbelA.size
  have hcall := applyDelta_any (w2.alloc (.cells #[.int .i64 (Dc.apply base ops).2.1, .int .i64 (Dc.apply base ops).2.2] 26)) A1 A2 c1 c2 base ops vs ((h1.below hbelA (Nat.le_refl _)).more hszA) hc1 (ops_below hr hbelA) ((h2.below hbelA (Nat.le_refl _)).more hszA) hb ho
  generalize Dc.apply base ops = r at *
  obtain ⟨out, cd, ix⟩ := r
  have HC := Lib.hid hcall
  clear hcall
  go_wp2_with fail
  refine HC.out.mono ?_
  rintro e w3 ⟨v', rfl, hown', hbel3⟩
  clear HC
  have hblk : Blk w3 w2.heap.size 26 #[.int .i64 cd, .int .i64 ix] := (Blk.new w2 26 _).below hbel3 (by simp)
  have q0 := hblk.cell 0
  have q1 := hblk.cell 1
  simp only [List.getElem?_toArray, List.getElem?_cons_zero, List.getElem?_cons_succ] at q0 q1
  have hlt := hblk.lt
  obtain ⟨A3, c3, rfl, _, _⟩ := own_form hown
  obtain ⟨A4, c4, rfl, _, _⟩ := own_form hown'
  have hbel23 : Below w2.heap.size w2 w3 := ((Below.refl w2.heap.size w2).alloc (Nat.le_refl _) _).trans (hbel3.mono (by simp))
  have hbel13 := hbelA.trans (hbel3.mono hszA)
  have s1 := ((SV.of_own hown).below hbel23 (Nat.le_refl _)).alloc hbel23.size (.cells #[.int .i64 cd, .int .i64 ix] 26)
  have s2 := (SV.of_own hown').alloc (Nat.le_refl _) (.cells #[.int .i64 cd, .int .i64 ix] 26)
  have e1 : (convert 22 9 (.slice A3 out.length c3)).run Try.prog (w3.alloc (.cells #[.int .i64 cd, .int .i64 ix] 26)) = .ok (.string ⟨out.toArray⟩) (w3.alloc (.cells #[.int .i64 cd, .int .i64 ix] 26)) := run_conv_str (P := Try.prog) 22 9 5 c3 Try.underlying22 Try.underlying5 Try.underlying9 s1
  have e2 : (convert 22 9 (.slice A4 out.length c4)).run Try.prog (w3.alloc (.cells #[.int .i64 cd, .int .i64 ix] 26)) = .ok (.string ⟨out.toArray⟩) (w3.alloc (.cells #[.int .i64 cd, .int .i64 ix] 26)) := run_conv_str (P := Try.prog) 22 9 5 c4 Try.underlying22 Try.underlying5 Try.underlying9 s2
  clear hown hown' s1 s2
  go_wp2_with fail
  go_ret
  exact ⟨rfl, hbel13.alloc hbel13.size _⟩
end

/-- A delta that came in. -/
theorem open_ops {H : Type} {enc : TypeId × Value → H} {w : World} {base fuel : Nat} {spare : Nat → Bool} {held : Bool} {cs : List Value} {x : DataW H × List MemPlace} (h : DataW.trod enc Try.prog w base spare held fuel 24 cs = some x)
    (hz : ∀ n ∈ x.1.weights Try.prog 24, n ≤ reachBytes) :
    ∃ A c l vs, cs = [.slice A l.length c] ∧ l.length ≤ c ∧ c ≤ maxLen ∧ l.length * Try.prog.bytesOf 37 ≤ reachBytes ∧ SV w w.heap.size A vs ∧ RowsR (OpR w w.heap.size) l vs := by
  refine open_rows Try.underlying24 Try.underlying37 (by kernel_rfl) (by kernel_rfl) (by decide) h hz ?_
  intro c ys n hyl hf
  obtain ⟨y0, _, t0, _⟩ := hf 0 _ rfl
  obtain ⟨y1, _, t1, _⟩ := hf 1 _ rfl
  obtain ⟨y2, _, t2, z2⟩ := hf 2 _ rfl
  obtain ⟨a0, e0, rfl, w0⟩ := DataW.trod_int Try.underlying3 t0
  obtain ⟨a1, e1, rfl, w1⟩ := DataW.trod_int Try.underlying3 t1
  obtain ⟨A, cc, l, e2, hlc, _, hsv⟩ := open_bytes Try.underlying22 Try.underlying5 (by kernel_rfl) t2
  simp at e0 e1 e2
  rw [e2] at t2
  have hlen := bytes_len Try.underlying22 Try.underlying5 (by kernel_rfl) (by kernel_rfl) t2 z2
  refine ⟨⟨a0, a1, l⟩, A, cc, ?_, hlc, by simpa [reachBytes] using hlen, bounds_i64 w0, bounds_i64 w1, hsv⟩
  simp [List.range_succ, e0, e1, e2]
end Go.Proofs.Ytiphcpibhffdjaa
