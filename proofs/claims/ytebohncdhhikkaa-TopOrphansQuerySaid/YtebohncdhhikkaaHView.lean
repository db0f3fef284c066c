/-
  Histories: what a slice of commits reads as; small words for the contracts.
-/
import Derived.Test.YtebohncdhhikkaaChecked
import Derived.Test.YtebohncdhhikkaaPure
import Derived.Test.YtebohncdhhikkaaView5
import Derived.WalkKit
import Derived.WalkLawsBesides
import Derived.WalkSpells
import Derived.Deep.QuietTactic
import Derived.BigQuiet
import Derived.Deep.RegionLaw
import Derived.Deep.RegionHeld3
import Derived.Lib.Hide
import Derived.KernelRfl
namespace Go.Proofs.Ytebohncdhhikkaa
open Go.RowKit Go.V
set_option linter.unusedVariables false

/-- What the reach says of one commit. -/
structure CoOk (c : Hs.Cm) : Prop where
  par : c.par.length ≤ 9223372036854775807
  msg : c.msg.size ≤ 9223372036854775807
  pars : ∀ (i : Nat) (h : i < c.par.length), I64 c.par[i]
  au : I64 c.au
  tm : I64 c.tm
  tr : I64 c.tr
/-- One commit as five cells. -/
def CoR (w : World) (B : Nat) (c : Hs.Cm) (cs : List Value) : Prop :=
  ∃ A k, cs = [.slice A c.par.length k, .int .i64 c.au, .int .i64 c.tm, .int .i64 c.tr, .string c.msg] ∧ CoOk c ∧ SV w B A (intsV c.par)
theorem CoR.len {w : World} {B : Nat} (c : Hs.Cm) (cs : List Value) (h : CoR w B c cs) : cs.length = 5 := by obtain ⟨A, k, rfl, _⟩ := h; rfl
theorem CoR.keep {w w' : World} {B B' : Nat} (hk : ∀ p : Addr, p.block < B → w'.cell? p = w.cell? p) (hB : B ≤ B') (c : Hs.Cm) (cs : List Value) (h : CoR w B c cs) : CoR w' B' c cs := by
  obtain ⟨A, k, e, h1, h2⟩ := h
  exact ⟨A, k, e, h1, (h2.keep hk).more hB⟩
/-- The slice at A holds the commits l. -/
def CV (w : World) (A : Option Addr) (l : List Hs.Cm) : Prop := ∃ vs, SV w w.heap.size A vs ∧ RowsR (CoR w w.heap.size) l vs
/-- The slice at A holds the numbers l. -/
def IV (w : World) (A : Option Addr) (l : List Int) : Prop := SV w w.heap.size A (intsV l)
def BV (w : World) (A : Option Addr) (l : List Bool) : Prop := SV w w.heap.size A (boolsV l)
section
variable {w w' : World} {A : Option Addr}
theorem CV.below {l : List Hs.Cm} (h : CV w A l) (hb : Below w.heap.size w w') : CV w' A l := by
  obtain ⟨vs, h1, h2⟩ := h
  exact ⟨vs, (h1.below hb (Nat.le_refl _)).more hb.size, h2.mono fun c cs hh => CoR.keep (fun p hp => hb.cell hp) hb.size c cs hh⟩
theorem IV.below {l : List Int} (h : IV w A l) (hb : Below w.heap.size w w') : IV w' A l := (SV.below h hb (Nat.le_refl _)).more hb.size
theorem BV.below {l : List Bool} (h : BV w A l) (hb : Below w.heap.size w w') : BV w' A l := (SV.below h hb (Nat.le_refl _)).more hb.size
theorem below_alloc1 (w : World) (o : Obj) : Below w.heap.size w (w.alloc o) := (Below.refl _ _).alloc (Nat.le_refl _) _
theorem CV.alloc {l : List Hs.Cm} (h : CV w A l) (o : Obj) : CV (w.alloc o) A l := h.below (below_alloc1 w o)
theorem IV.alloc {l : List Int} (h : IV w A l) (o : Obj) : IV (w.alloc o) A l := h.below (below_alloc1 w o)
theorem BV.alloc {l : List Bool} (h : BV w A l) (o : Obj) : BV (w.alloc o) A l := h.below (below_alloc1 w o)
theorem CV.drewN {l : List Hs.Cm} (h : CV w A l) (n : Nat) : CV (w.drewN n) A l := h.below (below_drewN (Below.refl _ _) n)
theorem IV.drewN {l : List Int} (h : IV w A l) (n : Nat) : IV (w.drewN n) A l := h
theorem BV.drewN {l : List Bool} (h : BV w A l) (n : Nat) : BV (w.drewN n) A l := h
theorem IV.at_ {l : List Int} (h : IV w A l) (i : Nat) (hi : i < l.length) : ∃ b off, A = some ⟨b, off, none⟩ ∧ b < w.heap.size ∧ w.cell? ⟨b, off + i, none⟩ = some (.int .i64 l[i]) := SV.int h i hi
theorem BV.at_ {l : List Bool} (h : BV w A l) (i : Nat) (hi : i < l.length) : ∃ b off, A = some ⟨b, off, none⟩ ∧ b < w.heap.size ∧ w.cell? ⟨b, off + i, none⟩ = some (.bool l[i]) := SV.bool h i hi
/-- The cells of commit i. -/
theorem CV.row {l : List Hs.Cm} (h : CV w A l) (i : Nat) (hi : i < l.length) : ∃ b off Ap k, A = some ⟨b, off, none⟩ ∧ b < w.heap.size ∧
    w.cell? ⟨b, off + i * 5, none⟩ = some (.slice Ap l[i].par.length k) ∧ w.cell? ⟨b, off + i * 5 + 1, none⟩ = some (.int .i64 l[i].au) ∧ w.cell? ⟨b, off + i * 5 + 2, none⟩ = some (.int .i64 l[i].tm) ∧
    w.cell? ⟨b, off + i * 5 + 3, none⟩ = some (.int .i64 l[i].tr) ∧ w.cell? ⟨b, off + i * 5 + 4, none⟩ = some (.string l[i].msg) ∧ CoOk l[i] ∧ IV w Ap l[i].par := by
  obtain ⟨vs, h1, h2⟩ := h
  obtain ⟨b, off, cs, e, hb, ⟨Ap, k, rfl, hok, hsv⟩, hc⟩ := SV.row CoR.len (by omega) h1 h2 i hi
  exact ⟨b, off, Ap, k, e, hb, hc 0 _ rfl, hc 1 _ rfl, hc 2 _ rfl, hc 3 _ rfl, hc 4 _ rfl, hok, hsv⟩
/-- The same in a later world. -/
theorem IV.atIn {l : List Int} (h : IV w A l) {wr : World} (hb : Below w.heap.size w wr) (i : Nat) (hi : i < l.length) : ∃ b off, A = some ⟨b, off, none⟩ ∧ b < w.heap.size ∧ wr.cell? ⟨b, off + i, none⟩ = some (.int .i64 l[i]) := by
  obtain ⟨b, off, e, hlt, hc⟩ := h.at_ i hi
  exact ⟨b, off, e, hlt, (hb.cell (p := ⟨b, off + i, none⟩) hlt).trans hc⟩
theorem BV.atIn {l : List Bool} (h : BV w A l) {wr : World} (hb : Below w.heap.size w wr) (i : Nat) (hi : i < l.length) : ∃ b off, A = some ⟨b, off, none⟩ ∧ b < w.heap.size ∧ wr.cell? ⟨b, off + i, none⟩ = some (.bool l[i]) := by
  obtain ⟨b, off, e, hlt, hc⟩ := h.at_ i hi
  exact ⟨b, off, e, hlt, (hb.cell (p := ⟨b, off + i, none⟩) hlt).trans hc⟩
theorem CV.rowIn {l : List Hs.Cm} (h : CV w A l) {wr : World} (hbel : Below w.heap.size w wr) (i : Nat) (hi : i < l.length) : ∃ b off Ap k, A = some ⟨b, off, none⟩ ∧ b < w.heap.size ∧
    wr.cell? ⟨b, off + i * 5, none⟩ = some (.slice Ap l[i].par.length k) ∧ wr.cell? ⟨b, off + i * 5 + 1, none⟩ = some (.int .i64 l[i].au) ∧ wr.cell? ⟨b, off + i * 5 + 2, none⟩ = some (.int .i64 l[i].tm) ∧
    wr.cell? ⟨b, off + i * 5 + 3, none⟩ = some (.int .i64 l[i].tr) ∧ wr.cell? ⟨b, off + i * 5 + 4, none⟩ = some (.string l[i].msg) ∧ CoOk l[i] ∧ IV w Ap l[i].par := by
  obtain ⟨b, off, Ap, k, e, hb, h0, h1, h2, h3, h4, hok, hi⟩ := h.row i hi
  exact ⟨b, off, Ap, k, e, hb, (hbel.cell (p := ⟨b, _, none⟩) hb).trans h0, (hbel.cell (p := ⟨b, _, none⟩) hb).trans h1, (hbel.cell (p := ⟨b, _, none⟩) hb).trans h2, (hbel.cell (p := ⟨b, _, none⟩) hb).trans h3, (hbel.cell (p := ⟨b, _, none⟩) hb).trans h4, hok, hi⟩
end

/-! ### faults -/
theorem results_c {fn : Func} {a : Tmp} (h : fn.results = #[.cell a 28]) (tmps : Array Value) (w : World) (g : Nat) (x y : Value) (ha : tmps.getD a undef = .pointer (some ⟨g, 0, none⟩)) (hb : Blk w g 28 #[x, y]) :
    (results fn tmps).run Try.prog w = .ok (.agg #[x, y]) w := by
  have h0 := hb.cell 0
  have h1 := hb.cell 1
  simp only [List.getElem?_toArray, List.getElem?_cons_zero, List.getElem?_cons_succ] at h0 h1
  have ha' : tmps[a]?.getD undef = .pointer (some ⟨g, 0, none⟩) := by simpa using ha
  simp [results, h, go_sem, ha', h0, h1]
/-- One result in a slot, the fault in a cell. -/
theorem results_tc {fn : Func} {s a : Tmp} (h : fn.results = #[.tmp s, .cell a 28]) (tmps : Array Value) (w : World) (g : Nat) (x y : Value) (ha : tmps.getD a undef = .pointer (some ⟨g, 0, none⟩)) (hb : Blk w g 28 #[x, y]) :
    (results fn tmps).run Try.prog w = .ok (.tuple #[tmps.getD s undef, .agg #[x, y]]) w := by
  have h0 := hb.cell 0
  have h1 := hb.cell 1
  simp only [List.getElem?_toArray, List.getElem?_cons_zero, List.getElem?_cons_succ] at h0 h1
  have ha' : tmps[a]?.getD undef = .pointer (some ⟨g, 0, none⟩) := by simpa using ha
  simp [results, h, go_sem, ha', h0, h1]
theorem load26 (w : World) (g : Nat) (x y : Value) (h : Blk w g 28 #[x, y]) : (Instr.loadAt 28 (.pointer (some ⟨g, 0, none⟩))).run Try.prog w = .ok (.agg #[x, y]) w := by
  have h0 := h.cell 0
  have h1 := h.cell 1
  simp only [List.getElem?_toArray, List.getElem?_cons_zero, List.getElem?_cons_succ] at h0 h1
  simp [go_sem, h0, h1]
theorem fault_any (w : World) (c i : Int) : Calls Try.prog 19 #[.int .i64 c, .int .i64 i] w fun e w' => e = .returned (.agg #[.int .i64 c, .int .i64 i]) ∧ w.alloc (.cells #[.int .i64 c, .int .i64 i] 28) = w' := by
  go_enter Try.func19, Try.ntmps19
  go_wp2
  refine bodyPost_ret (v := .agg #[.int .i64 c, .int .i64 i]) (by simp [results, Try.results19, go_sem]) rfl ⟨rfl, ?_⟩
  rfl
theorem in_any (w : World) (n l h : Int) : Calls Try.prog 24 #[.int .i64 n, .int .i64 l, .int .i64 h] w fun e w' => e = .returned (.bool (decide (l ≤ n) && decide (n ≤ h))) ∧ w = w' := by
  by_cases h1 : l ≤ n
  · go_enter Try.func24, Try.ntmps24
    go_wp2
    go_ret
    exact ⟨by simp [h1], rfl⟩
  · have h1' : decide (l ≤ n) = false := by simpa using h1
    go_enter Try.func24, Try.ntmps24
    go_wp2
    go_ret
    exact ⟨by simp, rfl⟩
theorem in_yes (w : World) (n l h : Int) (hh : l ≤ n ∧ n ≤ h) : Calls Try.prog 24 #[.int .i64 n, .int .i64 l, .int .i64 h] w fun e w' => e = .returned (.bool true) ∧ w = w' :=
  (in_any w n l h).mono fun e w' ⟨he, hw⟩ => ⟨by rw [he, decide_eq_true hh.1, decide_eq_true hh.2]; rfl, hw⟩
theorem in_no (w : World) (n l h : Int) (hh : ¬ (l ≤ n ∧ n ≤ h)) : Calls Try.prog 24 #[.int .i64 n, .int .i64 l, .int .i64 h] w fun e w' => e = .returned (.bool false) ∧ w = w' :=
  (in_any w n l h).mono fun e w' ⟨he, hw⟩ => ⟨by
    rw [he]
    have : (decide (l ≤ n) && decide (n ≤ h)) = false := by
      rw [Bool.and_eq_false_iff]; simp only [decide_eq_false_iff_not]; omega
    rw [this], hw⟩
theorem isDigest_any (w : World) (n : Int) : Calls Try.prog 25 #[.int .i64 n] w fun e w' => e = .returned (.bool (decide (0 ≤ n) && decide (n ≤ 2305843009213693950))) ∧ w = w' := by
  go_enter Try.func25, Try.ntmps25
  go_wp2_with (go_at_call 24; refine (in_any _ _ _ _).mono ?_; rintro e w' ⟨rfl, rfl⟩)
  go_ret
  exact ⟨rfl, rfl⟩
theorem dig_yes (w : World) (n : Int) (hh : 0 ≤ n ∧ n < 2305843009213693951) : Calls Try.prog 25 #[.int .i64 n] w fun e w' => e = .returned (.bool true) ∧ w = w' :=
  (isDigest_any w n).mono fun e w' ⟨he, hw⟩ => ⟨by rw [he, decide_eq_true hh.1, decide_eq_true (by omega)]; rfl, hw⟩
theorem dig_no (w : World) (n : Int) (hh : ¬ (0 ≤ n ∧ n < 2305843009213693951)) : Calls Try.prog 25 #[.int .i64 n] w fun e w' => e = .returned (.bool false) ∧ w = w' :=
  (isDigest_any w n).mono fun e w' ⟨he, hw⟩ => ⟨by
    rw [he]
    have : (decide (0 ≤ n) && decide (n ≤ 2305843009213693950)) = false := by
      rw [Bool.and_eq_false_iff]; simp only [decide_eq_false_iff_not]; omega
    rw [this], hw⟩
theorem info3 : (Try.prog.info? 3).map (fun i => (i.zero, i.size, i.bytes)) = some (some (.int .i64 0), 1, 8) := by kernel_rfl
theorem info4 : (Try.prog.info? 4).map (fun i => (i.zero, i.size, i.bytes)) = some (some (.bool false), 1, 1) := by kernel_rfl
end Go.Proofs.Ytebohncdhhikkaa
