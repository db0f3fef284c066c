/-
  References: what slices of flat rows read as.
-/
import Derived.Test.YtfbbgnhelannjaaDoorRf1
import Derived.Test.YtfbbgnhelannjaaDoorRfL
import Derived.Test.YtfbbgnhelannjaaDoorView5
import Derived.Test.YtfbbgnhelannjaaDoorView9
import Derived.Test.YtfbbgnhelannjaaDoorView16
import Derived.WalkKit
import Derived.WalkLawsBesides
import Derived.WalkSpells
import Derived.Deep.QuietTactic
import Derived.BigQuiet
import Derived.RegionTactic
import Derived.BigRegion
import Derived.Deep.RegionLaw
import Derived.Deep.RegionHeld3
import Derived.Lib.Hide
import Derived.KernelRfl
namespace Fl
section
variable {α : Type} {f : α → List Go.Value} {k : Nat}
theorem len (hk : ∀ a, (f a).length = k) : ∀ l : List α, (l.flatMap f).length = l.length * k
  | [] => by simp
  | a :: l => by rw [List.flatMap_cons, List.length_append, hk, len hk l, List.length_cons, Nat.succ_mul]; omega
theorem take (hk : ∀ a, (f a).length = k) : ∀ (i : Nat) (l : List α), (l.take i).flatMap f = (l.flatMap f).take (i * k)
  | 0, l => by simp
  | i + 1, [] => by simp
  | i + 1, a :: l => by
    have e : (f a).take ((i + 1) * k) = f a := List.take_of_length_le (by rw [hk, Nat.succ_mul]; omega)
    rw [List.take_succ_cons, List.flatMap_cons, List.flatMap_cons, take hk i l, List.take_append, hk, e, Nat.succ_mul, Nat.add_sub_cancel]
theorem drop (hk : ∀ a, (f a).length = k) : ∀ (i : Nat) (l : List α), (l.drop i).flatMap f = (l.flatMap f).drop (i * k)
  | 0, l => by simp
  | i + 1, [] => by simp
  | i + 1, a :: l => by
    rw [List.drop_succ_cons, List.flatMap_cons, drop hk i l, Nat.succ_mul, Nat.add_comm, ← List.drop_drop, List.drop_left' (hk a)]
theorem get (hk : ∀ a, (f a).length = k) : ∀ (i : Nat) (l : List α) (hi : i < l.length) (j : Nat) (u : Go.Value), (f l[i])[j]? = some u → (l.flatMap f)[i * k + j]? = some u
  | 0, a :: l, hi, j, u, h => by
    have hj : j < (f a).length := (List.getElem?_eq_some_iff.1 h).1
    rw [List.flatMap_cons, Nat.zero_mul, Nat.zero_add, List.getElem?_append_left hj]; exact h
  | i + 1, a :: l, hi, j, u, h => by
    rw [List.flatMap_cons, List.getElem?_append_right (by rw [hk, Nat.succ_mul]; omega), hk]
    have e : (i + 1) * k + j - k = i * k + j := by rw [Nat.succ_mul]; omega
    rw [e]
    exact get hk i l (by simpa using hi) j u h
end
end Fl
namespace Go.Proofs.YtfbbgnhelannjaaDoor
open Go.RowKit Go.V Go.Shelf Go.Lib
set_option linter.unusedVariables false

/-- The cells of a reference, of an update, of an entry of a log. -/
def rC (r : Rf.R) : List Value := [strV r.name, .int .i64 r.tgt]
def uC (u : Rf.U) : List Value := [strV u.name, .int .i64 u.old, .int .i64 u.new]
def eC (e : Rf.E) : List Value := [.int .i64 e.time, strV e.upd.name, .int .i64 e.upd.old, .int .i64 e.upd.new]
def sC (l : List UInt8) : List Value := [strV l]
theorem rC_len (r : Rf.R) : (rC r).length = 2 := rfl
theorem uC_len (r : Rf.U) : (uC r).length = 3 := rfl
theorem eC_len (r : Rf.E) : (eC r).length = 4 := rfl
theorem sC_len (r : List UInt8) : (sC r).length = 1 := rfl
abbrev rsV (s : List Rf.R) : List Value := s.flatMap rC
abbrev usV (s : List Rf.U) : List Value := s.flatMap uC
abbrev esV (s : List Rf.E) : List Value := s.flatMap eC
abbrev ssV (s : List (List UInt8)) : List Value := s.flatMap sC
theorem rsV_one (s : List Rf.R) : ∀ u ∈ rsV s, u.oneCell' = true := by
  intro u hu; obtain ⟨a, _, h⟩ := List.mem_flatMap.1 hu; simp only [rC, List.mem_cons, List.not_mem_nil, or_false] at h; rcases h with rfl | rfl <;> rfl
theorem usV_one (s : List Rf.U) : ∀ u ∈ usV s, u.oneCell' = true := by
  intro u hu; obtain ⟨a, _, h⟩ := List.mem_flatMap.1 hu; simp only [uC, List.mem_cons, List.not_mem_nil, or_false] at h; rcases h with rfl | rfl | rfl <;> rfl
theorem esV_one (s : List Rf.E) : ∀ u ∈ esV s, u.oneCell' = true := by
  intro u hu; obtain ⟨a, _, h⟩ := List.mem_flatMap.1 hu; simp only [eC, List.mem_cons, List.not_mem_nil, or_false] at h; rcases h with rfl | rfl | rfl | rfl <;> rfl
theorem ssV_one (s : List (List UInt8)) : ∀ u ∈ ssV s, u.oneCell' = true := by
  intro u hu; obtain ⟨a, _, h⟩ := List.mem_flatMap.1 hu; simp only [sC, List.mem_cons, List.not_mem_nil, or_false] at h; rcases h with rfl; rfl
section
variable {w : World} {X : Nat → Prop} {A : Option Addr}
theorem SA.cells {vs : List Value} (h : SA w X A vs) (i : Nat) (u : Value) (hu : vs[i]? = some u) : ∃ b off, A = some ⟨b, off, none⟩ ∧ b < w.heap.size ∧ ¬ X b ∧ ∀ j v, vs[j]? = some v → w.cell? ⟨b, off + j, none⟩ = some v :=
  h.at_ (by have := (List.getElem?_eq_some_iff.1 hu).1; omega)
/-- Reference i. -/
theorem rsV_row {s : List Rf.R} (h : SA w X A (rsV s)) (i : Nat) (hi : i < s.length) : ∃ b off, A = some ⟨b, off, none⟩ ∧ b < w.heap.size ∧ ¬ X b ∧
    w.cell? ⟨b, off + i * 2, none⟩ = some (strV (Rf.it s i).name) ∧ w.cell? ⟨b, off + i * 2 + 1, none⟩ = some (.int .i64 (Rf.it s i).tgt) := by
  rw [← Rf.it_eq s i hi]
  have g0 := Fl.get rC_len i s hi 0 _ rfl
  have g1 := Fl.get rC_len i s hi 1 _ rfl
  obtain ⟨b, off, e, hb, hx, hc⟩ := SA.cells h _ _ g0
  exact ⟨b, off, e, hb, hx, hc _ _ g0, hc _ _ g1⟩
theorem usV_row {s : List Rf.U} (h : SA w X A (usV s)) (i : Nat) (hi : i < s.length) : ∃ b off, A = some ⟨b, off, none⟩ ∧ b < w.heap.size ∧ ¬ X b ∧
    w.cell? ⟨b, off + i * 3, none⟩ = some (strV s[i].name) ∧ w.cell? ⟨b, off + i * 3 + 1, none⟩ = some (.int .i64 s[i].old) ∧ w.cell? ⟨b, off + i * 3 + 2, none⟩ = some (.int .i64 s[i].new) := by
  have g0 := Fl.get uC_len i s hi 0 _ rfl
  have g1 := Fl.get uC_len i s hi 1 _ rfl
  have g2 := Fl.get uC_len i s hi 2 _ rfl
  obtain ⟨b, off, e, hb, hx, hc⟩ := SA.cells h _ _ g0
  exact ⟨b, off, e, hb, hx, hc _ _ g0, hc _ _ g1, hc _ _ g2⟩
theorem esV_row {s : List Rf.E} (h : SA w X A (esV s)) (i : Nat) (hi : i < s.length) : ∃ b off, A = some ⟨b, off, none⟩ ∧ b < w.heap.size ∧ ¬ X b ∧
    w.cell? ⟨b, off + i * 4, none⟩ = some (.int .i64 s[i].time) ∧ w.cell? ⟨b, off + i * 4 + 1, none⟩ = some (strV s[i].upd.name) ∧ w.cell? ⟨b, off + i * 4 + 2, none⟩ = some (.int .i64 s[i].upd.old) ∧ w.cell? ⟨b, off + i * 4 + 3, none⟩ = some (.int .i64 s[i].upd.new) := by
  have g0 := Fl.get eC_len i s hi 0 _ rfl
  have g1 := Fl.get eC_len i s hi 1 _ rfl
  have g2 := Fl.get eC_len i s hi 2 _ rfl
  have g3 := Fl.get eC_len i s hi 3 _ rfl
  obtain ⟨b, off, e, hb, hx, hc⟩ := SA.cells h _ _ g0
  exact ⟨b, off, e, hb, hx, hc _ _ g0, hc _ _ g1, hc _ _ g2, hc _ _ g3⟩
theorem ssV_row {s : List (List UInt8)} (h : SA w X A (ssV s)) (i : Nat) (hi : i < s.length) : ∃ b off, A = some ⟨b, off, none⟩ ∧ b < w.heap.size ∧ ¬ X b ∧
    w.cell? ⟨b, off + i, none⟩ = some (strV s[i]) := by
  have g0 := Fl.get sC_len i s hi 0 _ rfl
  obtain ⟨b, off, e, hb, hx, hc⟩ := SA.cells h _ _ g0
  refine ⟨b, off, e, hb, hx, ?_⟩
  have := hc _ _ g0
  simpa using this
end
theorem free_below {w w' : World} (hb : Below w.heap.size w w') : Keeps w Free w' Free := Keeps.below hb (fun _ _ h => h)
theorem below_drew' {B : Nat} {a w : World} (h : Below B a w) : Below B a w.drew := Go.V.below_drewN h 1
theorem gen_world {C : World → Prop} {w : World} (F : World → Prop) (hF : F w) (h : ∀ wz, F wz → C wz) : C w := h w hF
theorem below_alloc1 (w : World) (o : Obj) : Below w.heap.size w (w.alloc o) := (Below.refl _ _).alloc (Nat.le_refl _) _
theorem below_alloc2 (w : World) (o o2 : Obj) : Below w.heap.size w ((w.alloc o).alloc o2) := (below_alloc1 w o).alloc (by simp) _
theorem below_alloc3 (w : World) (o o2 o3 : Obj) : Below w.heap.size w (((w.alloc o).alloc o2).alloc o3) := (below_alloc2 w o o2).alloc (by simp; omega) _
end Go.Proofs.YtfbbgnhelannjaaDoor
