/-
  File trees: what their values and slices read as.
-/
import Derived.Test.YtjfckjonfpkphaaDoorTbA
import Derived.Test.YtjfckjonfpkphaaDoorTrP
import Derived.Test.YtjfckjonfpkphaaDoorView16
namespace Fl
section
variable {α : Type} {f : α → List Go.Value} {k : Nat}
theorem len (hk : ∀ a, (f a).length = k) : ∀ l : List α, (l.flatMap f).length = l.length * k
  | [] => by simp
  | a :: l => by rw [List.flatMap_cons, List.length_append, hk, len hk l, List.length_cons, Nat.succ_mul]; omega
theorem take (hk : ∀ a, (f a).length = k) : ∀ (i : Nat) (l : List α), (l.take i).flatMap f = (l.flatMap f).take (i * k)
  | 0, l => by simp
  | i + 1, [] => by simp
  | i + 1, a :: l => by
    have e : (f a).take ((i + 1) * k) = f a := List.take_of_length_le (by rw [hk, Nat.succ_mul]; omega)
    rw [List.take_succ_cons, List.flatMap_cons, List.flatMap_cons, take hk i l, List.take_append, hk, e, Nat.succ_mul, Nat.add_sub_cancel]
theorem drop (hk : ∀ a, (f a).length = k) : ∀ (i : Nat) (l : List α), (l.drop i).flatMap f = (l.flatMap f).drop (i * k)
  | 0, l => by simp
  | i + 1, [] => by simp
  | i + 1, a :: l => by
    rw [List.drop_succ_cons, List.flatMap_cons, drop hk i l, Nat.succ_mul, Nat.add_comm, ← List.drop_drop, List.drop_left' (hk a)]
theorem get (hk : ∀ a, (f a).length = k) : ∀ (i : Nat) (l : List α) (hi : i < l.length) (j : Nat) (u : Go.Value), (f l[i])[j]? = some u → (l.flatMap f)[i * k + j]? = some u
  | 0, a :: l, hi, j, u, h => by
    have hj : j < (f a).length := (List.getElem?_eq_some_iff.1 h).1
    rw [List.flatMap_cons, Nat.zero_mul, Nat.zero_add, List.getElem?_append_left hj]; exact h
  | i + 1, a :: l, hi, j, u, h => by
    rw [List.flatMap_cons, List.getElem?_append_right (by rw [hk, Nat.succ_mul]; omega), hk]
    have e : (i + 1) * k + j - k = i * k + j := by rw [Nat.succ_mul]; omega
    rw [e]
    exact get hk i l (by simpa using hi) j u h
end
end Fl
namespace Go.Proofs.YtjfckjonfpkphaaDoor
open Go.RowKit Go.V
set_option linter.unusedVariables false

abbrev strV (l : List UInt8) : Value := .string ⟨l.toArray⟩
def sC (l : List UInt8) : List Value := [strV l]
theorem sC_len (r : List UInt8) : (sC r).length = 1 := rfl
abbrev ssV (s : List (List UInt8)) : List Value := s.flatMap sC
theorem ssV_one (s : List (List UInt8)) : ∀ u ∈ ssV s, u.oneCell' = true := by
  intro u hu; obtain ⟨a, _, h⟩ := List.mem_flatMap.1 hu; simp only [sC, List.mem_cons, List.not_mem_nil, or_false] at h; rcases h with rfl; rfl
theorem ssV_snoc (s : List (List UInt8)) (x : List UInt8) : ssV s ++ [strV x] = ssV (s ++ [x]) := by simp [sC]
theorem ssV_len (s : List (List UInt8)) : (ssV s).length = s.length := by rw [Fl.len sC_len]; omega
/-- The lines of a file read as they are. -/
structure LnA (w : World) (X : Nat → Prop) (l : List (List UInt8)) (A : Option Addr) (k : Nat) : Prop where
  lk : l.length ≤ k
  ll : l.length ≤ 140737488351232
  ls : SA w X A (ssV l)
/-- A file as two cells. -/
def FlR (w : World) (X : Nat → Prop) (f : Tr.F) (cs : List Value) : Prop := ∃ A k, cs = [strV f.path, .slice A f.lines.length k] ∧ LnA w X f.lines A k
section
variable {w w' : World} {X X' : Nat → Prop}
theorem ssV_row {A : Option Addr} {s : List (List UInt8)} (h : SA w X A (ssV s)) (i : Nat) (hi : i < s.length) : ∃ b off, A = some ⟨b, off, none⟩ ∧ b < w.heap.size ∧ ¬ X b ∧ w.cell? ⟨b, off + i, none⟩ = some (strV s[i]) := by
  have g0 := Fl.get sC_len i s hi 0 _ rfl
  rw [Nat.mul_one, Nat.add_zero] at g0
  obtain ⟨b, off, e, hb, hx, hc⟩ := h.at_ (by rw [ssV_len]; omega)
  exact ⟨b, off, e, hb, hx, hc _ _ g0⟩
theorem LnA.keep {l : List (List UInt8)} {A : Option Addr} {k : Nat} (h : LnA w X l A k) (q : Keeps w X w' X') : LnA w' X' l A k := ⟨h.lk, h.ll, h.ls.keep q⟩
theorem LnA.mono {l : List (List UInt8)} {A : Option Addr} {k : Nat} (h : LnA w X l A k) (q : ∀ b, X' b → X b) : LnA w X' l A k := ⟨h.lk, h.ll, h.ls.mono q⟩
theorem FlR.len (f : Tr.F) (cs : List Value) (h : FlR w X f cs) : cs.length = 2 := by obtain ⟨_, _, rfl, _⟩ := h; rfl
theorem FlR.keep (q : Keeps w X w' X') (f : Tr.F) (cs : List Value) (h : FlR w X f cs) : FlR w' X' f cs := by
  obtain ⟨A, k, e, h1⟩ := h; exact ⟨A, k, e, h1.keep q⟩
/-- The slice at A holds the files. -/
def VfV (w : World) (X : Nat → Prop) (A : Option Addr) (t : List Tr.F) : Prop := ∃ vs, SA w X A vs ∧ RowsR (FlR w X) t vs
theorem VfV.keep {A : Option Addr} {t : List Tr.F} (h : VfV w X A t) (q : Keeps w X w' X') : VfV w' X' A t := by
  obtain ⟨vs, h1, h2⟩ := h; exact ⟨vs, h1.keep q, h2.mono (FlR.keep q)⟩
theorem VfV.row {A : Option Addr} {t : List Tr.F} (h : VfV w X A t) (i : Nat) (hi : i < t.length) : ∃ b off A' k', A = some ⟨b, off, none⟩ ∧ b < w.heap.size ∧ ¬ X b ∧
    w.cell? ⟨b, off + i * 2, none⟩ = some (strV (Tr.it t i).path) ∧ w.cell? ⟨b, off + i * 2 + 1, none⟩ = some (.slice A' (Tr.it t i).lines.length k') ∧ LnA w X (Tr.it t i).lines A' k' := by
  obtain ⟨us, h1, h2⟩ := h
  obtain ⟨b, off, cs, e, hb, hx, ⟨A', k', rfl, k1⟩, hc⟩ := SA.row FlR.len (by omega) h1 h2 i hi
  rw [← Tr.it_eq t i hi]
  exact ⟨b, off, A', k', e, hb, hx, hc 0 _ rfl, hc 1 _ rfl, k1⟩
theorem VfV.nil : VfV w X none [] := ⟨[], SA.nil, rfl⟩
end
end Go.Proofs.YtjfckjonfpkphaaDoor
