/-
  Text patches: what their values and slices read as.
-/
import Derived.Test.YtjfckjonfpkphaaDoorTr4
import Derived.Test.YtjfckjonfpkphaaDoorTpP
namespace Go.Proofs.YtjfckjonfpkphaaDoor
open Go.RowKit Go.V
set_option linter.unusedVariables false

/-- The slices of a hunk read as its lines. -/
structure HkA (w : World) (X : Nat → Prop) (h : Tp.H) (A1 : Option Addr) (k1 : Nat) (A2 : Option Addr) (k2 : Nat) : Prop where
  lo : I64 h.pos
  o : LnA w X h.old A1 k1
  n : LnA w X h.new A2 k2
abbrev hkV (h : Tp.H) (A1 : Option Addr) (k1 : Nat) (A2 : Option Addr) (k2 : Nat) : Value := .agg #[.int .i64 h.pos, .slice A1 h.old.length k1, .slice A2 h.new.length k2]
/-- A hunk as three cells. -/
def HkR (w : World) (X : Nat → Prop) (h : Tp.H) (cs : List Value) : Prop := ∃ A1 k1 A2 k2, cs = [.int .i64 h.pos, .slice A1 h.old.length k1, .slice A2 h.new.length k2] ∧ HkA w X h A1 k1 A2 k2
section
variable {w w' : World} {X X' : Nat → Prop}
theorem HkA.keep {h : Tp.H} {A1 : Option Addr} {k1 : Nat} {A2 : Option Addr} {k2 : Nat} (q : HkA w X h A1 k1 A2 k2) (k : Keeps w X w' X') : HkA w' X' h A1 k1 A2 k2 := ⟨q.lo, q.o.keep k, q.n.keep k⟩
theorem HkR.len (h : Tp.H) (cs : List Value) (q : HkR w X h cs) : cs.length = 3 := by obtain ⟨_, _, _, _, rfl, _⟩ := q; rfl
theorem HkR.keep (k : Keeps w X w' X') (h : Tp.H) (cs : List Value) (q : HkR w X h cs) : HkR w' X' h cs := by
  obtain ⟨A1, k1, A2, k2, e, h1⟩ := q; exact ⟨A1, k1, A2, k2, e, h1.keep k⟩
/-- The slice at A holds the hunks. -/
def HvV (w : World) (X : Nat → Prop) (A : Option Addr) (l : List Tp.H) : Prop := ∃ vs, SA w X A vs ∧ RowsR (HkR w X) l vs
theorem HvV.keep {A : Option Addr} {l : List Tp.H} (h : HvV w X A l) (q : Keeps w X w' X') : HvV w' X' A l := by
  obtain ⟨vs, h1, h2⟩ := h; exact ⟨vs, h1.keep q, h2.mono (HkR.keep q)⟩
theorem HvV.row {A : Option Addr} {l : List Tp.H} (h : HvV w X A l) (i : Nat) (hi : i < l.length) : ∃ b off A1 k1 A2 k2, A = some ⟨b, off, none⟩ ∧ b < w.heap.size ∧ ¬ X b ∧
    w.cell? ⟨b, off + i * 3, none⟩ = some (.int .i64 (Tp.it l i).pos) ∧ w.cell? ⟨b, off + i * 3 + 1, none⟩ = some (.slice A1 (Tp.it l i).old.length k1) ∧ w.cell? ⟨b, off + i * 3 + 2, none⟩ = some (.slice A2 (Tp.it l i).new.length k2) ∧ HkA w X (Tp.it l i) A1 k1 A2 k2 := by
  obtain ⟨us, h1, h2⟩ := h
  obtain ⟨b, off, cs, e, hb, hx, ⟨A1, k1, A2, k2, rfl, q⟩, hc⟩ := SA.row HkR.len (by omega) h1 h2 i hi
  rw [← Tp.it_eq l i hi]
  exact ⟨b, off, A1, k1, A2, k2, e, hb, hx, hc 0 _ rfl, hc 1 _ rfl, hc 2 _ rfl, q⟩
end
end Go.Proofs.YtjfckjonfpkphaaDoor
