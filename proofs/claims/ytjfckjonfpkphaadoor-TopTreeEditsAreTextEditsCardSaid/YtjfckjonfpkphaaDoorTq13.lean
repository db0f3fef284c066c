/-
  Editing a file of a tree: what the law's variables hold behind its two calls; a view and a block of other cells do not meet.
-/
import Derived.Test.YtjfckjonfpkphaaDoorTq12
import Derived.Deep.DeepCutAuto
namespace Go.Proofs.YtjfckjonfpkphaaDoor
open Go.RowKit Go.V Go.Shelf
set_option linter.unusedVariables false

/-- No cell of it is a string. -/
def NoS (cs : Array Value) : Prop := ∀ (j : Nat) (x : List UInt8), cs[j]? ≠ some (strV x)
theorem nos_sl (A : Option Addr) (n c : Nat) : NoS #[.slice A n c] := by
  intro j x h
  match j, h with
  | 0, h => simp at h
theorem nos_ii (a b : Int) : NoS #[.int .i64 a, .int .i64 b] := by
  intro j x h
  match j, h with
  | 0, h => simp at h
  | 1, h => simp at h
theorem sa_ne {w : World} {X : Nat → Prop} {g : Nat} {T : TypeId} {cs : Array Value} {A : Option Addr} {vs : List Value} (h : SA w X A vs) (hb : Blk w g T cs) (hn : NoS cs) (h0 : vs = [] ∨ ∃ x, vs[0]? = some (strV x)) : SA w (fun b => X b ∨ b = g) A vs := by
  rcases h with h | ⟨b, off, e, hlt, hx, hc⟩
  · exact .inl h
  · rcases h0 with h0 | ⟨x, h0⟩
    · exact .inl h0
    · refine .inr ⟨b, off, e, hlt, fun hh => ?_, hc⟩
      rcases hh with hh | rfl
      · exact hx hh
      · have h1 := hc 0 _ h0
        rw [Nat.add_zero, hb.cell off] at h1
        exact hn _ _ h1
theorem ss_head (l : List (List UInt8)) : ssV l = [] ∨ ∃ x, (ssV l)[0]? = some (strV x) := by
  cases l with
  | nil => exact .inl rfl
  | cons a l => exact .inr ⟨a, rfl⟩
theorem rows_head {w : World} {X : Nat → Prop} {t : List Tr.F} {vs : List Value} (h : RowsR (FlR w X) t vs) : vs = [] ∨ ∃ x, vs[0]? = some (strV x) := by
  cases t with
  | nil => exact .inl h
  | cons a t =>
    obtain ⟨cs, rest, rfl, ⟨A, k, rfl, _⟩, _⟩ := h
    exact .inr ⟨a.path, rfl⟩
theorem vf_ne {w : World} {X : Nat → Prop} {g : Nat} {T : TypeId} {cs : Array Value} {A : Option Addr} {t : List Tr.F} (h : VfV w X A t) (hb : Blk w g T cs) (hn : NoS cs) : VfV w (fun b => X b ∨ b = g) A t := by
  obtain ⟨vs, h1, h2⟩ := h
  exact ⟨vs, sa_ne h1 hb hn (rows_head h2), h2.mono fun f c' ⟨B, k, e, q⟩ => ⟨B, k, e, q.lk, q.ll, sa_ne q.ls hb hn (ss_head _)⟩⟩
/-- The text and the fault behind 'textpatch.Apply'. -/
def OneOut (w0 : World) (q : List (List UInt8) × (Int × Int)) (sv pv : Value) (wx : World) : Prop :=
  ∃ g A c, sv = .slice A q.1.length c ∧ pv = .pointer (some ⟨g, 0, none⟩) ∧ Blk wx g 29 #[.int .i64 q.2.1, .int .i64 q.2.2] ∧ SA wx Free A (ssV q.1) ∧ Below w0.heap.size w0 wx
theorem OneOut.mk_ {w0 w : World} {q1 : List (List UInt8)} {cd ix : Int} {X : Nat → Prop} {A : Option Addr} {c g : Nat} (hq : Below w0.heap.size w0 w) (hs : SA w X A (ssV q1)) (hb : Blk w g 29 #[.int .i64 0, .int .i64 0]) (h0 : w0.heap.size ≤ g) :
    OneOut w0 (q1, (cd, ix)) (.slice A q1.length c) (.pointer (some ⟨g, 0, none⟩)) ((w.setCell ⟨g, 0, none⟩ (.int .i64 cd)).setCell ⟨g, 1, none⟩ (.int .i64 ix)) := by
  have h1 := sa_ne hs hb (nos_ii 0 0) (ss_head _)
  have k1 := (Keeps.setCell w (fun b => X b ∨ b = g) ⟨g, 0, none⟩ (.int .i64 cd) (.inr rfl)).trans (Keeps.setCell _ (fun b => X b ∨ b = g) ⟨g, 1, none⟩ (.int .i64 ix) (.inr rfl))
  exact ⟨g, A, c, rfl, rfl, blk_put2 hb _ _, (h1.keep k1).mono (fun b h => (by unfold Free at h; exact h.elim)), (hq.setCell (p := ⟨g, 0, none⟩) h0 _).setCell (p := ⟨g, 1, none⟩) h0 _⟩
/-- If the fault is none, the files are there. -/
def MayV (w : World) (X : Nat → Prop) (A : Option Addr) (n c : Nat) (t : List Tr.F) (cd ix : Int) : Prop := cd = 0 → n = t.length ∧ ix = 0 ∧ n ≤ c ∧ VfV w X A t
theorem MayV.keep {w w' : World} {X X' : Nat → Prop} {A : Option Addr} {n c : Nat} {t : List Tr.F} {cd ix : Int} (h : MayV w X A n c t cd ix) (k : Keeps w X w' X') : MayV w' X' A n c t cd ix := fun hz => by
  obtain ⟨h1, h2, h3, h4⟩ := h hz; exact ⟨h1, h2, h3, h4.keep k⟩
theorem MayV.ne {w : World} {X : Nat → Prop} {A : Option Addr} {n c : Nat} {t : List Tr.F} {cd ix : Int} {g : Nat} {T : TypeId} {cs : Array Value} (h : MayV w X A n c t cd ix) (hb : Blk w g T cs) (hn : NoS cs) : MayV w (fun b => X b ∨ b = g) A n c t cd ix := fun hz => by
  obtain ⟨h1, h2, h3, h4⟩ := h hz; exact ⟨h1, h2, h3, vf_ne h4 hb hn⟩
/-- 'TaPost' with one form for both ends. -/
theorem TaPost.may {w w' : World} {t : List Tr.F} {m : Nat} {q : List (List UInt8) × (Int × Int)} {e : Ending} (h : TaPost w t m q e w') :
    ∃ A n c ix, e = .returned (.tuple #[.agg #[.slice A n c], .agg #[.int .i64 q.2.1, .int .i64 ix]]) ∧ MayV w' (Under w.heap.size) A n c (ed t m q.1) q.2.1 ix ∧ Below w.heap.size w w' := by
  obtain ⟨hb, ⟨hn, ix, e⟩ | ⟨hz, A, c, e, hc, hv⟩⟩ := h
  · exact ⟨none, 0, 0, ix, e, fun hz => absurd hz hn, hb⟩
  · refine ⟨A, t.length, c, 0, by rw [hz]; exact e, fun _ => ⟨(ed_len _ _ _).symm, rfl, hc, hv⟩, hb⟩
/-- The tree and the fault behind 'treepatch.Apply'. -/
def TwoOut (w0 : World) (t : List Tr.F) (cd : Int) (pv pw : Value) (wx : World) : Prop :=
  ∃ g g' A n c ix, pv = .pointer (some ⟨g, 0, none⟩) ∧ pw = .pointer (some ⟨g', 0, none⟩) ∧ Blk wx g 24 #[.slice A n c] ∧ Blk wx g' 29 #[.int .i64 cd, .int .i64 ix] ∧ MayV wx Free A n c t cd ix ∧ Below w0.heap.size w0 wx
theorem TwoOut.mk_ {w0 w : World} {t : List Tr.F} {cd ix : Int} {X : Nat → Prop} {A : Option Addr} {n c g g' : Nat} (hq : Below w0.heap.size w0 w) (hs : MayV w X A n c t cd ix) (hb : Blk w g 24 #[.slice none 0 0]) (hb' : Blk w g' 29 #[.int .i64 0, .int .i64 0]) (h0 : w0.heap.size ≤ g) (h0' : w0.heap.size ≤ g') :
    TwoOut w0 t cd (.pointer (some ⟨g, 0, none⟩)) (.pointer (some ⟨g', 0, none⟩)) (((w.setCell ⟨g, 0, none⟩ (.slice A n c)).setCell ⟨g', 0, none⟩ (.int .i64 cd)).setCell ⟨g', 1, none⟩ (.int .i64 ix)) := by
  have hne : g ≠ g' := Blk.ne_ hb hb' (by decide)
  have h1 := (hs.ne hb (nos_sl _ _ _)).ne hb' (nos_ii 0 0)
  have k1 := ((Keeps.setCell w (fun b => (X b ∨ b = g) ∨ b = g') ⟨g, 0, none⟩ (.slice A n c) (.inl (.inr rfl))).trans (Keeps.setCell _ (fun b => (X b ∨ b = g) ∨ b = g') ⟨g', 0, none⟩ (.int .i64 cd) (.inr rfl))).trans (Keeps.setCell _ (fun b => (X b ∨ b = g) ∨ b = g') ⟨g', 1, none⟩ (.int .i64 ix) (.inr rfl))
  refine ⟨g, g', A, n, c, ix, rfl, rfl, ?_, ?_, h1.keep (k1.into fun b h => (by unfold Free at h; exact h.elim)), ((hq.setCell (p := ⟨g, 0, none⟩) h0 _).setCell (p := ⟨g', 0, none⟩) h0' _).setCell (p := ⟨g', 1, none⟩) h0' _⟩
  · have := hb.set_ 0 (.slice A n c)
    exact ((by simpa using this : Blk (w.setCell ⟨g, 0, none⟩ (.slice A n c)) g 24 #[.slice A n c]).far hne _).far hne _
  · exact blk_put2 (hb'.far (fun e => hne e.symm) _) _ _
theorem it_ed (t : List Tr.F) (m : Nat) (ls : List (List UInt8)) (k : Nat) (hk : k < t.length) : Tr.it (ed t m ls) k = if k = m then ⟨(Tr.it t m).path, ls⟩ else Tr.it t k := by
  unfold ed Tr.it
  rw [List.getElem?_set]
  by_cases h : m = k
  · subst h
    simp [hk]
  · have h2 : ¬ k = m := fun e => h e.symm
    simp [h, h2]
end Go.Proofs.YtjfckjonfpkphaaDoor
