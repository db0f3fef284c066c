/-
  Tree patches: walk of 'Apply' at a patch with one edit.
-/
import Derived.Test.YtjfckjonfpkphaaDoorTq8
namespace Go.Proofs.YtjfckjonfpkphaaDoor
open Go.RowKit Go.V Go.Shelf
set_option linter.unusedVariables false

theorem results_cc {fn : Func} {a b : Tmp} (h : fn.results = #[.cell a 24, .cell b 29]) (tmps : Array Value) (w : World) (g g2 : Nat) (x y z : Value) (ha : tmps.getD a undef = .pointer (some ⟨g, 0, none⟩)) (hb : tmps.getD b undef = .pointer (some ⟨g2, 0, none⟩)) (k1 : Blk w g 24 #[x]) (k2 : Blk w g2 29 #[y, z]) :
    (results fn tmps).run Tryd.prog w = .ok (.tuple #[.agg #[x], .agg #[y, z]]) w := by
  have h0 := k1.cell 0
  have h1 := k2.cell 0
  have h2 := k2.cell 1
  simp only [List.getElem?_toArray, List.getElem?_cons_zero, List.getElem?_cons_succ] at h0 h1 h2
  have ha' : tmps[a]?.getD undef = .pointer (some ⟨g, 0, none⟩) := by simpa using ha
  have hb' : tmps[b]?.getD undef = .pointer (some ⟨g2, 0, none⟩) := by simpa using hb
  simp [results, h, go_sem, ha', hb', h0, h1, h2]
/-- The lines of the file number m are replaced. -/
def ed (t : List Tr.F) (m : Nat) (ls : List (List UInt8)) : List Tr.F := t.set m ⟨(Tr.it t m).path, ls⟩
theorem ed_len (t : List Tr.F) (m : Nat) (ls : List (List UInt8)) : (ed t m ls).length = t.length := by unfold ed; simp
theorem rows_ed {w : World} {X : Nat → Prop} {ls : List (List UInt8)} {A : Option Addr} {k : Nat} (h : LnA w X ls A k) : ∀ (t : List Tr.F) (vs : List Value) (m : Nat), RowsR (FlR w X) t vs → m < t.length → RowsR (FlR w X) (ed t m ls) (vs.set (m * 2 + 1) (.slice A ls.length k))
  | [], _, _, _, hm => by simp at hm
  | a :: t, vs, 0, hr, _ => by
    obtain ⟨cs, rest, rfl, ⟨A0, k0, rfl, _⟩, hr2⟩ := hr
    exact ⟨[strV a.path, .slice A ls.length k], rest, rfl, ⟨A, k, rfl, h⟩, hr2⟩
  | a :: t, vs, m + 1, hr, hm => by
    obtain ⟨cs, rest, rfl, ⟨A0, k0, rfl, h0⟩, hr2⟩ := hr
    have ih := rows_ed h t rest m hr2 (by simpa using hm)
    have e1 : (m + 1) * 2 + 1 = (m * 2 + 1) + 1 + 1 := by omega
    have e2 : Tr.it (a :: t) (m + 1) = Tr.it t m := by simp [Tr.it]
    refine ⟨[strV a.path, .slice A0 a.lines.length k0], rest.set (m * 2 + 1) (.slice A ls.length k), ?_, ⟨A0, k0, rfl, h0⟩, ?_⟩
    · rw [e1]; rfl
    · rw [e2]; exact ih
/-- What 'Apply' tells of an edit of the file number m. -/
def TaPost (w : World) (t : List Tr.F) (m : Nat) (q : List (List UInt8) × (Int × Int)) (e : Ending) (w' : World) : Prop :=
  Below w.heap.size w w' ∧ (q.2.1 ≠ 0 ∧ (∃ ix, e = .returned (.tuple #[.agg #[.slice none 0 0], .agg #[.int .i64 q.2.1, .int .i64 ix]])) ∨
    q.2.1 = 0 ∧ ∃ A c, e = .returned (.tuple #[.agg #[.slice A t.length c], .agg #[.int .i64 0, .int .i64 0]]) ∧ t.length ≤ c ∧ VfV w' (Under w.heap.size) A (ed t m q.1))
/-- The boxes of the call and its results' cells. -/
structure TaSt (w wr : World) (cb : Nat) (B : Option Addr) (n c : Nat) : Prop where
  b0 : Blk wr w.heap.size 41 #[.slice (some ⟨cb, 0, none⟩) 1 1]
  b1 : Blk wr (w.heap.size + 1) 24 #[.slice B n c]
  b2 : Blk wr (w.heap.size + 1 + 1) 24 #[.slice none 0 0]
  b3 : Blk wr (w.heap.size + 1 + 1 + 1) 29 #[.int .i64 0, .int .i64 0]
  bel : Below w.heap.size w wr
section
variable {w wr w' : World} {cb : Nat} {B : Option Addr} {n c : Nat}
theorem TaSt.below (h : TaSt w wr cb B n c) (hb : Below wr.heap.size wr w') : TaSt w w' cb B n c :=
  ⟨h.b0.below hb h.b0.lt, h.b1.below hb h.b1.lt, h.b2.below hb h.b2.lt, h.b3.below hb h.b3.lt, h.bel.trans (hb.mono h.bel.size)⟩
theorem TaSt.facts (h : TaSt w wr cb B n c) : wr.cell? ⟨w.heap.size, 0, none⟩ = some (.slice (some ⟨cb, 0, none⟩) 1 1) ∧ wr.cell? ⟨w.heap.size + 1, 0, none⟩ = some (.slice B n c) ∧ wr.cell? ⟨w.heap.size + 1 + 1, 0, none⟩ = some (.slice none 0 0) ∧ wr.cell? ⟨w.heap.size + 1 + 1 + 1, 0, none⟩ = some (.int .i64 0) ∧ wr.cell? ⟨w.heap.size + 1 + 1 + 1, 1, none⟩ = some (.int .i64 0) :=
  ⟨(h.b0.cell 0).trans rfl, (h.b1.cell 0).trans rfl, (h.b2.cell 0).trans rfl, (h.b3.cell 0).trans rfl, (h.b3.cell 1).trans rfl⟩
theorem TaSt.frz (h : TaSt w wr cb B n c) : wr.frozen? ⟨w.heap.size + 1 + 1, 0, none⟩ = false ∧ wr.frozen? ⟨w.heap.size + 1 + 1 + 1, 0, none⟩ = false ∧ wr.frozen? ⟨w.heap.size + 1 + 1 + 1, 1, none⟩ = false :=
  ⟨h.b2.frozen 0, h.b3.frozen 0, h.b3.frozen 1⟩
theorem TaSt.lts (h : TaSt w wr cb B n c) : w.heap.size < wr.heap.size ∧ w.heap.size + 1 < wr.heap.size ∧ w.heap.size + 1 + 1 < wr.heap.size ∧ w.heap.size + 1 + 1 + 1 < wr.heap.size := ⟨h.b0.lt, h.b1.lt, h.b2.lt, h.b3.lt⟩
theorem TaSt.new (w : World) (cb : Nat) (B : Option Addr) (n c : Nat) : TaSt w ((((w.alloc (.cells #[.slice (some ⟨cb, 0, none⟩) 1 1] 41)).alloc (.cells #[.slice B n c] 24)).alloc (.cells #[.slice none 0 0] 24)).alloc (.cells #[.int .i64 0, .int .i64 0] 29)) cb B n c := by
  refine ⟨(((Blk.new _ _ _).alloc _).alloc _).alloc _, ((blk_new1 _ _ _ _).alloc _).alloc _, ?_, ?_, (below_alloc3 _ _ _ _).alloc (by simp; omega) _⟩
  · have := (Blk.new ((w.alloc (.cells #[.slice (some ⟨cb, 0, none⟩) 1 1] 41)).alloc (.cells #[.slice B n c] 24)) 24 #[.slice none 0 0]).alloc (.cells #[.int .i64 0, .int .i64 0] 29)
    simpa using this
  · have := Blk.new (((w.alloc (.cells #[.slice (some ⟨cb, 0, none⟩) 1 1] 41)).alloc (.cells #[.slice B n c] 24)).alloc (.cells #[.slice none 0 0] 24)) 29 #[.int .i64 0, .int .i64 0]
    simpa using this
/-- Both results are stored. -/
theorem TaSt.put (h : TaSt w wr cb B n c) (u v x : Value) :
    Blk (((wr.setCell ⟨w.heap.size + 1 + 1, 0, none⟩ u).setCell ⟨w.heap.size + 1 + 1 + 1, 0, none⟩ v).setCell ⟨w.heap.size + 1 + 1 + 1, 1, none⟩ x) (w.heap.size + 1 + 1) 24 #[u] ∧
    Blk (((wr.setCell ⟨w.heap.size + 1 + 1, 0, none⟩ u).setCell ⟨w.heap.size + 1 + 1 + 1, 0, none⟩ v).setCell ⟨w.heap.size + 1 + 1 + 1, 1, none⟩ x) (w.heap.size + 1 + 1 + 1) 29 #[v, x] ∧
    Below w.heap.size w (((wr.setCell ⟨w.heap.size + 1 + 1, 0, none⟩ u).setCell ⟨w.heap.size + 1 + 1 + 1, 0, none⟩ v).setCell ⟨w.heap.size + 1 + 1 + 1, 1, none⟩ x) := by
  refine ⟨(((by simpa using h.b2.set_ 0 u : Blk (wr.setCell ⟨w.heap.size + 1 + 1, 0, none⟩ u) (w.heap.size + 1 + 1) 24 #[u])).far (by simp) _).far (by simp) _, blk_put2 (h.b3.far (by simp) u) v x, ?_⟩
  exact ((h.bel.setCell (p := ⟨w.heap.size + 1 + 1, 0, none⟩) (by simp only; omega) u).setCell (p := ⟨w.heap.size + 1 + 1 + 1, 0, none⟩) (by simp only; omega) v).setCell (p := ⟨w.heap.size + 1 + 1 + 1, 1, none⟩) (by simp only; omega) x
theorem TaSt.put' (h : TaSt w wr cb B n c) (u v x : Value) :
    Blk (((wr.setCell ⟨w.heap.size + 1 + 1 + 1, 0, none⟩ v).setCell ⟨w.heap.size + 1 + 1 + 1, 1, none⟩ x).setCell ⟨w.heap.size + 1 + 1, 0, none⟩ u) (w.heap.size + 1 + 1) 24 #[u] ∧
    Blk (((wr.setCell ⟨w.heap.size + 1 + 1 + 1, 0, none⟩ v).setCell ⟨w.heap.size + 1 + 1 + 1, 1, none⟩ x).setCell ⟨w.heap.size + 1 + 1, 0, none⟩ u) (w.heap.size + 1 + 1 + 1) 29 #[v, x] ∧
    Below w.heap.size w (((wr.setCell ⟨w.heap.size + 1 + 1 + 1, 0, none⟩ v).setCell ⟨w.heap.size + 1 + 1 + 1, 1, none⟩ x).setCell ⟨w.heap.size + 1 + 1, 0, none⟩ u) := by
  refine ⟨by simpa using ((h.b2.far (by simp) v).far (by simp) x : Blk ((wr.setCell ⟨w.heap.size + 1 + 1 + 1, 0, none⟩ v).setCell ⟨w.heap.size + 1 + 1 + 1, 1, none⟩ x) (w.heap.size + 1 + 1) 24 #[.slice none 0 0]).set_ 0 u, (blk_put2 h.b3 v x).far (by simp) u, ?_⟩
  exact ((h.bel.setCell (p := ⟨w.heap.size + 1 + 1 + 1, 0, none⟩) (by simp only; omega) v).setCell (p := ⟨w.heap.size + 1 + 1 + 1, 1, none⟩) (by simp only; omega) x).setCell (p := ⟨w.heap.size + 1 + 1, 0, none⟩) (by simp only; omega) u
end
/-- The tree of the call's own behind an edit. -/
theorem ed_view {w w1 : World} {base : Nat} {A : Option Addr} {c bb m : Nat} {t : List Tr.F} {xs : List Value} {X : Nat → Prop} (h : OwnT w base X A c t xs) (hX : ∀ b, X b → b < base) (hA : A = some ⟨bb, 0, none⟩) (hm : m < t.length) (hb : Below w.heap.size w w1) {ls : List (List UInt8)} {A5 : Option Addr} {c5 : Nat} (hc : ls.length ≤ c5) (hl : ls.length ≤ 120) (hs : SA w1 (Under w.heap.size) A5 (ssV ls)) :
    VfV (w1.setCell ⟨bb, m * 2 + 1, none⟩ (.slice A5 ls.length c5)) X A (ed t m ls) := by
  subst hA
  have own1 := own_below h.own hb
  have hbb : bb < w.heap.size := (h.own.lt bb rfl).2
  have own2 := own_set own1 (by omega) (m * 2 + 1) (.slice A5 ls.length c5)
  have kp := Keeps.setCell w1 (Or1 X (.slice (some ⟨bb, 0, none⟩) t.length c)) ⟨bb, m * 2 + 1, none⟩ (.slice A5 ls.length c5) (.inr rfl)
  have ku := Keeps.setCell w1 (Under w.heap.size) ⟨bb, m * 2 + 1, none⟩ (.slice A5 ls.length c5) hbb
  have hbase : base ≤ w.heap.size := Nat.le_of_lt (Nat.lt_of_le_of_lt (h.own.lt bb rfl).1 hbb)
  have hXb : ∀ b, X b → Or1 X (.slice (some ⟨bb, 0, none⟩) t.length c) b := fun b h => .inl h
  have hUX : ∀ b, Or1 X (.slice (some ⟨bb, 0, none⟩) t.length c) b → Under w.heap.size b := fun b hb => by
    rcases hb with hb | hb
    · exact Nat.lt_of_lt_of_le (hX b hb) hbase
    · have hbe : bb = b := by simpa [Value.ownBlock] using hb
      subst hbe; exact hbb
  have r1 := (h.rows.mono (FlR.keep (Keeps.below hb (fun _ _ h => h)))).mono (FlR.keep kp)
  have ln : LnA (w1.setCell ⟨bb, m * 2 + 1, none⟩ (.slice A5 ls.length c5)) (Or1 X (.slice (some ⟨bb, 0, none⟩) t.length c)) ls A5 c5 := ⟨hc, by omega, (hs.keep ku).mono hUX⟩
  have r2 := rows_ed ln t xs m r1 hm
  refine ⟨_, SA.of_own own2 hX, r2.mono (FlR.keep ((Keeps.refl _ _).into hXb))⟩
end Go.Proofs.YtjfckjonfpkphaaDoor
