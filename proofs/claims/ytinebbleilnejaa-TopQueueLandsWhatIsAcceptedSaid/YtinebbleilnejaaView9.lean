/-
  Views, ninth part: what is kept while some blocks are written. X names the blocks that may be written; a view avoids them.
-/
import Derived.Test.YtinebbleilnejaaView8
namespace Go.V
open Go.RowKit
set_option linter.unusedVariables false

/-- The slice that begins at A holds the cells vs, in a block that X does not name. -/
def SA (w : World) (X : Nat → Prop) (A : Option Addr) (vs : List Value) : Prop :=
  vs = [] ∨ ∃ b off, A = some ⟨b, off, none⟩ ∧ b < w.heap.size ∧ ¬ X b ∧ ∀ j u, vs[j]? = some u → w.cell? ⟨b, off + j, none⟩ = some u
/-- All blocks of w that X does not name lie in w' as they were, and X' does not name them. -/
structure Keeps (w : World) (X : Nat → Prop) (w' : World) (X' : Nat → Prop) : Prop where
  size : w.heap.size ≤ w'.heap.size
  block : ∀ b, b < w.heap.size → ¬ X b → w'.heap[b]? = w.heap[b]?
  out : ∀ b, b < w.heap.size → ¬ X b → ¬ X' b
/-- The blocks from n on; the blocks below n. -/
def From (n : Nat) : Nat → Prop := fun b => n ≤ b
def Under (n : Nat) : Nat → Prop := fun b => b < n
def Free : Nat → Prop := fun _ => False
section
variable {w w' w'' : World} {X X' X'' : Nat → Prop} {A : Option Addr} {vs : List Value}
theorem Keeps.refl (w : World) (X : Nat → Prop) : Keeps w X w X := ⟨Nat.le_refl _, fun _ _ _ => rfl, fun _ _ h => h⟩
theorem Keeps.trans (h : Keeps w X w' X') (k : Keeps w' X' w'' X'') : Keeps w X w'' X'' :=
  ⟨Nat.le_trans h.size k.size, fun b hb hx => (k.block b (Nat.lt_of_lt_of_le hb h.size) (h.out b hb hx)).trans (h.block b hb hx), fun b hb hx => k.out b (Nat.lt_of_lt_of_le hb h.size) (h.out b hb hx)⟩
theorem Keeps.below (hb : Below w.heap.size w w') (hX : ∀ b, b < w.heap.size → X' b → X b) : Keeps w X w' X' :=
  ⟨hb.size, fun b h _ => hb.block b h, fun b h hx hx' => hx (hX b h hx')⟩
theorem Keeps.of_below {B : Nat} (hb : Below B w w') (hB : B ≤ w.heap.size) (hX : ∀ b, b < w.heap.size → ¬ X b → b < B) (hX' : ∀ b, b < w.heap.size → X' b → X b) : Keeps w X w' X' :=
  ⟨hb.size, fun b h hx => hb.block b (hX b h hx), fun b h hx hx' => hx (hX' b h hx')⟩
theorem Keeps.alloc (w : World) (X : Nat → Prop) (o : Obj) : Keeps w X (w.alloc o) X := .below ((Below.refl _ _).alloc (Nat.le_refl _) _) fun _ _ h => h
theorem Keeps.drew (w : World) (X : Nat → Prop) : Keeps w X w.drew X := ⟨Nat.le_refl _, fun _ _ _ => rfl, fun _ _ h => h⟩
theorem Keeps.drewN (w : World) (X : Nat → Prop) (n : Nat) : Keeps w X (w.drewN n) X := ⟨Nat.le_refl _, fun _ _ _ => rfl, fun _ _ h => h⟩
theorem Keeps.setCell (w : World) (X : Nat → Prop) (p : Addr) (u : Value) (hp : X p.block) : Keeps w X (w.setCell p u) X :=
  ⟨by simp [World.setCell], fun b _ hx => Below.heap_setCell w p u b (fun e => by subst e; exact hx hp), fun _ _ h => h⟩
theorem Keeps.grown {row : Option Nat} (hg : w.grownBy w' row) (hX : ∀ g, row = some g → g < w.heap.size → X g) (hX' : ∀ b, b < w.heap.size → X' b → X b) : Keeps w X w' X' :=
  ⟨hg.size, fun b hb hx => hg.block b hb (fun e => hx (hX b e.symm hb)), fun b hb hx hx' => hx (hX' b hb hx')⟩
theorem Keeps.into (h : Keeps w X w' X') (hX : ∀ b, X'' b → X' b) : Keeps w X w' X'' := ⟨h.size, h.block, fun b hb hx hx' => h.out b hb hx (hX b hx')⟩
theorem Keeps.from_ (h : Keeps w X w' X') (hX : ∀ b, b < w.heap.size → X b → X'' b) : Keeps w X'' w' X' :=
  ⟨h.size, fun b hb hx => h.block b hb (fun h' => hx (hX b hb h')), fun b hb hx => h.out b hb (fun h' => hx (hX b hb h'))⟩

theorem SA.nil : SA w X A [] := .inl rfl
theorem SA.keep (h : SA w X A vs) (k : Keeps w X w' X') : SA w' X' A vs := by
  rcases h with h | ⟨b, off, e, hb, hx, hc⟩
  · exact .inl h
  · exact .inr ⟨b, off, e, Nat.lt_of_lt_of_le hb k.size, k.out b hb hx, fun j u hu => (World.cell?_of_block (a := ⟨b, off + j, none⟩) (k.block b hb hx)).trans (hc j u hu)⟩
theorem SA.mono (h : SA w X A vs) (hX : ∀ b, X' b → X b) : SA w X' A vs := h.keep ((Keeps.refl w X).into hX)
theorem SA.sv (h : SA w X A vs) : SV w w.heap.size A vs := by
  rcases h with h | ⟨b, off, e, hb, _, hc⟩
  · exact .inl h
  · exact .inr ⟨b, off, e, hb, hc⟩
theorem SA.of_sv (h : SV w w.heap.size A vs) : SA w Free A vs := by
  rcases h with h | ⟨b, off, e, hb, hc⟩
  · exact .inl h
  · exact .inr ⟨b, off, e, hb, fun h => h, hc⟩
/-- What lies below B. -/
theorem SA.of_low {B : Nat} (h : SV w B A vs) (hB : B ≤ w.heap.size) (hX : ∀ b, X b → B ≤ b) : SA w X A vs := by
  rcases h with h | ⟨b, off, e, hb, hc⟩
  · exact .inl h
  · exact .inr ⟨b, off, e, by omega, fun hx => by have := hX b hx; omega, hc⟩
/-- What lies from lo on. -/
theorem SA.of_high {lo : Nat} (h : SV w w.heap.size A vs) (hA : ∀ ad, A = some ad → lo ≤ ad.block) (hX : ∀ b, X b → b < lo) : SA w X A vs := by
  rcases h with h | ⟨b, off, e, hb, hc⟩
  · exact .inl h
  · exact .inr ⟨b, off, e, hb, fun hx => by have := hX b hx; have := hA _ e; simp at this; omega, hc⟩
theorem SA.of_own {base : Nat} {e : TypeId} {size n c : Nat} (h : w.ownsRow base e size (.slice A n c) n vs) (hX : ∀ b, X b → b < base) : SA w X A vs := by
  refine SA.of_high (lo := base) (SV.of_own h) (fun ad ea => ?_) hX
  subst ea
  exact (h.lt ad.block rfl).1
/-- A row of the call's own is a view that avoids all else. -/
theorem SA.of_own' {base : Nat} {e : TypeId} {size n c : Nat} (h : w.ownsRow base e size (.slice A n c) n vs) (hX : ∀ b, (Value.slice A n c).ownBlock = some b → ¬ X b) : SA w X A vs := by
  rcases SV.of_own h with h2 | ⟨b, off, e2, hb, hc⟩
  · exact .inl h2
  · subst e2
    exact .inr ⟨b, off, rfl, hb, hX b rfl, hc⟩
theorem SA.of_blk {g : Nat} {t : TypeId} {cs : Array Value} (h : Blk w g t cs) (hX : ¬ X g) : SA w X (some ⟨g, 0, none⟩) cs.toList :=
  .inr ⟨g, 0, rfl, h.lt, hX, fun j u hu => by rw [Nat.zero_add, h.cell j, ← Array.getElem?_toList]; exact hu⟩
theorem SA.at_ (h : SA w X A vs) (hn : 0 < vs.length) : ∃ b off, A = some ⟨b, off, none⟩ ∧ b < w.heap.size ∧ ¬ X b ∧ ∀ j u, vs[j]? = some u → w.cell? ⟨b, off + j, none⟩ = some u := by
  rcases h with rfl | h
  · simp at hn
  · exact h
/-- One cell of it. -/
theorem SA.get (h : SA w X A vs) (i : Nat) (hi : i < vs.length) : ∃ b off, A = some ⟨b, off, none⟩ ∧ b < w.heap.size ∧ ¬ X b ∧ w.cell? ⟨b, off + i, none⟩ = some vs[i] := by
  obtain ⟨b, off, e, hb, hx, hc⟩ := h.at_ (by omega)
  exact ⟨b, off, e, hb, hx, hc i _ (by simp [hi])⟩
theorem SA.take (h : SA w X A vs) (k : Nat) : SA w X A (vs.take k) := by
  rcases h with rfl | ⟨b, off, e, hb, hx, hc⟩
  · exact .inl (by simp)
  · refine .inr ⟨b, off, e, hb, hx, fun j u hu => hc j u ?_⟩
    rw [List.getElem?_take] at hu
    split at hu
    · exact hu
    · cases hu
theorem SA.drop (h : SA w X A vs) (k : Nat) (P : Prop) [Decidable P] (hp : P → vs.length ≤ k ∨ k = 0) : SA w X (if P then A else A.map (·.add k)) (vs.drop k) := by
  by_cases h0 : vs.length ≤ k
  · exact .inl (by simpa using h0)
  · obtain ⟨b, off, rfl, hb, hx, hc⟩ := h.at_ (by omega)
    by_cases hP : P
    · rw [if_pos hP]
      have hk : k = 0 := (hp hP).resolve_left h0
      subst hk
      exact .inr ⟨b, off, rfl, hb, hx, by simpa using hc⟩
    · rw [if_neg hP]
      refine .inr ⟨b, off + k, ?_, hb, hx, fun j u hu => ?_⟩
      · simp only [Option.map_some, Addr.add]
        split
        · rename_i h; simp [h]
        · rfl
      · rw [List.getElem?_drop] at hu
        rw [Nat.add_assoc]
        exact hc _ u hu
/-- Element i of a slice of elements of k cells. -/
theorem SA.row {α : Type} {R : α → List Value → Prop} {k : Nat} (hk : ∀ a cs, R a cs → cs.length = k) (hk0 : 0 < k) {l : List α} (h : SA w X A vs) (hr : RowsR R l vs) (i : Nat) (hi : i < l.length) :
    ∃ b off cs, A = some ⟨b, off, none⟩ ∧ b < w.heap.size ∧ ¬ X b ∧ R l[i] cs ∧ ∀ j u, cs[j]? = some u → w.cell? ⟨b, off + i * k + j, none⟩ = some u := by
  have hl := hr.length hk
  have : 0 < vs.length := by rw [hl]; exact Nat.mul_pos (by omega) hk0
  obtain ⟨b, off, e, hb, hx, hc⟩ := h.at_ this
  obtain ⟨cs, hcs, hu⟩ := hr.at_ hk i hi
  exact ⟨b, off, cs, e, hb, hx, hcs, fun j u hj => by rw [Nat.add_assoc]; exact hc _ _ (hu j u hj)⟩

section
variable {P : Program} (w : World)
/-- 'wpList_appN', and which block the row then owns. -/
theorem wpList_appNo {ops : Array Oper} {rest : List Oper} {o : Oper} {a : Act} {Q : Exit → Act → World → Prop} (hgd : o.guard = none) (s x : Operand) (t : TypeId)
    (ho : o.op = .call { callee := .builtin .append, args := #[s, x], argTypes := #[t, t] })
    (base : Nat) (e : TypeId) (i : TypeInfo) (z : Value) (size bytes : Nat) (ht : P.underlying t = some (.slice e)) (hi : P.info? e = some i) (hz : i.zero = some z)
    (hsize : i.size = size) (hby : i.bytes = bytes) (hzs : z.cells.size = size) (hsz : 0 < size)
    (A : Option Addr) (n c : Nat) (xs : List Value) (hs : a.eval s = .slice A n c) (hown : w.ownsRow base e size (.slice A n c) n xs)
    (B : Nat) (A2 : Option Addr) (m c2 : Nat) (news : List Value) (hx : a.eval x = .slice A2 m c2) (hl : news.length = m * size) (hr : SV w B A2 news) (h1 : ∀ u ∈ news, u.oneCell' = true)
    (h63 : n + m ≤ maxLen) (hbytes : (n + m) * bytes ≤ 140737488355328) (hbase : base ≤ w.heap.size)
    (h : ∀ A' c' w', w'.ownsRow base e size (.slice A' (n + m) c') (n + m) (xs ++ news) → w.grownBy w' (Value.slice A n c).ownBlock → n + m ≤ c' → ((Value.slice A' (n + m) c').ownBlock = (Value.slice A n c).ownBlock ∨ (Value.slice A' (n + m) c').ownBlock = some w.heap.size) → wpList P ops Q rest (a.put o.dst (.slice A' (n + m) c')) w') : wpList P ops Q (o :: rest) a w := by
  refine wpList_append_sv w hgd s x t ho base e i z size bytes ht hi hz hsize hby hzs hsz (.slice A n c) n xs hs hown B A2 m c2 news hx hl hr h1 h63 hbytes hbase ?_
  intro v' w' hown' hg' hbl
  obtain ⟨A', c', rfl, hc', _⟩ := own_form hown'
  exact h A' c' w' hown' hg' hc' hbl
end
/-- What is named besides a row's own block. -/
def Or1 (X : Nat → Prop) (v : Value) : Nat → Prop := fun b => X b ∨ v.ownBlock = some b
def Or2 (X : Nat → Prop) (v u : Value) : Nat → Prop := fun b => X b ∨ v.ownBlock = some b ∨ u.ownBlock = some b
/-- Behind an append to a row: what avoided it does so still. -/
theorem Keeps.or1 {w w' : World} {X : Nat → Prop} {v v' : Value} {H : Nat} (hg : w.grownBy w' v.ownBlock) (hH : w.heap.size = H) (hb : v'.ownBlock = v.ownBlock ∨ v'.ownBlock = some H) : Keeps w (Or1 X v) w' (Or1 X v') := by
  refine Keeps.grown hg (fun g h _ => .inr h) (fun b hlt hx => ?_)
  rcases hx with hx | hx
  · exact .inl hx
  · rcases hb with hb | hb
    · exact .inr (hb ▸ hx)
    · rw [hb] at hx
      injection hx with hx
      omega
theorem Keeps.or2a {w w' : World} {X : Nat → Prop} {v v' u : Value} {H : Nat} (hg : w.grownBy w' v.ownBlock) (hH : w.heap.size = H) (hb : v'.ownBlock = v.ownBlock ∨ v'.ownBlock = some H) : Keeps w (Or2 X v u) w' (Or2 X v' u) := by
  refine Keeps.grown hg (fun g h _ => .inr (.inl h)) (fun b hlt hx => ?_)
  rcases hx with hx | hx | hx
  · exact .inl hx
  · rcases hb with hb | hb
    · exact .inr (.inl (hb ▸ hx))
    · rw [hb] at hx
      injection hx with hx
      omega
  · exact .inr (.inr hx)
theorem Keeps.or2b {w w' : World} {X : Nat → Prop} {v u u' : Value} {H : Nat} (hg : w.grownBy w' u.ownBlock) (hH : w.heap.size = H) (hb : u'.ownBlock = u.ownBlock ∨ u'.ownBlock = some H) : Keeps w (Or2 X v u) w' (Or2 X v u') := by
  refine Keeps.grown hg (fun g h _ => .inr (.inr h)) (fun b hlt hx => ?_)
  rcases hx with hx | hx | hx
  · exact .inl hx
  · exact .inr (.inl hx)
  · rcases hb with hb | hb
    · exact .inr (.inr (hb ▸ hx))
    · rw [hb] at hx
      injection hx with hx
      omega
/-- The blocks of some rows of the call's own. -/
def Own1 (v : Value) : Nat → Prop := fun b => v.ownBlock = some b
def Own2 (v u : Value) : Nat → Prop := fun b => v.ownBlock = some b ∨ u.ownBlock = some b
/-- Behind an append to a row: what avoided it does so still. -/
theorem Keeps.app1 {v v' : Value} (o : Obj) (hg : (w.alloc o).grownBy w' v.ownBlock) (hb : v'.ownBlock = v.ownBlock ∨ v'.ownBlock = some (w.heap.size + 1)) : Keeps w (Own1 v) w' (Own1 v') := by
  refine (Keeps.alloc w (Own1 v) o).trans (Keeps.grown hg (fun g h _ => h) (fun b hlt hx => ?_))
  unfold Own1 at *
  rcases hb with hb | hb
  · rw [← hb]; exact hx
  · rw [hb] at hx
    injection hx with hx
    simp at hlt; omega
end
end Go.V
