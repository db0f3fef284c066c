/-
  Views: what a slice value reads as, in words that are kept over draws, new blocks and the calls of others. Plain lemmas on worlds; no program of its own.
  Views, second part: append with the new value written out.
  Views, fifth part: rows of numbers and of bools that the call makes and writes in place, as functions of the index.
  Views, eighth part: append where two rows of one element type are kept apart.
  Views, ninth part: what is kept while some blocks are written. X names the blocks that may be written; a view avoids them.
-/
import Derived.WalkKit
import Derived.Laws.OwnMore
import Derived.Deep.AppendLies
import Derived.Deep.Draws
import Derived.Maps.AppendAt
import Derived.Lib.Hide
import Derived.KernelRfl
import Derived.Deep.OwnRows
namespace Go.V
open Go.RowKit

theorem block_of_add (a : Addr) (n : Nat) : (a.add n).block = a.block := by unfold Addr.add; split <;> rfl

/-- The slice that begins at A holds the cells vs, in a block below B. -/
def SV (w : World) (B : Nat) (A : Option Addr) (vs : List Value) : Prop :=
  vs = [] ∨ ∃ b off, A = some ⟨b, off, none⟩ ∧ b < B ∧ ∀ j u, vs[j]? = some u → w.cell? ⟨b, off + j, none⟩ = some u

section
variable {w w' : World} {B B' : Nat} {A : Option Addr} {vs : List Value}
theorem SV.nil : SV w B A [] := .inl rfl
theorem SV.at_ (h : SV w B A vs) (hn : 0 < vs.length) : ∃ b off, A = some ⟨b, off, none⟩ ∧ b < B ∧ ∀ j u, vs[j]? = some u → w.cell? ⟨b, off + j, none⟩ = some u := by
  rcases h with rfl | h
  · simp at hn
  · exact h
theorem SV.keep (h : SV w B A vs) (hk : ∀ p : Addr, p.block < B → w'.cell? p = w.cell? p) : SV w' B A vs := by
  rcases h with h | ⟨b, off, e, hb, hc⟩
  · exact .inl h
  · exact .inr ⟨b, off, e, hb, fun j u hu => (hk _ hb).trans (hc j u hu)⟩
theorem SV.more (h : SV w B A vs) (hB : B ≤ B') : SV w B' A vs := by
  rcases h with h | ⟨b, off, e, hb, hc⟩
  · exact .inl h
  · exact .inr ⟨b, off, e, by omega, hc⟩
theorem SV.below (h : SV w B A vs) (hb : Below B' w w') (hB : B ≤ B') : SV w' B A vs := h.keep fun _ hp => hb.cell (by omega)
theorem SV.drew (h : SV w B A vs) : SV w.drew B A vs := h
theorem SV.drewN (h : SV w B A vs) (k : Nat) : SV (w.drewN k) B A vs := h
theorem SV.alloc (h : SV w B A vs) (hB : B ≤ w.heap.size) (o : Obj) : SV (w.alloc o) B A vs := h.keep fun p hp => World.cell?_alloc_lt w o p (by omega)
theorem SV.setCell (h : SV w B A vs) {p : Addr} (hB : B ≤ p.block) (u : Value) : SV (w.setCell p u) B A vs :=
  h.keep fun q hq => World.cell?_setCell_other w p q u (fun e => by subst e; omega)
theorem SV.grown (h : SV w B A vs) {row : Option Nat} (hg : w.grownBy w' row) (hB : B ≤ w.heap.size) (hr : ∀ g, row = some g → B ≤ g) : SV w' B A vs :=
  h.keep fun p hp => World.cell?_of_block (hg.block p.block (by omega) (fun e => by have := hr _ e.symm; omega))
/-- A cut from below: 's[k:]'. -/
theorem SV.cut (h : SV w B A vs) (k : Nat) (P : Prop) [Decidable P] (hp : P → vs.length ≤ k ∨ k = 0) :
    SV w B (if P then A else A.map (·.add k)) (vs.drop k) := by
  by_cases h0 : vs.length ≤ k
  · exact .inl (by simpa using h0)
  · obtain ⟨b, off, rfl, hb, hc⟩ := h.at_ (by omega)
    by_cases hP : P
    · rw [if_pos hP]
      have hk : k = 0 := (hp hP).resolve_left h0
      subst hk
      exact .inr ⟨b, off, rfl, hb, by simpa using hc⟩
    · rw [if_neg hP]
      refine .inr ⟨b, off + k, ?_, hb, fun j u hu => ?_⟩
      · simp only [Option.map_some, Addr.add]
        split
        · rename_i h; simp [h]
        · rfl
      · rw [List.getElem?_drop] at hu
        rw [Nat.add_assoc]
        exact hc _ u hu
theorem SV.take (h : SV w B A vs) (k : Nat) : SV w B A (vs.take k) := by
  rcases h with rfl | ⟨b, off, e, hb, hc⟩
  · exact .inl (by simp)
  · refine .inr ⟨b, off, e, hb, fun j u hu => hc j u ?_⟩
    rw [List.getElem?_take] at hu
    split at hu
    · exact hu
    · cases hu
theorem SV.of_own {base : Nat} {e : TypeId} {size n c : Nat} (h : w.ownsRow base e size (.slice A n c) n vs) : SV w w.heap.size A vs := by
  rcases Nat.eq_zero_or_pos n with hn | hn
  · subst hn
    exact .inl (List.eq_nil_of_length_eq_zero (by simpa using h.1))
  · obtain ⟨g, cap, hv, _, hlt⟩ := h.form hn
    have hA : A = some ⟨g, 0, none⟩ := by injection hv
    subst hA
    refine .inr ⟨g, 0, rfl, hlt, fun j u hu => ?_⟩
    have := h.cells (g := g) rfl j u hu
    unfold Addr.add at this
    split at this
    · rename_i hj; subst hj; exact this
    · exact this
end

/-- What a slice value's shape is: owned rows begin at a block's head. -/
theorem own_form {w : World} {base : Nat} {e : TypeId} {size : Nat} {v : Value} {n : Nat} {vs : List Value} (h : w.ownsRow base e size v n vs) :
    ∃ A c, v = .slice A n c ∧ n ≤ c ∧ c ≤ maxLen := by
  rcases h.2 with ⟨rfl, rfl⟩ | ⟨g, cap, cur, rfl, _, _, hn, hm, _⟩
  · exact ⟨none, 0, rfl, Nat.le_refl _, by simp [maxLen]⟩
  · exact ⟨_, cap, rfl, hn, hm⟩

/-- The bytes of a slice of bytes, the numbers of a slice of numbers. -/
def bytesV (l : List UInt8) : List Value := l.map fun b => .int .u8 b.toNat
def intsV (l : List Int) : List Value := l.map fun n => .int .i64 n
def boolsV (l : List Bool) : List Value := l.map fun b => .bool b
@[simp] theorem bytesV_length (l : List UInt8) : (bytesV l).length = l.length := by simp [bytesV]
@[simp] theorem intsV_length (l : List Int) : (intsV l).length = l.length := by simp [intsV]
@[simp] theorem boolsV_length (l : List Bool) : (boolsV l).length = l.length := by simp [boolsV]
@[simp] theorem bytesV_append (l m : List UInt8) : bytesV (l ++ m) = bytesV l ++ bytesV m := by simp [bytesV]
@[simp] theorem intsV_append (l m : List Int) : intsV (l ++ m) = intsV l ++ intsV m := by simp [intsV]
@[simp] theorem boolsV_append (l m : List Bool) : boolsV (l ++ m) = boolsV l ++ boolsV m := by simp [boolsV]
theorem bytesV_one (l : List UInt8) : ∀ u ∈ bytesV l, u.oneCell' = true := by
  intro u hu; simp only [bytesV, List.mem_map] at hu; obtain ⟨b, _, rfl⟩ := hu; rfl
theorem intsV_one (l : List Int) : ∀ u ∈ intsV l, u.oneCell' = true := by
  intro u hu; simp only [intsV, List.mem_map] at hu; obtain ⟨b, _, rfl⟩ := hu; rfl
theorem boolsV_one (l : List Bool) : ∀ u ∈ boolsV l, u.oneCell' = true := by
  intro u hu; simp only [boolsV, List.mem_map] at hu; obtain ⟨b, _, rfl⟩ := hu; rfl

section
variable {w w' : World} {B : Nat} {A : Option Addr}
theorem SV.byte {l : List UInt8} (h : SV w B A (bytesV l)) (i : Nat) (hi : i < l.length) : ∃ b off, A = some ⟨b, off, none⟩ ∧ b < B ∧ w.cell? ⟨b, off + i, none⟩ = some (.int .u8 l[i].toNat) := by
  obtain ⟨b, off, e, hb, hc⟩ := h.at_ (by simp; omega)
  exact ⟨b, off, e, hb, hc i _ (by simp [bytesV, hi])⟩
theorem SV.int {l : List Int} (h : SV w B A (intsV l)) (i : Nat) (hi : i < l.length) : ∃ b off, A = some ⟨b, off, none⟩ ∧ b < B ∧ w.cell? ⟨b, off + i, none⟩ = some (.int .i64 l[i]) := by
  obtain ⟨b, off, e, hb, hc⟩ := h.at_ (by simp; omega)
  exact ⟨b, off, e, hb, hc i _ (by simp [intsV, hi])⟩
theorem SV.bool {l : List Bool} (h : SV w B A (boolsV l)) (i : Nat) (hi : i < l.length) : ∃ b off, A = some ⟨b, off, none⟩ ∧ b < B ∧ w.cell? ⟨b, off + i, none⟩ = some (.bool l[i]) := by
  obtain ⟨b, off, e, hb, hc⟩ := h.at_ (by simp; omega)
  exact ⟨b, off, e, hb, hc i _ (by simp [boolsV, hi])⟩
end

/-! ### append onto a row of the call's own, whatever the source -/
section
variable {P : Program} (w : World)

theorem run_append_of_nil (base : Nat) (t ty e : TypeId) (i : TypeInfo) (size : Nat) (ht : P.underlying t = some (.slice e)) (hi : P.info? e = some i)
    (v : Value) (n : Nat) (xs : List Value) (hown : w.ownsRow base e size v n xs) (c : Nat) : (Builtin.append_ #[t, t] ty #[v, .slice none 0 c]).run P w = .ok v w := by
  rcases hown.2 with ⟨rfl, rfl⟩ | ⟨g, cap, cur, rfl, _, _, hnc, _⟩
  · simp [Builtin.append_, run_underlying ht, sizeOf, typeInfo, hi, Builtin.lenOf, Builtin.firstCells]
  · simp [Builtin.append_, run_underlying ht, sizeOf, typeInfo, hi, Builtin.lenOf, Builtin.firstCells, hnc, storeCells]

theorem run_append_sv (base : Nat) (t ty e : TypeId) (i : TypeInfo) (z : Value) (size bytes : Nat) (ht : P.underlying t = some (.slice e)) (hi : P.info? e = some i) (hz : i.zero = some z)
    (hsize : i.size = size) (hby : i.bytes = bytes) (hzs : z.cells.size = size) (hsz : 0 < size)
    (v : Value) (n : Nat) (xs : List Value) (hown : w.ownsRow base e size v n xs)
    (B : Nat) (A : Option Addr) (m c : Nat) (news : List Value) (hl : news.length = m * size) (hr : SV w B A news) (h1 : ∀ u ∈ news, u.oneCell' = true)
    (h63 : n + m ≤ maxLen) (hbytes : (n + m) * bytes ≤ 140737488355328) (hbase : base ≤ w.heap.size) :
    ∃ v' w', (Builtin.append_ #[t, t] ty #[v, .slice A m c]).run P w = .ok v' w' ∧ w'.ownsRow base e size v' (n + m) (xs ++ news) ∧ w.grownBy w' v.ownBlock ∧
      (v'.ownBlock = v.ownBlock ∨ v'.ownBlock = some w.heap.size) := by
  rcases A with _ | ad
  · have hn : news = [] := by
      rcases hr with h | ⟨b, off, h, _⟩
      · exact h
      · cases h
    subst hn
    have hm : m = 0 := by
      rcases Nat.eq_zero_or_pos m with h0 | h0
      · exact h0
      · have := Nat.mul_pos h0 hsz
        simp at hl; omega
    subst hm
    exact ⟨v, w, run_append_of_nil w base t ty e i size ht hi v n xs hown c, by simpa using hown, World.grownBy.refl w _, .inl rfl⟩
  · have hcells : ∀ j u, news[j]? = some u → w.cell? (ad.add j) = some u := by
      intro j u hu
      rcases hr with h | ⟨b, off, h, _, hc⟩
      · subst h; simp at hu
      · injection h with h
        subst h
        have := hc j u hu
        unfold Addr.add
        split
        · rename_i hj; subst hj; exact this
        · exact this
    obtain ⟨v', w', hrun, h2, h3, _, h5⟩ := run_append_own_at (P := P) w base t ty e i z size bytes ht hi hz hsize hby hzs hsz v n xs hown ad m c news hl hcells h1 h63 hbytes hbase
    exact ⟨v', w', hrun, h2, h3, h5⟩

theorem wp_append_sv {o : Oper} {a : Act} {K : Act → World → Prop} {Q : Exit → Act → World → Prop} (s x : Operand) (t : TypeId)
    (ho : o.op = .call { callee := .builtin .append, args := #[s, x], argTypes := #[t, t] })
    (base : Nat) (e : TypeId) (i : TypeInfo) (z : Value) (size bytes : Nat) (ht : P.underlying t = some (.slice e)) (hi : P.info? e = some i) (hz : i.zero = some z)
    (hsize : i.size = size) (hby : i.bytes = bytes) (hzs : z.cells.size = size) (hsz : 0 < size)
    (v : Value) (n : Nat) (xs : List Value) (hs : a.eval s = v) (hown : w.ownsRow base e size v n xs)
    (B : Nat) (A : Option Addr) (m c : Nat) (news : List Value) (hx : a.eval x = .slice A m c) (hl : news.length = m * size) (hr : SV w B A news) (h1 : ∀ u ∈ news, u.oneCell' = true)
    (h63 : n + m ≤ maxLen) (hbytes : (n + m) * bytes ≤ 140737488355328) (hbase : base ≤ w.heap.size)
    (h : ∀ v' w', w'.ownsRow base e size v' (n + m) (xs ++ news) → w.grownBy w' v.ownBlock → (v'.ownBlock = v.ownBlock ∨ v'.ownBlock = some w.heap.size) → K (a.put o.dst v') w') : o.wp P a w K Q := by
  obtain ⟨v', w', hrun, h2, h3, h4⟩ := run_append_sv (P := P) w base t o.type e i z size bytes ht hi hz hsize hby hzs hsz v n xs hown B A m c news hl hr h1 h63 hbytes hbase
  unfold Oper.wp execOp
  simp only [ho, resolve, invoke, builtin, Sem.run_bind, Sem.run_pure, Result.andThen_ok, List.map_toArray, List.map_cons, List.map_nil, hs, hx, hrun]
  exact h v' w' h2 h3 h4

theorem wpList_append_sv {ops : Array Oper} {rest : List Oper} {o : Oper} {a : Act} {Q : Exit → Act → World → Prop} (hgd : o.guard = none) (s x : Operand) (t : TypeId)
    (ho : o.op = .call { callee := .builtin .append, args := #[s, x], argTypes := #[t, t] })
    (base : Nat) (e : TypeId) (i : TypeInfo) (z : Value) (size bytes : Nat) (ht : P.underlying t = some (.slice e)) (hi : P.info? e = some i) (hz : i.zero = some z)
    (hsize : i.size = size) (hby : i.bytes = bytes) (hzs : z.cells.size = size) (hsz : 0 < size)
    (v : Value) (n : Nat) (xs : List Value) (hs : a.eval s = v) (hown : w.ownsRow base e size v n xs)
    (B : Nat) (A : Option Addr) (m c : Nat) (news : List Value) (hx : a.eval x = .slice A m c) (hl : news.length = m * size) (hr : SV w B A news) (h1 : ∀ u ∈ news, u.oneCell' = true)
    (h63 : n + m ≤ maxLen) (hbytes : (n + m) * bytes ≤ 140737488355328) (hbase : base ≤ w.heap.size)
    (h : ∀ v' w', w'.ownsRow base e size v' (n + m) (xs ++ news) → w.grownBy w' v.ownBlock → (v'.ownBlock = v.ownBlock ∨ v'.ownBlock = some w.heap.size) → wpList P ops Q rest (a.put o.dst v') w') : wpList P ops Q (o :: rest) a w :=
  wpList_plain hgd fun _ hK => wp_append_sv w s x t ho base e i z size bytes ht hi hz hsize hby hzs hsz v n xs hs hown B A m c news hx hl hr h1 h63 hbytes hbase fun v' w' h2 h3 h4 => hK _ _ (h v' w' h2 h3 h4)
end

/-- Behind an append by these laws: what lay below the call's own blocks is as it was. -/
theorem below_append {B base : Nat} {a w w' : World} {e : TypeId} {size n : Nat} {v : Value} {xs : List Value} (h : Below B a w) (hown : w.ownsRow base e size v n xs) (hg : w.grownBy w' v.ownBlock)
    (hB : B ≤ base) (hbase : base ≤ w.heap.size) : Below B a w' :=
  h.grown hg (by omega) fun k hk => by have := (hown.lt k hk).1; omega
/-- Another owned row is kept, if the row that was appended to lies in another block. -/
theorem own_kept {base base' : Nat} {w w' : World} {e : TypeId} {size n : Nat} {v v2 : Value} {xs : List Value} (h : w.ownsRow base e size v n xs) (hg : w.grownBy w' v2.ownBlock)
    (hne : ∀ g, v2.ownBlock = some g → base' ≤ g) (hlt : ∀ g, v.ownBlock = some g → g < base') : w'.ownsRow base e size v n xs := by
  refine h.kept hg ?_
  rcases hv : v.ownBlock with _ | g
  · exact .inl rfl
  · refine .inr (fun e2 => ?_)
    have h1 := hlt g hv
    have h2 := hne g e2.symm
    omega

/-- Two blocks of different element types are not one. -/
theorem own_ne_own {w : World} {base base' : Nat} {e e' : TypeId} {size size' n n' : Nat} {v v' : Value} {xs xs' : List Value} (h : w.ownsRow base e size v n xs) (h' : w.ownsRow base' e' size' v' n' xs') (hne : e ≠ e') :
    v.ownBlock = none ∨ v.ownBlock ≠ v'.ownBlock := by
  rcases h.2 with ⟨rfl, _⟩ | ⟨g, cap, cur, rfl, _, hh, _⟩
  · exact .inl rfl
  · refine .inr (fun he => ?_)
    rcases h'.2 with ⟨rfl, _⟩ | ⟨g', cap', cur', rfl, _, hh', _⟩
    · simp [Value.ownBlock] at he
    · simp [Value.ownBlock] at he
      subst he
      rw [hh] at hh'
      injection hh' with hh'
      injection hh' with _ ht
      exact hne ht

/-! ### frames: only one block has turned; a block that is known whole -/
theorem only_drewN {a w : World} {row : Option Nat} (h : a.grownBy w row) (n : Nat) : a.grownBy (w.drewN n) row := ⟨h.os, h.tape, h.output, h.size, h.block⟩
theorem only_drew {a w : World} {row : Option Nat} (h : a.grownBy w row) : a.grownBy w.drew row := ⟨h.os, h.tape, h.output, h.size, h.block⟩
theorem only_alloc {a w : World} {row : Option Nat} (h : a.grownBy w row) (o : Obj) : a.grownBy (w.alloc o) row :=
  ⟨h.os, h.tape, h.output, Nat.le_trans h.size (by simp), fun i hi hne => (Below.heap_alloc w o i (Nat.lt_of_lt_of_le hi h.size)).trans (h.block i hi hne)⟩
theorem only_setCell {a w : World} {row : Option Nat} (h : a.grownBy w row) {p : Addr} (hp : some p.block = row ∨ a.heap.size ≤ p.block) (u : Value) : a.grownBy (w.setCell p u) row :=
  ⟨h.os, h.tape, h.output, by simpa [World.setCell] using h.size, fun i hi hne => (Below.heap_setCell w p u i (by
    rintro rfl
    rcases hp with hp | hp
    · exact hne hp
    · omega)).trans (h.block i hi hne)⟩
theorem only_trans {a b c : World} {row row' : Option Nat} (h : a.grownBy b row) (k : b.grownBy c row') (hr : ∀ g, row' = some g → row = some g ∨ a.heap.size ≤ g) : a.grownBy c row :=
  ⟨k.os.trans h.os, k.tape.trans h.tape, k.output.trans h.output, Nat.le_trans h.size k.size, fun i hi hne => (k.block i (Nat.lt_of_lt_of_le hi h.size) (fun e => by
    rcases hr i e.symm with h1 | h1
    · exact hne h1.symm
    · omega)).trans (h.block i hi hne)⟩
theorem only_of_below {a w : World} (h : Below a.heap.size a w) (row : Option Nat) : a.grownBy w row := ⟨h.os, h.tape, h.output, h.size, fun i hi _ => h.block i hi⟩
theorem below_of_only {a w : World} {B : Nat} {row : Option Nat} (h : a.grownBy w row) (hB : B ≤ a.heap.size) (hr : ∀ g, row = some g → B ≤ g) : Below B a w := (Below.refl B a).grown h hB hr

def Blk (w : World) (g : Nat) (t : TypeId) (cs : Array Value) : Prop := w.heap[g]? = some (.cells cs t (0, 0))
section
variable {w w' : World} {g : Nat} {t : TypeId} {cs : Array Value}
theorem Blk.lt (h : Blk w g t cs) : g < w.heap.size := by
  rcases Nat.lt_or_ge g w.heap.size with hlt | hge
  · exact hlt
  · unfold Blk at h; rw [Array.getElem?_eq_none hge] at h; cases h
theorem Blk.cell (h : Blk w g t cs) (i : Nat) : w.cell? ⟨g, i, none⟩ = cs[i]? := cell_of_row w g i cs t (0, 0) h
theorem Blk.frozen (h : Blk w g t cs) (i : Nat) : w.frozen? ⟨g, i, none⟩ = false := by
  unfold Blk at h
  simp [World.frozen?, h]
theorem Blk.new (w : World) (t : TypeId) (cs : Array Value) : Blk (w.alloc (.cells cs t)) w.heap.size t cs := heap_alloc_new w _
theorem Blk.drew (h : Blk w g t cs) : Blk w.drew g t cs := h
theorem Blk.drewN (h : Blk w g t cs) (n : Nat) : Blk (w.drewN n) g t cs := h
theorem Blk.alloc (h : Blk w g t cs) (o : Obj) : Blk (w.alloc o) g t cs := (Below.heap_alloc w o g h.lt).trans h
theorem Blk.set_ (h : Blk w g t cs) (i : Nat) (u : Value) : Blk (w.setCell ⟨g, i, none⟩ u) g t (cs.setIfInBounds i u) := by
  unfold Blk at h ⊢
  simp [World.setCell, Array.getElem?_modify, h]
theorem Blk.far (h : Blk w g t cs) {p : Addr} (hp : g ≠ p.block) (u : Value) : Blk (w.setCell p u) g t cs := (Below.heap_setCell w p u g hp).trans h
theorem Blk.below {B : Nat} (h : Blk w g t cs) (hb : Below B w w') (hg : g < B) : Blk w' g t cs := (hb.block g hg).trans h
theorem Blk.grown {row : Option Nat} (h : Blk w g t cs) (hb : w.grownBy w' row) (hg : some g ≠ row) : Blk w' g t cs := (hb.block g h.lt hg).trans h
theorem Blk.ne_ {g' : Nat} {t' : TypeId} {cs' : Array Value} (h : Blk w g t cs) (h' : Blk w g' t' cs') (hne : t ≠ t') : g ≠ g' := by
  rintro rfl
  unfold Blk at h h'
  rw [h] at h'
  injection h' with h'
  injection h' with _ ht
  exact hne ht
theorem own_blk_ne {base : Nat} {e : TypeId} {size n : Nat} {v : Value} {xs : List Value} (h : w.ownsRow base e size v n xs) (hg : Blk w g t cs) (hne : e ≠ t) : some g ≠ v.ownBlock := by
  rcases h.2 with ⟨rfl, _⟩ | ⟨g', cap, cur, rfl, _, hh, _⟩
  · simp [Value.ownBlock]
  · intro he
    have : g' = g := by simpa [Value.ownBlock] using he.symm
    subst this
    exact Blk.ne_ (t := e) hh hg hne rfl
end

/-- A literal slice, or the one-element slice that an append makes of its argument. -/
theorem SV.lit (w : World) (cs : Array Value) (t : TypeId) : SV (w.alloc (.cells cs t)) (w.heap.size + 1) (some ⟨w.heap.size, 0, none⟩) cs.toList := by
  refine .inr ⟨w.heap.size, 0, rfl, by omega, fun j u hu => ?_⟩
  rw [Nat.zero_add, (Blk.new w t cs).cell j, ← Array.getElem?_toList]
  exact hu

/-- An owned row while a cell of another block is written. -/
theorem own_setCell {w : World} {base : Nat} {e : TypeId} {size n : Nat} {v : Value} {xs : List Value} (h : w.ownsRow base e size v n xs) {p : Addr} (hne : some p.block ≠ v.ownBlock) (u : Value) : (w.setCell p u).ownsRow base e size v n xs :=
  h.kept (only_setCell (World.grownBy.refl w (some p.block)) (.inl rfl) u) (.inr fun e => hne e.symm)

/-! ### rows of elements of several cells -/
def RowsR {α : Type} (R : α → List Value → Prop) : List α → List Value → Prop
  | [], vs => vs = []
  | a :: l, vs => ∃ cs rest, vs = cs ++ rest ∧ R a cs ∧ RowsR R l rest
section
variable {α : Type} {R R' : α → List Value → Prop} {k : Nat}
theorem RowsR.length (hk : ∀ a cs, R a cs → cs.length = k) : ∀ {l : List α} {vs : List Value}, RowsR R l vs → vs.length = l.length * k
  | [], vs, h => by simp only [RowsR] at h; subst h; simp
  | a :: l, vs, h => by
    obtain ⟨cs, rest, rfl, hc, hr⟩ := h
    have h1 := hk _ _ hc
    have h2 := RowsR.length hk hr
    simp [h1, h2, Nat.add_mul]; omega
theorem RowsR.mono (h : ∀ a cs, R a cs → R' a cs) : ∀ {l : List α} {vs : List Value}, RowsR R l vs → RowsR R' l vs
  | [], vs, hh => hh
  | a :: l, vs, hh => by
    obtain ⟨cs, rest, e, hc, hr⟩ := hh
    exact ⟨cs, rest, e, h _ _ hc, RowsR.mono h hr⟩
theorem RowsR.append : ∀ {l m : List α} {vs us : List Value}, RowsR R l vs → RowsR R m us → RowsR R (l ++ m) (vs ++ us)
  | [], m, vs, us, h, h' => by simp only [RowsR] at h; subst h; simpa using h'
  | a :: l, m, vs, us, h, h' => by
    obtain ⟨cs, rest, rfl, hc, hr⟩ := h
    exact ⟨cs, rest ++ us, by simp, hc, RowsR.append hr h'⟩
theorem RowsR.one {a : α} {cs : List Value} (h : R a cs) : RowsR R [a] cs := ⟨cs, [], by simp, h, rfl⟩
theorem RowsR.at_ (hk : ∀ a cs, R a cs → cs.length = k) : ∀ {l : List α} {vs : List Value}, RowsR R l vs → ∀ (i : Nat) (hi : i < l.length), ∃ cs, R l[i] cs ∧ ∀ j u, cs[j]? = some u → vs[i * k + j]? = some u
  | [], vs, _, i, hi => by simp at hi
  | a :: l, vs, h, 0, hi => by
    obtain ⟨cs, rest, rfl, hc, hr⟩ := h
    refine ⟨cs, hc, fun j u hu => ?_⟩
    have hj : j < cs.length := (List.getElem?_eq_some_iff.1 hu).1
    simp only [Nat.zero_mul, Nat.zero_add]
    rw [List.getElem?_append_left hj]; exact hu
  | a :: l, vs, h, i + 1, hi => by
    obtain ⟨cs, rest, rfl, hc, hr⟩ := h
    obtain ⟨ds, hd, hu⟩ := RowsR.at_ hk hr i (by simpa using hi)
    refine ⟨ds, by simpa using hd, fun j u hj => ?_⟩
    have h1 := hk _ _ hc
    rw [List.getElem?_append_right (by rw [h1, Nat.add_mul]; omega), h1]
    have : (i + 1) * k + j - k = i * k + j := by rw [Nat.add_mul]; omega
    rw [this]
    exact hu j u hj
theorem RowsR.split : ∀ {l m : List α} {vs : List Value}, RowsR R (l ++ m) vs → ∃ us ts, vs = us ++ ts ∧ RowsR R l us ∧ RowsR R m ts
  | [], m, vs, h => ⟨[], vs, rfl, rfl, h⟩
  | a :: l, m, vs, h => by
    obtain ⟨cs, rest, rfl, hc, hr⟩ := h
    obtain ⟨us, ts, rfl, h1, h2⟩ := RowsR.split hr
    exact ⟨cs ++ us, ts, by simp, ⟨cs, us, rfl, hc, h1⟩, h2⟩
end
/-- Element i of a slice of elements of k cells. -/
theorem SV.row {α : Type} {R : α → List Value → Prop} {k : Nat} (hk : ∀ a cs, R a cs → cs.length = k) (hk0 : 0 < k) {w : World} {B : Nat} {A : Option Addr} {vs : List Value} {l : List α}
    (h : SV w B A vs) (hr : RowsR R l vs) (i : Nat) (hi : i < l.length) :
    ∃ b off cs, A = some ⟨b, off, none⟩ ∧ b < B ∧ R l[i] cs ∧ ∀ j u, cs[j]? = some u → w.cell? ⟨b, off + i * k + j, none⟩ = some u := by
  have hl := hr.length hk
  have : 0 < vs.length := by
    rw [hl]; exact Nat.mul_pos (by omega) hk0
  obtain ⟨b, off, e, hb, hc⟩ := h.at_ this
  obtain ⟨cs, hcs, hu⟩ := hr.at_ hk i hi
  exact ⟨b, off, cs, e, hb, hcs, fun j u hj => by rw [Nat.add_assoc]; exact hc _ _ (hu j u hj)⟩

theorem below_drewN {B : Nat} {a w : World} (h : Below B a w) (n : Nat) : Below B a (w.drewN n) := ⟨h.os, h.tape, h.output, h.size, h.block⟩

def I64 (n : Int) : Prop := -9223372036854775808 ≤ n ∧ n ≤ 9223372036854775807
theorem ret_eq {a b : Value} (h : a = b) : Ending.returned a = .returned b := by rw [h]
theorem int_eq {k : IntKind} {a b : Int} (h : a = b) : Value.int k a = .int k b := by rw [h]
theorem bool_eq {a b : Bool} (h : a = b) : Value.bool a = .bool b := by rw [h]
end Go.V
namespace Go.V
open Go.RowKit

theorem blk_put2 {w : World} {g : Nat} {t : TypeId} {a b : Value} (h : Blk w g t #[a, b]) (x y : Value) : Blk ((w.setCell ⟨g, 0, none⟩ x).setCell ⟨g, 1, none⟩ y) g t #[x, y] := by
  simpa using (h.set_ 0 x).set_ 1 y

/-- An append onto an owned row keeps the blocks of other element types and all that lay below. -/
theorem app_keep {wr w' : World} {B0 : Nat} {e : TypeId} {size n : Nat} {v : Value} {xs : List Value} (hown : wr.ownsRow B0 e size v n xs) (o : Obj) (hg : (wr.alloc o).grownBy w' v.ownBlock) (hB : B0 ≤ wr.heap.size) :
    (∀ g t cs, e ≠ t → Blk wr g t cs → Blk w' g t cs) ∧ (∀ a B, B ≤ B0 → Below B a wr → Below B a w') ∧ wr.heap.size + 1 ≤ w'.heap.size :=
  ⟨fun g t cs hne hb => (hb.alloc o).grown hg (own_blk_ne (hown.alloc o) (hb.alloc o) hne),
   fun a B hB' hb => below_append (hb.alloc (by omega) o) (hown.alloc o) hg (by omega) (by simp; omega),
   by have := hg.size; simpa using this⟩

section
variable {P : Program} (w : World)
/-- 'out = append(out, x)', x one element of one cell: the argument lies in a block of its own; the new value is written out. -/
theorem wpList_app1 {ops : Array Oper} {rest : List Oper} {o : Oper} {a : Act} {Q : Exit → Act → World → Prop} (hgd : o.guard = none) (s x : Operand) (t : TypeId)
    (ho : o.op = .call { callee := .builtin .append, args := #[s, x], argTypes := #[t, t] })
    (base : Nat) (e : TypeId) (i : TypeInfo) (z : Value) (bytes : Nat) (ht : P.underlying t = some (.slice e)) (hi : P.info? e = some i) (hz : i.zero = some z)
    (hsize : i.size = 1) (hby : i.bytes = bytes) (hzs : z.cells.size = 1)
    (A : Option Addr) (n c : Nat) (xs : List Value) (hs : a.eval s = .slice A n c) (hown : w.ownsRow base e 1 (.slice A n c) n xs)
    (g : Nat) (cx : Nat) (u : Value) (hx : a.eval x = .slice (some ⟨g, 0, none⟩) 1 cx) (hu : w.cell? ⟨g, 0, none⟩ = some u) (h1 : u.oneCell' = true)
    (h63 : n + 1 ≤ maxLen) (hbytes : (n + 1) * bytes ≤ 140737488355328) (hbase : base ≤ w.heap.size)
    (h : ∀ A' c' w', w'.ownsRow base e 1 (.slice A' (n + 1) c') (n + 1) (xs ++ [u]) → w.grownBy w' (Value.slice A n c).ownBlock → n + 1 ≤ c' → wpList P ops Q rest (a.put o.dst (.slice A' (n + 1) c')) w') : wpList P ops Q (o :: rest) a w := by
  refine wpList_append_sv w hgd s x t ho base e i z 1 bytes ht hi hz hsize hby hzs (by omega) (.slice A n c) n xs hs hown (g + 1) (some ⟨g, 0, none⟩) 1 cx [u] hx rfl ?_ ?_ h63 hbytes hbase ?_
  · refine .inr ⟨g, 0, rfl, by omega, fun j v hj => ?_⟩
    match j, hj with
    | 0, hj => simp at hj; subst hj; simpa using hu
  · intro v hv; simp at hv; subst hv; exact h1
  · intro v' w' hown' hg' _
    obtain ⟨A', c', rfl, hc', _⟩ := own_form hown'
    exact h A' c' w' hown' hg' hc'

/-- The same, whatever the source: 'out = append(out, xs...)'. -/
theorem wpList_appN {ops : Array Oper} {rest : List Oper} {o : Oper} {a : Act} {Q : Exit → Act → World → Prop} (hgd : o.guard = none) (s x : Operand) (t : TypeId)
    (ho : o.op = .call { callee := .builtin .append, args := #[s, x], argTypes := #[t, t] })
    (base : Nat) (e : TypeId) (i : TypeInfo) (z : Value) (size bytes : Nat) (ht : P.underlying t = some (.slice e)) (hi : P.info? e = some i) (hz : i.zero = some z)
    (hsize : i.size = size) (hby : i.bytes = bytes) (hzs : z.cells.size = size) (hsz : 0 < size)
    (A : Option Addr) (n c : Nat) (xs : List Value) (hs : a.eval s = .slice A n c) (hown : w.ownsRow base e size (.slice A n c) n xs)
    (B : Nat) (A2 : Option Addr) (m c2 : Nat) (news : List Value) (hx : a.eval x = .slice A2 m c2) (hl : news.length = m * size) (hr : SV w B A2 news) (h1 : ∀ u ∈ news, u.oneCell' = true)
    (h63 : n + m ≤ maxLen) (hbytes : (n + m) * bytes ≤ 140737488355328) (hbase : base ≤ w.heap.size)
    (h : ∀ A' c' w', w'.ownsRow base e size (.slice A' (n + m) c') (n + m) (xs ++ news) → w.grownBy w' (Value.slice A n c).ownBlock → n + m ≤ c' → wpList P ops Q rest (a.put o.dst (.slice A' (n + m) c')) w') : wpList P ops Q (o :: rest) a w := by
  refine wpList_append_sv w hgd s x t ho base e i z size bytes ht hi hz hsize hby hzs hsz (.slice A n c) n xs hs hown B A2 m c2 news hx hl hr h1 h63 hbytes hbase ?_
  intro v' w' hown' hg' _
  obtain ⟨A', c', rfl, hc', _⟩ := own_form hown'
  exact h A' c' w' hown' hg' hc'
/-- The same at a step of a region that draws its order ('go_region_law'): the new slice begins at a block's head. -/
theorem step_app1 {ops : Array Oper} {o : Oper} {a : Act} {K : Act → World → Prop} {Q : Exit → Act → World → Prop} {E : Prop} (hgd : o.guard = none) (s x : Operand) (t : TypeId)
    (ho : o.op = .call { callee := .builtin .append, args := #[s, x], argTypes := #[t, t] })
    (base : Nat) (e : TypeId) (i : TypeInfo) (z : Value) (bytes : Nat) (ht : P.underlying t = some (.slice e)) (hi : P.info? e = some i) (hz : i.zero = some z)
    (hsize : i.size = 1) (hby : i.bytes = bytes) (hzs : z.cells.size = 1)
    (A : Option Addr) (n c : Nat) (xs : List Value) (hs : a.eval s = .slice A n c) (hown : w.ownsRow base e 1 (.slice A n c) n xs)
    (g : Nat) (cx : Nat) (u : Value) (hx : a.eval x = .slice (some ⟨g, 0, none⟩) 1 cx) (hu : w.cell? ⟨g, 0, none⟩ = some u) (h1 : u.oneCell' = true)
    (h63 : n + 1 ≤ maxLen) (hbytes : (n + 1) * bytes ≤ 140737488355328) (hbase : base ≤ w.heap.size)
    (h : ∀ gd c' w', w'.ownsRow base e 1 (.slice (some ⟨gd, 0, none⟩) (n + 1) c') (n + 1) (xs ++ [u]) → w.grownBy w' (Value.slice A n c).ownBlock → K (a.put o.dst (.slice (some ⟨gd, 0, none⟩) (n + 1) c')) w') :
    if Region.wanted o (yielded ops a.tmps) = true then Oper.wp P o a w K Q else E := by
  refine step_append_lies w hgd s x t ho base e i z 1 bytes ht hi hz hsize hby hzs (by omega) (.slice A n c) n xs hs hown ⟨g, 0, none⟩ 1 cx [u] hx rfl ?_ ?_ (by omega) h63 hbytes hbase w.heap.size rfl ?_
  · intro j v hj
    match j, hj with
    | 0, hj => simp at hj; subst hj; simpa [Addr.add] using hu
  · intro v hv; simp at hv; subst hv; exact h1
  · intro gd cap w' h2 h3 _ _
    exact h gd cap w' h2 h3
end
end Go.V
namespace Go.V
open Go.RowKit

/-- The first n values of a function. -/
def tab {α : Type} (n : Nat) (f : Nat → α) : List α := (List.range n).map f
@[simp] theorem tab_length {α : Type} (n : Nat) (f : Nat → α) : (tab n f).length = n := by simp [tab]
theorem tab_get {α : Type} (n : Nat) (f : Nat → α) (i : Nat) (h : i < (tab n f).length) : (tab n f)[i] = f i := by simp [tab]
theorem tab_get? {α : Type} (n : Nat) (f : Nat → α) (i : Nat) (h : i < n) : (tab n f)[i]? = some (f i) := by simp [tab, h]
theorem tab_congr {α : Type} {n : Nat} {f g : Nat → α} (h : ∀ i, i < n → f i = g i) : tab n f = tab n g := by
  apply List.map_congr_left
  intro i hi
  exact h i (List.mem_range.1 hi)
theorem tab_set {α : Type} (n : Nat) (f : Nat → α) (i : Nat) (x : α) : (tab n f).set i x = tab n (fun j => if j = i then x else f j) := by
  apply List.ext_getElem
  · simp
  · intro j h1 h2
    simp only [List.getElem_set, tab_get]
    by_cases h : i = j
    · subst h; simp
    · rw [if_neg h, if_neg (fun e => h e.symm)]
theorem tab_replicate {α : Type} (n : Nat) (x : α) : List.replicate n x = tab n (fun _ => x) := by
  apply List.ext_getElem <;> simp [tab]
theorem tab_list {α : Type} [Inhabited α] (l : List α) : l = tab l.length (fun i => l[i]?.getD default) := by
  apply List.ext_getElem
  · simp
  · intro i h1 h2
    rw [tab_get]; simp [h1]

def intsA (l : List Int) : Array Value := (l.map fun n => Value.int .i64 n).toArray
def boolsA (l : List Bool) : Array Value := (l.map fun b => Value.bool b).toArray
section
variable {w : World} {g : Nat} {t : TypeId}
theorem blk_int {l : List Int} (h : Blk w g t (intsA l)) (i : Nat) (hi : i < l.length) : w.cell? ⟨g, i, none⟩ = some (.int .i64 l[i]) := by
  rw [h.cell i]; simp [intsA, hi]
theorem blk_bool {l : List Bool} (h : Blk w g t (boolsA l)) (i : Nat) (hi : i < l.length) : w.cell? ⟨g, i, none⟩ = some (.bool l[i]) := by
  rw [h.cell i]; simp [boolsA, hi]
theorem blk_tab {n : Nat} {f : Nat → Int} (h : Blk w g t (intsA (tab n f))) (i : Nat) (hi : i < n) : w.cell? ⟨g, i, none⟩ = some (.int .i64 (f i)) := by
  rw [blk_int h i (by simpa using hi), tab_get]
theorem blk_tabB {n : Nat} {f : Nat → Bool} (h : Blk w g t (boolsA (tab n f))) (i : Nat) (hi : i < n) : w.cell? ⟨g, i, none⟩ = some (.bool (f i)) := by
  rw [blk_bool h i (by simpa using hi), tab_get]
theorem blk_int_set {l : List Int} (h : Blk w g t (intsA l)) (i : Nat) (x : Int) : Blk (w.setCell ⟨g, i, none⟩ (.int .i64 x)) g t (intsA (l.set i x)) := by
  have := h.set_ i (.int .i64 x)
  have e : (intsA l).setIfInBounds i (.int .i64 x) = intsA (l.set i x) := by
    unfold intsA
    rw [List.setIfInBounds_toArray, List.map_set]
  rw [← e]; exact this
theorem blk_bool_set {l : List Bool} (h : Blk w g t (boolsA l)) (i : Nat) (x : Bool) : Blk (w.setCell ⟨g, i, none⟩ (.bool x)) g t (boolsA (l.set i x)) := by
  have := h.set_ i (.bool x)
  have e : (boolsA l).setIfInBounds i (.bool x) = boolsA (l.set i x) := by
    unfold boolsA
    rw [List.setIfInBounds_toArray, List.map_set]
  rw [← e]; exact this
theorem blk_tab_set {n : Nat} {f g' : Nat → Int} (h : Blk w g t (intsA (tab n f))) (i : Nat) (x : Int) (hf : ∀ j, j < n → g' j = if j = i then x else f j) : Blk (w.setCell ⟨g, i, none⟩ (.int .i64 x)) g t (intsA (tab n g')) := by
  have := blk_int_set h i x
  rw [tab_set] at this
  rw [tab_congr hf]; exact this
theorem blk_tabB_set {n : Nat} {f g' : Nat → Bool} (h : Blk w g t (boolsA (tab n f))) (i : Nat) (x : Bool) (hf : ∀ j, j < n → g' j = if j = i then x else f j) : Blk (w.setCell ⟨g, i, none⟩ (.bool x)) g t (boolsA (tab n g')) := by
  have := blk_bool_set h i x
  rw [tab_set] at this
  rw [tab_congr hf]; exact this
theorem made_eq (z : Value) (n : Nat) : madeCells #[z] n = (List.replicate n z).toArray := by
  apply Array.toList_inj.1
  rw [toList_madeCells_one]
theorem blk_made_int (w : World) (t : TypeId) (n : Nat) : Blk (w.alloc (.cells (madeCells #[.int .i64 0] n) t)) w.heap.size t (intsA (tab n fun _ => 0)) := by
  have := Blk.new w t (madeCells #[.int .i64 0] n)
  rw [made_eq] at this
  have e : intsA (tab n fun _ => 0) = (List.replicate n (Value.int .i64 0)).toArray := by
    unfold intsA; rw [← tab_replicate, List.map_replicate]
  rw [e, ← made_eq]
  exact Blk.new w t (madeCells #[.int .i64 0] n)
theorem blk_made_bool (w : World) (t : TypeId) (n : Nat) : Blk (w.alloc (.cells (madeCells #[.bool false] n) t)) w.heap.size t (boolsA (tab n fun _ => false)) := by
  have e : boolsA (tab n fun _ => false) = (List.replicate n (Value.bool false)).toArray := by
    unfold boolsA; rw [← tab_replicate, List.map_replicate]
  rw [e, ← made_eq]
  exact Blk.new w t (madeCells #[.bool false] n)
/-- A row that is known whole is a slice's view. -/
theorem SV.of_blk {cs : Array Value} (h : Blk w g t cs) : SV w w.heap.size (some ⟨g, 0, none⟩) cs.toList := by
  refine .inr ⟨g, 0, rfl, h.lt, fun j u hu => ?_⟩
  rw [Nat.zero_add, h.cell j, ← Array.getElem?_toList]; exact hu
theorem SV.of_ints {l : List Int} (h : Blk w g t (intsA l)) : SV w w.heap.size (some ⟨g, 0, none⟩) (intsV l) := by
  have := SV.of_blk h
  simpa [intsA, intsV] using this
theorem SV.of_bools {l : List Bool} (h : Blk w g t (boolsA l)) : SV w w.heap.size (some ⟨g, 0, none⟩) (boolsV l) := by
  have := SV.of_blk h
  simpa [boolsA, boolsV] using this
end
end Go.V
namespace Go.V
open Go.RowKit

section
variable {P : Program} (w : World)
/-- 'out = append(out, x)' as 'wpList_app1', and which block the row then owns. -/
theorem wpList_app1o {ops : Array Oper} {rest : List Oper} {o : Oper} {a : Act} {Q : Exit → Act → World → Prop} (hgd : o.guard = none) (s x : Operand) (t : TypeId)
    (ho : o.op = .call { callee := .builtin .append, args := #[s, x], argTypes := #[t, t] })
    (base : Nat) (e : TypeId) (i : TypeInfo) (z : Value) (bytes : Nat) (ht : P.underlying t = some (.slice e)) (hi : P.info? e = some i) (hz : i.zero = some z)
    (hsize : i.size = 1) (hby : i.bytes = bytes) (hzs : z.cells.size = 1)
    (A : Option Addr) (n c : Nat) (xs : List Value) (hs : a.eval s = .slice A n c) (hown : w.ownsRow base e 1 (.slice A n c) n xs)
    (g : Nat) (cx : Nat) (u : Value) (hx : a.eval x = .slice (some ⟨g, 0, none⟩) 1 cx) (hu : w.cell? ⟨g, 0, none⟩ = some u) (h1 : u.oneCell' = true)
    (h63 : n + 1 ≤ maxLen) (hbytes : (n + 1) * bytes ≤ 140737488355328) (hbase : base ≤ w.heap.size)
    (h : ∀ A' c' w', w'.ownsRow base e 1 (.slice A' (n + 1) c') (n + 1) (xs ++ [u]) → w.grownBy w' (Value.slice A n c).ownBlock → n + 1 ≤ c' → ((Value.slice A' (n + 1) c').ownBlock = (Value.slice A n c).ownBlock ∨ (Value.slice A' (n + 1) c').ownBlock = some w.heap.size) → wpList P ops Q rest (a.put o.dst (.slice A' (n + 1) c')) w') : wpList P ops Q (o :: rest) a w := by
  refine wpList_append_sv w hgd s x t ho base e i z 1 bytes ht hi hz hsize hby hzs (by omega) (.slice A n c) n xs hs hown (g + 1) (some ⟨g, 0, none⟩) 1 cx [u] hx rfl ?_ ?_ h63 hbytes hbase ?_
  · refine .inr ⟨g, 0, rfl, by omega, fun j v hj => ?_⟩
    match j, hj with
    | 0, hj => simp at hj; subst hj; simpa using hu
  · intro v hv; simp at hv; subst hv; exact h1
  · intro v' w' hown' hg' hbl
    obtain ⟨A', c', rfl, hc', _⟩ := own_form hown'
    exact h A' c' w' hown' hg' hc' hbl
end

/-- Two rows of the call's own that do not share a block. -/
def Apart (v v' : Value) : Prop := ∀ g, v.ownBlock = some g → v'.ownBlock ≠ some g
theorem Apart.symm {v v' : Value} (h : Apart v v') : Apart v' v := fun g h1 h2 => h g h2 h1
theorem apart_nil (v : Value) (c : Nat) : Apart v (.slice none 0 c) := fun g _ h => by simp [Value.ownBlock] at h
/-- The first row has grown: the second one stays, and they stay apart. -/
theorem apart_app {w w' : World} {base : Nat} {e : TypeId} {size n : Nat} {v v1 v2 : Value} {xs : List Value} (h : Apart v v2) (h2 : w.ownsRow base e size v2 n xs) (o : Obj) (hg : (w.alloc o).grownBy w' v.ownBlock)
    (hb : v1.ownBlock = v.ownBlock ∨ v1.ownBlock = some (w.heap.size + 1)) : w'.ownsRow base e size v2 n xs ∧ Apart v1 v2 := by
  constructor
  · refine (h2.alloc o).kept hg ?_
    rcases hv : v2.ownBlock with _ | g
    · exact .inl rfl
    · exact .inr fun e => h g e.symm hv
  · intro g h1 h3
    rcases hb with hb | hb
    · exact h g (hb ▸ h1) h3
    · rw [hb] at h1
      injection h1 with h1
      have := (h2.lt g h3).2
      omega
end Go.V
namespace Go.V
open Go.RowKit
set_option linter.unusedVariables false

/-- The slice that begins at A holds the cells vs, in a block that X does not name. -/
def SA (w : World) (X : Nat → Prop) (A : Option Addr) (vs : List Value) : Prop :=
  vs = [] ∨ ∃ b off, A = some ⟨b, off, none⟩ ∧ b < w.heap.size ∧ ¬ X b ∧ ∀ j u, vs[j]? = some u → w.cell? ⟨b, off + j, none⟩ = some u
/-- All blocks of w that X does not name lie in w' as they were, and X' does not name them. -/
structure Keeps (w : World) (X : Nat → Prop) (w' : World) (X' : Nat → Prop) : Prop where
  size : w.heap.size ≤ w'.heap.size
  block : ∀ b, b < w.heap.size → ¬ X b → w'.heap[b]? = w.heap[b]?
  out : ∀ b, b < w.heap.size → ¬ X b → ¬ X' b
/-- The blocks from n on; the blocks below n. -/
def From (n : Nat) : Nat → Prop := fun b => n ≤ b
def Under (n : Nat) : Nat → Prop := fun b => b < n
def Free : Nat → Prop := fun _ => False
section
variable {w w' w'' : World} {X X' X'' : Nat → Prop} {A : Option Addr} {vs : List Value}
theorem Keeps.refl (w : World) (X : Nat → Prop) : Keeps w X w X := ⟨Nat.le_refl _, fun _ _ _ => rfl, fun _ _ h => h⟩
theorem Keeps.trans (h : Keeps w X w' X') (k : Keeps w' X' w'' X'') : Keeps w X w'' X'' :=
  ⟨Nat.le_trans h.size k.size, fun b hb hx => (k.block b (Nat.lt_of_lt_of_le hb h.size) (h.out b hb hx)).trans (h.block b hb hx), fun b hb hx => k.out b (Nat.lt_of_lt_of_le hb h.size) (h.out b hb hx)⟩
theorem Keeps.below (hb : Below w.heap.size w w') (hX : ∀ b, b < w.heap.size → X' b → X b) : Keeps w X w' X' :=
  ⟨hb.size, fun b h _ => hb.block b h, fun b h hx hx' => hx (hX b h hx')⟩
theorem Keeps.of_below {B : Nat} (hb : Below B w w') (hB : B ≤ w.heap.size) (hX : ∀ b, b < w.heap.size → ¬ X b → b < B) (hX' : ∀ b, b < w.heap.size → X' b → X b) : Keeps w X w' X' :=
  ⟨hb.size, fun b h hx => hb.block b (hX b h hx), fun b h hx hx' => hx (hX' b h hx')⟩
theorem Keeps.alloc (w : World) (X : Nat → Prop) (o : Obj) : Keeps w X (w.alloc o) X := .below ((Below.refl _ _).alloc (Nat.le_refl _) _) fun _ _ h => h
theorem Keeps.drew (w : World) (X : Nat → Prop) : Keeps w X w.drew X := ⟨Nat.le_refl _, fun _ _ _ => rfl, fun _ _ h => h⟩
theorem Keeps.drewN (w : World) (X : Nat → Prop) (n : Nat) : Keeps w X (w.drewN n) X := ⟨Nat.le_refl _, fun _ _ _ => rfl, fun _ _ h => h⟩
theorem Keeps.setCell (w : World) (X : Nat → Prop) (p : Addr) (u : Value) (hp : X p.block) : Keeps w X (w.setCell p u) X :=
  ⟨by simp [World.setCell], fun b _ hx => Below.heap_setCell w p u b (fun e => by subst e; exact hx hp), fun _ _ h => h⟩
theorem Keeps.grown {row : Option Nat} (hg : w.grownBy w' row) (hX : ∀ g, row = some g → g < w.heap.size → X g) (hX' : ∀ b, b < w.heap.size → X' b → X b) : Keeps w X w' X' :=
  ⟨hg.size, fun b hb hx => hg.block b hb (fun e => hx (hX b e.symm hb)), fun b hb hx hx' => hx (hX' b hb hx')⟩
theorem Keeps.into (h : Keeps w X w' X') (hX : ∀ b, X'' b → X' b) : Keeps w X w' X'' := ⟨h.size, h.block, fun b hb hx hx' => h.out b hb hx (hX b hx')⟩
theorem Keeps.from_ (h : Keeps w X w' X') (hX : ∀ b, b < w.heap.size → X b → X'' b) : Keeps w X'' w' X' :=
  ⟨h.size, fun b hb hx => h.block b hb (fun h' => hx (hX b hb h')), fun b hb hx => h.out b hb (fun h' => hx (hX b hb h'))⟩

theorem SA.nil : SA w X A [] := .inl rfl
theorem SA.keep (h : SA w X A vs) (k : Keeps w X w' X') : SA w' X' A vs := by
  rcases h with h | ⟨b, off, e, hb, hx, hc⟩
  · exact .inl h
  · exact .inr ⟨b, off, e, Nat.lt_of_lt_of_le hb k.size, k.out b hb hx, fun j u hu => (World.cell?_of_block (a := ⟨b, off + j, none⟩) (k.block b hb hx)).trans (hc j u hu)⟩
theorem SA.mono (h : SA w X A vs) (hX : ∀ b, X' b → X b) : SA w X' A vs := h.keep ((Keeps.refl w X).into hX)
theorem SA.sv (h : SA w X A vs) : SV w w.heap.size A vs := by
  rcases h with h | ⟨b, off, e, hb, _, hc⟩
  · exact .inl h
  · exact .inr ⟨b, off, e, hb, hc⟩
theorem SA.of_sv (h : SV w w.heap.size A vs) : SA w Free A vs := by
  rcases h with h | ⟨b, off, e, hb, hc⟩
  · exact .inl h
  · exact .inr ⟨b, off, e, hb, fun h => h, hc⟩
/-- What lies below B. -/
theorem SA.of_low {B : Nat} (h : SV w B A vs) (hB : B ≤ w.heap.size) (hX : ∀ b, X b → B ≤ b) : SA w X A vs := by
  rcases h with h | ⟨b, off, e, hb, hc⟩
  · exact .inl h
  · exact .inr ⟨b, off, e, by omega, fun hx => by have := hX b hx; omega, hc⟩
/-- What lies from lo on. -/
theorem SA.of_high {lo : Nat} (h : SV w w.heap.size A vs) (hA : ∀ ad, A = some ad → lo ≤ ad.block) (hX : ∀ b, X b → b < lo) : SA w X A vs := by
  rcases h with h | ⟨b, off, e, hb, hc⟩
  · exact .inl h
  · exact .inr ⟨b, off, e, hb, fun hx => by have := hX b hx; have := hA _ e; simp at this; omega, hc⟩
theorem SA.of_own {base : Nat} {e : TypeId} {size n c : Nat} (h : w.ownsRow base e size (.slice A n c) n vs) (hX : ∀ b, X b → b < base) : SA w X A vs := by
  refine SA.of_high (lo := base) (SV.of_own h) (fun ad ea => ?_) hX
  subst ea
  exact (h.lt ad.block rfl).1
/-- A row of the call's own is a view that avoids all else. -/
theorem SA.of_own' {base : Nat} {e : TypeId} {size n c : Nat} (h : w.ownsRow base e size (.slice A n c) n vs) (hX : ∀ b, (Value.slice A n c).ownBlock = some b → ¬ X b) : SA w X A vs := by
  rcases SV.of_own h with h2 | ⟨b, off, e2, hb, hc⟩
  · exact .inl h2
  · subst e2
    exact .inr ⟨b, off, rfl, hb, hX b rfl, hc⟩
theorem SA.of_blk {g : Nat} {t : TypeId} {cs : Array Value} (h : Blk w g t cs) (hX : ¬ X g) : SA w X (some ⟨g, 0, none⟩) cs.toList :=
  .inr ⟨g, 0, rfl, h.lt, hX, fun j u hu => by rw [Nat.zero_add, h.cell j, ← Array.getElem?_toList]; exact hu⟩
theorem SA.at_ (h : SA w X A vs) (hn : 0 < vs.length) : ∃ b off, A = some ⟨b, off, none⟩ ∧ b < w.heap.size ∧ ¬ X b ∧ ∀ j u, vs[j]? = some u → w.cell? ⟨b, off + j, none⟩ = some u := by
  rcases h with rfl | h
  · simp at hn
  · exact h
/-- One cell of it. -/
theorem SA.get (h : SA w X A vs) (i : Nat) (hi : i < vs.length) : ∃ b off, A = some ⟨b, off, none⟩ ∧ b < w.heap.size ∧ ¬ X b ∧ w.cell? ⟨b, off + i, none⟩ = some vs[i] := by
  obtain ⟨b, off, e, hb, hx, hc⟩ := h.at_ (by omega)
  exact ⟨b, off, e, hb, hx, hc i _ (by simp [hi])⟩
theorem SA.take (h : SA w X A vs) (k : Nat) : SA w X A (vs.take k) := by
  rcases h with rfl | ⟨b, off, e, hb, hx, hc⟩
  · exact .inl (by simp)
  · refine .inr ⟨b, off, e, hb, hx, fun j u hu => hc j u ?_⟩
    rw [List.getElem?_take] at hu
    split at hu
    · exact hu
    · cases hu
theorem SA.drop (h : SA w X A vs) (k : Nat) (P : Prop) [Decidable P] (hp : P → vs.length ≤ k ∨ k = 0) : SA w X (if P then A else A.map (·.add k)) (vs.drop k) := by
  by_cases h0 : vs.length ≤ k
  · exact .inl (by simpa using h0)
  · obtain ⟨b, off, rfl, hb, hx, hc⟩ := h.at_ (by omega)
    by_cases hP : P
    · rw [if_pos hP]
      have hk : k = 0 := (hp hP).resolve_left h0
      subst hk
      exact .inr ⟨b, off, rfl, hb, hx, by simpa using hc⟩
    · rw [if_neg hP]
      refine .inr ⟨b, off + k, ?_, hb, hx, fun j u hu => ?_⟩
      · simp only [Option.map_some, Addr.add]
        split
        · rename_i h; simp [h]
        · rfl
      · rw [List.getElem?_drop] at hu
        rw [Nat.add_assoc]
        exact hc _ u hu
/-- Element i of a slice of elements of k cells. -/
theorem SA.row {α : Type} {R : α → List Value → Prop} {k : Nat} (hk : ∀ a cs, R a cs → cs.length = k) (hk0 : 0 < k) {l : List α} (h : SA w X A vs) (hr : RowsR R l vs) (i : Nat) (hi : i < l.length) :
    ∃ b off cs, A = some ⟨b, off, none⟩ ∧ b < w.heap.size ∧ ¬ X b ∧ R l[i] cs ∧ ∀ j u, cs[j]? = some u → w.cell? ⟨b, off + i * k + j, none⟩ = some u := by
  have hl := hr.length hk
  have : 0 < vs.length := by rw [hl]; exact Nat.mul_pos (by omega) hk0
  obtain ⟨b, off, e, hb, hx, hc⟩ := h.at_ this
  obtain ⟨cs, hcs, hu⟩ := hr.at_ hk i hi
  exact ⟨b, off, cs, e, hb, hx, hcs, fun j u hj => by rw [Nat.add_assoc]; exact hc _ _ (hu j u hj)⟩

section
variable {P : Program} (w : World)
/-- 'wpList_appN', and which block the row then owns. -/
theorem wpList_appNo {ops : Array Oper} {rest : List Oper} {o : Oper} {a : Act} {Q : Exit → Act → World → Prop} (hgd : o.guard = none) (s x : Operand) (t : TypeId)
    (ho : o.op = .call { callee := .builtin .append, args := #[s, x], argTypes := #[t, t] })
    (base : Nat) (e : TypeId) (i : TypeInfo) (z : Value) (size bytes : Nat) (ht : P.underlying t = some (.slice e)) (hi : P.info? e = some i) (hz : i.zero = some z)
    (hsize : i.size = size) (hby : i.bytes = bytes) (hzs : z.cells.size = size) (hsz : 0 < size)
    (A : Option Addr) (n c : Nat) (xs : List Value) (hs : a.eval s = .slice A n c) (hown : w.ownsRow base e size (.slice A n c) n xs)
    (B : Nat) (A2 : Option Addr) (m c2 : Nat) (news : List Value) (hx : a.eval x = .slice A2 m c2) (hl : news.length = m * size) (hr : SV w B A2 news) (h1 : ∀ u ∈ news, u.oneCell' = true)
    (h63 : n + m ≤ maxLen) (hbytes : (n + m) * bytes ≤ 140737488355328) (hbase : base ≤ w.heap.size)
    (h : ∀ A' c' w', w'.ownsRow base e size (.slice A' (n + m) c') (n + m) (xs ++ news) → w.grownBy w' (Value.slice A n c).ownBlock → n + m ≤ c' → ((Value.slice A' (n + m) c').ownBlock = (Value.slice A n c).ownBlock ∨ (Value.slice A' (n + m) c').ownBlock = some w.heap.size) → wpList P ops Q rest (a.put o.dst (.slice A' (n + m) c')) w') : wpList P ops Q (o :: rest) a w := by
  refine wpList_append_sv w hgd s x t ho base e i z size bytes ht hi hz hsize hby hzs hsz (.slice A n c) n xs hs hown B A2 m c2 news hx hl hr h1 h63 hbytes hbase ?_
  intro v' w' hown' hg' hbl
  obtain ⟨A', c', rfl, hc', _⟩ := own_form hown'
  exact h A' c' w' hown' hg' hc' hbl
end
/-- What is named besides a row's own block. -/
def Or1 (X : Nat → Prop) (v : Value) : Nat → Prop := fun b => X b ∨ v.ownBlock = some b
def Or2 (X : Nat → Prop) (v u : Value) : Nat → Prop := fun b => X b ∨ v.ownBlock = some b ∨ u.ownBlock = some b
/-- Behind an append to a row: what avoided it does so still. -/
theorem Keeps.or1 {w w' : World} {X : Nat → Prop} {v v' : Value} {H : Nat} (hg : w.grownBy w' v.ownBlock) (hH : w.heap.size = H) (hb : v'.ownBlock = v.ownBlock ∨ v'.ownBlock = some H) : Keeps w (Or1 X v) w' (Or1 X v') := by
  refine Keeps.grown hg (fun g h _ => .inr h) (fun b hlt hx => ?_)
  rcases hx with hx | hx
  · exact .inl hx
  · rcases hb with hb | hb
    · exact .inr (hb ▸ hx)
    · rw [hb] at hx
      injection hx with hx
      omega
theorem Keeps.or2a {w w' : World} {X : Nat → Prop} {v v' u : Value} {H : Nat} (hg : w.grownBy w' v.ownBlock) (hH : w.heap.size = H) (hb : v'.ownBlock = v.ownBlock ∨ v'.ownBlock = some H) : Keeps w (Or2 X v u) w' (Or2 X v' u) := by
  refine Keeps.grown hg (fun g h _ => .inr (.inl h)) (fun b hlt hx => ?_)
  rcases hx with hx | hx | hx
  · exact .inl hx
  · rcases hb with hb | hb
    · exact .inr (.inl (hb ▸ hx))
    · rw [hb] at hx
      injection hx with hx
      omega
  · exact .inr (.inr hx)
theorem Keeps.or2b {w w' : World} {X : Nat → Prop} {v u u' : Value} {H : Nat} (hg : w.grownBy w' u.ownBlock) (hH : w.heap.size = H) (hb : u'.ownBlock = u.ownBlock ∨ u'.ownBlock = some H) : Keeps w (Or2 X v u) w' (Or2 X v u') := by
  refine Keeps.grown hg (fun g h _ => .inr (.inr h)) (fun b hlt hx => ?_)
  rcases hx with hx | hx | hx
  · exact .inl hx
  · exact .inr (.inl hx)
  · rcases hb with hb | hb
    · exact .inr (.inr (hb ▸ hx))
    · rw [hb] at hx
      injection hx with hx
      omega
/-- The blocks of some rows of the call's own. -/
def Own1 (v : Value) : Nat → Prop := fun b => v.ownBlock = some b
def Own2 (v u : Value) : Nat → Prop := fun b => v.ownBlock = some b ∨ u.ownBlock = some b
/-- Behind an append to a row: what avoided it does so still. -/
theorem Keeps.app1 {v v' : Value} (o : Obj) (hg : (w.alloc o).grownBy w' v.ownBlock) (hb : v'.ownBlock = v.ownBlock ∨ v'.ownBlock = some (w.heap.size + 1)) : Keeps w (Own1 v) w' (Own1 v') := by
  refine (Keeps.alloc w (Own1 v) o).trans (Keeps.grown hg (fun g h _ => h) (fun b hlt hx => ?_))
  unfold Own1 at *
  rcases hb with hb | hb
  · rw [← hb]; exact hx
  · rw [hb] at hx
    injection hx with hx
    simp at hlt; omega
end
end Go.V
