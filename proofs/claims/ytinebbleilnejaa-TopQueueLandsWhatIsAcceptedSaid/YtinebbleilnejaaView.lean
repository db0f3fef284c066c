/-
  Views: what a slice value reads as, in words that are kept over draws, new blocks and the calls of others. Plain lemmas on worlds; no program of its own.
-/
import Derived.WalkKit
import Derived.Laws.OwnMore
import Derived.Deep.AppendLies
import Derived.Deep.Draws
import Derived.Maps.AppendAt
import Derived.Lib.Hide
import Derived.KernelRfl
namespace Go.V
open Go.RowKit

theorem block_of_add (a : Addr) (n : Nat) : (a.add n).block = a.block := by unfold Addr.add; split <;> rfl

/-- The slice that begins at A holds the cells vs, in a block below B. -/
def SV (w : World) (B : Nat) (A : Option Addr) (vs : List Value) : Prop :=
  vs = [] ∨ ∃ b off, A = some ⟨b, off, none⟩ ∧ b < B ∧ ∀ j u, vs[j]? = some u → w.cell? ⟨b, off + j, none⟩ = some u

section
variable {w w' : World} {B B' : Nat} {A : Option Addr} {vs : List Value}
theorem SV.nil : SV w B A [] := .inl rfl
theorem SV.at_ (h : SV w B A vs) (hn : 0 < vs.length) : ∃ b off, A = some ⟨b, off, none⟩ ∧ b < B ∧ ∀ j u, vs[j]? = some u → w.cell? ⟨b, off + j, none⟩ = some u := by
  rcases h with rfl | h
  · simp at hn
  · exact h
theorem SV.keep (h : SV w B A vs) (hk : ∀ p : Addr, p.block < B → w'.cell? p = w.cell? p) : SV w' B A vs := by
  rcases h with h | ⟨b, off, e, hb, hc⟩
  · exact .inl h
  · exact .inr ⟨b, off, e, hb, fun j u hu => (hk _ hb).trans (hc j u hu)⟩
theorem SV.more (h : SV w B A vs) (hB : B ≤ B') : SV w B' A vs := by
  rcases h with h | ⟨b, off, e, hb, hc⟩
  · exact .inl h
  · exact .inr ⟨b, off, e, by omega, hc⟩
theorem SV.below (h : SV w B A vs) (hb : Below B' w w') (hB : B ≤ B') : SV w' B A vs := h.keep fun _ hp => hb.cell (by omega)
theorem SV.drew (h : SV w B A vs) : SV w.drew B A vs := h
theorem SV.drewN (h : SV w B A vs) (k : Nat) : SV (w.drewN k) B A vs := h
theorem SV.alloc (h : SV w B A vs) (hB : B ≤ w.heap.size) (o : Obj) : SV (w.alloc o) B A vs := h.keep fun p hp => World.cell?_alloc_lt w o p (by omega)
theorem SV.setCell (h : SV w B A vs) {p : Addr} (hB : B ≤ p.block) (u : Value) : SV (w.setCell p u) B A vs :=
  h.keep fun q hq => World.cell?_setCell_other w p q u (fun e => by subst e; omega)
theorem SV.grown (h : SV w B A vs) {row : Option Nat} (hg : w.grownBy w' row) (hB : B ≤ w.heap.size) (hr : ∀ g, row = some g → B ≤ g) : SV w' B A vs :=
  h.keep fun p hp => World.cell?_of_block (hg.block p.block (by omega) (fun e => by have := hr _ e.symm; omega))
/-- A cut from below: 's[k:]'. -/
theorem SV.cut (h : SV w B A vs) (k : Nat) (P : Prop) [Decidable P] (hp : P → vs.length ≤ k ∨ k = 0) :
    SV w B (if P then A else A.map (·.add k)) (vs.drop k) := by
  by_cases h0 : vs.length ≤ k
  · exact .inl (by simpa using h0)
  · obtain ⟨b, off, rfl, hb, hc⟩ := h.at_ (by omega)
    by_cases hP : P
    · rw [if_pos hP]
      have hk : k = 0 := (hp hP).resolve_left h0
      subst hk
      exact .inr ⟨b, off, rfl, hb, by simpa using hc⟩
    · rw [if_neg hP]
      refine .inr ⟨b, off + k, ?_, hb, fun j u hu => ?_⟩
      · simp only [Option.map_some, Addr.add]
        split
        · rename_i h; simp [h]
        · rfl
      · rw [List.getElem?_drop] at hu
        rw [Nat.add_assoc]
        exact hc _ u hu
theorem SV.take (h : SV w B A vs) (k : Nat) : SV w B A (vs.take k) := by
  rcases h with rfl | ⟨b, off, e, hb, hc⟩
  · exact .inl (by simp)
  · refine .inr ⟨b, off, e, hb, fun j u hu => hc j u ?_⟩
    rw [List.getElem?_take] at hu
    split at hu
    · exact hu
    · cases hu
theorem SV.of_own {base : Nat} {e : TypeId} {size n c : Nat} (h : w.ownsRow base e size (.slice A n c) n vs) : SV w w.heap.size A vs := by
  rcases Nat.eq_zero_or_pos n with hn | hn
  · subst hn
    exact .inl (List.eq_nil_of_length_eq_zero (by simpa using h.1))
  · obtain ⟨g, cap, hv, _, hlt⟩ := h.form hn
    have hA : A = some ⟨g, 0, none⟩ := by injection hv
    subst hA
    refine .inr ⟨g, 0, rfl, hlt, fun j u hu => ?_⟩
    have := h.cells (g := g) rfl j u hu
    unfold Addr.add at this
    split at this
    · rename_i hj; subst hj; exact this
    · exact this
end

/-- What a slice value's shape is: owned rows begin at a block's head. -/
theorem own_form {w : World} {base : Nat} {e : TypeId} {size : Nat} {v : Value} {n : Nat} {vs : List Value} (h : w.ownsRow base e size v n vs) :
    ∃ A c, v = .slice A n c ∧ n ≤ c ∧ c ≤ maxLen := by
  rcases h.2 with ⟨rfl, rfl⟩ | ⟨g, cap, cur, rfl, _, _, hn, hm, _⟩
  · exact ⟨none, 0, rfl, Nat.le_refl _, by simp [maxLen]⟩
  · exact ⟨_, cap, rfl, hn, hm⟩

/-- The bytes of a slice of bytes, the numbers of a slice of numbers. -/
def bytesV (l : List UInt8) : List Value := l.map fun b => .int .u8 b.toNat
def intsV (l : List Int) : List Value := l.map fun n => .int .i64 n
def boolsV (l : List Bool) : List Value := l.map fun b => .bool b
@[simp] theorem bytesV_length (l : List UInt8) : (bytesV l).length = l.length := by simp [bytesV]
@[simp] theorem intsV_length (l : List Int) : (intsV l).length = l.length := by simp [intsV]
@[simp] theorem boolsV_length (l : List Bool) : (boolsV l).length = l.length := by simp [boolsV]
@[simp] theorem bytesV_append (l m : List UInt8) : bytesV (l ++ m) = bytesV l ++ bytesV m := by simp [bytesV]
@[simp] theorem intsV_append (l m : List Int) : intsV (l ++ m) = intsV l ++ intsV m := by simp [intsV]
@[simp] theorem boolsV_append (l m : List Bool) : boolsV (l ++ m) = boolsV l ++ boolsV m := by simp [boolsV]
theorem bytesV_one (l : List UInt8) : ∀ u ∈ bytesV l, u.oneCell' = true := by
  intro u hu; simp only [bytesV, List.mem_map] at hu; obtain ⟨b, _, rfl⟩ := hu; rfl
theorem intsV_one (l : List Int) : ∀ u ∈ intsV l, u.oneCell' = true := by
  intro u hu; simp only [intsV, List.mem_map] at hu; obtain ⟨b, _, rfl⟩ := hu; rfl
theorem boolsV_one (l : List Bool) : ∀ u ∈ boolsV l, u.oneCell' = true := by
  intro u hu; simp only [boolsV, List.mem_map] at hu; obtain ⟨b, _, rfl⟩ := hu; rfl

section
variable {w w' : World} {B : Nat} {A : Option Addr}
theorem SV.byte {l : List UInt8} (h : SV w B A (bytesV l)) (i : Nat) (hi : i < l.length) : ∃ b off, A = some ⟨b, off, none⟩ ∧ b < B ∧ w.cell? ⟨b, off + i, none⟩ = some (.int .u8 l[i].toNat) := by
  obtain ⟨b, off, e, hb, hc⟩ := h.at_ (by simp; omega)
  exact ⟨b, off, e, hb, hc i _ (by simp [bytesV, hi])⟩
theorem SV.int {l : List Int} (h : SV w B A (intsV l)) (i : Nat) (hi : i < l.length) : ∃ b off, A = some ⟨b, off, none⟩ ∧ b < B ∧ w.cell? ⟨b, off + i, none⟩ = some (.int .i64 l[i]) := by
  obtain ⟨b, off, e, hb, hc⟩ := h.at_ (by simp; omega)
  exact ⟨b, off, e, hb, hc i _ (by simp [intsV, hi])⟩
theorem SV.bool {l : List Bool} (h : SV w B A (boolsV l)) (i : Nat) (hi : i < l.length) : ∃ b off, A = some ⟨b, off, none⟩ ∧ b < B ∧ w.cell? ⟨b, off + i, none⟩ = some (.bool l[i]) := by
  obtain ⟨b, off, e, hb, hc⟩ := h.at_ (by simp; omega)
  exact ⟨b, off, e, hb, hc i _ (by simp [boolsV, hi])⟩
end

/-! ### append onto a row of the call's own, whatever the source -/
section
variable {P : Program} (w : World)

theorem run_append_of_nil (base : Nat) (t ty e : TypeId) (i : TypeInfo) (size : Nat) (ht : P.underlying t = some (.slice e)) (hi : P.info? e = some i)
    (v : Value) (n : Nat) (xs : List Value) (hown : w.ownsRow base e size v n xs) (c : Nat) : (Builtin.append_ #[t, t] ty #[v, .slice none 0 c]).run P w = .ok v w := by
  rcases hown.2 with ⟨rfl, rfl⟩ | ⟨g, cap, cur, rfl, _, _, hnc, _⟩
  · simp [Builtin.append_, run_underlying ht, sizeOf, typeInfo, hi, Builtin.lenOf, Builtin.firstCells]
  · simp [Builtin.append_, run_underlying ht, sizeOf, typeInfo, hi, Builtin.lenOf, Builtin.firstCells, hnc, storeCells]

theorem run_append_sv (base : Nat) (t ty e : TypeId) (i : TypeInfo) (z : Value) (size bytes : Nat) (ht : P.underlying t = some (.slice e)) (hi : P.info? e = some i) (hz : i.zero = some z)
    (hsize : i.size = size) (hby : i.bytes = bytes) (hzs : z.cells.size = size) (hsz : 0 < size)
    (v : Value) (n : Nat) (xs : List Value) (hown : w.ownsRow base e size v n xs)
    (B : Nat) (A : Option Addr) (m c : Nat) (news : List Value) (hl : news.length = m * size) (hr : SV w B A news) (h1 : ∀ u ∈ news, u.oneCell' = true)
    (h63 : n + m ≤ maxLen) (hbytes : (n + m) * bytes ≤ 140737488355328) (hbase : base ≤ w.heap.size) :
    ∃ v' w', (Builtin.append_ #[t, t] ty #[v, .slice A m c]).run P w = .ok v' w' ∧ w'.ownsRow base e size v' (n + m) (xs ++ news) ∧ w.grownBy w' v.ownBlock ∧
      (v'.ownBlock = v.ownBlock ∨ v'.ownBlock = some w.heap.size) := by
  rcases A with _ | ad
  · have hn : news = [] := by
      rcases hr with h | ⟨b, off, h, _⟩
      · exact h
      · cases h
    subst hn
    have hm : m = 0 := by
      rcases Nat.eq_zero_or_pos m with h0 | h0
      · exact h0
      · have := Nat.mul_pos h0 hsz
        simp at hl; omega
    subst hm
    exact ⟨v, w, run_append_of_nil w base t ty e i size ht hi v n xs hown c, by simpa using hown, World.grownBy.refl w _, .inl rfl⟩
  · have hcells : ∀ j u, news[j]? = some u → w.cell? (ad.add j) = some u := by
      intro j u hu
      rcases hr with h | ⟨b, off, h, _, hc⟩
      · subst h; simp at hu
      · injection h with h
        subst h
        have := hc j u hu
        unfold Addr.add
        split
        · rename_i hj; subst hj; exact this
        · exact this
    obtain ⟨v', w', hrun, h2, h3, _, h5⟩ := run_append_own_at (P := P) w base t ty e i z size bytes ht hi hz hsize hby hzs hsz v n xs hown ad m c news hl hcells h1 h63 hbytes hbase
    exact ⟨v', w', hrun, h2, h3, h5⟩

theorem wp_append_sv {o : Oper} {a : Act} {K : Act → World → Prop} {Q : Exit → Act → World → Prop} (s x : Operand) (t : TypeId)
    (ho : o.op = .call { callee := .builtin .append, args := #[s, x], argTypes := #[t, t] })
    (base : Nat) (e : TypeId) (i : TypeInfo) (z : Value) (size bytes : Nat) (ht : P.underlying t = some (.slice e)) (hi : P.info? e = some i) (hz : i.zero = some z)
    (hsize : i.size = size) (hby : i.bytes = bytes) (hzs : z.cells.size = size) (hsz : 0 < size)
    (v : Value) (n : Nat) (xs : List Value) (hs : a.eval s = v) (hown : w.ownsRow base e size v n xs)
    (B : Nat) (A : Option Addr) (m c : Nat) (news : List Value) (hx : a.eval x = .slice A m c) (hl : news.length = m * size) (hr : SV w B A news) (h1 : ∀ u ∈ news, u.oneCell' = true)
    (h63 : n + m ≤ maxLen) (hbytes : (n + m) * bytes ≤ 140737488355328) (hbase : base ≤ w.heap.size)
    (h : ∀ v' w', w'.ownsRow base e size v' (n + m) (xs ++ news) → w.grownBy w' v.ownBlock → (v'.ownBlock = v.ownBlock ∨ v'.ownBlock = some w.heap.size) → K (a.put o.dst v') w') : o.wp P a w K Q := by
  obtain ⟨v', w', hrun, h2, h3, h4⟩ := run_append_sv (P := P) w base t o.type e i z size bytes ht hi hz hsize hby hzs hsz v n xs hown B A m c news hl hr h1 h63 hbytes hbase
  unfold Oper.wp execOp
  simp only [ho, resolve, invoke, builtin, Sem.run_bind, Sem.run_pure, Result.andThen_ok, List.map_toArray, List.map_cons, List.map_nil, hs, hx, hrun]
  exact h v' w' h2 h3 h4

theorem wpList_append_sv {ops : Array Oper} {rest : List Oper} {o : Oper} {a : Act} {Q : Exit → Act → World → Prop} (hgd : o.guard = none) (s x : Operand) (t : TypeId)
    (ho : o.op = .call { callee := .builtin .append, args := #[s, x], argTypes := #[t, t] })
    (base : Nat) (e : TypeId) (i : TypeInfo) (z : Value) (size bytes : Nat) (ht : P.underlying t = some (.slice e)) (hi : P.info? e = some i) (hz : i.zero = some z)
    (hsize : i.size = size) (hby : i.bytes = bytes) (hzs : z.cells.size = size) (hsz : 0 < size)
    (v : Value) (n : Nat) (xs : List Value) (hs : a.eval s = v) (hown : w.ownsRow base e size v n xs)
    (B : Nat) (A : Option Addr) (m c : Nat) (news : List Value) (hx : a.eval x = .slice A m c) (hl : news.length = m * size) (hr : SV w B A news) (h1 : ∀ u ∈ news, u.oneCell' = true)
    (h63 : n + m ≤ maxLen) (hbytes : (n + m) * bytes ≤ 140737488355328) (hbase : base ≤ w.heap.size)
    (h : ∀ v' w', w'.ownsRow base e size v' (n + m) (xs ++ news) → w.grownBy w' v.ownBlock → (v'.ownBlock = v.ownBlock ∨ v'.ownBlock = some w.heap.size) → wpList P ops Q rest (a.put o.dst v') w') : wpList P ops Q (o :: rest) a w :=
  wpList_plain hgd fun _ hK => wp_append_sv w s x t ho base e i z size bytes ht hi hz hsize hby hzs hsz v n xs hs hown B A m c news hx hl hr h1 h63 hbytes hbase fun v' w' h2 h3 h4 => hK _ _ (h v' w' h2 h3 h4)
end

/-- Behind an append by these laws: what lay below the call's own blocks is as it was. -/
theorem below_append {B base : Nat} {a w w' : World} {e : TypeId} {size n : Nat} {v : Value} {xs : List Value} (h : Below B a w) (hown : w.ownsRow base e size v n xs) (hg : w.grownBy w' v.ownBlock)
    (hB : B ≤ base) (hbase : base ≤ w.heap.size) : Below B a w' :=
  h.grown hg (by omega) fun k hk => by have := (hown.lt k hk).1; omega
/-- Another owned row is kept, if the row that was appended to lies in another block. -/
theorem own_kept {base base' : Nat} {w w' : World} {e : TypeId} {size n : Nat} {v v2 : Value} {xs : List Value} (h : w.ownsRow base e size v n xs) (hg : w.grownBy w' v2.ownBlock)
    (hne : ∀ g, v2.ownBlock = some g → base' ≤ g) (hlt : ∀ g, v.ownBlock = some g → g < base') : w'.ownsRow base e size v n xs := by
  refine h.kept hg ?_
  rcases hv : v.ownBlock with _ | g
  · exact .inl rfl
  · refine .inr (fun e2 => ?_)
    have h1 := hlt g hv
    have h2 := hne g e2.symm
    omega

/-- Two blocks of different element types are not one. -/
theorem own_ne_own {w : World} {base base' : Nat} {e e' : TypeId} {size size' n n' : Nat} {v v' : Value} {xs xs' : List Value} (h : w.ownsRow base e size v n xs) (h' : w.ownsRow base' e' size' v' n' xs') (hne : e ≠ e') :
    v.ownBlock = none ∨ v.ownBlock ≠ v'.ownBlock := by
  rcases h.2 with ⟨rfl, _⟩ | ⟨g, cap, cur, rfl, _, hh, _⟩
  · exact .inl rfl
  · refine .inr (fun he => ?_)
    rcases h'.2 with ⟨rfl, _⟩ | ⟨g', cap', cur', rfl, _, hh', _⟩
    · simp [Value.ownBlock] at he
    · simp [Value.ownBlock] at he
      subst he
      rw [hh] at hh'
      injection hh' with hh'
      injection hh' with _ ht
      exact hne ht

/-! ### frames: only one block has turned; a block that is known whole -/
theorem only_drewN {a w : World} {row : Option Nat} (h : a.grownBy w row) (n : Nat) : a.grownBy (w.drewN n) row := ⟨h.os, h.tape, h.output, h.size, h.block⟩
theorem only_drew {a w : World} {row : Option Nat} (h : a.grownBy w row) : a.grownBy w.drew row := ⟨h.os, h.tape, h.output, h.size, h.block⟩
theorem only_alloc {a w : World} {row : Option Nat} (h : a.grownBy w row) (o : Obj) : a.grownBy (w.alloc o) row :=
  ⟨h.os, h.tape, h.output, Nat.le_trans h.size (by simp), fun i hi hne => (Below.heap_alloc w o i (Nat.lt_of_lt_of_le hi h.size)).trans (h.block i hi hne)⟩
theorem only_setCell {a w : World} {row : Option Nat} (h : a.grownBy w row) {p : Addr} (hp : some p.block = row ∨ a.heap.size ≤ p.block) (u : Value) : a.grownBy (w.setCell p u) row :=
  ⟨h.os, h.tape, h.output, by simpa [World.setCell] using h.size, fun i hi hne => (Below.heap_setCell w p u i (by
    rintro rfl
    rcases hp with hp | hp
    · exact hne hp
    · omega)).trans (h.block i hi hne)⟩
theorem only_trans {a b c : World} {row row' : Option Nat} (h : a.grownBy b row) (k : b.grownBy c row') (hr : ∀ g, row' = some g → row = some g ∨ a.heap.size ≤ g) : a.grownBy c row :=
  ⟨k.os.trans h.os, k.tape.trans h.tape, k.output.trans h.output, Nat.le_trans h.size k.size, fun i hi hne => (k.block i (Nat.lt_of_lt_of_le hi h.size) (fun e => by
    rcases hr i e.symm with h1 | h1
    · exact hne h1.symm
    · omega)).trans (h.block i hi hne)⟩
theorem only_of_below {a w : World} (h : Below a.heap.size a w) (row : Option Nat) : a.grownBy w row := ⟨h.os, h.tape, h.output, h.size, fun i hi _ => h.block i hi⟩
theorem below_of_only {a w : World} {B : Nat} {row : Option Nat} (h : a.grownBy w row) (hB : B ≤ a.heap.size) (hr : ∀ g, row = some g → B ≤ g) : Below B a w := (Below.refl B a).grown h hB hr

def Blk (w : World) (g : Nat) (t : TypeId) (cs : Array Value) : Prop := w.heap[g]? = some (.cells cs t (0, 0))
section
variable {w w' : World} {g : Nat} {t : TypeId} {cs : Array Value}
theorem Blk.lt (h : Blk w g t cs) : g < w.heap.size := by
  rcases Nat.lt_or_ge g w.heap.size with hlt | hge
  · exact hlt
  · unfold Blk at h; rw [Array.getElem?_eq_none hge] at h; cases h
theorem Blk.cell (h : Blk w g t cs) (i : Nat) : w.cell? ⟨g, i, none⟩ = cs[i]? := cell_of_row w g i cs t (0, 0) h
theorem Blk.frozen (h : Blk w g t cs) (i : Nat) : w.frozen? ⟨g, i, none⟩ = false := by
  unfold Blk at h
  simp [World.frozen?, h]
theorem Blk.new (w : World) (t : TypeId) (cs : Array Value) : Blk (w.alloc (.cells cs t)) w.heap.size t cs := heap_alloc_new w _
theorem Blk.drew (h : Blk w g t cs) : Blk w.drew g t cs := h
theorem Blk.drewN (h : Blk w g t cs) (n : Nat) : Blk (w.drewN n) g t cs := h
theorem Blk.alloc (h : Blk w g t cs) (o : Obj) : Blk (w.alloc o) g t cs := (Below.heap_alloc w o g h.lt).trans h
theorem Blk.set_ (h : Blk w g t cs) (i : Nat) (u : Value) : Blk (w.setCell ⟨g, i, none⟩ u) g t (cs.setIfInBounds i u) := by
  unfold Blk at h ⊢
  simp [World.setCell, Array.getElem?_modify, h]
theorem Blk.far (h : Blk w g t cs) {p : Addr} (hp : g ≠ p.block) (u : Value) : Blk (w.setCell p u) g t cs := (Below.heap_setCell w p u g hp).trans h
theorem Blk.below {B : Nat} (h : Blk w g t cs) (hb : Below B w w') (hg : g < B) : Blk w' g t cs := (hb.block g hg).trans h
theorem Blk.grown {row : Option Nat} (h : Blk w g t cs) (hb : w.grownBy w' row) (hg : some g ≠ row) : Blk w' g t cs := (hb.block g h.lt hg).trans h
theorem Blk.ne_ {g' : Nat} {t' : TypeId} {cs' : Array Value} (h : Blk w g t cs) (h' : Blk w g' t' cs') (hne : t ≠ t') : g ≠ g' := by
  rintro rfl
  unfold Blk at h h'
  rw [h] at h'
  injection h' with h'
  injection h' with _ ht
  exact hne ht
theorem own_blk_ne {base : Nat} {e : TypeId} {size n : Nat} {v : Value} {xs : List Value} (h : w.ownsRow base e size v n xs) (hg : Blk w g t cs) (hne : e ≠ t) : some g ≠ v.ownBlock := by
  rcases h.2 with ⟨rfl, _⟩ | ⟨g', cap, cur, rfl, _, hh, _⟩
  · simp [Value.ownBlock]
  · intro he
    have : g' = g := by simpa [Value.ownBlock] using he.symm
    subst this
    exact Blk.ne_ (t := e) hh hg hne rfl
end

/-- A literal slice, or the one-element slice that an append makes of its argument. -/
theorem SV.lit (w : World) (cs : Array Value) (t : TypeId) : SV (w.alloc (.cells cs t)) (w.heap.size + 1) (some ⟨w.heap.size, 0, none⟩) cs.toList := by
  refine .inr ⟨w.heap.size, 0, rfl, by omega, fun j u hu => ?_⟩
  rw [Nat.zero_add, (Blk.new w t cs).cell j, ← Array.getElem?_toList]
  exact hu

/-- An owned row while a cell of another block is written. -/
theorem own_setCell {w : World} {base : Nat} {e : TypeId} {size n : Nat} {v : Value} {xs : List Value} (h : w.ownsRow base e size v n xs) {p : Addr} (hne : some p.block ≠ v.ownBlock) (u : Value) : (w.setCell p u).ownsRow base e size v n xs :=
  h.kept (only_setCell (World.grownBy.refl w (some p.block)) (.inl rfl) u) (.inr fun e => hne e.symm)

/-! ### rows of elements of several cells -/
def RowsR {α : Type} (R : α → List Value → Prop) : List α → List Value → Prop
  | [], vs => vs = []
  | a :: l, vs => ∃ cs rest, vs = cs ++ rest ∧ R a cs ∧ RowsR R l rest
section
variable {α : Type} {R R' : α → List Value → Prop} {k : Nat}
theorem RowsR.length (hk : ∀ a cs, R a cs → cs.length = k) : ∀ {l : List α} {vs : List Value}, RowsR R l vs → vs.length = l.length * k
  | [], vs, h => by simp only [RowsR] at h; subst h; simp
  | a :: l, vs, h => by
    obtain ⟨cs, rest, rfl, hc, hr⟩ := h
    have h1 := hk _ _ hc
    have h2 := RowsR.length hk hr
    simp [h1, h2, Nat.add_mul]; omega
theorem RowsR.mono (h : ∀ a cs, R a cs → R' a cs) : ∀ {l : List α} {vs : List Value}, RowsR R l vs → RowsR R' l vs
  | [], vs, hh => hh
  | a :: l, vs, hh => by
    obtain ⟨cs, rest, e, hc, hr⟩ := hh
    exact ⟨cs, rest, e, h _ _ hc, RowsR.mono h hr⟩
theorem RowsR.append : ∀ {l m : List α} {vs us : List Value}, RowsR R l vs → RowsR R m us → RowsR R (l ++ m) (vs ++ us)
  | [], m, vs, us, h, h' => by simp only [RowsR] at h; subst h; simpa using h'
  | a :: l, m, vs, us, h, h' => by
    obtain ⟨cs, rest, rfl, hc, hr⟩ := h
    exact ⟨cs, rest ++ us, by simp, hc, RowsR.append hr h'⟩
theorem RowsR.one {a : α} {cs : List Value} (h : R a cs) : RowsR R [a] cs := ⟨cs, [], by simp, h, rfl⟩
theorem RowsR.at_ (hk : ∀ a cs, R a cs → cs.length = k) : ∀ {l : List α} {vs : List Value}, RowsR R l vs → ∀ (i : Nat) (hi : i < l.length), ∃ cs, R l[i] cs ∧ ∀ j u, cs[j]? = some u → vs[i * k + j]? = some u
  | [], vs, _, i, hi => by simp at hi
  | a :: l, vs, h, 0, hi => by
    obtain ⟨cs, rest, rfl, hc, hr⟩ := h
    refine ⟨cs, hc, fun j u hu => ?_⟩
    have hj : j < cs.length := (List.getElem?_eq_some_iff.1 hu).1
    simp only [Nat.zero_mul, Nat.zero_add]
    rw [List.getElem?_append_left hj]; exact hu
  | a :: l, vs, h, i + 1, hi => by
    obtain ⟨cs, rest, rfl, hc, hr⟩ := h
    obtain ⟨ds, hd, hu⟩ := RowsR.at_ hk hr i (by simpa using hi)
    refine ⟨ds, by simpa using hd, fun j u hj => ?_⟩
    have h1 := hk _ _ hc
    rw [List.getElem?_append_right (by rw [h1, Nat.add_mul]; omega), h1]
    have : (i + 1) * k + j - k = i * k + j := by rw [Nat.add_mul]; omega
    rw [this]
    exact hu j u hj
theorem RowsR.split : ∀ {l m : List α} {vs : List Value}, RowsR R (l ++ m) vs → ∃ us ts, vs = us ++ ts ∧ RowsR R l us ∧ RowsR R m ts
  | [], m, vs, h => ⟨[], vs, rfl, rfl, h⟩
  | a :: l, m, vs, h => by
    obtain ⟨cs, rest, rfl, hc, hr⟩ := h
    obtain ⟨us, ts, rfl, h1, h2⟩ := RowsR.split hr
    exact ⟨cs ++ us, ts, by simp, ⟨cs, us, rfl, hc, h1⟩, h2⟩
end
/-- Element i of a slice of elements of k cells. -/
theorem SV.row {α : Type} {R : α → List Value → Prop} {k : Nat} (hk : ∀ a cs, R a cs → cs.length = k) (hk0 : 0 < k) {w : World} {B : Nat} {A : Option Addr} {vs : List Value} {l : List α}
    (h : SV w B A vs) (hr : RowsR R l vs) (i : Nat) (hi : i < l.length) :
    ∃ b off cs, A = some ⟨b, off, none⟩ ∧ b < B ∧ R l[i] cs ∧ ∀ j u, cs[j]? = some u → w.cell? ⟨b, off + i * k + j, none⟩ = some u := by
  have hl := hr.length hk
  have : 0 < vs.length := by
    rw [hl]; exact Nat.mul_pos (by omega) hk0
  obtain ⟨b, off, e, hb, hc⟩ := h.at_ this
  obtain ⟨cs, hcs, hu⟩ := hr.at_ hk i hi
  exact ⟨b, off, cs, e, hb, hcs, fun j u hj => by rw [Nat.add_assoc]; exact hc _ _ (hu j u hj)⟩

theorem below_drewN {B : Nat} {a w : World} (h : Below B a w) (n : Nat) : Below B a (w.drewN n) := ⟨h.os, h.tape, h.output, h.size, h.block⟩

def I64 (n : Int) : Prop := -9223372036854775808 ≤ n ∧ n ≤ 9223372036854775807
theorem ret_eq {a b : Value} (h : a = b) : Ending.returned a = .returned b := by rw [h]
theorem int_eq {k : IntKind} {a b : Int} (h : a = b) : Value.int k a = .int k b := by rw [h]
theorem bool_eq {a b : Bool} (h : a = b) : Value.bool a = .bool b := by rw [h]
end Go.V
