/-
  Views, second part: append with the new value written out.
-/
import Derived.Test.YtinebbleilnejaaView
namespace Go.V
open Go.RowKit

theorem blk_put2 {w : World} {g : Nat} {t : TypeId} {a b : Value} (h : Blk w g t #[a, b]) (x y : Value) : Blk ((w.setCell ⟨g, 0, none⟩ x).setCell ⟨g, 1, none⟩ y) g t #[x, y] := by
  simpa using (h.set_ 0 x).set_ 1 y

/-- An append onto an owned row keeps the blocks of other element types and all that lay below. -/
theorem app_keep {wr w' : World} {B0 : Nat} {e : TypeId} {size n : Nat} {v : Value} {xs : List Value} (hown : wr.ownsRow B0 e size v n xs) (o : Obj) (hg : (wr.alloc o).grownBy w' v.ownBlock) (hB : B0 ≤ wr.heap.size) :
    (∀ g t cs, e ≠ t → Blk wr g t cs → Blk w' g t cs) ∧ (∀ a B, B ≤ B0 → Below B a wr → Below B a w') ∧ wr.heap.size + 1 ≤ w'.heap.size :=
  ⟨fun g t cs hne hb => (hb.alloc o).grown hg (own_blk_ne (hown.alloc o) (hb.alloc o) hne),
   fun a B hB' hb => below_append (hb.alloc (by omega) o) (hown.alloc o) hg (by omega) (by simp; omega),
   by have := hg.size; simpa using this⟩

section
variable {P : Program} (w : World)
/-- 'out = append(out, x)', x one element of one cell: the argument lies in a block of its own; the new value is written out. -/
theorem wpList_app1 {ops : Array Oper} {rest : List Oper} {o : Oper} {a : Act} {Q : Exit → Act → World → Prop} (hgd : o.guard = none) (s x : Operand) (t : TypeId)
    (ho : o.op = .call { callee := .builtin .append, args := #[s, x], argTypes := #[t, t] })
    (base : Nat) (e : TypeId) (i : TypeInfo) (z : Value) (bytes : Nat) (ht : P.underlying t = some (.slice e)) (hi : P.info? e = some i) (hz : i.zero = some z)
    (hsize : i.size = 1) (hby : i.bytes = bytes) (hzs : z.cells.size = 1)
    (A : Option Addr) (n c : Nat) (xs : List Value) (hs : a.eval s = .slice A n c) (hown : w.ownsRow base e 1 (.slice A n c) n xs)
    (g : Nat) (cx : Nat) (u : Value) (hx : a.eval x = .slice (some ⟨g, 0, none⟩) 1 cx) (hu : w.cell? ⟨g, 0, none⟩ = some u) (h1 : u.oneCell' = true)
    (h63 : n + 1 ≤ maxLen) (hbytes : (n + 1) * bytes ≤ 140737488355328) (hbase : base ≤ w.heap.size)
    (h : ∀ A' c' w', w'.ownsRow base e 1 (.slice A' (n + 1) c') (n + 1) (xs ++ [u]) → w.grownBy w' (Value.slice A n c).ownBlock → n + 1 ≤ c' → wpList P ops Q rest (a.put o.dst (.slice A' (n + 1) c')) w') : wpList P ops Q (o :: rest) a w := by
  refine wpList_append_sv w hgd s x t ho base e i z 1 bytes ht hi hz hsize hby hzs (by omega) (.slice A n c) n xs hs hown (g + 1) (some ⟨g, 0, none⟩) 1 cx [u] hx rfl ?_ ?_ h63 hbytes hbase ?_
  · refine .inr ⟨g, 0, rfl, by omega, fun j v hj => ?_⟩
    match j, hj with
    | 0, hj => simp at hj; subst hj; simpa using hu
  · intro v hv; simp at hv; subst hv; exact h1
  · intro v' w' hown' hg' _
    obtain ⟨A', c', rfl, hc', _⟩ := own_form hown'
    exact h A' c' w' hown' hg' hc'

/-- The same, whatever the source: 'out = append(out, xs...)'. -/
theorem wpList_appN {ops : Array Oper} {rest : List Oper} {o : Oper} {a : Act} {Q : Exit → Act → World → Prop} (hgd : o.guard = none) (s x : Operand) (t : TypeId)
    (ho : o.op = .call { callee := .builtin .append, args := #[s, x], argTypes := #[t, t] })
    (base : Nat) (e : TypeId) (i : TypeInfo) (z : Value) (size bytes : Nat) (ht : P.underlying t = some (.slice e)) (hi : P.info? e = some i) (hz : i.zero = some z)
    (hsize : i.size = size) (hby : i.bytes = bytes) (hzs : z.cells.size = size) (hsz : 0 < size)
    (A : Option Addr) (n c : Nat) (xs : List Value) (hs : a.eval s = .slice A n c) (hown : w.ownsRow base e size (.slice A n c) n xs)
    (B : Nat) (A2 : Option Addr) (m c2 : Nat) (news : List Value) (hx : a.eval x = .slice A2 m c2) (hl : news.length = m * size) (hr : SV w B A2 news) (h1 : ∀ u ∈ news, u.oneCell' = true)
    (h63 : n + m ≤ maxLen) (hbytes : (n + m) * bytes ≤ 140737488355328) (hbase : base ≤ w.heap.size)
    (h : ∀ A' c' w', w'.ownsRow base e size (.slice A' (n + m) c') (n + m) (xs ++ news) → w.grownBy w' (Value.slice A n c).ownBlock → n + m ≤ c' → wpList P ops Q rest (a.put o.dst (.slice A' (n + m) c')) w') : wpList P ops Q (o :: rest) a w := by
  refine wpList_append_sv w hgd s x t ho base e i z size bytes ht hi hz hsize hby hzs hsz (.slice A n c) n xs hs hown B A2 m c2 news hx hl hr h1 h63 hbytes hbase ?_
  intro v' w' hown' hg' _
  obtain ⟨A', c', rfl, hc', _⟩ := own_form hown'
  exact h A' c' w' hown' hg' hc'
/-- The same at a step of a region that draws its order ('go_region_law'): the new slice begins at a block's head. -/
theorem step_app1 {ops : Array Oper} {o : Oper} {a : Act} {K : Act → World → Prop} {Q : Exit → Act → World → Prop} {E : Prop} (hgd : o.guard = none) (s x : Operand) (t : TypeId)
    (ho : o.op = .call { callee := .builtin .append, args := #[s, x], argTypes := #[t, t] })
    (base : Nat) (e : TypeId) (i : TypeInfo) (z : Value) (bytes : Nat) (ht : P.underlying t = some (.slice e)) (hi : P.info? e = some i) (hz : i.zero = some z)
    (hsize : i.size = 1) (hby : i.bytes = bytes) (hzs : z.cells.size = 1)
    (A : Option Addr) (n c : Nat) (xs : List Value) (hs : a.eval s = .slice A n c) (hown : w.ownsRow base e 1 (.slice A n c) n xs)
    (g : Nat) (cx : Nat) (u : Value) (hx : a.eval x = .slice (some ⟨g, 0, none⟩) 1 cx) (hu : w.cell? ⟨g, 0, none⟩ = some u) (h1 : u.oneCell' = true)
    (h63 : n + 1 ≤ maxLen) (hbytes : (n + 1) * bytes ≤ 140737488355328) (hbase : base ≤ w.heap.size)
    (h : ∀ gd c' w', w'.ownsRow base e 1 (.slice (some ⟨gd, 0, none⟩) (n + 1) c') (n + 1) (xs ++ [u]) → w.grownBy w' (Value.slice A n c).ownBlock → K (a.put o.dst (.slice (some ⟨gd, 0, none⟩) (n + 1) c')) w') :
    if Region.wanted o (yielded ops a.tmps) = true then Oper.wp P o a w K Q else E := by
  refine step_append_lies w hgd s x t ho base e i z 1 bytes ht hi hz hsize hby hzs (by omega) (.slice A n c) n xs hs hown ⟨g, 0, none⟩ 1 cx [u] hx rfl ?_ ?_ (by omega) h63 hbytes hbase w.heap.size rfl ?_
  · intro j v hj
    match j, hj with
    | 0, hj => simp at hj; subst hj; simpa [Addr.add] using hu
  · intro v hv; simp at hv; subst hv; exact h1
  · intro gd cap w' h2 h3 _ _
    exact h gd cap w' h2 h3
end
end Go.V
