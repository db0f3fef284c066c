/-
  Views, eighth part: append where two rows of one element type are kept apart.
-/
import Derived.Test.YtinebbleilnejaaView2
namespace Go.V
open Go.RowKit

section
variable {P : Program} (w : World)
/-- 'out = append(out, x)' as 'wpList_app1', and which block the row then owns. -/
theorem wpList_app1o {ops : Array Oper} {rest : List Oper} {o : Oper} {a : Act} {Q : Exit → Act → World → Prop} (hgd : o.guard = none) (s x : Operand) (t : TypeId)
    (ho : o.op = .call { callee := .builtin .append, args := #[s, x], argTypes := #[t, t] })
    (base : Nat) (e : TypeId) (i : TypeInfo) (z : Value) (bytes : Nat) (ht : P.underlying t = some (.slice e)) (hi : P.info? e = some i) (hz : i.zero = some z)
    (hsize : i.size = 1) (hby : i.bytes = bytes) (hzs : z.cells.size = 1)
    (A : Option Addr) (n c : Nat) (xs : List Value) (hs : a.eval s = .slice A n c) (hown : w.ownsRow base e 1 (.slice A n c) n xs)
    (g : Nat) (cx : Nat) (u : Value) (hx : a.eval x = .slice (some ⟨g, 0, none⟩) 1 cx) (hu : w.cell? ⟨g, 0, none⟩ = some u) (h1 : u.oneCell' = true)
    (h63 : n + 1 ≤ maxLen) (hbytes : (n + 1) * bytes ≤ 140737488355328) (hbase : base ≤ w.heap.size)
    (h : ∀ A' c' w', w'.ownsRow base e 1 (.slice A' (n + 1) c') (n + 1) (xs ++ [u]) → w.grownBy w' (Value.slice A n c).ownBlock → n + 1 ≤ c' → ((Value.slice A' (n + 1) c').ownBlock = (Value.slice A n c).ownBlock ∨ (Value.slice A' (n + 1) c').ownBlock = some w.heap.size) → wpList P ops Q rest (a.put o.dst (.slice A' (n + 1) c')) w') : wpList P ops Q (o :: rest) a w := by
  refine wpList_append_sv w hgd s x t ho base e i z 1 bytes ht hi hz hsize hby hzs (by omega) (.slice A n c) n xs hs hown (g + 1) (some ⟨g, 0, none⟩) 1 cx [u] hx rfl ?_ ?_ h63 hbytes hbase ?_
  · refine .inr ⟨g, 0, rfl, by omega, fun j v hj => ?_⟩
    match j, hj with
    | 0, hj => simp at hj; subst hj; simpa using hu
  · intro v hv; simp at hv; subst hv; exact h1
  · intro v' w' hown' hg' hbl
    obtain ⟨A', c', rfl, hc', _⟩ := own_form hown'
    exact h A' c' w' hown' hg' hc' hbl
end

/-- Two rows of the call's own that do not share a block. -/
def Apart (v v' : Value) : Prop := ∀ g, v.ownBlock = some g → v'.ownBlock ≠ some g
theorem Apart.symm {v v' : Value} (h : Apart v v') : Apart v' v := fun g h1 h2 => h g h2 h1
theorem apart_nil (v : Value) (c : Nat) : Apart v (.slice none 0 c) := fun g _ h => by simp [Value.ownBlock] at h
/-- The first row has grown: the second one stays, and they stay apart. -/
theorem apart_app {w w' : World} {base : Nat} {e : TypeId} {size n : Nat} {v v1 v2 : Value} {xs : List Value} (h : Apart v v2) (h2 : w.ownsRow base e size v2 n xs) (o : Obj) (hg : (w.alloc o).grownBy w' v.ownBlock)
    (hb : v1.ownBlock = v.ownBlock ∨ v1.ownBlock = some (w.heap.size + 1)) : w'.ownsRow base e size v2 n xs ∧ Apart v1 v2 := by
  constructor
  · refine (h2.alloc o).kept hg ?_
    rcases hv : v2.ownBlock with _ | g
    · exact .inl rfl
    · exact .inr fun e => h g e.symm hv
  · intro g h1 h3
    rcases hb with hb | hb
    · exact h g (hb ▸ h1) h3
    · rw [hb] at h1
      injection h1 with h1
      have := (h2.lt g h3).2
      omega
end Go.V
