/-
  Queries: the state of the walk of 'Eval', and what its rounds need.
-/
import Derived.Test.YtebohncdhhikkaaOq10
namespace Oq
theorem ops_in : ∀ (l : List N) (i0 : Nat) (rs rs' : List Int), run l i0 rs = some rs' → (∀ r ∈ rs, 0 ≤ r ∧ r < (i0 : Int)) → ∀ j (h : j < l.length),
    (1 ≤ ar l[j].kind → 0 ≤ l[j].left ∧ l[j].left < ((i0 + j : Nat) : Int)) ∧ (ar l[j].kind = 2 → 0 ≤ l[j].right ∧ l[j].right < ((i0 + j : Nat) : Int))
  | [], _, _, _, _, _, j, h => absurd h (by simp)
  | n :: l, i0, rs, rs', hr, hi, j, h => by
    rw [run] at hr
    split at hr
    · rename_i hc
      match j, h with
      | 0, _ => exact chk_in hc hi
      | j + 1, h =>
        have := ops_in l (i0 + 1) _ rs' hr (nxt_in hi) j (by simpa using h)
        rw [show i0 + (j + 1) = i0 + 1 + j by omega]
        exact this
    · cases hr
theorem evL_take (h : List Hs.Cm) (l : List N) (i : Nat) (hi : i < l.length) : evL h (l.take (i + 1)) [] = evL h (l.take i) [] ++ [evN h (sAt (evL h (l.take i) [])) l[i]] := by
  rw [List.take_succ_eq_append_getElem hi, evL_app]; rfl
theorem sAt_get (s : List (Nat → Bool)) (i : Nat) (h : i < s.length) : sAt s (i : Int) = s[i] := by unfold sAt; rw [Int.toNat_natCast, List.getElem?_eq_getElem h]; rfl
/-- What a leaf tells at commit i. -/
def lf (x : N) (i : Nat) : Bool := if x.kind = 2 then false else decide ((i : Int) = x.num)
def oneV (h : List Hs.Cm) (k : Int) (f : Nat → Bool) : Nat → Bool := if k = 8 then Hs.of h (fun x => decide (x < h.length) && f x) else dAt h f h.length
def binV (k : Int) (f g : Nat → Bool) : Nat → Bool := fun i => if k = 14 then f i || g i else f i && !g i
theorem evN_leaf (h : List Hs.Cm) (s : Int → Nat → Bool) (x : N) (hk : x.kind = 2 ∨ x.kind = 3) : evN h s x = lf x := by
  funext i; unfold evN lf
  rcases hk with e | e <;> simp [e]
theorem evN_one (h : List Hs.Cm) (s : Int → Nat → Bool) (x : N) (hk : x.kind = 8 ∨ x.kind = 9) : evN h s x = oneV h x.kind (s x.left) := by
  unfold evN oneV
  rcases hk with e | e <;> simp [e]
theorem evN_bin (h : List Hs.Cm) (s : Int → Nat → Bool) (x : N) (hk : x.kind = 14 ∨ x.kind = 16) : evN h s x = binV x.kind (s x.left) (s x.right) := by
  unfold evN
  rcases hk with e | e
  · funext i; simp [binV, e]
  · funext i; simp [binV, e]
end Oq
namespace Go.Proofs.Ytebohncdhhikkaa
open Go.RowKit Go.V
set_option linter.unusedVariables false

theorem leaf_any (w : World) (x : Oq.N) (hk : x.kind = 2 ∨ x.kind = 3) (cs : List Value) (hcs : cs.length = 5) (i : Nat) : Calls Try.prog 29 #[nV x, .agg cs.toArray, .int .i64 (i : Int)] w fun e w' => e = .returned (.bool (Oq.lf x i)) ∧ Below w.heap.size w w' := by
  obtain ⟨kd, nu, le, ri⟩ := x
  simp only at hk
  rcases hk with rfl | rfl
  · exact (leaf_none w nu le ri cs hcs i).mono fun e w' ⟨h1, h2⟩ => ⟨h1, h2 ▸ below_alloc2 w _ _⟩
  · exact (leaf_one w nu le ri cs hcs i).mono fun e w' ⟨h1, h2⟩ => ⟨h1, h2 ▸ below_alloc2 w _ _⟩
theorem one_any (w : World) (A A2 : Option Addr) (k k2 : Nat) (kd : Int) (hk : kd = 8 ∨ kd = 9) (l : List Hs.Cm) (f : Nat → Bool) (hv : CV w A l) (hok : Hs.Ok l) (h2 : BV w A2 (tab l.length f)) :
    Calls Try.prog 30 #[.slice A l.length k, .int .i64 kd, .slice A2 l.length k2] w (OwnB w l.length (Oq.oneV l kd f)) := by
  rcases hk with rfl | rfl
  · exact one8_any w A A2 k k2 l f hv hok h2
  · exact one9_any w A A2 k k2 l f hv hok h2
/-- A value is a slice of bools in a block below lim. -/
def RowIs (wr : World) (n lim : Nat) (v : Value) (f : Nat → Bool) : Prop :=
  ∃ A c, v = .slice A n c ∧ wr.ownsRow 0 4 1 (.slice A n c) n (boolsV (tab n f)) ∧ ∀ b, (Value.slice A n c).ownBlock = some b → b < lim
theorem RowIs.below {wr wr' : World} {n lim : Nat} {v : Value} {f : Nat → Bool} (h : RowIs wr n lim v f) (hb : Below wr.heap.size wr wr') : RowIs wr' n lim v f := by
  obtain ⟨A, c, e, h1, h2⟩ := h; exact ⟨A, c, e, own_below h1 hb, h2⟩
theorem RowIs.more {wr : World} {n lim lim' : Nat} {v : Value} {f : Nat → Bool} (h : RowIs wr n lim v f) (hl : lim ≤ lim') : RowIs wr n lim' v f := by
  obtain ⟨A, c, e, h1, h2⟩ := h; exact ⟨A, c, e, h1, fun b hb => Nat.lt_of_lt_of_le (h2 b hb) hl⟩
theorem RowIs.far {wr : World} {n lim : Nat} {v : Value} {f : Nat → Bool} (h : RowIs wr n lim v f) {p : Addr} (hp : lim ≤ p.block) (u : Value) : RowIs (wr.setCell p u) n lim v f := by
  obtain ⟨A, c, e, h1, h2⟩ := h; exact ⟨A, c, e, own_setCell h1 (fun hh => by have := h2 _ hh.symm; omega) u, h2⟩
theorem RowIs.tbl {wr : World} {n lim : Nat} {v : Value} {f : Nat → Bool} (h : RowIs wr n lim v f) {g : Nat} {cs : Array Value} (hb : Blk wr g 46 cs) (i : Nat) (u : Value) : RowIs (wr.setCell ⟨g, i, none⟩ u) n lim v f := by
  obtain ⟨A, c, e, h1, h2⟩ := h; exact ⟨A, c, e, own_setCell h1 (own_blk_ne h1 hb (by decide)) u, h2⟩
theorem RowIs.bv {wr : World} {n lim : Nat} {v : Value} {f : Nat → Bool} (h : RowIs wr n lim v f) : ∃ A c, v = .slice A n c ∧ BV wr A (tab n f) := by
  obtain ⟨A, c, e, h1, h2⟩ := h; exact ⟨A, c, e, SV.of_own h1⟩
theorem RowIs.of_own {w wr : World} {n : Nat} {A : Option Addr} {c : Nat} {f : Nat → Bool} (h : wr.ownsRow w.heap.size 4 1 (.slice A n c) n (boolsV (tab n f))) : RowIs wr n wr.heap.size (.slice A n c) f := by
  refine ⟨A, c, rfl, ?_, fun b hb => (h.lt b hb).2⟩
  obtain ⟨h3, h4⟩ := h
  refine ⟨h3, ?_⟩
  rcases h4 with h4 | ⟨g, cap, cur, e1, e2, h5⟩
  · exact .inl h4
  · exact .inr ⟨g, cap, cur, e1, Nat.zero_le _, h5⟩
theorem RowIs.of_blk {wr : World} {n g : Nat} {f : Nat → Bool} (h : Blk wr g 4 (boolsA (tab n f))) (hn : n ≤ maxLen) : RowIs wr n (g + 1) (.slice (some ⟨g, 0, none⟩) n n) f := by
  refine ⟨_, _, rfl, own_of_blk h (Nat.zero_le _) (Nat.le_refl _) hn (by rw [boolsA_size, Nat.mul_one]) ?_, fun b hb => ?_⟩
  · rw [boolsA_toList, List.take_of_length_le (by simp)]
  · simp [Value.ownBlock] at hb; omega
/-- The state of 'Eval': the table of rows, and those that are made. -/
structure EvSt (w wr : World) (gT n lim : Nat) (cs : List Value) (fs : List (Nat → Bool)) : Prop where
  tbl : Blk wr gT 46 cs.toArray
  rows : ∀ j (h : j < fs.length), ∃ v, cs[j]? = some v ∧ RowIs wr n lim v fs[j]
  rs : Blk wr (w.heap.size + 1) 28 #[.int .i64 0, .int .i64 0]
  bel : Below w.heap.size w wr
  hT : w.heap.size ≤ gT
  hl : lim ≤ wr.heap.size
section
variable {w wr : World} {gT n lim : Nat} {cs : List Value} {fs : List (Nat → Bool)}
theorem EvSt.below (h : EvSt w wr gT n lim cs fs) {wr' : World} (hb : Below wr.heap.size wr wr') : EvSt w wr' gT n lim cs fs :=
  ⟨h.tbl.below hb h.tbl.lt, fun j hj => by obtain ⟨v, e, hr⟩ := h.rows j hj; exact ⟨v, e, hr.below hb⟩, h.rs.below hb h.rs.lt, h.bel.trans (hb.mono h.bel.size), h.hT, Nat.le_trans h.hl hb.size⟩
theorem EvSt.put (h : EvSt w wr gT n lim cs fs) (i : Nat) (hi : fs.length ≤ i) (u : Value) (hne : gT ≠ w.heap.size + 1) : EvSt w (wr.setCell ⟨gT, i, none⟩ u) gT n lim (cs.set i u) fs :=
  ⟨by have := h.tbl.set_ i u; rwa [List.setIfInBounds_toArray] at this, fun j hj => by
    obtain ⟨v, e, hr⟩ := h.rows j hj
    exact ⟨v, by rw [List.getElem?_set_ne (by omega)]; exact e, hr.tbl h.tbl i u⟩, h.rs.far (Ne.symm hne) _, h.bel.setCell h.hT _, h.hT, by simpa [World.setCell] using h.hl⟩
theorem EvSt.far (h : EvSt w wr gT n lim cs fs) {p : Addr} (hp : lim ≤ p.block) (h1 : p.block ≠ gT) (h2 : p.block ≠ w.heap.size + 1) (h3 : w.heap.size ≤ p.block) (u : Value) : EvSt w (wr.setCell p u) gT n lim cs fs :=
  ⟨h.tbl.far (Ne.symm h1) _, fun j hj => by obtain ⟨v, e, hr⟩ := h.rows j hj; exact ⟨v, e, hr.far hp u⟩, h.rs.far (Ne.symm h2) _, h.bel.setCell h3 _, h.hT, by simpa [World.setCell] using h.hl⟩
theorem EvSt.push (h : EvSt w wr gT n lim cs fs) {v : Value} {f : Nat → Bool} {lim' : Nat} (hv : cs[fs.length]? = some v) (hr : RowIs wr n lim' v f) (hl : lim ≤ lim') (hl' : lim' ≤ wr.heap.size) : EvSt w wr gT n lim' cs (fs ++ [f]) :=
  ⟨h.tbl, fun j hj => by
    by_cases e : j < fs.length
    · obtain ⟨v', e', hr'⟩ := h.rows j e
      exact ⟨v', e', by rw [List.getElem_append_left e]; exact hr'.more hl⟩
    · obtain rfl : j = fs.length := by simp at hj; omega
      exact ⟨v, hv, by rw [List.getElem_concat_length rfl]; exact hr⟩, h.rs, h.bel, h.hT, hl'⟩
theorem EvSt.cell (h : EvSt w wr gT n lim cs fs) (j : Nat) {v : Value} (hv : cs[j]? = some v) : wr.cell? ⟨gT, j, none⟩ = some v := (h.tbl.cell j).trans (by rw [List.getElem?_toArray]; exact hv)
end
theorem info46 : (Try.prog.info? 46).map (fun i => (i.zero, i.size, i.bytes)) = some (some (.slice none 0 0), 1, 24) := by kernel_rfl
/-- What 'Eval' tells of a query that is right. -/
def EvPost (w : World) (l : List Hs.Cm) (q : List Oq.N) (e : Ending) (w' : World) : Prop :=
  ∃ A c, e = .returned (.tuple #[.slice A l.length c, .agg #[.int .i64 0, .int .i64 0]]) ∧ BV w' A (tab l.length (Oq.val l q)) ∧ Below w.heap.size w w'
end Go.Proofs.Ytebohncdhhikkaa
