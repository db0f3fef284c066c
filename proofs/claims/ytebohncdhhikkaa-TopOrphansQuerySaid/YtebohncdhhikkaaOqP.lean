/-
  Queries over histories: when they are valid, and what they select. No program in sight.
-/
import Derived.Test.YtebohncdhhikkaaPure
namespace Oq
open Hs
/-- A node. -/
structure N where
  kind : Int
  num : Int
  left : Int
  right : Int
deriving DecidableEq, Inhabited
def it (l : List N) (i : Nat) : N := l[i]?.getD default
theorem it_eq (l : List N) (i : Nat) (h : i < l.length) : l[i] = it l i := by unfold it; rw [List.getElem?_eq_getElem h]; rfl
/-- The operands of a kind; its greatest number. -/
def ar (k : Int) : Nat := if 14 ≤ k then 2 else if 7 ≤ k then 1 else 0
def most (k : Int) : Int := if k = 3 then 59 else if k = 4 then 7 else if k = 5 then 100000 else 0
theorem ar_le (k : Int) : ar k ≤ 2 := by unfold ar; split <;> (try split) <;> omega
def at_ (rs : List Int) (i : Nat) : Int := rs[i]?.getD 0
/-- The operands that are wanted. -/
def w0 (rs : List Int) (k : Int) : Int := if ar k = 0 then 0 else at_ rs (rs.length - ar k)
def w1 (rs : List Int) (k : Int) : Int := if ar k = 2 then at_ rs (rs.length - 1) else 0
def chk (n : N) (rs : List Int) : Int :=
  if n.kind < 1 ∨ 16 < n.kind then 4 else if n.num < 0 ∨ most n.kind < n.num then 3 else if rs.length < ar n.kind then 5
  else if n.left ≠ w0 rs n.kind ∨ n.right ≠ w1 rs n.kind then 5 else 0
def nxt (n : N) (i : Nat) (rs : List Int) : List Int := rs.take (rs.length - ar n.kind) ++ [(i : Int)]
def vFrom : List N → Nat → List Int → Int × Int
  | [], _, rs => if rs.length = 1 then (0, 0) else (5, -1)
  | n :: l, i, rs => if chk n rs ≠ 0 then (chk n rs, (i : Int)) else vFrom l (i + 1) (nxt n i rs)
/-- The fault of a query. -/
def vF (l : List N) : Int × Int := if l.length = 0 ∨ 40 < l.length then (9, -1) else vFrom l 0 []
def run : List N → Nat → List Int → Option (List Int)
  | [], _, rs => some rs
  | n :: l, i, rs => if chk n rs = 0 then run l (i + 1) (nxt n i rs) else none
theorem vFrom_run : ∀ (l : List N) (i : Nat) (rs : List Int) (r : Int), run l i rs = some [r] → vFrom l i rs = (0, 0)
  | [], i, rs, r, h => by simp only [run, Option.some.injEq] at h; subst h; rfl
  | n :: l, i, rs, r, h => by
    rw [run] at h
    split at h
    · rename_i hc
      rw [vFrom, if_neg (not_not_intro hc)]
      exact vFrom_run l _ _ r h
    · cases h
theorem run_app : ∀ (a b : List N) (i : Nat) (rs rs' : List Int), run a i rs = some rs' → run (a ++ b) i rs = run b (i + a.length) rs'
  | [], b, i, rs, rs', h => by simp only [run, Option.some.injEq] at h; subst h; rfl
  | n :: a, b, i, rs, rs', h => by
    rw [run] at h
    split at h
    · rename_i hc
      rw [List.cons_append, run, if_pos hc, run_app a b _ _ rs' h, List.length_cons]
      congr 1; omega
    · cases h
theorem chk_zero {n : N} {rs : List Int} (h : chk n rs = 0) : 1 ≤ n.kind ∧ n.kind ≤ 16 ∧ 0 ≤ n.num ∧ n.num ≤ most n.kind ∧ ar n.kind ≤ rs.length ∧ n.left = w0 rs n.kind ∧ n.right = w1 rs n.kind := by
  unfold chk at h
  split at h
  · cases h
  · split at h
    · cases h
    · split at h
      · cases h
      · split at h
        · cases h
        · rename_i h1 h2 h3 h4
          refine ⟨by omega, by omega, by omega, by omega, by omega, ?_, ?_⟩
          · exact Decidable.byContradiction fun e => h4 (.inl e)
          · exact Decidable.byContradiction fun e => h4 (.inr e)
theorem chk_good {n : N} {rs : List Int} (h1 : 1 ≤ n.kind ∧ n.kind ≤ 16) (h2 : 0 ≤ n.num ∧ n.num ≤ most n.kind) (h3 : ar n.kind ≤ rs.length) (h4 : n.left = w0 rs n.kind) (h5 : n.right = w1 rs n.kind) : chk n rs = 0 := by
  unfold chk
  rw [if_neg (by omega), if_neg (by omega), if_neg (by omega), if_neg (fun h => h.elim (fun e => e h4) (fun e => e h5))]
/-- A node behind o others. -/
def shift (o : Nat) (n : N) : N := ⟨n.kind, n.num, if 1 ≤ ar n.kind then n.left + o else n.left, if ar n.kind = 2 then n.right + o else n.right⟩
theorem at_shift (s0 rs : List Int) (o : Nat) (i : Nat) (h : i < rs.length) : at_ (s0 ++ rs.map (· + (o : Int))) (s0.length + i) = at_ rs i + o := by
  unfold at_
  rw [List.getElem?_append_right (by omega), Nat.add_sub_cancel_left, List.getElem?_map, List.getElem?_eq_getElem h]; rfl
theorem chk_shift {n : N} {rs : List Int} (h : chk n rs = 0) (s0 : List Int) (o : Nat) : chk (shift o n) (s0 ++ rs.map (· + (o : Int))) = 0 := by
  obtain ⟨h1, h2, h3, h4, h5, h6, h7⟩ := chk_zero h
  have ha := ar_le n.kind
  have hl : (s0 ++ rs.map (· + (o : Int))).length = s0.length + rs.length := by simp
  refine chk_good ⟨h1, h2⟩ ⟨h3, h4⟩ (by show ar n.kind ≤ _; rw [hl]; omega) ?_ ?_
  · show (if 1 ≤ ar n.kind then n.left + (o : Int) else n.left) = w0 _ n.kind
    unfold w0 at h6 ⊢
    by_cases h0 : ar n.kind = 0
    · rw [if_pos h0] at h6 ⊢; rw [if_neg (by omega)]; exact h6
    · rw [if_neg h0] at h6 ⊢
      rw [if_pos (by omega), h6, hl, show s0.length + rs.length - ar n.kind = s0.length + (rs.length - ar n.kind) by omega, at_shift _ _ _ _ (by omega)]
  · show (if ar n.kind = 2 then n.right + (o : Int) else n.right) = w1 _ n.kind
    unfold w1 at h7 ⊢
    by_cases h0 : ar n.kind = 2
    · rw [if_pos h0] at h7 ⊢
      rw [if_pos h0, h7, hl, show s0.length + rs.length - 1 = s0.length + (rs.length - 1) by omega, at_shift _ _ _ _ (by omega)]
    · rw [if_neg h0] at h7 ⊢; rw [if_neg h0]; exact h7
theorem nxt_shift {n : N} {rs : List Int} (h : ar n.kind ≤ rs.length) (i o : Nat) (s0 : List Int) : nxt (shift o n) (i + o) (s0 ++ rs.map (· + (o : Int))) = s0 ++ (nxt n i rs).map (· + (o : Int)) := by
  unfold nxt
  have e : (shift o n).kind = n.kind := rfl
  have hl : (s0 ++ rs.map (· + (o : Int))).length - ar n.kind = s0.length + (rs.length - ar n.kind) := by simp; omega
  rw [e, hl, List.take_length_add_append, List.map_append, List.map_take, List.append_assoc]
  simp
theorem run_shift : ∀ (l : List N) (i : Nat) (rs rs' : List Int) (o : Nat) (s0 : List Int), run l i rs = some rs' → run (l.map (shift o)) (i + o) (s0 ++ rs.map (· + (o : Int))) = some (s0 ++ rs'.map (· + (o : Int)))
  | [], i, rs, rs', o, s0, h => by simp only [run, Option.some.injEq] at h; subst h; rfl
  | n :: l, i, rs, rs', o, s0, h => by
    rw [run] at h
    split at h
    · rename_i hc
      have hs := run_shift l (i + 1) (nxt n i rs) rs' o s0 h
      rw [List.map_cons, run, if_pos (chk_shift hc s0 o), nxt_shift (chk_zero hc).2.2.2.2.1, show i + o + 1 = i + 1 + o by omega]
      exact hs
    · cases h
def joined (k : Int) (l r : List N) : List N := l ++ r.map (shift l.length) ++ [⟨k, 0, (l.length : Int) - 1, (l.length : Int) + r.length - 1⟩]
def wrap (k : Int) (l : List N) : List N := l ++ [⟨k, 0, (l.length : Int) - 1, 0⟩]
theorem joined_len (k : Int) (l r : List N) : (joined k l r).length = l.length + r.length + 1 := by unfold joined; simp; omega
theorem wrap_len (k : Int) (l : List N) : (wrap k l).length = l.length + 1 := by unfold wrap; simp
/-- A query that is valid by itself. -/
structure Good (l : List N) : Prop where
  ne : 0 < l.length
  run : run l 0 [] = some [(l.length : Int) - 1]
theorem Good.leaf {n : N} (h : chk n [] = 0) (ha : ar n.kind = 0) : Good [n] := ⟨by simp, by
  rw [Oq.run, if_pos h, Oq.run, nxt, ha]; rfl⟩
theorem Good.joined {k : Int} {l r : List N} (hl : Good l) (hr : Good r) (h1 : 14 ≤ k) (h2 : k ≤ 16) : Good (joined k l r) := by
  have ha : ar k = 2 := by unfold ar; rw [if_pos h1]
  refine ⟨by rw [joined_len]; omega, ?_⟩
  have r1 := run_shift r 0 [] _ l.length [(l.length : Int) - 1] hr.run
  rw [Nat.zero_add, List.map_nil, List.append_nil] at r1
  have e1 : Oq.run (l ++ r.map (shift l.length)) 0 [] = some ([(l.length : Int) - 1] ++ [(r.length : Int) - 1].map (· + (l.length : Int))) := by rw [run_app l _ 0 [] _ hl.run, Nat.zero_add]; exact r1
  unfold Oq.joined
  rw [run_app _ _ 0 [] _ e1, Oq.run]
  have hm : most k = 0 := by unfold most; rw [if_neg (by omega), if_neg (by omega), if_neg (by omega)]
  rw [if_pos (chk_good ⟨by show 1 ≤ k; omega, h2⟩ ⟨Int.le_refl _, by show (0 : Int) ≤ most k; omega⟩ (by show ar k ≤ _; rw [ha]; simp) ?_ ?_), Oq.run, nxt]
  · show some (List.take _ _ ++ [_]) = some _
    rw [show ar (⟨k, 0, (l.length : Int) - 1, (l.length : Int) + r.length - 1⟩ : N).kind = 2 from ha]
    simp only [List.map_cons, List.map_nil, List.cons_append, List.nil_append, List.length_cons, List.length_nil, List.take_zero, Nat.reduceAdd, Nat.sub_self, List.length_append, List.length_map]
    congr 2
    omega
  · show (l.length : Int) - 1 = w0 _ k
    unfold w0; rw [ha]; simp [at_]
  · show (l.length : Int) + r.length - 1 = w1 _ k
    unfold w1; rw [ha]; simp [at_]; omega
theorem Good.wrap {k : Int} {l : List N} (hl : Good l) (h1 : 7 ≤ k) (h2 : k ≤ 13) : Good (wrap k l) := by
  have ha : ar k = 1 := by unfold ar; rw [if_neg (by omega), if_pos h1]
  refine ⟨by rw [wrap_len]; omega, ?_⟩
  unfold Oq.wrap
  rw [run_app l _ 0 [] _ hl.run, Oq.run]
  have hm : most k = 0 := by unfold most; rw [if_neg (by omega), if_neg (by omega), if_neg (by omega)]
  rw [if_pos (chk_good ⟨by show 1 ≤ k; omega, by show k ≤ 16; omega⟩ ⟨Int.le_refl _, by show (0 : Int) ≤ most k; omega⟩ (by show ar k ≤ _; rw [ha]; simp) ?_ ?_), Oq.run, nxt]
  · show some (List.take _ _ ++ [_]) = some _
    rw [show ar (⟨k, 0, (l.length : Int) - 1, 0⟩ : N).kind = 1 from ha]
    simp
  · show (l.length : Int) - 1 = w0 _ k
    unfold w0; rw [ha]; simp [at_]
  · show (0 : Int) = w1 _ k
    unfold w1; rw [ha]; rfl
theorem Good.f {l : List N} (h : Good l) (hl : l.length ≤ 40) : vF l = (0, 0) := by
  unfold vF; rw [if_neg (by have := h.ne; omega)]; exact vFrom_run l 0 [] _ h.run
/-! ### what is selected -/
/-- The descendants, in the order of the loop. -/
def dAt (h : List Cm) (f : Nat → Bool) : Nat → Nat → Bool
  | 0 => f
  | m + 1 => fun k => if k = m then dAt h f m m || (pars h m).any (dAt h f m) else dAt h f m k
def evN (h : List Cm) (f : Int → Nat → Bool) (n : N) : Nat → Bool :=
  if n.kind = 2 then fun _ => false else if n.kind = 3 then fun i => decide ((i : Int) = n.num)
  else if n.kind = 8 then of h (fun x => decide (x < h.length) && f n.left x) else if n.kind = 9 then dAt h (f n.left) h.length
  else if n.kind = 14 then fun i => f n.left i || f n.right i else fun i => f n.left i && !f n.right i
def sAt (s : List (Nat → Bool)) (i : Int) : Nat → Bool := s[i.toNat]?.getD fun _ => false
def evL (h : List Cm) : List N → List (Nat → Bool) → List (Nat → Bool)
  | [], s => s
  | n :: l, s => evL h l (s ++ [evN h (sAt s) n])
theorem evL_app (h : List Cm) : ∀ (a b : List N) (s : List (Nat → Bool)), evL h (a ++ b) s = evL h b (evL h a s)
  | [], _, _ => rfl
  | n :: a, b, s => by rw [List.cons_append, evL, evL, evL_app h a b]
theorem evL_len (h : List Cm) : ∀ (l : List N) (s : List (Nat → Bool)), (evL h l s).length = s.length + l.length
  | [], s => rfl
  | n :: l, s => by rw [evL, evL_len h l]; simp; omega
theorem evN_shift {h : List Cm} {n : N} {s s0 : List (Nat → Bool)} (hl : 1 ≤ ar n.kind → 0 ≤ n.left ∧ n.left < s.length) (hr : ar n.kind = 2 → 0 ≤ n.right ∧ n.right < s.length) (hk : n.kind = 2 ∨ n.kind = 3 ∨ n.kind = 8 ∨ n.kind = 9 ∨ n.kind = 14 ∨ n.kind = 16) :
    evN h (sAt (s0 ++ s)) (shift s0.length n) = evN h (sAt s) n := by
  have e : ∀ i : Int, 0 ≤ i ∧ i < s.length → sAt (s0 ++ s) (i + s0.length) = sAt s i := fun i hi => by
    unfold sAt
    rw [List.getElem?_append_right (by omega), show (i + s0.length).toNat - s0.length = i.toNat by omega]
  obtain ⟨kd, nu, le, ri⟩ := n
  simp only at hl hr hk
  rcases hk with rfl | rfl | rfl | rfl | rfl | rfl
  · rfl
  · rfl
  · have := e le (hl (by decide))
    simp only [evN, shift]; simp [ar, this]
  · have := e le (hl (by decide))
    simp only [evN, shift]; simp [ar, this]
  · have h1 := e le (hl (by decide))
    have h2 := e ri (hr (by decide))
    simp only [evN, shift]; simp [ar, h1, h2]
  · have h1 := e le (hl (by decide))
    have h2 := e ri (hr (by decide))
    simp only [evN, shift]; simp [ar, h1, h2]
/-- The kinds that are spoken of. -/
def KOk (l : List N) : Prop := ∀ n ∈ l, n.kind = 2 ∨ n.kind = 3 ∨ n.kind = 8 ∨ n.kind = 9 ∨ n.kind = 14 ∨ n.kind = 16
theorem at_in {rs : List Int} {i : Nat} {b : Int} (h : ∀ r ∈ rs, 0 ≤ r ∧ r < b) (hi : i < rs.length) : 0 ≤ at_ rs i ∧ at_ rs i < b := by
  unfold at_; rw [List.getElem?_eq_getElem hi]; exact h _ (List.getElem_mem hi)
theorem chk_in {n : N} {rs : List Int} {b : Int} (hc : chk n rs = 0) (h : ∀ r ∈ rs, 0 ≤ r ∧ r < b) : (1 ≤ ar n.kind → 0 ≤ n.left ∧ n.left < b) ∧ (ar n.kind = 2 → 0 ≤ n.right ∧ n.right < b) := by
  obtain ⟨_, _, _, _, h5, h6, h7⟩ := chk_zero hc
  constructor
  · intro ha
    rw [h6]; unfold w0; rw [if_neg (by omega)]
    exact at_in h (by omega)
  · intro ha
    rw [h7]; unfold w1; rw [if_pos ha]
    exact at_in h (by omega)
theorem nxt_in {n : N} {rs : List Int} {i : Nat} (h : ∀ r ∈ rs, 0 ≤ r ∧ r < (i : Int)) : ∀ r ∈ nxt n i rs, 0 ≤ r ∧ r < ((i + 1 : Nat) : Int) := by
  intro r hr
  unfold nxt at hr
  rcases List.mem_append.1 hr with hr | hr
  · have := h r (List.mem_of_mem_take hr); omega
  · simp at hr; subst hr; omega
theorem evL_shift (h : List Cm) : ∀ (l : List N) (i : Nat) (rs rs' : List Int) (s s0 : List (Nat → Bool)), KOk l → run l i rs = some rs' → s.length = i → (∀ r ∈ rs, 0 ≤ r ∧ r < (i : Int)) →
    evL h (l.map (shift s0.length)) (s0 ++ s) = s0 ++ evL h l s
  | [], _, _, _, _, _, _, _, _, _ => rfl
  | n :: l, i, rs, rs', s, s0, hk, hr, hs, hi => by
    rw [run] at hr
    split at hr
    · rename_i hc
      obtain ⟨c1, c2⟩ := chk_in hc hi
      have ih := evL_shift h l (i + 1) _ rs' (s ++ [evN h (sAt s) n]) s0 (fun m hm => hk m (by simp [hm])) hr (by simp [hs]) (nxt_in hi)
      rw [List.map_cons, evL, evL, evN_shift (fun h => by rw [hs]; exact c1 h) (fun h => by rw [hs]; exact c2 h) (hk n (by simp)), List.append_assoc]
      exact ih
    · cases hr
/-- What a query selects. -/
def val (h : List Cm) (l : List N) : Nat → Bool := sAt (evL h l []) ((l.length : Int) - 1)
theorem KOk.joined {k : Int} {l r : List N} (h1 : KOk l) (h2 : KOk r) (hk : k = 14 ∨ k = 16) : KOk (joined k l r) := by
  intro n hn
  unfold Oq.joined at hn
  simp only [List.mem_append, List.mem_map, List.mem_singleton] at hn
  rcases hn with (hn | ⟨m, hm, rfl⟩) | rfl
  · exact h1 n hn
  · exact h2 m hm
  · rcases hk with rfl | rfl <;> simp
theorem KOk.wrap {k : Int} {l : List N} (h1 : KOk l) (hk : k = 8 ∨ k = 9) : KOk (wrap k l) := by
  intro n hn
  unfold Oq.wrap at hn
  simp only [List.mem_append, List.mem_singleton] at hn
  rcases hn with hn | rfl
  · exact h1 n hn
  · rcases hk with rfl | rfl <;> simp
theorem sAt_last (s : List (Nat → Bool)) (x : Nat → Bool) (i : Int) (h : i = (s.length : Int)) : sAt (s ++ [x]) i = x := by
  unfold sAt; subst h; simp
theorem sAt_left (s t : List (Nat → Bool)) (i : Int) (h0 : 0 ≤ i) (h : i < s.length) : sAt (s ++ t) i = sAt s i := by
  unfold sAt; rw [List.getElem?_append_left (by omega)]
theorem sAt_right (s t : List (Nat → Bool)) (i : Int) (h0 : 0 ≤ i) : sAt (s ++ t) (i + s.length) = sAt t i := by
  unfold sAt; rw [List.getElem?_append_right (by omega), show (i + s.length).toNat - s.length = i.toNat by omega]
theorem val_joined (h : List Cm) {k : Int} {l r : List N} (hl : Good l) (hr : Good r) (hk : KOk r) : val h (joined k l r) = evN h (fun i => if i = 0 then val h l else val h r) ⟨k, 0, 0, 1⟩ ∨ ¬ (k = 14 ∨ k = 16) := by
  by_cases hkk : k = 14 ∨ k = 16
  · left
    have n1 := hl.ne
    have n2 := hr.ne
    have s0l : (evL h l []).length = l.length := by rw [evL_len]; simp
    have e1 := evL_shift h r 0 [] _ [] (evL h l []) hk hr.run rfl (by simp)
    rw [List.append_nil, s0l] at e1
    have e2 : evL h (joined k l r) [] = (evL h l [] ++ evL h r []) ++ [evN h (sAt (evL h l [] ++ evL h r [])) ⟨k, 0, (l.length : Int) - 1, (l.length : Int) + r.length - 1⟩] := by
      unfold joined; rw [evL_app, evL_app, e1]; rfl
    have s1l : (evL h r []).length = r.length := by rw [evL_len]; simp
    unfold val
    rw [e2, joined_len, sAt_last _ _ _ (by rw [List.length_append, s0l, s1l]; omega)]
    have q1 : sAt (evL h l [] ++ evL h r []) ((l.length : Int) - 1) = sAt (evL h l []) ((l.length : Int) - 1) := sAt_left _ _ _ (by omega) (by rw [s0l]; omega)
    have q2 : sAt (evL h l [] ++ evL h r []) ((l.length : Int) + r.length - 1) = sAt (evL h r []) ((r.length : Int) - 1) := by
      have := sAt_right (evL h l []) (evL h r []) ((r.length : Int) - 1) (by omega)
      rw [s0l] at this
      rw [← this]; congr 1; omega
    rcases hkk with rfl | rfl
    · simp only [evN]; simp [q1, q2]
    · simp only [evN]; simp [q1, q2]
  · exact .inr hkk
theorem val_union (h : List Cm) {l r : List N} (hl : Good l) (hr : Good r) (hk : KOk r) (i : Nat) : val h (joined 14 l r) i = (val h l i || val h r i) := by
  rcases val_joined h (k := 14) hl hr hk with e | e
  · rw [e]; simp [evN]
  · exact absurd (.inl rfl) e
theorem val_minus (h : List Cm) {l r : List N} (hl : Good l) (hr : Good r) (hk : KOk r) (i : Nat) : val h (joined 16 l r) i = (val h l i && !val h r i) := by
  rcases val_joined h (k := 16) hl hr hk with e | e
  · rw [e]; simp [evN]
  · exact absurd (.inr rfl) e
theorem val_wrap (h : List Cm) {k : Int} {l : List N} (hl : Good l) : val h (wrap k l) = evN h (sAt (evL h l [])) ⟨k, 0, (l.length : Int) - 1, 0⟩ := by
  have s0l : (evL h l []).length = l.length := by rw [evL_len]; simp
  unfold val
  have e2 : evL h (wrap k l) [] = evL h l [] ++ [evN h (sAt (evL h l [])) ⟨k, 0, (l.length : Int) - 1, 0⟩] := by
    unfold wrap; rw [evL_app]; rfl
  rw [e2, wrap_len, sAt_last _ _ _ (by rw [s0l]; omega)]
theorem val_desc (h : List Cm) {l : List N} (hl : Good l) : val h (wrap 9 l) = dAt h (val h l) h.length := by
  rw [val_wrap h hl]; simp [evN, val]
/-- The query of some commits. -/
def cq (gs : List Int) : List N := gs.foldl (fun q g => joined 14 q [⟨3, g, 0, 0⟩]) [⟨2, 0, 0, 0⟩]
theorem cq_snoc (gs : List Int) (g : Int) : cq (gs ++ [g]) = joined 14 (cq gs) [⟨3, g, 0, 0⟩] := by unfold cq; rw [List.foldl_append]; rfl
theorem leaf_good {g : Int} (h0 : 0 ≤ g) (h1 : g ≤ 59) : Good [⟨3, g, 0, 0⟩] := Good.leaf (chk_good ⟨by simp, by simp⟩ ⟨h0, by simp [most]; exact h1⟩ (by simp [ar]) (by simp [w0, ar]) (by simp [w1, ar])) (by simp [ar])
theorem none_good : Good [⟨2, 0, 0, 0⟩] := Good.leaf (by decide) (by decide)
theorem leaf_k (g : Int) : KOk [⟨3, g, 0, 0⟩] := by intro n hn; simp at hn; subst hn; simp
theorem leaf_val (h : List Cm) (g : Int) (i : Nat) : val h [⟨3, g, 0, 0⟩] i = decide ((i : Int) = g) := by simp [val, evL, sAt, evN]
theorem none_val (h : List Cm) (i : Nat) : val h [⟨2, 0, 0, 0⟩] i = false := by simp [val, evL, sAt, evN]
theorem cq_rev (h : List Cm) : ∀ (n : Nat) (gs : List Int), gs.length = n → (∀ g ∈ gs, 0 ≤ g ∧ g ≤ 59) → Good (cq gs) ∧ KOk (cq gs) ∧ (cq gs).length = 2 * gs.length + 1 ∧ ∀ i, val h (cq gs) i = gs.contains (i : Int)
  | 0, gs, hn, _ => by
    obtain rfl := List.eq_nil_of_length_eq_zero hn
    exact ⟨none_good, by intro n hn; simp [cq] at hn; subst hn; simp, by simp [cq], fun i => by rw [show cq [] = [⟨2, 0, 0, 0⟩] from rfl, none_val]; rfl⟩
  | n + 1, gs, hn, hg => by
    have hne : gs ≠ [] := by intro e; subst e; simp at hn
    have e := List.dropLast_concat_getLast hne
    generalize gs.dropLast = a at e
    generalize gs.getLast hne = g at e
    subst e
    obtain ⟨h1, h2, h3, h4⟩ := cq_rev h n a (by simpa using hn) (fun x hx => hg x (by simp [hx]))
    obtain ⟨g0, g1⟩ := hg g (by simp)
    refine ⟨?_, ?_, ?_, fun i => ?_⟩
    · rw [cq_snoc]; exact h1.joined (leaf_good g0 g1) (by decide) (by decide)
    · rw [cq_snoc]; exact h2.joined (leaf_k g) (.inl rfl)
    · rw [cq_snoc, joined_len, h3]; simp; omega
    · rw [cq_snoc, val_union h h1 (leaf_good g0 g1) (leaf_k g), h4, leaf_val]
      rw [List.contains_eq_any_beq, List.contains_eq_any_beq, List.any_append]
      simp [Bool.beq_eq_decide_eq]
/-- The query of the law. -/
def lawQ (gs : List Int) : List N := joined 16 (wrap 9 (cq gs)) (cq gs)
theorem any_same {α : Type} {f g : α → Bool} : ∀ (l : List α), (∀ a ∈ l, f a = g a) → l.any f = l.any g
  | [], _ => rfl
  | a :: l, h => by rw [List.any_cons, List.any_cons, h a (by simp), any_same l fun b hb => h b (List.mem_cons_of_mem _ hb)]
/-- The commits with lost ones above them, in the order of the loop. -/
def oAt (h : List Cm) (lost : Nat → Bool) : Nat → Nat → Bool
  | 0 => fun _ => false
  | m + 1 => fun k => if k = m then (pars h m).any fun p => oAt h lost m p || lost p else oAt h lost m k
theorem dAt_oAt {h : List Cm} (hok : Ok h) (lost : Nat → Bool) : ∀ m, m ≤ h.length → ∀ k, dAt h lost m k = (lost k || oAt h lost m k)
  | 0, _, k => by simp [dAt, oAt]
  | m + 1, hm, k => by
    have ih := dAt_oAt hok lost m (by omega)
    have hz : oAt h lost m m = false := by
      have : ∀ j, oAt h lost j m = false ∨ m < j := by
        intro j
        induction j with
        | zero => exact .inl rfl
        | succ j ihj =>
          by_cases e : m = j
          · exact .inr (by omega)
          · rcases ihj with ihj | ihj
            · left; simp only [oAt]; rw [if_neg e]; exact ihj
            · exact .inr (by omega)
      rcases this m with h1 | h1
      · exact h1
      · omega
    simp only [dAt, oAt]
    by_cases e : k = m
    · subst e
      rw [if_pos rfl, if_pos rfl, ih k, hz, Bool.or_false]
      congr 1
      exact any_same _ fun p _ => by rw [ih p, Bool.or_comm]
    · rw [if_neg e, if_neg e, ih k]
theorem dAt_congr {h : List Cm} (hok : Ok h) {f g : Nat → Bool} (hfg : ∀ i, i < h.length → f i = g i) : ∀ m, m ≤ h.length → ∀ k, k < h.length → dAt h f m k = dAt h g m k
  | 0, _, k, hk => hfg k hk
  | m + 1, hm, k, hk => by
    have ih := dAt_congr hok hfg m (by omega)
    simp only [dAt]
    by_cases e : k = m
    · subst e
      rw [if_pos rfl, if_pos rfl, ih k hk]
      congr 1
      exact any_same _ fun p hp => ih p (by have := hok.pars_lt k p hp; omega)
    · rw [if_neg e, if_neg e, ih k hk]
/-- The law: the query selects the orphans. -/
theorem law {h : List Cm} (hok : Ok h) {gs : List Int} (lost : Nat → Bool) (hg : ∀ g ∈ gs, 0 ≤ g ∧ g ≤ 59) (hgl : ∀ i, i < h.length → gs.contains (i : Int) = lost i) (hl : gs.length ≤ 8) :
    vF (lawQ gs) = (0, 0) ∧ KOk (lawQ gs) ∧ ∀ i, i < h.length → val h (lawQ gs) i = (oAt h lost h.length i && !lost i) := by
  obtain ⟨h1, h2, h3, h4⟩ := cq_rev h gs.length gs rfl hg
  have w := h1.wrap (k := 9) (by decide) (by decide)
  have wk := h2.wrap (k := 9) (.inr rfl)
  refine ⟨(w.joined h1 (k := 16) (by decide) (by decide)).f (by rw [joined_len, wrap_len, h3]; omega), wk.joined h2 (.inr rfl), fun i hi => ?_⟩
  unfold lawQ
  rw [val_minus h w h1 h2, val_desc h h1, h4, hgl i hi, dAt_congr hok (g := lost) (fun j hj => by rw [h4, hgl j hj]) h.length (Nat.le_refl _) i hi, dAt_oAt hok lost h.length (Nat.le_refl _) i]
  cases lost i <;> simp
end Oq
