/-
  Queries: walks of 'leaf', 'selected', 'minus', 'descendants'.
-/
import Derived.Test.YtebohncdhhikkaaOq6
namespace Oq
/-- The chosen numbers below m. -/
def selN (f : Nat → Bool) (m : Nat) : List Nat := (List.range m).filter f
theorem selN_succ (f : Nat → Bool) (m : Nat) : selN f (m + 1) = selN f m ++ if f m = true then [m] else [] := by
  unfold selN; rw [List.range_succ, List.filter_append]; congr 1
  cases h : f m <;> simp [h]
theorem selN_len (f : Nat → Bool) (m : Nat) : (selN f m).length ≤ m := by
  unfold selN; exact Nat.le_trans (List.length_filter_le _ _) (by simp)
/-- The descendants below i, and the first j parents of i looked at. -/
def dIn (h : List Hs.Cm) (f : Nat → Bool) (i j : Nat) : Nat → Bool := fun k => if k = i then dAt h f i i || ((Hs.pars h i).take j).any (dAt h f i) else dAt h f i k
theorem dIn_zero (h : List Hs.Cm) (f : Nat → Bool) (i : Nat) : dIn h f i 0 = dAt h f i := by
  funext k; unfold dIn
  by_cases e : k = i
  · subst e; simp
  · rw [if_neg e]
theorem dIn_all (h : List Hs.Cm) (f : Nat → Bool) (i j : Nat) (hj : (Hs.pars h i).length ≤ j) : dIn h f i j = dAt h f (i + 1) := by
  funext k; unfold dIn; rw [List.take_of_length_le hj]; rfl
theorem dIn_succ (h : List Hs.Cm) (f : Nat → Bool) (i j k p : Nat) (hj : j < (Hs.pars h i).length) (hp : (Hs.pars h i)[j] = p) (hpi : p < i) : dIn h f i (j + 1) k = if k = i then (dIn h f i j i || dIn h f i j p) else dIn h f i j k := by
  have hne : ¬ p = i := by omega
  unfold dIn
  by_cases e : k = i
  · subst e
    rw [if_pos rfl, if_pos rfl, if_pos rfl, if_neg hne, List.take_succ_eq_append_getElem hj, hp, List.any_append]
    simp [Bool.or_assoc]
  · rw [if_neg e, if_neg e, if_neg e]
end Oq
namespace Go.Proofs.Ytebohncdhhikkaa
open Go.RowKit Go.V
set_option linter.unusedVariables false

/-- A node of kind 'none' or 'one commit', at a commit. -/
theorem leaf_none (w : World) (nu le ri : Int) (cs : List Value) (hcs : cs.length = 5) (i : Nat) : Calls Try.prog 29 #[nV ⟨2, nu, le, ri⟩, .agg cs.toArray, .int .i64 (i : Int)] w fun e w' => e = .returned (.bool false) ∧ w' = (w.alloc (.cells #[.int .i64 2, .int .i64 nu, .int .i64 le, .int .i64 ri] 50)).alloc (.cells cs.toArray 45) := by
  obtain ⟨a, b, c, d, e, rfl⟩ : ∃ a b c d e, cs = [a, b, c, d, e] := by
    match cs, hcs with
    | [a, b, c, d, e], _ => exact ⟨a, b, c, d, e, rfl⟩
  go_enter Try.func29, Try.ntmps29
  go_wp2_with fail
  go_ret
  exact ⟨rfl, rfl⟩
theorem leaf_one (w : World) (nu le ri : Int) (cs : List Value) (hcs : cs.length = 5) (i : Nat) : Calls Try.prog 29 #[nV ⟨3, nu, le, ri⟩, .agg cs.toArray, .int .i64 (i : Int)] w fun e w' => e = .returned (.bool (decide ((i : Int) = nu))) ∧ w' = (w.alloc (.cells #[.int .i64 3, .int .i64 nu, .int .i64 le, .int .i64 ri] 50)).alloc (.cells cs.toArray 45) := by
  obtain ⟨a, b, c, d, e, rfl⟩ : ∃ a b c d e, cs = [a, b, c, d, e] := by
    match cs, hcs with
    | [a, b, c, d, e], _ => exact ⟨a, b, c, d, e, rfl⟩
  have HE : Hid (((i : Int) == nu) = decide ((i : Int) = nu)) := Lib.hid (by by_cases h : (i : Int) = nu <;> simp [h])
  go_enter Try.func29, Try.ntmps29
  go_wp2_with fail
  go_ret
  exact ⟨by first | rfl | rw [HE.out], rfl⟩
/-- What 'selected' tells. -/
def SlPost (w : World) (f : Nat → Bool) (n : Nat) (e : Ending) (w' : World) : Prop :=
  ∃ A c, e = .returned (.slice A (Oq.selN f n).length c) ∧ IV w' A (Hs.ints (Oq.selN f n)) ∧ Below w.heap.size w w'
theorem ints_len (l : List Nat) : (Hs.ints l).length = l.length := by simp [Hs.ints]
theorem ints_snoc (l : List Nat) (n : Nat) : intsV (Hs.ints (l ++ [n])) = intsV (Hs.ints l) ++ [.int .i64 (n : Int)] := by simp [intsV, Hs.ints]
set_option maxRecDepth 100000 in
set_option maxHeartbeats 8000000 in
theorem selected_any (w : World) (A : Option Addr) (k n : Nat) (f : Nat → Bool) (hv : BV w A (tab n f)) (hn : n ≤ 60) : Calls Try.prog 40 #[.slice A n k] w (SlPost w f n) := by
  have HV := Lib.hid (fun (w1 : World) (hb : Below w.heap.size w w1) (i : Nat) (hi : i < n) => hv.atIn hb i (by simpa using hi))
  have HG := Lib.hid (fun (i : Nat) (hi : i < n) => tab_get n f i (by simpa using hi))
  clear hv
  obtain ⟨i0, hi0, hz0, hz1, hz2⟩ := info_parts info3
  go_enter Try.func40, Try.ntmps40
  go_wp2_with fail
  go_loopw [3, 8] (fun ov iv wr => ∃ (i : Nat) (Ao : Option Addr) (co : Nat), i ≤ n ∧ ov = .slice Ao (Oq.selN f i).length co ∧ iv = .int .i64 i ∧ Below w.heap.size w wr ∧ wr.ownsRow w.heap.size 3 1 (.slice Ao (Oq.selN f i).length co) (Oq.selN f i).length (intsV (Hs.ints (Oq.selN f i)))) (fun _ iv _ => n - (intOf iv).toNat)
  case atStart => exact ⟨0, none, 0, Nat.zero_le _, rfl, rfl, Below.refl _ _, World.ownsRow_nil _ _ _ _⟩
  case round =>
    obtain ⟨i, Ao, co, hi, rfl, rfl, hb, hown⟩ := hrel
    obtain ⟨wo, rfl⟩ : ∃ wo : World, wo = wr := ⟨_, rfl⟩
    have hsz := hb.size
    by_cases hlt : i < n
    · have hlt' : (i : Int) < n := by omega
      obtain ⟨b, off, e, hbs, hc⟩ := HV.out _ hb i hlt
      subst e
      rw [HG.out i hlt] at hc
      have HS := Lib.hid (Oq.selN_succ f i)
      have hsl := Oq.selN_len f i
      generalize Oq.selN f i = os at *
      generalize f i = v at *
      cases v with
      | false =>
        have HE : Hid (Oq.selN f (i + 1) = os) := Lib.hid (by rw [HS.out]; simp)
        clear HS
        go_wp2_with fail
        go_roundw
        case rel => exact ⟨i + 1, Ao, co, by omega, by rw [HE.out], by go_num, hb, by rw [HE.out]; exact hown⟩
        case measure => simp [intOf]; omega
      | true =>
        have HE : Hid (Oq.selN f (i + 1) = os ++ [i]) := Lib.hid (by rw [HS.out]; simp)
        clear HS
        have h63 : os.length + 1 ≤ maxLen := by unfold maxLen; omega
        have hby : (os.length + 1) * 8 ≤ 140737488355328 := by omega
        have hu : (wo.alloc (.cells #[.int .i64 (i : Int)] 3)).cell? ⟨wo.heap.size, 0, none⟩ = some (.int .i64 (i : Int)) := ((Blk.new wo 3 #[.int .i64 (i : Int)]).cell 0).trans rfl
        go_wp2_with (first | (at_builtin; refine wpList_app1 _ rfl (.tmp 14) (.tmp 16) 26 rfl w.heap.size 3 i0 (.int .i64 0) 8 Try.underlying26 hi0 hz0 hz1 hz2 rfl Ao os.length co (intsV (Hs.ints os)) rfl (hown.alloc _) wo.heap.size 1 (.int .i64 (i : Int)) rfl hu rfl h63 hby (Nat.le_trans hsz (by simp)) ?_))
        intro A' c' w' hown' hg' hc'
        have hb5 := (app_keep hown _ hg' hsz).2.1 w _ (Nat.le_refl _) hb
        clear hg' hown hu hc'
        go_wp2_with fail
        go_roundw
        case rel => exact ⟨i + 1, A', c', by omega, by rw [HE.out]; simp, by go_num, hb5, by rw [HE.out, ints_snoc]; simpa using hown'⟩
        case measure => simp [intOf]; omega
    · obtain rfl : i = n := by omega
      have HF := Lib.hid (show SlPost w f i (.returned (.slice Ao (Oq.selN f i).length co)) wo from ⟨Ao, co, rfl, SV.of_own hown, hb⟩)
      clear hown
      generalize Oq.selN f i = os at *
      go_wp2_with fail
      go_ret
      exact HF.out
end Go.Proofs.Ytebohncdhhikkaa
