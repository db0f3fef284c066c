/-
  Histories, the plain law, eighth part: the search for the first bad commit.
-/
import Derived.Test.YtoohmkdgimkgoaaPure2
namespace Hs
/-- The candidates of a search. -/
def isCand (l : List Cm) (good : List Nat) (bad i : Nat) : Bool := reach l bad i && !(good.any fun g => reach l g i)
def cand (l : List Cm) (good : List Nat) (bad : Nat) : List Nat := (List.range l.length).filter (isCand l good bad)
/-- How many candidates are ancestors of c. -/
def kOf (l : List Cm) (cs : List Nat) (c : Nat) : Nat := cs.countP (reach l c)
def valOf (l : List Cm) (cs : List Nat) (c : Nat) : Nat := min (kOf l cs c) (cs.length - kOf l cs c)
/-- The program's scan. -/
def nxStep (l : List Cm) (cs : List Nat) (s : Int × Int) (c : Nat) : Int × Int := if s.2 < (valOf l cs c : Int) then ((c : Int), (valOf l cs c : Int)) else s
def nxAt (l : List Cm) (cs : List Nat) (j : Nat) : Int × Int := (cs.take j).foldl (nxStep l cs) (-1, -1)
def nextI (l : List Cm) (cs : List Nat) : Int := if cs.length = 1 then -1 else (nxAt l cs cs.length).1
/-- The reference's scan, from the end. -/
def rxStep (l : List Cm) (cs : List Nat) (c : Nat) (s : Int × Int) : Int × Int := if 0 < (valOf l cs c : Int) ∧ s.2 ≤ (valOf l cs c : Int) then ((c : Int), (valOf l cs c : Int)) else s
def rxAt (l : List Cm) (cs : List Nat) (j : Nat) : Int × Int := (cs.drop j).foldr (rxStep l cs) (-1, 0)

theorem nxAt_zero (l : List Cm) (cs : List Nat) : nxAt l cs 0 = (-1, -1) := by simp [nxAt]
theorem nxAt_succ (l : List Cm) (cs : List Nat) (j : Nat) (h : j < cs.length) : nxAt l cs (j + 1) = nxStep l cs (nxAt l cs j) cs[j] := by
  unfold nxAt; rw [List.take_succ_eq_append_getElem h, List.foldl_append]; rfl
theorem rxAt_end (l : List Cm) (cs : List Nat) : rxAt l cs cs.length = (-1, 0) := by simp [rxAt]
theorem rxAt_step (l : List Cm) (cs : List Nat) (j : Nat) (h : j < cs.length) : rxAt l cs j = rxStep l cs cs[j] (rxAt l cs (j + 1)) := by
  unfold rxAt; rw [List.drop_eq_getElem_cons h]; rfl
theorem kOf_le (l : List Cm) (cs : List Nat) (c : Nat) : kOf l cs c ≤ cs.length := List.countP_le_length
theorem nxAt_bd (l : List Cm) (cs : List Nat) : ∀ j, j ≤ cs.length → -1 ≤ (nxAt l cs j).2 ∧ (nxAt l cs j).2 ≤ cs.length
  | 0, _ => by rw [nxAt_zero]; simp only; omega
  | j + 1, h => by
    have ih := nxAt_bd l cs j (by omega)
    rw [nxAt_succ l cs j (by omega)]
    unfold nxStep
    split
    · have := kOf_le l cs cs[j]
      simp only
      unfold valOf; omega
    · exact ih
theorem rxAt_bd (l : List Cm) (cs : List Nat) : ∀ d j, cs.length - j ≤ d → 0 ≤ (rxAt l cs j).2 ∧ (rxAt l cs j).2 ≤ cs.length
  | d, j, h => by
    by_cases hj : j < cs.length
    · obtain _ | d := d
      · omega
      · have ih := rxAt_bd l cs d (j + 1) (by omega)
        rw [rxAt_step l cs j hj]
        unfold rxStep
        split
        · have := kOf_le l cs cs[j]
          simp only
          unfold valOf; omega
        · exact ih
    · unfold rxAt; rw [List.drop_eq_nil_of_le (by omega)]; simp

def better (m b : Int) (R : Int × Int) : Int × Int := if m < R.2 then R else (b, m)
theorem scan_gen (l : List Cm) (cs : List Nat) : ∀ (t : List Nat) (b m : Int), 0 ≤ m → t.foldl (nxStep l cs) (b, m) = better m b (t.foldr (rxStep l cs) (-1, 0))
  | [], b, m, h => by
    show (b, m) = better m b (-1, 0)
    unfold better
    rw [if_neg (by simp only; omega)]
  | c :: t, b, m, h => by
    show t.foldl (nxStep l cs) (nxStep l cs (b, m) c) = better m b (rxStep l cs c (t.foldr (rxStep l cs) (-1, 0)))
    have ih := fun b m h => scan_gen l cs t b m h
    generalize t.foldr (rxStep l cs) (-1, 0) = R at *
    unfold better at *
    unfold nxStep rxStep
    simp only
    by_cases h1 : m < (valOf l cs c : Int)
    · rw [if_pos h1]
      have e := ih (c : Int) (valOf l cs c : Int) (by omega)
      unfold nxStep at e
      rw [e]
      by_cases h2 : (valOf l cs c : Int) < R.2
      · rw [if_pos h2, if_neg (show ¬ (0 < (valOf l cs c : Int) ∧ R.2 ≤ (valOf l cs c : Int)) by omega), if_pos (show m < R.2 by omega)]
      · rw [if_neg h2, if_pos (show 0 < (valOf l cs c : Int) ∧ R.2 ≤ (valOf l cs c : Int) by omega), if_pos h1]
    · rw [if_neg h1]
      have e := ih b m h
      unfold nxStep at e
      rw [e]
      by_cases h2 : 0 < (valOf l cs c : Int) ∧ R.2 ≤ (valOf l cs c : Int)
      · rw [if_pos h2, if_neg (show ¬ m < R.2 by omega), if_neg h1]
      · rw [if_neg h2]

/-- What the scan from the end finds. -/
theorem rx_spec (l : List Cm) (cs : List Nat) : ∀ (t : List Nat), ((t.foldr (rxStep l cs) (-1, 0)) = (-1, 0) ∧ ∀ x ∈ t, valOf l cs x = 0) ∨
    ∃ c ∈ t, (t.foldr (rxStep l cs) (-1, 0)) = ((c : Int), (valOf l cs c : Int)) ∧ 0 < valOf l cs c ∧ ∀ x ∈ t, valOf l cs x ≤ valOf l cs c
  | [] => .inl ⟨rfl, fun x hx => by simp at hx⟩
  | c :: t => by
    simp only [List.foldr_cons]
    rcases rx_spec l cs t with ⟨e, h⟩ | ⟨d, hd, e, hp, hm⟩
    · rw [e]; unfold rxStep; simp only
      by_cases h1 : 0 < valOf l cs c
      · rw [if_pos (by omega)]
        refine .inr ⟨c, by simp, rfl, h1, fun x hx => ?_⟩
        rcases List.mem_cons.1 hx with rfl | hx
        · exact Nat.le_refl _
        · rw [h x hx]; omega
      · rw [if_neg (by omega)]
        refine .inl ⟨rfl, fun x hx => ?_⟩
        rcases List.mem_cons.1 hx with rfl | hx
        · omega
        · exact h x hx
    · rw [e]; unfold rxStep; simp only
      by_cases h1 : valOf l cs d ≤ valOf l cs c
      · rw [if_pos (by omega)]
        refine .inr ⟨c, by simp, rfl, by omega, fun x hx => ?_⟩
        rcases List.mem_cons.1 hx with rfl | hx
        · exact Nat.le_refl _
        · have := hm x hx; omega
      · rw [if_neg (by omega)]
        refine .inr ⟨d, by simp [hd], rfl, hp, fun x hx => ?_⟩
        rcases List.mem_cons.1 hx with rfl | hx
        · omega
        · exact hm x hx

/-! ### a valid search -/
structure Srch (l : List Cm) (good : List Nat) (bad : Nat) : Prop where
  ok : Ok l
  hbad : bad < l.length
  hgood : ∀ g ∈ good, g < l.length
  fine : ∀ g ∈ good, reach l g bad = false
section
variable {l : List Cm} {good : List Nat} {bad : Nat}
theorem mem_cand (l : List Cm) (good : List Nat) (bad i : Nat) : i ∈ cand l good bad ↔ i < l.length ∧ reach l bad i = true ∧ ∀ g ∈ good, reach l g i = false := by
  unfold cand isCand
  simp only [List.mem_filter, List.mem_range, Bool.and_eq_true, Bool.not_eq_true', List.any_eq_false, Bool.not_eq_true]
theorem Srch.mem_bad (h : Srch l good bad) : bad ∈ cand l good bad := (mem_cand _ _ _ _).2 ⟨h.hbad, reach_refl _ _, h.fine⟩
theorem cand_nodup (l : List Cm) (good : List Nat) (bad : Nat) : (cand l good bad).Nodup := List.Pairwise.filter _ List.nodup_range
theorem cand_sorted (l : List Cm) (good : List Nat) (bad : Nat) : (cand l good bad).Pairwise (· < ·) := List.Pairwise.filter _ List.pairwise_lt_range
theorem cand_lt (l : List Cm) (good : List Nat) (bad : Nat) : ∀ x ∈ cand l good bad, x < l.length := fun _ hx => ((mem_cand _ _ _ _).1 hx).1
theorem cand_len (l : List Cm) (good : List Nat) (bad : Nat) : (cand l good bad).length ≤ l.length := by
  have := List.length_filter_le (isCand l good bad) (List.range l.length)
  simpa [cand] using this
theorem Srch.pos (h : Srch l good bad) : 0 < (cand l good bad).length := List.length_pos_of_mem h.mem_bad
theorem Srch.k_bad (_h : Srch l good bad) : kOf l (cand l good bad) bad = (cand l good bad).length := by
  unfold kOf
  rw [List.countP_eq_length]
  exact fun x hx => ((mem_cand _ _ _ _).1 hx).2.1
theorem Srch.val_bad (h : Srch l good bad) : valOf l (cand l good bad) bad = 0 := by unfold valOf; rw [h.k_bad]; omega
theorem Srch.k_pos (_h : Srch l good bad) (c : Nat) (hc : c ∈ cand l good bad) : 0 < kOf l (cand l good bad) c := List.countP_pos_iff.2 ⟨c, hc, reach_refl _ _⟩
theorem Srch.k_lt (h : Srch l good bad) (c : Nat) (hc : c ∈ cand l good bad) (hne : c ≠ bad) : kOf l (cand l good bad) c < (cand l good bad).length := by
  rcases Nat.lt_or_ge (kOf l (cand l good bad) c) (cand l good bad).length with hlt | hge
  · exact hlt
  · have e : kOf l (cand l good bad) c = (cand l good bad).length := Nat.le_antisymm (kOf_le _ _ _) hge
    unfold kOf at e
    rw [List.countP_eq_length] at e
    have h1 := e bad h.mem_bad
    exact absurd (h.ok.reach_antisymm h1 ((mem_cand _ _ _ _).1 hc).2.1) hne
theorem Srch.one (h : Srch l good bad) (h1 : (cand l good bad).length = 1) : cand l good bad = [bad] := by
  have hm := h.mem_bad
  generalize cand l good bad = cs at *
  match cs, h1 with
  | [x], _ => simp at hm; rw [hm]
theorem Srch.two (h : Srch l good bad) (h1 : (cand l good bad).length ≠ 1) : ∃ c ∈ cand l good bad, c ≠ bad := by
  have hp := h.pos
  have hn := cand_nodup l good bad
  generalize cand l good bad = cs at *
  match cs, h1, hp, hn with
  | x :: y :: t, _, _, hn =>
    by_cases hx : x = bad
    · refine ⟨y, by simp, fun hy => ?_⟩
      subst hx hy
      simp at hn
    · exact ⟨x, by simp, hx⟩
/-- What is tested next. -/
theorem Srch.next (h : Srch l good bad) (h1 : (cand l good bad).length ≠ 1) : ∃ c ∈ cand l good bad, c ≠ bad ∧ nextI l (cand l good bad) = (c : Int) ∧ (rxAt l (cand l good bad) 0).1 = (c : Int) ∧ ∀ x ∈ cand l good bad, valOf l (cand l good bad) x ≤ valOf l (cand l good bad) c := by
  obtain ⟨c0, hc0, hne0⟩ := h.two h1
  have hv0 : 0 < valOf l (cand l good bad) c0 := by
    have := h.k_pos c0 hc0
    have := h.k_lt c0 hc0 hne0
    unfold valOf; omega
  have hvb := h.val_bad
  unfold nextI
  rw [if_neg h1]
  unfold nxAt rxAt
  rw [List.take_length, List.drop_zero]
  generalize hcs : cand l good bad = cs at *
  rcases rx_spec l cs cs with ⟨_, hh⟩ | ⟨c, hc, e, hp, hm⟩
  · have := hh c0 hc0; omega
  · refine ⟨c, hc, fun e => by subst e; omega, ?_, by rw [e], hm⟩
    obtain _ | ⟨x, t⟩ := cs
    · simp at hc
    · simp only [List.foldl_cons]
      have hx : nxStep l (x :: t) (-1, -1) x = ((x : Int), (valOf l (x :: t) x : Int)) := by
        unfold nxStep; rw [if_pos (by simp only; omega)]
      rw [hx, scan_gen l (x :: t) t _ _ (by omega)]
      unfold better
      simp only [List.foldr_cons] at e
      generalize t.foldr (rxStep l (x :: t)) (-1, 0) = R at *
      unfold rxStep at e
      by_cases h2 : 0 < (valOf l (x :: t) x : Int) ∧ R.2 ≤ (valOf l (x :: t) x : Int)
      · rw [if_pos h2] at e
        rw [if_neg (by omega)]
        have := congrArg Prod.fst e
        exact this
      · rw [if_neg h2] at e
        rw [if_pos (by rw [e] at h2 ⊢; simp only at h2 ⊢; have := hm x (by simp); omega), e]
theorem Srch.next_one (h : Srch l good bad) (h1 : (cand l good bad).length = 1) : nextI l (cand l good bad) = -1 ∧ (rxAt l (cand l good bad) 0).1 = -1 := by
  refine ⟨by unfold nextI; rw [if_pos h1], ?_⟩
  have hvb := h.val_bad
  rw [h.one h1] at hvb ⊢
  unfold rxAt
  simp only [List.drop_zero, List.foldr_cons, List.foldr_nil]
  unfold rxStep
  rw [if_neg (by simp only; omega)]
/-- The test finds the defect. -/
theorem Srch.left (h : Srch l good bad) {c : Nat} (hc : c ∈ cand l good bad) : Srch l good c :=
  ⟨h.ok, cand_lt _ _ _ c hc, h.hgood, ((mem_cand _ _ _ _).1 hc).2.2⟩
theorem Srch.cand_left (h : Srch l good bad) {c : Nat} (hc : c ∈ cand l good bad) : cand l good c = (cand l good bad).filter (reach l c) := by
  unfold cand
  rw [List.filter_filter]
  apply List.filter_congr
  intro i _
  unfold isCand
  have hb := ((mem_cand _ _ _ _).1 hc).2.1
  cases h1 : reach l c i
  · simp
  · rw [h.ok.reach_trans _ _ _ hb h1]; simp
theorem Srch.right (h : Srch l good bad) {c : Nat} (hc : c ∈ cand l good bad) (hne : c ≠ bad) : Srch l (good ++ [c]) bad := by
  refine ⟨h.ok, h.hbad, fun g hg => ?_, fun g hg => ?_⟩
  · simp only [List.mem_append, List.mem_singleton] at hg
    rcases hg with hg | rfl
    · exact h.hgood g hg
    · exact cand_lt _ _ _ _ hc
  · simp only [List.mem_append, List.mem_singleton] at hg
    rcases hg with hg | rfl
    · exact h.fine g hg
    · cases h1 : reach l g bad
      · rfl
      · exact absurd (h.ok.reach_antisymm h1 ((mem_cand _ _ _ _).1 hc).2.1) hne
theorem cand_right (l : List Cm) (good : List Nat) (bad c : Nat) : cand l (good ++ [c]) bad = (cand l good bad).filter (fun i => !reach l c i) := by
  unfold cand
  rw [List.filter_filter]
  apply List.filter_congr
  intro i _
  unfold isCand
  simp only [List.any_append, List.any_cons, List.any_nil, Bool.or_false, Bool.not_or]
  cases reach l bad i <;> cases good.any (fun g => reach l g i) <;> cases reach l c i <;> rfl
theorem Srch.len_left (h : Srch l good bad) {c : Nat} (hc : c ∈ cand l good bad) : (cand l good c).length = kOf l (cand l good bad) c := by
  rw [h.cand_left hc]; unfold kOf; rw [List.countP_eq_length_filter]
theorem len_right (l : List Cm) (good : List Nat) (bad c : Nat) : (cand l (good ++ [c]) bad).length = (cand l good bad).length - kOf l (cand l good bad) c := by
  rw [cand_right]
  have := List.length_eq_countP_add_countP (reach l c) (l := cand l good bad)
  unfold kOf
  rw [← List.countP_eq_length_filter]
  have e : (cand l good bad).countP (fun i => !reach l c i) = (cand l good bad).countP (fun a => decide ¬ reach l c a = true) := by
    apply List.countP_congr; intro x _; simp
  omega

/-! ### the whole search -/
def findF (l : List Cm) (broken : Nat → Bool) : Nat → List Nat → Nat → Nat × List Nat
  | 0, _, bad => (bad, [])
  | n + 1, good, bad =>
    if nextI l (cand l good bad) < 0 then (bad, [])
    else if broken (nextI l (cand l good bad)).toNat then ((findF l broken n good (nextI l (cand l good bad)).toNat).1, (nextI l (cand l good bad)).toNat :: (findF l broken n good (nextI l (cand l good bad)).toNat).2)
    else ((findF l broken n (good ++ [(nextI l (cand l good bad)).toNat]) bad).1, (nextI l (cand l good bad)).toNat :: (findF l broken n (good ++ [(nextI l (cand l good bad)).toNat]) bad).2)
def find (l : List Cm) (broken : Nat → Bool) (good : List Nat) (bad : Nat) : Nat × List Nat := findF l broken (cand l good bad).length good bad

theorem Srch.shrink (h : Srch l good bad) {c : Nat} (hc : c ∈ cand l good bad) (hne : c ≠ bad) :
    0 < (cand l good c).length ∧ (cand l good c).length < (cand l good bad).length ∧ 0 < (cand l (good ++ [c]) bad).length ∧ (cand l (good ++ [c]) bad).length < (cand l good bad).length ∧ (cand l good c).length + (cand l (good ++ [c]) bad).length = (cand l good bad).length := by
  have h1 := h.k_pos c hc
  have h2 := h.k_lt c hc hne
  rw [h.len_left hc, len_right]
  omega
theorem Srch.findF_fuel (broken : Nat → Bool) : ∀ (n m : Nat) (good : List Nat) (bad : Nat), Srch l good bad → (cand l good bad).length ≤ n → (cand l good bad).length ≤ m → findF l broken n good bad = findF l broken m good bad
  | 0, _, good, bad, h, hn, _ => by have := h.pos; omega
  | _ + 1, 0, good, bad, h, _, hm => by have := h.pos; omega
  | n + 1, m + 1, good, bad, h, hn, hm => by
    by_cases h1 : (cand l good bad).length = 1
    · have e := (h.next_one h1).1
      unfold findF; rw [e]; rfl
    · obtain ⟨c, hc, hne, e, _, _⟩ := h.next h1
      obtain ⟨_, s1, _, s2, _⟩ := h.shrink hc hne
      have e1 := Srch.findF_fuel broken n m good c (h.left hc) (by omega) (by omega)
      have e2 := Srch.findF_fuel broken n m (good ++ [c]) bad (h.right hc hne) (by omega) (by omega)
      unfold findF
      rw [e]
      simp only [Int.toNat_natCast]
      rw [e1, e2]
theorem Srch.find_end (h : Srch l good bad) (broken : Nat → Bool) (h1 : (cand l good bad).length = 1) : find l broken good bad = (bad, []) := by
  unfold find
  rw [h1]
  unfold findF
  rw [(h.next_one h1).1]; rfl
theorem Srch.find_step (h : Srch l good bad) (broken : Nat → Bool) {c : Nat} (hc : c ∈ cand l good bad) (hne : c ≠ bad) (e : nextI l (cand l good bad) = (c : Int)) :
    (broken c = true → find l broken good bad = ((find l broken good c).1, c :: (find l broken good c).2)) ∧
    (broken c = false → find l broken good bad = ((find l broken (good ++ [c]) bad).1, c :: (find l broken (good ++ [c]) bad).2)) := by
  obtain ⟨_, s1, _, s2, _⟩ := h.shrink hc hne
  unfold find
  obtain ⟨n, hn⟩ : ∃ n, (cand l good bad).length = n + 1 := ⟨(cand l good bad).length - 1, by omega⟩
  rw [hn]
  have e1 := Srch.findF_fuel broken n (cand l good c).length good c (h.left hc) (by omega) (by omega)
  have e2 := Srch.findF_fuel broken n (cand l (good ++ [c]) bad).length (good ++ [c]) bad (h.right hc hne) (by omega) (by omega)
  rw [← e1, ← e2]
  constructor
  · intro hb
    rw [findF, e]
    simp only [Int.toNat_natCast]
    rw [if_neg (by omega), if_pos hb]
  · intro hb
    rw [findF, e]
    simp only [Int.toNat_natCast]
    rw [if_neg (by omega), if_neg (by rw [hb]; decide)]

/-- What holds of the search's end, if it holds of each step. -/
theorem Srch.find_ind (broken : Nat → Bool) {P : List Nat → Nat → Nat × List Nat → Prop}
    (h0 : ∀ good bad, Srch l good bad → cand l good bad = [bad] → P good bad (bad, []))
    (hl : ∀ good bad c r, Srch l good bad → c ∈ cand l good bad → c ≠ bad → (∀ x ∈ cand l good bad, valOf l (cand l good bad) x ≤ valOf l (cand l good bad) c) → broken c = true → P good c r → P good bad (r.1, c :: r.2))
    (hr : ∀ good bad c r, Srch l good bad → c ∈ cand l good bad → c ≠ bad → (∀ x ∈ cand l good bad, valOf l (cand l good bad) x ≤ valOf l (cand l good bad) c) → broken c = false → P (good ++ [c]) bad r → P good bad (r.1, c :: r.2)) :
    ∀ (n : Nat) (good : List Nat) (bad : Nat), Srch l good bad → (cand l good bad).length ≤ n → P good bad (find l broken good bad)
  | 0, good, bad, h, hn => by have := h.pos; omega
  | n + 1, good, bad, h, hn => by
    by_cases h1 : (cand l good bad).length = 1
    · rw [h.find_end broken h1]; exact h0 _ _ h (h.one h1)
    · obtain ⟨c, hc, hne, e, _, hm⟩ := h.next h1
      obtain ⟨_, s1, _, s2, _⟩ := h.shrink hc hne
      cases hb : broken c
      · rw [(h.find_step broken hc hne e).2 hb]
        exact hr _ _ _ _ h hc hne hm hb (Srch.find_ind broken h0 hl hr n _ _ (h.right hc hne) (by omega))
      · rw [(h.find_step broken hc hne e).1 hb]
        exact hl _ _ _ _ h hc hne hm hb (Srch.find_ind broken h0 hl hr n _ _ (h.left hc) (by omega))
theorem Srch.find_len (h : Srch l good bad) (broken : Nat → Bool) : (find l broken good bad).2.length < (cand l good bad).length ∧ (find l broken good bad).1 < l.length ∧ ∀ x ∈ (find l broken good bad).2, x < l.length :=
  Srch.find_ind (l := l) broken (P := fun good bad r => r.2.length < (cand l good bad).length ∧ r.1 < l.length ∧ ∀ x ∈ r.2, x < l.length)
    (fun g b h e => ⟨by rw [e]; exact Nat.zero_lt_one, h.hbad, fun x hx => by simp at hx⟩)
    (fun g b c r h hc hne _ _ ⟨h1, h2, h3⟩ => ⟨by have := h.shrink hc hne; simp only [List.length_cons]; omega, h2, fun x hx => by
      rcases List.mem_cons.1 hx with rfl | hx
      · exact cand_lt _ _ _ _ hc
      · exact h3 x hx⟩)
    (fun g b c r h hc hne _ _ ⟨h1, h2, h3⟩ => ⟨by have := h.shrink hc hne; simp only [List.length_cons]; omega, h2, fun x hx => by
      rcases List.mem_cons.1 hx with rfl | hx
      · exact cand_lt _ _ _ _ hc
      · exact h3 x hx⟩) _ good bad h (Nat.le_refl _)
/-- If defects persist in descendants: the first one is found. -/
theorem Srch.find_first (h : Srch l good bad) (broken : Nat → Bool) (hp : ∀ i k, i < l.length → reach l i k = true → broken k = true → broken i = true) (hb : broken bad = true) (hg : ∀ g ∈ good, broken g = false) :
    broken (find l broken good bad).1 = true ∧ ∀ p ∈ pars l (find l broken good bad).1, broken p = false :=
  Srch.find_ind (l := l) broken (P := fun good bad r => broken bad = true → (∀ g ∈ good, broken g = false) → broken r.1 = true ∧ ∀ p ∈ pars l r.1, broken p = false)
    (fun g b h e hb hg => ⟨hb, fun p hpp => by
      cases hbp : broken p
      · rfl
      · have hr := h.ok.reach_par hpp (reach_refl l p)
        have hlt := h.ok.reach_lt h.hbad hr
        have hne : p ≠ b := fun e => by have := (h.ok.pars_lt b p hpp).1; omega
        have hnc : p ∉ cand l g b := by rw [e]; simpa using hne
        rw [mem_cand] at hnc
        have : ∃ x ∈ g, reach l x p = true := by
          rcases Classical.em (∃ x ∈ g, reach l x p = true) with h1 | h1
          · exact h1
          · refine absurd ⟨hlt, hr, fun x hx => ?_⟩ hnc
            cases hxx : reach l x p
            · rfl
            · exact absurd ⟨x, hx, hxx⟩ h1
        obtain ⟨x, hx, hxr⟩ := this
        have := hp x p (h.hgood x hx) hxr hbp
        rw [hg x hx] at this; cases this⟩)
    (fun g b c r h hc hne _ hbc ih _ hg => ih hbc hg)
    (fun g b c r h hc hne _ hbc ih hb hg => ih hb fun x hx => by
      simp only [List.mem_append, List.mem_singleton] at hx
      rcases hx with hx | rfl
      · exact hg x hx
      · exact hbc) _ good bad h (Nat.le_refl _) hb hg

/-! ### a history without branches -/
theorem sorted_count : ∀ (cs : List Nat), cs.Pairwise (· < ·) → ∀ (j : Nat) (h : j < cs.length), cs.countP (fun i => decide (i ≤ cs[j])) = j + 1
  | [], _, j, h => by simp at h
  | x :: t, hp, 0, _ => by
    rw [List.countP_cons]
    simp only [List.getElem_cons_zero, Nat.le_refl, decide_true, if_true]
    have : t.countP (fun i => decide (i ≤ x)) = 0 := by
      rw [List.countP_eq_zero]
      intro y hy
      have := (List.pairwise_cons.1 hp).1 y hy
      simp; omega
    omega
  | x :: t, hp, j + 1, h => by
    rw [List.countP_cons]
    simp only [List.getElem_cons_succ]
    have hj : j < t.length := by simpa using h
    rw [sorted_count t (List.pairwise_cons.1 hp).2 j hj]
    have := (List.pairwise_cons.1 hp).1 _ (List.getElem_mem hj)
    rw [if_pos (by simp; omega)]
def Lin (l : List Cm) : Prop := ∀ b i, b < l.length → reach l b i = decide (i ≤ b)
theorem Srch.half (_h : Srch l good bad) (hl : Lin l) {c : Nat} (_hc : c ∈ cand l good bad) (hm : ∀ x ∈ cand l good bad, valOf l (cand l good bad) x ≤ valOf l (cand l good bad) c) :
    (cand l good bad).length / 2 ≤ kOf l (cand l good bad) c ∧ (cand l good bad).length / 2 ≤ (cand l good bad).length - kOf l (cand l good bad) c := by
  rcases Nat.eq_zero_or_pos ((cand l good bad).length / 2) with h0 | h0
  · omega
  · have hj : (cand l good bad).length / 2 - 1 < (cand l good bad).length := by omega
    have h1 := hm _ (List.getElem_mem hj)
    have hk : kOf l (cand l good bad) ((cand l good bad)[(cand l good bad).length / 2 - 1]) = (cand l good bad).length / 2 := by
      have e := sorted_count _ (cand_sorted l good bad) _ hj
      unfold kOf
      rw [show reach l ((cand l good bad)[(cand l good bad).length / 2 - 1]) = fun i => decide (i ≤ (cand l good bad)[(cand l good bad).length / 2 - 1]) from funext fun i => hl _ i (cand_lt _ _ _ _ (List.getElem_mem hj)), e]
      omega
    unfold valOf at h1
    rw [hk] at h1
    omega
theorem Srch.find_log (h : Srch l good bad) (hl : Lin l) (broken : Nat → Bool) : (find l broken good bad).2.length = 0 ∨ 2 ^ ((find l broken good bad).2.length - 1) < (cand l good bad).length := by
  have key : ∀ (T m m' : Nat), (T = 0 ∨ 2 ^ (T - 1) < m') → m' ≤ (m + 1) / 2 → 2 ≤ m → 2 ^ T < m := by
    intro T m m' h1 h2 h3
    rcases h1 with rfl | h1
    · simp; omega
    · rcases T with _ | T
      · simp; omega
      · simp only [Nat.add_sub_cancel] at h1
        rw [Nat.pow_succ]; omega
  refine Srch.find_ind (l := l) broken (P := fun good bad r => r.2.length = 0 ∨ 2 ^ (r.2.length - 1) < (cand l good bad).length) (fun g b h e => .inl rfl) ?_ ?_ _ good bad h (Nat.le_refl _)
  · intro g b c r h hc hne hm _ ih
    have hh := h.half hl hc hm
    have hs := h.shrink hc hne
    refine .inr ?_
    simp only [List.length_cons, Nat.add_sub_cancel]
    exact key _ _ _ ih (by rw [h.len_left hc]; omega) (by omega)
  · intro g b c r h hc hne hm _ ih
    have hh := h.half hl hc hm
    have hs := h.shrink hc hne
    refine .inr ?_
    simp only [List.length_cons, Nat.add_sub_cancel]
    exact key _ _ _ ih (by rw [len_right]; omega) (by omega)
end
end Hs
