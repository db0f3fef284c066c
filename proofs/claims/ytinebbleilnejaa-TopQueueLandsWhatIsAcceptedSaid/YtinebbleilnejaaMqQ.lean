/-
  The merge queue in plain Lean: events, verdicts, rounds.
-/
import Derived.Test.YtinebbleilnejaaMqP
namespace Mq
def tri : Nat → Nat
  | 0 => 0
  | k + 1 => tri k + (k + 1)
theorem tri_ge : ∀ k, k ≤ tri k
  | 0 => Nat.le_refl _
  | k + 1 => by rw [tri]; omega
/-- The entries that wait with a verdict. -/
def done : List E → Nat
  | [] => 0
  | e :: es => (if e.p = true ∨ e.f = true then 1 else 0) + done es
theorem done_le : ∀ es : List E, done es ≤ es.length
  | [] => Nat.le_refl _
  | e :: es => by have := done_le es; rw [done, List.length_cons]; split <;> omega
theorem done_disc : ∀ es : List E, done (es.map disc) = 0
  | [] => rfl
  | e :: es => by rw [List.map_cons, done, done_disc es, if_neg (by simp [disc])]
theorem done_drop (c : Int) : ∀ es : List E, done (es.map (drop1 c)) = done es
  | [] => rfl
  | e :: es => by rw [List.map_cons, done, done, done_drop c es]; rfl
theorem done_fill : ∀ (w : Nat) (es : List E) (a : List Int), done (fill w es a) = done es
  | 0, es, a => rfl
  | w + 1, [], a => rfl
  | w + 1, e :: es, a => by
    rw [fill, done, done, done_fill w es]
    congr 1
    unfold start
    by_cases hn : e.t = false ∧ e.p = false ∧ e.f = false
    · rw [if_pos hn, if_neg (by simp), if_neg (by rw [hn.2.1, hn.2.2]; simp)]
    · rw [if_neg hn]
theorem setl_pot : ∀ (k : Nat) (es : List E) (la re : List Int), tri (setl k es la re).es.length + done es ≤ tri es.length + done (setl k es la re).es
  | 0, es, la, re => Nat.le_refl _
  | k + 1, [], la, re => Nat.le_refl _
  | k + 1, e :: es, la, re => by
    rw [setl]
    by_cases hpf : e.p = true ∨ e.f = true
    · have hl := done_le es
      rw [if_pos hpf, done, if_pos hpf, List.length_cons, tri]
      by_cases hf : e.f = true
      · rw [if_pos hf]
        have := setl_pot k (es.map disc) la (re ++ [e.c])
        rw [done_disc, List.length_map] at this
        omega
      · rw [if_neg hf]
        have := setl_pot k (es.map (drop1 e.c)) (la ++ [e.c]) re
        rw [done_drop, List.length_map] at this
        omega
    · rw [if_neg hpf]; exact Nat.le_refl _
theorem settle_pot (w : Nat) (es : List E) (la re : List Int) : tri (settle w es la re).es.length + done es ≤ tri es.length + done (settle w es la re).es := by
  have := setl_pot es.length es la re
  unfold settle
  show tri (fill w _ []).length + _ ≤ _ + done (fill w _ [])
  rw [fill_len, done_fill]; exact this
theorem done_set : ∀ (es : List E) (j : Nat) (h : j < es.length) (e : E), (e.p = true ∨ e.f = true) → es[j].p = false → es[j].f = false → done (es.set j e) = done es + 1
  | [], j, h, _, _, _, _ => absurd h (by simp)
  | x :: es, 0, h, e, he, hp, hf => by
    show (if e.p = true ∨ e.f = true then 1 else 0) + done es = (if x.p = true ∨ x.f = true then 1 else 0) + done es + 1
    rw [if_pos he, if_neg (by show ¬ (x.p = true ∨ x.f = true); rw [show x.p = false from hp, show x.f = false from hf]; simp)]; omega
  | x :: es, j + 1, h, e, he, hp, hf => by
    show (if x.p = true ∨ x.f = true then 1 else 0) + done (es.set j e) = (if x.p = true ∨ x.f = true then 1 else 0) + done es + 1
    rw [done_set es j (by simpa using h) e he hp hf]; omega
/-- What the law tests. -/
def setF (n : Nat) (la a : List Int) (c : Int) : List Int := ((List.range n).filter fun (i : Nat) => la.contains ((i : Int) + 1) || a.contains ((i : Int) + 1) || c == (i : Int) + 1).map fun (i : Nat) => (i : Int)
theorem G_eq (cu : List (List Int)) : ∀ m, G cu m = ((List.range m).filter fun i => !bad cu (G cu i ++ [(i : Int)])).map fun (i : Nat) => (i : Int)
  | 0 => rfl
  | m + 1 => by
    rw [G, List.range_succ, List.filter_append, List.map_append, ← G_eq cu m]
    cases hb : bad cu (G cu m ++ [(m : Int)]) <;> simp [hb]
theorem G_mem (cu : List (List Int)) (m i : Nat) : (i : Int) ∈ G cu m ↔ i < m ∧ bad cu (G cu i ++ [(i : Int)]) = false := by
  rw [G_eq cu m, List.mem_map]
  constructor
  · rintro ⟨x, hx, e⟩
    have e' : x = i := by omega
    subst e'
    simpa using hx
  · intro h
    exact ⟨i, by simpa using h, rfl⟩
theorem setF_eq (cu : List (List Int)) (n m j : Nat) (h : m + j < n) : setF n ((G cu m).map (· + 1)) (ahead m j) ((m + j + 1 : Nat) : Int) = tset cu m j := by
  have hla : ∀ i : Nat, ((G cu m).map (· + 1)).contains ((i : Int) + 1) = decide (i < m ∧ bad cu (G cu i ++ [(i : Int)]) = false) := by
    intro i
    rw [Bool.eq_iff_iff, List.contains_iff_mem, decide_eq_true_iff, ← G_mem, List.mem_map]
    constructor
    · rintro ⟨x, hx, e⟩
      have e' : x = (i : Int) := by omega
      rwa [e'] at hx
    · intro hx; exact ⟨_, hx, rfl⟩
  have hah : ∀ i : Nat, (ahead m j).contains ((i : Int) + 1) = decide (m ≤ i ∧ i < m + j) := by
    intro i
    rw [Bool.eq_iff_iff, List.contains_iff_mem, decide_eq_true_iff]
    unfold ahead
    rw [List.mem_map]
    constructor
    · rintro ⟨x, hx, e⟩
      have := List.mem_range.1 hx
      omega
    · intro hx
      exact ⟨i - m, List.mem_range.2 (by omega), by omega⟩
  unfold setF tset
  have hn : List.range n = List.range m ++ (List.range (j + 1)).map (m + ·) ++ (List.range (n - (m + (j + 1)))).map (m + (j + 1) + ·) := by
    rw [← List.range_add, ← List.range_add]; congr 1; omega
  rw [hn, List.filter_append, List.filter_append, List.map_append, List.map_append, G_eq cu m]
  have h3 : ((List.range (n - (m + (j + 1)))).map (m + (j + 1) + ·)).filter (fun (i : Nat) => ((List.map (fun (x : Int) => x + 1) (G cu m)).contains ((i : Int) + 1) || (ahead m j).contains ((i : Int) + 1) || ((m + j + 1 : Nat) : Int) == (i : Int) + 1)) = [] := by
    rw [List.filter_eq_nil_iff]
    intro a ha
    obtain ⟨x, _, rfl⟩ := List.mem_map.1 ha
    rw [hla, hah]
    have e1 : (((m + j + 1 : Nat) : Int) == ((m + (j + 1) + x : Nat) : Int) + 1) = false := by rw [beq_eq_false_iff_ne]; omega
    rw [e1, decide_eq_false (by omega), decide_eq_false (by omega)]; simp
  have h2 : ((List.range (j + 1)).map (m + ·)).filter (fun (i : Nat) => ((List.map (fun (x : Int) => x + 1) (G cu m)).contains ((i : Int) + 1) || (ahead m j).contains ((i : Int) + 1) || ((m + j + 1 : Nat) : Int) == (i : Int) + 1)) = (List.range (j + 1)).map (m + ·) := by
    rw [List.filter_eq_self]
    intro a ha
    obtain ⟨x, hx, rfl⟩ := List.mem_map.1 ha
    have hx' := List.mem_range.1 hx
    rw [hla, hah]
    by_cases hxj : x = j
    · subst hxj
      have e1 : (((m + x + 1 : Nat) : Int) == ((m + x : Nat) : Int) + 1) = true := by rw [beq_iff_eq]; omega
      rw [e1]; simp
    · rw [decide_eq_true (show m ≤ m + x ∧ m + x < m + j by omega)]; simp
  have h1 : (List.range m).filter (fun (i : Nat) => ((List.map (fun (x : Int) => x + 1) (G cu m)).contains ((i : Int) + 1) || (ahead m j).contains ((i : Int) + 1) || ((m + j + 1 : Nat) : Int) == (i : Int) + 1)) = (List.range m).filter fun i => !bad cu (G cu i ++ [(i : Int)]) := by
    apply List.filter_congr
    intro x hx
    have hx' := List.mem_range.1 hx
    rw [hla, hah]
    have e1 : (((m + j + 1 : Nat) : Int) == (x : Int) + 1) = false := by rw [beq_eq_false_iff_ne]; omega
    rw [e1, decide_eq_false (show ¬ (m ≤ x ∧ x < m + j) by omega)]
    cases bad cu (G cu x ++ [(x : Int)]) <;> simp [hx']
  rw [← G_eq cu m, h1, h2, h3, ← G_eq cu m, List.map_map]
  simp
theorem find_eq (cu : List (List Int)) (m : Nat) (es : List E) (h : ∀ j (h : j < es.length), EOk cu m j es[j]) (j : Nat) (hj : j < es.length) : find es es[j].c = j := by
  unfold find
  rw [List.findIdx_eq hj]
  refine ⟨by simp, fun i hi => ?_⟩
  rw [(h i (by omega)).1, (h j hj).1, beq_eq_false_iff_ne]; omega
/-- A round of the law. -/
theorem round (cu : List (List Int)) (w n m : Nat) (q : Q) (h : Set cu w n m q) (j : Nat) (hj : j < q.es.length) (ht : q.es[j].t = true) :
    setF n q.la q.es[j].a q.es[j].c = tset cu m j ∧
    ∃ m', Set cu w n m' (step w q ⟨if bad cu (tset cu m j) = true then 4 else 3, q.es[j].c⟩) ∧ tri (step w q ⟨if bad cu (tset cu m j) = true then 4 else 3, q.es[j].c⟩).es.length + done q.es + 1 ≤ tri q.es.length + done (step w q ⟨if bad cu (tset cu m j) = true then 4 else 3, q.es[j].c⟩).es := by
  have hI := h.inv
  obtain ⟨g1, g2⟩ := hI.ok j hj
  have hmn := hI.mn
  have g3 : q.es[j].a = ahead m j ∧ q.es[j].p = false ∧ q.es[j].f = false := by
    rcases g2 with g | ⟨ga, g | g | g⟩
    · rw [g.1] at ht; cases ht
    · exact ⟨ga, g.2.1, g.2.2⟩
    · rw [g.1] at ht; cases ht
    · rw [g.1] at ht; cases ht
  obtain ⟨ga, gp, gf⟩ := g3
  refine ⟨by rw [hI.lan, ga, g1]; exact setF_eq cu n m j (by omega), ?_⟩
  have hst : step w q ⟨if bad cu (tset cu m j) = true then 4 else 3, q.es[j].c⟩ = settle w (q.es.set j (verd (!bad cu (tset cu m j)) q.es[j])) q.la q.re := by
    unfold step
    rw [if_neg (by show ¬ (if _ then (4 : Int) else 3) = 1; split <;> decide)]
    show settle w (vset _ q.es (find q.es q.es[j].c)) q.la q.re = _
    rw [find_eq cu m q.es hI.ok j hj]
    unfold vset
    rw [List.getElem?_eq_getElem hj]
    cases bad cu (tset cu m j) <;> rfl
  rw [hst]
  have hI2 : Inv cu n m (q.es.set j (verd (!bad cu (tset cu m j)) q.es[j])) q.la q.re := ⟨by rw [List.length_set]; exact hmn, hI.lan, hI.cnt, fun i hi => by
    have hi' : i < q.es.length := by simpa using hi
    rw [List.getElem_set]
    by_cases e : j = i
    · subst e
      rw [if_pos rfl]
      refine ⟨g1, .inr ⟨ga, .inr ?_⟩⟩
      cases hb : bad cu (tset cu m j)
      · exact .inl ⟨rfl, rfl, rfl, rfl⟩
      · exact .inr ⟨rfl, rfl, rfl, rfl⟩
    · rw [if_neg e]; exact hI.ok i hi'⟩
  obtain ⟨m', hS⟩ := settle_set cu w n m _ _ _ hI2
  refine ⟨m', hS, ?_⟩
  have hp := settle_pot w (q.es.set j (verd (!bad cu (tset cu m j)) q.es[j])) q.la q.re
  rw [done_set q.es j hj _ (by cases bad cu (tset cu m j) <;> simp [verd]) gp gf, List.length_set] at hp
  omega
/-- The changes are added. -/
def adds : Nat → List Ev
  | 0 => []
  | n + 1 => adds n ++ [⟨1, (n : Int) + 1⟩]
theorem setl_id : ∀ (k : Nat) (es : List E) (la re : List Int), (∀ h : 0 < es.length, es[0].p = false ∧ es[0].f = false) → setl k es la re = ⟨es, la, re⟩
  | 0, es, la, re, _ => rfl
  | k + 1, [], la, re, _ => rfl
  | k + 1, e :: es, la, re, h => by
    have := h (by simp)
    rw [setl, if_neg]
    show ¬ (e.p = true ∨ e.f = true)
    rw [show e.p = false from this.1, show e.f = false from this.2]; simp
theorem adds_run (cu : List (List Int)) (w : Nat) : ∀ n, Set cu w n 0 (run w (adds n)) ∧ (run w (adds n)).la = [] ∧ (run w (adds n)).re = [] ∧ done (run w (adds n)).es = 0
  | 0 => ⟨⟨⟨rfl, rfl, rfl, fun j h => absurd h (by simp [run, adds])⟩, fun h => absurd h (by simp [run, adds]), fun j h => absurd h (by simp [run, adds])⟩, rfl, rfl, rfl⟩
  | n + 1 => by
    obtain ⟨h, h1, h2, h3⟩ := adds_run cu w n
    rw [adds, run_snoc]
    have hI := h.inv
    have hmn := hI.mn
    generalize run w (adds n) = q at *
    have hs : step w q ⟨1, (n : Int) + 1⟩ = settle w (q.es ++ [⟨(n : Int) + 1, false, false, false, []⟩]) q.la q.re := rfl
    have hI2 : Inv cu (n + 1) 0 (q.es ++ [⟨(n : Int) + 1, false, false, false, []⟩]) q.la q.re := ⟨by simp; omega, hI.lan, hI.cnt, fun j hj => by
      rw [List.getElem_append]
      by_cases e : j < q.es.length
      · rw [dif_pos e]; exact hI.ok j e
      · rw [dif_neg e]
        have hj' : j = n := by simp at hj; omega
        subst hj'
        refine ⟨?_, .inl ?_⟩
        · simp
        · simp⟩
    have hd : ∀ h : 0 < (q.es ++ [(⟨(n : Int) + 1, false, false, false, []⟩ : E)]).length, (q.es ++ [(⟨(n : Int) + 1, false, false, false, []⟩ : E)])[0].p = false ∧ (q.es ++ [(⟨(n : Int) + 1, false, false, false, []⟩ : E)])[0].f = false := by
      intro h0
      rw [List.getElem_append]
      by_cases e : 0 < q.es.length
      · rw [dif_pos e]; exact h.hd e
      · rw [dif_neg e]; simp
    have hse := setl_id (q.es ++ [(⟨(n : Int) + 1, false, false, false, []⟩ : E)]).length _ q.la q.re hd
    obtain ⟨m', hS⟩ := settle_set cu w (n + 1) 0 _ _ _ hI2
    rw [hs]
    have hl : (settle w (q.es ++ [⟨(n : Int) + 1, false, false, false, []⟩]) q.la q.re).la = [] := by unfold settle; rw [hse]; exact h1
    have hr : (settle w (q.es ++ [⟨(n : Int) + 1, false, false, false, []⟩]) q.la q.re).re = [] := by unfold settle; rw [hse]; exact h2
    have hm : m' = 0 := by have := hS.inv.cnt; rw [hl, hr] at this; simp at this; omega
    subst hm
    refine ⟨hS, hl, hr, ?_⟩
    unfold settle
    rw [hse]
    show done (fill w _ []) = 0
    rw [done_fill]
    have : ∀ (a b : List E), done (a ++ b) = done a + done b := by
      intro a b
      induction a with
      | nil => simp [done]
      | cons x a ih => rw [List.cons_append, done, done, ih]; omega
    rw [this, h3]; rfl
/-- The end. -/
theorem last (cu : List (List Int)) (w n m : Nat) (q : Q) (h : Set cu w n m q) (he : q.es = []) : q.la.map (fun x => x - 1) = G cu n ∧ q.la.length + q.re.length = n := by
  have hI := h.inv
  have hmn := hI.mn
  rw [he] at hmn
  have e : m = n := by simpa using hmn
  subst e
  refine ⟨?_, hI.cnt⟩
  rw [hI.lan, List.map_map]
  have : ((fun (x : Int) => x - 1) ∘ fun x => x + 1) = id := by funext x; simp
  rw [this, List.map_id]
end Mq
