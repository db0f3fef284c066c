/-
  The merge queue in plain Lean: what the rounds of the law keep.
-/
import Derived.Test.YtinebbleilnejaaMqQ
namespace Mq
/-- Sizes. -/
def Sz (q : Q) : Prop := q.es.length ≤ 10 ∧ q.la.length ≤ 40 ∧ q.re.length ≤ 40 ∧ ∀ j (h : j < q.es.length), q.es[j].a.length ≤ 40
/-- A valid event. -/
def Val (q : Q) (v : Ev) : Prop := 1 ≤ v.c ∧ v.c ≤ 1000000000 ∧
  ((v.kind = 1 ∧ (∀ j (h : j < q.es.length), q.es[j].c ≠ v.c) ∧ v.c ∉ q.la ∧ v.c ∉ q.re ∧ q.es.length < 10) ∨
   ((v.kind = 3 ∨ v.kind = 4) ∧ ∃ h : find q.es v.c < q.es.length, q.es[find q.es v.c].c = v.c ∧ q.es[find q.es v.c].t = true))
/-- Valid events. -/
def VC (w : Nat) (l : List Ev) : Prop := (∀ i, i ≤ l.length → Sz (run w (l.take i))) ∧ ∀ i (h : i < l.length), Val (run w (l.take i)) l[i]
theorem VC.nil (w : Nat) : VC w [] := ⟨fun i _ => by rw [List.take_nil]; exact ⟨by simp [run], by simp [run], by simp [run], fun j h => absurd h (by simp [run])⟩, fun i h => absurd h (by simp)⟩
theorem VC.snoc {w : Nat} {l : List Ev} {v : Ev} (h : VC w l) (h1 : Val (run w l) v) (h2 : Sz (run w (l ++ [v]))) : VC w (l ++ [v]) := by
  refine ⟨fun i hi => ?_, fun i hi => ?_⟩
  · by_cases e : i ≤ l.length
    · rw [List.take_append_of_le_length e]; exact h.1 i e
    · rw [List.take_of_length_le (by simp at hi ⊢; omega)]; exact h2
  · by_cases e : i < l.length
    · rw [List.take_append_of_le_length (by omega), List.getElem_append_left e]; exact h.2 i e
    · have e' : i = l.length := by simp at hi; omega
      subst e'
      rw [List.take_append_of_le_length (Nat.le_refl _), List.take_length]
      simpa using h1
theorem Set.sz {cu : List (List Int)} {w n m : Nat} {q : Q} (h : Set cu w n m q) (hn : n ≤ 5) : Sz q := by
  have hI := h.inv
  have h1 := hI.mn
  have h2 := hI.cnt
  refine ⟨by omega, by omega, by omega, fun j hj => ?_⟩
  rcases (hI.ok j hj).2 with g | ⟨g, _⟩
  · rw [g.2.2.2]; simp
  · rw [g]; simp [ahead]; omega
/-- The state of the law's loop. -/
structure Rd (cu : List (List Int)) (w n r : Nat) (l : List Ev) : Prop where
  len : l.length = n + r
  vc : VC w l
  st : ∃ m, Set cu w n m (run w l)
  pot : tri (run w l).es.length + r ≤ 15 + done (run w l).es
theorem adds_len : ∀ n, (adds n).length = n
  | 0 => rfl
  | n + 1 => by rw [adds, List.length_append, adds_len n]; rfl
theorem adds_vc (cu : List (List Int)) (w : Nat) : ∀ n, n ≤ 5 → VC w (adds n)
  | 0, _ => VC.nil w
  | n + 1, hn => by
    obtain ⟨h, h1, h2, _⟩ := adds_run cu w n
    have hs := (adds_run cu w (n + 1)).1.sz hn
    rw [adds] at hs ⊢
    have hI := h.inv
    have hmn := hI.mn
    refine (adds_vc cu w n (by omega)).snoc ⟨by show (1 : Int) ≤ (n : Int) + 1; omega, by show (n : Int) + 1 ≤ 1000000000; omega, .inl ⟨rfl, fun j hj => ?_, ?_, ?_, by omega⟩⟩ hs
    · rw [(hI.ok j hj).1]; show ((0 + j + 1 : Nat) : Int) ≠ (n : Int) + 1; omega
    · rw [h1]; simp
    · rw [h2]; simp
theorem tri_le : ∀ n, n ≤ 5 → tri n ≤ 15 := by decide
theorem Rd.zero (cu : List (List Int)) (w n : Nat) (hn : n ≤ 5) : Rd cu w n 0 (adds n) := by
  obtain ⟨h, _, _, h3⟩ := adds_run cu w n
  refine ⟨adds_len n, adds_vc cu w n hn, ⟨0, h⟩, ?_⟩
  have hmn := h.inv.mn
  have e : (run w (adds n)).es.length = n := by omega
  rw [e, h3]
  have := tri_le n hn
  omega
/-- One more round. -/
theorem Rd.next {cu : List (List Int)} {w n r : Nat} {l : List Ev} (h : Rd cu w n r l) (hn : n ≤ 5) (j : Nat) (hj : j < (run w l).es.length) (ht : (run w l).es[j].t = true) :
    Rd cu w n (r + 1) (l ++ [⟨if bad cu (setF n (run w l).la (run w l).es[j].a (run w l).es[j].c) = true then 4 else 3, (run w l).es[j].c⟩]) := by
  obtain ⟨m, hS⟩ := h.st
  obtain ⟨e, m', hS', hp⟩ := round cu w n m _ hS j hj ht
  have hpot := h.pot
  rw [e]
  have hI := hS.inv
  have hmn := hI.mn
  have hc : (run w l).es[j].c = ((m + j + 1 : Nat) : Int) := (hI.ok j hj).1
  have hf := find_eq cu m _ hI.ok j hj
  refine ⟨by rw [List.length_append, h.len]; rfl, ?_, ⟨m', by rw [run_snoc]; exact hS'⟩, by rw [run_snoc]; omega⟩
  refine h.vc.snoc ⟨?_, ?_, .inr ⟨?_, ?_⟩⟩ (by rw [run_snoc]; exact hS'.sz hn)
  · show 1 ≤ (run w l).es[j].c; rw [hc]; omega
  · show (run w l).es[j].c ≤ 1000000000; rw [hc]; omega
  · show (if bad cu (tset cu m j) = true then (4 : Int) else 3) = 3 ∨ (if bad cu (tset cu m j) = true then (4 : Int) else 3) = 4
    split <;> simp
  · show ∃ h : find (run w l).es (run w l).es[j].c < (run w l).es.length, (run w l).es[find (run w l).es (run w l).es[j].c].c = (run w l).es[j].c ∧ (run w l).es[find (run w l).es (run w l).es[j].c].t = true
    have hlt : find (run w l).es (run w l).es[j].c < (run w l).es.length := by rw [hf]; exact hj
    refine ⟨hlt, ?_⟩
    have hE : (run w l).es[find (run w l).es (run w l).es[j].c] = (run w l).es[j] := by congr 1
    rw [hE]; exact ⟨rfl, ht⟩
/-- The rounds end. -/
theorem Rd.lt {cu : List (List Int)} {w n r : Nat} {l : List Ev} (h : Rd cu w n r l) : r ≤ 15 := by
  have h1 := h.pot
  have h2 := done_le (run w l).es
  have h3 := tri_ge (run w l).es.length
  omega
/-- What ends the law. -/
theorem Rd.last {cu : List (List Int)} {w n r : Nat} {l : List Ev} (h : Rd cu w n r l) (he : (run w l).es = []) : (run w l).la.map (fun x => x - 1) = G cu n ∧ (run w l).la.length + (run w l).re.length = n := by
  obtain ⟨m, hS⟩ := h.st
  exact Mq.last cu w n m _ hS he
/-- Some test runs. -/
theorem Rd.runs {cu : List (List Int)} {w n r : Nat} {l : List Ev} (h : Rd cu w n r l) (hw : 1 ≤ w) (he : 0 < (run w l).es.length) : (run w l).es[0].t = true := by
  obtain ⟨m, hS⟩ := h.st
  have h1 := hS.hd he
  have h2 := hS.act 0 he hw
  cases ht : (run w l).es[0].t
  · exact absurd ⟨ht, h1.1, h1.2⟩ h2
  · rfl
/-- What the law tests is a strictly increasing list. -/
theorem setF_ok (n : Nat) (la a : List Int) (c : Int) : (∀ x ∈ setF n la a c, 0 ≤ x ∧ x < n) ∧ (setF n la a c).Pairwise (· < ·) := by
  unfold setF
  refine ⟨fun x hx => ?_, ?_⟩
  · obtain ⟨i, hi, rfl⟩ := List.mem_map.1 hx
    have := List.mem_range.1 (List.mem_filter.1 hi).1
    omega
  · rw [List.pairwise_map]
    exact (List.pairwise_lt_range.filter _).imp fun h => by omega
end Mq
