/-
  The merge queue and the greedy acceptance, in plain Lean; the law of the queue.
-/
namespace Mq
/-- Some set of culprits lies in a set. -/
def bad (cu : List (List Int)) (s : List Int) : Bool := cu.any fun c => c.all fun k => s.contains k
/-- What is accepted of the first m changes. -/
def G (cu : List (List Int)) : Nat → List Int
  | 0 => []
  | m + 1 => if bad cu (G cu m ++ [(m : Int)]) = true then G cu m else G cu m ++ [(m : Int)]
/-- An entry of the queue. -/
structure E where
  c : Int
  t : Bool
  p : Bool
  f : Bool
  a : List Int
structure Q where
  es : List E
  la : List Int
  re : List Int
def disc (e : E) : E := ⟨e.c, false, false, false, []⟩
def drop1 (c : Int) (e : E) : E := ⟨e.c, e.t, e.p, e.f, e.a.filter fun n => !(n == c)⟩
/-- The first entries land or are rejected. -/
def setl : Nat → List E → List Int → List Int → Q
  | 0, es, la, re => ⟨es, la, re⟩
  | _ + 1, [], la, re => ⟨[], la, re⟩
  | k + 1, e :: es, la, re => if e.p = true ∨ e.f = true then (if e.f = true then setl k (es.map disc) la (re ++ [e.c]) else setl k (es.map (drop1 e.c)) (la ++ [e.c]) re) else ⟨e :: es, la, re⟩
/-- A test starts. -/
def start (e : E) (a : List Int) : E := if e.t = false ∧ e.p = false ∧ e.f = false then ⟨e.c, true, false, false, a⟩ else e
/-- Tests start. -/
def fill : Nat → List E → List Int → List E
  | 0, es, _ => es
  | _ + 1, [], _ => []
  | w + 1, e :: es, a => start e a :: fill w es (a ++ [e.c])
def settle (w : Nat) (es : List E) (la re : List Int) : Q :=
  ⟨fill w (setl es.length es la re).es [], (setl es.length es la re).la, (setl es.length es la re).re⟩
/-- A verdict. -/
def verd (pass : Bool) (e : E) : E := ⟨e.c, false, pass, !pass, e.a⟩
def vset (pass : Bool) (es : List E) (k : Nat) : List E := match es[k]? with
  | none => es
  | some e => es.set k (verd pass e)
structure Ev where
  kind : Int
  c : Int
/-- The place of a change. -/
def find (es : List E) (c : Int) : Nat := es.findIdx fun e => e.c == c
def step (w : Nat) (q : Q) (v : Ev) : Q :=
  if v.kind = 1 then settle w (q.es ++ [⟨v.c, false, false, false, []⟩]) q.la q.re
  else settle w (vset (v.kind == 3) q.es (find q.es v.c)) q.la q.re
def run (w : Nat) (l : List Ev) : Q := l.foldl (step w) ⟨[], [], []⟩
theorem run_snoc (w : Nat) (l : List Ev) (v : Ev) : run w (l ++ [v]) = step w (run w l) v := by unfold run; rw [List.foldl_append]; rfl
/-- The changes ahead of place j, when m are done. -/
def ahead (m j : Nat) : List Int := (List.range j).map fun (i : Nat) => ((m + i + 1 : Nat) : Int)
/-- What is tested at place j. -/
def tset (cu : List (List Int)) (m j : Nat) : List Int := G cu m ++ (List.range (j + 1)).map fun (i : Nat) => ((m + i : Nat) : Int)
/-- An entry at place j. -/
def EOk (cu : List (List Int)) (m j : Nat) (e : E) : Prop :=
  e.c = ((m + j + 1 : Nat) : Int) ∧ ((e.t = false ∧ e.p = false ∧ e.f = false ∧ e.a = []) ∨ (e.a = ahead m j ∧ ((e.t = true ∧ e.p = false ∧ e.f = false) ∨
    (e.t = false ∧ e.p = true ∧ e.f = false ∧ bad cu (tset cu m j) = false) ∨ (e.t = false ∧ e.p = false ∧ e.f = true ∧ bad cu (tset cu m j) = true))))
/-- The queue when m are done of n. -/
structure Inv (cu : List (List Int)) (n m : Nat) (es : List E) (la re : List Int) : Prop where
  mn : m + es.length = n
  lan : la = (G cu m).map (· + 1)
  cnt : la.length + re.length = m
  ok : ∀ j (h : j < es.length), EOk cu m j es[j]
theorem ahead_next (m j : Nat) : (ahead m (j + 1)).filter (fun n => !(n == ((m + 1 : Nat) : Int))) = ahead (m + 1) j := by
  unfold ahead
  rw [List.range_succ_eq_map, List.map_cons, List.map_map, List.filter_cons]
  rw [if_neg (by simp)]
  rw [List.filter_eq_self.2]
  · apply List.map_congr_left
    intro x _
    show ((m + Nat.succ x + 1 : Nat) : Int) = ((m + 1 + x + 1 : Nat) : Int)
    congr 1; omega
  · intro a ha
    obtain ⟨x, _, rfl⟩ := List.mem_map.1 ha
    show (!(((m + Nat.succ x + 1 : Nat) : Int) == ((m + 1 : Nat) : Int))) = true
    rw [Bool.not_eq_true', beq_eq_false_iff_ne]; omega
theorem tset_next (cu : List (List Int)) (m j : Nat) (h : bad cu (tset cu m 0) = false) : tset cu (m + 1) j = tset cu m (j + 1) := by
  have e : G cu (m + 1) = G cu m ++ [(m : Int)] := by
    rw [G, if_neg]
    rw [show G cu m ++ [(m : Int)] = tset cu m 0 from by simp [tset], h]; simp
  unfold tset
  rw [e, List.range_succ_eq_map (n := j + 1), List.map_cons, List.map_map, List.append_assoc]
  congr 1
  show (m : Int) :: _ = _
  congr 1
  apply List.map_congr_left
  intro x _
  show ((m + 1 + x : Nat) : Int) = ((m + Nat.succ x : Nat) : Int)
  congr 1; omega
theorem setl_inv (cu : List (List Int)) (n : Nat) : ∀ (k m : Nat) (es : List E) (la re : List Int), Inv cu n m es la re → es.length ≤ k →
    ∃ m', Inv cu n m' (setl k es la re).es (setl k es la re).la (setl k es la re).re ∧ ∀ h : 0 < (setl k es la re).es.length, (setl k es la re).es[0].p = false ∧ (setl k es la re).es[0].f = false
  | 0, m, es, la, re, hI, hk => ⟨m, hI, fun h => absurd h (by show ¬ 0 < es.length; omega)⟩
  | k + 1, m, [], la, re, hI, _ => ⟨m, hI, fun h => absurd h (by simp [setl])⟩
  | k + 1, m, e :: es, la, re, hI, hk => by
    have h0 : EOk cu m 0 e := hI.ok 0 (by simp)
    have hs := hI.mn
    have hc := hI.cnt
    simp only [List.length_cons] at hs hk
    have hs1 : ∀ j (h : j < es.length), EOk cu m (j + 1) es[j] := fun j h => hI.ok (j + 1) (by simp; omega)
    rw [setl]
    by_cases hpf : e.p = true ∨ e.f = true
    · rw [if_pos hpf]
      by_cases hf : e.f = true
      · rw [if_pos hf]
        have hb : bad cu (tset cu m 0) = true := by
          rcases h0.2 with h | ⟨_, h | h | h⟩
          · rw [h.2.2.1] at hf; cases hf
          · rw [h.2.2] at hf; cases hf
          · rw [h.2.2.1] at hf; cases hf
          · exact h.2.2.2
        refine setl_inv cu n k (m + 1) _ _ _ ⟨by simp; omega, ?_, by simp; omega, fun j h => ?_⟩ (by simp; omega)
        · rw [hI.lan, G, if_pos]
          rw [show G cu m ++ [(m : Int)] = tset cu m 0 from by simp [tset]]; exact hb
        · have h' : j < es.length := by simpa using h
          rw [List.getElem_map]
          refine ⟨?_, .inl ⟨rfl, rfl, rfl, rfl⟩⟩
          show es[j].c = _
          rw [(hs1 j h').1]; congr 1; omega
      · rw [if_neg hf]
        have hp : e.p = true := hpf.resolve_right hf
        have hb : bad cu (tset cu m 0) = false := by
          rcases h0.2 with h | ⟨_, h | h | h⟩
          · rw [h.2.1] at hp; cases hp
          · rw [h.2.1] at hp; cases hp
          · exact h.2.2.2
          · rw [h.2.1] at hp; cases hp
        have hec : e.c = ((m + 1 : Nat) : Int) := h0.1
        refine setl_inv cu n k (m + 1) _ _ _ ⟨by simp; omega, ?_, by simp; omega, fun j h => ?_⟩ (by simp; omega)
        · rw [hI.lan, G, if_neg]
          · rw [List.map_append, hec]; rfl
          · rw [show G cu m ++ [(m : Int)] = tset cu m 0 from by simp [tset], hb]; simp
        · have h' : j < es.length := by simpa using h
          rw [List.getElem_map]
          obtain ⟨g1, g2⟩ := hs1 j h'
          refine ⟨?_, ?_⟩
          · show es[j].c = _
            rw [g1]; congr 1; omega
          · rw [tset_next cu m j hb]
            have hfa : (drop1 e.c es[j]).a = es[j].a.filter fun n => !(n == ((m + 1 : Nat) : Int)) := by unfold drop1; rw [hec]
            rcases g2 with g | ⟨ga, g⟩
            · exact .inl ⟨g.1, g.2.1, g.2.2.1, by rw [hfa, g.2.2.2]; rfl⟩
            · exact .inr ⟨by rw [hfa, ga, ahead_next], g⟩
    · rw [if_neg hpf]
      refine ⟨m, hI, fun _ => ?_⟩
      show e.p = false ∧ e.f = false
      cases hp : e.p <;> cases hf : e.f <;> simp_all
theorem fill_len : ∀ (w : Nat) (es : List E) (a : List Int), (fill w es a).length = es.length
  | 0, es, a => rfl
  | w + 1, [], a => rfl
  | w + 1, e :: es, a => by rw [fill, List.length_cons, List.length_cons, fill_len w es]
theorem fill_at : ∀ (w : Nat) (es : List E) (a : List Int) (j : Nat) (h : j < (fill w es a).length) (h' : j < es.length), (fill w es a)[j] = if j < w then start es[j] (a ++ (es.take j).map (·.c)) else es[j]
  | 0, es, a, j, h, h' => by rw [if_neg (by omega)]; rfl
  | w + 1, [], a, j, h, h' => absurd h' (by simp)
  | w + 1, e :: es, a, 0, h, h' => by rw [if_pos (by omega)]; simp [fill]
  | w + 1, e :: es, a, j + 1, h, h' => by
    have h2 : j < es.length := by simpa using h'
    show (fill w es (a ++ [e.c]))[j]'(by rw [fill_len]; exact h2) = _
    rw [fill_at w es (a ++ [e.c]) j _ h2]
    by_cases hj : j < w
    · rw [if_pos hj, if_pos (by omega)]; simp
    · rw [if_neg hj, if_neg (by omega)]; rfl
theorem take_c (cu : List (List Int)) (m : Nat) (es : List E) (h : ∀ j (h : j < es.length), EOk cu m j es[j]) (j : Nat) (hj : j ≤ es.length) : (es.take j).map (·.c) = ahead m j := by
  apply List.ext_getElem
  · simp [ahead]; omega
  · intro i h1 h2
    have hi : i < j := by simp at h1; omega
    rw [List.getElem_map, List.getElem_take, (h i (by omega)).1]
    simp [ahead]
/-- A settled queue. -/
structure Set (cu : List (List Int)) (w n m : Nat) (q : Q) : Prop where
  inv : Inv cu n m q.es q.la q.re
  hd : ∀ h : 0 < q.es.length, q.es[0].p = false ∧ q.es[0].f = false
  act : ∀ j (h : j < q.es.length), j < w → ¬ (q.es[j].t = false ∧ q.es[j].p = false ∧ q.es[j].f = false)
theorem settle_set (cu : List (List Int)) (w n m : Nat) (es : List E) (la re : List Int) (h : Inv cu n m es la re) : ∃ m', Set cu w n m' (settle w es la re) := by
  obtain ⟨m', hI, h0⟩ := setl_inv cu n es.length m es la re h (Nat.le_refl _)
  unfold settle
  generalize setl es.length es la re = q at *
  have hat : ∀ j (h : j < (fill w q.es []).length), ∃ h' : j < q.es.length, (fill w q.es [])[j] = if j < w then start q.es[j] (ahead m' j) else q.es[j] := by
    intro j h
    have h' : j < q.es.length := by rw [fill_len] at h; exact h
    refine ⟨h', ?_⟩
    rw [fill_at w q.es [] j h h', List.nil_append, take_c cu m' q.es hI.ok j (by omega)]
  refine ⟨m', ⟨⟨by rw [fill_len]; exact hI.mn, hI.lan, hI.cnt, fun j h => ?_⟩, fun h => ?_, fun j h hw => ?_⟩⟩
  · obtain ⟨h', e⟩ := hat j h
    rw [e]
    obtain ⟨g1, g2⟩ := hI.ok j h'
    by_cases hw : j < w
    · rw [if_pos hw]
      unfold start
      by_cases hn : q.es[j].t = false ∧ q.es[j].p = false ∧ q.es[j].f = false
      · rw [if_pos hn]; exact ⟨g1, .inr ⟨rfl, .inl ⟨rfl, rfl, rfl⟩⟩⟩
      · rw [if_neg hn]; exact ⟨g1, g2⟩
    · rw [if_neg hw]; exact ⟨g1, g2⟩
  · obtain ⟨h', e⟩ := hat 0 h
    show (fill w q.es [])[0].p = false ∧ (fill w q.es [])[0].f = false
    rw [e]
    by_cases hw : 0 < w
    · rw [if_pos hw]
      unfold start
      by_cases hn : q.es[0].t = false ∧ q.es[0].p = false ∧ q.es[0].f = false
      · rw [if_pos hn]; exact ⟨rfl, rfl⟩
      · rw [if_neg hn]; exact h0 h'
    · rw [if_neg hw]; exact h0 h'
  · obtain ⟨h', e⟩ := hat j h
    show ¬ ((fill w q.es [])[j].t = false ∧ (fill w q.es [])[j].p = false ∧ (fill w q.es [])[j].f = false)
    rw [e, if_pos hw]
    unfold start
    by_cases hn : q.es[j].t = false ∧ q.es[j].p = false ∧ q.es[j].f = false
    · rw [if_pos hn]; simp
    · rw [if_neg hn]; exact hn
end Mq
