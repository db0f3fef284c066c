/-
  The merge queue: how the memory of a queue goes through an operation.
-/
import Derived.Test.YtinebbleilnejaaMq9
import Derived.Test.YtinebbleilnejaaView14
namespace Go.Proofs.Ytinebbleilnejaa
open Go.RowKit Go.V
set_option linter.unusedVariables false
theorem own_apart {B B' : Nat} {w w2 : World} {e : TypeId} {size n : Nat} {v u : Value} {xs : List Value} (h : w.ownsRow B e size v n xs) (hg : w.grownBy w2 u.ownBlock) (ha : ∀ g, v.ownBlock = some g → u.ownBlock ≠ some g) : w2.ownsRow B e size v n xs := by
  refine h.kept hg ?_
  rcases hv : v.ownBlock with _ | g
  · exact .inl rfl
  · exact .inr fun e => ha g hv e.symm
theorem sp_head {a : Value} {vs : List Value} (h : Sp (a :: vs)) : ∀ b ∈ vs, ∀ g, a.ownBlock = some g → b.ownBlock ≠ some g := (List.pairwise_cons.1 h).1
/-- A row takes the place of another: it lies there, or in a new block. -/
theorem sp_swap {a a' : Value} {vs : List Value} {H : Nat} (h : Sp (a :: vs)) (h1 : a'.ownBlock = a.ownBlock ∨ a'.ownBlock = some H ∨ a'.ownBlock = none) (h2 : ∀ b ∈ vs, ∀ g, b.ownBlock = some g → g < H) : Sp (a' :: vs) := by
  obtain ⟨h3, h4⟩ := List.pairwise_cons.1 h
  refine List.pairwise_cons.2 ⟨fun b hb g hg e => ?_, h4⟩
  rcases h1 with h1 | h1 | h1
  · exact h3 b hb g (h1 ▸ hg) e
  · rw [h1] at hg; injection hg with hg; subst hg; have := h2 b hb _ e; omega
  · rw [h1] at hg; cases hg
theorem sp_rot {a b : Value} {vs : List Value} (h : Sp (a :: b :: vs)) : Sp (b :: a :: vs) := by
  obtain ⟨h1, h2⟩ := List.pairwise_cons.1 h
  obtain ⟨h3, h4⟩ := List.pairwise_cons.1 h2
  refine List.pairwise_cons.2 ⟨fun c hc g hg e => ?_, List.pairwise_cons.2 ⟨fun c hc => h1 c (by simp [hc]), h4⟩⟩
  rcases List.mem_cons.1 hc with rfl | hc
  · exact h1 b (by simp) g e hg
  · exact h3 c hc g hg e
section
variable {B : Nat} {wr w2 : World} {gQ : Nat} {win : Int} {ve vl vr : Value} {L : List (Mq.E × Value)} {la re : List Int}
/-- The rejected ones have grown. -/
theorem QS.putR (h : QS B wr gQ win ve L vl vr la re) {vr' : Value} {re' : List Int} {H : Nat} (hg : wr.grownBy w2 vr.ownBlock) (ho : IR B w2 vr' re') (hb : vr'.ownBlock = vr.ownBlock ∨ vr'.ownBlock = some H) (hH : wr.heap.size ≤ H) :
    QS B (w2.setCell ⟨gQ, 2, none⟩ vr') gQ win ve L vl vr' la re' := by
  have hqn : vr.ownBlock ≠ some gQ := fun e => own_blk_ne h.r h.q (by decide) e.symm
  have bq : Blk w2 gQ 56 #[ve, vl, vr, .int .i64 win] := h.q.grown hg (fun e => hqn e.symm)
  have bq2 : Blk (w2.setCell ⟨gQ, 2, none⟩ vr') gQ 56 #[ve, vl, vr', .int .i64 win] := by simpa using bq.set_ 2 vr'
  have hset : ∀ {e : TypeId} {size n : Nat} {v : Value} {xs : List Value}, w2.ownsRow B e size v n xs → e ≠ 56 → (w2.setCell ⟨gQ, 2, none⟩ vr').ownsRow B e size v n xs := fun hh he => own_setCell hh (own_blk_ne hh bq he) _
  have hsr := sp_rot h.sp
  have hap : ∀ b ∈ vl :: L.map (·.2), ∀ g, b.ownBlock = some g → vr.ownBlock ≠ some g := fun b hb' g hg' e => sp_head hsr b hb' g e hg'
  refine ⟨bq2, h.hq, hset (own_apart (B' := B) h.e hg (fun g hg' e => ?_)) (by decide), hset (own_apart (B' := B) h.l hg (hap vl (by simp))) (by decide), hset ho (by decide), fun j hj => hset (own_apart (B' := B) (h.a j hj) hg (hap _ (by simp; exact .inr ⟨_, L.getElem_mem hj⟩))) (by decide), ?_⟩
  · obtain ⟨g', c', cur, e1, _, e3, _⟩ := own_some h.e (by
      rcases h.e.2 with ⟨e0, _⟩ | ⟨g', c', cur, e1, _, _, _⟩
      · rw [e0] at hg'; cases hg'
      · rcases Nat.eq_zero_or_pos L.length with h0 | h0
        · exfalso
          rw [e1] at hg'
          injection hg' with hg'
          rename_i hbk _
          have hbk' : Blk wr g' 38 cur := hbk
          exact own_blk_ne h.r hbk' (by decide) (by rw [e, ← hg'])
        · exact h0)
    rw [e1] at hg'
    injection hg' with hg'
    exact own_blk_ne h.r e3 (by decide) (by rw [e, ← hg'])
  · have hlt : ∀ b ∈ vl :: L.map (·.2), ∀ g, b.ownBlock = some g → g < H := by
      intro b hb' g hg'
      rcases List.mem_cons.1 hb' with rfl | hb'
      · exact Nat.lt_of_lt_of_le (h.l.lt g hg').2 hH
      · obtain ⟨x, hx, rfl⟩ := List.mem_map.1 hb'
        obtain ⟨j, hj, rfl⟩ := List.getElem_of_mem hx
        exact Nat.lt_of_lt_of_le ((h.a j hj).lt g hg').2 hH
    exact sp_rot (sp_swap hsr (hb.elim .inl fun h => .inr (.inl h)) hlt)
/-- The landed ones have grown. -/
theorem QS.putL (h : QS B wr gQ win ve L vl vr la re) {vl' : Value} {la' : List Int} {H : Nat} (hg : wr.grownBy w2 vl.ownBlock) (ho : IR B w2 vl' la') (hb : vl'.ownBlock = vl.ownBlock ∨ vl'.ownBlock = some H) (hH : wr.heap.size ≤ H) :
    QS B (w2.setCell ⟨gQ, 1, none⟩ vl') gQ win ve L vl' vr la' re := by
  have hqn : vl.ownBlock ≠ some gQ := fun e => own_blk_ne h.l h.q (by decide) e.symm
  have bq : Blk w2 gQ 56 #[ve, vl, vr, .int .i64 win] := h.q.grown hg (fun e => hqn e.symm)
  have bq2 : Blk (w2.setCell ⟨gQ, 1, none⟩ vl') gQ 56 #[ve, vl', vr, .int .i64 win] := by simpa using bq.set_ 1 vl'
  have hset : ∀ {e : TypeId} {size n : Nat} {v : Value} {xs : List Value}, w2.ownsRow B e size v n xs → e ≠ 56 → (w2.setCell ⟨gQ, 1, none⟩ vl').ownsRow B e size v n xs := fun hh he => own_setCell hh (own_blk_ne hh bq he) _
  have hap : ∀ b ∈ vr :: L.map (·.2), ∀ g, b.ownBlock = some g → vl.ownBlock ≠ some g := fun b hb' g hg' e => sp_head h.sp b hb' g e hg'
  refine ⟨bq2, h.hq, hset (own_apart (B' := B) h.e hg (fun g hg' e => ?_)) (by decide), hset ho (by decide), hset (own_apart (B' := B) h.r hg (hap vr (by simp))) (by decide), fun j hj => hset (own_apart (B' := B) (h.a j hj) hg (hap _ (by simp; exact .inr ⟨_, L.getElem_mem hj⟩))) (by decide), ?_⟩
  · rcases own_ne_own h.e h.l (by decide) with h0 | h0
    · rw [h0] at hg'; cases hg'
    · exact h0 (hg'.trans e.symm)
  · have hlt : ∀ b ∈ vr :: L.map (·.2), ∀ g, b.ownBlock = some g → g < H := by
      intro b hb' g hg'
      rcases List.mem_cons.1 hb' with rfl | hb'
      · exact Nat.lt_of_lt_of_le (h.r.lt g hg').2 hH
      · obtain ⟨x, hx, rfl⟩ := List.mem_map.1 hb'
        obtain ⟨j, hj, rfl⟩ := List.getElem_of_mem hx
        exact Nat.lt_of_lt_of_le ((h.a j hj).lt g hg').2 hH
    exact sp_swap h.sp (hb.elim .inl fun h => .inr (.inl h)) hlt
theorem sp_put {H : Nat} {v' : Value} : ∀ (vs : List Value) (p : Nat), Sp vs → (v'.ownBlock = none ∨ v'.ownBlock = some H ∨ ∃ h : p < vs.length, v'.ownBlock = vs[p].ownBlock) → (∀ b ∈ vs, ∀ g, b.ownBlock = some g → g < H) → Sp (vs.set p v')
  | [], p, h, _, _ => by simpa using h
  | v :: vs, 0, h, h1, h2 => by
    refine sp_swap (H := H) h ?_ (fun b hb => h2 b (by simp [hb]))
    rcases h1 with h1 | h1 | ⟨_, h1⟩
    · exact .inr (.inr h1)
    · exact .inr (.inl h1)
    · exact .inl h1
  | v :: vs, p + 1, h, h1, h2 => by
    obtain ⟨h3, h4⟩ := List.pairwise_cons.1 h
    have ih := sp_put vs p h4 (by
      rcases h1 with h1 | h1 | ⟨h0, h1⟩
      · exact .inl h1
      · exact .inr (.inl h1)
      · exact .inr (.inr ⟨by simpa using h0, by simpa using h1⟩)) (fun b hb => h2 b (by simp [hb]))
    refine List.pairwise_cons.2 ⟨fun b hb g hg e => ?_, ih⟩
    rcases List.mem_or_eq_of_mem_set hb with hb | hb
    · exact h3 b hb g hg e
    · subst hb
      rcases h1 with h1 | h1 | ⟨h0, h1⟩
      · rw [h1] at e; cases e
      · rw [h1] at e; injection e with e; subst e; have := h2 v (by simp) _ hg; omega
      · rw [h1] at e
        exact h3 (vs[p]'(by simpa using h0)) (List.getElem_mem _) g hg (by simpa using e)
theorem sp_ne {vs : List Value} (h : Sp vs) {i j : Nat} (hi : i < vs.length) (hj : j < vs.length) (hne : i ≠ j) : ∀ g, vs[i].ownBlock = some g → vs[j].ownBlock ≠ some g := by
  have hp := List.pairwise_iff_getElem.1 h
  intro g hg e
  rcases Nat.lt_or_ge i j with hlt | hge
  · exact hp i j hi hj hlt g hg e
  · exact hp j i hj hi (by omega) g e hg
/-- The list of an entry is another one, in its block or in a new one. -/
theorem QS.putA {g c : Nat} (h : QS B wr gQ win (.slice (some ⟨g, 0, none⟩) L.length c) L vl vr la re) (j : Nat) (hj : j < L.length) {v' : Value} {a' : List Int} {H : Nat} (hg : wr.grownBy w2 L[j].2.ownBlock) (ho : IR B w2 v' a')
    (hb : v'.ownBlock = L[j].2.ownBlock ∨ v'.ownBlock = some H ∨ v'.ownBlock = none) (hH : wr.heap.size ≤ H) :
    QS B (w2.setCell ⟨g, j * 6 + 5, none⟩ v') gQ win (.slice (some ⟨g, 0, none⟩) L.length c) (L.set j (⟨L[j].1.c, L[j].1.t, L[j].1.p, L[j].1.f, a'⟩, v')) vl vr la re := by
  obtain ⟨⟨y, yv⟩, hy⟩ : ∃ y, L[j] = y := ⟨_, rfl⟩
  have haj := h.a j hj
  rw [hy] at hg hb haj ⊢
  simp only at hg hb haj ⊢
  have hqn : yv.ownBlock ≠ some gQ := fun e => own_blk_ne haj h.q (by decide) e.symm
  have bq := h.q.grown hg (fun e => hqn e.symm)
  have heq : ∀ g', (Value.slice (some ⟨g, 0, none⟩) L.length c).ownBlock = some g' → yv.ownBlock ≠ some g' := fun g' hg' e => by
    rcases own_ne_own h.e haj (by decide) with h0 | h0
    · rw [h0] at hg'; cases hg'
    · exact h0 (hg'.trans e.symm)
  have he2 := own_apart (B' := B) h.e hg heq
  obtain ⟨g', c', cur, e1, _, e3, _⟩ := own_some he2 (by omega)
  injection e1 with e1 _ _
  injection e1 with e1
  injection e1 with e1 _ _
  subst e1
  have hgq : gQ ≠ g := fun e => Blk.ne_ e3 bq (by decide) e.symm
  have hset : ∀ {v : Value} {l : List Int}, IR B w2 v l → IR B (w2.setCell ⟨g, j * 6 + 5, none⟩ v') v l := fun hh => ir_set hh e3 (by decide) _
  have hlen : (L.set j (⟨y.c, y.t, y.p, y.f, a'⟩, v')).length = L.length := by simp
  have hsp := h.sp
  have hnv : ∀ (k : Nat) (hk : k < (vl :: vr :: L.map (·.2)).length), k ≠ j + 2 → ∀ g, (vl :: vr :: L.map (·.2))[k].ownBlock = some g → yv.ownBlock ≠ some g := fun k hk hne g hg' => by
    have := sp_ne hsp hk (by simp; omega : j + 2 < (vl :: vr :: L.map (·.2)).length) hne g hg'
    simpa [hy] using this
  have hrow := own_put he2 (j * 6 + 5) v' (by rw [flat_len]; omega)
  rw [flat_set L j 5 hj (by omega) _ (⟨y.c, y.t, y.p, y.f, a'⟩, v') (by rw [hy]; rfl)] at hrow
  refine ⟨bq.far hgq _, h.hq, by rw [hlen]; exact hrow, hset (own_apart (B' := B) h.l hg (hnv 0 (by simp) (by omega))), hset (own_apart (B' := B) h.r hg (hnv 1 (by simp) (by omega))), fun k hk => ?_, ?_⟩
  · have hk' : k < L.length := by simpa using hk
    rw [List.getElem_set]
    by_cases e : j = k
    · rw [if_pos e]; exact hset ho
    · rw [if_neg e]
      refine hset (own_apart (B' := B) (h.a k hk') hg ?_)
      have := hnv (k + 2) (by simp; omega) (by omega)
      simpa using this
  · rw [List.map_set]
    refine sp_put (H := H) (vl :: vr :: L.map (·.2)) (j + 2) hsp ?_ ?_
    · rcases hb with hb | hb | hb
      · exact .inr (.inr ⟨by simp; omega, by simpa [hy] using hb⟩)
      · exact .inr (.inl hb)
      · exact .inl hb
    · intro b hb' g' hg'
      rcases List.mem_cons.1 hb' with rfl | hb'
      · exact Nat.lt_of_lt_of_le (h.l.lt g' hg').2 hH
      · rcases List.mem_cons.1 hb' with rfl | hb'
        · exact Nat.lt_of_lt_of_le (h.r.lt g' hg').2 hH
        · obtain ⟨x, hx, rfl⟩ := List.mem_map.1 hb'
          obtain ⟨k, hk, rfl⟩ := List.getElem_of_mem hx
          exact Nat.lt_of_lt_of_le ((h.a k hk).lt g' hg').2 hH
/-- The list of an entry is another one, which lies apart from all others. -/
theorem QS.putA2 {g c : Nat} (h : QS B wr gQ win (.slice (some ⟨g, 0, none⟩) L.length c) L vl vr la re) (j : Nat) (hj : j < L.length) {v' : Value} {a' : List Int} (ho : IR B wr v' a')
    (hap : ∀ b ∈ vl :: vr :: L.map (·.2), ∀ g, b.ownBlock = some g → v'.ownBlock ≠ some g) :
    QS B (wr.setCell ⟨g, j * 6 + 5, none⟩ v') gQ win (.slice (some ⟨g, 0, none⟩) L.length c) (L.set j (⟨L[j].1.c, L[j].1.t, L[j].1.p, L[j].1.f, a'⟩, v')) vl vr la re := by
  obtain ⟨⟨y, yv⟩, hy⟩ : ∃ y, L[j] = y := ⟨_, rfl⟩
  rw [hy]
  obtain ⟨g', c', cur, e1, _, e3, _⟩ := own_some h.e (by omega)
  injection e1 with e1 _ _
  injection e1 with e1
  injection e1 with e1 _ _
  subst e1
  have hgq : gQ ≠ g := fun e => Blk.ne_ e3 h.q (by decide) e.symm
  have hset : ∀ {v : Value} {l : List Int}, IR B wr v l → IR B (wr.setCell ⟨g, j * 6 + 5, none⟩ v') v l := fun hh => ir_set hh e3 (by decide) _
  have hlen : (L.set j (⟨y.c, y.t, y.p, y.f, a'⟩, v')).length = L.length := by simp
  have hrow := own_put h.e (j * 6 + 5) v' (by rw [flat_len]; omega)
  rw [flat_set L j 5 hj (by omega) _ (⟨y.c, y.t, y.p, y.f, a'⟩, v') (by rw [hy]; rfl)] at hrow
  refine ⟨h.q.far hgq _, h.hq, by rw [hlen]; exact hrow, hset h.l, hset h.r, fun k hk => ?_, ?_⟩
  · have hk' : k < L.length := by simpa using hk
    rw [List.getElem_set]
    by_cases e : j = k
    · rw [if_pos e]; exact hset ho
    · rw [if_neg e]; exact hset (h.a k hk')
  · rw [List.map_set]
    have key : ∀ (vs : List Value) (p : Nat), Sp vs → (∀ b ∈ vs, ∀ g, b.ownBlock = some g → v'.ownBlock ≠ some g) → Sp (vs.set p v') := by
      intro vs
      induction vs with
      | nil => intro p h _; simpa using h
      | cons v vs ih =>
        intro p h h2
        obtain ⟨h3, h4⟩ := List.pairwise_cons.1 h
        cases p with
        | zero => exact List.pairwise_cons.2 ⟨fun b hb g hg e => h2 b (by simp [hb]) g e hg, h4⟩
        | succ p =>
          refine List.pairwise_cons.2 ⟨fun b hb g hg e => ?_, ih p h4 (fun b hb => h2 b (by simp [hb]))⟩
          rcases List.mem_or_eq_of_mem_set hb with hb | hb
          · exact h3 b hb g hg e
          · subst hb; exact h2 v (by simp) g hg e
    exact key (vl :: vr :: L.map (·.2)) (j + 2) h.sp hap
/-- A bool of an entry is put anew. -/
theorem QS.putF {g c : Nat} (h : QS B wr gQ win (.slice (some ⟨g, 0, none⟩) L.length c) L vl vr la re) (j f : Nat) (hj : j < L.length) (hf : f < 6) (u : Value) (y : Mq.E) (hy : cellsOf (y, L[j].2) = (cellsOf L[j]).set f u) (hya : y.a = L[j].1.a) :
    QS B (wr.setCell ⟨g, j * 6 + f, none⟩ u) gQ win (.slice (some ⟨g, 0, none⟩) L.length c) (L.set j (y, L[j].2)) vl vr la re := by
  obtain ⟨g', c', cur, e1, _, e3, _⟩ := own_some h.e (by omega)
  injection e1 with e1 _ _
  injection e1 with e1
  injection e1 with e1 _ _
  subst e1
  have hgq : gQ ≠ g := fun e => Blk.ne_ e3 h.q (by decide) e.symm
  have hlen : (L.set j (y, L[j].2)).length = L.length := by simp
  have hrow := own_put h.e (j * 6 + f) u (by rw [flat_len]; omega)
  rw [flat_set L j f hj hf _ (y, L[j].2) hy] at hrow
  have hset : ∀ {v : Value} {l : List Int}, IR B wr v l → IR B (wr.setCell ⟨g, j * 6 + f, none⟩ u) v l := fun hh => ir_set hh e3 (by decide) _
  refine ⟨h.q.far hgq _, h.hq, by rw [hlen]; exact hrow, hset h.l, hset h.r, fun k hk => ?_, ?_⟩
  · have hk' : k < L.length := by simpa using hk
    rw [List.getElem_set]
    by_cases e : j = k
    · subst e
      rw [if_pos rfl]
      have := hset (h.a j hj)
      show IR B _ L[j].2 y.a
      rw [hya]; exact this
    · rw [if_neg e]; exact hset (h.a k hk')
  · have e : (L.set j (y, L[j].2)).map (·.2) = L.map (·.2) := by
      rw [List.map_set]
      have : (L.map (·.2)).set j (L[j].2) = L.map (·.2) := by
        have h2 : (L.map (·.2))[j]'(by simpa using hj) = L[j].2 := by simp
        rw [← h2, List.set_getElem_self]
      exact this
    rw [e]; exact h.sp
end
end Go.Proofs.Ytinebbleilnejaa
