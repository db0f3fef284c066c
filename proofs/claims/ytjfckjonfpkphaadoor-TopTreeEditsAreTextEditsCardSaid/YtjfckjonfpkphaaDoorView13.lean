/-
  Views, thirteenth part: opening slices of elements of any shape, and structs by value.
-/
import Derived.Test.YtjfckjonfpkphaaDoorView4
import Derived.Test.YtjfckjonfpkphaaDoorView9
import Derived.Test.YtjfckjonfpkphaaDoorView10
import Derived.Deep.Strs
namespace Go.V
open Go.RowKit Go.ChangeShapes Go.WideShapes Go.ChangeAt Go.Deep

section
variable {H : Type} {enc : TypeId × Value → H} {P : Program} {w : World} {base : Nat} {spare : Nat → Bool} {held : Bool}
/-- A slice of elements of k cells, element by element. -/
theorem open_rowsG {α : Type} {R : α → List Value → Prop} {t e : TypeId} {k : Nat} {fuel : Nat} {cs : List Value} {x : DataW H × List MemPlace} (ht : P.underlying t = some (.slice e))
    (hC : P.cellsOf e = k) (h0 : 0 < k) (h : DataW.trod enc P w base spare held fuel t cs = some x) (hz : ∀ n ∈ x.1.weights P t, n ≤ reachBytes)
    (hR : ∀ (cs' : List Value) (n : Nat) (y : DataW H × List MemPlace), cs'.length = k → DataW.trod enc P w base spare held n e cs' = some y → (∀ m ∈ y.1.weights P e, m ≤ reachBytes) → ∃ a, R a cs') :
    ∃ A c l vs, cs = [.slice A l.length c] ∧ l.length ≤ c ∧ c ≤ maxLen ∧ l.length * P.bytesOf e ≤ reachBytes ∧ SV w w.heap.size A vs ∧ RowsR R l vs := by
  rcases open_slice ht h with ⟨rfl, _⟩ | ⟨a, len, cap, m, n, D, Pl, rfl, hb, hl, hm, hmm, hx, hi⟩
  · exact ⟨none, 0, [], [], rfl, Nat.le_refl _, by simp [maxLen], by simp, .inl rfl, rfl⟩
  · have hlm : len ≤ m := by rw [hmm]; split <;> omega
    rw [hC] at hx hi
    have hbytes : len * P.bytesOf e ≤ reachBytes := by
      have := hz ((((List.range len).map D).length + ((List.range (m - len)).map fun j => D (len + j)).length) * P.bytesOf e) (by rw [hx]; simp [DataW.weights, ht])
      refine Nat.le_trans (Nat.mul_le_mul_right _ ?_) this
      simp
    have hzD : ∀ i, i < len → ∀ n ∈ (D i).weights P e, n ≤ reachBytes := fun i hil n hn => by
      refine hz n ?_
      rw [hx]
      simp only [DataW.weights, ht, List.mem_cons, List.mem_append]
      exact .inr (.inl (weights_all P e n _ (D i) (List.mem_map.2 ⟨i, List.mem_range.2 hil, rfl⟩) hn))
    by_cases hl0 : len = 0
    · subst hl0
      exact ⟨some a, cap, [], [], rfl, Nat.zero_le _, hm, by simp, .inl rfl, rfl⟩
    · obtain ⟨b, off, spot⟩ := a
      obtain ⟨cs0, hc0, _⟩ := hi 0 (by omega)
      obtain ⟨_, hcl0, hat0⟩ := World.cells?_some hc0
      have h00 := hat0 0 h0
      have hspot : spot = none := by
        have := World.cell?_spot (h00.trans (List.getElem?_eq_getElem (by omega)))
        simpa [Addr.add] using this
      subst hspot
      let cells : Nat → Value := fun j => (w.cell? ⟨b, off + j, none⟩).getD undef
      have hcells : ∀ i, i < len → ∀ j, j < k → w.cell? ⟨b, off + (i * k + j), none⟩ = some (cells (i * k + j)) := fun i hil j hj => by
        obtain ⟨cs', hc, _⟩ := hi i (by omega)
        obtain ⟨_, hcl, hat⟩ := World.cells?_some hc
        have := hat j hj
        rw [add_none, add_none, List.getElem?_eq_getElem (by omega), Nat.add_assoc] at this
        simp only [cells]
        rw [this]; rfl
      obtain ⟨l, hll, hrows⟩ := rows_of (R := R) k cells len (fun i hil => by
        obtain ⟨cs', hc, ht'⟩ := hi i (by omega)
        obtain ⟨_, hcl, hat⟩ := World.cells?_some hc
        have e1 : cs' = (List.range k).map fun j => cells (i * k + j) := by
          apply List.ext_getElem
          · simp [hcl]
          · intro j h1 h2
            have hj : j < k := by omega
            have h3 := hat j hj
            rw [add_none, add_none, List.getElem?_eq_getElem (by omega), Nat.add_assoc] at h3
            have h4 := hcells i hil j hj
            rw [h3] at h4
            injection h4 with h4
            simp [h4]
        rw [← e1]
        exact hR cs' n _ hcl ht' (hzD i hil))
      subst hll
      refine ⟨some ⟨b, off, none⟩, cap, l, _, rfl, hl, hm, hbytes, .inr ⟨b, off, rfl, ?_, fun j u hu => ?_⟩, hrows⟩
      · have := hcells 0 (by omega) 0 h0
        exact World.block_lt_of_cell? w _ this
      · simp only [List.getElem?_map, Option.map_eq_some_iff, List.getElem?_eq_some_iff] at hu
        obtain ⟨j', ⟨hj1, hj2⟩, rfl⟩ := hu
        simp at hj1 hj2
        subst hj2
        have hdiv : j / k < l.length := (Nat.div_lt_iff_lt_mul h0).2 hj1
        have hmod : j % k < k := Nat.mod_lt _ h0
        have := hcells (j / k) hdiv (j % k) hmod
        have e : j / k * k + j % k = j := by rw [Nat.mul_comm]; exact Nat.div_add_mod j k
        rw [e] at this
        exact this
/-- The weights of a struct's field. -/
theorem weights_field {fs : Array Field} {t : TypeId} (he : P.underlying t = some (.struct fs)) {xs : List (DataW H)} {j : Nat} {f : Field} {y : DataW H} (hj : fs[j]? = some f) (hy : xs[j]? = some y)
    (hz : ∀ n ∈ (DataW.agg xs).weights P t, n ≤ reachBytes) : ∀ n ∈ y.weights P f.type, n ≤ reachBytes := fun n hn => hz n (by
  simp only [DataW.weights, he]
  exact DataW.weights_mem_each (j := j) (t := f.type) (d := y) (by simp [List.getElem?_map, Array.getElem?_toList, hj]) hy n hn)
/-- What the reach says of a []int. -/
theorem ints_len {t e : TypeId} {fuel : Nat} {A : Option Addr} {n c : Nat} {x : DataW H × List MemPlace} (ht : P.underlying t = some (.slice e)) (he : P.underlying e = some (.int .i64)) (hce : P.cellsOf e = 1) (hbe : P.bytesOf e = 8)
    (h : DataW.trod enc P w base spare held fuel t [.slice A n c] = some x) (hz : ∀ n ∈ x.1.weights P t, n ≤ reachBytes) : n * 8 ≤ reachBytes := by
  rcases open_ints ht he hce h with ⟨hcs, _⟩ | ⟨a, len, cap, zs, hcs, _, hl, hm, hz', hx, hcell, hwz⟩
  · simp at hcs; omega
  · simp at hcs
    obtain ⟨rfl, rfl, rfl⟩ := hcs
    have hlz : n ≤ zs.length := by
      have := hz'
      split at this <;> omega
    have := hz (((lits (H := H) .i64 (zs.take n)).length + (lits (H := H) .i64 (zs.drop n)).length) * P.bytesOf e) (by rw [hx]; simp [DataW.weights, ht])
    rw [hbe] at this
    simp [lits] at this
    omega
end
end Go.V
