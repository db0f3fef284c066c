/-
  Views, seventh part: a []int and a []bool that came in.
-/
import Derived.Test.YtinebbleilnejaaView4
import Derived.Deep.Grids
namespace Go.V
open Go.RowKit Go.ChangeShapes Go.WideShapes Go.ChangeAt Go.Deep

section
variable {H : Type} {enc : TypeId × Value → H} {P : Program} {W : World}
theorem addr_none {a : Addr} {w : World} {v : Value} (h : w.cell? a = some v) : ∃ b off, a = ⟨b, off, none⟩ := by
  obtain ⟨b, off, spot⟩ := a
  have hs : spot = none := by simpa using World.cell?_spot h
  subst hs
  exact ⟨b, off, rfl⟩
theorem add_none (b off i : Nat) : (⟨b, off, none⟩ : Addr).add i = ⟨b, off + i, none⟩ := by
  unfold Addr.add
  split
  · rename_i h; subst h; rfl
  · rfl
theorem open_intl {t e : TypeId} {fuel base : Nat} {spare : Nat → Bool} {held : Bool} {cs : List Value} {x : DataW H × List MemPlace} (ht : P.underlying t = some (.slice e)) (he : P.underlying e = some (.int .i64)) (hce : P.cellsOf e = 1)
    (h : DataW.trod enc P W base spare held fuel t cs = some x) :
    ∃ A c l, cs = [.slice A l.length c] ∧ l.length ≤ c ∧ c ≤ maxLen ∧ SV W W.heap.size A (intsV l) ∧ ∀ (i : Nat) (hi : i < l.length), I64 l[i] := by
  rcases open_ints ht he hce h with ⟨hcs, _⟩ | ⟨a, len, cap, zs, hcs, _, hl, hm, hz, _, hcell, hwz⟩
  · exact ⟨none, 0, [], by simpa using hcs, by simp, by simp [maxLen], .inl rfl, fun i hi => by simp at hi⟩
  · have hlz : len ≤ zs.length := by
      have := hz
      split at this <;> omega
    have hlen : (zs.take len).length = len := by simp; omega
    refine ⟨some a, cap, zs.take len, by rw [hlen]; exact hcs, by omega, hm, ?_, fun i hi => ?_⟩
    · by_cases h0 : len = 0
      · subst h0; exact .inl (by simp [intsV])
      · have hc0 := hcell 0 (by omega)
        have hc00 : W.cell? a = some (.int .i64 (zs.getD 0 0)) := by simpa [Addr.add] using hc0
        obtain ⟨b, off, rfl⟩ := addr_none hc00
        refine .inr ⟨b, off, rfl, World.block_lt_of_cell? W _ hc00, fun j u hu => ?_⟩
        simp only [intsV, List.getElem?_map, Option.map_eq_some_iff, List.getElem?_take] at hu
        obtain ⟨z, hz1, rfl⟩ := hu
        split at hz1
        · obtain ⟨hjl, rfl⟩ := List.getElem?_eq_some_iff.1 hz1
          have := hcell j hjl
          rw [add_none] at this
          rw [this]
          simp [List.getD, hz1]
        · cases hz1
    · have := bounds_i64 (hwz _ (List.mem_of_mem_take (List.getElem_mem hi)))
      exact this
theorem open_booll {t e : TypeId} {fuel base : Nat} {held : Bool} {cs : List Value} {x : DataW H × List MemPlace} (ht : P.underlying t = some (.slice e)) (he : P.underlying e = some .bool) (hce : P.cellsOf e = 1)
    (h : DataW.trod enc P W base (fun _ => true) held fuel t cs = some x) :
    ∃ A c l, cs = [.slice A l.length c] ∧ l.length ≤ c ∧ c ≤ maxLen ∧ SV W W.heap.size A (boolsV l) := by
  rcases open_bools ht he hce h with ⟨hcs, _⟩ | ⟨a, len, cap, B, hcs, _, hl, hm, _, hcell⟩
  · exact ⟨none, 0, [], by simpa using hcs, by simp, by simp [maxLen], .inl rfl⟩
  · have hlen : ((List.range len).map B).length = len := by simp
    refine ⟨some a, cap, (List.range len).map B, by rw [hlen]; exact hcs, by omega, hm, ?_⟩
    by_cases h0 : len = 0
    · subst h0; exact .inl (by simp [boolsV])
    · have hc0 := hcell 0 (by omega)
      have hc00 : W.cell? a = some (.bool (B 0)) := by simpa [Addr.add] using hc0
      obtain ⟨b, off, rfl⟩ := addr_none hc00
      refine .inr ⟨b, off, rfl, World.block_lt_of_cell? W _ hc00, fun j u hu => ?_⟩
      simp only [boolsV, List.getElem?_map, Option.map_eq_some_iff] at hu
      obtain ⟨z, ⟨y, hy, rfl⟩, rfl⟩ := hu
      obtain ⟨hj1, hj2⟩ := List.getElem?_eq_some_iff.1 hy
      simp at hj1 hj2
      subst hj2
      have := hcell j (by omega)
      rw [add_none] at this
      exact this
end
end Go.V
