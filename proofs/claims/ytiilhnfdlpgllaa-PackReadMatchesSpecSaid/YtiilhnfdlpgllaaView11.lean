/-
  Views, eleventh part: append upon a slice whose spare cells are there and are not frozen.
-/
import Derived.Test.YtiilhnfdlpgllaaView9
import Derived.Deep.Upon
namespace Go.V
open Go.RowKit

theorem below_setCells {B : Nat} {a : World} (b : Nat) (hB : B ≤ b) : ∀ (vs : List Value) (o : Nat) (w : World), Below B a w → Below B a (w.setCells b o vs)
  | [], _, _, h => h
  | v :: r, o, w, h => below_setCells b hB r (o + 1) _ (h.setCell (p := ⟨b, o, none⟩) hB v)
section
variable {P : Program} (w : World)
/-- 'append(s, x...)' where s lies in a block from base on, whatever made it. -/
theorem run_app_upon (base : Nat) (t ty e : TypeId) (i : TypeInfo) (z : Value) (size bytes : Nat) (ht : P.underlying t = some (.slice e)) (hi : P.info? e = some i) (hz : i.zero = some z)
    (hsize : i.size = size) (hby : i.bytes = bytes)
    {b off n cap : Nat} {olds : List Value} (hc : Came w size (some ⟨b, off, none⟩) b off n cap olds) (hb : base ≤ b) (hbw : b < w.heap.size) (ho1 : ∀ u ∈ olds, u.oneCell' = true) (hbase : base ≤ w.heap.size)
    (ad : Addr) (m c2 : Nat) (news : List Value) (hl : news.length = m * size) (hcells : ∀ j u, news[j]? = some u → w.cell? (ad.add j) = some u) (h1 : ∀ u ∈ news, u.oneCell' = true)
    (h63 : n + m ≤ maxLen) (hbytes : (n + m) * bytes ≤ 140737488355328) :
    ∃ g o' c' w', (Builtin.append_ #[t, t] ty #[.slice (some ⟨b, off, none⟩) n cap, .slice (some ad) m c2]).run P w = .ok (.slice (some ⟨g, o', none⟩) (n + m) c') w' ∧ n + m ≤ c' ∧
      SV w' w'.heap.size (some ⟨g, o', none⟩) (olds ++ news) ∧ Below base w w' ∧ base ≤ g := by
  subst hsize
  subst hby
  have hsrc := Src.ofSlice w ht ad m c2 news hl hcells h1
  have hol := hc.oldsLen
  have hsmall : n + m ≤ 9223372036854775807 := by simp only [maxLen] at h63; omega
  by_cases hroom : n + m ≤ cap
  · have hsp : ∀ j, j < news.length → j < (cap - n) * i.size := fun j hj => by
      rw [hl] at hj
      exact Nat.lt_of_lt_of_le hj (Nat.mul_le_mul_right _ (by omega))
    have hr := run_append_room_src w t t ty e i ht hi b off n cap (.slice (some ad) m c2) m news hsrc hroom (fun j hj => (hc.spare j (hsp j hj)).1) (fun j hj => (hc.spare j (hsp j hj)).2)
    refine ⟨b, off, cap, _, hr, hroom, ?_, below_setCells b hb _ _ _ (Below.refl _ _), hb⟩
    have hbel : Below 0 w (w.setCells b (off + n * i.size) news) := below_setCells b (Nat.zero_le _) _ _ _ (Below.refl _ _)
    refine .inr ⟨b, off, rfl, Nat.lt_of_lt_of_le hbw hbel.size, fun j u hu => ?_⟩
    by_cases hj : j < olds.length
    · rw [List.getElem?_append_left hj] at hu
      rw [World.cell?_setCells_out b news _ w ⟨b, off + j, none⟩ (fun _ _ => .inl (by simp; omega))]
      exact hc.olds j u hu
    · rw [List.getElem?_append_right (by omega)] at hu
      have hjn : j - olds.length < news.length := by
        rcases Nat.lt_or_ge (j - olds.length) news.length with h | h
        · exact h
        · rw [List.getElem?_eq_none h] at hu; cases hu
      have := World.cell?_setCells_in b news (off + n * i.size) w (fun j hj => (hc.spare j (hsp j hj)).1) (j - olds.length) hjn
      rw [show off + n * i.size + (j - olds.length) = off + j by omega] at this
      rw [this, ← hu, List.getElem?_eq_getElem hjn]
  · have hold := run_firstCells_some (P := P) w.drew i.size n ⟨b, off, none⟩ n cap olds hol (fun j u hu => by
      rw [show (⟨b, off, none⟩ : Addr).add j = ⟨b, off + j, none⟩ from by unfold Addr.add; split <;> simp_all]
      exact hc.olds j u hu)
    have hr := run_append_grow_src w t t ty e i z ht hi hz (some ⟨b, off, none⟩) n cap olds hold (.slice (some ad) m c2) m news hsrc (by omega) (by omega) (growslice_fits (by omega) hbytes)
    have hge := grownCap_ge w (n + m) cap e
    refine ⟨w.heap.size, 0, _, _, hr, hge, ?_, ?_, hbase⟩
    · refine .inr ⟨w.heap.size, 0, rfl, by simp, fun j u hu => ?_⟩
      refine (World.cell?_alloc_new w.drew _ e (0 + j)).trans ?_
      have hjn : j < (olds ++ news).length := by
        rcases Nat.lt_or_ge j (olds ++ news).length with h | h
        · exact h
        · rw [List.getElem?_eq_none h] at hu; cases hu
      rw [Nat.zero_add, Array.getElem?_append_left (by simpa using hjn), List.getElem?_toArray]
      exact hu
    · exact (below_drewN (Below.refl base w) 1).alloc hbase _
/-- .. as a law for 'go_wp2_with'. -/
theorem wpList_app_upon {ops : Array Oper} {rest : List Oper} {o : Oper} {a : Act} {Q : Exit → Act → World → Prop} (hgd : o.guard = none) (s x : Operand) (t : TypeId)
    (ho : o.op = .call { callee := .builtin .append, args := #[s, x], argTypes := #[t, t] })
    (base : Nat) (e : TypeId) (i : TypeInfo) (z : Value) (size bytes : Nat) (ht : P.underlying t = some (.slice e)) (hi : P.info? e = some i) (hz : i.zero = some z)
    (hsize : i.size = size) (hby : i.bytes = bytes)
    {b off n cap : Nat} {olds : List Value} (hc : Came w size (some ⟨b, off, none⟩) b off n cap olds) (hb : base ≤ b) (hbw : b < w.heap.size) (ho1 : ∀ u ∈ olds, u.oneCell' = true) (hbase : base ≤ w.heap.size)
    (hs : a.eval s = .slice (some ⟨b, off, none⟩) n cap)
    (ad : Addr) (m c2 : Nat) (news : List Value) (hx : a.eval x = .slice (some ad) m c2) (hl : news.length = m * size) (hcells : ∀ j u, news[j]? = some u → w.cell? (ad.add j) = some u) (h1 : ∀ u ∈ news, u.oneCell' = true)
    (h63 : n + m ≤ maxLen) (hbytes : (n + m) * bytes ≤ 140737488355328)
    (h : ∀ g o' c' w', n + m ≤ c' → SV w' w'.heap.size (some ⟨g, o', none⟩) (olds ++ news) → Below base w w' → base ≤ g → wpList P ops Q rest (a.put o.dst (.slice (some ⟨g, o', none⟩) (n + m) c')) w') : wpList P ops Q (o :: rest) a w := by
  refine wpList_plain hgd fun K hK' => ?_
  obtain ⟨g, o', c', w', hrun, h2, h3, h4, h5⟩ := run_app_upon (P := P) w base t o.type e i z size bytes ht hi hz hsize hby hc hb hbw ho1 hbase ad m c2 news hl hcells h1 h63 hbytes
  unfold Oper.wp
  simp [execOp, ho, resolve, invoke, builtin, hs, hx, hrun, Result.andThen]
  exact hK' _ _ (h g o' c' w' h2 h3 h4 h5)
end
end Go.V
