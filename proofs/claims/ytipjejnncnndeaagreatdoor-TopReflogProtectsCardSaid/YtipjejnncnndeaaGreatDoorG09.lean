/-
  Views, fourth part: opening slices of structs; what the reach says of lengths.
  Views, seventh part: a []int and a []bool that came in.
  Objects: walk of 'slices.Insert' at stored objects: one element put into a row of the call's own.
  All but one block and one row are as they were.
  Objects: walk of 'add'.
-/
import Derived.Test.YtipjejnncnndeaaGreatDoorG04
import Derived.Deep.Slices
import Derived.Deep.Fields
import Derived.ChangeSame
import Derived.Deep.Grids
import Derived.Test.YtipjejnncnndeaaGreatDoorG08
import Derived.Test.YtipjejnncnndeaaGreatDoorG01
import Derived.Test.YtipjejnncnndeaaGreatDoorG03
namespace Go.V
open Go.RowKit Go.ChangeShapes Go.WideShapes Go.ChangeAt Go.Deep

/-- Rows out of cells. -/
theorem rows_of {α : Type} {R : α → List Value → Prop} (k : Nat) (cells : Nat → Value) : ∀ (n : Nat), (∀ i, i < n → ∃ a : α, R a ((List.range k).map fun j => cells (i * k + j))) →
    ∃ l : List α, l.length = n ∧ RowsR R l ((List.range (n * k)).map cells)
  | 0, _ => ⟨[], rfl, by simp [RowsR]⟩
  | n + 1, h => by
    obtain ⟨l, hl, hr⟩ := rows_of k cells n (fun i hi => h i (by omega))
    obtain ⟨a, ha⟩ := h n (by omega)
    refine ⟨l ++ [a], by simp [hl], ?_⟩
    have e : (List.range ((n + 1) * k)).map cells = (List.range (n * k)).map cells ++ (List.range k).map fun j => cells (n * k + j) := by
      rw [Nat.add_mul, Nat.one_mul, List.range_add, List.map_append, List.map_map]
      rfl
    rw [e]
    exact hr.append (RowsR.one ha)

section
variable {H : Type} {enc : TypeId × Value → H} {P : Program} {w : World} {base : Nat} {spare : Nat → Bool} {held : Bool}
/-- A slice of structs of one-cell fields, field by field. -/
theorem open_slice_fields {t e : TypeId} {fs : Array Field} {fuel : Nat} {cs : List Value} {x : DataW H × List MemPlace} (ht : P.underlying t = some (.slice e)) (he : P.underlying e = some (.struct fs))
    (hone : oneCellFields P fs = true) (hC : P.cellsOf e = fs.size) (h : DataW.trod enc P w base spare held fuel t cs = some x) :
    (cs = [.slice none 0 0] ∧ x = (.nil, [])) ∨
    ∃ (a : Addr) (len cap m : Nat) (D : Nat → DataW H) (Pl : Nat → List MemPlace), cs = [.slice (some a) len cap] ∧ base ≤ a.block ∧ len ≤ cap ∧ cap ≤ maxLen ∧ m = (if spare a.block then cap else len) ∧
      x = (.slice ((List.range len).map D) ((List.range (m - len)).map fun j => D (len + j)), MemPlace.row a (m * fs.size) ++ (List.range m).flatMap Pl) ∧
      ∀ i, i < m → ∃ (ys : List (DataW H × List MemPlace)) (n : Nat), D i = .agg (ys.map (·.1)) ∧ Pl i = ys.flatMap (·.2) ∧ ys.length = fs.size ∧
        ∀ (j : Nat) (f : Field), fs[j]? = some f → ∃ (v : Value) (y : DataW H × List MemPlace), w.cell? (a.add (i * fs.size + j)) = some v ∧ ys[j]? = some y ∧ DataW.trod enc P w base spare held n f.type [v] = some y := by
  rcases open_slice ht h with h0 | ⟨a, len, cap, m, n, D, Pl, hcs, hb, hl, hm, hmm, hx, hi⟩
  · exact .inl h0
  · refine .inr ⟨a, len, cap, m, D, Pl, hcs, hb, hl, hm, hmm, by rw [hC] at hx; exact hx, fun i him => ?_⟩
    obtain ⟨cs', hc, ht'⟩ := hi i him
    rw [hC] at hc
    obtain ⟨ys, n', hn', hy, hlen, hyl, hf⟩ := DataW.trod_struct he ht'
    obtain ⟨_, hcl, hat⟩ := World.cells?_some hc
    simp only [Prod.mk.injEq] at hy
    refine ⟨ys, n', hy.1, hy.2, hyl, fun j f hj => ?_⟩
    obtain ⟨ho, hk⟩ := hone_of hone j f hj
    have hjl : j < fs.size := (Array.getElem?_eq_some_iff.1 hj).1
    have hcell := hat j hjl
    have hv : cs'[j]? = some (cs'[j]'(by omega)) := List.getElem?_eq_getElem (by omega)
    have h1 := hf j f hj
    rw [ho, hk] at h1
    have hone' : (cs'.drop j).take 1 = [cs'[j]'(by omega)] := by
      rw [List.drop_eq_getElem_cons (by omega)]
      rfl
    rw [hone'] at h1
    have hys : ys[j]? = some (ys[j]'(by omega)) := List.getElem?_eq_getElem (by omega)
    refine ⟨_, _, ?_, hys, h1.trans hys⟩
    rw [← Go.Deep.add_add, hcell, hv]

/-- The same as a view: rows of elements that each field's reading makes. -/
theorem open_rows {α : Type} {R : α → List Value → Prop} {t e : TypeId} {fs : Array Field} {fuel : Nat} {cs : List Value} {x : DataW H × List MemPlace} (ht : P.underlying t = some (.slice e)) (he : P.underlying e = some (.struct fs))
    (hone : oneCellFields P fs = true) (hC : P.cellsOf e = fs.size) (h0 : 0 < fs.size) (h : DataW.trod enc P w base spare held fuel t cs = some x)
    (hz : ∀ n ∈ x.1.weights P t, n ≤ reachBytes)
    (hR : ∀ (c : Nat → Value) (ys : List (DataW H × List MemPlace)) (n : Nat), ys.length = fs.size → (∀ (j : Nat) (f : Field), fs[j]? = some f → ∃ y, ys[j]? = some y ∧ DataW.trod enc P w base spare held n f.type [c j] = some y ∧ ∀ k ∈ y.1.weights P f.type, k ≤ reachBytes) →
      ∃ a, R a ((List.range fs.size).map c)) :
    ∃ A c l vs, cs = [.slice A l.length c] ∧ l.length ≤ c ∧ c ≤ maxLen ∧ l.length * P.bytesOf e ≤ reachBytes ∧ SV w w.heap.size A vs ∧ RowsR R l vs := by
  rcases open_slice_fields ht he hone hC h with ⟨rfl, _⟩ | ⟨a, len, cap, m, D, Pl, rfl, hb, hl, hm, hmm, hx, hi⟩
  · exact ⟨none, 0, [], [], rfl, Nat.le_refl _, by simp [maxLen], by simp, .inl rfl, rfl⟩
  · have hlm : len ≤ m := by rw [hmm]; split <;> omega
    have hbytes : len * P.bytesOf e ≤ reachBytes := by
      have := hz ((((List.range len).map D).length + ((List.range (m - len)).map fun j => D (len + j)).length) * P.bytesOf e) (by rw [hx]; simp [DataW.weights, ht])
      refine Nat.le_trans (Nat.mul_le_mul_right _ ?_) this
      simp
    have hzD : ∀ i, i < len → ∀ n ∈ (D i).weights P e, n ≤ reachBytes := fun i hil n hn => by
      refine hz n ?_
      rw [hx]
      simp only [DataW.weights, ht, List.mem_cons, List.mem_append]
      refine .inr (.inl ?_)
      have : ∀ (l : List (DataW H)) (d : DataW H), d ∈ l → n ∈ d.weights P e → n ∈ DataW.weightsAll P e l := by
        intro l
        induction l with
        | nil => intro d hd; simp at hd
        | cons d0 l ih =>
          intro d hd hnd
          simp only [DataW.weightsAll, List.mem_append]
          rcases List.mem_cons.1 hd with rfl | hd
          · exact .inl hnd
          · exact .inr (ih d hd hnd)
      exact this _ (D i) (List.mem_map.2 ⟨i, List.mem_range.2 hil, rfl⟩) hn
    by_cases hl0 : len = 0
    · subst hl0
      exact ⟨some a, cap, [], [], rfl, Nat.zero_le _, hm, by simp, .inl rfl, rfl⟩
    · obtain ⟨b, off, spot⟩ := a
      obtain ⟨ys0, n0, _, _, _, hf0⟩ := hi 0 (by omega)
      obtain ⟨v0, _, hc0, _⟩ := hf0 0 fs[0] (by simp [h0])
      have hspot : spot = none := by simpa [Addr.add] using World.cell?_spot hc0
      subst hspot
      have hadd : ∀ j, (⟨b, off, none⟩ : Addr).add j = ⟨b, off + j, none⟩ := fun j => by
        unfold Addr.add; split
        · rename_i h; subst h; rfl
        · rfl
      let cells : Nat → Value := fun j => (w.cell? ⟨b, off + j, none⟩).getD undef
      have hcells : ∀ i, i < len → ∀ j, j < fs.size → w.cell? ⟨b, off + (i * fs.size + j), none⟩ = some (cells (i * fs.size + j)) := fun i hil j hj => by
        obtain ⟨ys, n, _, _, _, hf⟩ := hi i (by omega)
        obtain ⟨v, y, hc, _⟩ := hf j fs[j] (by simp [hj])
        rw [hadd] at hc
        simp [cells, hc]
      obtain ⟨l, hll, hrows⟩ := rows_of (R := R) fs.size cells len (fun i hil => by
        obtain ⟨ys, n, hD, _, hyl, hf⟩ := hi i (by omega)
        refine hR (fun j => cells (i * fs.size + j)) ys n hyl (fun j f hj => ?_)
        have hjl : j < fs.size := (Array.getElem?_eq_some_iff.1 hj).1
        obtain ⟨v, y, hc, hy, ht⟩ := hf j f hj
        rw [hadd, hcells i hil j hjl] at hc
        injection hc with hc
        subst hc
        refine ⟨y, hy, ht, fun k hk => hzD i hil k ?_⟩
        rw [hD]
        simp only [DataW.weights, he]
        refine DataW.weights_mem_each (j := j) (t := f.type) (d := y.1) ?_ ?_ k hk
        · simp [List.getElem?_map, Array.getElem?_toList, hj]
        · simp [List.getElem?_map, hy])
      subst hll
      refine ⟨some ⟨b, off, none⟩, cap, l, _, rfl, hl, hm, hbytes, .inr ⟨b, off, rfl, ?_, fun j u hu => ?_⟩, hrows⟩
      · have := hcells 0 (by omega) 0 h0
        exact World.block_lt_of_cell? w _ this
      · simp only [List.getElem?_map, Option.map_eq_some_iff, List.getElem?_eq_some_iff] at hu
        obtain ⟨j', ⟨hj1, hj2⟩, rfl⟩ := hu
        simp at hj1 hj2
        subst hj2
        have hdiv : j / fs.size < l.length := (Nat.div_lt_iff_lt_mul h0).2 hj1
        have hmod : j % fs.size < fs.size := Nat.mod_lt _ h0
        have := hcells (j / fs.size) hdiv (j % fs.size) hmod
        have e : j / fs.size * fs.size + j % fs.size = j := by rw [Nat.mul_comm]; exact Nat.div_add_mod j fs.size
        rw [e] at this
        exact this

/-- What the reach says of a []byte. -/
theorem bytes_len {t e : TypeId} {fuel : Nat} {A : Option Addr} {n c : Nat} {x : DataW H × List MemPlace} (ht : P.underlying t = some (.slice e)) (he : P.underlying e = some (.int .u8)) (hce : P.cellsOf e = 1) (hbe : P.bytesOf e = 1)
    (h : DataW.trod enc P w base spare held fuel t [.slice A n c] = some x) (hz : ∀ n ∈ x.1.weights P t, n ≤ reachBytes) : n ≤ reachBytes := by
  rcases open_ints ht he hce h with ⟨hcs, _⟩ | ⟨a, len, cap, zs, hcs, _, hl, hm, hz', hx, hcell, hwz⟩
  · simp at hcs; omega
  · simp at hcs
    obtain ⟨rfl, rfl, rfl⟩ := hcs
    have hlz : n ≤ zs.length := by
      have := hz'
      split at this <;> omega
    have := hz (((lits (H := H) .u8 (zs.take n)).length + (lits (H := H) .u8 (zs.drop n)).length) * P.bytesOf e) (by rw [hx]; simp [DataW.weights, ht])
    rw [hbe] at this
    simp [lits] at this
    omega
end
end Go.V
namespace Go.V
open Go.RowKit Go.ChangeShapes Go.WideShapes Go.ChangeAt Go.Deep

section
variable {H : Type} {enc : TypeId × Value → H} {P : Program} {W : World}
theorem addr_none {a : Addr} {w : World} {v : Value} (h : w.cell? a = some v) : ∃ b off, a = ⟨b, off, none⟩ := by
  obtain ⟨b, off, spot⟩ := a
  have hs : spot = none := by simpa using World.cell?_spot h
  subst hs
  exact ⟨b, off, rfl⟩
theorem add_none (b off i : Nat) : (⟨b, off, none⟩ : Addr).add i = ⟨b, off + i, none⟩ := by
  unfold Addr.add
  split
  · rename_i h; subst h; rfl
  · rfl
theorem open_intl {t e : TypeId} {fuel base : Nat} {spare : Nat → Bool} {held : Bool} {cs : List Value} {x : DataW H × List MemPlace} (ht : P.underlying t = some (.slice e)) (he : P.underlying e = some (.int .i64)) (hce : P.cellsOf e = 1)
    (h : DataW.trod enc P W base spare held fuel t cs = some x) :
    ∃ A c l, cs = [.slice A l.length c] ∧ l.length ≤ c ∧ c ≤ maxLen ∧ SV W W.heap.size A (intsV l) ∧ ∀ (i : Nat) (hi : i < l.length), I64 l[i] := by
  rcases open_ints ht he hce h with ⟨hcs, _⟩ | ⟨a, len, cap, zs, hcs, _, hl, hm, hz, _, hcell, hwz⟩
  · exact ⟨none, 0, [], by simpa using hcs, by simp, by simp [maxLen], .inl rfl, fun i hi => by simp at hi⟩
  · have hlz : len ≤ zs.length := by
      have := hz
      split at this <;> omega
    have hlen : (zs.take len).length = len := by simp; omega
    refine ⟨some a, cap, zs.take len, by rw [hlen]; exact hcs, by omega, hm, ?_, fun i hi => ?_⟩
    · by_cases h0 : len = 0
      · subst h0; exact .inl (by simp [intsV])
      · have hc0 := hcell 0 (by omega)
        have hc00 : W.cell? a = some (.int .i64 (zs.getD 0 0)) := by simpa [Addr.add] using hc0
        obtain ⟨b, off, rfl⟩ := addr_none hc00
        refine .inr ⟨b, off, rfl, World.block_lt_of_cell? W _ hc00, fun j u hu => ?_⟩
        simp only [intsV, List.getElem?_map, Option.map_eq_some_iff, List.getElem?_take] at hu
        obtain ⟨z, hz1, rfl⟩ := hu
        split at hz1
        · obtain ⟨hjl, rfl⟩ := List.getElem?_eq_some_iff.1 hz1
          have := hcell j hjl
          rw [add_none] at this
          rw [this]
          simp [List.getD, hz1]
        · cases hz1
    · have := bounds_i64 (hwz _ (List.mem_of_mem_take (List.getElem_mem hi)))
      exact this
theorem open_booll {t e : TypeId} {fuel base : Nat} {held : Bool} {cs : List Value} {x : DataW H × List MemPlace} (ht : P.underlying t = some (.slice e)) (he : P.underlying e = some .bool) (hce : P.cellsOf e = 1)
    (h : DataW.trod enc P W base (fun _ => true) held fuel t cs = some x) :
    ∃ A c l, cs = [.slice A l.length c] ∧ l.length ≤ c ∧ c ≤ maxLen ∧ SV W W.heap.size A (boolsV l) := by
  rcases open_bools ht he hce h with ⟨hcs, _⟩ | ⟨a, len, cap, B, hcs, _, hl, hm, _, hcell⟩
  · exact ⟨none, 0, [], by simpa using hcs, by simp, by simp [maxLen], .inl rfl⟩
  · have hlen : ((List.range len).map B).length = len := by simp
    refine ⟨some a, cap, (List.range len).map B, by rw [hlen]; exact hcs, by omega, hm, ?_⟩
    by_cases h0 : len = 0
    · subst h0; exact .inl (by simp [boolsV])
    · have hc0 := hcell 0 (by omega)
      have hc00 : W.cell? a = some (.bool (B 0)) := by simpa [Addr.add] using hc0
      obtain ⟨b, off, rfl⟩ := addr_none hc00
      refine .inr ⟨b, off, rfl, World.block_lt_of_cell? W _ hc00, fun j u hu => ?_⟩
      simp only [boolsV, List.getElem?_map, Option.map_eq_some_iff] at hu
      obtain ⟨z, ⟨y, hy, rfl⟩, rfl⟩ := hu
      obtain ⟨hj1, hj2⟩ := List.getElem?_eq_some_iff.1 hy
      simp at hj1 hj2
      subst hj2
      have := hcell j (by omega)
      rw [add_none] at this
      exact this
end
end Go.V
namespace Go.Proofs.YtipjejnncnndeaaGreatDoor
open Go.RowKit Go.V
set_option linter.unusedVariables false

def InPost (w : World) (base : Nat) (A : Option Addr) (n c : Nat) (xs news : List Value) (i : Nat) (e : Ending) (w' : World) : Prop := ∃ gd c', e = .returned (.slice (some ⟨gd, 0, none⟩) (n + 1) c') ∧
  w'.ownsRow base 65 4 (.slice (some ⟨gd, 0, none⟩) (n + 1) c') (n + 1) (xs.take (i * 4) ++ news ++ xs.drop (i * 4)) ∧ w.grownBy w' (Value.slice A n c).ownBlock ∧
  ((Value.slice (some ⟨gd, 0, none⟩) (n + 1) c').ownBlock = (Value.slice A n c).ownBlock ∨ (Value.slice (some ⟨gd, 0, none⟩) (n + 1) c').ownBlock = some w.heap.size)
theorem blk_shape {w : World} {g : Nat} {t : TypeId} {cs : Array Value} (h : Blk w g t cs) : w.shape? g = some (t, cs.size) := by
  unfold Blk at h; simp [World.shape?, h]
theorem overlaps_no (w : World) (vb g : Nat) (cs cur : Array Value) (hv : Blk w vb 65 cs) (hg : Blk w g 65 cur) (hne : vb ≠ g) (hc : cur.size ≠ 0) (la ca off lb cb : Nat) :
    (callFunc 54 #[.slice (some ⟨vb, 0, none⟩) la ca, .slice (some ⟨g, off, none⟩) lb cb]).run Tryz.prog w = .ok (.value (.bool false)) w := by
  rw [run_callFunc_extern Tryz.func54 (by kernel_rfl) (by kernel_rfl) (by kernel_rfl) (e := Extern.SlicesOverlaps.overlaps #[22, 22] #[4]) (by kernel_rfl),
    Lib.run_overlaps_apart w 22 4 65 Tryz.underlying22 4 (fun w => by kernel_rfl) ⟨vb, 0, none⟩ ⟨g, off, none⟩ la ca lb cb hne 65 65 cs.size cur.size (blk_shape hv) (blk_shape hg) hc (hv.frozen 0) (hv.frozen _)]
  rfl
set_option maxRecDepth 100000 in
set_option maxHeartbeats 8000000 in
theorem insert_end (w : World) (base : Nat) (A : Option Addr) (n c : Nat) (xs news : List Value) (vb : Nat) (hown : w.ownsRow base 65 4 (.slice A n c) n xs) (hl : n ≤ 1000000) (hbase : base ≤ w.heap.size)
    (hnl : news.length = 4) (hvb : ∀ j u, news[j]? = some u → w.cell? ⟨vb, j, none⟩ = some u) (h1 : ∀ u ∈ news, u.oneCell' = true) :
    Calls Tryz.prog 34 #[.slice A n c, .int .i64 n, .slice (some ⟨vb, 0, none⟩) 1 1] w (InPost w base A n c xs news n) := by
  obtain ⟨i0, hi0, hz0, hz1, hz2⟩ := info_parts info46
  obtain ⟨A0, c0, e0, hc0, _⟩ := own_form hown
  injection e0 with e1 e2 e3
  subst e1 e3
  have hxl : xs.length = n * 4 := hown.1
  have HF : Hid (∀ gd c' w', w'.ownsRow base 65 4 (.slice (some ⟨gd, 0, none⟩) (n + 1) c') (n + 1) (xs ++ news) → w.grownBy w' (Value.slice A n c).ownBlock →
      ((Value.slice (some ⟨gd, 0, none⟩) (n + 1) c').ownBlock = (Value.slice A n c).ownBlock ∨ (Value.slice (some ⟨gd, 0, none⟩) (n + 1) c').ownBlock = some w.heap.size) → InPost w base A n c xs news n (.returned (.slice (some ⟨gd, 0, none⟩) (n + 1) c')) w') :=
    Lib.hid fun gd c' w' g1 g2 g3 => ⟨gd, c', rfl, by rw [List.take_of_length_le (by omega), List.drop_of_length_le (by omega), List.append_nil]; exact g1, g2, g3⟩
  have hsv : SV w (vb + 1) (some ⟨vb, 0, none⟩) news := .inr ⟨vb, 0, rfl, by omega, fun j u hu => by rw [Nat.zero_add]; exact hvb j u hu⟩
  generalize InPost w base A n c xs news n = R at *
  have h63 : n + 1 ≤ maxLen := by unfold maxLen; omega
  have hby : (n + 1) * 64 ≤ 140737488355328 := by omega
  clear hvb hxl
  have hfin : ∀ (A' : Option Addr) (c' : Nat) (w' : World), w'.ownsRow base 65 4 (.slice A' (n + 1) c') (n + 1) (xs ++ news) → ∃ gd, A' = some ⟨gd, 0, none⟩ := fun A' c' w' h => by
    obtain ⟨g, cur, e, _⟩ := own_blk h (by omega)
    exact ⟨g, e⟩
  have HFI := Lib.hid hfin
  clear hfin
  rcases A with _ | ⟨ab, ao, asp⟩
  · have hn0 : n = 0 ∧ c = 0 := by
      obtain ⟨_, ⟨h2, h3⟩ | ⟨g, cap, cur, h2, _⟩⟩ := hown
      · injection h2 with _ h4 h5; exact ⟨h4, h5⟩
      · cases h2
    obtain ⟨rfl, rfl⟩ := hn0
    go_enter Tryz.func34, Tryz.ntmps34
    go_wp2_with (first | (at_builtin; refine wpList_appNo _ rfl (.tmp 23) (.tmp 24) 22 rfl base 65 i0 _ 4 64 Tryz.underlying22 hi0 hz0 hz1 hz2 rfl (by decide) none 0 0 xs rfl hown (vb + 1) (some ⟨vb, 0, none⟩) 1 1 news rfl (by omega) hsv h1 h63 hby hbase ?_))
    intro A' c' w' hown' hg' _ hob'
    obtain ⟨gd, rfl⟩ := HFI.out _ _ _ hown'
    have HR := Lib.hid (HF.out _ _ _ hown' hg' hob')
    clear hown' hg' hob'
    go_wp2_with fail
    exact HR.out
  · by_cases hcn : c = n
    all_goals
      first | subst hcn | (have hcn' : n < c := by omega)
      go_enter Tryz.func34, Tryz.ntmps34
      go_wp2_with (first | (at_builtin; refine wpList_appNo _ rfl (.tmp 23) (.tmp 24) 22 rfl base 65 i0 _ 4 64 Tryz.underlying22 hi0 hz0 hz1 hz2 rfl (by decide) (some ⟨ab, ao, asp⟩) _ _ xs rfl hown (vb + 1) (some ⟨vb, 0, none⟩) 1 1 news rfl (by omega) hsv h1 h63 hby hbase ?_))
      intro A' c' w' hown' hg' _ hob'
      obtain ⟨gd, rfl⟩ := HFI.out _ _ _ hown'
      have HR := Lib.hid (HF.out _ _ _ hown' hg' hob')
      clear hown' hg' hob'
      go_wp2_with fail
      exact HR.out

set_option maxRecDepth 100000 in
set_option maxHeartbeats 8000000 in
theorem insert_room (w : World) (base g n c i : Nat) (xs news : List Value) (vb : Nat) (nv : Array Value) (cur : Array Value) (hb : Blk w g 65 cur) (hg : base ≤ g) (hroom : n + 1 ≤ c) (hm : c ≤ maxLen) (hcs : cur.size = c * 4) (hx : cur.toList.take (n * 4) = xs) (hi : i < n) (hl : n ≤ 1000000)
    (hvb : Blk w vb 65 nv) (hnv : nv.toList = news) (hne : vb ≠ g) (hnl : news.length = 4) (h1 : ∀ u ∈ news, u.oneCell' = true) (hx1 : ∀ u ∈ xs, u.oneCell' = true) :
    Calls Tryz.prog 34 #[.slice (some ⟨g, 0, none⟩) n c, .int .i64 i, .slice (some ⟨vb, 0, none⟩) 1 1] w (InPost w base (some ⟨g, 0, none⟩) n c xs news i) := by
  obtain ⟨i0, hi0, hz0, hz1, hz2⟩ := info_parts info46
  have hxl : xs.length = n * 4 := by rw [← hx, List.length_take]; simp; omega
  have hcl : cur.toList.length = c * 4 := by simpa using hcs
  have hnvs : ∀ (w' : World), Blk w' vb 65 nv → ∀ j u, news[j]? = some u → w'.cell? ((⟨vb, 0, none⟩ : Addr).add j) = some u := fun w' hb' j u hu => by
    rw [add_none, Nat.zero_add, hb'.cell j, ← Array.getElem?_toList, hnv]; exact hu
  have HF : Hid (∀ (c2 : Array Value) (w' : World), c2.toList = (cur.toList.take (i * 4 + 4) ++ xs.drop (i * 4) ++ cur.toList.drop (i * 4 + 4 + (xs.drop (i * 4)).length)).take (i * 4) ++ news ++ (cur.toList.take (i * 4 + 4) ++ xs.drop (i * 4) ++ cur.toList.drop (i * 4 + 4 + (xs.drop (i * 4)).length)).drop (i * 4 + 4) →
      Blk w' g 65 c2 → w.grownBy w' (some g) → InPost w base (some ⟨g, 0, none⟩) n c xs news i (.returned (.slice (some ⟨g, 0, none⟩) (n + 1) c)) w') := Lib.hid fun c2 w' e2 hb2 hg2 => by
    have hil := ins_list (cur := cur.toList) (xs := xs) (news := news) (p := i * 4) (by rw [hxl]; exact hx) (by omega) (by omega)
    rw [hnl] at hil
    refine ⟨g, c, rfl, own_of_blk hb2 hg hroom hm ?_ ?_, hg2, .inl rfl⟩
    · have := congrArg List.length e2
      simp only [Array.length_toList, List.length_append, List.length_take, List.length_drop, hcl, hxl, hnl] at this
      rw [this]; omega
    · rw [e2, ← hil]; congr 1; omega
  have hsrc1 : ∀ j v, (xs.drop (i * 4))[j]? = some v → w.cell? ((⟨g, i * 4, none⟩ : Addr).add j) = some v := fun j v hj => by
    rw [add_none, hb.cell, ← Array.getElem?_toList]
    rw [List.getElem?_drop, ← hx, List.getElem?_take] at hj
    split at hj
    · exact hj
    · cases hj
  have hdl : (xs.drop (i * 4)).length = (n - i) * 4 := by rw [List.length_drop, hxl]; omega
  have hd1 : ∀ u ∈ xs.drop (i * 4), u.oneCell' = true := fun u hu => hx1 u (List.mem_of_mem_drop hu)
  have hov : ∀ lb cb, (callFunc 54 #[.slice (some ⟨vb, 0, none⟩) 1 1, .slice (some ⟨g, (i + 1) * 4, none⟩) lb cb]).run Tryz.prog w = .ok (.value (.bool false)) w := fun lb cb => overlaps_no w vb g nv cur hvb hb hne (by omega) 1 1 _ lb cb
  have hfit : (i + 1) * 4 + (xs.drop (i * 4)).length ≤ cur.size := by rw [hdl, hcs]; omega
  have hn1 : (xs.drop (i * 4)).length = Nat.min (n + 1 - i) (n + 1 - (i + 1)) * 4 := by
    rw [hdl]; congr 1; simp only [Nat.min_def]; split <;> omega
  unfold maxLen at hm
  have hw1 : IntKind.i64.wrap ((i : Int) + 1) = (i : Int) + 1 := by rw [IntKind.wrap_i64]; omega
  have hb1 : (0 : Int) ≤ (i : Int) + 1 := by omega
  have htn : ((i : Int) + 1).toNat = i + 1 := by omega
  have hbi : (i : Int) ≤ n := by omega
  have hb3 : (i : Int) ≤ (n : Int) + 1 := by omega
  have hz2' : ((i : Int) == (n : Int)) = false := by simp; omega
  have hz3 : ¬ (c : Int) < (n : Int) + 1 := by omega
  have hci : ¬ (c = i) := by omega
  have hci1 : ¬ (c = i + 1) := by omega
  have HD := Lib.hid hdl
  have HX := Lib.hid hxl
  have HN := Lib.hid hnl
  have HC := Lib.hid hcl
  clear hdl hxl hcl hx hx1 hnl
  generalize InPost w base (some ⟨g, 0, none⟩) n c xs news i = R at *
  go_enter Tryz.func34, Tryz.ntmps34
  go_wp2_with (simp only [hov])
  go_region_law
    (refine step_copy_into _ rfl (.tmp 73) (.tmp 76) 22 22 rfl 65 i0 4 Tryz.underlying22 hi0 hz1 g ((i + 1) * 4) (n + 1 - (i + 1)) (c - (i + 1)) (by simp [Act.eval, Act.put]) ⟨g, i * 4, none⟩ (n + 1 - i) (c - i) (by simp [Act.eval, Act.put]) cur 65 (xs.drop (i * 4)) hb hn1 hsrc1 hfit hd1 ?_; intro w2 hb2 hg2 hz2)
  all_goals
    have hv2 := hvb.drew.grown hg2 (fun e => hne (by simpa using e))
    have hsz2 : i * 4 + news.length ≤ (spl cur ((i + 1) * 4) (xs.drop (i * 4))).size := by
      rw [HN.out]; simp only [spl, List.size_toArray, List.length_append, List.length_take, List.length_drop, HC.out]; omega
    have hn2 : news.length = Nat.min 1 (n + 1 - i) * 4 := by
      rw [HN.out, show Nat.min 1 (n + 1 - i) = 1 by simp only [Nat.min_def]; split <;> omega]
    have hs2 := hnvs w2 hv2
    have HB2 : Hid (∀ w', Blk w' g 65 (spl (spl cur ((i + 1) * 4) (xs.drop (i * 4))) (i * 4) news) →
        w2.grownBy w' (some g) → R (.returned (.slice (some ⟨g, 0, none⟩) (n + 1) c)) w') := Lib.hid fun w' h2 h3 => by
      refine HF.out _ w' ?_ h2 ⟨h3.os.trans hg2.os, h3.tape.trans hg2.tape, h3.output.trans hg2.output, Nat.le_trans hg2.size h3.size, fun b hb hk => (h3.block b (Nat.lt_of_lt_of_le hb hg2.size) hk).trans (hg2.block b hb hk)⟩
      simp only [spl]
      rw [HN.out, show (i + 1) * 4 = i * 4 + 4 by omega]
    generalize hcu : spl cur ((i + 1) * 4) (xs.drop (i * 4)) = cur2 at *
    clear hcu hsrc1 hd1 hn1 hfit hov hnvs hv2 hg2 HF
    go_wp2_with (first | (with_reducible refine wpList_copy_into _ rfl (.tmp 80) (.tmp 81) 22 22 rfl 65 i0 4 Tryz.underlying22 hi0 hz1 g (i * 4) (n + 1 - i) (c - i) rfl ⟨vb, 0, none⟩ 1 1 rfl cur2 65 news hb2 hn2 hs2 hsz2 h1 ?_))
    intro w3 hb3' hg3 hz3'
    have HR := Lib.hid (HB2.out w3 hb3' hg3)
    clear hb3' hg3 hz3'
    go_wp2_with fail
    exact HR.out
set_option maxRecDepth 100000 in
set_option maxHeartbeats 8000000 in
theorem insert_grow (w : World) (base g n i : Nat) (xs news : List Value) (vb : Nat) (nv : Array Value) (cur : Array Value) (hb : Blk w g 65 cur) (hbase : base ≤ w.heap.size) (hcs : cur.size = n * 4) (hx : cur.toList.take (n * 4) = xs) (hi : i < n) (hl : n ≤ 1000000)
    (hvb : Blk w vb 65 nv) (hnv : nv.toList = news) (hnl : news.length = 4) (h1 : ∀ u ∈ news, u.oneCell' = true) (hx1 : ∀ u ∈ xs, u.oneCell' = true) :
    Calls Tryz.prog 34 #[.slice (some ⟨g, 0, none⟩) n n, .int .i64 i, .slice (some ⟨vb, 0, none⟩) 1 1] w (InPost w base (some ⟨g, 0, none⟩) n n xs news i) := by
  obtain ⟨i0, hi0, hz0, hz1, hz2⟩ := info_parts info46
  have hxl : xs.length = n * 4 := by rw [← hx, List.length_take]; simp; omega
  have hxg : ∀ j u, xs[j]? = some u → w.cell? ⟨g, j, none⟩ = some u := fun j u hu => by
    rw [hb.cell, ← Array.getElem?_toList]
    rw [← hx, List.getElem?_take] at hu
    split at hu
    · exact hu
    · cases hu
  have hnvs : ∀ (w' : World), Blk w' vb 65 nv → ∀ j u, news[j]? = some u → w'.cell? ((⟨vb, 0, none⟩ : Addr).add j) = some u := fun w' hb' j u hu => by
    rw [add_none, Nat.zero_add, hb'.cell j, ← Array.getElem?_toList, hnv]; exact hu
  have hxs : ∀ (w' : World), Blk w' g 65 cur → ∀ j u, (xs.drop (i * 4))[j]? = some u → w'.cell? ((⟨g, i * 4, none⟩ : Addr).add j) = some u := fun w' hb' j u hu => by
    rw [add_none, hb'.cell, ← Array.getElem?_toList]
    rw [List.getElem?_drop, ← hx, List.getElem?_take] at hu
    split at hu
    · exact hu
    · cases hu
  have hol : (xs.take (i * 4)).length = i * 4 := by rw [List.length_take, hxl]; omega
  have hos : ∀ j v, (xs.take (i * 4))[j]? = some v → w.cell? ((⟨g, 0, none⟩ : Addr).add j) = some v := fun j v hj => by
    rw [add_none, Nat.zero_add]
    rw [List.getElem?_take] at hj
    split at hj
    · exact hxg j v hj
    · cases hj
  have hkk : (n : Int) + 1 - (i : Int) = ((n + 1 - i : Nat) : Int) := by omega
  have hik : i + (n + 1 - i) = n + 1 := by omega
  have hdl : (xs.drop (i * 4)).length = (n - i) * 4 := by rw [List.length_drop, hxl]; omega
  have hd1 : ∀ u ∈ xs.drop (i * 4), u.oneCell' = true := fun u hu => hx1 u (List.mem_of_mem_drop hu)
  have hn1 : news.length = Nat.min 1 (n + 1 - i) * 4 := by rw [hnl, show Nat.min 1 (n + 1 - i) = 1 by simp only [Nat.min_def]; split <;> omega]
  have hn2 : (xs.drop (i * 4)).length = Nat.min (n - i) (n + 1 - (i + 1)) * 4 := by
    rw [hdl]; congr 1; simp only [Nat.min_def]; split <;> omega
  have HF : Hid (∀ (q : Nat) (row : Array Value) (w' : World), n + 1 ≤ q → q ≤ 9223372036854775807 → row.size = q * 4 → row.toList.take (i * 4) = xs.take (i * 4) → Blk w' w.heap.size 65 (spl (spl row (i * 4) news) ((i + 1) * 4) (xs.drop (i * 4))) → w.grownBy w' none → 
      InPost w base (some ⟨g, 0, none⟩) n n xs news i (.returned (.slice (some ⟨w.heap.size, 0, none⟩) (n + 1) q)) w') := Lib.hid fun q row w' h2 h3 h4 h5 h6 h7 => by
    have hrl : row.toList.length = q * 4 := by simpa using h4
    have hil := ins_list2 (cur := row.toList) (xs := xs) (news := news) (p := i * 4) h5 (by omega) (by omega)
    rw [hnl] at hil
    refine ⟨w.heap.size, q, rfl, own_of_blk h6 hbase h2 (by unfold maxLen; omega) ?_ ?_, ⟨h7.os, h7.tape, h7.output, h7.size, fun b hb _ => h7.block b hb (by simp)⟩, .inr rfl⟩
    · simp only [spl, List.size_toArray, List.length_append, List.length_take, List.length_drop, hrl, hxl, hnl]; omega
    · simp only [spl, hnl]
      rw [show (i + 1) * 4 = i * 4 + 4 by omega, ← hil]
      congr 1
      omega
  have hw1 : IntKind.i64.wrap ((i : Int) + 1) = (i : Int) + 1 := by rw [IntKind.wrap_i64]; omega
  have hb1 : (0 : Int) ≤ (i : Int) + 1 := by omega
  have htn : ((i : Int) + 1).toNat = i + 1 := by omega
  have hbi : (i : Int) ≤ n := by omega
  have hz2' : ((i : Int) == (n : Int)) = false := by simp; omega
  have hz3 : (n : Int) < (n : Int) + 1 := by omega
  have hci : ¬ (n = i) := by omega
  have hgw := hb.lt
  have hvw := hvb.lt
  have hsum : i ≤ n + 1 := by omega
  have HN := Lib.hid hnl
  have HX := Lib.hid hxl
  have HD := Lib.hid hdl
  have HKK := Lib.hid hkk
  have HIK := Lib.hid hik
  clear hdl hxl hcs hx hx1 hnl hxg hkk hik
  generalize InPost w base (some ⟨g, 0, none⟩) n n xs news i = R at *
  go_enter Tryz.func34, Tryz.ntmps34
  go_wp2_with (first | (at_builtin; refine wpList_app_zeros _ rfl (.tmp 34) (.tmp 39) 22 3 rfl 65 i0 _ .i64 4 64 Tryz.underlying22 Tryz.underlying3 hi0 hz0 hz1 hz2 rfl (by decide) ⟨g, 0, none⟩ i n (xs.take (i * 4)) rfl hol hos .i64 (n + 1 - i) (congrArg (Value.int .i64) HKK.out) ?c1 ?c2 ?c3 ?c4 ?c5 ?_))
  case c1 => omega
  case c2 => omega
  case c3 => omega
  case c4 => omega
  case c5 => omega
  intro q row w2 hq1 hq2 hrs hrt hrb hg2 hsz2
  have hv2 := hvb.grown hg2 (by simp)
  have hb2 := hb.grown hg2 (by simp)
  have hs2 := hnvs w2 hv2
  have hfit2 : i * 4 + news.length ≤ row.size := by rw [HN.out, hrs]; omega
  have hqi : ¬ (q = i) := by omega
  have hqi1 : ¬ (q = i + 1) := by omega
  have hle1 : (i : Int) ≤ (n : Int) + 1 := by omega
  have HF2 := Lib.hid (fun w' h6 h7 => HF.out q row w' hq1 hq2 hrs hrt h6 h7)
  have hrs2 := Lib.hid hrs
  clear hrs hrt hos HF
  go_wp2_with (first | (with_reducible refine wpList_copy_into _ rfl (.tmp 43) (.tmp 44) 22 22 rfl 65 i0 4 Tryz.underlying22 hi0 hz1 w.heap.size (i * 4) (n + 1 - i) (q - i) rfl ⟨vb, 0, none⟩ 1 1 rfl row 65 news hrb hn1 hs2 hfit2 h1 ?_))
  intro w3 hb3' hg3 hz3'
  have hne3 : some g ≠ some w.heap.size := by simp; omega
  have hb3 := hb2.grown hg3 hne3
  have hs3 := hxs w3.drew hb3.drew
  have hfit3 : (i + 1) * 4 + (xs.drop (i * 4)).length ≤ (spl row (i * 4) news).size := by
    rw [HD.out]; simp only [spl, List.size_toArray, List.length_append, List.length_take, List.length_drop, Array.length_toList, HN.out, hrs2.out]; omega
  have HF3 : Hid (∀ w', Blk w' w.heap.size 65 (spl (spl row (i * 4) news) ((i + 1) * 4) (xs.drop (i * 4))) → w3.drew.grownBy w' (some w.heap.size) → R (.returned (.slice (some ⟨w.heap.size, 0, none⟩) (n + 1) q)) w') := Lib.hid fun w' h6 h7 =>
    HF2.out w' h6 ⟨h7.os.trans (hg3.os.trans hg2.os), h7.tape.trans (hg3.tape.trans hg2.tape), h7.output.trans (hg3.output.trans hg2.output), Nat.le_trans hg2.size (Nat.le_trans hg3.size h7.size), fun k hk _ => by
      have hk2 := Nat.lt_of_lt_of_le hk hg2.size
      have hne : some k ≠ some w.heap.size := by simp; omega
      exact (h7.block k (Nat.lt_of_lt_of_le hk2 hg3.size) hne).trans ((hg3.block k hk2 hne).trans (hg2.block k hk (by simp)))⟩
  generalize hcu : spl row (i * 4) news = cur2 at *
  clear hcu HF2 hs2 hfit2 hrb hv2 hb2 hnvs hxs hg2 hg3 hb3
  go_wp2_with fail
  go_region_law
    (refine step_copy_into _ rfl (.tmp 50) (.tmp 53) 22 22 rfl 65 i0 4 Tryz.underlying22 hi0 hz1 w.heap.size ((i + 1) * 4) (n + 1 - (i + 1)) (q - (i + 1)) (by simp [Act.eval, Act.put]) ⟨g, i * 4, none⟩ (n - i) (n - i) (by simp [Act.eval, Act.put]) cur2 65 (xs.drop (i * 4)) hb3'.drew hn2 hs3 hfit3 hd1 ?_; intro w4 hb4' hg4 hz4'; have HR := Lib.hid (HF3.out w4 hb4' hg4); clear hb4' hg4 hz4')
  all_goals
    go_wp2_with fail
    exact HR.out
end Go.Proofs.YtipjejnncnndeaaGreatDoor
namespace Go.V
open Go.RowKit
/-- All but one block and one row are as they were. -/
structure TouchS (w w' : World) (g : Nat) (row : Option Nat) : Prop where
  os : w'.os = w.os
  tape : w'.tape = w.tape
  output : w'.output = w.output
  size : w.heap.size ≤ w'.heap.size
  block : ∀ b, b < w.heap.size → b ≠ g → some b ≠ row → w'.heap[b]? = w.heap[b]?
theorem TouchS.of_below {w w' : World} (h : Below w.heap.size w w') (g : Nat) (row : Option Nat) : TouchS w w' g row := ⟨h.os, h.tape, h.output, h.size, fun b hb _ _ => h.block b hb⟩
theorem TouchS.below {w w' : World} {g B : Nat} {row : Option Nat} (h : TouchS w w' g row) (hB : B ≤ w.heap.size) (hg : B ≤ g) (hr : ∀ k, row = some k → B ≤ k) : Below B w w' :=
  ⟨h.os, h.tape, h.output, h.size, fun b hb => h.block b (by omega) (by omega) (fun e => by have := hr b e.symm; omega)⟩
theorem TouchS.grown {w w1 w' : World} {g : Nat} {row : Option Nat} (h : Below w.heap.size w w1) (hg : w1.grownBy w' row) : TouchS w w' g row :=
  ⟨hg.os.trans h.os, hg.tape.trans h.tape, hg.output.trans h.output, Nat.le_trans h.size hg.size, fun b hb _ hr => (hg.block b (Nat.lt_of_lt_of_le hb h.size) hr).trans (h.block b hb)⟩
theorem TouchS.set {w w' : World} {g : Nat} {row : Option Nat} (h : TouchS w w' g row) (i : Nat) (v : Value) : TouchS w (w'.setCell ⟨g, i, none⟩ v) g row :=
  ⟨h.os, h.tape, h.output, by simpa [World.setCell] using h.size, fun b hb hne hr => (Below.heap_setCell w' ⟨g, i, none⟩ v b hne).trans (h.block b hb hne hr)⟩
theorem Blk.touchS {w w' : World} {g b : Nat} {row : Option Nat} {t : TypeId} {cs : Array Value} (hb : Blk w b t cs) (h : TouchS w w' g row) (hne : b ≠ g) (hr : some b ≠ row) : Blk w' b t cs := (h.block b hb.lt hne hr).trans hb
end Go.V
namespace Ob
/-- What 'add' answers, and the store behind it. -/
def addOk (s : List S) (d : Int) (o : O) : Bool := if fnd s d then Go.Proofs.YtipjejnncnndeaaGreatDoor.eqO (it s (lb s d)).ob o else true
def addS (s : List S) (d : Int) (o : O) : List S := if fnd s d then s else s.take (lb s d) ++ [⟨d, o⟩] ++ s.drop (lb s d)
end Ob
namespace Go.V
open Go.RowKit
theorem RowsR.take {α : Type} {R : α → List Value → Prop} {k : Nat} (hk : ∀ a cs, R a cs → cs.length = k) : ∀ {l : List α} {vs : List Value}, RowsR R l vs → ∀ i, RowsR R (l.take i) (vs.take (i * k)) ∧ RowsR R (l.drop i) (vs.drop (i * k))
  | l, vs, h, 0 => by simp [RowsR]; exact h
  | [], vs, h, i + 1 => by simp only [RowsR] at h; subst h; simp [RowsR]
  | a :: l, vs, h, i + 1 => by
    obtain ⟨cs, rest, rfl, hc, hr⟩ := h
    have hl := hk a cs hc
    obtain ⟨h1, h2⟩ := RowsR.take hk hr i
    have e : (i + 1) * k = cs.length + i * k := by rw [Nat.add_mul, hl]; omega
    rw [e, List.take_length_add_append, List.drop_length_add_append]
    exact ⟨⟨cs, _, rfl, hc, h1⟩, h2⟩
end Go.V
namespace Go.Proofs.YtipjejnncnndeaaGreatDoor
open Go.RowKit Go.V
set_option linter.unusedVariables false

theorem rows_one {w : World} {X : Nat → Prop} : ∀ {s : List Ob.S} {xs : List Value}, RowsR (StR w X) s xs → ∀ u ∈ xs, u.oneCell' = true
  | [], xs, h, u, hu => by simp only [RowsR] at h; subst h; cases hu
  | a :: l, xs, h, u, hu => by
    obtain ⟨cs, rest, rfl, ⟨Al, kl, Ad, kd, rfl, _⟩, hr⟩ := h
    rcases List.mem_append.1 hu with hu | hu
    · exact st_one _ _ _ _ _ _ _ _ u hu
    · exact rows_one hr u hu
theorem insert_any (w : World) (base : Nat) (A : Option Addr) (n c i : Nat) (xs : List Value) (nv : Array Value) (vb : Nat) (hown : w.ownsRow base 65 4 (.slice A n c) n xs) (hi : i ≤ n) (hl : n ≤ 1000000) (hbase : base ≤ w.heap.size)
    (hvb : Blk w vb 65 nv) (hnl : nv.size = 4) (hne : some vb ≠ (Value.slice A n c).ownBlock) (h1 : ∀ u ∈ nv.toList, u.oneCell' = true) (hx1 : ∀ u ∈ xs, u.oneCell' = true) :
    Calls Tryz.prog 34 #[.slice A n c, .int .i64 i, .slice (some ⟨vb, 0, none⟩) 1 1] w (InPost w base A n c xs nv.toList i) := by
  by_cases hin : i = n
  · subst hin
    exact insert_end w base A i c xs nv.toList vb hown hl hbase (by simpa using hnl) (fun j u hu => by rw [hvb.cell, ← Array.getElem?_toList]; exact hu) h1
  · obtain ⟨g, cur, rfl, _, hg, hb, hc, hm, hcs, hx⟩ := own_blk hown (by omega)
    have hne' : vb ≠ g := fun e => hne (by rw [e]; rfl)
    by_cases hr : n + 1 ≤ c
    · exact insert_room w base g n c i xs nv.toList vb nv cur hb hg hr hm hcs hx (by omega) hl hvb rfl hne' (by simpa using hnl) h1 hx1
    · obtain rfl : c = n := by omega
      exact insert_grow w base g c i xs nv.toList vb nv cur hb hbase hcs hx (by omega) hl hvb rfl (by simpa using hnl) h1 hx1
theorem own_new_ne {w : World} {base : Nat} {e : TypeId} {size n : Nat} {v : Value} {xs : List Value} (h : w.ownsRow base e size v n xs) : some w.heap.size ≠ v.ownBlock := fun e => by have := (h.lt _ e.symm).2; omega
theorem hne46 : (65 : TypeId) ≠ 24 := by decide
/-- A store in a variable of the call's own. -/
structure OutSt (w : World) (g base : Nat) (X : Nat → Prop) (A : Option Addr) (c : Nat) (s : List Ob.S) (xs : List Value) : Prop where
  blk : Blk w g 24 #[.slice A s.length c]
  own : w.ownsRow base 65 4 (.slice A s.length c) s.length xs
  rows : RowsR (StR w (Or1 X (.slice A s.length c))) s xs
  hX : X g
  hi : base ≤ w.heap.size
section
variable {w w' : World} {g base : Nat} {X : Nat → Prop} {A : Option Addr} {c : Nat} {s : List Ob.S} {xs : List Value}
theorem OutSt.below (h : OutSt w g base X A c s xs) (hb : Below w.heap.size w w') : OutSt w' g base X A c s xs :=
  ⟨h.blk.below hb h.blk.lt, h.own.kept (only_of_below hb none) (by cases hv : (Value.slice A s.length c).ownBlock <;> simp), h.rows.mono (StR.keep (Keeps.below hb (fun _ _ h => h))), h.hX, Nat.le_trans h.hi hb.size⟩
theorem OutSt.view (h : OutSt w g base X A c s xs) : StV w Free A s :=
  ⟨xs, SA.of_own' h.own (fun _ _ h => h), h.rows.mono (StR.keep ((Keeps.refl w _).into fun _ h => h.elim))⟩
end
def AdPost (w : World) (g base : Nat) (X : Nat → Prop) (A : Option Addr) (c : Nat) (s : List Ob.S) (d : Int) (o : Ob.O) (e : Ending) (w' : World) : Prop :=
  ∃ A' c' xs', e = .returned (.bool (Ob.addOk s d o)) ∧ OutSt w' g base X A' c' (Ob.addS s d o) xs' ∧ TouchS w w' g (Value.slice A s.length c).ownBlock
set_option maxRecDepth 100000 in
set_option maxHeartbeats 16000000 in
theorem add_any (w : World) (g base : Nat) (X : Nat → Prop) (A : Option Addr) (c : Nat) (s : List Ob.S) (xs : List Value) (d : Int) (o : Ob.O) (Al : Option Addr) (kl : Nat) (Ad : Option Addr) (kd : Nat)
    (h : OutSt w g base X A c s xs) (hXs : ∀ b, X b → b < w.heap.size) (hs : Ob.Sorted s) (hl : s.length ≤ 100000) (hd : I64 d) (ho : ObA w Free o Al kl Ad kd) (hlk : o.links.length * 8 ≤ 140737488351232) :
    Calls Tryz.prog 19 #[.pointer (some ⟨g, 0, none⟩), .int .i64 d, obV o Al kl Ad kd] w (AdPost w g base X A c s d o) := by
  have hOL := Ob.lb_le s d
  have hb1 := below_alloc1 w (.cells #[.int .i64 o.kind, .slice Al o.links.length kl, .slice Ad o.data.length kd] 48)
  have h1 := h.below hb1
  have HFI := Lib.hid (find_any _ A c s d h1.view (by omega) hs)
  have HOV := Lib.hid (fun (w' : World) (hb : Below w.heap.size w w') => ho.keep (free_below hb))
  have HST := Lib.hid (fun (w' : World) (hb : Below w.heap.size w w') => h.below hb)
  have q0 := h1.blk.cell 0
  simp only [List.getElem?_toArray, List.getElem?_cons_zero] at q0
  have HSR := Lib.hid hs
  have hgl := h1.blk.lt
  clear h1 hs
  by_cases hf : Ob.fnd s d = true
  · have hpl : Ob.lb s d < s.length := by
      unfold Ob.fnd at hf; rw [Bool.and_eq_true] at hf; simpa using hf.1
    have HOK : Hid (Ob.addOk s d o = eqO (Ob.it s (Ob.lb s d)).ob o) := Lib.hid (by unfold Ob.addOk; rw [hf]; rfl)
    have HAS : Hid (Ob.addS s d o = s) := Lib.hid (by unfold Ob.addS; rw [hf]; rfl)
    rw [hf] at HFI
    clear hf
    have HROW := Lib.hid (fun (w' : World) (hb : Below w.heap.size w w') => ((h.view).keep (free_below hb)).row (w := w') _ hpl)
    have HSM := Lib.hid (fun (w' : World) (hb : Below w.heap.size w w') Al' kl' Ad' kd' (h' : ObA w' Free (Ob.it s (Ob.lb s d)).ob Al' kl' Ad' kd') => same_any w' (Ob.it s (Ob.lb s d)).ob o Al' kl' Ad' kd' Al kl Ad kd h' (HOV.out w' hb))
    generalize hx : Ob.it s (Ob.lb s d) = x at *
    clear hx
    generalize eqO x.ob o = q at *
    obtain ⟨xd, kk', ls', da'⟩ := x
    obtain ⟨kk, ls, da⟩ := o
    simp only at *
    generalize Ob.lb s d = p at *
    have hpi : (p : Int) < s.length := by omega
    go_enter Tryz.func19, Tryz.ntmps19
    go_wp2_with fail
    go_at_call 23
    refine HFI.out.mono ?_
    rintro e w2 ⟨rfl, hb2⟩
    have hbw := hb1.trans (hb2.mono hb1.size)
    have h2 := HST.out _ hbw
    have r0 := h2.blk.cell 0
    simp only [List.getElem?_toArray, List.getElem?_cons_zero] at r0
    have blx := (Blk.new w 48 #[.int .i64 kk, .slice Al ls.length kl, .slice Ad da.length kd]).below hb2 (by simp)
    have x0 := blx.cell 0
    have x1 := blx.cell 1
    have x2 := blx.cell 2
    simp only [List.getElem?_toArray, List.getElem?_cons_zero, List.getElem?_cons_succ] at x0 x1 x2
    have hk0 : Below w2.heap.size w2 w2.drew := below_drew' (Below.refl _ _)
    obtain ⟨b, off, Al', kl', Ad', kd', eA, hb, _, d0, d1, d2, d3, _, hob⟩ := HROW.out _ hbw
    subst eA
    have hobd := hob.keep (free_below hk0)
    have HK : Hid (∀ w6 : World, Below w2.heap.size w2 w6 → w6.cell? ⟨g, 0, none⟩ = some (.slice (some ⟨b, off, none⟩) s.length c) ∧ w6.cell? ⟨w.heap.size, 0, none⟩ = some (.int .i64 kk) ∧ w6.cell? ⟨w.heap.size, 1, none⟩ = some (.slice Al ls.length kl) ∧ w6.cell? ⟨w.heap.size, 2, none⟩ = some (.slice Ad da.length kd) ∧
        w6.cell? ⟨b, off + p * 4 + 1, none⟩ = some (.int .i64 kk') ∧ w6.cell? ⟨b, off + p * 4 + 1 + 1, none⟩ = some (.slice Al' ls'.length kl') ∧ w6.cell? ⟨b, off + p * 4 + 1 + 2, none⟩ = some (.slice Ad' da'.length kd')) := Lib.hid fun w6 h6 =>
      ⟨(h6.cell (p := ⟨_, _, none⟩) h2.blk.lt).trans r0, (h6.cell (p := ⟨_, _, none⟩) blx.lt).trans x0, (h6.cell (p := ⟨_, _, none⟩) blx.lt).trans x1, (h6.cell (p := ⟨_, _, none⟩) blx.lt).trans x2, (h6.cell (p := ⟨_, _, none⟩) hb).trans d1, (h6.cell (p := ⟨_, _, none⟩) hb).trans d2, (h6.cell (p := ⟨_, _, none⟩) hb).trans d3⟩
    have hp0 : (0 : Int) ≤ p := by omega
    clear hb2 HFI d0 d1 d2 d3 hob
    go_wp2_with fail
    go_region_held3 (fun w6 => w6.cell? ⟨g, 0, none⟩ = some (.slice (some ⟨b, off, none⟩) s.length c) ∧ w6.cell? ⟨w.heap.size, 0, none⟩ = some (.int .i64 kk) ∧ w6.cell? ⟨w.heap.size, 1, none⟩ = some (.slice Al ls.length kl) ∧ w6.cell? ⟨w.heap.size, 2, none⟩ = some (.slice Ad da.length kd) ∧
        w6.cell? ⟨b, off + p * 4 + 1, none⟩ = some (.int .i64 kk') ∧ w6.cell? ⟨b, off + p * 4 + 1 + 1, none⟩ = some (.slice Al' ls'.length kl') ∧ w6.cell? ⟨b, off + p * 4 + 1 + 2, none⟩ = some (.slice Ad' da'.length kd'))
      (first | exact HK.out _ hk0 | exact HK.out _ hk3)
      (first | (go_at_call 33; (with_reducible refine (HSM.out _ (hbw.trans (hk0.mono hbw.size)) _ _ _ _ hobd).mono ?_); rintro e w3 ⟨rfl, hb3⟩; have hk3 : Below w2.heap.size w2 w3 := hk0.trans (hb3.mono hk0.size)))
    go_wp2_with fail
    go_ret
    refine ⟨_, c, xs, by rw [HOK.out]; rfl, by rw [HAS.out]; exact h2.below hk3, .of_below (hbw.trans (hk3.mono hbw.size)) _ _⟩
  · have hff : Ob.fnd s d = false := by simpa using hf
    clear hf
    have HOK : Hid (Ob.addOk s d o = true) := Lib.hid (by unfold Ob.addOk; rw [hff]; rfl)
    have HAS : Hid (Ob.addS s d o = s.take (Ob.lb s d) ++ [⟨d, o⟩] ++ s.drop (Ob.lb s d)) := Lib.hid (by unfold Ob.addS; rw [hff]; rfl)
    rw [hff] at HFI
    clear hff
    have HCO := Lib.hid (fun (w' : World) (hb : Below w.heap.size w w') => copyObject_any w' o Al kl Ad kd (HOV.out w' hb) hlk)
    obtain ⟨kk, ls, da⟩ := o
    simp only at *
    generalize Ob.lb s d = p at *
    go_enter Tryz.func19, Tryz.ntmps19
    go_wp2_with fail
    go_at_call 23
    refine HFI.out.mono ?_
    rintro e w2 ⟨rfl, hb2⟩
    have hbw := hb1.trans (hb2.mono hb1.size)
    have h2 := HST.out _ hbw
    have r0 := h2.blk.cell 0
    simp only [List.getElem?_toArray, List.getElem?_cons_zero] at r0
    have blx := (Blk.new w 48 #[.int .i64 kk, .slice Al ls.length kl, .slice Ad da.length kd]).below hb2 (by simp)
    have x0 := blx.cell 0
    have x1 := blx.cell 1
    have x2 := blx.cell 2
    simp only [List.getElem?_toArray, List.getElem?_cons_zero, List.getElem?_cons_succ] at x0 x1 x2
    clear hb2 HFI
    go_wp2_with fail
    have hk0 : Below w2.heap.size w2 w2.drew := below_drew' (Below.refl _ _)
    have hplen : p ≤ s.length := hOL
    have hl6 : s.length ≤ 1000000 := by omega
    go_region_law
      (first
        | (go_simp; go_at_call 29; (with_reducible refine (HCO.out _ (hbw.trans (hk0.mono hbw.size))).mono ?_); rintro e w3 ⟨A1, k1, A2, k2, rfl, hob3, hb3⟩; have hk3 : Below w2.heap.size w2 w3 := hk0.trans (hb3.mono hk0.size); have h3 := h2.below hk3; have p0 := (h3.blk.cell 0).trans (rfl : _ = some (Value.slice A s.length c)); have z3 := h3.blk.lt; go_wp2_with fail)
        | (go_simp; go_at_call 34; (with_reducible refine (insert_any _ base A s.length c p xs #[.int .i64 d, .int .i64 kk, .slice A1 ls.length k1, .slice A2 da.length k2] w3.heap.size (h3.own.alloc _) hplen hl6 (Nat.le_trans h3.hi (size_alloc_le _ _)) (Blk.new w3 65 #[.int .i64 d, .int .i64 kk, .slice A1 ls.length k1, .slice A2 da.length k2]) rfl (own_new_ne h3.own) (st_one _ _ _ _ _ _ _ _) (rows_one h3.rows)).mono ?_); rintro e w4 ⟨gd, c4, rfl, hown4, hg4, hob4⟩; have own3 := h3.own.alloc (.cells #[.int .i64 d, .int .i64 kk, .slice A1 ls.length k1, .slice A2 da.length k2] 65); have blk3 := h3.blk.alloc (.cells #[.int .i64 d, .int .i64 kk, .slice A1 ls.length k1, .slice A2 da.length k2] 65); have blk4 := blk3.grown hg4 (own_blk_ne own3 blk3 hne46); have r5 := (blk4.cell 0).trans (rfl : _ = some (Value.slice A s.length c)); have r6 := blk4.frozen 0; go_wp2_with fail))
    all_goals
      go_wp2_with fail
      go_ret
      have hkp := ((Keeps.alloc w3 (Or1 X (.slice A s.length c)) (.cells #[.int .i64 d, .int .i64 kk, .slice A1 ls.length k1, .slice A2 da.length k2] 65)).trans (Keeps.or1 hg4 rfl hob4)).trans (Keeps.setCell w4 _ ⟨g, 0, none⟩ (.slice (some ⟨gd, 0, none⟩) (s.length + 1) c4) (.inl h.hX))
      have hrows := RowsR.take StR.len (h3.rows.mono (StR.keep hkp)) p
      have hlen : (Ob.addS s d ⟨kk, ls, da⟩).length = s.length + 1 := by rw [HAS.out]; simp; omega
      refine ⟨some ⟨gd, 0, none⟩, c4, xs.take (p * 4) ++ (#[.int .i64 d, .int .i64 kk, .slice A1 ls.length k1, .slice A2 da.length k2] : Array Value).toList ++ xs.drop (p * 4), by rw [HOK.out]; rfl, ⟨?_, ?_, ?_, h.hX, ?_⟩, ?_⟩
      · rw [hlen]; simpa using blk4.set_ 0 (.slice (some ⟨gd, 0, none⟩) (s.length + 1) c4)
      · rw [hlen]; exact own_setCell hown4 (own_blk_ne hown4 blk4 hne46) _
      · rw [hlen, HAS.out]
        refine (hrows.1.append (RowsR.one ⟨A1, k1, A2, k2, rfl, hd, ObA.keep ?_ hkp⟩)).append hrows.2
        exact hob3.mono_ (fun b hb => by
          rcases hb with hb | hb
          · exact Nat.lt_of_lt_of_le (hXs b hb) (hbw.trans (hk0.mono hbw.size)).size
          · exact Nat.lt_of_lt_of_le (h2.own.lt b hb).2 hk0.size)
      · have := hg4.size; have := h3.hi; simp [World.setCell] at *; omega
      · refine (TouchS.grown (w1 := w3.alloc (.cells #[.int .i64 d, .int .i64 kk, .slice A1 ls.length k1, .slice A2 da.length k2] 65)) ?_ hg4).set 0 _
        exact ((hbw.trans (hk3.mono hbw.size))).alloc (hbw.trans (hk3.mono hbw.size)).size _
end Go.Proofs.YtipjejnncnndeaaGreatDoor
