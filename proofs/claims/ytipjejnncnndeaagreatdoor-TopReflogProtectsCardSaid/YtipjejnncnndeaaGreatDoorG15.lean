/-
  Views, thirteenth part: opening slices of elements of any shape, and structs by value.
  Stores, references and logs that came in; the row's wrap.
-/
import Derived.Test.YtipjejnncnndeaaGreatDoorG09
import Derived.Test.YtipjejnncnndeaaGreatDoorG01
import Derived.Test.YtipjejnncnndeaaGreatDoorG14
import Derived.Deep.Strs
import Derived.Test.YtipjejnncnndeaaGreatDoorG07
import Derived.Test.YtipjejnncnndeaaGreatDoorG02
import Derived.ShutString
import Derived.Lib.SmallJoins
import Derived.Deep.DeepHandedRow
import Derived.Shelf.Vars
import Derived.Lay
import Derived.LaidLaws
namespace Go.V
open Go.RowKit Go.ChangeShapes Go.WideShapes Go.ChangeAt Go.Deep

section
variable {H : Type} {enc : TypeId × Value → H} {P : Program} {w : World} {base : Nat} {spare : Nat → Bool} {held : Bool}
/-- A slice of elements of k cells, element by element. -/
theorem open_rowsG {α : Type} {R : α → List Value → Prop} {t e : TypeId} {k : Nat} {fuel : Nat} {cs : List Value} {x : DataW H × List MemPlace} (ht : P.underlying t = some (.slice e))
    (hC : P.cellsOf e = k) (h0 : 0 < k) (h : DataW.trod enc P w base spare held fuel t cs = some x) (hz : ∀ n ∈ x.1.weights P t, n ≤ reachBytes)
    (hR : ∀ (cs' : List Value) (n : Nat) (y : DataW H × List MemPlace), cs'.length = k → DataW.trod enc P w base spare held n e cs' = some y → (∀ m ∈ y.1.weights P e, m ≤ reachBytes) → ∃ a, R a cs') :
    ∃ A c l vs, cs = [.slice A l.length c] ∧ l.length ≤ c ∧ c ≤ maxLen ∧ l.length * P.bytesOf e ≤ reachBytes ∧ SV w w.heap.size A vs ∧ RowsR R l vs := by
  rcases open_slice ht h with ⟨rfl, _⟩ | ⟨a, len, cap, m, n, D, Pl, rfl, hb, hl, hm, hmm, hx, hi⟩
  · exact ⟨none, 0, [], [], rfl, Nat.le_refl _, by simp [maxLen], by simp, .inl rfl, rfl⟩
  · have hlm : len ≤ m := by rw [hmm]; split <;> omega
    rw [hC] at hx hi
    have hbytes : len * P.bytesOf e ≤ reachBytes := by
      have := hz ((((List.range len).map D).length + ((List.range (m - len)).map fun j => D (len + j)).length) * P.bytesOf e) (by rw [hx]; simp [DataW.weights, ht])
      refine Nat.le_trans (Nat.mul_le_mul_right _ ?_) this
      simp
    have hzD : ∀ i, i < len → ∀ n ∈ (D i).weights P e, n ≤ reachBytes := fun i hil n hn => by
      refine hz n ?_
      rw [hx]
      simp only [DataW.weights, ht, List.mem_cons, List.mem_append]
      exact .inr (.inl (weights_all P e n _ (D i) (List.mem_map.2 ⟨i, List.mem_range.2 hil, rfl⟩) hn))
    by_cases hl0 : len = 0
    · subst hl0
      exact ⟨some a, cap, [], [], rfl, Nat.zero_le _, hm, by simp, .inl rfl, rfl⟩
    · obtain ⟨b, off, spot⟩ := a
      obtain ⟨cs0, hc0, _⟩ := hi 0 (by omega)
      obtain ⟨_, hcl0, hat0⟩ := World.cells?_some hc0
      have h00 := hat0 0 h0
      have hspot : spot = none := by
        have := World.cell?_spot (h00.trans (List.getElem?_eq_getElem (by omega)))
        simpa [Addr.add] using this
      subst hspot
      let cells : Nat → Value := fun j => (w.cell? ⟨b, off + j, none⟩).getD undef
      have hcells : ∀ i, i < len → ∀ j, j < k → w.cell? ⟨b, off + (i * k + j), none⟩ = some (cells (i * k + j)) := fun i hil j hj => by
        obtain ⟨cs', hc, _⟩ := hi i (by omega)
        obtain ⟨_, hcl, hat⟩ := World.cells?_some hc
        have := hat j hj
        rw [add_none, add_none, List.getElem?_eq_getElem (by omega), Nat.add_assoc] at this
        simp only [cells]
        rw [this]; rfl
      obtain ⟨l, hll, hrows⟩ := rows_of (R := R) k cells len (fun i hil => by
        obtain ⟨cs', hc, ht'⟩ := hi i (by omega)
        obtain ⟨_, hcl, hat⟩ := World.cells?_some hc
        have e1 : cs' = (List.range k).map fun j => cells (i * k + j) := by
          apply List.ext_getElem
          · simp [hcl]
          · intro j h1 h2
            have hj : j < k := by omega
            have h3 := hat j hj
            rw [add_none, add_none, List.getElem?_eq_getElem (by omega), Nat.add_assoc] at h3
            have h4 := hcells i hil j hj
            rw [h3] at h4
            injection h4 with h4
            simp [h4]
        rw [← e1]
        exact hR cs' n _ hcl ht' (hzD i hil))
      subst hll
      refine ⟨some ⟨b, off, none⟩, cap, l, _, rfl, hl, hm, hbytes, .inr ⟨b, off, rfl, ?_, fun j u hu => ?_⟩, hrows⟩
      · have := hcells 0 (by omega) 0 h0
        exact World.block_lt_of_cell? w _ this
      · simp only [List.getElem?_map, Option.map_eq_some_iff, List.getElem?_eq_some_iff] at hu
        obtain ⟨j', ⟨hj1, hj2⟩, rfl⟩ := hu
        simp at hj1 hj2
        subst hj2
        have hdiv : j / k < l.length := (Nat.div_lt_iff_lt_mul h0).2 hj1
        have hmod : j % k < k := Nat.mod_lt _ h0
        have := hcells (j / k) hdiv (j % k) hmod
        have e : j / k * k + j % k = j := by rw [Nat.mul_comm]; exact Nat.div_add_mod j k
        rw [e] at this
        exact this
/-- The weights of a struct's field. -/
theorem weights_field {fs : Array Field} {t : TypeId} (he : P.underlying t = some (.struct fs)) {xs : List (DataW H)} {j : Nat} {f : Field} {y : DataW H} (hj : fs[j]? = some f) (hy : xs[j]? = some y)
    (hz : ∀ n ∈ (DataW.agg xs).weights P t, n ≤ reachBytes) : ∀ n ∈ y.weights P f.type, n ≤ reachBytes := fun n hn => hz n (by
  simp only [DataW.weights, he]
  exact DataW.weights_mem_each (j := j) (t := f.type) (d := y) (by simp [List.getElem?_map, Array.getElem?_toList, hj]) hy n hn)
/-- What the reach says of a []int. -/
theorem ints_len {t e : TypeId} {fuel : Nat} {A : Option Addr} {n c : Nat} {x : DataW H × List MemPlace} (ht : P.underlying t = some (.slice e)) (he : P.underlying e = some (.int .i64)) (hce : P.cellsOf e = 1) (hbe : P.bytesOf e = 8)
    (h : DataW.trod enc P w base spare held fuel t [.slice A n c] = some x) (hz : ∀ n ∈ x.1.weights P t, n ≤ reachBytes) : n * 8 ≤ reachBytes := by
  rcases open_ints ht he hce h with ⟨hcs, _⟩ | ⟨a, len, cap, zs, hcs, _, hl, hm, hz', hx, hcell, hwz⟩
  · simp at hcs; omega
  · simp at hcs
    obtain ⟨rfl, rfl, rfl⟩ := hcs
    have hlz : n ≤ zs.length := by
      have := hz'
      split at this <;> omega
    have := hz (((lits (H := H) .i64 (zs.take n)).length + (lits (H := H) .i64 (zs.drop n)).length) * P.bytesOf e) (by rw [hx]; simp [DataW.weights, ht])
    rw [hbe] at this
    simp [lits] at this
    omega
end
end Go.V
namespace Go.Proofs.YtipjejnncnndeaaGreatDoor
open Go.RowKit Go.V Go.ChangeShapes Go.WideShapes Go.ChangeAt Go.Deep
set_option linter.unusedVariables false
open RF (Mx rsV esV rC uC eC strV)

theorem reach_eq : reachBytes = 140737488351232 := by simp [reachBytes]
theorem c3 : Tryz.prog.cellsOf 3 = 1 := by kernel_rfl
theorem c9 : Tryz.prog.cellsOf 9 = 1 := by kernel_rfl
theorem c22 : Tryz.prog.cellsOf 22 = 1 := by kernel_rfl
theorem c24 : Tryz.prog.cellsOf 24 = 1 := by kernel_rfl
theorem c31 : Tryz.prog.cellsOf 31 = 1 := by kernel_rfl
theorem c46 : Tryz.prog.cellsOf 46 = 1 := by kernel_rfl
theorem c48 : Tryz.prog.cellsOf 48 = 3 := by kernel_rfl
theorem c65 : Tryz.prog.cellsOf 65 = 4 := by kernel_rfl
theorem c25 : Tryz.prog.cellsOf 25 = 1 := by kernel_rfl
theorem c27 : Tryz.prog.cellsOf 27 = 1 := by kernel_rfl
theorem c78 : Tryz.prog.cellsOf 78 = 3 := by kernel_rfl
theorem c41 : Tryz.prog.cellsOf 41 = 2 := by kernel_rfl
theorem c80 : Tryz.prog.cellsOf 80 = 4 := by kernel_rfl
theorem str_of (s : ByteArray) : ∃ l : List UInt8, s = ⟨l.toArray⟩ := ⟨s.data.toList, by simp⟩
theorem weights_str {H : Type} {P : Program} {t : TypeId} {b : List UInt8} (hz : ∀ n ∈ (DataW.lit (.string b) : DataW H).weights P t, n ≤ reachBytes) : b.length ≤ reachBytes := hz b.length (by simp [DataW.weights])
section
variable {H : Type} {enc : TypeId × Value → H} {w : World} {base fuel : Nat} {spare : Nat → Bool} {held : Bool} {cs : List Value} {x : DataW H × List MemPlace}
theorem open_object (h : DataW.trod enc Tryz.prog w base spare held fuel 48 cs = some x) (hz : ∀ n ∈ x.1.weights Tryz.prog 48, n ≤ reachBytes) :
    ∃ o Al kl Ad kd, cs = [.int .i64 o.kind, .slice Al o.links.length kl, .slice Ad o.data.length kd] ∧ ObA w Free o Al kl Ad kd := by
  obtain ⟨y0, y1, y2, n, rfl, hl, t0, t1, t2⟩ := trod_struct3 Tryz.underlying48 h
  rw [c48] at hl
  obtain _ | ⟨c0, _ | ⟨c1, _ | ⟨c2, _ | ⟨_, _⟩⟩⟩⟩ := cs <;> simp at hl
  have z1 := weights_field Tryz.underlying48 (j := 1) (y := y1.1) rfl rfl hz
  have z2 := weights_field Tryz.underlying48 (j := 2) (y := y2.1) rfl rfl hz
  simp only [c3, c31, c46] at t0 t1 t2
  obtain ⟨a0, e0, rfl, w0⟩ := DataW.trod_int Tryz.underlying3 t0
  obtain ⟨A1, k1, l1, e1, hlc1, hcm1, hsv1, hw1⟩ := open_intl Tryz.underlying31 Tryz.underlying3 (by kernel_rfl) t1
  obtain ⟨A2, k2, l2, e2, hlc2, hcm2, hsv2⟩ := open_bytes Tryz.underlying46 Tryz.underlying5 (by kernel_rfl) t2
  simp at e0 e1 e2
  subst e1 e2
  have hln := ints_len Tryz.underlying31 Tryz.underlying3 (by kernel_rfl) (by kernel_rfl) t1 z1
  rw [reach_eq] at hln
  have hb1 := bytes_len Tryz.underlying46 Tryz.underlying5 (by kernel_rfl) (by kernel_rfl) t2 z2
  rw [reach_eq] at hb1
  refine ⟨⟨a0, l1, l2⟩, A1, k1, A2, k2, by simp [e0], bounds_i64 w0, ?_, hlc1, hlc2, ?_, hb1, .of_sv hsv1, .of_sv hsv2⟩
  · exact hw1
  · simp only; omega
theorem open_stored (h : DataW.trod enc Tryz.prog w base spare held fuel 65 cs = some x) (hz : ∀ n ∈ x.1.weights Tryz.prog 65, n ≤ reachBytes) : ∃ s, StR w Free s cs := by
  obtain ⟨y0, y1, n, rfl, hl, t0, t1⟩ := trod_struct2 Tryz.underlying65 h
  rw [c65] at hl
  obtain _ | ⟨c0, _ | ⟨c1, _ | ⟨c2, _ | ⟨c3', _ | ⟨_, _⟩⟩⟩⟩⟩ := cs <;> simp at hl
  have z1 := weights_field Tryz.underlying65 (j := 1) (y := y1.1) rfl rfl hz
  simp only [c3, c48] at t0 t1
  obtain ⟨a0, e0, rfl, w0⟩ := DataW.trod_int Tryz.underlying3 t0
  obtain ⟨o, Al, kl, Ad, kd, e1, ho⟩ := open_object t1 z1
  simp at e0 e1
  obtain ⟨e1, e2, e3⟩ := e1
  subst e0 e1 e2 e3
  exact ⟨⟨a0, o⟩, Al, kl, Ad, kd, rfl, bounds_i64 w0, ho⟩
theorem open_store (h : DataW.trod enc Tryz.prog w base spare held fuel 24 cs = some x) (hz : ∀ n ∈ x.1.weights Tryz.prog 24, n ≤ reachBytes) :
    ∃ A c l, cs = [.slice A l.length c] ∧ l.length ≤ c ∧ c ≤ 9223372036854775807 ∧ l.length * 64 ≤ 140737488351232 ∧ StV w Free A l ∧ True := by
  obtain ⟨y0, n, rfl, hl, t0⟩ := trod_struct1 Tryz.underlying24 h
  have hb : Tryz.prog.bytesOf 65 = 64 := by kernel_rfl
  rw [c24] at hl
  obtain _ | ⟨c0, _ | ⟨_, _⟩⟩ := cs <;> simp at hl
  have z0 := weights_field Tryz.underlying24 (j := 0) (y := y0.1) rfl rfl hz
  simp only [c22] at t0
  obtain ⟨A, c, l, vs, e, h1, h2, h3, h4, h5⟩ := open_rowsG (R := StR w Free) (k := 4) Tryz.underlying22 c65 (by decide) t0 z0 (fun cs' n y _ ht hz => open_stored ht hz)
  rw [hb, reach_eq] at h3
  simp at e
  subst e
  unfold maxLen at h2
  exact ⟨A, c, l, rfl, h1, h2, h3, ⟨vs, .of_sv h4, h5⟩, trivial⟩
theorem open_ref (h : DataW.trod enc Tryz.prog w base spare held fuel 41 cs = some x) (hz : ∀ n ∈ x.1.weights Tryz.prog 41, n ≤ reachBytes) : ∃ r : Rf.R, cs = rC r ∧ I64 r.tgt ∧ r.name.length ≤ reachBytes := by
  obtain ⟨y0, y1, n, rfl, hl, t0, t1⟩ := trod_struct2 Tryz.underlying41 h
  rw [c41] at hl
  obtain _ | ⟨c0, _ | ⟨c1, _ | ⟨_, _⟩⟩⟩ := cs <;> simp at hl
  have z0 := weights_field Tryz.underlying41 (j := 0) (y := y0.1) rfl rfl hz
  simp only [c9, c3] at t0 t1
  obtain ⟨s, e0, rfl, hs⟩ := DataW.trod_string Tryz.underlying9 t0
  obtain ⟨a1, e1, rfl, w1⟩ := DataW.trod_int Tryz.underlying3 t1
  simp at e0 e1
  obtain ⟨l, rfl⟩ := str_of s
  exact ⟨⟨l, a1⟩, by simp [rC, e0, e1], bounds_i64 w1, weights_str z0⟩
theorem open_rupd (h : DataW.trod enc Tryz.prog w base spare held fuel 78 cs = some x) (hz : ∀ n ∈ x.1.weights Tryz.prog 78, n ≤ reachBytes) : ∃ u : Rf.U, cs = uC u ∧ I64 u.old ∧ I64 u.new ∧ u.name.length ≤ reachBytes := by
  obtain ⟨y0, y1, y2, n, rfl, hl, t0, t1, t2⟩ := trod_struct3 Tryz.underlying78 h
  rw [c78] at hl
  obtain _ | ⟨c0, _ | ⟨c1, _ | ⟨c2, _ | ⟨_, _⟩⟩⟩⟩ := cs <;> simp at hl
  have z0 := weights_field Tryz.underlying78 (j := 0) (y := y0.1) rfl rfl hz
  simp only [c9, c3] at t0 t1 t2
  obtain ⟨s, e0, rfl, hs⟩ := DataW.trod_string Tryz.underlying9 t0
  obtain ⟨a1, e1, rfl, w1⟩ := DataW.trod_int Tryz.underlying3 t1
  obtain ⟨a2, e2, rfl, w2⟩ := DataW.trod_int Tryz.underlying3 t2
  simp at e0 e1 e2
  obtain ⟨l, rfl⟩ := str_of s
  exact ⟨⟨l, a1, a2⟩, by simp [uC, e0, e1, e2], bounds_i64 w1, bounds_i64 w2, weights_str z0⟩
theorem open_entry (h : DataW.trod enc Tryz.prog w base spare held fuel 80 cs = some x) (hz : ∀ n ∈ x.1.weights Tryz.prog 80, n ≤ reachBytes) : ∃ e : Rf.E, cs = eC e ∧ I64 e.time ∧ I64 e.upd.old ∧ I64 e.upd.new ∧ e.upd.name.length ≤ reachBytes := by
  obtain ⟨y0, y1, n, rfl, hl, t0, t1⟩ := trod_struct2 Tryz.underlying80 h
  rw [c80] at hl
  obtain _ | ⟨c0, _ | ⟨c1, _ | ⟨c2, _ | ⟨c3', _ | ⟨_, _⟩⟩⟩⟩⟩ := cs <;> simp at hl
  have z1 := weights_field Tryz.underlying80 (j := 1) (y := y1.1) rfl rfl hz
  simp only [c3, c78] at t0 t1
  obtain ⟨a0, e0, rfl, w0⟩ := DataW.trod_int Tryz.underlying3 t0
  obtain ⟨u, e1, h1, h2, h3⟩ := open_rupd t1 z1
  simp [uC] at e0 e1
  obtain ⟨e1, e2, e3⟩ := e1
  exact ⟨⟨a0, u⟩, by simp [eC, e0, e1, e2, e3], bounds_i64 w0, h1, h2, h3⟩
/-- Rows that are what a function makes of their elements. -/
theorem rows_flat {α : Type} {f : α → List Value} {Pr : α → Prop} : ∀ {l : List α} {vs : List Value}, RowsR (fun a cs => cs = f a ∧ Pr a) l vs → vs = l.flatMap f ∧ ∀ a ∈ l, Pr a
  | [], vs, h => by simp only [RowsR] at h; exact ⟨by simp [h], by simp⟩
  | a :: l, vs, h => by
    obtain ⟨cs, rest, rfl, ⟨rfl, hp⟩, hr⟩ := h
    obtain ⟨h1, h2⟩ := rows_flat hr
    refine ⟨by rw [h1, List.flatMap_cons], fun b hb => ?_⟩
    rcases List.mem_cons.1 hb with rfl | hb
    · exact hp
    · exact h2 b hb
theorem open_refs (h : DataW.trod enc Tryz.prog w base spare held fuel 25 cs = some x) (hz : ∀ n ∈ x.1.weights Tryz.prog 25, n ≤ reachBytes) :
    ∃ A c l, cs = [.slice A l.length c] ∧ l.length ≤ c ∧ c ≤ 9223372036854775807 ∧ l.length * 24 ≤ 140737488351232 ∧ SA w Free A (rsV l) ∧ ∀ r ∈ l, I64 r.tgt ∧ r.name.length ≤ reachBytes := by
  obtain ⟨A, c, l, vs, e, h1, h2, h3, h4, h5⟩ := open_rowsG (R := fun (r : Rf.R) cs => cs = rC r ∧ (I64 r.tgt ∧ r.name.length ≤ reachBytes)) (k := 2) Tryz.underlying25 c41 (by decide) h hz (fun cs' n y _ ht hz => open_ref ht hz)
  obtain ⟨rfl, h6⟩ := rows_flat h5
  have hb : Tryz.prog.bytesOf 41 = 24 := by kernel_rfl
  rw [hb, reach_eq] at h3
  exact ⟨A, c, l, e, h1, h2, h3, .of_sv h4, h6⟩
theorem open_rstore (h : DataW.trod enc Tryz.prog w base spare held fuel 27 cs = some x) (hz : ∀ n ∈ x.1.weights Tryz.prog 27, n ≤ reachBytes) :
    ∃ A c l, cs = [.slice A l.length c] ∧ l.length ≤ c ∧ c ≤ 9223372036854775807 ∧ l.length * 24 ≤ 140737488351232 ∧ SA w Free A (rsV l) ∧ ∀ r ∈ l, I64 r.tgt ∧ r.name.length ≤ reachBytes := by
  obtain ⟨y0, n, rfl, hl, t0⟩ := trod_struct1 Tryz.underlying27 h
  rw [c27] at hl
  obtain _ | ⟨c0, _ | ⟨_, _⟩⟩ := cs <;> simp at hl
  have z0 := weights_field Tryz.underlying27 (j := 0) (y := y0.1) rfl rfl hz
  simp only [c25] at t0
  obtain ⟨A, c, l, e, h1⟩ := open_refs t0 z0
  simp at e
  exact ⟨A, c, l, by simp [e], h1⟩
theorem open_log (h : DataW.trod enc Tryz.prog w base spare held fuel 28 cs = some x) (hz : ∀ n ∈ x.1.weights Tryz.prog 28, n ≤ reachBytes) :
    ∃ A c l, cs = [.slice A l.length c] ∧ l.length ≤ c ∧ c ≤ 9223372036854775807 ∧ l.length * 40 ≤ 140737488351232 ∧ SA w Free A (esV l) ∧ ∀ e ∈ l, I64 e.time ∧ I64 e.upd.old ∧ I64 e.upd.new ∧ e.upd.name.length ≤ reachBytes := by
  obtain ⟨A, c, l, vs, e, h1, h2, h3, h4, h5⟩ := open_rowsG (R := fun (r : Rf.E) cs => cs = eC r ∧ (I64 r.time ∧ I64 r.upd.old ∧ I64 r.upd.new ∧ r.upd.name.length ≤ reachBytes)) (k := 4) Tryz.underlying28 c80 (by decide) h hz (fun cs' n y _ ht hz => open_entry ht hz)
  obtain ⟨rfl, h6⟩ := rows_flat h5
  have hb : Tryz.prog.bytesOf 80 = 40 := by kernel_rfl
  rw [hb, reach_eq] at h3
  exact ⟨A, c, l, e, h1, h2, h3, .of_sv h4, h6⟩
end
/-- What the world's shape says of the library's own variable. -/
theorem mx_of {W : World} (h : W.ShapedOpen Tryz.prog) : Mx W :=
  cell_of_shapedOpen_int (zero := #[.int .i64 0]) (t := 3) h (of_decide_eq_true (by kernel_rfl)) (by kernel_rfl) rfl (by kernel_rfl) (by kernel_rfl) Tryz.underlying3
/-- There is an input that fits: a world in which the listed variables are laid. -/
theorem witness_laid {H : Type} {enc : TypeId × Value → H} {C : Checked} {os : Os} {f : FuncId} {fn : Func} {s : OpenSpec} {conds : List PathCond} {apart : Bool} {laid : List (String × DataW Unit)} (w0 : World) (args : Array Value) (hos : w0.os = os)
    (hsh : (w0.forCall (fun _ _ => 0) ⟨#[], args, []⟩).Shaped C.prog)
    (hok : Input.okWideB C.prog (w0.forCall (fun _ _ => 0) ⟨#[], args, []⟩) f ⟨#[], args, []⟩ = true)
    (hrow : s.preRow enc C.prog fn conds apart laid (w0.forCall (fun _ _ => 0) ⟨#[], args, []⟩).memory args) :
    ∃ (w : World) (tape : Tape) (i : Input), w.os = os ∧ (w.forCall tape i).Shaped C.prog ∧ i.vars = [] ∧ Input.okWide C.prog (w.forCall tape i) .any w.heap.size f i ∧
      s.preRow enc C.prog fn conds apart laid (w.forCall tape i).memory i.args ∧ ({} : Assume).holds C.prog (lone (Frame.enter C.prog f i.args .normal) [] (w.forCall tape i)) :=
  ⟨w0, fun _ _ => 0, ⟨#[], args, []⟩, hos, hsh, (Input.okWide_of_okWideB (base := 0) hok).1, (Input.okWide_of_okWideB hok).2, hrow, by
    simp only [Assume.holds]
    exact ⟨by simp, by simp, fun _ => Modest.zero, by simp, by simp⟩⟩
end Go.Proofs.YtipjejnncnndeaaGreatDoor
