/-
  Views, third part: bytes to strings; opening arguments.
-/
import Derived.Test.YtinebbleilnejaaView2
import Derived.ProofKit
import Derived.OpenShut
import Derived.SizedLaws
import Derived.ChangeOld
import Derived.Lib.SlBytesConst
namespace Go.V
open Go.RowKit Go.ChangeShapes Go.WideShapes Go.ChangeAt

theorem foldl_push : ∀ (l : List UInt8) (s : ByteArray), (l.map fun b => (b.toNat : Int)).foldl (fun r n => r.push (UInt8.ofNat n.toNat)) s = ⟨s.data ++ l.toArray⟩
  | [], s => by simp
  | b :: l, s => by
    simp only [List.map_cons, List.foldl_cons]
    rw [foldl_push l]
    simp [ByteArray.push]

/-- 'string(b)'. -/
theorem run_conv_str {P : Program} {w : World} {B : Nat} {A : Option Addr} {l : List UInt8} (src dst e : TypeId) (c : Nat) (hs : P.underlying src = some (.slice e)) (he : P.underlying e = some (.int .u8)) (hd : P.underlying dst = some .string)
    (h : SV w B A (bytesV l)) : (convert src dst (.slice A l.length c)).run P w = .ok (.string ⟨l.toArray⟩) w := by
  rw [run_convert_bytes_string w src dst e A l.length c hs he hd]
  rcases A with _ | a
  · rcases h with h | ⟨b, off, h, _⟩
    · have hl : l = [] := by simpa [bytesV] using h
      subst hl
      rfl
    · cases h
  · rw [run_bytesToString (P := P) w a l.length c (l.map fun b => (b.toNat : Int)) ?_, foldl_push]
    · simp
    · have hv : (l.map fun b => (b.toNat : Int)).map (Value.int .u8) = bytesV l := by simp [bytesV]
      rw [hv]
      have := run_loadCells_list (P := P) (w := w) a (bytesV l) (fun j v hj => by
        rcases h with h | ⟨b, off, h, _, hc⟩
        · rw [h] at hj; simp at hj
        · injection h with h
          subst h
          have := hc j v hj
          unfold Addr.add
          split
          · rename_i h0; subst h0; exact this
          · exact this)
      simpa using this

/-! ### opening an argument -/
section
variable {H : Type} {enc : TypeId × Value → H} {P : Program} {W : World}
/-- A []byte that came in. -/
theorem open_bytes {t e : TypeId} {fuel base : Nat} {spare : Nat → Bool} {held : Bool} {cs : List Value} {x : DataW H × List MemPlace} (ht : P.underlying t = some (.slice e)) (he : P.underlying e = some (.int .u8)) (hce : P.cellsOf e = 1)
    (h : DataW.trod enc P W base spare held fuel t cs = some x) :
    ∃ A c l, cs = [.slice A l.length c] ∧ l.length ≤ c ∧ c ≤ maxLen ∧ SV W W.heap.size A (bytesV l) := by
  rcases open_ints ht he hce h with ⟨hcs, _⟩ | ⟨a, len, cap, zs, hcs, _, hl, hm, hz, _, hcell, hwz⟩
  · exact ⟨none, 0, [], by simpa using hcs, by simp, by simp [maxLen], .inl rfl⟩
  · have hlz : len ≤ zs.length := by
      have := hz
      split at this <;> omega
    refine ⟨some a, cap, (zs.take len).map (fun n => UInt8.ofNat n.toNat), by simp [hcs]; omega, by simp; omega, hm, ?_⟩
    have hb : ∀ i, (hi : i < zs.length) → 0 ≤ zs[i] ∧ zs[i] ≤ 255 := fun i hi => bounds_u8 (hwz _ (List.getElem_mem hi))
    by_cases h0 : len = 0
    · subst h0; exact .inl (by simp [bytesV])
    · obtain ⟨b, off, spot⟩ := a
      have hc0 := hcell 0 (by omega)
      have hspot : spot = none := by simpa [Addr.add] using World.cell?_spot hc0
      subst hspot
      have hcell' : ∀ i, i < zs.length → W.cell? ⟨b, off + i, none⟩ = some (.int .u8 (zs.getD i 0)) := fun i hi => by
        have := hcell i hi
        unfold Addr.add at this
        split at this
        · rename_i h; subst h; exact this
        · exact this
      refine .inr ⟨b, off, rfl, World.block_lt_of_cell? W _ (hcell' 0 (by omega)), fun j u hu => ?_⟩
      simp only [bytesV, List.getElem?_map, Option.map_map, Option.map_eq_some_iff, List.getElem?_take] at hu
      obtain ⟨z, hz1, rfl⟩ := hu
      split at hz1
      · rename_i hj
        obtain ⟨hjl, rfl⟩ := List.getElem?_eq_some_iff.1 hz1
        rw [hcell' j hjl]
        have := hb j hjl
        have e1 : zs.getD j 0 = zs[j] := by simp [List.getD, hz1]
        rw [e1]
        congr 2
        simp only
        rw [UInt8.toNat_ofNat']
        omega
      · cases hz1
end
end Go.V
