/-
  Views, twelfth part: a string as bytes of a new block.
-/
import Derived.Test.YtiilhnfdlpgllaaView11
import Derived.Laws.IdiomStrings
namespace Go.V
open Go.RowKit

section
variable {P : Program}
theorem bytesRow_eq (l : List UInt8) (cap : Nat) : bytesRow ⟨l.toArray⟩ cap = (bytesV l ++ List.replicate (cap - l.length) (Value.int .u8 0)).toArray := by
  unfold bytesRow bytesV
  apply Array.ext'
  simp [ByteArray.size]
theorem conv_came (w : World) (src dst e : TypeId) (l : List UInt8) (hs : P.underlying src = some .string) (hd : P.underlying dst = some (.slice e)) (he : P.underlying e = some (.int .u8)) :
    ∃ W1 q, (convert src dst (.string ⟨l.toArray⟩)).run P w = .ok (.slice (some ⟨w.heap.size, 0, none⟩) l.length q) W1 ∧ Came W1 1 (some ⟨w.heap.size, 0, none⟩) w.heap.size 0 l.length q (bytesV l) ∧ Below w.heap.size w W1 ∧ w.heap.size < W1.heap.size := by
  have hr := run_bytes_of_string (P := P) w src dst e ⟨l.toArray⟩ hs hd he
  have hsz : (⟨l.toArray⟩ : ByteArray).size = l.length := by simp [ByteArray.size]
  rw [hsz, bytesRow_eq] at hr
  have hge := grownCap_ge w l.length 0 e
  generalize grownCap w l.length 0 e = q at *
  refine ⟨_, q, hr, ⟨hge, fun _ => rfl, fun _ => by simp, by simp [bytesV], fun j u hu => ?_, fun j hj => ⟨?_, ?_⟩⟩, (below_drewN (Below.refl _ w) 1).alloc (Nat.le_refl _) _, by simp⟩
  · obtain ⟨hj, _⟩ := List.getElem?_eq_some_iff.1 hu
    refine (cell_of_row _ w.heap.size (0 + j) _ e _ (heap_alloc_new w.drew _)).trans ?_
    rw [Nat.zero_add, List.getElem?_toArray, List.getElem?_append_left hj]
    exact hu
  · have h : (0 + l.length * 1 + j) < (bytesV l ++ List.replicate (q - l.length) (Value.int .u8 0)).length := by simp [bytesV]; omega
    rw [cell_of_row _ w.heap.size _ _ e _ (heap_alloc_new w.drew _), List.getElem?_toArray, List.getElem?_eq_getElem h]
    rfl
  · have hh := heap_alloc_new w.drew (.cells (bytesV l ++ List.replicate (q - l.length) (Value.int .u8 0)).toArray e ((bytesV l ++ List.replicate (q - l.length) (Value.int .u8 0)).toArray.size, (bytesV l ++ List.replicate (q - l.length) (Value.int .u8 0)).toArray.size + 1))
    simp only [World.frozen?]
    rw [show (w.drew).heap.size = w.heap.size from rfl] at hh
    rw [hh]
    simp [bytesV]
    omega
end
theorem came_below {w w' : World} {size : Nat} {ao : Option Addr} {b off n cap : Nat} {olds : List Value} (h : Came w size ao b off n cap olds) (hb : Below w.heap.size w w') (hlt : b < w.heap.size) : Came w' size ao b off n cap olds :=
  ⟨h.le, h.addr, fun _ => Nat.lt_of_lt_of_le hlt hb.size, h.oldsLen, fun j u hu => (hb.cell (p := ⟨b, off + j, none⟩) hlt).trans (h.olds j u hu),
    fun j hj => ⟨by rw [hb.cell (p := ⟨b, off + n * size + j, none⟩) hlt]; exact (h.spare j hj).1, (World.frozen?_of_block (a := ⟨b, off + n * size + j, none⟩) (hb.block b hlt)).trans (h.spare j hj).2⟩⟩
theorem came_sv {w : World} {size : Nat} {b off n cap : Nat} {olds : List Value} (h : Came w size (some ⟨b, off, none⟩) b off n cap olds) (hlt : b < w.heap.size) : SV w w.heap.size (some ⟨b, off, none⟩) olds := .inr ⟨b, off, rfl, hlt, h.olds⟩
end Go.V
