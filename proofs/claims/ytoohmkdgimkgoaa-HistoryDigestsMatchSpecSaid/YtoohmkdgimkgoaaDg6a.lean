/-
  Histories: walk of the reference's 'CommitDigests'.
-/
import Derived.Test.YtoohmkdgimkgoaaDg5
import Derived.Test.YtoohmkdgimkgoaaL3
import Derived.Deep.RegionHeld3
namespace Hs
theorem digFold3 (l : List Cm) (ds : List Nat) (i : Nat) : digFold l ds i 3 = Dg.pairD (Dg.pairD (Dg.pairD (digMsg l i) (l[i]?.getD default).au.toNat) (l[i]?.getD default).tm.toNat) (l[i]?.getD default).tr.toNat := by
  unfold digFold digNums
  generalize ((pars l i).take (pars l i).length).map (fun p => ds[p]?.getD 0) = R
  generalize (l[i]?.getD default).au.toNat = x
  generalize (l[i]?.getD default).tm.toNat = y
  generalize (l[i]?.getD default).tr.toNat = z
  have : ([x, y, z] ++ R).take 3 = [x, y, z] := rfl
  rw [this, List.foldl_cons, List.foldl_cons, List.foldl_cons, List.foldl_nil]
theorem digFold_par (l : List Cm) (ds : List Nat) (i k : Nat) (h : k < (pars l i).length) (p : Nat) (hp : (pars l i)[k] = p) (hpl : p < ds.length) : digFold l ds i (k + 1 + 3) = Dg.pairD (digFold l ds i (k + 3)) ds[p] := by
  have hlen := digNums_len l ds i (pars l i).length (Nat.le_refl _)
  have e : k + 1 + 3 = (k + 3) + 1 := by omega
  rw [e, digFold_succ l ds i (k + 3) (by omega)]
  congr 1
  simp only [digNums]
  rw [List.getElem_append_right (by simp)]
  simp [hp, hpl]
theorem digFold_end (l : List Cm) (ds : List Nat) (i : Nat) : digFold l ds i ((pars l i).length + 3) = digAt l ds i := by
  rw [← digFold_all, digNums_len l ds i _ (Nat.le_refl _)]
end Hs
namespace Go.Proofs.Ytoohmkdgimkgoaa
open Go.RowKit Go.V
set_option linter.unusedVariables false

structure CdSt (w wr : World) (l : List Hs.Cm) (i : Nat) (Ao : Option Addr) (co : Nat) : Prop where
  own : wr.ownsRow w.heap.size 3 1 (.slice Ao i co) i (intsV (Hs.ints (Hs.digL l i)))
  bel : Below w.heap.size w wr
theorem CdSt.below {w wr w' : World} {l : List Hs.Cm} {i : Nat} {Ao : Option Addr} {co : Nat} (h : CdSt w wr l i Ao co) (hb : Below wr.heap.size wr w') : CdSt w w' l i Ao co :=
  ⟨own_below (B := 0) h.own hb, h.bel.trans (hb.mono h.bel.size)⟩
theorem CdSt.app {w wr w' : World} {l : List Hs.Cm} {i c' : Nat} {Ao A' : Option Addr} {co : Nat} (h : CdSt w wr l i Ao co) (o : Obj)
    (hg : (wr.alloc o).grownBy w' (Value.slice Ao i co).ownBlock) (hown : w'.ownsRow w.heap.size 3 1 (.slice A' (i + 1) c') (i + 1) (intsV (Hs.ints (Hs.digL l i)) ++ [.int .i64 ((Hs.digAt l (Hs.digL l i) i : Nat) : Int)])) : CdSt w w' l (i + 1) A' c' := by
  have hsz := h.bel.size
  refine ⟨?_, below_append (h.bel.alloc h.bel.size o) (h.own.alloc o) hg (Nat.le_refl _) (by simp; omega)⟩
  have : intsV (Hs.ints (Hs.digL l (i + 1))) = intsV (Hs.ints (Hs.digL l i)) ++ [.int .i64 ((Hs.digAt l (Hs.digL l i) i : Nat) : Int)] := by
    simp only [Hs.digL]; rw [Hs.ints_append, intsV_append]; rfl
  rw [this]
  exact hown
end Go.Proofs.Ytoohmkdgimkgoaa
