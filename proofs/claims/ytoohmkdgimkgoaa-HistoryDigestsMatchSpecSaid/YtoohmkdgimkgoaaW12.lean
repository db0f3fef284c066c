/-
  Histories: walk of 'historyExample'.
-/
import Derived.Test.YtoohmkdgimkgoaaW11
namespace Go.Proofs.Ytoohmkdgimkgoaa
open Go.RowKit Go.V
set_option linter.unusedVariables false

def exL : List Hs.Cm := [⟨[], 0, 5, 0, ByteArray.empty⟩, ⟨[0], 0, 7, 0, ByteArray.empty⟩, ⟨[], 0, 6, 0, ByteArray.empty⟩]
theorem exL_ok : Hs.Ok exL := by
  refine ⟨by decide, fun i hi => ?_⟩
  have e0 : Hs.parErr 0 [] 0 = 0 := Hs.parErr_end _ _ _ (by decide)
  have e2 : Hs.parErr 2 [] 0 = 0 := Hs.parErr_end _ _ _ (by decide)
  have e1 : Hs.parErr 1 [0] 0 = 0 := (Hs.parErr_next 1 [0] 0 (by decide) (by decide) (by decide)).trans (Hs.parErr_end _ _ _ (by decide))
  match i, hi with
  | 0, _ => exact Hs.check_good (by simp [exL]) e0 (by simp [exL, Hs.dataErr, Hs.M])
  | 1, _ => exact Hs.check_good (by simp [exL]) e1 (by simp [exL, Hs.dataErr, Hs.M])
  | 2, _ => exact Hs.check_good (by simp [exL]) e2 (by simp [exL, Hs.dataErr, Hs.M])
theorem lit_bools (w : World) (l : List Bool) (t : TypeId) (g : Nat) (hg : w.heap.size = g) : BV (w.alloc (.cells (boolsA l) t)) (some ⟨g, 0, none⟩) l := by
  subst hg; exact SV.of_bools (Blk.new w t (boolsA l))
theorem lit_ints (w : World) (l : List Int) (t : TypeId) (g : Nat) (hg : w.heap.size = g) : IV (w.alloc (.cells (intsA l) t)) (some ⟨g, 0, none⟩) l := by
  subst hg; exact SV.of_ints (Blk.new w t (intsA l))
theorem i64_0 : I64 0 := by unfold I64; decide
theorem exL_order : Hs.ints (Hs.order exL) = [1, 2, 0] := by decide +kernel
theorem exL_anc : ancL exL 1 = [true, true, false] := by decide +kernel
theorem okCm (p : List Int) (t : Int) (hp : p.length ≤ 9223372036854775807) (h : ∀ (i : Nat) (h : i < p.length), I64 p[i]) (ht : I64 t) : CoOk ⟨p, 0, t, 0, ByteArray.empty⟩ :=
  ⟨hp, by simp, h, i64_0, ht, i64_0⟩
/-- The commits of the example, as they are laid. -/
def exCells (g : Nat) : Array Value := #[.slice none 0 0, .int .i64 0, .int .i64 5, .int .i64 0, .string ByteArray.empty, .slice (some ⟨g, 0, none⟩) 1 1, .int .i64 0, .int .i64 7, .int .i64 0, .string ByteArray.empty, .slice none 0 0, .int .i64 0, .int .i64 6, .int .i64 0, .string ByteArray.empty]
theorem exL_view (w : World) : CV ((w.alloc (.cells #[.int .i64 0] 3)).alloc (.cells (exCells w.heap.size) 41)) (some ⟨w.heap.size + 1, 0, none⟩) exL := by
  refine ⟨(exCells w.heap.size).toList, ?_, ?_⟩
  · have := SV.lit (w.alloc (.cells #[.int .i64 0] 3)) (exCells w.heap.size) 41
    simpa using this
  · refine ⟨[_, _, _, _, _], [_, _, _, _, _, _, _, _, _, _], rfl, ⟨none, 0, rfl, okCm [] 5 (by decide) (fun i h => by simp at h) (by unfold I64; decide), SV.nil⟩, ?_⟩
    refine ⟨[_, _, _, _, _], [_, _, _, _, _], rfl, ⟨some ⟨w.heap.size, 0, none⟩, 1, rfl, okCm [0] 7 (by decide) (fun i h => by
      match i, h with
      | 0, _ => exact i64_0) (by unfold I64; decide), ?_⟩, ?_⟩
    · have := (SV.lit w #[.int .i64 0] 3).alloc (by simp) (.cells (exCells w.heap.size) 41)
      exact (this.more (by simp))
    · exact ⟨[_, _, _, _, _], [], rfl, ⟨none, 0, rfl, okCm [] 6 (by decide) (fun i h => by simp at h) (by unfold I64; decide), SV.nil⟩, rfl⟩

set_option maxRecDepth 100000 in
set_option maxHeartbeats 4000000 in
theorem example_any (w : World) : Calls Try.prog 17 #[] w fun e w' => e = .returned (.bool true) ∧ Below w.heap.size w w' := by
  have HV := Lib.hid (exL_view w)
  have HA := Lib.hid (fun (w1 : World) (h : CV w1 (some ⟨w.heap.size + 1, 0, none⟩) exL) => ancestors_ok w1 (some ⟨w.heap.size + 1, 0, none⟩) 3 exL 1 h exL_ok (by decide))
  have HO := Lib.hid (fun (w1 : World) (h : CV w1 (some ⟨w.heap.size + 1, 0, none⟩) exL) => order_ok w1 (some ⟨w.heap.size + 1, 0, none⟩) 3 exL h exL_ok)
  have hbel0 : Below w.heap.size w ((w.alloc (.cells #[.int .i64 0] 3)).alloc (.cells (exCells w.heap.size) 41)) := (below_alloc1 w _).alloc (by simp) _
  go_enter Try.func17, Try.ntmps17
  go_wp2_with fail
  go_at_call 18
  refine (HA.out _ HV.out).mono ?_
  rw [exL_anc]
  rintro e w1 ⟨A1, c1, rfl, hc1, hv1, hb1⟩
  have hbel1 := hbel0.trans (hb1.mono hbel0.size)
  have hcv1 := HV.out.below hb1
  clear hbel0 HV hb1 HA
  have hsz1 := hbel1.size
  go_wp2_with fail
  go_at_call 25
  have hbel2 := hbel1.alloc hsz1 (.cells #[.int .i64 0, .int .i64 0] 26)
  refine (HO.out _ (hcv1.alloc _)).mono ?_
  rw [exL_order]
  rintro e w2 ⟨A2, c2, rfl, hc2, hv2, hb2⟩
  have hbel3 := hbel2.trans (hb2.mono hbel2.size)
  have hv3 := (hv1.alloc (.cells #[.int .i64 0, .int .i64 0] 26)).below hb2
  have hblk := (Blk.new w1 26 #[.int .i64 0, .int .i64 0]).below hb2 (by simp)
  clear hbel2 hbel1 hcv1 hv1 HO hb2
  have q0 := hblk.cell 0
  have q1 := hblk.cell 1
  simp only [List.getElem?_toArray, List.getElem?_cons_zero, List.getElem?_cons_succ] at q0 q1
  have hlt := hblk.lt
  have hsz3 := hbel3.size
  simp only [List.length_cons, List.length_nil, Nat.reduceAdd, Nat.zero_add] at hc1 hc2
  have HB := Lib.hid (fun (w1 : World) (A A2 : Option Addr) (c1 c2 : Nat) h1 h2 => bools_any w1 A A2 c1 c2 [true, true, false] h1 h2 (by decide))
  have HI := Lib.hid (fun (w1 : World) (A A2 : Option Addr) (c1 c2 : Nat) h1 h2 => ints_any w1 A A2 c1 c2 [1, 2, 0] h1 h2 (by decide))
  go_wp2_with fail
  go_at_call 23
  refine (HB.out _ A1 (some ⟨_, 0, none⟩) c1 3 ((hv3.alloc _).alloc _) ?_).mono ?_
  · exact lit_bools _ [true, true, false] 4 _ (by simp)
  rintro e w4 ⟨rfl, n, rfl⟩
  go_wp2_with fail
  go_at_call 31
  refine (HI.out _ A2 (some ⟨_, 0, none⟩) c2 3 ?_ ?_).mono ?_
  · exact (((hv2.alloc _).alloc _).drewN n).alloc _
  · exact lit_ints _ [1, 2, 0] 3 _ (by simp)
  rintro e w5 ⟨rfl, m, rfl⟩
  go_wp2_with fail
  go_ret
  exact ⟨rfl, below_drewN ((below_drewN ((hbel3.alloc hsz3 _).alloc (by simp; omega) _) _).alloc (by simp; omega) _) _⟩
end Go.Proofs.Ytoohmkdgimkgoaa
