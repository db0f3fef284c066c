/-
  File trees: walk of 'Trees'.
  File trees: the example; two facts of the world at once.
  TreeobjRoundTrip, TreeobjSharing: the laws' walks, and the example.
  TreeobjChangedMatchesSpec: the law's walk.
  Views, tenth part: opening a slice of one-cell elements that lead to memory themselves.
  Views, thirteenth part: opening slices of elements of any shape, and structs by value.
  Stores and file trees that came in; the row's wrap.
-/
import Derived.Test.YtjljknocnebnaaaGreatDoorG07
import Derived.Test.YtjljknocnebnaaaGreatDoorG12
import Derived.Test.YtjljknocnebnaaaGreatDoorG13
import Derived.Test.YtjljknocnebnaaaGreatDoorG05
import Derived.Test.YtjljknocnebnaaaGreatDoorG11
import Derived.Test.YtjljknocnebnaaaGreatDoorG10
import Derived.Test.YtjljknocnebnaaaGreatDoorG03
import Derived.Deep.Slices
import Derived.Test.YtjljknocnebnaaaGreatDoorG01
import Derived.Deep.Strs
import Derived.Test.YtjljknocnebnaaaGreatDoorG08
import Derived.ShutString
import Derived.Lib.SmallJoins
import Derived.Deep.DeepHandedRow
import Derived.Shelf.Vars
import Derived.Lay
import Derived.LaidLaws
namespace Tr
theorem it_ext {a b : List F} {i : Nat} (h1 : i < a.length) (h2 : i < b.length) (hp : (it a i).path = (it b i).path) (hl : (it a i).lines = (it b i).lines) : a[i]? = b[i]? := by
  rw [List.getElem?_eq_getElem h1, List.getElem?_eq_getElem h2, it_eq a i h1, it_eq b i h2]
  congr 1
  cases h : it a i; cases k : it b i
  rw [h, k] at hp hl
  simp only at hp hl
  rw [hp, hl]
end Tr
namespace Go.Proofs.YtjljknocnebnaaaGreatDoor
open Go.RowKit Go.V Go.Shelf
set_option linter.unusedVariables false

set_option maxRecDepth 100000 in
set_option maxHeartbeats 4000000 in
theorem trees_any (w : World) (A1 A2 : Option Addr) (c1 c2 : Nat) (t1 t2 : List Tr.F) (h1 : VfV w Free A1 t1) (h2 : VfV w Free A2 t2) (hl1 : t1.length ≤ 9223372036854775807) (hl2 : t2.length ≤ 9223372036854775807) :
    Calls Tryz.prog 11 #[.agg #[.slice A1 t1.length c1], .agg #[.slice A2 t2.length c2]] w fun e w' => e = .returned (.bool (decide (t1 = t2))) ∧ Below w.heap.size w w' := by
  have hbel : Below w.heap.size w ((w.alloc (.cells #[.slice A1 t1.length c1] 41)).alloc (.cells #[.slice A2 t2.length c2] 41)) := below_alloc2 _ _ _
  have q1 := ((Blk.new w 41 #[.slice A1 t1.length c1]).alloc (.cells #[.slice A2 t2.length c2] 41))
  have q2 := blk_new1 w (.cells #[.slice A1 t1.length c1] 41) 41 #[.slice A2 t2.length c2]
  have g1 := h1.keep (free_below hbel)
  have g2 := h2.keep (free_below hbel)
  have p1 := (q1.cell 0).trans rfl
  have p2 := (q2.cell 0).trans rfl
  have l1 := q1.lt
  have l2 := q2.lt
  have HV := Lib.hid hbel
  have HG1 := Lib.hid (fun i hi => g1.row i hi)
  have HG2 := Lib.hid (fun i hi => g2.row i hi)
  clear h1 h2 q1 q2 g1 g2 hbel
  by_cases hlen : t1.length = t2.length
  · have hlen' : ((t1.length : Int) != t2.length) = false := by simp [hlen]
    have HL := Lib.hid hlen
    clear hlen
    go_enter Tryz.func11, Tryz.ntmps11
    go_wp2_with fail
    generalize hW : (w.alloc (.cells #[.slice A1 t1.length c1] 41)).alloc (.cells #[.slice A2 t2.length c2] 41) = W at *
    go_loopw [5] (fun k wr => ∃ i : Nat, i ≤ t1.length ∧ k = .int .i64 i ∧ Hid (∀ j, j < i → t1[j]? = t2[j]?) ∧ ∃ n, wr = W.drewN n) (fun k _ => t1.length - (intOf k).toNat)
    case atStart => exact ⟨0, Nat.zero_le _, rfl, Lib.hid (fun j hj => by omega), 0, rfl⟩
    case round =>
      obtain ⟨i, hi, rfl, H, n, rfl⟩ := hrel
      by_cases hlt : i < t1.length
      · have hlt2 : i < t2.length := by rw [← HL.out]; exact hlt
        have HE := Lib.hid (Tr.it_ext hlt hlt2)
        have HN0 : Hid (t1 = t2 → (Tr.it t1 i).path = (Tr.it t2 i).path ∧ (Tr.it t1 i).lines = (Tr.it t2 i).lines) := Lib.hid fun e => by subst e; exact ⟨rfl, rfl⟩
        obtain ⟨b1, o1, B1, k1, rfl, _, _, x1, y1, r1⟩ := HG1.out i hlt
        obtain ⟨b2, o2, B2, k2, rfl, _, _, x2, y2, r2⟩ := HG2.out i hlt2
        have hlt' : (i : Int) < t1.length := by omega
        have hlt2' : (i : Int) < t2.length := by omega
        have HS := Lib.hid (fun m => strings_any (W.drewN m) B1 B2 k1 k2 _ _ (r1.ls.keep (Keeps.drewN W Free m)) (r2.ls.keep (Keeps.drewN W Free m)) (by have := r1.ll; omega) (by have := r2.ll; omega))
        clear r1 r2
        generalize Tr.it t1 i = u1 at *
        generalize Tr.it t2 i = u2 at *
        obtain ⟨pa1, ln1⟩ := u1
        obtain ⟨pa2, ln2⟩ := u2
        simp only at HE HN0 x1 y1 x2 y2 HS
        by_cases hp : pa1 = pa2
        · have hp' : (pa1 != pa2) = false := by simp [hp]
          have hp2 : (pa1 == pa2) = true := by simp [hp]
          by_cases hd : ln1 = ln2
          · have hd' : decide (ln1 = ln2) = true := decide_eq_true hd
            have H' : Hid (∀ j, j < i + 1 → t1[j]? = t2[j]?) := Lib.hid fun j hj => by
              by_cases e : j = i
              · subst e; exact HE.out hp hd
              · exact H.out j (by omega)
            clear hp hd HE HN0
            rw [hd'] at HS
            go_wp2_with fail
            go_quiet ((go_at_call 7; (with_reducible refine (HS.out _).mono ?_); exact fun e w3 h => ⟨h.1, h.2.elim fun n' hn => ⟨_, hn.trans ((World.drewN_drewN _ _ _).trans (congrArg W.drewN (Nat.add_assoc _ _ _)))⟩⟩))
            go_wp2
            go_roundw
            case rel => exact ⟨i + 1, by omega, by go_num, H', _, rfl⟩
            case measure => simp [intOf]; omega
          · have hd' : decide (ln1 = ln2) = false := decide_eq_false hd
            have HN : Hid (decide (t1 = t2) = false) := Lib.hid (decide_eq_false fun e => hd (HN0.out e).2)
            clear hp hd HE HN0
            rw [hd'] at HS
            go_wp2_with fail
            go_quiet ((go_at_call 7; (with_reducible refine (HS.out _).mono ?_); exact fun e w3 h => ⟨h.1, h.2.elim fun n' hn => ⟨_, hn.trans ((World.drewN_drewN _ _ _).trans (congrArg W.drewN (Nat.add_assoc _ _ _)))⟩⟩))
            go_wp2
            go_ret
            exact ⟨by rw [HN.out]; rfl, below_drewN' (below_drewN' HV.out _) _⟩
        · have hp' : (pa1 != pa2) = true := by simpa using hp
          have hp2 : (pa1 == pa2) = false := by simpa using hp
          have HN : Hid (decide (t1 = t2) = false) := Lib.hid (decide_eq_false fun e => hp (HN0.out e).1)
          clear hp HE HN0 HS
          go_wp2_with fail
          go_quiet (fail)
          go_wp2
          go_ret
          exact ⟨by rw [HN.out]; rfl, below_drewN' (below_drewN' HV.out _) _⟩
      · obtain rfl : i = t1.length := by omega
        have HY : Hid (decide (t1 = t2) = true) := Lib.hid (decide_eq_true (eq_uptoS HL.out H.out))
        go_wp2
        go_ret
        exact ⟨by rw [HY.out]; rfl, below_drewN' HV.out _⟩
  · have hlen' : ((t1.length : Int) != t2.length) = true := by simp; omega
    have HN : Hid (decide (t1 = t2) = false) := Lib.hid (decide_eq_false fun e => hlen (by rw [e]))
    clear hlen
    go_enter Tryz.func11, Tryz.ntmps11
    go_wp2_with fail
    go_ret
    exact ⟨by rw [HN.out]; rfl, HV.out⟩
end Go.Proofs.YtjljknocnebnaaaGreatDoor
namespace Tr
open Ob (O S StOk Sorted fnd lb dig stF putF PutT addOk addS)
/-- The example's tree. -/
def exT : List F := [⟨[97], [[120]]⟩]
theorem exT_ok : VOk exT := VOk.one (by decide +kernel) ⟨by simp, fun s hs => by simp at hs; subst hs; exact ⟨by simp, by decide⟩⟩
theorem exB_ok : Ob.Ok (blobO [[120]]) := ⟨by decide, by decide, by decide, by decide, fun _ => rfl, fun j h => by simp [blobO] at h⟩
theorem exO_ok : Ob.Ok (treeO exT) := by
  refine ⟨by decide, by decide, by decide, by decide, fun h => by simp [treeO] at h, fun j h => ?_⟩
  have := links_I64 exT j h
  exact this
theorem stF_nil : stF [] = (0, 0) := by unfold Ob.stF; rw [if_neg (by simp)]; exact Ob.stFrom_end [] 0 (Nat.le_refl _)
theorem ex_store : StOk [⟨((dig (blobO [[120]]) : Nat) : Int), blobO [[120]]⟩] := by
  refine ⟨by simp, fun i hi => ?_, fun i hi => ?_, fun i hi => by simp at hi⟩
  · simp at hi; subst hi; exact exB_ok
  · simp at hi; subst hi; rfl
theorem ex_put1 : putF [] (blobO [[120]]) = ([⟨((dig (blobO [[120]]) : Nat) : Int), blobO [[120]]⟩], ((dig (blobO [[120]]) : Nat) : Int), (0, 0)) := by
  unfold Ob.putF
  have hf : fnd [] ((dig (blobO [[120]]) : Nat) : Int) = false := by unfold Ob.fnd; simp
  have hl : lb [] ((dig (blobO [[120]]) : Nat) : Int) = 0 := rfl
  have ha : addOk [] ((dig (blobO [[120]]) : Nat) : Int) (blobO [[120]]) = true := by unfold Ob.addOk; rw [hf]; rfl
  have hs : addS [] ((dig (blobO [[120]]) : Nat) : Int) (blobO [[120]]) = [⟨((dig (blobO [[120]]) : Nat) : Int), blobO [[120]]⟩] := by unfold Ob.addS; rw [hf, hl]; rfl
  rw [stF_nil, if_neg (by simp), exB_ok.f, if_neg (by simp), ha, if_neg (by simp), hs, if_neg (by simp)]
theorem ex_fnd : fnd [⟨((dig (blobO [[120]]) : Nat) : Int), blobO [[120]]⟩] ((dig (treeO exT) : Nat) : Int) = false := by decide +kernel
theorem ex_put2 : ∃ x, putF [⟨((dig (blobO [[120]]) : Nat) : Int), blobO [[120]]⟩] (treeO exT) = (x, ((dig (treeO exT) : Nat) : Int), (0, 0)) ∧ x.length = 2 := by
  have ha : addOk [⟨((dig (blobO [[120]]) : Nat) : Int), blobO [[120]]⟩] ((dig (treeO exT) : Nat) : Int) (treeO exT) = true := by unfold Ob.addOk; rw [ex_fnd]; rfl
  have hl := Ob.lb_le [⟨((dig (blobO [[120]]) : Nat) : Int), blobO [[120]]⟩] ((dig (treeO exT) : Nat) : Int)
  have hs : (addS [⟨((dig (blobO [[120]]) : Nat) : Int), blobO [[120]]⟩] ((dig (treeO exT) : Nat) : Int) (treeO exT)).length = 2 := by unfold Ob.addS; rw [ex_fnd]; simp at hl ⊢; omega
  refine ⟨_, ?_, hs⟩
  unfold Ob.putF
  rw [ex_store.f, if_neg (by simp), exO_ok.f, if_neg (by simp), ha, if_neg (by simp), if_neg (by omega)]
theorem ex_wr : ∃ x, wrF [] exT = ((x, ((dig (treeO exT) : Nat) : Int)), (0, 0)) ∧ x.length = 2 ∧ rdF x ((dig (treeO exT) : Nat) : Int) = (exT, (0, 0)) := by
  obtain ⟨x, hx, hl⟩ := ex_put2
  have h : putAll [] (objs exT) = (x, 0) := by
    show putAll [] [blobO [[120]], treeO exT] = _
    rw [putAll, ex_put1, if_neg (fun h => h rfl), putAll, hx, if_neg (fun h => h rfl), putAll]
  have hw := wrF_ok (s := []) (t := exT) (by rw [stF_nil]) (by rw [exT_ok.f]) h
  refine ⟨x, hw, hl, ?_⟩
  rcases wrF_cases [] exT with ⟨h1, _⟩ | ⟨x', h1, _, ht, hs, _, hh, _⟩
  · rw [hw] at h1; exact absurd rfl h1
  · rw [hw] at h1
    injection h1 with h1 _
    injection h1 with h1 _
    subst h1
    exact read_back hs ht hh
end Tr
namespace Go.Proofs.YtjljknocnebnaaaGreatDoor
open Go.RowKit Go.V Go.Shelf
set_option linter.unusedVariables false

/-- The two variables of the library. -/
def MM (w : World) : Prop := Mx w ∧ M2 w
theorem MM.below {w w' : World} (h : MM w) (hb : Below w.heap.size w w') : MM w' := ⟨h.1.below hb, h.2.below hb⟩
theorem StV.mono {w : World} {X X' : Nat → Prop} {A : Option Addr} {s : List Ob.S} (h : StV w X A s) (k : ∀ b, X' b → X b) : StV w X' A s := h.keep ((Keeps.refl w X).into k)
theorem VfV.mono {w : World} {X X' : Nat → Prop} {A : Option Addr} {s : List Tr.F} (h : VfV w X A s) (k : ∀ b, X' b → X b) : VfV w X' A s := h.keep ((Keeps.refl w X).into k)
end Go.Proofs.YtjljknocnebnaaaGreatDoor
namespace Go.Proofs.YtjljknocnebnaaaGreatDoor
open Go.RowKit Go.V Go.Shelf Go.Lib
set_option linter.unusedVariables false

theorem ex_view {w : World} {g0 g : Nat} (b0 : Blk w g0 9 #[strV [120]]) (b1 : Blk w g 38 #[strV [97], .slice (some ⟨g0, 0, none⟩) 1 1]) : VfV w Free (some ⟨g, 0, none⟩) Tr.exT :=
  FlR.one (L := [[120]]) b1 ⟨by simp, by simp, by simpa [sC] using SA.of_blk (X := Free) b0 (fun h => h)⟩
set_option maxRecDepth 100000 in
set_option maxHeartbeats 16000000 in
theorem texample_any (w : World) (hm : MM w) : Calls Tryz.prog 4 #[] w fun e w' => e = .returned (.bool true) ∧ Below w.heap.size w w' := by
  have hM := Lib.hid hm
  obtain ⟨x, hw, hxl, hr⟩ := Tr.ex_wr
  have H9 : Hid (∀ (w1 : World) (A2 : Option Addr), MM w1 → VfV w1 Free A2 Tr.exT → Calls Tryz.prog 9 #[.agg #[.slice none 0 0], .agg #[.slice A2 1 1]] w1 (WrPost w1 ((x, ((Ob.dig (Tr.treeO Tr.exT) : Nat) : Int)), (0, 0)))) := Lib.hid fun w1 A2 hm hv => by
    have := write_any w1 hm.1 none 0 [] ⟨[], SA.nil, rfl⟩ (by simp) A2 1 Tr.exT hv (by decide) (by decide)
    rw [hw] at this
    exact this
  have H12 : Hid (∀ (w1 : World) (A : Option Addr) (k : Nat), MM w1 → StV w1 Free A x → Calls Tryz.prog 10 #[.agg #[.slice A x.length k], .int .i64 ((Ob.dig (Tr.treeO Tr.exT) : Nat) : Int)] w1 fun e w' =>
      ∃ A c, e = .returned (.tuple #[.agg #[.slice A 1 c], .agg #[.int .i64 0, .int .i64 0]]) ∧ VfV w' (Under w1.heap.size) A Tr.exT ∧ Below w1.heap.size w1 w') := Lib.hid fun w1 A k hm hv => by
    have := read_any w1 hm.1 hm.2 A k x ((Ob.dig (Tr.treeO Tr.exT) : Nat) : Int) hv (by omega)
    rw [hr] at this
    exact this.mono fun e w' ⟨A, c, h1, _, h2, h3⟩ => ⟨A, c, h1, h2, h3⟩
  have H13 : Hid (∀ (w1 : World) (A1 A2 : Option Addr) (c1 c2 : Nat), VfV w1 Free A1 Tr.exT → VfV w1 Free A2 Tr.exT → Calls Tryz.prog 11 #[.agg #[.slice A1 1 c1], .agg #[.slice A2 1 c2]] w1 fun e w' => e = .returned (.bool true) ∧ Below w1.heap.size w1 w') := Lib.hid fun w1 A1 A2 c1 c2 h1 h2 => by
    have := trees_any w1 A1 A2 c1 c2 Tr.exT Tr.exT h1 h2 (by decide) (by decide)
    rw [decide_eq_true rfl] at this
    exact this
  have hx2 : ((x.length : Int) == 2) = true := by rw [hxl]; rfl
  clear hm hw hxl hr
  generalize ((Ob.dig (Tr.treeO Tr.exT) : Nat) : Int) = d at *
  have HB0 := Lib.hid (Below.refl w.heap.size w)
  go_enter Tryz.func4, Tryz.ntmps4
  have bs := Blk.new w 9 #[strV [120]]
  have HBa1 := Lib.hid (HB0.out.alloc HB0.out.size (.cells #[strV [120]] 9))
  replace hM := Lib.hid (hM.out.below (below_alloc1 w (.cells #[strV [120]] 9)))
  replace bs := bs.alloc (.cells #[strV [97], .slice (some ⟨w.heap.size, 0, none⟩) 1 1] 38)
  have bf : Blk ((w.alloc (.cells #[strV [120]] 9)).alloc (.cells #[strV [97], .slice (some ⟨w.heap.size, 0, none⟩) 1 1] 38)) (w.heap.size + 1) 38 #[strV [97], .slice (some ⟨w.heap.size, 0, none⟩) 1 1] := by simpa using Blk.new (w.alloc (.cells #[strV [120]] 9)) 38 #[strV [97], .slice (some ⟨w.heap.size, 0, none⟩) 1 1]
  have HBa2 := Lib.hid (HBa1.out.alloc HBa1.out.size (.cells #[strV [97], .slice (some ⟨w.heap.size, 0, none⟩) 1 1] 38))
  replace hM := Lib.hid (hM.out.below (below_alloc1 (w.alloc (.cells #[strV [120]] 9)) (.cells #[strV [97], .slice (some ⟨w.heap.size, 0, none⟩) 1 1] 38)))
  replace bs := bs.alloc (.cells #[.slice (some ⟨w.heap.size + 1, 0, none⟩) 1 1] 41)
  replace bf := bf.alloc (.cells #[.slice (some ⟨w.heap.size + 1, 0, none⟩) 1 1] 41)
  have t1 : Blk (((w.alloc (.cells #[strV [120]] 9)).alloc (.cells #[strV [97], .slice (some ⟨w.heap.size, 0, none⟩) 1 1] 38)).alloc (.cells #[.slice (some ⟨w.heap.size + 1, 0, none⟩) 1 1] 41)) (w.heap.size + 2) 41 #[.slice (some ⟨w.heap.size + 1, 0, none⟩) 1 1] := by simpa using Blk.new ((w.alloc (.cells #[strV [120]] 9)).alloc (.cells #[strV [97], .slice (some ⟨w.heap.size, 0, none⟩) 1 1] 38)) 41 #[.slice (some ⟨w.heap.size + 1, 0, none⟩) 1 1]
  have HBa3 := Lib.hid (HBa2.out.alloc HBa2.out.size (.cells #[.slice (some ⟨w.heap.size + 1, 0, none⟩) 1 1] 41))
  replace hM := Lib.hid (hM.out.below (below_alloc1 ((w.alloc (.cells #[strV [120]] 9)).alloc (.cells #[strV [97], .slice (some ⟨w.heap.size, 0, none⟩) 1 1] 38)) (.cells #[.slice (some ⟨w.heap.size + 1, 0, none⟩) 1 1] 41)))
  have V1 := Lib.hid (ex_view bs bf)
  go_wp2_with fail
  go_at_call 9
  with_reducible refine (H9.out _ _ hM.out V1.out).mono ?_
  rintro e w1 ⟨Ax, cx, rfl, hcx, hsx, hb1'⟩
  have HBm1 := Lib.hid (HBa3.out.trans (hb1'.mono HBa3.out.size))
  replace bs := bs.below hb1' bs.lt
  replace bf := bf.below hb1' bf.lt
  replace t1 := t1.below hb1' t1.lt
  replace hM := Lib.hid (hM.out.below hb1')
  replace V1 := Lib.hid (V1.out.keep (free_below hb1'))
  have bs_l : w.heap.size < w1.heap.size := bs.lt
  have bs_l1 : w.heap.size < w1.heap.size + 1 := Nat.lt_succ_of_lt bs_l
  have bs_l2 : w.heap.size < w1.heap.size + 1 + 1 := Nat.lt_succ_of_lt bs_l1
  have bs_0 : w1.cell? ⟨w.heap.size, 0, none⟩ = some (strV [120]) := (bs.cell 0).trans rfl
  have bf_l : w.heap.size + 1 < w1.heap.size := bf.lt
  have bf_l1 : w.heap.size + 1 < w1.heap.size + 1 := Nat.lt_succ_of_lt bf_l
  have bf_l2 : w.heap.size + 1 < w1.heap.size + 1 + 1 := Nat.lt_succ_of_lt bf_l1
  have bf_0 : w1.cell? ⟨w.heap.size + 1, 0, none⟩ = some (strV [97]) := (bf.cell 0).trans rfl
  have bf_1 : w1.cell? ⟨w.heap.size + 1, 1, none⟩ = some (.slice (some ⟨w.heap.size, 0, none⟩) 1 1) := (bf.cell 1).trans rfl
  have t1_l : w.heap.size + 2 < w1.heap.size := t1.lt
  have t1_l1 : w.heap.size + 2 < w1.heap.size + 1 := Nat.lt_succ_of_lt t1_l
  have t1_l2 : w.heap.size + 2 < w1.heap.size + 1 + 1 := Nat.lt_succ_of_lt t1_l1
  have t1_0 : w1.cell? ⟨w.heap.size + 2, 0, none⟩ = some (.slice (some ⟨w.heap.size + 1, 0, none⟩) 1 1) := (t1.cell 0).trans rfl
  have Vx := Lib.hid (hsx.mono (X' := Free) (fun _ h => h.elim))
  clear hsx
  clear hb1'
  simp only at hcx
  replace bs := bs.alloc (.cells #[.slice Ax x.length cx] 24)
  replace bf := bf.alloc (.cells #[.slice Ax x.length cx] 24)
  replace t1 := t1.alloc (.cells #[.slice Ax x.length cx] 24)
  have vx := Blk.new w1 24 #[.slice Ax x.length cx]
  have HBa4 := Lib.hid (HBm1.out.alloc HBm1.out.size (.cells #[.slice Ax x.length cx] 24))
  replace hM := Lib.hid (hM.out.below (below_alloc1 w1 (.cells #[.slice Ax x.length cx] 24)))
  replace V1 := Lib.hid (V1.out.keep (Keeps.alloc w1 _ (.cells #[.slice Ax x.length cx] 24)))
  replace Vx := Lib.hid (Vx.out.keep (Keeps.alloc w1 _ (.cells #[.slice Ax x.length cx] 24)))
  replace bs := bs.alloc (.cells #[.int .i64 0, .int .i64 0] 28)
  replace bf := bf.alloc (.cells #[.int .i64 0, .int .i64 0] 28)
  replace t1 := t1.alloc (.cells #[.int .i64 0, .int .i64 0] 28)
  replace vx := vx.alloc (.cells #[.int .i64 0, .int .i64 0] 28)
  have vf : Blk ((w1.alloc (.cells #[.slice Ax x.length cx] 24)).alloc (.cells #[.int .i64 0, .int .i64 0] 28)) (w1.heap.size + 1) 28 #[.int .i64 0, .int .i64 0] := by simpa using Blk.new (w1.alloc (.cells #[.slice Ax x.length cx] 24)) 28 #[.int .i64 0, .int .i64 0]
  have HBa5 := Lib.hid (HBa4.out.alloc HBa4.out.size (.cells #[.int .i64 0, .int .i64 0] 28))
  replace hM := Lib.hid (hM.out.below (below_alloc1 (w1.alloc (.cells #[.slice Ax x.length cx] 24)) (.cells #[.int .i64 0, .int .i64 0] 28)))
  replace V1 := Lib.hid (V1.out.keep (Keeps.alloc (w1.alloc (.cells #[.slice Ax x.length cx] 24)) _ (.cells #[.int .i64 0, .int .i64 0] 28)))
  replace Vx := Lib.hid (Vx.out.keep (Keeps.alloc (w1.alloc (.cells #[.slice Ax x.length cx] 24)) _ (.cells #[.int .i64 0, .int .i64 0] 28)))
  go_wp2_with fail
  go_at_call 10
  with_reducible refine (H12.out _ _ _ hM.out Vx.out).mono ?_
  rintro e w2 ⟨Au, cu, rfl, hsu, hb2'⟩
  have HBm2 := Lib.hid (HBa5.out.trans (hb2'.mono HBa5.out.size))
  replace bs := bs.below hb2' bs.lt
  replace bf := bf.below hb2' bf.lt
  replace t1 := t1.below hb2' t1.lt
  replace vx := vx.below hb2' vx.lt
  replace vf := vf.below hb2' vf.lt
  replace hM := Lib.hid (hM.out.below hb2')
  replace V1 := Lib.hid (V1.out.keep (free_below hb2'))
  replace Vx := Lib.hid (Vx.out.keep (free_below hb2'))
  clear bs_l bs_l1 bs_l2 bs_0 bf_l bf_l1 bf_l2 bf_0 bf_1 t1_l t1_l1 t1_l2 t1_0
  have bs_l : w.heap.size < w2.heap.size := bs.lt
  have bs_l1 : w.heap.size < w2.heap.size + 1 := Nat.lt_succ_of_lt bs_l
  have bs_l2 : w.heap.size < w2.heap.size + 1 + 1 := Nat.lt_succ_of_lt bs_l1
  have bs_0 : w2.cell? ⟨w.heap.size, 0, none⟩ = some (strV [120]) := (bs.cell 0).trans rfl
  have bf_l : w.heap.size + 1 < w2.heap.size := bf.lt
  have bf_l1 : w.heap.size + 1 < w2.heap.size + 1 := Nat.lt_succ_of_lt bf_l
  have bf_l2 : w.heap.size + 1 < w2.heap.size + 1 + 1 := Nat.lt_succ_of_lt bf_l1
  have bf_0 : w2.cell? ⟨w.heap.size + 1, 0, none⟩ = some (strV [97]) := (bf.cell 0).trans rfl
  have bf_1 : w2.cell? ⟨w.heap.size + 1, 1, none⟩ = some (.slice (some ⟨w.heap.size, 0, none⟩) 1 1) := (bf.cell 1).trans rfl
  have t1_l : w.heap.size + 2 < w2.heap.size := t1.lt
  have t1_l1 : w.heap.size + 2 < w2.heap.size + 1 := Nat.lt_succ_of_lt t1_l
  have t1_l2 : w.heap.size + 2 < w2.heap.size + 1 + 1 := Nat.lt_succ_of_lt t1_l1
  have t1_0 : w2.cell? ⟨w.heap.size + 2, 0, none⟩ = some (.slice (some ⟨w.heap.size + 1, 0, none⟩) 1 1) := (t1.cell 0).trans rfl
  have vx_l : w1.heap.size < w2.heap.size := vx.lt
  have vx_l1 : w1.heap.size < w2.heap.size + 1 := Nat.lt_succ_of_lt vx_l
  have vx_l2 : w1.heap.size < w2.heap.size + 1 + 1 := Nat.lt_succ_of_lt vx_l1
  have vx_0 : w2.cell? ⟨w1.heap.size, 0, none⟩ = some (.slice Ax x.length cx) := (vx.cell 0).trans rfl
  have vf_l : w1.heap.size + 1 < w2.heap.size := vf.lt
  have vf_l1 : w1.heap.size + 1 < w2.heap.size + 1 := Nat.lt_succ_of_lt vf_l
  have vf_l2 : w1.heap.size + 1 < w2.heap.size + 1 + 1 := Nat.lt_succ_of_lt vf_l1
  have vf_0 : w2.cell? ⟨w1.heap.size + 1, 0, none⟩ = some (.int .i64 0) := (vf.cell 0).trans rfl
  have vf_1 : w2.cell? ⟨w1.heap.size + 1, 1, none⟩ = some (.int .i64 0) := (vf.cell 1).trans rfl
  have Vu := Lib.hid (hsu.mono (X' := Free) (fun _ h => h.elim))
  clear hsu
  clear hb2'
  replace bs := bs.alloc (.cells #[.slice Au 1 cu] 41)
  replace bf := bf.alloc (.cells #[.slice Au 1 cu] 41)
  replace t1 := t1.alloc (.cells #[.slice Au 1 cu] 41)
  replace vx := vx.alloc (.cells #[.slice Au 1 cu] 41)
  replace vf := vf.alloc (.cells #[.slice Au 1 cu] 41)
  have vu := Blk.new w2 41 #[.slice Au 1 cu]
  have HBa6 := Lib.hid (HBm2.out.alloc HBm2.out.size (.cells #[.slice Au 1 cu] 41))
  replace hM := Lib.hid (hM.out.below (below_alloc1 w2 (.cells #[.slice Au 1 cu] 41)))
  replace V1 := Lib.hid (V1.out.keep (Keeps.alloc w2 _ (.cells #[.slice Au 1 cu] 41)))
  replace Vx := Lib.hid (Vx.out.keep (Keeps.alloc w2 _ (.cells #[.slice Au 1 cu] 41)))
  replace Vu := Lib.hid (Vu.out.keep (Keeps.alloc w2 _ (.cells #[.slice Au 1 cu] 41)))
  replace bs := bs.alloc (.cells #[.int .i64 0, .int .i64 0] 28)
  replace bf := bf.alloc (.cells #[.int .i64 0, .int .i64 0] 28)
  replace t1 := t1.alloc (.cells #[.int .i64 0, .int .i64 0] 28)
  replace vx := vx.alloc (.cells #[.int .i64 0, .int .i64 0] 28)
  replace vf := vf.alloc (.cells #[.int .i64 0, .int .i64 0] 28)
  replace vu := vu.alloc (.cells #[.int .i64 0, .int .i64 0] 28)
  have vg : Blk ((w2.alloc (.cells #[.slice Au 1 cu] 41)).alloc (.cells #[.int .i64 0, .int .i64 0] 28)) (w2.heap.size + 1) 28 #[.int .i64 0, .int .i64 0] := by simpa using Blk.new (w2.alloc (.cells #[.slice Au 1 cu] 41)) 28 #[.int .i64 0, .int .i64 0]
  have HBa7 := Lib.hid (HBa6.out.alloc HBa6.out.size (.cells #[.int .i64 0, .int .i64 0] 28))
  replace hM := Lib.hid (hM.out.below (below_alloc1 (w2.alloc (.cells #[.slice Au 1 cu] 41)) (.cells #[.int .i64 0, .int .i64 0] 28)))
  replace V1 := Lib.hid (V1.out.keep (Keeps.alloc (w2.alloc (.cells #[.slice Au 1 cu] 41)) _ (.cells #[.int .i64 0, .int .i64 0] 28)))
  replace Vx := Lib.hid (Vx.out.keep (Keeps.alloc (w2.alloc (.cells #[.slice Au 1 cu] 41)) _ (.cells #[.int .i64 0, .int .i64 0] 28)))
  replace Vu := Lib.hid (Vu.out.keep (Keeps.alloc (w2.alloc (.cells #[.slice Au 1 cu] 41)) _ (.cells #[.int .i64 0, .int .i64 0] 28)))
  go_wp2_with fail
  go_at_call 11
  with_reducible refine (H13.out _ _ _ _ _ V1.out Vu.out).mono ?_
  rintro e w3 ⟨rfl, hb3'⟩
  have HBm3 := Lib.hid (HBa7.out.trans (hb3'.mono HBa7.out.size))
  replace bs := bs.below hb3' bs.lt
  replace bf := bf.below hb3' bf.lt
  replace t1 := t1.below hb3' t1.lt
  replace vx := vx.below hb3' vx.lt
  replace vf := vf.below hb3' vf.lt
  replace vu := vu.below hb3' vu.lt
  replace vg := vg.below hb3' vg.lt
  replace hM := Lib.hid (hM.out.below hb3')
  replace V1 := Lib.hid (V1.out.keep (free_below hb3'))
  replace Vx := Lib.hid (Vx.out.keep (free_below hb3'))
  replace Vu := Lib.hid (Vu.out.keep (free_below hb3'))
  clear bs_l bs_l1 bs_l2 bs_0 bf_l bf_l1 bf_l2 bf_0 bf_1 t1_l t1_l1 t1_l2 t1_0 vx_l vx_l1 vx_l2 vx_0 vf_l vf_l1 vf_l2 vf_0 vf_1
  have bs_l : w.heap.size < w3.heap.size := bs.lt
  have bs_l1 : w.heap.size < w3.heap.size + 1 := Nat.lt_succ_of_lt bs_l
  have bs_l2 : w.heap.size < w3.heap.size + 1 + 1 := Nat.lt_succ_of_lt bs_l1
  have bs_0 : w3.cell? ⟨w.heap.size, 0, none⟩ = some (strV [120]) := (bs.cell 0).trans rfl
  have bf_l : w.heap.size + 1 < w3.heap.size := bf.lt
  have bf_l1 : w.heap.size + 1 < w3.heap.size + 1 := Nat.lt_succ_of_lt bf_l
  have bf_l2 : w.heap.size + 1 < w3.heap.size + 1 + 1 := Nat.lt_succ_of_lt bf_l1
  have bf_0 : w3.cell? ⟨w.heap.size + 1, 0, none⟩ = some (strV [97]) := (bf.cell 0).trans rfl
  have bf_1 : w3.cell? ⟨w.heap.size + 1, 1, none⟩ = some (.slice (some ⟨w.heap.size, 0, none⟩) 1 1) := (bf.cell 1).trans rfl
  have t1_l : w.heap.size + 2 < w3.heap.size := t1.lt
  have t1_l1 : w.heap.size + 2 < w3.heap.size + 1 := Nat.lt_succ_of_lt t1_l
  have t1_l2 : w.heap.size + 2 < w3.heap.size + 1 + 1 := Nat.lt_succ_of_lt t1_l1
  have t1_0 : w3.cell? ⟨w.heap.size + 2, 0, none⟩ = some (.slice (some ⟨w.heap.size + 1, 0, none⟩) 1 1) := (t1.cell 0).trans rfl
  have vx_l : w1.heap.size < w3.heap.size := vx.lt
  have vx_l1 : w1.heap.size < w3.heap.size + 1 := Nat.lt_succ_of_lt vx_l
  have vx_l2 : w1.heap.size < w3.heap.size + 1 + 1 := Nat.lt_succ_of_lt vx_l1
  have vx_0 : w3.cell? ⟨w1.heap.size, 0, none⟩ = some (.slice Ax x.length cx) := (vx.cell 0).trans rfl
  have vf_l : w1.heap.size + 1 < w3.heap.size := vf.lt
  have vf_l1 : w1.heap.size + 1 < w3.heap.size + 1 := Nat.lt_succ_of_lt vf_l
  have vf_l2 : w1.heap.size + 1 < w3.heap.size + 1 + 1 := Nat.lt_succ_of_lt vf_l1
  have vf_0 : w3.cell? ⟨w1.heap.size + 1, 0, none⟩ = some (.int .i64 0) := (vf.cell 0).trans rfl
  have vf_1 : w3.cell? ⟨w1.heap.size + 1, 1, none⟩ = some (.int .i64 0) := (vf.cell 1).trans rfl
  have vu_l : w2.heap.size < w3.heap.size := vu.lt
  have vu_l1 : w2.heap.size < w3.heap.size + 1 := Nat.lt_succ_of_lt vu_l
  have vu_l2 : w2.heap.size < w3.heap.size + 1 + 1 := Nat.lt_succ_of_lt vu_l1
  have vu_0 : w3.cell? ⟨w2.heap.size, 0, none⟩ = some (.slice Au 1 cu) := (vu.cell 0).trans rfl
  have vg_l : w2.heap.size + 1 < w3.heap.size := vg.lt
  have vg_l1 : w2.heap.size + 1 < w3.heap.size + 1 := Nat.lt_succ_of_lt vg_l
  have vg_l2 : w2.heap.size + 1 < w3.heap.size + 1 + 1 := Nat.lt_succ_of_lt vg_l1
  have vg_0 : w3.cell? ⟨w2.heap.size + 1, 0, none⟩ = some (.int .i64 0) := (vg.cell 0).trans rfl
  have vg_1 : w3.cell? ⟨w2.heap.size + 1, 1, none⟩ = some (.int .i64 0) := (vg.cell 1).trans rfl
  clear hb3'
  go_wp2_with fail
  go_ret
  exact ⟨rfl, HBm3.out⟩
end Go.Proofs.YtjljknocnebnaaaGreatDoor
namespace Tr
open Ob (O S StOk)
/-- The index of a fault that is not the store's. -/
theorem ptF_ix {s : List S} {d : Int} (h : StOk s) (i j : Int) : ((ptF s d i).2.1 ≠ 0 ∧ (ptF s d i).2 = ((ptF s d i).2.1, i) ∧ (ptF s d j).2 = ((ptF s d i).2.1, j)) ∨ ((ptF s d i).2 = (0, 0) ∧ ptF s d j = ptF s d i) := by
  rcases hg : gtO s d with _ | o
  · rw [ptF_none i h hg, ptF_none j h hg]; exact .inl ⟨by show (6 : Int) ≠ 0; decide, rfl, rfl⟩
  · by_cases hp : (prF o).2 = 0
    · rw [ptF_ok i h hg hp, ptF_ok j h hg hp]; exact .inr ⟨rfl, rfl⟩
    · rw [ptF_bad i h hg hp, ptF_bad j h hg hp]; exact .inl ⟨hp, rfl, rfl⟩
theorem chF_len (p : List Nm) (x : List Int) (q : List Nm) (y : List Int) : (chF p x q y).length ≤ p.length + q.length := by
  rw [ch_oL]
  exact Nat.le_trans (oL_len _ _ _ _) (Nat.add_le_add_right (aL_len _ _ _ _ _) _)
end Tr
namespace Go.Proofs.YtjljknocnebnaaaGreatDoor
open Go.RowKit Go.V Go.Shelf Go.Lib
set_option linter.unusedVariables false

set_option maxRecDepth 100000 in
set_option maxHeartbeats 16000000 in
theorem law3_any (w : World) (hm : Mx w) (hm2 : M2 w) (A : Option Addr) (k : Nat) (s : List Ob.S) (hv : StV w Free A s) (hl : s.length * 64 ≤ 140737488351232) (hk : s.length ≤ k) (a b : Int) :
    Calls Tryz.prog 3 #[.agg #[.slice A s.length k], .int .i64 a, .int .i64 b] w fun e w' => e = .returned (.bool true) ∧ Below w.heap.size w w' := by
  have hM := Lib.hid (show MM w from ⟨hm, hm2⟩)
  have V0 := Lib.hid hv
  have VX := Lib.hid (fun (w1 : World) (hb : Below w.heap.size w w1) => (hv.keep (Keeps.below hb (fun b h1 h2 => by omega)) : StV w1 (fun b => w.heap.size ≤ b) A s))
  have H5 := Lib.hid (fun (w1 : World) (hm : MM w1) (hv : StV w1 Free A s) => changed_any w1 hm.1 hm.2 A k s a b hv (by omega))
  have H6 := Lib.hid (fun (w1 : World) (d : Int) (hm : MM w1) (hv : StV w1 Free A s) (X : Nat → Prop) (hX : StV w1 X A s) => treePaths_any w1 hm.1 A k s d hv (by omega) X hX)
  have HA := Lib.hid (Tr.chR_a (s := s) (a := a) (b := b))
  have HB := Lib.hid (Tr.chR_b (s := s) (a := a) (b := b))
  have HC := Lib.hid (Tr.chR_c (s := s) (a := a) (b := b))
  have HG := Lib.hid (fun (d i : Int) (h : (Tr.ptF s d i).2.1 = 0) => Tr.ptF_good h)
  have HIX := Lib.hid (fun (h : Ob.StOk s) => Tr.ptF_ix (s := s) (d := b) h (-1) (-2))
  have HRL : Hid ((Tr.chR s a b).1.length ≤ 48) := Lib.hid (by
    by_cases h1 : (Tr.ptF s a (-1)).2.1 = 0
    · by_cases h2 : (Tr.ptF s b (-2)).2.1 = 0
      · rw [Tr.chR_c h1 h2]
        have h3 := Tr.chF_len (Tr.ptF s a (-1)).1.1 (Tr.ptF s a (-1)).1.2 (Tr.ptF s b (-2)).1.1 (Tr.ptF s b (-2)).1.2
        have h4 := (Tr.ptF_good h1).2.2.2
        have h5 := (Tr.ptF_good h2).2.2.2
        show (Tr.chF _ _ _ _).length ≤ 48
        omega
      · rw [Tr.chR_b h1 h2]; simp
    · rw [Tr.chR_a h1]; simp)
  clear hm hm2 hv
  generalize Tr.chR s a b = r at *
  obtain ⟨l, fc, fi⟩ := r
  have HB0 := Lib.hid (Below.refl w.heap.size w)
  go_enter Tryz.func3, Tryz.ntmps3
  have bx := Blk.new w 24 #[.slice A s.length k]
  have HBa1 := Lib.hid (HB0.out.alloc HB0.out.size (.cells #[.slice A s.length k] 24))
  replace hM := Lib.hid (hM.out.below (below_alloc1 w (.cells #[.slice A s.length k] 24)))
  replace V0 := Lib.hid (V0.out.keep (Keeps.alloc w _ (.cells #[.slice A s.length k] 24)))
  go_wp2_with fail
  go_at_call 4
  with_reducible refine (texample_any _ hM.out).mono ?_
  rintro e w1 ⟨rfl, hb1'⟩
  have HBm1 := Lib.hid (HBa1.out.trans (hb1'.mono HBa1.out.size))
  replace bx := bx.below hb1' bx.lt
  replace hM := Lib.hid (hM.out.below hb1')
  replace V0 := Lib.hid (V0.out.keep (free_below hb1'))
  have bx_l : w.heap.size < w1.heap.size := bx.lt
  have bx_l1 : w.heap.size < w1.heap.size + 1 := Nat.lt_succ_of_lt bx_l
  have bx_l2 : w.heap.size < w1.heap.size + 1 + 1 := Nat.lt_succ_of_lt bx_l1
  have bx_0 : w1.cell? ⟨w.heap.size, 0, none⟩ = some (.slice A s.length k) := (bx.cell 0).trans rfl
  clear hb1'
  go_wp2_with fail
  go_at_call 5
  with_reducible refine (H5.out _ hM.out V0.out).mono ?_
  rintro e w2 ⟨Al, cl, rfl, hsl, hb2'⟩
  have HBm2 := Lib.hid (HBm1.out.trans (hb2'.mono HBm1.out.size))
  replace bx := bx.below hb2' bx.lt
  replace hM := Lib.hid (hM.out.below hb2')
  replace V0 := Lib.hid (V0.out.keep (free_below hb2'))
  clear bx_l bx_l1 bx_l2 bx_0
  have bx_l : w.heap.size < w2.heap.size := bx.lt
  have bx_l1 : w.heap.size < w2.heap.size + 1 := Nat.lt_succ_of_lt bx_l
  have bx_l2 : w.heap.size < w2.heap.size + 1 + 1 := Nat.lt_succ_of_lt bx_l1
  have bx_0 : w2.cell? ⟨w.heap.size, 0, none⟩ = some (.slice A s.length k) := (bx.cell 0).trans rfl
  have Vl := Lib.hid (hsl.mono (X' := Free) (fun _ h => h.elim))
  clear hsl
  clear hb2'
  try simp only at HRL
  replace bx := bx.alloc (.cells #[.int .i64 fc, .int .i64 fi] 28)
  have ve := Blk.new w2 28 #[.int .i64 fc, .int .i64 fi]
  have HBa2 := Lib.hid (HBm2.out.alloc HBm2.out.size (.cells #[.int .i64 fc, .int .i64 fi] 28))
  replace hM := Lib.hid (hM.out.below (below_alloc1 w2 (.cells #[.int .i64 fc, .int .i64 fi] 28)))
  replace V0 := Lib.hid (V0.out.keep (Keeps.alloc w2 _ (.cells #[.int .i64 fc, .int .i64 fi] 28)))
  replace Vl := Lib.hid (Vl.out.keep (Keeps.alloc w2 _ (.cells #[.int .i64 fc, .int .i64 fi] 28)))
  have VX3 := Lib.hid (VX.out _ HBa2.out)
  go_wp2_with fail
  go_at_call 6
  with_reducible refine (H6.out _ a hM.out V0.out _ VX3.out).mono ?_
  rintro e w3 ⟨Ap, cp, Bx, mx, rfl, hsp, hsx, hmx, hb3'⟩
  have HBm3 := Lib.hid (HBa2.out.trans (hb3'.mono HBa2.out.size))
  replace bx := bx.below hb3' bx.lt
  replace ve := ve.below hb3' ve.lt
  replace hM := Lib.hid (hM.out.below hb3')
  replace V0 := Lib.hid (V0.out.keep (free_below hb3'))
  replace Vl := Lib.hid (Vl.out.keep (free_below hb3'))
  clear bx_l bx_l1 bx_l2 bx_0
  have bx_l : w.heap.size < w3.heap.size := bx.lt
  have bx_l1 : w.heap.size < w3.heap.size + 1 := Nat.lt_succ_of_lt bx_l
  have bx_l2 : w.heap.size < w3.heap.size + 1 + 1 := Nat.lt_succ_of_lt bx_l1
  have bx_0 : w3.cell? ⟨w.heap.size, 0, none⟩ = some (.slice A s.length k) := (bx.cell 0).trans rfl
  have ve_l : w2.heap.size < w3.heap.size := ve.lt
  have ve_l1 : w2.heap.size < w3.heap.size + 1 := Nat.lt_succ_of_lt ve_l
  have ve_l2 : w2.heap.size < w3.heap.size + 1 + 1 := Nat.lt_succ_of_lt ve_l1
  have ve_0 : w3.cell? ⟨w2.heap.size, 0, none⟩ = some (.int .i64 fc) := (ve.cell 0).trans rfl
  have ve_1 : w3.cell? ⟨w2.heap.size, 1, none⟩ = some (.int .i64 fi) := (ve.cell 1).trans rfl
  clear hb3'
  clear VX3
  have HWL := Lib.hid (HBm3.out.size)
  have HNE := Lib.hid (Nat.ne_of_lt ve_l)
  by_cases hc : (Tr.ptF s a (-1)).2.1 = 0
  · obtain ⟨hok, hz, hlx, h24⟩ := HG.out a (-1) hc
    have HC1 := Lib.hid (HC.out hc)
    have HB1 := Lib.hid (HB.out hc)
    have HIX1 := Lib.hid (HIX.out hok)
    clear HA HC HB HIX hok hc
    generalize Tr.ptF s a (-1) = q1 at *
    obtain ⟨⟨p, x⟩, c1, i1⟩ := q1
    simp only at *
    injection hz with hz1 hz2
    subst hz1
    subst hz2
    have HLX := Lib.hid hlx
    clear hlx
    have hkv : Keeps w3 Free (w3.alloc (.cells #[.int .i64 0, .int .i64 0] 28)) (fun b => b = w3.heap.size) := Keeps.below (below_alloc1 _ _) (fun b hb h => by omega)
    have VLx := Lib.hid (Vl.out.keep hkv)
    have VPx := Lib.hid ((hsp.mono (X' := Free) (fun b h => h.elim)).keep hkv)
    have VXx := Lib.hid (hsx.keep (Keeps.alloc w3 _ (.cells #[.int .i64 0, .int .i64 0] 28)))
    clear hkv hsp hsx Vl
    replace bx := bx.alloc (.cells #[.int .i64 0, .int .i64 0] 28)
    replace ve := ve.alloc (.cells #[.int .i64 0, .int .i64 0] 28)
    have vw := Blk.new w3 28 #[.int .i64 0, .int .i64 0]
    have HBa3 := Lib.hid (HBm3.out.alloc HBm3.out.size (.cells #[.int .i64 0, .int .i64 0] 28))
    replace hM := Lib.hid (hM.out.below (below_alloc1 w3 (.cells #[.int .i64 0, .int .i64 0] 28)))
    replace V0 := Lib.hid (V0.out.keep (Keeps.alloc w3 _ (.cells #[.int .i64 0, .int .i64 0] 28)))
    have VX4 := Lib.hid (VX.out _ HBa3.out)
    go_wp2_with fail
    go_at_call 6
    with_reducible refine (H6.out _ b hM.out V0.out _ VX4.out).mono ?_
    rintro e w4 ⟨Aq, cq, By, my, rfl, hsq, hsy, hmy, hb4'⟩
    have HBm4 := Lib.hid (HBa3.out.trans (hb4'.mono HBa3.out.size))
    replace bx := bx.below hb4' bx.lt
    replace ve := ve.below hb4' ve.lt
    replace vw := vw.below hb4' vw.lt
    replace hM := Lib.hid (hM.out.below hb4')
    replace V0 := Lib.hid (V0.out.keep (free_below hb4'))
    clear bx_l bx_l1 bx_l2 bx_0 ve_l ve_l1 ve_l2 ve_0 ve_1
    have bx_l : w.heap.size < w4.heap.size := bx.lt
    have bx_l1 : w.heap.size < w4.heap.size + 1 := Nat.lt_succ_of_lt bx_l
    have bx_l2 : w.heap.size < w4.heap.size + 1 + 1 := Nat.lt_succ_of_lt bx_l1
    have bx_0 : w4.cell? ⟨w.heap.size, 0, none⟩ = some (.slice A s.length k) := (bx.cell 0).trans rfl
    have ve_l : w2.heap.size < w4.heap.size := ve.lt
    have ve_l1 : w2.heap.size < w4.heap.size + 1 := Nat.lt_succ_of_lt ve_l
    have ve_l2 : w2.heap.size < w4.heap.size + 1 + 1 := Nat.lt_succ_of_lt ve_l1
    have ve_0 : w4.cell? ⟨w2.heap.size, 0, none⟩ = some (.int .i64 fc) := (ve.cell 0).trans rfl
    have ve_1 : w4.cell? ⟨w2.heap.size, 1, none⟩ = some (.int .i64 fi) := (ve.cell 1).trans rfl
    have vw_l : w3.heap.size < w4.heap.size := vw.lt
    have vw_l1 : w3.heap.size < w4.heap.size + 1 := Nat.lt_succ_of_lt vw_l
    have vw_l2 : w3.heap.size < w4.heap.size + 1 + 1 := Nat.lt_succ_of_lt vw_l1
    have vw_0 : w4.cell? ⟨w3.heap.size, 0, none⟩ = some (.int .i64 0) := (vw.cell 0).trans rfl
    have vw_f0 : w4.frozen? ⟨w3.heap.size, 0, none⟩ = false := vw.frozen 0
    have vw_1 : w4.cell? ⟨w3.heap.size, 1, none⟩ = some (.int .i64 0) := (vw.cell 1).trans rfl
    have vw_f1 : w4.frozen? ⟨w3.heap.size, 1, none⟩ = false := vw.frozen 1
    replace VLx := Lib.hid (VLx.out.keep (Keeps.below hb4' fun _ _ h => h))
    replace VPx := Lib.hid (VPx.out.keep (Keeps.below hb4' fun _ _ h => h))
    replace VXx := Lib.hid (VXx.out.keep (Keeps.below hb4' fun _ _ h => h))
    have hUq : w3.heap.size < (w3.alloc (.cells #[.int .i64 0, .int .i64 0] 28)).heap.size := by simp
    clear hb4' VX4
    skip
    have HW0 : w.heap.size ≤ w3.heap.size := by have := HWL.out; omega
    rcases HIX1.out with ⟨hc2, he1, he2⟩ | ⟨he1, he2⟩
    · have hr := HB1.out (by rw [he2]; exact hc2)
      rw [he2] at hr
      clear HB1 HC1 HIX1 HG VLx VPx VXx hsq hsy
      generalize Tr.ptF s b (-1) = q2 at *
      obtain ⟨⟨q, y⟩, c2, i2⟩ := q2
      simp only at *
      injection he1 with _ he1
      subst he1
      injection hr with e1 e2
      injection e2 with e2 e3
      subst e1
      subst e2
      subst e3
      have hx1 : (fc == 0) = false := by simpa using hc2
      have hx2 : (fc != 0) = true := by simpa using hc2
      have hx3 : (fc == fc) = true := by simp
      clear hc2 he2 HRL
      have hne := HNE.out
      have hne2 : ¬ w3.heap.size = w2.heap.size := fun h => hne h.symm
      have vw3 := (blk_put2 vw (.int .i64 fc) (.int .i64 (-1))).set_ 1 (.int .i64 (-2))
      have us0 : (((w4.setCell ⟨w3.heap.size, 0, none⟩ (.int .i64 fc)).setCell ⟨w3.heap.size, 1, none⟩ (.int .i64 (-1))).setCell ⟨w3.heap.size, 1, none⟩ (.int .i64 (-2))).cell? ⟨w3.heap.size, 0, none⟩ = some (.int .i64 fc) := (vw3.cell 0).trans (by simp)
      have us1 : (((w4.setCell ⟨w3.heap.size, 0, none⟩ (.int .i64 fc)).setCell ⟨w3.heap.size, 1, none⟩ (.int .i64 (-1))).setCell ⟨w3.heap.size, 1, none⟩ (.int .i64 (-2))).cell? ⟨w3.heap.size, 1, none⟩ = some (.int .i64 (-2)) := (vw3.cell 1).trans (by simp)
      have vs0 : (((w4.setCell ⟨w3.heap.size, 0, none⟩ (.int .i64 fc)).setCell ⟨w3.heap.size, 1, none⟩ (.int .i64 (-1))).setCell ⟨w3.heap.size, 1, none⟩ (.int .i64 (-2))).cell? ⟨w2.heap.size, 0, none⟩ = some (.int .i64 fc) := by simp [go_sem, ve_0]
      have vs1 : (((w4.setCell ⟨w3.heap.size, 0, none⟩ (.int .i64 fc)).setCell ⟨w3.heap.size, 1, none⟩ (.int .i64 (-1))).setCell ⟨w3.heap.size, 1, none⟩ (.int .i64 (-2))).cell? ⟨w2.heap.size, 1, none⟩ = some (.int .i64 (-2)) := by simp [go_sem, ve_1]
      go_wp2_with fail
      go_ret
      exact ⟨by simp, ((HBm4.out.setCell (p := ⟨w3.heap.size, 0, none⟩) HW0 _).setCell (p := ⟨w3.heap.size, 1, none⟩) HW0 _).setCell (p := ⟨w3.heap.size, 1, none⟩) HW0 _⟩
    · obtain ⟨_, hz, hly, h242⟩ := HG.out b (-1) (by rw [he1])
      have hr := HC1.out (by rw [he2, he1])
      rw [he2] at hr
      clear HB1 HC1 HIX1 HG he2
      generalize Tr.ptF s b (-1) = q2 at *
      obtain ⟨⟨q, y⟩, c2, i2⟩ := q2
      simp only at *
      injection he1 with e1 e2
      subst e1
      subst e2
      injection hr with e1 e2
      injection e2 with e2 e3
      subst e1
      subst e2
      subst e3
      have hk1 : Keeps w4 (fun b => b = w3.heap.size) ((w4.setCell ⟨w3.heap.size, 0, none⟩ (.int .i64 0)).setCell ⟨w3.heap.size, 1, none⟩ (.int .i64 0)) Free := ((Keeps.setCell w4 (fun b => b = w3.heap.size) ⟨w3.heap.size, 0, none⟩ (.int .i64 0) rfl).trans (Keeps.setCell _ (fun b => b = w3.heap.size) ⟨w3.heap.size, 1, none⟩ (.int .i64 0) rfl)).into fun b (h : False) => h.elim
      have hk2 : Keeps w4 (fun b => w.heap.size ≤ b) ((w4.setCell ⟨w3.heap.size, 0, none⟩ (.int .i64 0)).setCell ⟨w3.heap.size, 1, none⟩ (.int .i64 0)) Free := ((Keeps.setCell w4 (fun b => w.heap.size ≤ b) ⟨w3.heap.size, 0, none⟩ (.int .i64 0) HW0).trans (Keeps.setCell _ (fun b => w.heap.size ≤ b) ⟨w3.heap.size, 1, none⟩ (.int .i64 0) HW0)).into fun b (h : False) => h.elim
      have hk3 : Keeps w4 (Under (w3.alloc (.cells #[.int .i64 0, .int .i64 0] 28)).heap.size) ((w4.setCell ⟨w3.heap.size, 0, none⟩ (.int .i64 0)).setCell ⟨w3.heap.size, 1, none⟩ (.int .i64 0)) Free := ((Keeps.setCell w4 (Under (w3.alloc (.cells #[.int .i64 0, .int .i64 0] 28)).heap.size) ⟨w3.heap.size, 0, none⟩ (.int .i64 0) hUq).trans (Keeps.setCell _ (Under (w3.alloc (.cells #[.int .i64 0, .int .i64 0] 28)).heap.size) ⟨w3.heap.size, 1, none⟩ (.int .i64 0) hUq)).into fun b (h : False) => h.elim
      have gl := VLx.out.keep hk1
      have gp := VPx.out.keep hk1
      have gx := VXx.out.keep hk2
      have gq := hsq.keep hk3
      have gy := hsy.keep hk2
      have HCP := Lib.hid (changedPaths_any _ Ap cp p gp.ls h24 Bx mx x gx HLX.out.symm Aq cq q gq.ls h242 By my y gy hly.symm)
      clear hk1 hk2 hk3 VLx VPx VXx gp gx gq gy hsq hsy hz hly HLX
      generalize Tr.chF p x q y = L at *
      have HS := Lib.hid (fun (w1 : World) (A1 A3 : Option Addr) (c1 c3 : Nat) (h1 : LnA w1 Free L A1 c1) (h3 : SA w1 Free A3 (ssV L)) => by
        have := strings_any w1 A1 A3 c1 c3 L L h1.ls h3 (by have := HRL.out; omega) (by have := HRL.out; omega)
        rw [decide_eq_true rfl] at this
        exact this.mono fun e w' ⟨h, n, hn⟩ => (⟨h, by rw [hn]; exact below_drewN (Below.refl _ _) n⟩ : e = Ending.returned (Value.bool true) ∧ Below w1.heap.size w1 w'))
      have HBz := Lib.hid ((HBm4.out.setCell (p := ⟨w3.heap.size, 0, none⟩) HW0 (.int .i64 0)).setCell (p := ⟨w3.heap.size, 1, none⟩) HW0 (.int .i64 0))
      have ws0 : ((w4.setCell ⟨w3.heap.size, 0, none⟩ (.int .i64 0)).setCell ⟨w3.heap.size, 1, none⟩ (.int .i64 0)).cell? ⟨w3.heap.size, 0, none⟩ = some (.int .i64 0) := ((blk_put2 vw _ _).cell 0).trans rfl
      have ws1 : ((w4.setCell ⟨w3.heap.size, 0, none⟩ (.int .i64 0)).setCell ⟨w3.heap.size, 1, none⟩ (.int .i64 0)).cell? ⟨w3.heap.size, 1, none⟩ = some (.int .i64 0) := ((blk_put2 vw _ _).cell 1).trans rfl
      have hne := HNE.out
      have hne2 : ¬ w3.heap.size = w2.heap.size := fun h => hne h.symm
      have vs0 : ((w4.setCell ⟨w3.heap.size, 0, none⟩ (.int .i64 0)).setCell ⟨w3.heap.size, 1, none⟩ (.int .i64 0)).cell? ⟨w2.heap.size, 0, none⟩ = some (.int .i64 0) := by simp [go_sem, ve_0]
      have vs1 : ((w4.setCell ⟨w3.heap.size, 0, none⟩ (.int .i64 0)).setCell ⟨w3.heap.size, 1, none⟩ (.int .i64 0)).cell? ⟨w2.heap.size, 1, none⟩ = some (.int .i64 0) := by simp [go_sem, ve_1]
      go_wp2_with fail
      go_at_call 8
      with_reducible refine (HCP.out).mono ?_
      rintro e w8 ⟨Ac, cc, rfl, hcc, hsc, hb8⟩
      have gl8 := gl.keep (free_below hb8)
      have hb9 := HBz.out.trans (hb8.mono HBz.out.size)
      clear gl HCP hcc
      go_wp2_with fail
      go_at_call 7
      with_reducible refine (HS.out _ _ _ _ _ gl8 (hsc.mono fun b h => (by unfold Free at h; exact h.elim))).mono ?_
      rintro e w9 ⟨rfl, hbn⟩
      go_wp2_with fail
      go_ret
      exact ⟨by simp, hb9.trans (hbn.mono hb9.size)⟩
  · have hr := HA.out hc
    clear HA HB HC HG HIX H5 H6 VX hsp hsx
    generalize Tr.ptF s a (-1) = q1 at *
    obtain ⟨⟨p, x⟩, c1, i1⟩ := q1
    simp only at *
    injection hr with e1 e2
    injection e2 with e2 e3
    subst e1
    subst e2
    subst e3
    have hx1 : (fc == 0) = false := by simpa using hc
    have hx2 : (fc != 0) = true := by simpa using hc
    have hx3 : (fc == fc) = true := by simp
    have hx4 : (fi == fi) = true := by simp
    clear hc HRL
    go_wp2_with fail
    go_ret
    exact ⟨by simp, HBm3.out.alloc HBm3.out.size _⟩
end Go.Proofs.YtjljknocnebnaaaGreatDoor
namespace Go.V
open Go.RowKit Go.ChangeShapes Go.WideShapes Go.ChangeAt Go.Deep

section
variable {H : Type} {enc : TypeId × Value → H} {P : Program} {w : World} {base : Nat} {spare : Nat → Bool} {held : Bool}
theorem weights_all (P : Program) (e : TypeId) (n : Nat) : ∀ (l : List (DataW H)) (d : DataW H), d ∈ l → n ∈ d.weights P e → n ∈ DataW.weightsAll P e l := by
  intro l
  induction l with
  | nil => intro d hd; simp at hd
  | cons d0 l ih =>
    intro d hd hnd
    simp only [DataW.weightsAll, List.mem_append]
    rcases List.mem_cons.1 hd with rfl | hd
    · exact .inl hnd
    · exact .inr (ih d hd hnd)
theorem rows_of1 {α : Type} {R : α → List Value → Prop} (V : Nat → Value) : ∀ (n : Nat), (∀ i, i < n → ∃ a : α, R a [V i]) → ∃ l : List α, l.length = n ∧ RowsR R l ((List.range n).map V)
  | 0, _ => ⟨[], rfl, by simp [RowsR]⟩
  | n + 1, h => by
    obtain ⟨l, hl, hr⟩ := rows_of1 V n (fun i hi => h i (by omega))
    obtain ⟨a, ha⟩ := h n (by omega)
    refine ⟨l ++ [a], by simp [hl], ?_⟩
    rw [List.range_succ, List.map_append]
    exact hr.append (RowsR.one ha)
theorem open_rows1 {α : Type} {R : α → List Value → Prop} {t e : TypeId} {fuel : Nat} {cs : List Value} {x : DataW H × List MemPlace} (ht : P.underlying t = some (.slice e)) (hC : P.cellsOf e = 1)
    (h : DataW.trod enc P w base spare held fuel t cs = some x) (hz : ∀ n ∈ x.1.weights P t, n ≤ reachBytes)
    (hR : ∀ (v : Value) (n : Nat) (y : DataW H × List MemPlace), DataW.trod enc P w base spare held n e [v] = some y → (∀ k ∈ y.1.weights P e, k ≤ reachBytes) → ∃ a, R a [v]) :
    ∃ A c l vs, cs = [.slice A l.length c] ∧ l.length ≤ c ∧ c ≤ maxLen ∧ l.length * P.bytesOf e ≤ reachBytes ∧ SV w w.heap.size A vs ∧ RowsR R l vs := by
  rcases open_slice1 ht hC h with ⟨rfl, _⟩ | ⟨a, len, cap, m, n, V, D, Pl, rfl, hb, hl, hm, hmm, hx, hi⟩
  · exact ⟨none, 0, [], [], rfl, Nat.le_refl _, by simp [maxLen], by simp, .inl rfl, rfl⟩
  · have hlm : len ≤ m := by rw [hmm]; split <;> omega
    have hbytes : len * P.bytesOf e ≤ reachBytes := by
      have := hz ((((List.range len).map D).length + ((List.range (m - len)).map fun j => D (len + j)).length) * P.bytesOf e) (by rw [hx]; simp [DataW.weights, ht])
      refine Nat.le_trans (Nat.mul_le_mul_right _ ?_) this
      simp
    have hzD : ∀ i, i < len → ∀ n ∈ (D i).weights P e, n ≤ reachBytes := fun i hil n hn => by
      refine hz n ?_
      rw [hx]
      simp only [DataW.weights, ht, List.mem_cons, List.mem_append]
      exact .inr (.inl (weights_all P e n _ (D i) (List.mem_map.2 ⟨i, List.mem_range.2 hil, rfl⟩) hn))
    by_cases hl0 : len = 0
    · subst hl0
      exact ⟨some a, cap, [], [], rfl, Nat.zero_le _, hm, by simp, .inl rfl, rfl⟩
    · have hc0 := (hi 0 (by omega)).1
      have hc00 : w.cell? a = some (V 0) := by simpa [Addr.add] using hc0
      obtain ⟨b, off, rfl⟩ := addr_none hc00
      obtain ⟨l, hll, hrows⟩ := rows_of1 (R := R) V len (fun i hil => hR (V i) n _ (hi i (by omega)).2 (hzD i hil))
      subst hll
      refine ⟨some ⟨b, off, none⟩, cap, l, _, rfl, hl, hm, hbytes, .inr ⟨b, off, rfl, World.block_lt_of_cell? w _ hc00, fun j u hu => ?_⟩, hrows⟩
      simp only [List.getElem?_map, Option.map_eq_some_iff] at hu
      obtain ⟨z, hz1, rfl⟩ := hu
      obtain ⟨hj1, hj2⟩ := List.getElem?_eq_some_iff.1 hz1
      simp at hj1 hj2
      subst hj2
      have := (hi j (by omega)).1
      rw [add_none] at this
      exact this
end
end Go.V
namespace Go.V
open Go.RowKit Go.ChangeShapes Go.WideShapes Go.ChangeAt Go.Deep

section
variable {H : Type} {enc : TypeId × Value → H} {P : Program} {w : World} {base : Nat} {spare : Nat → Bool} {held : Bool}
/-- A slice of elements of k cells, element by element. -/
theorem open_rowsG {α : Type} {R : α → List Value → Prop} {t e : TypeId} {k : Nat} {fuel : Nat} {cs : List Value} {x : DataW H × List MemPlace} (ht : P.underlying t = some (.slice e))
    (hC : P.cellsOf e = k) (h0 : 0 < k) (h : DataW.trod enc P w base spare held fuel t cs = some x) (hz : ∀ n ∈ x.1.weights P t, n ≤ reachBytes)
    (hR : ∀ (cs' : List Value) (n : Nat) (y : DataW H × List MemPlace), cs'.length = k → DataW.trod enc P w base spare held n e cs' = some y → (∀ m ∈ y.1.weights P e, m ≤ reachBytes) → ∃ a, R a cs') :
    ∃ A c l vs, cs = [.slice A l.length c] ∧ l.length ≤ c ∧ c ≤ maxLen ∧ l.length * P.bytesOf e ≤ reachBytes ∧ SV w w.heap.size A vs ∧ RowsR R l vs := by
  rcases open_slice ht h with ⟨rfl, _⟩ | ⟨a, len, cap, m, n, D, Pl, rfl, hb, hl, hm, hmm, hx, hi⟩
  · exact ⟨none, 0, [], [], rfl, Nat.le_refl _, by simp [maxLen], by simp, .inl rfl, rfl⟩
  · have hlm : len ≤ m := by rw [hmm]; split <;> omega
    rw [hC] at hx hi
    have hbytes : len * P.bytesOf e ≤ reachBytes := by
      have := hz ((((List.range len).map D).length + ((List.range (m - len)).map fun j => D (len + j)).length) * P.bytesOf e) (by rw [hx]; simp [DataW.weights, ht])
      refine Nat.le_trans (Nat.mul_le_mul_right _ ?_) this
      simp
    have hzD : ∀ i, i < len → ∀ n ∈ (D i).weights P e, n ≤ reachBytes := fun i hil n hn => by
      refine hz n ?_
      rw [hx]
      simp only [DataW.weights, ht, List.mem_cons, List.mem_append]
      exact .inr (.inl (weights_all P e n _ (D i) (List.mem_map.2 ⟨i, List.mem_range.2 hil, rfl⟩) hn))
    by_cases hl0 : len = 0
    · subst hl0
      exact ⟨some a, cap, [], [], rfl, Nat.zero_le _, hm, by simp, .inl rfl, rfl⟩
    · obtain ⟨b, off, spot⟩ := a
      obtain ⟨cs0, hc0, _⟩ := hi 0 (by omega)
      obtain ⟨_, hcl0, hat0⟩ := World.cells?_some hc0
      have h00 := hat0 0 h0
      have hspot : spot = none := by
        have := World.cell?_spot (h00.trans (List.getElem?_eq_getElem (by omega)))
        simpa [Addr.add] using this
      subst hspot
      let cells : Nat → Value := fun j => (w.cell? ⟨b, off + j, none⟩).getD undef
      have hcells : ∀ i, i < len → ∀ j, j < k → w.cell? ⟨b, off + (i * k + j), none⟩ = some (cells (i * k + j)) := fun i hil j hj => by
        obtain ⟨cs', hc, _⟩ := hi i (by omega)
        obtain ⟨_, hcl, hat⟩ := World.cells?_some hc
        have := hat j hj
        rw [add_none, add_none, List.getElem?_eq_getElem (by omega), Nat.add_assoc] at this
        simp only [cells]
        rw [this]; rfl
      obtain ⟨l, hll, hrows⟩ := rows_of (R := R) k cells len (fun i hil => by
        obtain ⟨cs', hc, ht'⟩ := hi i (by omega)
        obtain ⟨_, hcl, hat⟩ := World.cells?_some hc
        have e1 : cs' = (List.range k).map fun j => cells (i * k + j) := by
          apply List.ext_getElem
          · simp [hcl]
          · intro j h1 h2
            have hj : j < k := by omega
            have h3 := hat j hj
            rw [add_none, add_none, List.getElem?_eq_getElem (by omega), Nat.add_assoc] at h3
            have h4 := hcells i hil j hj
            rw [h3] at h4
            injection h4 with h4
            simp [h4]
        rw [← e1]
        exact hR cs' n _ hcl ht' (hzD i hil))
      subst hll
      refine ⟨some ⟨b, off, none⟩, cap, l, _, rfl, hl, hm, hbytes, .inr ⟨b, off, rfl, ?_, fun j u hu => ?_⟩, hrows⟩
      · have := hcells 0 (by omega) 0 h0
        exact World.block_lt_of_cell? w _ this
      · simp only [List.getElem?_map, Option.map_eq_some_iff, List.getElem?_eq_some_iff] at hu
        obtain ⟨j', ⟨hj1, hj2⟩, rfl⟩ := hu
        simp at hj1 hj2
        subst hj2
        have hdiv : j / k < l.length := (Nat.div_lt_iff_lt_mul h0).2 hj1
        have hmod : j % k < k := Nat.mod_lt _ h0
        have := hcells (j / k) hdiv (j % k) hmod
        have e : j / k * k + j % k = j := by rw [Nat.mul_comm]; exact Nat.div_add_mod j k
        rw [e] at this
        exact this
/-- The weights of a struct's field. -/
theorem weights_field {fs : Array Field} {t : TypeId} (he : P.underlying t = some (.struct fs)) {xs : List (DataW H)} {j : Nat} {f : Field} {y : DataW H} (hj : fs[j]? = some f) (hy : xs[j]? = some y)
    (hz : ∀ n ∈ (DataW.agg xs).weights P t, n ≤ reachBytes) : ∀ n ∈ y.weights P f.type, n ≤ reachBytes := fun n hn => hz n (by
  simp only [DataW.weights, he]
  exact DataW.weights_mem_each (j := j) (t := f.type) (d := y) (by simp [List.getElem?_map, Array.getElem?_toList, hj]) hy n hn)
/-- What the reach says of a []int. -/
theorem ints_len {t e : TypeId} {fuel : Nat} {A : Option Addr} {n c : Nat} {x : DataW H × List MemPlace} (ht : P.underlying t = some (.slice e)) (he : P.underlying e = some (.int .i64)) (hce : P.cellsOf e = 1) (hbe : P.bytesOf e = 8)
    (h : DataW.trod enc P w base spare held fuel t [.slice A n c] = some x) (hz : ∀ n ∈ x.1.weights P t, n ≤ reachBytes) : n * 8 ≤ reachBytes := by
  rcases open_ints ht he hce h with ⟨hcs, _⟩ | ⟨a, len, cap, zs, hcs, _, hl, hm, hz', hx, hcell, hwz⟩
  · simp at hcs; omega
  · simp at hcs
    obtain ⟨rfl, rfl, rfl⟩ := hcs
    have hlz : n ≤ zs.length := by
      have := hz'
      split at this <;> omega
    have := hz (((lits (H := H) .i64 (zs.take n)).length + (lits (H := H) .i64 (zs.drop n)).length) * P.bytesOf e) (by rw [hx]; simp [DataW.weights, ht])
    rw [hbe] at this
    simp [lits] at this
    omega
end
end Go.V
namespace Go.Proofs.YtjljknocnebnaaaGreatDoor
open Go.RowKit Go.V Go.ChangeShapes Go.WideShapes Go.ChangeAt Go.Deep
set_option linter.unusedVariables false

theorem reach_eq : reachBytes = 140737488351232 := by simp [reachBytes]
theorem c3 : Tryz.prog.cellsOf 3 = 1 := by kernel_rfl
theorem c9 : Tryz.prog.cellsOf 9 = 1 := by kernel_rfl
theorem c22 : Tryz.prog.cellsOf 22 = 1 := by kernel_rfl
theorem c24 : Tryz.prog.cellsOf 24 = 1 := by kernel_rfl
theorem c25 : Tryz.prog.cellsOf 39 = 1 := by kernel_rfl
theorem c27 : Tryz.prog.cellsOf 41 = 1 := by kernel_rfl
theorem c38 : Tryz.prog.cellsOf 26 = 1 := by kernel_rfl
theorem c41 : Tryz.prog.cellsOf 31 = 1 := by kernel_rfl
theorem c49 : Tryz.prog.cellsOf 38 = 2 := by kernel_rfl
theorem c52 : Tryz.prog.cellsOf 54 = 1 := by kernel_rfl
theorem c54 : Tryz.prog.cellsOf 56 = 3 := by kernel_rfl
theorem c66 : Tryz.prog.cellsOf 58 = 4 := by kernel_rfl
theorem str_of (s : ByteArray) : ∃ l : List UInt8, s = ⟨l.toArray⟩ := ⟨s.data.toList, by simp⟩
theorem weights_str {H : Type} {P : Program} {t : TypeId} {b : List UInt8} (hz : ∀ n ∈ (DataW.lit (.string b) : DataW H).weights P t, n ≤ reachBytes) : b.length ≤ reachBytes := hz b.length (by simp [DataW.weights])
section
variable {H : Type} {enc : TypeId × Value → H} {w : World} {base fuel : Nat} {spare : Nat → Bool} {held : Bool} {cs : List Value} {x : DataW H × List MemPlace}
theorem open_object (h : DataW.trod enc Tryz.prog w base spare held fuel 56 cs = some x) (hz : ∀ n ∈ x.1.weights Tryz.prog 56, n ≤ reachBytes) :
    ∃ o Al kl Ad kd, cs = [.int .i64 o.kind, .slice Al o.links.length kl, .slice Ad o.data.length kd] ∧ ObA w Free o Al kl Ad kd := by
  obtain ⟨y0, y1, y2, n, rfl, hl, t0, t1, t2⟩ := trod_struct3 Tryz.underlying56 h
  rw [c54] at hl
  obtain _ | ⟨c0, _ | ⟨c1, _ | ⟨c2, _ | ⟨_, _⟩⟩⟩⟩ := cs <;> simp at hl
  have z1 := weights_field Tryz.underlying56 (j := 1) (y := y1.1) rfl rfl hz
  have z2 := weights_field Tryz.underlying56 (j := 2) (y := y2.1) rfl rfl hz
  simp only [c3, c41, c52] at t0 t1 t2
  obtain ⟨a0, e0, rfl, w0⟩ := DataW.trod_int Tryz.underlying3 t0
  obtain ⟨A1, k1, l1, e1, hlc1, hcm1, hsv1, hw1⟩ := open_intl Tryz.underlying31 Tryz.underlying3 (by kernel_rfl) t1
  obtain ⟨A2, k2, l2, e2, hlc2, hcm2, hsv2⟩ := open_bytes Tryz.underlying54 Tryz.underlying5 (by kernel_rfl) t2
  simp at e0 e1 e2
  subst e1 e2
  have hln := ints_len Tryz.underlying31 Tryz.underlying3 (by kernel_rfl) (by kernel_rfl) t1 z1
  rw [reach_eq] at hln
  have hb1 := bytes_len Tryz.underlying54 Tryz.underlying5 (by kernel_rfl) (by kernel_rfl) t2 z2
  rw [reach_eq] at hb1
  refine ⟨⟨a0, l1, l2⟩, A1, k1, A2, k2, by simp [e0], bounds_i64 w0, ?_, hlc1, hlc2, ?_, hb1, .of_sv hsv1, .of_sv hsv2⟩
  · exact hw1
  · simp only; omega
theorem open_stored (h : DataW.trod enc Tryz.prog w base spare held fuel 58 cs = some x) (hz : ∀ n ∈ x.1.weights Tryz.prog 58, n ≤ reachBytes) : ∃ s, StR w Free s cs := by
  obtain ⟨y0, y1, n, rfl, hl, t0, t1⟩ := trod_struct2 Tryz.underlying58 h
  rw [c66] at hl
  obtain _ | ⟨c0, _ | ⟨c1, _ | ⟨c2, _ | ⟨c3', _ | ⟨_, _⟩⟩⟩⟩⟩ := cs <;> simp at hl
  have z1 := weights_field Tryz.underlying58 (j := 1) (y := y1.1) rfl rfl hz
  simp only [c3, c54] at t0 t1
  obtain ⟨a0, e0, rfl, w0⟩ := DataW.trod_int Tryz.underlying3 t0
  obtain ⟨o, Al, kl, Ad, kd, e1, ho⟩ := open_object t1 z1
  simp at e0 e1
  obtain ⟨e1, e2, e3⟩ := e1
  subst e0 e1 e2 e3
  exact ⟨⟨a0, o⟩, Al, kl, Ad, kd, rfl, bounds_i64 w0, ho⟩
theorem open_store (h : DataW.trod enc Tryz.prog w base spare held fuel 24 cs = some x) (hz : ∀ n ∈ x.1.weights Tryz.prog 24, n ≤ reachBytes) :
    ∃ A c l, cs = [.slice A l.length c] ∧ l.length ≤ c ∧ c ≤ 9223372036854775807 ∧ l.length * 64 ≤ 140737488351232 ∧ StV w Free A l ∧ True := by
  obtain ⟨y0, n, rfl, hl, t0⟩ := trod_struct1 Tryz.underlying24 h
  have hb : Tryz.prog.bytesOf 58 = 64 := by kernel_rfl
  rw [c24] at hl
  obtain _ | ⟨c0, _ | ⟨_, _⟩⟩ := cs <;> simp at hl
  have z0 := weights_field Tryz.underlying24 (j := 0) (y := y0.1) rfl rfl hz
  simp only [c22] at t0
  obtain ⟨A, c, l, vs, e, h1, h2, h3, h4, h5⟩ := open_rowsG (R := StR w Free) (k := 4) Tryz.underlying22 c66 (by decide) t0 z0 (fun cs' n y _ ht hz => open_stored ht hz)
  rw [hb, reach_eq] at h3
  simp at e
  subst e
  unfold maxLen at h2
  exact ⟨A, c, l, rfl, h1, h2, h3, ⟨vs, .of_sv h4, h5⟩, trivial⟩
/-- Rows that are what a function makes of their elements. -/
theorem rows_flat {α : Type} {f : α → List Value} {Pr : α → Prop} : ∀ {l : List α} {vs : List Value}, RowsR (fun a cs => cs = f a ∧ Pr a) l vs → vs = l.flatMap f ∧ ∀ a ∈ l, Pr a
  | [], vs, h => by simp only [RowsR] at h; exact ⟨by simp [h], by simp⟩
  | a :: l, vs, h => by
    obtain ⟨cs, rest, rfl, ⟨rfl, hp⟩, hr⟩ := h
    obtain ⟨h1, h2⟩ := rows_flat hr
    refine ⟨by rw [h1, List.flatMap_cons], fun b hb => ?_⟩
    rcases List.mem_cons.1 hb with rfl | hb
    · exact hp
    · exact h2 b hb
/-- What is known of a file's strings besides their cells. -/
def FlW (f : Tr.F) : Prop := f.path.length ≤ 140737488351232 ∧ f.lines.length ≤ 8796093022208 ∧ ∀ s ∈ f.lines, s.length ≤ 140737488351232
theorem open_strings (h : DataW.trod enc Tryz.prog w base spare held fuel 26 cs = some x) (hz : ∀ n ∈ x.1.weights Tryz.prog 26, n ≤ reachBytes) :
    ∃ A c l, cs = [.slice A l.length c] ∧ l.length * 16 ≤ 140737488351232 ∧ LnA w Free l A c ∧ ∀ s ∈ l, s.length ≤ 140737488351232 := by
  obtain ⟨A, c, l, vs, e, h1, h2, h3, h4, h5⟩ := open_rowsG (R := fun (s : List UInt8) cs => cs = sC s ∧ s.length ≤ reachBytes) (k := 1) Tryz.underlying26 c9 (by decide) h hz (fun cs' n y _ ht hz => by
    obtain ⟨s, e0, e1, hs⟩ := DataW.trod_string Tryz.underlying9 ht
    obtain ⟨l, rfl⟩ := str_of s
    rw [e1] at hz
    exact ⟨l, e0, by simpa using weights_str hz⟩)
  obtain ⟨rfl, h6⟩ := rows_flat h5
  have hb : Tryz.prog.bytesOf 9 = 16 := by kernel_rfl
  rw [hb, reach_eq] at h3
  exact ⟨A, c, l, e, h3, ⟨h1, by omega, .of_sv h4⟩, h6⟩
theorem open_file (h : DataW.trod enc Tryz.prog w base spare held fuel 38 cs = some x) (hz : ∀ n ∈ x.1.weights Tryz.prog 38, n ≤ reachBytes) : ∃ f, FlR w Free f cs ∧ FlW f := by
  obtain ⟨y0, y1, n, rfl, hl, t0, t1⟩ := trod_struct2 Tryz.underlying38 h
  rw [c49] at hl
  obtain _ | ⟨c0, _ | ⟨c1, _ | ⟨_, _⟩⟩⟩ := cs <;> simp at hl
  have z0 := weights_field Tryz.underlying38 (j := 0) (y := y0.1) rfl rfl hz
  have z1 := weights_field Tryz.underlying38 (j := 1) (y := y1.1) rfl rfl hz
  simp only [c9, c38] at t0 t1
  obtain ⟨s, e0, e1, hs⟩ := DataW.trod_string Tryz.underlying9 t0
  rw [e1] at z0
  obtain ⟨A, k, l, e2, h1, h2, h3⟩ := open_strings t1 z1
  obtain ⟨p, rfl⟩ := str_of s
  simp at e0 e2
  subst e0 e2
  exact ⟨⟨p, l⟩, ⟨A, k, rfl, h2⟩, (by have h9 := weights_str z0; rw [reach_eq] at h9; simpa using h9), by show l.length ≤ _; omega, h3⟩
theorem rows_and {α : Type} {R : α → List Value → Prop} {Pr : α → Prop} : ∀ {l : List α} {vs : List Value}, RowsR (fun a cs => R a cs ∧ Pr a) l vs → RowsR R l vs ∧ ∀ a ∈ l, Pr a
  | [], vs, h => ⟨h, by simp⟩
  | a :: l, vs, h => by
    obtain ⟨cs, rest, rfl, ⟨h0, hp⟩, hr⟩ := h
    obtain ⟨h1, h2⟩ := rows_and hr
    refine ⟨⟨cs, rest, rfl, h0, h1⟩, fun b hb => ?_⟩
    rcases List.mem_cons.1 hb with rfl | hb
    · exact hp
    · exact h2 b hb
theorem open_tree (h : DataW.trod enc Tryz.prog w base spare held fuel 41 cs = some x) (hz : ∀ n ∈ x.1.weights Tryz.prog 41, n ≤ reachBytes) :
    ∃ A c l, cs = [.slice A l.length c] ∧ l.length ≤ c ∧ c ≤ 9223372036854775807 ∧ l.length * 40 ≤ 140737488351232 ∧ VfV w Free A l ∧ ∀ f ∈ l, FlW f := by
  obtain ⟨y0, n, rfl, hl, t0⟩ := trod_struct1 Tryz.underlying41 h
  have hb : Tryz.prog.bytesOf 38 = 40 := by kernel_rfl
  rw [c27] at hl
  obtain _ | ⟨c0, _ | ⟨_, _⟩⟩ := cs <;> simp at hl
  have z0 := weights_field Tryz.underlying41 (j := 0) (y := y0.1) rfl rfl hz
  simp only [c25] at t0
  obtain ⟨A, c, l, vs, e, h1, h2, h3, h4, h5⟩ := open_rowsG (R := fun f cs => FlR w Free f cs ∧ FlW f) (k := 2) Tryz.underlying39 c49 (by decide) t0 z0 (fun cs' n y _ ht hz => open_file ht hz)
  obtain ⟨h6, h7⟩ := rows_and h5
  rw [hb, reach_eq] at h3
  simp at e
  subst e
  unfold maxLen at h2
  exact ⟨A, c, l, rfl, h1, h2, h3, ⟨vs, .of_sv h4, h6⟩, h7⟩
end
/-- What the world's shape says of the library's own variable. -/
theorem mx_of {W : World} (h : W.ShapedOpen Tryz.prog) : Mx W :=
  cell_of_shapedOpen_int (zero := #[.int .i64 0]) (t := 3) h (of_decide_eq_true (by kernel_rfl)) (by kernel_rfl) rfl (by kernel_rfl) (by kernel_rfl) Tryz.underlying3
theorem m2_of {W : World} (h : W.ShapedOpen Tryz.prog) : M2 W :=
  cell_of_shapedOpen_int (zero := #[.int .i64 0]) (t := 3) h (of_decide_eq_true (by kernel_rfl)) (by kernel_rfl) rfl (by kernel_rfl) (by kernel_rfl) Tryz.underlying3
/-- There is an input that fits: a world in which the listed variables are laid. -/
theorem witness_laid {H : Type} {enc : TypeId × Value → H} {C : Checked} {os : Os} {f : FuncId} {fn : Func} {s : OpenSpec} {conds : List PathCond} {apart : Bool} {laid : List (String × DataW Unit)} (w0 : World) (args : Array Value) (hos : w0.os = os)
    (hsh : (w0.forCall (fun _ _ => 0) ⟨#[], args, []⟩).Shaped C.prog)
    (hok : Input.okWideB C.prog (w0.forCall (fun _ _ => 0) ⟨#[], args, []⟩) f ⟨#[], args, []⟩ = true)
    (hrow : s.preRow enc C.prog fn conds apart laid (w0.forCall (fun _ _ => 0) ⟨#[], args, []⟩).memory args) :
    ∃ (w : World) (tape : Tape) (i : Input), w.os = os ∧ (w.forCall tape i).Shaped C.prog ∧ i.vars = [] ∧ Input.okWide C.prog (w.forCall tape i) .any w.heap.size f i ∧
      s.preRow enc C.prog fn conds apart laid (w.forCall tape i).memory i.args ∧ ({} : Assume).holds C.prog (lone (Frame.enter C.prog f i.args .normal) [] (w.forCall tape i)) :=
  ⟨w0, fun _ _ => 0, ⟨#[], args, []⟩, hos, hsh, (Input.okWide_of_okWideB (base := 0) hok).1, (Input.okWide_of_okWideB hok).2, hrow, by
    simp only [Assume.holds]
    exact ⟨by simp, by simp, fun _ => Modest.zero, by simp, by simp⟩⟩
end Go.Proofs.YtjljknocnebnaaaGreatDoor
