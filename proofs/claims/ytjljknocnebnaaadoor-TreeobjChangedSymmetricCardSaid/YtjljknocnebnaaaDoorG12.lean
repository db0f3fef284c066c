/-
  File trees: walk of 'Trees'.
  File trees: the example; two facts of the world at once.
  TreeobjRoundTrip, TreeobjSharing: the laws' walks, and the example.
  Views, tenth part: opening a slice of one-cell elements that lead to memory themselves.
  Views, thirteenth part: opening slices of elements of any shape, and structs by value.
-/
import Derived.Test.YtjljknocnebnaaaDoorG07
import Derived.Test.YtjljknocnebnaaaDoorG10
import Derived.Test.YtjljknocnebnaaaDoorG11
import Derived.Test.YtjljknocnebnaaaDoorG08
import Derived.Test.YtjljknocnebnaaaDoorG05
import Derived.Deep.Slices
import Derived.Test.YtjljknocnebnaaaDoorG01
import Derived.Deep.Strs
namespace Tr
theorem it_ext {a b : List F} {i : Nat} (h1 : i < a.length) (h2 : i < b.length) (hp : (it a i).path = (it b i).path) (hl : (it a i).lines = (it b i).lines) : a[i]? = b[i]? := by
  rw [List.getElem?_eq_getElem h1, List.getElem?_eq_getElem h2, it_eq a i h1, it_eq b i h2]
  congr 1
  cases h : it a i; cases k : it b i
  rw [h, k] at hp hl
  simp only at hp hl
  rw [hp, hl]
end Tr
namespace Go.Proofs.YtjljknocnebnaaaDoor
open Go.RowKit Go.V Go.Shelf
set_option linter.unusedVariables false

set_option maxRecDepth 100000 in
set_option maxHeartbeats 4000000 in
theorem trees_any (w : World) (A1 A2 : Option Addr) (c1 c2 : Nat) (t1 t2 : List Tr.F) (h1 : VfV w Free A1 t1) (h2 : VfV w Free A2 t2) (hl1 : t1.length ≤ 9223372036854775807) (hl2 : t2.length ≤ 9223372036854775807) :
    Calls Tryd.prog 13 #[.agg #[.slice A1 t1.length c1], .agg #[.slice A2 t2.length c2]] w fun e w' => e = .returned (.bool (decide (t1 = t2))) ∧ Below w.heap.size w w' := by
  have hbel : Below w.heap.size w ((w.alloc (.cells #[.slice A1 t1.length c1] 27)).alloc (.cells #[.slice A2 t2.length c2] 27)) := below_alloc2 _ _ _
  have q1 := ((Blk.new w 27 #[.slice A1 t1.length c1]).alloc (.cells #[.slice A2 t2.length c2] 27))
  have q2 := blk_new1 w (.cells #[.slice A1 t1.length c1] 27) 27 #[.slice A2 t2.length c2]
  have g1 := h1.keep (free_below hbel)
  have g2 := h2.keep (free_below hbel)
  have p1 := (q1.cell 0).trans rfl
  have p2 := (q2.cell 0).trans rfl
  have l1 := q1.lt
  have l2 := q2.lt
  have HV := Lib.hid hbel
  have HG1 := Lib.hid (fun i hi => g1.row i hi)
  have HG2 := Lib.hid (fun i hi => g2.row i hi)
  clear h1 h2 q1 q2 g1 g2 hbel
  by_cases hlen : t1.length = t2.length
  · have hlen' : ((t1.length : Int) != t2.length) = false := by simp [hlen]
    have HL := Lib.hid hlen
    clear hlen
    go_enter Tryd.func13, Tryd.ntmps13
    go_wp2_with fail
    generalize hW : (w.alloc (.cells #[.slice A1 t1.length c1] 27)).alloc (.cells #[.slice A2 t2.length c2] 27) = W at *
    go_loopw [5] (fun k wr => ∃ i : Nat, i ≤ t1.length ∧ k = .int .i64 i ∧ Hid (∀ j, j < i → t1[j]? = t2[j]?) ∧ ∃ n, wr = W.drewN n) (fun k _ => t1.length - (intOf k).toNat)
    case atStart => exact ⟨0, Nat.zero_le _, rfl, Lib.hid (fun j hj => by omega), 0, rfl⟩
    case round =>
      obtain ⟨i, hi, rfl, H, n, rfl⟩ := hrel
      by_cases hlt : i < t1.length
      · have hlt2 : i < t2.length := by rw [← HL.out]; exact hlt
        have HE := Lib.hid (Tr.it_ext hlt hlt2)
        have HN0 : Hid (t1 = t2 → (Tr.it t1 i).path = (Tr.it t2 i).path ∧ (Tr.it t1 i).lines = (Tr.it t2 i).lines) := Lib.hid fun e => by subst e; exact ⟨rfl, rfl⟩
        obtain ⟨b1, o1, B1, k1, rfl, _, _, x1, y1, r1⟩ := HG1.out i hlt
        obtain ⟨b2, o2, B2, k2, rfl, _, _, x2, y2, r2⟩ := HG2.out i hlt2
        have hlt' : (i : Int) < t1.length := by omega
        have hlt2' : (i : Int) < t2.length := by omega
        have HS := Lib.hid (fun m => strings_any (W.drewN m) B1 B2 k1 k2 _ _ (r1.ls.keep (Keeps.drewN W Free m)) (r2.ls.keep (Keeps.drewN W Free m)) (by have := r1.ll; omega) (by have := r2.ll; omega))
        clear r1 r2
        generalize Tr.it t1 i = u1 at *
        generalize Tr.it t2 i = u2 at *
        obtain ⟨pa1, ln1⟩ := u1
        obtain ⟨pa2, ln2⟩ := u2
        simp only at HE HN0 x1 y1 x2 y2 HS
        by_cases hp : pa1 = pa2
        · have hp' : (pa1 != pa2) = false := by simp [hp]
          have hp2 : (pa1 == pa2) = true := by simp [hp]
          by_cases hd : ln1 = ln2
          · have hd' : decide (ln1 = ln2) = true := decide_eq_true hd
            have H' : Hid (∀ j, j < i + 1 → t1[j]? = t2[j]?) := Lib.hid fun j hj => by
              by_cases e : j = i
              · subst e; exact HE.out hp hd
              · exact H.out j (by omega)
            clear hp hd HE HN0
            rw [hd'] at HS
            go_wp2_with fail
            go_quiet ((go_at_call 17; (with_reducible refine (HS.out _).mono ?_); exact fun e w3 h => ⟨h.1, h.2.elim fun n' hn => ⟨_, hn.trans ((World.drewN_drewN _ _ _).trans (congrArg W.drewN (Nat.add_assoc _ _ _)))⟩⟩))
            go_wp2
            go_roundw
            case rel => exact ⟨i + 1, by omega, by go_num, H', _, rfl⟩
            case measure => simp [intOf]; omega
          · have hd' : decide (ln1 = ln2) = false := decide_eq_false hd
            have HN : Hid (decide (t1 = t2) = false) := Lib.hid (decide_eq_false fun e => hd (HN0.out e).2)
            clear hp hd HE HN0
            rw [hd'] at HS
            go_wp2_with fail
            go_quiet ((go_at_call 17; (with_reducible refine (HS.out _).mono ?_); exact fun e w3 h => ⟨h.1, h.2.elim fun n' hn => ⟨_, hn.trans ((World.drewN_drewN _ _ _).trans (congrArg W.drewN (Nat.add_assoc _ _ _)))⟩⟩))
            go_wp2
            go_ret
            exact ⟨by rw [HN.out]; rfl, below_drewN' (below_drewN' HV.out _) _⟩
        · have hp' : (pa1 != pa2) = true := by simpa using hp
          have hp2 : (pa1 == pa2) = false := by simpa using hp
          have HN : Hid (decide (t1 = t2) = false) := Lib.hid (decide_eq_false fun e => hp (HN0.out e).1)
          clear hp HE HN0 HS
          go_wp2_with fail
          go_quiet (fail)
          go_wp2
          go_ret
          exact ⟨by rw [HN.out]; rfl, below_drewN' (below_drewN' HV.out _) _⟩
      · obtain rfl : i = t1.length := by omega
        have HY : Hid (decide (t1 = t2) = true) := Lib.hid (decide_eq_true (eq_uptoS HL.out H.out))
        go_wp2
        go_ret
        exact ⟨by rw [HY.out]; rfl, below_drewN' HV.out _⟩
  · have hlen' : ((t1.length : Int) != t2.length) = true := by simp; omega
    have HN : Hid (decide (t1 = t2) = false) := Lib.hid (decide_eq_false fun e => hlen (by rw [e]))
    clear hlen
    go_enter Tryd.func13, Tryd.ntmps13
    go_wp2_with fail
    go_ret
    exact ⟨by rw [HN.out]; rfl, HV.out⟩
end Go.Proofs.YtjljknocnebnaaaDoor
namespace Tr
open Ob (O S StOk Sorted fnd lb dig stF putF PutT addOk addS)
/-- The example's tree. -/
def exT : List F := [⟨[97], [[120]]⟩]
theorem exT_ok : VOk exT := VOk.one (by decide +kernel) ⟨by simp, fun s hs => by simp at hs; subst hs; exact ⟨by simp, by decide⟩⟩
theorem exB_ok : Ob.Ok (blobO [[120]]) := ⟨by decide, by decide, by decide, by decide, fun _ => rfl, fun j h => by simp [blobO] at h⟩
theorem exO_ok : Ob.Ok (treeO exT) := by
  refine ⟨by decide, by decide, by decide, by decide, fun h => by simp [treeO] at h, fun j h => ?_⟩
  have := links_I64 exT j h
  exact this
theorem stF_nil : stF [] = (0, 0) := by unfold Ob.stF; rw [if_neg (by simp)]; exact Ob.stFrom_end [] 0 (Nat.le_refl _)
theorem ex_store : StOk [⟨((dig (blobO [[120]]) : Nat) : Int), blobO [[120]]⟩] := by
  refine ⟨by simp, fun i hi => ?_, fun i hi => ?_, fun i hi => by simp at hi⟩
  · simp at hi; subst hi; exact exB_ok
  · simp at hi; subst hi; rfl
theorem ex_put1 : putF [] (blobO [[120]]) = ([⟨((dig (blobO [[120]]) : Nat) : Int), blobO [[120]]⟩], ((dig (blobO [[120]]) : Nat) : Int), (0, 0)) := by
  unfold Ob.putF
  have hf : fnd [] ((dig (blobO [[120]]) : Nat) : Int) = false := by unfold Ob.fnd; simp
  have hl : lb [] ((dig (blobO [[120]]) : Nat) : Int) = 0 := rfl
  have ha : addOk [] ((dig (blobO [[120]]) : Nat) : Int) (blobO [[120]]) = true := by unfold Ob.addOk; rw [hf]; rfl
  have hs : addS [] ((dig (blobO [[120]]) : Nat) : Int) (blobO [[120]]) = [⟨((dig (blobO [[120]]) : Nat) : Int), blobO [[120]]⟩] := by unfold Ob.addS; rw [hf, hl]; rfl
  rw [stF_nil, if_neg (by simp), exB_ok.f, if_neg (by simp), ha, if_neg (by simp), hs, if_neg (by simp)]
theorem ex_fnd : fnd [⟨((dig (blobO [[120]]) : Nat) : Int), blobO [[120]]⟩] ((dig (treeO exT) : Nat) : Int) = false := by decide +kernel
theorem ex_put2 : ∃ x, putF [⟨((dig (blobO [[120]]) : Nat) : Int), blobO [[120]]⟩] (treeO exT) = (x, ((dig (treeO exT) : Nat) : Int), (0, 0)) ∧ x.length = 2 := by
  have ha : addOk [⟨((dig (blobO [[120]]) : Nat) : Int), blobO [[120]]⟩] ((dig (treeO exT) : Nat) : Int) (treeO exT) = true := by unfold Ob.addOk; rw [ex_fnd]; rfl
  have hl := Ob.lb_le [⟨((dig (blobO [[120]]) : Nat) : Int), blobO [[120]]⟩] ((dig (treeO exT) : Nat) : Int)
  have hs : (addS [⟨((dig (blobO [[120]]) : Nat) : Int), blobO [[120]]⟩] ((dig (treeO exT) : Nat) : Int) (treeO exT)).length = 2 := by unfold Ob.addS; rw [ex_fnd]; simp at hl ⊢; omega
  refine ⟨_, ?_, hs⟩
  unfold Ob.putF
  rw [ex_store.f, if_neg (by simp), exO_ok.f, if_neg (by simp), ha, if_neg (by simp), if_neg (by omega)]
theorem ex_wr : ∃ x, wrF [] exT = ((x, ((dig (treeO exT) : Nat) : Int)), (0, 0)) ∧ x.length = 2 ∧ rdF x ((dig (treeO exT) : Nat) : Int) = (exT, (0, 0)) := by
  obtain ⟨x, hx, hl⟩ := ex_put2
  have h : putAll [] (objs exT) = (x, 0) := by
    show putAll [] [blobO [[120]], treeO exT] = _
    rw [putAll, ex_put1, if_neg (fun h => h rfl), putAll, hx, if_neg (fun h => h rfl), putAll]
  have hw := wrF_ok (s := []) (t := exT) (by rw [stF_nil]) (by rw [exT_ok.f]) h
  refine ⟨x, hw, hl, ?_⟩
  rcases wrF_cases [] exT with ⟨h1, _⟩ | ⟨x', h1, _, ht, hs, _, hh, _⟩
  · rw [hw] at h1; exact absurd rfl h1
  · rw [hw] at h1
    injection h1 with h1 _
    injection h1 with h1 _
    subst h1
    exact read_back hs ht hh
end Tr
namespace Go.Proofs.YtjljknocnebnaaaDoor
open Go.RowKit Go.V Go.Shelf
set_option linter.unusedVariables false

/-- The two variables of the library. -/
def MM (w : World) : Prop := Mx w ∧ M2 w
theorem MM.below {w w' : World} (h : MM w) (hb : Below w.heap.size w w') : MM w' := ⟨h.1.below hb, h.2.below hb⟩
theorem StV.mono {w : World} {X X' : Nat → Prop} {A : Option Addr} {s : List Ob.S} (h : StV w X A s) (k : ∀ b, X' b → X b) : StV w X' A s := h.keep ((Keeps.refl w X).into k)
theorem VfV.mono {w : World} {X X' : Nat → Prop} {A : Option Addr} {s : List Tr.F} (h : VfV w X A s) (k : ∀ b, X' b → X b) : VfV w X' A s := h.keep ((Keeps.refl w X).into k)
end Go.Proofs.YtjljknocnebnaaaDoor
namespace Go.Proofs.YtjljknocnebnaaaDoor
open Go.RowKit Go.V Go.Shelf Go.Lib
set_option linter.unusedVariables false

theorem ex_view {w : World} {g0 g : Nat} (b0 : Blk w g0 9 #[strV [120]]) (b1 : Blk w g 49 #[strV [97], .slice (some ⟨g0, 0, none⟩) 1 1]) : VfV w Free (some ⟨g, 0, none⟩) Tr.exT :=
  FlR.one (L := [[120]]) b1 ⟨by simp, by simp, by simpa [sC] using SA.of_blk (X := Free) b0 (fun h => h)⟩
set_option maxRecDepth 100000 in
set_option maxHeartbeats 16000000 in
theorem texample_any (w : World) (hm : MM w) : Calls Tryd.prog 8 #[] w fun e w' => e = .returned (.bool true) ∧ Below w.heap.size w w' := by
  have hM := Lib.hid hm
  obtain ⟨x, hw, hxl, hr⟩ := Tr.ex_wr
  have H9 : Hid (∀ (w1 : World) (A2 : Option Addr), MM w1 → VfV w1 Free A2 Tr.exT → Calls Tryd.prog 9 #[.agg #[.slice none 0 0], .agg #[.slice A2 1 1]] w1 (WrPost w1 ((x, ((Ob.dig (Tr.treeO Tr.exT) : Nat) : Int)), (0, 0)))) := Lib.hid fun w1 A2 hm hv => by
    have := write_any w1 hm.1 none 0 [] ⟨[], SA.nil, rfl⟩ (by simp) A2 1 Tr.exT hv (by decide) (by decide)
    rw [hw] at this
    exact this
  have H12 : Hid (∀ (w1 : World) (A : Option Addr) (k : Nat), MM w1 → StV w1 Free A x → Calls Tryd.prog 12 #[.agg #[.slice A x.length k], .int .i64 ((Ob.dig (Tr.treeO Tr.exT) : Nat) : Int)] w1 fun e w' =>
      ∃ A c, e = .returned (.tuple #[.agg #[.slice A 1 c], .agg #[.int .i64 0, .int .i64 0]]) ∧ VfV w' (Under w1.heap.size) A Tr.exT ∧ Below w1.heap.size w1 w') := Lib.hid fun w1 A k hm hv => by
    have := read_any w1 hm.1 hm.2 A k x ((Ob.dig (Tr.treeO Tr.exT) : Nat) : Int) hv (by omega)
    rw [hr] at this
    exact this.mono fun e w' ⟨A, c, h1, _, h2, h3⟩ => ⟨A, c, h1, h2, h3⟩
  have H13 : Hid (∀ (w1 : World) (A1 A2 : Option Addr) (c1 c2 : Nat), VfV w1 Free A1 Tr.exT → VfV w1 Free A2 Tr.exT → Calls Tryd.prog 13 #[.agg #[.slice A1 1 c1], .agg #[.slice A2 1 c2]] w1 fun e w' => e = .returned (.bool true) ∧ Below w1.heap.size w1 w') := Lib.hid fun w1 A1 A2 c1 c2 h1 h2 => by
    have := trees_any w1 A1 A2 c1 c2 Tr.exT Tr.exT h1 h2 (by decide) (by decide)
    rw [decide_eq_true rfl] at this
    exact this
  have hx2 : ((x.length : Int) == 2) = true := by rw [hxl]; rfl
  clear hm hw hxl hr
  generalize ((Ob.dig (Tr.treeO Tr.exT) : Nat) : Int) = d at *
  have HB0 := Lib.hid (Below.refl w.heap.size w)
  go_enter Tryd.func8, Tryd.ntmps8
  have bs := Blk.new w 9 #[strV [120]]
  have HBa1 := Lib.hid (HB0.out.alloc HB0.out.size (.cells #[strV [120]] 9))
  replace hM := Lib.hid (hM.out.below (below_alloc1 w (.cells #[strV [120]] 9)))
  replace bs := bs.alloc (.cells #[strV [97], .slice (some ⟨w.heap.size, 0, none⟩) 1 1] 49)
  have bf : Blk ((w.alloc (.cells #[strV [120]] 9)).alloc (.cells #[strV [97], .slice (some ⟨w.heap.size, 0, none⟩) 1 1] 49)) (w.heap.size + 1) 49 #[strV [97], .slice (some ⟨w.heap.size, 0, none⟩) 1 1] := by simpa using Blk.new (w.alloc (.cells #[strV [120]] 9)) 49 #[strV [97], .slice (some ⟨w.heap.size, 0, none⟩) 1 1]
  have HBa2 := Lib.hid (HBa1.out.alloc HBa1.out.size (.cells #[strV [97], .slice (some ⟨w.heap.size, 0, none⟩) 1 1] 49))
  replace hM := Lib.hid (hM.out.below (below_alloc1 (w.alloc (.cells #[strV [120]] 9)) (.cells #[strV [97], .slice (some ⟨w.heap.size, 0, none⟩) 1 1] 49)))
  replace bs := bs.alloc (.cells #[.slice (some ⟨w.heap.size + 1, 0, none⟩) 1 1] 27)
  replace bf := bf.alloc (.cells #[.slice (some ⟨w.heap.size + 1, 0, none⟩) 1 1] 27)
  have t1 : Blk (((w.alloc (.cells #[strV [120]] 9)).alloc (.cells #[strV [97], .slice (some ⟨w.heap.size, 0, none⟩) 1 1] 49)).alloc (.cells #[.slice (some ⟨w.heap.size + 1, 0, none⟩) 1 1] 27)) (w.heap.size + 2) 27 #[.slice (some ⟨w.heap.size + 1, 0, none⟩) 1 1] := by simpa using Blk.new ((w.alloc (.cells #[strV [120]] 9)).alloc (.cells #[strV [97], .slice (some ⟨w.heap.size, 0, none⟩) 1 1] 49)) 27 #[.slice (some ⟨w.heap.size + 1, 0, none⟩) 1 1]
  have HBa3 := Lib.hid (HBa2.out.alloc HBa2.out.size (.cells #[.slice (some ⟨w.heap.size + 1, 0, none⟩) 1 1] 27))
  replace hM := Lib.hid (hM.out.below (below_alloc1 ((w.alloc (.cells #[strV [120]] 9)).alloc (.cells #[strV [97], .slice (some ⟨w.heap.size, 0, none⟩) 1 1] 49)) (.cells #[.slice (some ⟨w.heap.size + 1, 0, none⟩) 1 1] 27)))
  have V1 := Lib.hid (ex_view bs bf)
  go_wp2_with fail
  go_at_call 9
  with_reducible refine (H9.out _ _ hM.out V1.out).mono ?_
  rintro e w1 ⟨Ax, cx, rfl, hcx, hsx, hb1'⟩
  have HBm1 := Lib.hid (HBa3.out.trans (hb1'.mono HBa3.out.size))
  replace bs := bs.below hb1' bs.lt
  replace bf := bf.below hb1' bf.lt
  replace t1 := t1.below hb1' t1.lt
  replace hM := Lib.hid (hM.out.below hb1')
  replace V1 := Lib.hid (V1.out.keep (free_below hb1'))
  have bs_l : w.heap.size < w1.heap.size := bs.lt
  have bs_l1 : w.heap.size < w1.heap.size + 1 := Nat.lt_succ_of_lt bs_l
  have bs_l2 : w.heap.size < w1.heap.size + 1 + 1 := Nat.lt_succ_of_lt bs_l1
  have bs_0 : w1.cell? ⟨w.heap.size, 0, none⟩ = some (strV [120]) := (bs.cell 0).trans rfl
  have bf_l : w.heap.size + 1 < w1.heap.size := bf.lt
  have bf_l1 : w.heap.size + 1 < w1.heap.size + 1 := Nat.lt_succ_of_lt bf_l
  have bf_l2 : w.heap.size + 1 < w1.heap.size + 1 + 1 := Nat.lt_succ_of_lt bf_l1
  have bf_0 : w1.cell? ⟨w.heap.size + 1, 0, none⟩ = some (strV [97]) := (bf.cell 0).trans rfl
  have bf_1 : w1.cell? ⟨w.heap.size + 1, 1, none⟩ = some (.slice (some ⟨w.heap.size, 0, none⟩) 1 1) := (bf.cell 1).trans rfl
  have t1_l : w.heap.size + 2 < w1.heap.size := t1.lt
  have t1_l1 : w.heap.size + 2 < w1.heap.size + 1 := Nat.lt_succ_of_lt t1_l
  have t1_l2 : w.heap.size + 2 < w1.heap.size + 1 + 1 := Nat.lt_succ_of_lt t1_l1
  have t1_0 : w1.cell? ⟨w.heap.size + 2, 0, none⟩ = some (.slice (some ⟨w.heap.size + 1, 0, none⟩) 1 1) := (t1.cell 0).trans rfl
  have Vx := Lib.hid (hsx.mono (X' := Free) (fun _ h => h.elim))
  clear hsx
  clear hb1'
  simp only at hcx
  replace bs := bs.alloc (.cells #[.slice Ax x.length cx] 24)
  replace bf := bf.alloc (.cells #[.slice Ax x.length cx] 24)
  replace t1 := t1.alloc (.cells #[.slice Ax x.length cx] 24)
  have vx := Blk.new w1 24 #[.slice Ax x.length cx]
  have HBa4 := Lib.hid (HBm1.out.alloc HBm1.out.size (.cells #[.slice Ax x.length cx] 24))
  replace hM := Lib.hid (hM.out.below (below_alloc1 w1 (.cells #[.slice Ax x.length cx] 24)))
  replace V1 := Lib.hid (V1.out.keep (Keeps.alloc w1 _ (.cells #[.slice Ax x.length cx] 24)))
  replace Vx := Lib.hid (Vx.out.keep (Keeps.alloc w1 _ (.cells #[.slice Ax x.length cx] 24)))
  replace bs := bs.alloc (.cells #[.int .i64 0, .int .i64 0] 30)
  replace bf := bf.alloc (.cells #[.int .i64 0, .int .i64 0] 30)
  replace t1 := t1.alloc (.cells #[.int .i64 0, .int .i64 0] 30)
  replace vx := vx.alloc (.cells #[.int .i64 0, .int .i64 0] 30)
  have vf : Blk ((w1.alloc (.cells #[.slice Ax x.length cx] 24)).alloc (.cells #[.int .i64 0, .int .i64 0] 30)) (w1.heap.size + 1) 30 #[.int .i64 0, .int .i64 0] := by simpa using Blk.new (w1.alloc (.cells #[.slice Ax x.length cx] 24)) 30 #[.int .i64 0, .int .i64 0]
  have HBa5 := Lib.hid (HBa4.out.alloc HBa4.out.size (.cells #[.int .i64 0, .int .i64 0] 30))
  replace hM := Lib.hid (hM.out.below (below_alloc1 (w1.alloc (.cells #[.slice Ax x.length cx] 24)) (.cells #[.int .i64 0, .int .i64 0] 30)))
  replace V1 := Lib.hid (V1.out.keep (Keeps.alloc (w1.alloc (.cells #[.slice Ax x.length cx] 24)) _ (.cells #[.int .i64 0, .int .i64 0] 30)))
  replace Vx := Lib.hid (Vx.out.keep (Keeps.alloc (w1.alloc (.cells #[.slice Ax x.length cx] 24)) _ (.cells #[.int .i64 0, .int .i64 0] 30)))
  go_wp2_with fail
  go_at_call 12
  with_reducible refine (H12.out _ _ _ hM.out Vx.out).mono ?_
  rintro e w2 ⟨Au, cu, rfl, hsu, hb2'⟩
  have HBm2 := Lib.hid (HBa5.out.trans (hb2'.mono HBa5.out.size))
  replace bs := bs.below hb2' bs.lt
  replace bf := bf.below hb2' bf.lt
  replace t1 := t1.below hb2' t1.lt
  replace vx := vx.below hb2' vx.lt
  replace vf := vf.below hb2' vf.lt
  replace hM := Lib.hid (hM.out.below hb2')
  replace V1 := Lib.hid (V1.out.keep (free_below hb2'))
  replace Vx := Lib.hid (Vx.out.keep (free_below hb2'))
  clear bs_l bs_l1 bs_l2 bs_0 bf_l bf_l1 bf_l2 bf_0 bf_1 t1_l t1_l1 t1_l2 t1_0
  have bs_l : w.heap.size < w2.heap.size := bs.lt
  have bs_l1 : w.heap.size < w2.heap.size + 1 := Nat.lt_succ_of_lt bs_l
  have bs_l2 : w.heap.size < w2.heap.size + 1 + 1 := Nat.lt_succ_of_lt bs_l1
  have bs_0 : w2.cell? ⟨w.heap.size, 0, none⟩ = some (strV [120]) := (bs.cell 0).trans rfl
  have bf_l : w.heap.size + 1 < w2.heap.size := bf.lt
  have bf_l1 : w.heap.size + 1 < w2.heap.size + 1 := Nat.lt_succ_of_lt bf_l
  have bf_l2 : w.heap.size + 1 < w2.heap.size + 1 + 1 := Nat.lt_succ_of_lt bf_l1
  have bf_0 : w2.cell? ⟨w.heap.size + 1, 0, none⟩ = some (strV [97]) := (bf.cell 0).trans rfl
  have bf_1 : w2.cell? ⟨w.heap.size + 1, 1, none⟩ = some (.slice (some ⟨w.heap.size, 0, none⟩) 1 1) := (bf.cell 1).trans rfl
  have t1_l : w.heap.size + 2 < w2.heap.size := t1.lt
  have t1_l1 : w.heap.size + 2 < w2.heap.size + 1 := Nat.lt_succ_of_lt t1_l
  have t1_l2 : w.heap.size + 2 < w2.heap.size + 1 + 1 := Nat.lt_succ_of_lt t1_l1
  have t1_0 : w2.cell? ⟨w.heap.size + 2, 0, none⟩ = some (.slice (some ⟨w.heap.size + 1, 0, none⟩) 1 1) := (t1.cell 0).trans rfl
  have vx_l : w1.heap.size < w2.heap.size := vx.lt
  have vx_l1 : w1.heap.size < w2.heap.size + 1 := Nat.lt_succ_of_lt vx_l
  have vx_l2 : w1.heap.size < w2.heap.size + 1 + 1 := Nat.lt_succ_of_lt vx_l1
  have vx_0 : w2.cell? ⟨w1.heap.size, 0, none⟩ = some (.slice Ax x.length cx) := (vx.cell 0).trans rfl
  have vf_l : w1.heap.size + 1 < w2.heap.size := vf.lt
  have vf_l1 : w1.heap.size + 1 < w2.heap.size + 1 := Nat.lt_succ_of_lt vf_l
  have vf_l2 : w1.heap.size + 1 < w2.heap.size + 1 + 1 := Nat.lt_succ_of_lt vf_l1
  have vf_0 : w2.cell? ⟨w1.heap.size + 1, 0, none⟩ = some (.int .i64 0) := (vf.cell 0).trans rfl
  have vf_1 : w2.cell? ⟨w1.heap.size + 1, 1, none⟩ = some (.int .i64 0) := (vf.cell 1).trans rfl
  have Vu := Lib.hid (hsu.mono (X' := Free) (fun _ h => h.elim))
  clear hsu
  clear hb2'
  replace bs := bs.alloc (.cells #[.slice Au 1 cu] 27)
  replace bf := bf.alloc (.cells #[.slice Au 1 cu] 27)
  replace t1 := t1.alloc (.cells #[.slice Au 1 cu] 27)
  replace vx := vx.alloc (.cells #[.slice Au 1 cu] 27)
  replace vf := vf.alloc (.cells #[.slice Au 1 cu] 27)
  have vu := Blk.new w2 27 #[.slice Au 1 cu]
  have HBa6 := Lib.hid (HBm2.out.alloc HBm2.out.size (.cells #[.slice Au 1 cu] 27))
  replace hM := Lib.hid (hM.out.below (below_alloc1 w2 (.cells #[.slice Au 1 cu] 27)))
  replace V1 := Lib.hid (V1.out.keep (Keeps.alloc w2 _ (.cells #[.slice Au 1 cu] 27)))
  replace Vx := Lib.hid (Vx.out.keep (Keeps.alloc w2 _ (.cells #[.slice Au 1 cu] 27)))
  replace Vu := Lib.hid (Vu.out.keep (Keeps.alloc w2 _ (.cells #[.slice Au 1 cu] 27)))
  replace bs := bs.alloc (.cells #[.int .i64 0, .int .i64 0] 30)
  replace bf := bf.alloc (.cells #[.int .i64 0, .int .i64 0] 30)
  replace t1 := t1.alloc (.cells #[.int .i64 0, .int .i64 0] 30)
  replace vx := vx.alloc (.cells #[.int .i64 0, .int .i64 0] 30)
  replace vf := vf.alloc (.cells #[.int .i64 0, .int .i64 0] 30)
  replace vu := vu.alloc (.cells #[.int .i64 0, .int .i64 0] 30)
  have vg : Blk ((w2.alloc (.cells #[.slice Au 1 cu] 27)).alloc (.cells #[.int .i64 0, .int .i64 0] 30)) (w2.heap.size + 1) 30 #[.int .i64 0, .int .i64 0] := by simpa using Blk.new (w2.alloc (.cells #[.slice Au 1 cu] 27)) 30 #[.int .i64 0, .int .i64 0]
  have HBa7 := Lib.hid (HBa6.out.alloc HBa6.out.size (.cells #[.int .i64 0, .int .i64 0] 30))
  replace hM := Lib.hid (hM.out.below (below_alloc1 (w2.alloc (.cells #[.slice Au 1 cu] 27)) (.cells #[.int .i64 0, .int .i64 0] 30)))
  replace V1 := Lib.hid (V1.out.keep (Keeps.alloc (w2.alloc (.cells #[.slice Au 1 cu] 27)) _ (.cells #[.int .i64 0, .int .i64 0] 30)))
  replace Vx := Lib.hid (Vx.out.keep (Keeps.alloc (w2.alloc (.cells #[.slice Au 1 cu] 27)) _ (.cells #[.int .i64 0, .int .i64 0] 30)))
  replace Vu := Lib.hid (Vu.out.keep (Keeps.alloc (w2.alloc (.cells #[.slice Au 1 cu] 27)) _ (.cells #[.int .i64 0, .int .i64 0] 30)))
  go_wp2_with fail
  go_at_call 13
  with_reducible refine (H13.out _ _ _ _ _ V1.out Vu.out).mono ?_
  rintro e w3 ⟨rfl, hb3'⟩
  have HBm3 := Lib.hid (HBa7.out.trans (hb3'.mono HBa7.out.size))
  replace bs := bs.below hb3' bs.lt
  replace bf := bf.below hb3' bf.lt
  replace t1 := t1.below hb3' t1.lt
  replace vx := vx.below hb3' vx.lt
  replace vf := vf.below hb3' vf.lt
  replace vu := vu.below hb3' vu.lt
  replace vg := vg.below hb3' vg.lt
  replace hM := Lib.hid (hM.out.below hb3')
  replace V1 := Lib.hid (V1.out.keep (free_below hb3'))
  replace Vx := Lib.hid (Vx.out.keep (free_below hb3'))
  replace Vu := Lib.hid (Vu.out.keep (free_below hb3'))
  clear bs_l bs_l1 bs_l2 bs_0 bf_l bf_l1 bf_l2 bf_0 bf_1 t1_l t1_l1 t1_l2 t1_0 vx_l vx_l1 vx_l2 vx_0 vf_l vf_l1 vf_l2 vf_0 vf_1
  have bs_l : w.heap.size < w3.heap.size := bs.lt
  have bs_l1 : w.heap.size < w3.heap.size + 1 := Nat.lt_succ_of_lt bs_l
  have bs_l2 : w.heap.size < w3.heap.size + 1 + 1 := Nat.lt_succ_of_lt bs_l1
  have bs_0 : w3.cell? ⟨w.heap.size, 0, none⟩ = some (strV [120]) := (bs.cell 0).trans rfl
  have bf_l : w.heap.size + 1 < w3.heap.size := bf.lt
  have bf_l1 : w.heap.size + 1 < w3.heap.size + 1 := Nat.lt_succ_of_lt bf_l
  have bf_l2 : w.heap.size + 1 < w3.heap.size + 1 + 1 := Nat.lt_succ_of_lt bf_l1
  have bf_0 : w3.cell? ⟨w.heap.size + 1, 0, none⟩ = some (strV [97]) := (bf.cell 0).trans rfl
  have bf_1 : w3.cell? ⟨w.heap.size + 1, 1, none⟩ = some (.slice (some ⟨w.heap.size, 0, none⟩) 1 1) := (bf.cell 1).trans rfl
  have t1_l : w.heap.size + 2 < w3.heap.size := t1.lt
  have t1_l1 : w.heap.size + 2 < w3.heap.size + 1 := Nat.lt_succ_of_lt t1_l
  have t1_l2 : w.heap.size + 2 < w3.heap.size + 1 + 1 := Nat.lt_succ_of_lt t1_l1
  have t1_0 : w3.cell? ⟨w.heap.size + 2, 0, none⟩ = some (.slice (some ⟨w.heap.size + 1, 0, none⟩) 1 1) := (t1.cell 0).trans rfl
  have vx_l : w1.heap.size < w3.heap.size := vx.lt
  have vx_l1 : w1.heap.size < w3.heap.size + 1 := Nat.lt_succ_of_lt vx_l
  have vx_l2 : w1.heap.size < w3.heap.size + 1 + 1 := Nat.lt_succ_of_lt vx_l1
  have vx_0 : w3.cell? ⟨w1.heap.size, 0, none⟩ = some (.slice Ax x.length cx) := (vx.cell 0).trans rfl
  have vf_l : w1.heap.size + 1 < w3.heap.size := vf.lt
  have vf_l1 : w1.heap.size + 1 < w3.heap.size + 1 := Nat.lt_succ_of_lt vf_l
  have vf_l2 : w1.heap.size + 1 < w3.heap.size + 1 + 1 := Nat.lt_succ_of_lt vf_l1
  have vf_0 : w3.cell? ⟨w1.heap.size + 1, 0, none⟩ = some (.int .i64 0) := (vf.cell 0).trans rfl
  have vf_1 : w3.cell? ⟨w1.heap.size + 1, 1, none⟩ = some (.int .i64 0) := (vf.cell 1).trans rfl
  have vu_l : w2.heap.size < w3.heap.size := vu.lt
  have vu_l1 : w2.heap.size < w3.heap.size + 1 := Nat.lt_succ_of_lt vu_l
  have vu_l2 : w2.heap.size < w3.heap.size + 1 + 1 := Nat.lt_succ_of_lt vu_l1
  have vu_0 : w3.cell? ⟨w2.heap.size, 0, none⟩ = some (.slice Au 1 cu) := (vu.cell 0).trans rfl
  have vg_l : w2.heap.size + 1 < w3.heap.size := vg.lt
  have vg_l1 : w2.heap.size + 1 < w3.heap.size + 1 := Nat.lt_succ_of_lt vg_l
  have vg_l2 : w2.heap.size + 1 < w3.heap.size + 1 + 1 := Nat.lt_succ_of_lt vg_l1
  have vg_0 : w3.cell? ⟨w2.heap.size + 1, 0, none⟩ = some (.int .i64 0) := (vg.cell 0).trans rfl
  have vg_1 : w3.cell? ⟨w2.heap.size + 1, 1, none⟩ = some (.int .i64 0) := (vg.cell 1).trans rfl
  clear hb3'
  go_wp2_with fail
  go_ret
  exact ⟨rfl, HBm3.out⟩
set_option maxRecDepth 100000 in
set_option maxHeartbeats 16000000 in
theorem law4_any (w : World) (hm : Mx w) (hm2 : M2 w) (A : Option Addr) (k : Nat) (s : List Ob.S) (hv : StV w Free A s) (hl : s.length * 64 ≤ 140737488351232) (hk : s.length ≤ k)
    (A2 : Option Addr) (k2 : Nat) (t : List Tr.F) (hv2 : VfV w Free A2 t) (hl2 : t.length * 40 ≤ 140737488351232) (hk2 : t.length ≤ k2) :
    Calls Tryd.prog 4 #[.agg #[.slice A s.length k], .agg #[.slice A2 t.length k2]] w fun e w' => e = .returned (.bool true) ∧ Below w.heap.size w w' := by
  have hM := Lib.hid (show MM w from ⟨hm, hm2⟩)
  have V0 := Lib.hid hv
  have V2 := Lib.hid hv2
  have HWC := Lib.hid (Tr.wrF_cases s t)
  have H9 := Lib.hid (fun (w1 : World) (hm : MM w1) (hv : StV w1 Free A s) (hv2 : VfV w1 Free A2 t) => write_any w1 hm.1 A k s hv (by omega) A2 k2 t hv2 (by omega) hk2)
  have H12 := Lib.hid (fun (x : List Ob.S) (hx : Ob.StOk x) (ht : Tr.VOk t) (hh : Tr.Has x (Tr.objs t)) (w1 : World) (Ax : Option Addr) (cx : Nat) (hm : MM w1) (hv : StV w1 Free Ax x) => by
    have := read_any w1 hm.1 hm.2 Ax cx x ((Ob.dig (Tr.treeO t) : Nat) : Int) hv (by have := hx.len; omega)
    rw [Tr.read_back hx ht hh] at this
    exact this)
  have HT := Lib.hid (fun (w1 : World) (A1 A3 : Option Addr) (c1 c3 : Nat) (h1 : VfV w1 Free A1 t) (h3 : VfV w1 Free A3 t) => by
    have := trees_any w1 A1 A3 c1 c3 t t h1 h3 (by omega) (by omega)
    rw [decide_eq_true rfl] at this
    exact this)
  clear hm hm2 hv hv2
  have HB0 := Lib.hid (Below.refl w.heap.size w)
  go_enter Tryd.func4, Tryd.ntmps4
  have bx := Blk.new w 24 #[.slice A s.length k]
  have HBa1 := Lib.hid (HB0.out.alloc HB0.out.size (.cells #[.slice A s.length k] 24))
  replace hM := Lib.hid (hM.out.below (below_alloc1 w (.cells #[.slice A s.length k] 24)))
  replace V0 := Lib.hid (V0.out.keep (Keeps.alloc w _ (.cells #[.slice A s.length k] 24)))
  replace V2 := Lib.hid (V2.out.keep (Keeps.alloc w _ (.cells #[.slice A s.length k] 24)))
  replace bx := bx.alloc (.cells #[.slice A2 t.length k2] 27)
  have bt : Blk ((w.alloc (.cells #[.slice A s.length k] 24)).alloc (.cells #[.slice A2 t.length k2] 27)) (w.heap.size + 1) 27 #[.slice A2 t.length k2] := by simpa using Blk.new (w.alloc (.cells #[.slice A s.length k] 24)) 27 #[.slice A2 t.length k2]
  have HBa2 := Lib.hid (HBa1.out.alloc HBa1.out.size (.cells #[.slice A2 t.length k2] 27))
  replace hM := Lib.hid (hM.out.below (below_alloc1 (w.alloc (.cells #[.slice A s.length k] 24)) (.cells #[.slice A2 t.length k2] 27)))
  replace V0 := Lib.hid (V0.out.keep (Keeps.alloc (w.alloc (.cells #[.slice A s.length k] 24)) _ (.cells #[.slice A2 t.length k2] 27)))
  replace V2 := Lib.hid (V2.out.keep (Keeps.alloc (w.alloc (.cells #[.slice A s.length k] 24)) _ (.cells #[.slice A2 t.length k2] 27)))
  go_wp2_with fail
  go_at_call 8
  with_reducible refine (texample_any _ hM.out).mono ?_
  rintro e w1 ⟨rfl, hb1'⟩
  have HBm1 := Lib.hid (HBa2.out.trans (hb1'.mono HBa2.out.size))
  replace bx := bx.below hb1' bx.lt
  replace bt := bt.below hb1' bt.lt
  replace hM := Lib.hid (hM.out.below hb1')
  replace V0 := Lib.hid (V0.out.keep (free_below hb1'))
  replace V2 := Lib.hid (V2.out.keep (free_below hb1'))
  have bx_l : w.heap.size < w1.heap.size := bx.lt
  have bx_l1 : w.heap.size < w1.heap.size + 1 := Nat.lt_succ_of_lt bx_l
  have bx_l2 : w.heap.size < w1.heap.size + 1 + 1 := Nat.lt_succ_of_lt bx_l1
  have bx_0 : w1.cell? ⟨w.heap.size, 0, none⟩ = some (.slice A s.length k) := (bx.cell 0).trans rfl
  have bt_l : w.heap.size + 1 < w1.heap.size := bt.lt
  have bt_l1 : w.heap.size + 1 < w1.heap.size + 1 := Nat.lt_succ_of_lt bt_l
  have bt_l2 : w.heap.size + 1 < w1.heap.size + 1 + 1 := Nat.lt_succ_of_lt bt_l1
  have bt_0 : w1.cell? ⟨w.heap.size + 1, 0, none⟩ = some (.slice A2 t.length k2) := (bt.cell 0).trans rfl
  clear hb1'
  rcases HWC.out with ⟨hc, hx⟩ | ⟨x, he, hs, ht, hsx, _, hh, _⟩
  · clear HWC H12 HT
    generalize Tr.wrF s t = q at *
    obtain ⟨⟨us, d⟩, cd, ix⟩ := q
    simp only at hc hx
    injection hx with e1 e2
    subst e1
    subst e2
    have hx1 : (cd == 0) = false := by simpa using hc
    have hx2 : (cd != 0) = true := by simpa using hc
    clear hc
    go_wp2_with fail
    go_at_call 9
    with_reducible refine (H9.out _ hM.out V0.out V2.out).mono ?_
    rintro e w2 ⟨Ax, cx, rfl, hcx, hsx, hb2'⟩
    have HBm2 := Lib.hid (HBm1.out.trans (hb2'.mono HBm1.out.size))
    replace bx := bx.below hb2' bx.lt
    replace bt := bt.below hb2' bt.lt
    replace hM := Lib.hid (hM.out.below hb2')
    replace V0 := Lib.hid (V0.out.keep (free_below hb2'))
    replace V2 := Lib.hid (V2.out.keep (free_below hb2'))
    clear bx_l bx_l1 bx_l2 bx_0 bt_l bt_l1 bt_l2 bt_0
    have bx_l : w.heap.size < w2.heap.size := bx.lt
    have bx_l1 : w.heap.size < w2.heap.size + 1 := Nat.lt_succ_of_lt bx_l
    have bx_l2 : w.heap.size < w2.heap.size + 1 + 1 := Nat.lt_succ_of_lt bx_l1
    have bx_0 : w2.cell? ⟨w.heap.size, 0, none⟩ = some (.slice A s.length k) := (bx.cell 0).trans rfl
    have bt_l : w.heap.size + 1 < w2.heap.size := bt.lt
    have bt_l1 : w.heap.size + 1 < w2.heap.size + 1 := Nat.lt_succ_of_lt bt_l
    have bt_l2 : w.heap.size + 1 < w2.heap.size + 1 + 1 := Nat.lt_succ_of_lt bt_l1
    have bt_0 : w2.cell? ⟨w.heap.size + 1, 0, none⟩ = some (.slice A2 t.length k2) := (bt.cell 0).trans rfl
    have Vx := Lib.hid (hsx.mono (X' := Free) (fun _ h => h.elim))
    clear hsx
    clear hb2'
    try simp only at hcx
    replace bx := bx.alloc (.cells #[.slice Ax 0 cx] 24)
    replace bt := bt.alloc (.cells #[.slice Ax 0 cx] 24)
    have vx := Blk.new w2 24 #[.slice Ax 0 cx]
    have HBa3 := Lib.hid (HBm2.out.alloc HBm2.out.size (.cells #[.slice Ax 0 cx] 24))
    replace hM := Lib.hid (hM.out.below (below_alloc1 w2 (.cells #[.slice Ax 0 cx] 24)))
    replace V0 := Lib.hid (V0.out.keep (Keeps.alloc w2 _ (.cells #[.slice Ax 0 cx] 24)))
    replace V2 := Lib.hid (V2.out.keep (Keeps.alloc w2 _ (.cells #[.slice Ax 0 cx] 24)))
    replace Vx := Lib.hid (Vx.out.keep (Keeps.alloc w2 _ (.cells #[.slice Ax 0 cx] 24)))
    replace bx := bx.alloc (.cells #[.int .i64 cd, .int .i64 ix] 30)
    replace bt := bt.alloc (.cells #[.int .i64 cd, .int .i64 ix] 30)
    replace vx := vx.alloc (.cells #[.int .i64 cd, .int .i64 ix] 30)
    have vf : Blk ((w2.alloc (.cells #[.slice Ax 0 cx] 24)).alloc (.cells #[.int .i64 cd, .int .i64 ix] 30)) (w2.heap.size + 1) 30 #[.int .i64 cd, .int .i64 ix] := by simpa using Blk.new (w2.alloc (.cells #[.slice Ax 0 cx] 24)) 30 #[.int .i64 cd, .int .i64 ix]
    have HBa4 := Lib.hid (HBa3.out.alloc HBa3.out.size (.cells #[.int .i64 cd, .int .i64 ix] 30))
    replace hM := Lib.hid (hM.out.below (below_alloc1 (w2.alloc (.cells #[.slice Ax 0 cx] 24)) (.cells #[.int .i64 cd, .int .i64 ix] 30)))
    replace V0 := Lib.hid (V0.out.keep (Keeps.alloc (w2.alloc (.cells #[.slice Ax 0 cx] 24)) _ (.cells #[.int .i64 cd, .int .i64 ix] 30)))
    replace V2 := Lib.hid (V2.out.keep (Keeps.alloc (w2.alloc (.cells #[.slice Ax 0 cx] 24)) _ (.cells #[.int .i64 cd, .int .i64 ix] 30)))
    replace Vx := Lib.hid (Vx.out.keep (Keeps.alloc (w2.alloc (.cells #[.slice Ax 0 cx] 24)) _ (.cells #[.int .i64 cd, .int .i64 ix] 30)))
    go_wp2_with fail
    go_ret
    exact ⟨by simp, HBa4.out⟩
  · rw [he] at H9
    have H12b := Lib.hid (H12.out x hsx ht hh)
    clear HWC H12 he hs ht hsx hh
    generalize ((Ob.dig (Tr.treeO t) : Nat) : Int) = d at *
    go_wp2_with fail
    go_at_call 9
    with_reducible refine (H9.out _ hM.out V0.out V2.out).mono ?_
    rintro e w2 ⟨Ax, cx, rfl, hcx, hsx, hb2'⟩
    have HBm2 := Lib.hid (HBm1.out.trans (hb2'.mono HBm1.out.size))
    replace bx := bx.below hb2' bx.lt
    replace bt := bt.below hb2' bt.lt
    replace hM := Lib.hid (hM.out.below hb2')
    replace V0 := Lib.hid (V0.out.keep (free_below hb2'))
    replace V2 := Lib.hid (V2.out.keep (free_below hb2'))
    clear bx_l bx_l1 bx_l2 bx_0 bt_l bt_l1 bt_l2 bt_0
    have bx_l : w.heap.size < w2.heap.size := bx.lt
    have bx_l1 : w.heap.size < w2.heap.size + 1 := Nat.lt_succ_of_lt bx_l
    have bx_l2 : w.heap.size < w2.heap.size + 1 + 1 := Nat.lt_succ_of_lt bx_l1
    have bx_0 : w2.cell? ⟨w.heap.size, 0, none⟩ = some (.slice A s.length k) := (bx.cell 0).trans rfl
    have bt_l : w.heap.size + 1 < w2.heap.size := bt.lt
    have bt_l1 : w.heap.size + 1 < w2.heap.size + 1 := Nat.lt_succ_of_lt bt_l
    have bt_l2 : w.heap.size + 1 < w2.heap.size + 1 + 1 := Nat.lt_succ_of_lt bt_l1
    have bt_0 : w2.cell? ⟨w.heap.size + 1, 0, none⟩ = some (.slice A2 t.length k2) := (bt.cell 0).trans rfl
    have Vx := Lib.hid (hsx.mono (X' := Free) (fun _ h => h.elim))
    clear hsx
    clear hb2'
    try simp only at hcx
    replace bx := bx.alloc (.cells #[.slice Ax x.length cx] 24)
    replace bt := bt.alloc (.cells #[.slice Ax x.length cx] 24)
    have vx := Blk.new w2 24 #[.slice Ax x.length cx]
    have HBa3 := Lib.hid (HBm2.out.alloc HBm2.out.size (.cells #[.slice Ax x.length cx] 24))
    replace hM := Lib.hid (hM.out.below (below_alloc1 w2 (.cells #[.slice Ax x.length cx] 24)))
    replace V0 := Lib.hid (V0.out.keep (Keeps.alloc w2 _ (.cells #[.slice Ax x.length cx] 24)))
    replace V2 := Lib.hid (V2.out.keep (Keeps.alloc w2 _ (.cells #[.slice Ax x.length cx] 24)))
    replace Vx := Lib.hid (Vx.out.keep (Keeps.alloc w2 _ (.cells #[.slice Ax x.length cx] 24)))
    replace bx := bx.alloc (.cells #[.int .i64 0, .int .i64 0] 30)
    replace bt := bt.alloc (.cells #[.int .i64 0, .int .i64 0] 30)
    replace vx := vx.alloc (.cells #[.int .i64 0, .int .i64 0] 30)
    have vf : Blk ((w2.alloc (.cells #[.slice Ax x.length cx] 24)).alloc (.cells #[.int .i64 0, .int .i64 0] 30)) (w2.heap.size + 1) 30 #[.int .i64 0, .int .i64 0] := by simpa using Blk.new (w2.alloc (.cells #[.slice Ax x.length cx] 24)) 30 #[.int .i64 0, .int .i64 0]
    have HBa4 := Lib.hid (HBa3.out.alloc HBa3.out.size (.cells #[.int .i64 0, .int .i64 0] 30))
    replace hM := Lib.hid (hM.out.below (below_alloc1 (w2.alloc (.cells #[.slice Ax x.length cx] 24)) (.cells #[.int .i64 0, .int .i64 0] 30)))
    replace V0 := Lib.hid (V0.out.keep (Keeps.alloc (w2.alloc (.cells #[.slice Ax x.length cx] 24)) _ (.cells #[.int .i64 0, .int .i64 0] 30)))
    replace V2 := Lib.hid (V2.out.keep (Keeps.alloc (w2.alloc (.cells #[.slice Ax x.length cx] 24)) _ (.cells #[.int .i64 0, .int .i64 0] 30)))
    replace Vx := Lib.hid (Vx.out.keep (Keeps.alloc (w2.alloc (.cells #[.slice Ax x.length cx] 24)) _ (.cells #[.int .i64 0, .int .i64 0] 30)))
    go_wp2_with fail
    go_at_call 12
    with_reducible refine (H12b.out _ _ _ hM.out Vx.out).mono ?_
    rintro e w3 ⟨Au, cu, rfl, hcu, hsu, hb3'⟩
    have HBm3 := Lib.hid (HBa4.out.trans (hb3'.mono HBa4.out.size))
    replace bx := bx.below hb3' bx.lt
    replace bt := bt.below hb3' bt.lt
    replace vx := vx.below hb3' vx.lt
    replace vf := vf.below hb3' vf.lt
    replace hM := Lib.hid (hM.out.below hb3')
    replace V0 := Lib.hid (V0.out.keep (free_below hb3'))
    replace V2 := Lib.hid (V2.out.keep (free_below hb3'))
    replace Vx := Lib.hid (Vx.out.keep (free_below hb3'))
    clear bx_l bx_l1 bx_l2 bx_0 bt_l bt_l1 bt_l2 bt_0
    have bx_l : w.heap.size < w3.heap.size := bx.lt
    have bx_l1 : w.heap.size < w3.heap.size + 1 := Nat.lt_succ_of_lt bx_l
    have bx_l2 : w.heap.size < w3.heap.size + 1 + 1 := Nat.lt_succ_of_lt bx_l1
    have bx_0 : w3.cell? ⟨w.heap.size, 0, none⟩ = some (.slice A s.length k) := (bx.cell 0).trans rfl
    have bt_l : w.heap.size + 1 < w3.heap.size := bt.lt
    have bt_l1 : w.heap.size + 1 < w3.heap.size + 1 := Nat.lt_succ_of_lt bt_l
    have bt_l2 : w.heap.size + 1 < w3.heap.size + 1 + 1 := Nat.lt_succ_of_lt bt_l1
    have bt_0 : w3.cell? ⟨w.heap.size + 1, 0, none⟩ = some (.slice A2 t.length k2) := (bt.cell 0).trans rfl
    have vx_l : w2.heap.size < w3.heap.size := vx.lt
    have vx_l1 : w2.heap.size < w3.heap.size + 1 := Nat.lt_succ_of_lt vx_l
    have vx_l2 : w2.heap.size < w3.heap.size + 1 + 1 := Nat.lt_succ_of_lt vx_l1
    have vx_0 : w3.cell? ⟨w2.heap.size, 0, none⟩ = some (.slice Ax x.length cx) := (vx.cell 0).trans rfl
    have vf_l : w2.heap.size + 1 < w3.heap.size := vf.lt
    have vf_l1 : w2.heap.size + 1 < w3.heap.size + 1 := Nat.lt_succ_of_lt vf_l
    have vf_l2 : w2.heap.size + 1 < w3.heap.size + 1 + 1 := Nat.lt_succ_of_lt vf_l1
    have vf_0 : w3.cell? ⟨w2.heap.size + 1, 0, none⟩ = some (.int .i64 0) := (vf.cell 0).trans rfl
    have vf_1 : w3.cell? ⟨w2.heap.size + 1, 1, none⟩ = some (.int .i64 0) := (vf.cell 1).trans rfl
    have Vu := Lib.hid (hsu.mono (X' := Free) (fun _ h => h.elim))
    clear hsu
    clear hb3'
    try simp only at hcu
    replace bx := bx.alloc (.cells #[.slice Au t.length cu] 27)
    replace bt := bt.alloc (.cells #[.slice Au t.length cu] 27)
    replace vx := vx.alloc (.cells #[.slice Au t.length cu] 27)
    replace vf := vf.alloc (.cells #[.slice Au t.length cu] 27)
    have vu := Blk.new w3 27 #[.slice Au t.length cu]
    have HBa5 := Lib.hid (HBm3.out.alloc HBm3.out.size (.cells #[.slice Au t.length cu] 27))
    replace hM := Lib.hid (hM.out.below (below_alloc1 w3 (.cells #[.slice Au t.length cu] 27)))
    replace V0 := Lib.hid (V0.out.keep (Keeps.alloc w3 _ (.cells #[.slice Au t.length cu] 27)))
    replace V2 := Lib.hid (V2.out.keep (Keeps.alloc w3 _ (.cells #[.slice Au t.length cu] 27)))
    replace Vx := Lib.hid (Vx.out.keep (Keeps.alloc w3 _ (.cells #[.slice Au t.length cu] 27)))
    replace Vu := Lib.hid (Vu.out.keep (Keeps.alloc w3 _ (.cells #[.slice Au t.length cu] 27)))
    replace bx := bx.alloc (.cells #[.int .i64 0, .int .i64 0] 30)
    replace bt := bt.alloc (.cells #[.int .i64 0, .int .i64 0] 30)
    replace vx := vx.alloc (.cells #[.int .i64 0, .int .i64 0] 30)
    replace vf := vf.alloc (.cells #[.int .i64 0, .int .i64 0] 30)
    replace vu := vu.alloc (.cells #[.int .i64 0, .int .i64 0] 30)
    have vg : Blk ((w3.alloc (.cells #[.slice Au t.length cu] 27)).alloc (.cells #[.int .i64 0, .int .i64 0] 30)) (w3.heap.size + 1) 30 #[.int .i64 0, .int .i64 0] := by simpa using Blk.new (w3.alloc (.cells #[.slice Au t.length cu] 27)) 30 #[.int .i64 0, .int .i64 0]
    have HBa6 := Lib.hid (HBa5.out.alloc HBa5.out.size (.cells #[.int .i64 0, .int .i64 0] 30))
    replace hM := Lib.hid (hM.out.below (below_alloc1 (w3.alloc (.cells #[.slice Au t.length cu] 27)) (.cells #[.int .i64 0, .int .i64 0] 30)))
    replace V0 := Lib.hid (V0.out.keep (Keeps.alloc (w3.alloc (.cells #[.slice Au t.length cu] 27)) _ (.cells #[.int .i64 0, .int .i64 0] 30)))
    replace V2 := Lib.hid (V2.out.keep (Keeps.alloc (w3.alloc (.cells #[.slice Au t.length cu] 27)) _ (.cells #[.int .i64 0, .int .i64 0] 30)))
    replace Vx := Lib.hid (Vx.out.keep (Keeps.alloc (w3.alloc (.cells #[.slice Au t.length cu] 27)) _ (.cells #[.int .i64 0, .int .i64 0] 30)))
    replace Vu := Lib.hid (Vu.out.keep (Keeps.alloc (w3.alloc (.cells #[.slice Au t.length cu] 27)) _ (.cells #[.int .i64 0, .int .i64 0] 30)))
    go_wp2_with fail
    go_at_call 13
    with_reducible refine (HT.out _ _ _ _ _ V2.out Vu.out).mono ?_
    rintro e w4 ⟨rfl, hb4'⟩
    have HBm4 := Lib.hid (HBa6.out.trans (hb4'.mono HBa6.out.size))
    replace bx := bx.below hb4' bx.lt
    replace bt := bt.below hb4' bt.lt
    replace vx := vx.below hb4' vx.lt
    replace vf := vf.below hb4' vf.lt
    replace vu := vu.below hb4' vu.lt
    replace vg := vg.below hb4' vg.lt
    replace hM := Lib.hid (hM.out.below hb4')
    replace V0 := Lib.hid (V0.out.keep (free_below hb4'))
    replace V2 := Lib.hid (V2.out.keep (free_below hb4'))
    replace Vx := Lib.hid (Vx.out.keep (free_below hb4'))
    replace Vu := Lib.hid (Vu.out.keep (free_below hb4'))
    clear bx_l bx_l1 bx_l2 bx_0 bt_l bt_l1 bt_l2 bt_0 vx_l vx_l1 vx_l2 vx_0 vf_l vf_l1 vf_l2 vf_0 vf_1
    have bx_l : w.heap.size < w4.heap.size := bx.lt
    have bx_l1 : w.heap.size < w4.heap.size + 1 := Nat.lt_succ_of_lt bx_l
    have bx_l2 : w.heap.size < w4.heap.size + 1 + 1 := Nat.lt_succ_of_lt bx_l1
    have bx_0 : w4.cell? ⟨w.heap.size, 0, none⟩ = some (.slice A s.length k) := (bx.cell 0).trans rfl
    have bt_l : w.heap.size + 1 < w4.heap.size := bt.lt
    have bt_l1 : w.heap.size + 1 < w4.heap.size + 1 := Nat.lt_succ_of_lt bt_l
    have bt_l2 : w.heap.size + 1 < w4.heap.size + 1 + 1 := Nat.lt_succ_of_lt bt_l1
    have bt_0 : w4.cell? ⟨w.heap.size + 1, 0, none⟩ = some (.slice A2 t.length k2) := (bt.cell 0).trans rfl
    have vx_l : w2.heap.size < w4.heap.size := vx.lt
    have vx_l1 : w2.heap.size < w4.heap.size + 1 := Nat.lt_succ_of_lt vx_l
    have vx_l2 : w2.heap.size < w4.heap.size + 1 + 1 := Nat.lt_succ_of_lt vx_l1
    have vx_0 : w4.cell? ⟨w2.heap.size, 0, none⟩ = some (.slice Ax x.length cx) := (vx.cell 0).trans rfl
    have vf_l : w2.heap.size + 1 < w4.heap.size := vf.lt
    have vf_l1 : w2.heap.size + 1 < w4.heap.size + 1 := Nat.lt_succ_of_lt vf_l
    have vf_l2 : w2.heap.size + 1 < w4.heap.size + 1 + 1 := Nat.lt_succ_of_lt vf_l1
    have vf_0 : w4.cell? ⟨w2.heap.size + 1, 0, none⟩ = some (.int .i64 0) := (vf.cell 0).trans rfl
    have vf_1 : w4.cell? ⟨w2.heap.size + 1, 1, none⟩ = some (.int .i64 0) := (vf.cell 1).trans rfl
    have vu_l : w3.heap.size < w4.heap.size := vu.lt
    have vu_l1 : w3.heap.size < w4.heap.size + 1 := Nat.lt_succ_of_lt vu_l
    have vu_l2 : w3.heap.size < w4.heap.size + 1 + 1 := Nat.lt_succ_of_lt vu_l1
    have vu_0 : w4.cell? ⟨w3.heap.size, 0, none⟩ = some (.slice Au t.length cu) := (vu.cell 0).trans rfl
    have vg_l : w3.heap.size + 1 < w4.heap.size := vg.lt
    have vg_l1 : w3.heap.size + 1 < w4.heap.size + 1 := Nat.lt_succ_of_lt vg_l
    have vg_l2 : w3.heap.size + 1 < w4.heap.size + 1 + 1 := Nat.lt_succ_of_lt vg_l1
    have vg_0 : w4.cell? ⟨w3.heap.size + 1, 0, none⟩ = some (.int .i64 0) := (vg.cell 0).trans rfl
    have vg_1 : w4.cell? ⟨w3.heap.size + 1, 1, none⟩ = some (.int .i64 0) := (vg.cell 1).trans rfl
    clear hb4'
    go_wp2_with fail
    go_ret
    exact ⟨rfl, HBm4.out⟩
set_option maxRecDepth 100000 in
set_option maxHeartbeats 16000000 in
theorem law5_any (w : World) (hm : Mx w) (hm2 : M2 w) (A : Option Addr) (k : Nat) (s : List Ob.S) (hv : StV w Free A s) (hl : s.length * 64 ≤ 140737488351232) (hk : s.length ≤ k)
    (A2 : Option Addr) (k2 : Nat) (t : List Tr.F) (hv2 : VfV w Free A2 t) (hl2 : t.length * 40 ≤ 140737488351232) (hk2 : t.length ≤ k2) :
    Calls Tryd.prog 5 #[.agg #[.slice A s.length k], .agg #[.slice A2 t.length k2]] w fun e w' => e = .returned (.bool true) ∧ Below w.heap.size w w' := by
  have hM := Lib.hid (show MM w from ⟨hm, hm2⟩)
  have V0 := Lib.hid hv
  have V2 := Lib.hid hv2
  have HWC := Lib.hid (Tr.wrF_cases s t)
  have H9 := Lib.hid (fun (w1 : World) (hm : MM w1) (hv : StV w1 Free A s) (hv2 : VfV w1 Free A2 t) => write_any w1 hm.1 A k s hv (by omega) A2 k2 t hv2 (by omega) hk2)
  have H12 := Lib.hid (fun (x : List Ob.S) (hx : Ob.StOk x) (ht : Tr.VOk t) (hh : Tr.Has x (Tr.objs t)) (w1 : World) (Ax : Option Addr) (cx : Nat) (hm : MM w1) (hv : StV w1 Free Ax x) (hv2 : VfV w1 Free A2 t) => by
    have := write_any w1 hm.1 Ax cx x hv (by have := hx.len; omega) A2 k2 t hv2 (by omega) hk2
    rw [Tr.wr_again hx ht hh] at this
    exact this)
  have HST := Lib.hid (fun (x : List Ob.S) (hx : Ob.StOk x) (w1 : World) (A1 A3 : Option Addr) (c1 c3 : Nat) (h1 : StV w1 Free A1 x) (h3 : StV w1 Free A3 x) => stores_any w1 A1 A3 c1 c3 x h1 h3 (by have := hx.len; omega))
  clear hm hm2 hv hv2
  have HB0 := Lib.hid (Below.refl w.heap.size w)
  go_enter Tryd.func5, Tryd.ntmps5
  have bx := Blk.new w 24 #[.slice A s.length k]
  have HBa1 := Lib.hid (HB0.out.alloc HB0.out.size (.cells #[.slice A s.length k] 24))
  replace hM := Lib.hid (hM.out.below (below_alloc1 w (.cells #[.slice A s.length k] 24)))
  replace V0 := Lib.hid (V0.out.keep (Keeps.alloc w _ (.cells #[.slice A s.length k] 24)))
  replace V2 := Lib.hid (V2.out.keep (Keeps.alloc w _ (.cells #[.slice A s.length k] 24)))
  replace bx := bx.alloc (.cells #[.slice A2 t.length k2] 27)
  have bt : Blk ((w.alloc (.cells #[.slice A s.length k] 24)).alloc (.cells #[.slice A2 t.length k2] 27)) (w.heap.size + 1) 27 #[.slice A2 t.length k2] := by simpa using Blk.new (w.alloc (.cells #[.slice A s.length k] 24)) 27 #[.slice A2 t.length k2]
  have HBa2 := Lib.hid (HBa1.out.alloc HBa1.out.size (.cells #[.slice A2 t.length k2] 27))
  replace hM := Lib.hid (hM.out.below (below_alloc1 (w.alloc (.cells #[.slice A s.length k] 24)) (.cells #[.slice A2 t.length k2] 27)))
  replace V0 := Lib.hid (V0.out.keep (Keeps.alloc (w.alloc (.cells #[.slice A s.length k] 24)) _ (.cells #[.slice A2 t.length k2] 27)))
  replace V2 := Lib.hid (V2.out.keep (Keeps.alloc (w.alloc (.cells #[.slice A s.length k] 24)) _ (.cells #[.slice A2 t.length k2] 27)))
  go_wp2_with fail
  go_at_call 8
  with_reducible refine (texample_any _ hM.out).mono ?_
  rintro e w1 ⟨rfl, hb1'⟩
  have HBm1 := Lib.hid (HBa2.out.trans (hb1'.mono HBa2.out.size))
  replace bx := bx.below hb1' bx.lt
  replace bt := bt.below hb1' bt.lt
  replace hM := Lib.hid (hM.out.below hb1')
  replace V0 := Lib.hid (V0.out.keep (free_below hb1'))
  replace V2 := Lib.hid (V2.out.keep (free_below hb1'))
  have bx_l : w.heap.size < w1.heap.size := bx.lt
  have bx_l1 : w.heap.size < w1.heap.size + 1 := Nat.lt_succ_of_lt bx_l
  have bx_l2 : w.heap.size < w1.heap.size + 1 + 1 := Nat.lt_succ_of_lt bx_l1
  have bx_0 : w1.cell? ⟨w.heap.size, 0, none⟩ = some (.slice A s.length k) := (bx.cell 0).trans rfl
  have bt_l : w.heap.size + 1 < w1.heap.size := bt.lt
  have bt_l1 : w.heap.size + 1 < w1.heap.size + 1 := Nat.lt_succ_of_lt bt_l
  have bt_l2 : w.heap.size + 1 < w1.heap.size + 1 + 1 := Nat.lt_succ_of_lt bt_l1
  have bt_0 : w1.cell? ⟨w.heap.size + 1, 0, none⟩ = some (.slice A2 t.length k2) := (bt.cell 0).trans rfl
  clear hb1'
  rcases HWC.out with ⟨hc, hx⟩ | ⟨x, he, hs, ht, hsx, _, hh, _⟩
  · clear HWC H12 HST
    generalize Tr.wrF s t = q at *
    obtain ⟨⟨us, d⟩, cd, ix⟩ := q
    simp only at hc hx
    injection hx with e1 e2
    subst e1
    subst e2
    have hx1 : (cd == 0) = false := by simpa using hc
    have hx2 : (cd != 0) = true := by simpa using hc
    clear hc
    go_wp2_with fail
    go_at_call 9
    with_reducible refine (H9.out _ hM.out V0.out V2.out).mono ?_
    rintro e w2 ⟨Ax, cx, rfl, hcx, hsx, hb2'⟩
    have HBm2 := Lib.hid (HBm1.out.trans (hb2'.mono HBm1.out.size))
    replace bx := bx.below hb2' bx.lt
    replace bt := bt.below hb2' bt.lt
    replace hM := Lib.hid (hM.out.below hb2')
    replace V0 := Lib.hid (V0.out.keep (free_below hb2'))
    replace V2 := Lib.hid (V2.out.keep (free_below hb2'))
    clear bx_l bx_l1 bx_l2 bx_0 bt_l bt_l1 bt_l2 bt_0
    have bx_l : w.heap.size < w2.heap.size := bx.lt
    have bx_l1 : w.heap.size < w2.heap.size + 1 := Nat.lt_succ_of_lt bx_l
    have bx_l2 : w.heap.size < w2.heap.size + 1 + 1 := Nat.lt_succ_of_lt bx_l1
    have bx_0 : w2.cell? ⟨w.heap.size, 0, none⟩ = some (.slice A s.length k) := (bx.cell 0).trans rfl
    have bt_l : w.heap.size + 1 < w2.heap.size := bt.lt
    have bt_l1 : w.heap.size + 1 < w2.heap.size + 1 := Nat.lt_succ_of_lt bt_l
    have bt_l2 : w.heap.size + 1 < w2.heap.size + 1 + 1 := Nat.lt_succ_of_lt bt_l1
    have bt_0 : w2.cell? ⟨w.heap.size + 1, 0, none⟩ = some (.slice A2 t.length k2) := (bt.cell 0).trans rfl
    have Vx := Lib.hid (hsx.mono (X' := Free) (fun _ h => h.elim))
    clear hsx
    clear hb2'
    try simp only at hcx
    replace bx := bx.alloc (.cells #[.slice Ax 0 cx] 24)
    replace bt := bt.alloc (.cells #[.slice Ax 0 cx] 24)
    have vx := Blk.new w2 24 #[.slice Ax 0 cx]
    have HBa3 := Lib.hid (HBm2.out.alloc HBm2.out.size (.cells #[.slice Ax 0 cx] 24))
    replace hM := Lib.hid (hM.out.below (below_alloc1 w2 (.cells #[.slice Ax 0 cx] 24)))
    replace V0 := Lib.hid (V0.out.keep (Keeps.alloc w2 _ (.cells #[.slice Ax 0 cx] 24)))
    replace V2 := Lib.hid (V2.out.keep (Keeps.alloc w2 _ (.cells #[.slice Ax 0 cx] 24)))
    replace Vx := Lib.hid (Vx.out.keep (Keeps.alloc w2 _ (.cells #[.slice Ax 0 cx] 24)))
    replace bx := bx.alloc (.cells #[.int .i64 cd, .int .i64 ix] 30)
    replace bt := bt.alloc (.cells #[.int .i64 cd, .int .i64 ix] 30)
    replace vx := vx.alloc (.cells #[.int .i64 cd, .int .i64 ix] 30)
    have vf : Blk ((w2.alloc (.cells #[.slice Ax 0 cx] 24)).alloc (.cells #[.int .i64 cd, .int .i64 ix] 30)) (w2.heap.size + 1) 30 #[.int .i64 cd, .int .i64 ix] := by simpa using Blk.new (w2.alloc (.cells #[.slice Ax 0 cx] 24)) 30 #[.int .i64 cd, .int .i64 ix]
    have HBa4 := Lib.hid (HBa3.out.alloc HBa3.out.size (.cells #[.int .i64 cd, .int .i64 ix] 30))
    replace hM := Lib.hid (hM.out.below (below_alloc1 (w2.alloc (.cells #[.slice Ax 0 cx] 24)) (.cells #[.int .i64 cd, .int .i64 ix] 30)))
    replace V0 := Lib.hid (V0.out.keep (Keeps.alloc (w2.alloc (.cells #[.slice Ax 0 cx] 24)) _ (.cells #[.int .i64 cd, .int .i64 ix] 30)))
    replace V2 := Lib.hid (V2.out.keep (Keeps.alloc (w2.alloc (.cells #[.slice Ax 0 cx] 24)) _ (.cells #[.int .i64 cd, .int .i64 ix] 30)))
    replace Vx := Lib.hid (Vx.out.keep (Keeps.alloc (w2.alloc (.cells #[.slice Ax 0 cx] 24)) _ (.cells #[.int .i64 cd, .int .i64 ix] 30)))
    go_wp2_with fail
    go_ret
    exact ⟨by simp, HBa4.out⟩
  · rw [he] at H9
    have H12b := Lib.hid (H12.out x hsx ht hh)
    have HS := Lib.hid (HST.out x hsx)
    clear HWC H12 HST he hs ht hsx hh
    generalize ((Ob.dig (Tr.treeO t) : Nat) : Int) = d at *
    go_wp2_with fail
    go_at_call 9
    with_reducible refine (H9.out _ hM.out V0.out V2.out).mono ?_
    rintro e w2 ⟨Ax, cx, rfl, hcx, hsx, hb2'⟩
    have HBm2 := Lib.hid (HBm1.out.trans (hb2'.mono HBm1.out.size))
    replace bx := bx.below hb2' bx.lt
    replace bt := bt.below hb2' bt.lt
    replace hM := Lib.hid (hM.out.below hb2')
    replace V0 := Lib.hid (V0.out.keep (free_below hb2'))
    replace V2 := Lib.hid (V2.out.keep (free_below hb2'))
    clear bx_l bx_l1 bx_l2 bx_0 bt_l bt_l1 bt_l2 bt_0
    have bx_l : w.heap.size < w2.heap.size := bx.lt
    have bx_l1 : w.heap.size < w2.heap.size + 1 := Nat.lt_succ_of_lt bx_l
    have bx_l2 : w.heap.size < w2.heap.size + 1 + 1 := Nat.lt_succ_of_lt bx_l1
    have bx_0 : w2.cell? ⟨w.heap.size, 0, none⟩ = some (.slice A s.length k) := (bx.cell 0).trans rfl
    have bt_l : w.heap.size + 1 < w2.heap.size := bt.lt
    have bt_l1 : w.heap.size + 1 < w2.heap.size + 1 := Nat.lt_succ_of_lt bt_l
    have bt_l2 : w.heap.size + 1 < w2.heap.size + 1 + 1 := Nat.lt_succ_of_lt bt_l1
    have bt_0 : w2.cell? ⟨w.heap.size + 1, 0, none⟩ = some (.slice A2 t.length k2) := (bt.cell 0).trans rfl
    have Vx := Lib.hid (hsx.mono (X' := Free) (fun _ h => h.elim))
    clear hsx
    clear hb2'
    try simp only at hcx
    replace bx := bx.alloc (.cells #[.slice Ax x.length cx] 24)
    replace bt := bt.alloc (.cells #[.slice Ax x.length cx] 24)
    have vx := Blk.new w2 24 #[.slice Ax x.length cx]
    have HBa3 := Lib.hid (HBm2.out.alloc HBm2.out.size (.cells #[.slice Ax x.length cx] 24))
    replace hM := Lib.hid (hM.out.below (below_alloc1 w2 (.cells #[.slice Ax x.length cx] 24)))
    replace V0 := Lib.hid (V0.out.keep (Keeps.alloc w2 _ (.cells #[.slice Ax x.length cx] 24)))
    replace V2 := Lib.hid (V2.out.keep (Keeps.alloc w2 _ (.cells #[.slice Ax x.length cx] 24)))
    replace Vx := Lib.hid (Vx.out.keep (Keeps.alloc w2 _ (.cells #[.slice Ax x.length cx] 24)))
    replace bx := bx.alloc (.cells #[.int .i64 0, .int .i64 0] 30)
    replace bt := bt.alloc (.cells #[.int .i64 0, .int .i64 0] 30)
    replace vx := vx.alloc (.cells #[.int .i64 0, .int .i64 0] 30)
    have vf : Blk ((w2.alloc (.cells #[.slice Ax x.length cx] 24)).alloc (.cells #[.int .i64 0, .int .i64 0] 30)) (w2.heap.size + 1) 30 #[.int .i64 0, .int .i64 0] := by simpa using Blk.new (w2.alloc (.cells #[.slice Ax x.length cx] 24)) 30 #[.int .i64 0, .int .i64 0]
    have HBa4 := Lib.hid (HBa3.out.alloc HBa3.out.size (.cells #[.int .i64 0, .int .i64 0] 30))
    replace hM := Lib.hid (hM.out.below (below_alloc1 (w2.alloc (.cells #[.slice Ax x.length cx] 24)) (.cells #[.int .i64 0, .int .i64 0] 30)))
    replace V0 := Lib.hid (V0.out.keep (Keeps.alloc (w2.alloc (.cells #[.slice Ax x.length cx] 24)) _ (.cells #[.int .i64 0, .int .i64 0] 30)))
    replace V2 := Lib.hid (V2.out.keep (Keeps.alloc (w2.alloc (.cells #[.slice Ax x.length cx] 24)) _ (.cells #[.int .i64 0, .int .i64 0] 30)))
    replace Vx := Lib.hid (Vx.out.keep (Keeps.alloc (w2.alloc (.cells #[.slice Ax x.length cx] 24)) _ (.cells #[.int .i64 0, .int .i64 0] 30)))
    go_wp2_with fail
    go_at_call 9
    with_reducible refine (H12b.out _ _ _ hM.out Vx.out V2.out).mono ?_
    rintro e w3 ⟨Ay, cy, rfl, hcy, hsy, hb3'⟩
    have HBm3 := Lib.hid (HBa4.out.trans (hb3'.mono HBa4.out.size))
    replace bx := bx.below hb3' bx.lt
    replace bt := bt.below hb3' bt.lt
    replace vx := vx.below hb3' vx.lt
    replace vf := vf.below hb3' vf.lt
    replace hM := Lib.hid (hM.out.below hb3')
    replace V0 := Lib.hid (V0.out.keep (free_below hb3'))
    replace V2 := Lib.hid (V2.out.keep (free_below hb3'))
    replace Vx := Lib.hid (Vx.out.keep (free_below hb3'))
    clear bx_l bx_l1 bx_l2 bx_0 bt_l bt_l1 bt_l2 bt_0
    have bx_l : w.heap.size < w3.heap.size := bx.lt
    have bx_l1 : w.heap.size < w3.heap.size + 1 := Nat.lt_succ_of_lt bx_l
    have bx_l2 : w.heap.size < w3.heap.size + 1 + 1 := Nat.lt_succ_of_lt bx_l1
    have bx_0 : w3.cell? ⟨w.heap.size, 0, none⟩ = some (.slice A s.length k) := (bx.cell 0).trans rfl
    have bt_l : w.heap.size + 1 < w3.heap.size := bt.lt
    have bt_l1 : w.heap.size + 1 < w3.heap.size + 1 := Nat.lt_succ_of_lt bt_l
    have bt_l2 : w.heap.size + 1 < w3.heap.size + 1 + 1 := Nat.lt_succ_of_lt bt_l1
    have bt_0 : w3.cell? ⟨w.heap.size + 1, 0, none⟩ = some (.slice A2 t.length k2) := (bt.cell 0).trans rfl
    have vx_l : w2.heap.size < w3.heap.size := vx.lt
    have vx_l1 : w2.heap.size < w3.heap.size + 1 := Nat.lt_succ_of_lt vx_l
    have vx_l2 : w2.heap.size < w3.heap.size + 1 + 1 := Nat.lt_succ_of_lt vx_l1
    have vx_0 : w3.cell? ⟨w2.heap.size, 0, none⟩ = some (.slice Ax x.length cx) := (vx.cell 0).trans rfl
    have vf_l : w2.heap.size + 1 < w3.heap.size := vf.lt
    have vf_l1 : w2.heap.size + 1 < w3.heap.size + 1 := Nat.lt_succ_of_lt vf_l
    have vf_l2 : w2.heap.size + 1 < w3.heap.size + 1 + 1 := Nat.lt_succ_of_lt vf_l1
    have vf_0 : w3.cell? ⟨w2.heap.size + 1, 0, none⟩ = some (.int .i64 0) := (vf.cell 0).trans rfl
    have vf_1 : w3.cell? ⟨w2.heap.size + 1, 1, none⟩ = some (.int .i64 0) := (vf.cell 1).trans rfl
    have Vy := Lib.hid (hsy.mono (X' := Free) (fun _ h => h.elim))
    clear hsy
    clear hb3'
    try simp only at hcy
    have hdd : (d == d) = true := by simp
    replace bx := bx.alloc (.cells #[.slice Ay x.length cy] 24)
    replace bt := bt.alloc (.cells #[.slice Ay x.length cy] 24)
    replace vx := vx.alloc (.cells #[.slice Ay x.length cy] 24)
    replace vf := vf.alloc (.cells #[.slice Ay x.length cy] 24)
    have vy := Blk.new w3 24 #[.slice Ay x.length cy]
    have HBa5 := Lib.hid (HBm3.out.alloc HBm3.out.size (.cells #[.slice Ay x.length cy] 24))
    replace hM := Lib.hid (hM.out.below (below_alloc1 w3 (.cells #[.slice Ay x.length cy] 24)))
    replace V0 := Lib.hid (V0.out.keep (Keeps.alloc w3 _ (.cells #[.slice Ay x.length cy] 24)))
    replace V2 := Lib.hid (V2.out.keep (Keeps.alloc w3 _ (.cells #[.slice Ay x.length cy] 24)))
    replace Vx := Lib.hid (Vx.out.keep (Keeps.alloc w3 _ (.cells #[.slice Ay x.length cy] 24)))
    replace Vy := Lib.hid (Vy.out.keep (Keeps.alloc w3 _ (.cells #[.slice Ay x.length cy] 24)))
    replace bx := bx.alloc (.cells #[.int .i64 0, .int .i64 0] 30)
    replace bt := bt.alloc (.cells #[.int .i64 0, .int .i64 0] 30)
    replace vx := vx.alloc (.cells #[.int .i64 0, .int .i64 0] 30)
    replace vf := vf.alloc (.cells #[.int .i64 0, .int .i64 0] 30)
    replace vy := vy.alloc (.cells #[.int .i64 0, .int .i64 0] 30)
    have vg : Blk ((w3.alloc (.cells #[.slice Ay x.length cy] 24)).alloc (.cells #[.int .i64 0, .int .i64 0] 30)) (w3.heap.size + 1) 30 #[.int .i64 0, .int .i64 0] := by simpa using Blk.new (w3.alloc (.cells #[.slice Ay x.length cy] 24)) 30 #[.int .i64 0, .int .i64 0]
    have HBa6 := Lib.hid (HBa5.out.alloc HBa5.out.size (.cells #[.int .i64 0, .int .i64 0] 30))
    replace hM := Lib.hid (hM.out.below (below_alloc1 (w3.alloc (.cells #[.slice Ay x.length cy] 24)) (.cells #[.int .i64 0, .int .i64 0] 30)))
    replace V0 := Lib.hid (V0.out.keep (Keeps.alloc (w3.alloc (.cells #[.slice Ay x.length cy] 24)) _ (.cells #[.int .i64 0, .int .i64 0] 30)))
    replace V2 := Lib.hid (V2.out.keep (Keeps.alloc (w3.alloc (.cells #[.slice Ay x.length cy] 24)) _ (.cells #[.int .i64 0, .int .i64 0] 30)))
    replace Vx := Lib.hid (Vx.out.keep (Keeps.alloc (w3.alloc (.cells #[.slice Ay x.length cy] 24)) _ (.cells #[.int .i64 0, .int .i64 0] 30)))
    replace Vy := Lib.hid (Vy.out.keep (Keeps.alloc (w3.alloc (.cells #[.slice Ay x.length cy] 24)) _ (.cells #[.int .i64 0, .int .i64 0] 30)))
    go_wp2_with fail
    go_at_call 11
    with_reducible refine (HS.out _ _ _ _ _ Vx.out Vy.out).mono ?_
    rintro e w4 ⟨rfl, hb4'⟩
    have HBm4 := Lib.hid (HBa6.out.trans (hb4'.mono HBa6.out.size))
    replace bx := bx.below hb4' bx.lt
    replace bt := bt.below hb4' bt.lt
    replace vx := vx.below hb4' vx.lt
    replace vf := vf.below hb4' vf.lt
    replace vy := vy.below hb4' vy.lt
    replace vg := vg.below hb4' vg.lt
    replace hM := Lib.hid (hM.out.below hb4')
    replace V0 := Lib.hid (V0.out.keep (free_below hb4'))
    replace V2 := Lib.hid (V2.out.keep (free_below hb4'))
    replace Vx := Lib.hid (Vx.out.keep (free_below hb4'))
    replace Vy := Lib.hid (Vy.out.keep (free_below hb4'))
    clear bx_l bx_l1 bx_l2 bx_0 bt_l bt_l1 bt_l2 bt_0 vx_l vx_l1 vx_l2 vx_0 vf_l vf_l1 vf_l2 vf_0 vf_1
    have bx_l : w.heap.size < w4.heap.size := bx.lt
    have bx_l1 : w.heap.size < w4.heap.size + 1 := Nat.lt_succ_of_lt bx_l
    have bx_l2 : w.heap.size < w4.heap.size + 1 + 1 := Nat.lt_succ_of_lt bx_l1
    have bx_0 : w4.cell? ⟨w.heap.size, 0, none⟩ = some (.slice A s.length k) := (bx.cell 0).trans rfl
    have bt_l : w.heap.size + 1 < w4.heap.size := bt.lt
    have bt_l1 : w.heap.size + 1 < w4.heap.size + 1 := Nat.lt_succ_of_lt bt_l
    have bt_l2 : w.heap.size + 1 < w4.heap.size + 1 + 1 := Nat.lt_succ_of_lt bt_l1
    have bt_0 : w4.cell? ⟨w.heap.size + 1, 0, none⟩ = some (.slice A2 t.length k2) := (bt.cell 0).trans rfl
    have vx_l : w2.heap.size < w4.heap.size := vx.lt
    have vx_l1 : w2.heap.size < w4.heap.size + 1 := Nat.lt_succ_of_lt vx_l
    have vx_l2 : w2.heap.size < w4.heap.size + 1 + 1 := Nat.lt_succ_of_lt vx_l1
    have vx_0 : w4.cell? ⟨w2.heap.size, 0, none⟩ = some (.slice Ax x.length cx) := (vx.cell 0).trans rfl
    have vf_l : w2.heap.size + 1 < w4.heap.size := vf.lt
    have vf_l1 : w2.heap.size + 1 < w4.heap.size + 1 := Nat.lt_succ_of_lt vf_l
    have vf_l2 : w2.heap.size + 1 < w4.heap.size + 1 + 1 := Nat.lt_succ_of_lt vf_l1
    have vf_0 : w4.cell? ⟨w2.heap.size + 1, 0, none⟩ = some (.int .i64 0) := (vf.cell 0).trans rfl
    have vf_1 : w4.cell? ⟨w2.heap.size + 1, 1, none⟩ = some (.int .i64 0) := (vf.cell 1).trans rfl
    have vy_l : w3.heap.size < w4.heap.size := vy.lt
    have vy_l1 : w3.heap.size < w4.heap.size + 1 := Nat.lt_succ_of_lt vy_l
    have vy_l2 : w3.heap.size < w4.heap.size + 1 + 1 := Nat.lt_succ_of_lt vy_l1
    have vy_0 : w4.cell? ⟨w3.heap.size, 0, none⟩ = some (.slice Ay x.length cy) := (vy.cell 0).trans rfl
    have vg_l : w3.heap.size + 1 < w4.heap.size := vg.lt
    have vg_l1 : w3.heap.size + 1 < w4.heap.size + 1 := Nat.lt_succ_of_lt vg_l
    have vg_l2 : w3.heap.size + 1 < w4.heap.size + 1 + 1 := Nat.lt_succ_of_lt vg_l1
    have vg_0 : w4.cell? ⟨w3.heap.size + 1, 0, none⟩ = some (.int .i64 0) := (vg.cell 0).trans rfl
    have vg_1 : w4.cell? ⟨w3.heap.size + 1, 1, none⟩ = some (.int .i64 0) := (vg.cell 1).trans rfl
    clear hb4'
    go_wp2_with fail
    go_ret
    exact ⟨rfl, HBm4.out⟩
end Go.Proofs.YtjljknocnebnaaaDoor
namespace Go.V
open Go.RowKit Go.ChangeShapes Go.WideShapes Go.ChangeAt Go.Deep

section
variable {H : Type} {enc : TypeId × Value → H} {P : Program} {w : World} {base : Nat} {spare : Nat → Bool} {held : Bool}
theorem weights_all (P : Program) (e : TypeId) (n : Nat) : ∀ (l : List (DataW H)) (d : DataW H), d ∈ l → n ∈ d.weights P e → n ∈ DataW.weightsAll P e l := by
  intro l
  induction l with
  | nil => intro d hd; simp at hd
  | cons d0 l ih =>
    intro d hd hnd
    simp only [DataW.weightsAll, List.mem_append]
    rcases List.mem_cons.1 hd with rfl | hd
    · exact .inl hnd
    · exact .inr (ih d hd hnd)
theorem rows_of1 {α : Type} {R : α → List Value → Prop} (V : Nat → Value) : ∀ (n : Nat), (∀ i, i < n → ∃ a : α, R a [V i]) → ∃ l : List α, l.length = n ∧ RowsR R l ((List.range n).map V)
  | 0, _ => ⟨[], rfl, by simp [RowsR]⟩
  | n + 1, h => by
    obtain ⟨l, hl, hr⟩ := rows_of1 V n (fun i hi => h i (by omega))
    obtain ⟨a, ha⟩ := h n (by omega)
    refine ⟨l ++ [a], by simp [hl], ?_⟩
    rw [List.range_succ, List.map_append]
    exact hr.append (RowsR.one ha)
theorem open_rows1 {α : Type} {R : α → List Value → Prop} {t e : TypeId} {fuel : Nat} {cs : List Value} {x : DataW H × List MemPlace} (ht : P.underlying t = some (.slice e)) (hC : P.cellsOf e = 1)
    (h : DataW.trod enc P w base spare held fuel t cs = some x) (hz : ∀ n ∈ x.1.weights P t, n ≤ reachBytes)
    (hR : ∀ (v : Value) (n : Nat) (y : DataW H × List MemPlace), DataW.trod enc P w base spare held n e [v] = some y → (∀ k ∈ y.1.weights P e, k ≤ reachBytes) → ∃ a, R a [v]) :
    ∃ A c l vs, cs = [.slice A l.length c] ∧ l.length ≤ c ∧ c ≤ maxLen ∧ l.length * P.bytesOf e ≤ reachBytes ∧ SV w w.heap.size A vs ∧ RowsR R l vs := by
  rcases open_slice1 ht hC h with ⟨rfl, _⟩ | ⟨a, len, cap, m, n, V, D, Pl, rfl, hb, hl, hm, hmm, hx, hi⟩
  · exact ⟨none, 0, [], [], rfl, Nat.le_refl _, by simp [maxLen], by simp, .inl rfl, rfl⟩
  · have hlm : len ≤ m := by rw [hmm]; split <;> omega
    have hbytes : len * P.bytesOf e ≤ reachBytes := by
      have := hz ((((List.range len).map D).length + ((List.range (m - len)).map fun j => D (len + j)).length) * P.bytesOf e) (by rw [hx]; simp [DataW.weights, ht])
      refine Nat.le_trans (Nat.mul_le_mul_right _ ?_) this
      simp
    have hzD : ∀ i, i < len → ∀ n ∈ (D i).weights P e, n ≤ reachBytes := fun i hil n hn => by
      refine hz n ?_
      rw [hx]
      simp only [DataW.weights, ht, List.mem_cons, List.mem_append]
      exact .inr (.inl (weights_all P e n _ (D i) (List.mem_map.2 ⟨i, List.mem_range.2 hil, rfl⟩) hn))
    by_cases hl0 : len = 0
    · subst hl0
      exact ⟨some a, cap, [], [], rfl, Nat.zero_le _, hm, by simp, .inl rfl, rfl⟩
    · have hc0 := (hi 0 (by omega)).1
      have hc00 : w.cell? a = some (V 0) := by simpa [Addr.add] using hc0
      obtain ⟨b, off, rfl⟩ := addr_none hc00
      obtain ⟨l, hll, hrows⟩ := rows_of1 (R := R) V len (fun i hil => hR (V i) n _ (hi i (by omega)).2 (hzD i hil))
      subst hll
      refine ⟨some ⟨b, off, none⟩, cap, l, _, rfl, hl, hm, hbytes, .inr ⟨b, off, rfl, World.block_lt_of_cell? w _ hc00, fun j u hu => ?_⟩, hrows⟩
      simp only [List.getElem?_map, Option.map_eq_some_iff] at hu
      obtain ⟨z, hz1, rfl⟩ := hu
      obtain ⟨hj1, hj2⟩ := List.getElem?_eq_some_iff.1 hz1
      simp at hj1 hj2
      subst hj2
      have := (hi j (by omega)).1
      rw [add_none] at this
      exact this
end
end Go.V
namespace Go.V
open Go.RowKit Go.ChangeShapes Go.WideShapes Go.ChangeAt Go.Deep

section
variable {H : Type} {enc : TypeId × Value → H} {P : Program} {w : World} {base : Nat} {spare : Nat → Bool} {held : Bool}
/-- A slice of elements of k cells, element by element. -/
theorem open_rowsG {α : Type} {R : α → List Value → Prop} {t e : TypeId} {k : Nat} {fuel : Nat} {cs : List Value} {x : DataW H × List MemPlace} (ht : P.underlying t = some (.slice e))
    (hC : P.cellsOf e = k) (h0 : 0 < k) (h : DataW.trod enc P w base spare held fuel t cs = some x) (hz : ∀ n ∈ x.1.weights P t, n ≤ reachBytes)
    (hR : ∀ (cs' : List Value) (n : Nat) (y : DataW H × List MemPlace), cs'.length = k → DataW.trod enc P w base spare held n e cs' = some y → (∀ m ∈ y.1.weights P e, m ≤ reachBytes) → ∃ a, R a cs') :
    ∃ A c l vs, cs = [.slice A l.length c] ∧ l.length ≤ c ∧ c ≤ maxLen ∧ l.length * P.bytesOf e ≤ reachBytes ∧ SV w w.heap.size A vs ∧ RowsR R l vs := by
  rcases open_slice ht h with ⟨rfl, _⟩ | ⟨a, len, cap, m, n, D, Pl, rfl, hb, hl, hm, hmm, hx, hi⟩
  · exact ⟨none, 0, [], [], rfl, Nat.le_refl _, by simp [maxLen], by simp, .inl rfl, rfl⟩
  · have hlm : len ≤ m := by rw [hmm]; split <;> omega
    rw [hC] at hx hi
    have hbytes : len * P.bytesOf e ≤ reachBytes := by
      have := hz ((((List.range len).map D).length + ((List.range (m - len)).map fun j => D (len + j)).length) * P.bytesOf e) (by rw [hx]; simp [DataW.weights, ht])
      refine Nat.le_trans (Nat.mul_le_mul_right _ ?_) this
      simp
    have hzD : ∀ i, i < len → ∀ n ∈ (D i).weights P e, n ≤ reachBytes := fun i hil n hn => by
      refine hz n ?_
      rw [hx]
      simp only [DataW.weights, ht, List.mem_cons, List.mem_append]
      exact .inr (.inl (weights_all P e n _ (D i) (List.mem_map.2 ⟨i, List.mem_range.2 hil, rfl⟩) hn))
    by_cases hl0 : len = 0
    · subst hl0
      exact ⟨some a, cap, [], [], rfl, Nat.zero_le _, hm, by simp, .inl rfl, rfl⟩
    · obtain ⟨b, off, spot⟩ := a
      obtain ⟨cs0, hc0, _⟩ := hi 0 (by omega)
      obtain ⟨_, hcl0, hat0⟩ := World.cells?_some hc0
      have h00 := hat0 0 h0
      have hspot : spot = none := by
        have := World.cell?_spot (h00.trans (List.getElem?_eq_getElem (by omega)))
        simpa [Addr.add] using this
      subst hspot
      let cells : Nat → Value := fun j => (w.cell? ⟨b, off + j, none⟩).getD undef
      have hcells : ∀ i, i < len → ∀ j, j < k → w.cell? ⟨b, off + (i * k + j), none⟩ = some (cells (i * k + j)) := fun i hil j hj => by
        obtain ⟨cs', hc, _⟩ := hi i (by omega)
        obtain ⟨_, hcl, hat⟩ := World.cells?_some hc
        have := hat j hj
        rw [add_none, add_none, List.getElem?_eq_getElem (by omega), Nat.add_assoc] at this
        simp only [cells]
        rw [this]; rfl
      obtain ⟨l, hll, hrows⟩ := rows_of (R := R) k cells len (fun i hil => by
        obtain ⟨cs', hc, ht'⟩ := hi i (by omega)
        obtain ⟨_, hcl, hat⟩ := World.cells?_some hc
        have e1 : cs' = (List.range k).map fun j => cells (i * k + j) := by
          apply List.ext_getElem
          · simp [hcl]
          · intro j h1 h2
            have hj : j < k := by omega
            have h3 := hat j hj
            rw [add_none, add_none, List.getElem?_eq_getElem (by omega), Nat.add_assoc] at h3
            have h4 := hcells i hil j hj
            rw [h3] at h4
            injection h4 with h4
            simp [h4]
        rw [← e1]
        exact hR cs' n _ hcl ht' (hzD i hil))
      subst hll
      refine ⟨some ⟨b, off, none⟩, cap, l, _, rfl, hl, hm, hbytes, .inr ⟨b, off, rfl, ?_, fun j u hu => ?_⟩, hrows⟩
      · have := hcells 0 (by omega) 0 h0
        exact World.block_lt_of_cell? w _ this
      · simp only [List.getElem?_map, Option.map_eq_some_iff, List.getElem?_eq_some_iff] at hu
        obtain ⟨j', ⟨hj1, hj2⟩, rfl⟩ := hu
        simp at hj1 hj2
        subst hj2
        have hdiv : j / k < l.length := (Nat.div_lt_iff_lt_mul h0).2 hj1
        have hmod : j % k < k := Nat.mod_lt _ h0
        have := hcells (j / k) hdiv (j % k) hmod
        have e : j / k * k + j % k = j := by rw [Nat.mul_comm]; exact Nat.div_add_mod j k
        rw [e] at this
        exact this
/-- The weights of a struct's field. -/
theorem weights_field {fs : Array Field} {t : TypeId} (he : P.underlying t = some (.struct fs)) {xs : List (DataW H)} {j : Nat} {f : Field} {y : DataW H} (hj : fs[j]? = some f) (hy : xs[j]? = some y)
    (hz : ∀ n ∈ (DataW.agg xs).weights P t, n ≤ reachBytes) : ∀ n ∈ y.weights P f.type, n ≤ reachBytes := fun n hn => hz n (by
  simp only [DataW.weights, he]
  exact DataW.weights_mem_each (j := j) (t := f.type) (d := y) (by simp [List.getElem?_map, Array.getElem?_toList, hj]) hy n hn)
/-- What the reach says of a []int. -/
theorem ints_len {t e : TypeId} {fuel : Nat} {A : Option Addr} {n c : Nat} {x : DataW H × List MemPlace} (ht : P.underlying t = some (.slice e)) (he : P.underlying e = some (.int .i64)) (hce : P.cellsOf e = 1) (hbe : P.bytesOf e = 8)
    (h : DataW.trod enc P w base spare held fuel t [.slice A n c] = some x) (hz : ∀ n ∈ x.1.weights P t, n ≤ reachBytes) : n * 8 ≤ reachBytes := by
  rcases open_ints ht he hce h with ⟨hcs, _⟩ | ⟨a, len, cap, zs, hcs, _, hl, hm, hz', hx, hcell, hwz⟩
  · simp at hcs; omega
  · simp at hcs
    obtain ⟨rfl, rfl, rfl⟩ := hcs
    have hlz : n ≤ zs.length := by
      have := hz'
      split at this <;> omega
    have := hz (((lits (H := H) .i64 (zs.take n)).length + (lits (H := H) .i64 (zs.drop n)).length) * P.bytesOf e) (by rw [hx]; simp [DataW.weights, ht])
    rw [hbe] at this
    simp [lits] at this
    omega
end
end Go.V
