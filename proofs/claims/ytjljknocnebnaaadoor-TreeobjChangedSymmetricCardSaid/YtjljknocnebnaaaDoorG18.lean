/-
  TreeobjChangedSymmetric: the law's walk.
-/
import Derived.Test.YtjljknocnebnaaaDoorG12
import Derived.Test.YtjljknocnebnaaaDoorG17
namespace Tr
open Ob (O S StOk Sorted dig)
theorem VOk.srt {t : List F} (h : VOk t) : Srt (t.map F.path) := srt_of fun i hi => by
  have hi' : i + 1 < t.length := by simpa using hi
  have h1 := h.lt i hi'
  have e : ∀ j, j < t.length → at_ (t.map F.path) j = (it t j).path := fun j hj => by
    unfold at_ it; rw [List.getElem?_map, List.getElem?_eq_getElem hj]; rfl
  rw [e i (by omega), e (i + 1) hi']; exact h1
theorem has_more {x y : List S} {os : List O} (h : Has x os) (hm : ∀ z ∈ x, z ∈ y) : Has y os := fun o ho => ⟨hm _ (h o ho).1, (h o ho).2⟩
theorem chR_tree {y : List S} {t u : List F} (hy : StOk y) (ht : VOk t) (hu : VOk u) (h1 : Has y (objs t)) (h2 : Has y (objs u)) :
    chR y ((dig (treeO t) : Nat) : Int) ((dig (treeO u) : Nat) : Int) = (chF (t.map F.path) (links t) (u.map F.path) (links u), (0, 0)) := by
  have e1 := ptF_tree hy ht h1 (-1)
  have e2 := ptF_tree hy hu h2 (-2)
  rw [chR_c (by rw [e1]) (by rw [e2]), e1, e2]
theorem ch_same {y : List S} {t u : List F} (hy : StOk y) (ht : VOk t) (hu : VOk u) (h1 : Has y (objs t)) (h2 : Has y (objs u)) :
    chF (t.map F.path) (links t) (u.map F.path) (links u) = [] ↔ ((dig (treeO t) : Nat) : Int) = ((dig (treeO u) : Nat) : Int) := by
  rw [ch_nil ht.srt hu.srt (by simp [links]) (by simp [links])]
  constructor
  · rintro ⟨e1, e2⟩
    unfold treeO
    rw [e1, e2]
  · intro e
    have m1 := (h1 (treeO t) (by simp [objs])).1
    have m2 := (h2 (treeO u) (by simp [objs])).1
    have := (show Sorted y from hy.lt).uniq m1 m2 e
    have he : treeO t = treeO u := congrArg (fun z : S => z.ob) this
    have p1 := prF_tree ht
    have p2 := prF_tree hu
    rw [he, p2] at p1
    injection p1 with p1 _
    injection p1 with p3 p4
    exact ⟨p3.symm, p4.symm⟩
theorem chF_len (p : List Nm) (x : List Int) (q : List Nm) (y : List Int) : (chF p x q y).length ≤ p.length + q.length := by
  rw [ch_oL]
  exact Nat.le_trans (oL_len _ _ _ _) (Nat.add_le_add_right (aL_len _ _ _ _ _) _)
end Tr
namespace Go.Proofs.YtjljknocnebnaaaDoor
open Go.RowKit Go.V Go.Shelf Go.Lib
set_option linter.unusedVariables false

set_option maxRecDepth 100000 in
set_option maxHeartbeats 16000000 in
theorem law7_any (w : World) (hm : Mx w) (hm2 : M2 w) (A : Option Addr) (k : Nat) (s : List Ob.S) (hv : StV w Free A s) (hl : s.length * 64 ≤ 140737488351232) (hk : s.length ≤ k)
    (A2 : Option Addr) (k2 : Nat) (t : List Tr.F) (hv2 : VfV w Free A2 t) (hl2 : t.length * 40 ≤ 140737488351232) (hk2 : t.length ≤ k2)
    (A3 : Option Addr) (k3 : Nat) (u : List Tr.F) (hv3 : VfV w Free A3 u) (hl3 : u.length * 40 ≤ 140737488351232) (hk3 : u.length ≤ k3) :
    Calls Tryd.prog 7 #[.agg #[.slice A s.length k], .agg #[.slice A2 t.length k2], .agg #[.slice A3 u.length k3]] w fun e w' => e = .returned (.bool true) ∧ Below w.heap.size w w' := by
  have hM := Lib.hid (show MM w from ⟨hm, hm2⟩)
  have V0 := Lib.hid hv
  have V2 := Lib.hid hv2
  have V3 := Lib.hid hv3
  have HWC := Lib.hid (Tr.wrF_cases s t)
  have HWD := Lib.hid (fun x : List Ob.S => Tr.wrF_cases x u)
  have H9 := Lib.hid (fun (w1 : World) (hm : MM w1) (hv : StV w1 Free A s) (hv2 : VfV w1 Free A2 t) => write_any w1 hm.1 A k s hv (by omega) A2 k2 t hv2 (by omega) hk2)
  have H90 : Hid (∀ (w1 : World) (Ax : Option Addr) (cx : Nat), MM w1 → StV w1 Free Ax [] → VfV w1 Free A3 u → Calls Tryd.prog 9 #[.agg #[.slice Ax 0 cx], .agg #[.slice A3 u.length k3]] w1 (WrPost w1 (Tr.wrF [] u))) := Lib.hid (fun w1 Ax cx hm hv hv3 => write_any w1 hm.1 Ax cx [] hv (by simp) A3 k3 u hv3 (by omega) hk3)
  have H91 := Lib.hid (fun (x : List Ob.S) (hx : x.length ≤ 40) (w1 : World) (Ax : Option Addr) (cx : Nat) (hm : MM w1) (hv : StV w1 Free Ax x) (hv3 : VfV w1 Free A3 u) => write_any w1 hm.1 Ax cx x hv (by omega) A3 k3 u hv3 (by omega) hk3)
  have H18 := Lib.hid (fun (y : List Ob.S) (hy : y.length ≤ 40) (a b : Int) (w1 : World) (Ay : Option Addr) (cy : Nat) (hm : MM w1) (hv : StV w1 Free Ay y) => changed_any w1 hm.1 hm.2 Ay cy y a b hv (by omega))
  clear hm hm2 hv hv2 hv3
  have HB0 := Lib.hid (Below.refl w.heap.size w)
  go_enter Tryd.func7, Tryd.ntmps7
  have bx := Blk.new w 24 #[.slice A s.length k]
  have HBa1 := Lib.hid (HB0.out.alloc HB0.out.size (.cells #[.slice A s.length k] 24))
  replace hM := Lib.hid (hM.out.below (below_alloc1 w (.cells #[.slice A s.length k] 24)))
  replace V0 := Lib.hid (V0.out.keep (Keeps.alloc w _ (.cells #[.slice A s.length k] 24)))
  replace V2 := Lib.hid (V2.out.keep (Keeps.alloc w _ (.cells #[.slice A s.length k] 24)))
  replace V3 := Lib.hid (V3.out.keep (Keeps.alloc w _ (.cells #[.slice A s.length k] 24)))
  replace bx := bx.alloc (.cells #[.slice A2 t.length k2] 27)
  have bt : Blk ((w.alloc (.cells #[.slice A s.length k] 24)).alloc (.cells #[.slice A2 t.length k2] 27)) (w.heap.size + 1) 27 #[.slice A2 t.length k2] := by simpa using Blk.new (w.alloc (.cells #[.slice A s.length k] 24)) 27 #[.slice A2 t.length k2]
  have HBa2 := Lib.hid (HBa1.out.alloc HBa1.out.size (.cells #[.slice A2 t.length k2] 27))
  replace hM := Lib.hid (hM.out.below (below_alloc1 (w.alloc (.cells #[.slice A s.length k] 24)) (.cells #[.slice A2 t.length k2] 27)))
  replace V0 := Lib.hid (V0.out.keep (Keeps.alloc (w.alloc (.cells #[.slice A s.length k] 24)) _ (.cells #[.slice A2 t.length k2] 27)))
  replace V2 := Lib.hid (V2.out.keep (Keeps.alloc (w.alloc (.cells #[.slice A s.length k] 24)) _ (.cells #[.slice A2 t.length k2] 27)))
  replace V3 := Lib.hid (V3.out.keep (Keeps.alloc (w.alloc (.cells #[.slice A s.length k] 24)) _ (.cells #[.slice A2 t.length k2] 27)))
  replace bx := bx.alloc (.cells #[.slice A3 u.length k3] 27)
  replace bt := bt.alloc (.cells #[.slice A3 u.length k3] 27)
  have bu : Blk (((w.alloc (.cells #[.slice A s.length k] 24)).alloc (.cells #[.slice A2 t.length k2] 27)).alloc (.cells #[.slice A3 u.length k3] 27)) (w.heap.size + 2) 27 #[.slice A3 u.length k3] := by simpa using Blk.new ((w.alloc (.cells #[.slice A s.length k] 24)).alloc (.cells #[.slice A2 t.length k2] 27)) 27 #[.slice A3 u.length k3]
  have HBa3 := Lib.hid (HBa2.out.alloc HBa2.out.size (.cells #[.slice A3 u.length k3] 27))
  replace hM := Lib.hid (hM.out.below (below_alloc1 ((w.alloc (.cells #[.slice A s.length k] 24)).alloc (.cells #[.slice A2 t.length k2] 27)) (.cells #[.slice A3 u.length k3] 27)))
  replace V0 := Lib.hid (V0.out.keep (Keeps.alloc ((w.alloc (.cells #[.slice A s.length k] 24)).alloc (.cells #[.slice A2 t.length k2] 27)) _ (.cells #[.slice A3 u.length k3] 27)))
  replace V2 := Lib.hid (V2.out.keep (Keeps.alloc ((w.alloc (.cells #[.slice A s.length k] 24)).alloc (.cells #[.slice A2 t.length k2] 27)) _ (.cells #[.slice A3 u.length k3] 27)))
  replace V3 := Lib.hid (V3.out.keep (Keeps.alloc ((w.alloc (.cells #[.slice A s.length k] 24)).alloc (.cells #[.slice A2 t.length k2] 27)) _ (.cells #[.slice A3 u.length k3] 27)))
  go_wp2_with fail
  go_at_call 8
  with_reducible refine (texample_any _ hM.out).mono ?_
  rintro e w1 ⟨rfl, hb1'⟩
  have HBm1 := Lib.hid (HBa3.out.trans (hb1'.mono HBa3.out.size))
  replace bx := bx.below hb1' bx.lt
  replace bt := bt.below hb1' bt.lt
  replace bu := bu.below hb1' bu.lt
  replace hM := Lib.hid (hM.out.below hb1')
  replace V0 := Lib.hid (V0.out.keep (free_below hb1'))
  replace V2 := Lib.hid (V2.out.keep (free_below hb1'))
  replace V3 := Lib.hid (V3.out.keep (free_below hb1'))
  have bx_l : w.heap.size < w1.heap.size := bx.lt
  have bx_l1 : w.heap.size < w1.heap.size + 1 := Nat.lt_succ_of_lt bx_l
  have bx_l2 : w.heap.size < w1.heap.size + 1 + 1 := Nat.lt_succ_of_lt bx_l1
  have bx_0 : w1.cell? ⟨w.heap.size, 0, none⟩ = some (.slice A s.length k) := (bx.cell 0).trans rfl
  have bt_l : w.heap.size + 1 < w1.heap.size := bt.lt
  have bt_l1 : w.heap.size + 1 < w1.heap.size + 1 := Nat.lt_succ_of_lt bt_l
  have bt_l2 : w.heap.size + 1 < w1.heap.size + 1 + 1 := Nat.lt_succ_of_lt bt_l1
  have bt_0 : w1.cell? ⟨w.heap.size + 1, 0, none⟩ = some (.slice A2 t.length k2) := (bt.cell 0).trans rfl
  have bu_l : w.heap.size + 2 < w1.heap.size := bu.lt
  have bu_l1 : w.heap.size + 2 < w1.heap.size + 1 := Nat.lt_succ_of_lt bu_l
  have bu_l2 : w.heap.size + 2 < w1.heap.size + 1 + 1 := Nat.lt_succ_of_lt bu_l1
  have bu_0 : w1.cell? ⟨w.heap.size + 2, 0, none⟩ = some (.slice A3 u.length k3) := (bu.cell 0).trans rfl
  clear hb1'
  rcases HWC.out with ⟨hc, hx⟩ | ⟨x, he, hs, ht, hsx, _, hh, _⟩
  · clear HWC HWD H91 H18
    generalize Tr.wrF s t = q at *
    generalize Tr.wrF [] u = q2 at *
    obtain ⟨⟨us, d⟩, cd, ix⟩ := q
    obtain ⟨⟨ys, d2⟩, cd2, ix2⟩ := q2
    simp only at hc hx
    injection hx with e1 e2
    subst e1
    subst e2
    have hx1 : (cd == 0) = false := by simpa using hc
    have hx2 : (cd != 0) = true := by simpa using hc
    clear hc
    go_wp2_with fail
    go_at_call 9
    with_reducible refine (H9.out _ hM.out V0.out V2.out).mono ?_
    rintro e w2 ⟨Ax, cx, rfl, hcx, hsx, hb2'⟩
    have HBm2 := Lib.hid (HBm1.out.trans (hb2'.mono HBm1.out.size))
    replace bx := bx.below hb2' bx.lt
    replace bt := bt.below hb2' bt.lt
    replace bu := bu.below hb2' bu.lt
    replace hM := Lib.hid (hM.out.below hb2')
    replace V0 := Lib.hid (V0.out.keep (free_below hb2'))
    replace V2 := Lib.hid (V2.out.keep (free_below hb2'))
    replace V3 := Lib.hid (V3.out.keep (free_below hb2'))
    clear bx_l bx_l1 bx_l2 bx_0 bt_l bt_l1 bt_l2 bt_0 bu_l bu_l1 bu_l2 bu_0
    have bx_l : w.heap.size < w2.heap.size := bx.lt
    have bx_l1 : w.heap.size < w2.heap.size + 1 := Nat.lt_succ_of_lt bx_l
    have bx_l2 : w.heap.size < w2.heap.size + 1 + 1 := Nat.lt_succ_of_lt bx_l1
    have bx_0 : w2.cell? ⟨w.heap.size, 0, none⟩ = some (.slice A s.length k) := (bx.cell 0).trans rfl
    have bt_l : w.heap.size + 1 < w2.heap.size := bt.lt
    have bt_l1 : w.heap.size + 1 < w2.heap.size + 1 := Nat.lt_succ_of_lt bt_l
    have bt_l2 : w.heap.size + 1 < w2.heap.size + 1 + 1 := Nat.lt_succ_of_lt bt_l1
    have bt_0 : w2.cell? ⟨w.heap.size + 1, 0, none⟩ = some (.slice A2 t.length k2) := (bt.cell 0).trans rfl
    have bu_l : w.heap.size + 2 < w2.heap.size := bu.lt
    have bu_l1 : w.heap.size + 2 < w2.heap.size + 1 := Nat.lt_succ_of_lt bu_l
    have bu_l2 : w.heap.size + 2 < w2.heap.size + 1 + 1 := Nat.lt_succ_of_lt bu_l1
    have bu_0 : w2.cell? ⟨w.heap.size + 2, 0, none⟩ = some (.slice A3 u.length k3) := (bu.cell 0).trans rfl
    have Vx := Lib.hid (hsx.mono (X' := Free) (fun _ h => h.elim))
    clear hsx
    clear hb2'
    try simp only at hcx
    replace bx := bx.alloc (.cells #[.slice Ax 0 cx] 24)
    replace bt := bt.alloc (.cells #[.slice Ax 0 cx] 24)
    replace bu := bu.alloc (.cells #[.slice Ax 0 cx] 24)
    have vx := Blk.new w2 24 #[.slice Ax 0 cx]
    have HBa4 := Lib.hid (HBm2.out.alloc HBm2.out.size (.cells #[.slice Ax 0 cx] 24))
    replace hM := Lib.hid (hM.out.below (below_alloc1 w2 (.cells #[.slice Ax 0 cx] 24)))
    replace V0 := Lib.hid (V0.out.keep (Keeps.alloc w2 _ (.cells #[.slice Ax 0 cx] 24)))
    replace V2 := Lib.hid (V2.out.keep (Keeps.alloc w2 _ (.cells #[.slice Ax 0 cx] 24)))
    replace V3 := Lib.hid (V3.out.keep (Keeps.alloc w2 _ (.cells #[.slice Ax 0 cx] 24)))
    replace Vx := Lib.hid (Vx.out.keep (Keeps.alloc w2 _ (.cells #[.slice Ax 0 cx] 24)))
    replace bx := bx.alloc (.cells #[.int .i64 cd, .int .i64 ix] 30)
    replace bt := bt.alloc (.cells #[.int .i64 cd, .int .i64 ix] 30)
    replace bu := bu.alloc (.cells #[.int .i64 cd, .int .i64 ix] 30)
    replace vx := vx.alloc (.cells #[.int .i64 cd, .int .i64 ix] 30)
    have vf : Blk ((w2.alloc (.cells #[.slice Ax 0 cx] 24)).alloc (.cells #[.int .i64 cd, .int .i64 ix] 30)) (w2.heap.size + 1) 30 #[.int .i64 cd, .int .i64 ix] := by simpa using Blk.new (w2.alloc (.cells #[.slice Ax 0 cx] 24)) 30 #[.int .i64 cd, .int .i64 ix]
    have HBa5 := Lib.hid (HBa4.out.alloc HBa4.out.size (.cells #[.int .i64 cd, .int .i64 ix] 30))
    replace hM := Lib.hid (hM.out.below (below_alloc1 (w2.alloc (.cells #[.slice Ax 0 cx] 24)) (.cells #[.int .i64 cd, .int .i64 ix] 30)))
    replace V0 := Lib.hid (V0.out.keep (Keeps.alloc (w2.alloc (.cells #[.slice Ax 0 cx] 24)) _ (.cells #[.int .i64 cd, .int .i64 ix] 30)))
    replace V2 := Lib.hid (V2.out.keep (Keeps.alloc (w2.alloc (.cells #[.slice Ax 0 cx] 24)) _ (.cells #[.int .i64 cd, .int .i64 ix] 30)))
    replace V3 := Lib.hid (V3.out.keep (Keeps.alloc (w2.alloc (.cells #[.slice Ax 0 cx] 24)) _ (.cells #[.int .i64 cd, .int .i64 ix] 30)))
    replace Vx := Lib.hid (Vx.out.keep (Keeps.alloc (w2.alloc (.cells #[.slice Ax 0 cx] 24)) _ (.cells #[.int .i64 cd, .int .i64 ix] 30)))
    go_wp2_with fail
    go_at_call 9
    with_reducible refine (H90.out _ _ _ hM.out Vx.out V3.out).mono ?_
    rintro e w3 ⟨Ay, cy, rfl, hcy, hsy, hb3'⟩
    have HBm3 := Lib.hid (HBa5.out.trans (hb3'.mono HBa5.out.size))
    replace bx := bx.below hb3' bx.lt
    replace bt := bt.below hb3' bt.lt
    replace bu := bu.below hb3' bu.lt
    replace vx := vx.below hb3' vx.lt
    replace vf := vf.below hb3' vf.lt
    replace hM := Lib.hid (hM.out.below hb3')
    replace V0 := Lib.hid (V0.out.keep (free_below hb3'))
    replace V2 := Lib.hid (V2.out.keep (free_below hb3'))
    replace V3 := Lib.hid (V3.out.keep (free_below hb3'))
    replace Vx := Lib.hid (Vx.out.keep (free_below hb3'))
    clear bx_l bx_l1 bx_l2 bx_0 bt_l bt_l1 bt_l2 bt_0 bu_l bu_l1 bu_l2 bu_0
    have bx_l : w.heap.size < w3.heap.size := bx.lt
    have bx_l1 : w.heap.size < w3.heap.size + 1 := Nat.lt_succ_of_lt bx_l
    have bx_l2 : w.heap.size < w3.heap.size + 1 + 1 := Nat.lt_succ_of_lt bx_l1
    have bx_0 : w3.cell? ⟨w.heap.size, 0, none⟩ = some (.slice A s.length k) := (bx.cell 0).trans rfl
    have bt_l : w.heap.size + 1 < w3.heap.size := bt.lt
    have bt_l1 : w.heap.size + 1 < w3.heap.size + 1 := Nat.lt_succ_of_lt bt_l
    have bt_l2 : w.heap.size + 1 < w3.heap.size + 1 + 1 := Nat.lt_succ_of_lt bt_l1
    have bt_0 : w3.cell? ⟨w.heap.size + 1, 0, none⟩ = some (.slice A2 t.length k2) := (bt.cell 0).trans rfl
    have bu_l : w.heap.size + 2 < w3.heap.size := bu.lt
    have bu_l1 : w.heap.size + 2 < w3.heap.size + 1 := Nat.lt_succ_of_lt bu_l
    have bu_l2 : w.heap.size + 2 < w3.heap.size + 1 + 1 := Nat.lt_succ_of_lt bu_l1
    have bu_0 : w3.cell? ⟨w.heap.size + 2, 0, none⟩ = some (.slice A3 u.length k3) := (bu.cell 0).trans rfl
    have vx_l : w2.heap.size < w3.heap.size := vx.lt
    have vx_l1 : w2.heap.size < w3.heap.size + 1 := Nat.lt_succ_of_lt vx_l
    have vx_l2 : w2.heap.size < w3.heap.size + 1 + 1 := Nat.lt_succ_of_lt vx_l1
    have vx_0 : w3.cell? ⟨w2.heap.size, 0, none⟩ = some (.slice Ax 0 cx) := (vx.cell 0).trans rfl
    have vf_l : w2.heap.size + 1 < w3.heap.size := vf.lt
    have vf_l1 : w2.heap.size + 1 < w3.heap.size + 1 := Nat.lt_succ_of_lt vf_l
    have vf_l2 : w2.heap.size + 1 < w3.heap.size + 1 + 1 := Nat.lt_succ_of_lt vf_l1
    have vf_0 : w3.cell? ⟨w2.heap.size + 1, 0, none⟩ = some (.int .i64 cd) := (vf.cell 0).trans rfl
    have vf_1 : w3.cell? ⟨w2.heap.size + 1, 1, none⟩ = some (.int .i64 ix) := (vf.cell 1).trans rfl
    have Vy := Lib.hid (hsy.mono (X' := Free) (fun _ h => h.elim))
    clear hsy
    clear hb3'
    try simp only at hcy
    replace bx := bx.alloc (.cells #[.slice Ay ys.length cy] 24)
    replace bt := bt.alloc (.cells #[.slice Ay ys.length cy] 24)
    replace bu := bu.alloc (.cells #[.slice Ay ys.length cy] 24)
    replace vx := vx.alloc (.cells #[.slice Ay ys.length cy] 24)
    replace vf := vf.alloc (.cells #[.slice Ay ys.length cy] 24)
    have vy := Blk.new w3 24 #[.slice Ay ys.length cy]
    have HBa6 := Lib.hid (HBm3.out.alloc HBm3.out.size (.cells #[.slice Ay ys.length cy] 24))
    replace hM := Lib.hid (hM.out.below (below_alloc1 w3 (.cells #[.slice Ay ys.length cy] 24)))
    replace V0 := Lib.hid (V0.out.keep (Keeps.alloc w3 _ (.cells #[.slice Ay ys.length cy] 24)))
    replace V2 := Lib.hid (V2.out.keep (Keeps.alloc w3 _ (.cells #[.slice Ay ys.length cy] 24)))
    replace V3 := Lib.hid (V3.out.keep (Keeps.alloc w3 _ (.cells #[.slice Ay ys.length cy] 24)))
    replace Vx := Lib.hid (Vx.out.keep (Keeps.alloc w3 _ (.cells #[.slice Ay ys.length cy] 24)))
    replace Vy := Lib.hid (Vy.out.keep (Keeps.alloc w3 _ (.cells #[.slice Ay ys.length cy] 24)))
    replace bx := bx.alloc (.cells #[.int .i64 cd2, .int .i64 ix2] 30)
    replace bt := bt.alloc (.cells #[.int .i64 cd2, .int .i64 ix2] 30)
    replace bu := bu.alloc (.cells #[.int .i64 cd2, .int .i64 ix2] 30)
    replace vx := vx.alloc (.cells #[.int .i64 cd2, .int .i64 ix2] 30)
    replace vf := vf.alloc (.cells #[.int .i64 cd2, .int .i64 ix2] 30)
    replace vy := vy.alloc (.cells #[.int .i64 cd2, .int .i64 ix2] 30)
    have vg : Blk ((w3.alloc (.cells #[.slice Ay ys.length cy] 24)).alloc (.cells #[.int .i64 cd2, .int .i64 ix2] 30)) (w3.heap.size + 1) 30 #[.int .i64 cd2, .int .i64 ix2] := by simpa using Blk.new (w3.alloc (.cells #[.slice Ay ys.length cy] 24)) 30 #[.int .i64 cd2, .int .i64 ix2]
    have HBa7 := Lib.hid (HBa6.out.alloc HBa6.out.size (.cells #[.int .i64 cd2, .int .i64 ix2] 30))
    replace hM := Lib.hid (hM.out.below (below_alloc1 (w3.alloc (.cells #[.slice Ay ys.length cy] 24)) (.cells #[.int .i64 cd2, .int .i64 ix2] 30)))
    replace V0 := Lib.hid (V0.out.keep (Keeps.alloc (w3.alloc (.cells #[.slice Ay ys.length cy] 24)) _ (.cells #[.int .i64 cd2, .int .i64 ix2] 30)))
    replace V2 := Lib.hid (V2.out.keep (Keeps.alloc (w3.alloc (.cells #[.slice Ay ys.length cy] 24)) _ (.cells #[.int .i64 cd2, .int .i64 ix2] 30)))
    replace V3 := Lib.hid (V3.out.keep (Keeps.alloc (w3.alloc (.cells #[.slice Ay ys.length cy] 24)) _ (.cells #[.int .i64 cd2, .int .i64 ix2] 30)))
    replace Vx := Lib.hid (Vx.out.keep (Keeps.alloc (w3.alloc (.cells #[.slice Ay ys.length cy] 24)) _ (.cells #[.int .i64 cd2, .int .i64 ix2] 30)))
    replace Vy := Lib.hid (Vy.out.keep (Keeps.alloc (w3.alloc (.cells #[.slice Ay ys.length cy] 24)) _ (.cells #[.int .i64 cd2, .int .i64 ix2] 30)))
    go_wp2_with fail
    go_ret
    exact ⟨by simp, HBa7.out⟩
  · rw [he] at H9
    have hx40 := hsx.len
    have H92 := Lib.hid (H91.out x hx40)
    clear HWC H90 H91 he hs
    go_wp2_with fail
    go_at_call 9
    with_reducible refine (H9.out _ hM.out V0.out V2.out).mono ?_
    rintro e w2 ⟨Ax, cx, rfl, hcx, hsx2, hb2'⟩
    have HBm2 := Lib.hid (HBm1.out.trans (hb2'.mono HBm1.out.size))
    replace bx := bx.below hb2' bx.lt
    replace bt := bt.below hb2' bt.lt
    replace bu := bu.below hb2' bu.lt
    replace hM := Lib.hid (hM.out.below hb2')
    replace V0 := Lib.hid (V0.out.keep (free_below hb2'))
    replace V2 := Lib.hid (V2.out.keep (free_below hb2'))
    replace V3 := Lib.hid (V3.out.keep (free_below hb2'))
    clear bx_l bx_l1 bx_l2 bx_0 bt_l bt_l1 bt_l2 bt_0 bu_l bu_l1 bu_l2 bu_0
    have bx_l : w.heap.size < w2.heap.size := bx.lt
    have bx_l1 : w.heap.size < w2.heap.size + 1 := Nat.lt_succ_of_lt bx_l
    have bx_l2 : w.heap.size < w2.heap.size + 1 + 1 := Nat.lt_succ_of_lt bx_l1
    have bx_0 : w2.cell? ⟨w.heap.size, 0, none⟩ = some (.slice A s.length k) := (bx.cell 0).trans rfl
    have bt_l : w.heap.size + 1 < w2.heap.size := bt.lt
    have bt_l1 : w.heap.size + 1 < w2.heap.size + 1 := Nat.lt_succ_of_lt bt_l
    have bt_l2 : w.heap.size + 1 < w2.heap.size + 1 + 1 := Nat.lt_succ_of_lt bt_l1
    have bt_0 : w2.cell? ⟨w.heap.size + 1, 0, none⟩ = some (.slice A2 t.length k2) := (bt.cell 0).trans rfl
    have bu_l : w.heap.size + 2 < w2.heap.size := bu.lt
    have bu_l1 : w.heap.size + 2 < w2.heap.size + 1 := Nat.lt_succ_of_lt bu_l
    have bu_l2 : w.heap.size + 2 < w2.heap.size + 1 + 1 := Nat.lt_succ_of_lt bu_l1
    have bu_0 : w2.cell? ⟨w.heap.size + 2, 0, none⟩ = some (.slice A3 u.length k3) := (bu.cell 0).trans rfl
    have Vx := Lib.hid (hsx2.mono (X' := Free) (fun _ h => h.elim))
    clear hsx2
    clear hb2'
    try simp only at hcx
    replace bx := bx.alloc (.cells #[.slice Ax x.length cx] 24)
    replace bt := bt.alloc (.cells #[.slice Ax x.length cx] 24)
    replace bu := bu.alloc (.cells #[.slice Ax x.length cx] 24)
    have vx := Blk.new w2 24 #[.slice Ax x.length cx]
    have HBa4 := Lib.hid (HBm2.out.alloc HBm2.out.size (.cells #[.slice Ax x.length cx] 24))
    replace hM := Lib.hid (hM.out.below (below_alloc1 w2 (.cells #[.slice Ax x.length cx] 24)))
    replace V0 := Lib.hid (V0.out.keep (Keeps.alloc w2 _ (.cells #[.slice Ax x.length cx] 24)))
    replace V2 := Lib.hid (V2.out.keep (Keeps.alloc w2 _ (.cells #[.slice Ax x.length cx] 24)))
    replace V3 := Lib.hid (V3.out.keep (Keeps.alloc w2 _ (.cells #[.slice Ax x.length cx] 24)))
    replace Vx := Lib.hid (Vx.out.keep (Keeps.alloc w2 _ (.cells #[.slice Ax x.length cx] 24)))
    replace bx := bx.alloc (.cells #[.int .i64 0, .int .i64 0] 30)
    replace bt := bt.alloc (.cells #[.int .i64 0, .int .i64 0] 30)
    replace bu := bu.alloc (.cells #[.int .i64 0, .int .i64 0] 30)
    replace vx := vx.alloc (.cells #[.int .i64 0, .int .i64 0] 30)
    have vf : Blk ((w2.alloc (.cells #[.slice Ax x.length cx] 24)).alloc (.cells #[.int .i64 0, .int .i64 0] 30)) (w2.heap.size + 1) 30 #[.int .i64 0, .int .i64 0] := by simpa using Blk.new (w2.alloc (.cells #[.slice Ax x.length cx] 24)) 30 #[.int .i64 0, .int .i64 0]
    have HBa5 := Lib.hid (HBa4.out.alloc HBa4.out.size (.cells #[.int .i64 0, .int .i64 0] 30))
    replace hM := Lib.hid (hM.out.below (below_alloc1 (w2.alloc (.cells #[.slice Ax x.length cx] 24)) (.cells #[.int .i64 0, .int .i64 0] 30)))
    replace V0 := Lib.hid (V0.out.keep (Keeps.alloc (w2.alloc (.cells #[.slice Ax x.length cx] 24)) _ (.cells #[.int .i64 0, .int .i64 0] 30)))
    replace V2 := Lib.hid (V2.out.keep (Keeps.alloc (w2.alloc (.cells #[.slice Ax x.length cx] 24)) _ (.cells #[.int .i64 0, .int .i64 0] 30)))
    replace V3 := Lib.hid (V3.out.keep (Keeps.alloc (w2.alloc (.cells #[.slice Ax x.length cx] 24)) _ (.cells #[.int .i64 0, .int .i64 0] 30)))
    replace Vx := Lib.hid (Vx.out.keep (Keeps.alloc (w2.alloc (.cells #[.slice Ax x.length cx] 24)) _ (.cells #[.int .i64 0, .int .i64 0] 30)))
    rcases HWD.out x with ⟨hc, hx⟩ | ⟨y, he, _, hu, hsy, hmm, hh2, _⟩
    · clear HWD H18 ht hsx hh
      generalize ((Ob.dig (Tr.treeO t) : Nat) : Int) = d at *
      generalize Tr.wrF x u = q2 at *
      obtain ⟨⟨ys, d2⟩, cd2, ix2⟩ := q2
      simp only at hc hx
      injection hx with e1 e2
      subst e1
      subst e2
      have hx1 : (cd2 == 0) = false := by simpa using hc
      have hx2 : (cd2 != 0) = true := by simpa using hc
      clear hc
      go_wp2_with fail
      go_at_call 9
      with_reducible refine (H92.out _ _ _ hM.out Vx.out V3.out).mono ?_
      rintro e w3 ⟨Ay, cy, rfl, hcy, hsy, hb3'⟩
      have HBm3 := Lib.hid (HBa5.out.trans (hb3'.mono HBa5.out.size))
      replace bx := bx.below hb3' bx.lt
      replace bt := bt.below hb3' bt.lt
      replace bu := bu.below hb3' bu.lt
      replace vx := vx.below hb3' vx.lt
      replace vf := vf.below hb3' vf.lt
      replace hM := Lib.hid (hM.out.below hb3')
      replace V0 := Lib.hid (V0.out.keep (free_below hb3'))
      replace V2 := Lib.hid (V2.out.keep (free_below hb3'))
      replace V3 := Lib.hid (V3.out.keep (free_below hb3'))
      replace Vx := Lib.hid (Vx.out.keep (free_below hb3'))
      clear bx_l bx_l1 bx_l2 bx_0 bt_l bt_l1 bt_l2 bt_0 bu_l bu_l1 bu_l2 bu_0
      have bx_l : w.heap.size < w3.heap.size := bx.lt
      have bx_l1 : w.heap.size < w3.heap.size + 1 := Nat.lt_succ_of_lt bx_l
      have bx_l2 : w.heap.size < w3.heap.size + 1 + 1 := Nat.lt_succ_of_lt bx_l1
      have bx_0 : w3.cell? ⟨w.heap.size, 0, none⟩ = some (.slice A s.length k) := (bx.cell 0).trans rfl
      have bt_l : w.heap.size + 1 < w3.heap.size := bt.lt
      have bt_l1 : w.heap.size + 1 < w3.heap.size + 1 := Nat.lt_succ_of_lt bt_l
      have bt_l2 : w.heap.size + 1 < w3.heap.size + 1 + 1 := Nat.lt_succ_of_lt bt_l1
      have bt_0 : w3.cell? ⟨w.heap.size + 1, 0, none⟩ = some (.slice A2 t.length k2) := (bt.cell 0).trans rfl
      have bu_l : w.heap.size + 2 < w3.heap.size := bu.lt
      have bu_l1 : w.heap.size + 2 < w3.heap.size + 1 := Nat.lt_succ_of_lt bu_l
      have bu_l2 : w.heap.size + 2 < w3.heap.size + 1 + 1 := Nat.lt_succ_of_lt bu_l1
      have bu_0 : w3.cell? ⟨w.heap.size + 2, 0, none⟩ = some (.slice A3 u.length k3) := (bu.cell 0).trans rfl
      have vx_l : w2.heap.size < w3.heap.size := vx.lt
      have vx_l1 : w2.heap.size < w3.heap.size + 1 := Nat.lt_succ_of_lt vx_l
      have vx_l2 : w2.heap.size < w3.heap.size + 1 + 1 := Nat.lt_succ_of_lt vx_l1
      have vx_0 : w3.cell? ⟨w2.heap.size, 0, none⟩ = some (.slice Ax x.length cx) := (vx.cell 0).trans rfl
      have vf_l : w2.heap.size + 1 < w3.heap.size := vf.lt
      have vf_l1 : w2.heap.size + 1 < w3.heap.size + 1 := Nat.lt_succ_of_lt vf_l
      have vf_l2 : w2.heap.size + 1 < w3.heap.size + 1 + 1 := Nat.lt_succ_of_lt vf_l1
      have vf_0 : w3.cell? ⟨w2.heap.size + 1, 0, none⟩ = some (.int .i64 0) := (vf.cell 0).trans rfl
      have vf_1 : w3.cell? ⟨w2.heap.size + 1, 1, none⟩ = some (.int .i64 0) := (vf.cell 1).trans rfl
      have Vy := Lib.hid (hsy.mono (X' := Free) (fun _ h => h.elim))
      clear hsy
      clear hb3'
      try simp only at hcy
      replace bx := bx.alloc (.cells #[.slice Ay 0 cy] 24)
      replace bt := bt.alloc (.cells #[.slice Ay 0 cy] 24)
      replace bu := bu.alloc (.cells #[.slice Ay 0 cy] 24)
      replace vx := vx.alloc (.cells #[.slice Ay 0 cy] 24)
      replace vf := vf.alloc (.cells #[.slice Ay 0 cy] 24)
      have vy := Blk.new w3 24 #[.slice Ay 0 cy]
      have HBa6 := Lib.hid (HBm3.out.alloc HBm3.out.size (.cells #[.slice Ay 0 cy] 24))
      replace hM := Lib.hid (hM.out.below (below_alloc1 w3 (.cells #[.slice Ay 0 cy] 24)))
      replace V0 := Lib.hid (V0.out.keep (Keeps.alloc w3 _ (.cells #[.slice Ay 0 cy] 24)))
      replace V2 := Lib.hid (V2.out.keep (Keeps.alloc w3 _ (.cells #[.slice Ay 0 cy] 24)))
      replace V3 := Lib.hid (V3.out.keep (Keeps.alloc w3 _ (.cells #[.slice Ay 0 cy] 24)))
      replace Vx := Lib.hid (Vx.out.keep (Keeps.alloc w3 _ (.cells #[.slice Ay 0 cy] 24)))
      replace Vy := Lib.hid (Vy.out.keep (Keeps.alloc w3 _ (.cells #[.slice Ay 0 cy] 24)))
      replace bx := bx.alloc (.cells #[.int .i64 cd2, .int .i64 ix2] 30)
      replace bt := bt.alloc (.cells #[.int .i64 cd2, .int .i64 ix2] 30)
      replace bu := bu.alloc (.cells #[.int .i64 cd2, .int .i64 ix2] 30)
      replace vx := vx.alloc (.cells #[.int .i64 cd2, .int .i64 ix2] 30)
      replace vf := vf.alloc (.cells #[.int .i64 cd2, .int .i64 ix2] 30)
      replace vy := vy.alloc (.cells #[.int .i64 cd2, .int .i64 ix2] 30)
      have vg : Blk ((w3.alloc (.cells #[.slice Ay 0 cy] 24)).alloc (.cells #[.int .i64 cd2, .int .i64 ix2] 30)) (w3.heap.size + 1) 30 #[.int .i64 cd2, .int .i64 ix2] := by simpa using Blk.new (w3.alloc (.cells #[.slice Ay 0 cy] 24)) 30 #[.int .i64 cd2, .int .i64 ix2]
      have HBa7 := Lib.hid (HBa6.out.alloc HBa6.out.size (.cells #[.int .i64 cd2, .int .i64 ix2] 30))
      replace hM := Lib.hid (hM.out.below (below_alloc1 (w3.alloc (.cells #[.slice Ay 0 cy] 24)) (.cells #[.int .i64 cd2, .int .i64 ix2] 30)))
      replace V0 := Lib.hid (V0.out.keep (Keeps.alloc (w3.alloc (.cells #[.slice Ay 0 cy] 24)) _ (.cells #[.int .i64 cd2, .int .i64 ix2] 30)))
      replace V2 := Lib.hid (V2.out.keep (Keeps.alloc (w3.alloc (.cells #[.slice Ay 0 cy] 24)) _ (.cells #[.int .i64 cd2, .int .i64 ix2] 30)))
      replace V3 := Lib.hid (V3.out.keep (Keeps.alloc (w3.alloc (.cells #[.slice Ay 0 cy] 24)) _ (.cells #[.int .i64 cd2, .int .i64 ix2] 30)))
      replace Vx := Lib.hid (Vx.out.keep (Keeps.alloc (w3.alloc (.cells #[.slice Ay 0 cy] 24)) _ (.cells #[.int .i64 cd2, .int .i64 ix2] 30)))
      replace Vy := Lib.hid (Vy.out.keep (Keeps.alloc (w3.alloc (.cells #[.slice Ay 0 cy] 24)) _ (.cells #[.int .i64 cd2, .int .i64 ix2] 30)))
      go_wp2_with fail
      go_ret
      exact ⟨by simp, HBa7.out⟩
    · rw [he] at H92
      have hhy := Tr.has_more hh hmm
      have hC1 := Tr.chR_tree hsy ht hu hhy hh2
      have hC2 := Tr.chR_tree hsy hu ht hh2 hhy
      rw [Tr.ch_symm _ _ hu.srt ht.srt] at hC2
      have hS := Tr.ch_same hsy ht hu hhy hh2
      have hy40 := hsy.len
      have H18a := Lib.hid (H18.out y hy40 ((Ob.dig (Tr.treeO t) : Nat) : Int) ((Ob.dig (Tr.treeO u) : Nat) : Int))
      have H18b := Lib.hid (H18.out y hy40 ((Ob.dig (Tr.treeO u) : Nat) : Int) ((Ob.dig (Tr.treeO t) : Nat) : Int))
      rw [hC1] at H18a
      rw [hC2] at H18b
      have hcl := Tr.chF_len (t.map Tr.F.path) (Tr.links t) (u.map Tr.F.path) (Tr.links u)
      rw [List.length_map, List.length_map] at hcl
      have ht24 := ht.len
      have hu24 := hu.len
      clear HWD H18 ht hu hsx hsy hh hh2 hhy hmm he hC1 hC2
      generalize ((Ob.dig (Tr.treeO t) : Nat) : Int) = d at *
      generalize ((Ob.dig (Tr.treeO u) : Nat) : Int) = d2 at *
      generalize Tr.chF (t.map Tr.F.path) (Tr.links t) (u.map Tr.F.path) (Tr.links u) = L at *
      have HS := Lib.hid (fun (w1 : World) (A1 A3 : Option Addr) (c1 c3 : Nat) (h1 : LnA w1 Free L A1 c1) (h3 : LnA w1 Free L A3 c3) => by
        have := strings_any w1 A1 A3 c1 c3 L L h1.ls h3.ls (by omega) (by omega)
        rw [decide_eq_true rfl] at this
        exact this.mono fun e w' ⟨h, n, hn⟩ => (⟨h, by rw [hn]; exact below_drewN (Below.refl _ _) n⟩ : e = Ending.returned (Value.bool true) ∧ Below w1.heap.size w1 w'))
      clear hcl ht24 hu24
      go_wp2_with fail
      go_at_call 9
      with_reducible refine (H92.out _ _ _ hM.out Vx.out V3.out).mono ?_
      rintro e w3 ⟨Ay, cy, rfl, hcy, hsy, hb3'⟩
      have HBm3 := Lib.hid (HBa5.out.trans (hb3'.mono HBa5.out.size))
      replace bx := bx.below hb3' bx.lt
      replace bt := bt.below hb3' bt.lt
      replace bu := bu.below hb3' bu.lt
      replace vx := vx.below hb3' vx.lt
      replace vf := vf.below hb3' vf.lt
      replace hM := Lib.hid (hM.out.below hb3')
      replace V0 := Lib.hid (V0.out.keep (free_below hb3'))
      replace V2 := Lib.hid (V2.out.keep (free_below hb3'))
      replace V3 := Lib.hid (V3.out.keep (free_below hb3'))
      replace Vx := Lib.hid (Vx.out.keep (free_below hb3'))
      clear bx_l bx_l1 bx_l2 bx_0 bt_l bt_l1 bt_l2 bt_0 bu_l bu_l1 bu_l2 bu_0
      have bx_l : w.heap.size < w3.heap.size := bx.lt
      have bx_l1 : w.heap.size < w3.heap.size + 1 := Nat.lt_succ_of_lt bx_l
      have bx_l2 : w.heap.size < w3.heap.size + 1 + 1 := Nat.lt_succ_of_lt bx_l1
      have bx_0 : w3.cell? ⟨w.heap.size, 0, none⟩ = some (.slice A s.length k) := (bx.cell 0).trans rfl
      have bt_l : w.heap.size + 1 < w3.heap.size := bt.lt
      have bt_l1 : w.heap.size + 1 < w3.heap.size + 1 := Nat.lt_succ_of_lt bt_l
      have bt_l2 : w.heap.size + 1 < w3.heap.size + 1 + 1 := Nat.lt_succ_of_lt bt_l1
      have bt_0 : w3.cell? ⟨w.heap.size + 1, 0, none⟩ = some (.slice A2 t.length k2) := (bt.cell 0).trans rfl
      have bu_l : w.heap.size + 2 < w3.heap.size := bu.lt
      have bu_l1 : w.heap.size + 2 < w3.heap.size + 1 := Nat.lt_succ_of_lt bu_l
      have bu_l2 : w.heap.size + 2 < w3.heap.size + 1 + 1 := Nat.lt_succ_of_lt bu_l1
      have bu_0 : w3.cell? ⟨w.heap.size + 2, 0, none⟩ = some (.slice A3 u.length k3) := (bu.cell 0).trans rfl
      have vx_l : w2.heap.size < w3.heap.size := vx.lt
      have vx_l1 : w2.heap.size < w3.heap.size + 1 := Nat.lt_succ_of_lt vx_l
      have vx_l2 : w2.heap.size < w3.heap.size + 1 + 1 := Nat.lt_succ_of_lt vx_l1
      have vx_0 : w3.cell? ⟨w2.heap.size, 0, none⟩ = some (.slice Ax x.length cx) := (vx.cell 0).trans rfl
      have vf_l : w2.heap.size + 1 < w3.heap.size := vf.lt
      have vf_l1 : w2.heap.size + 1 < w3.heap.size + 1 := Nat.lt_succ_of_lt vf_l
      have vf_l2 : w2.heap.size + 1 < w3.heap.size + 1 + 1 := Nat.lt_succ_of_lt vf_l1
      have vf_0 : w3.cell? ⟨w2.heap.size + 1, 0, none⟩ = some (.int .i64 0) := (vf.cell 0).trans rfl
      have vf_1 : w3.cell? ⟨w2.heap.size + 1, 1, none⟩ = some (.int .i64 0) := (vf.cell 1).trans rfl
      have Vy := Lib.hid (hsy.mono (X' := Free) (fun _ h => h.elim))
      clear hsy
      clear hb3'
      try simp only at hcy
      replace bx := bx.alloc (.cells #[.slice Ay y.length cy] 24)
      replace bt := bt.alloc (.cells #[.slice Ay y.length cy] 24)
      replace bu := bu.alloc (.cells #[.slice Ay y.length cy] 24)
      replace vx := vx.alloc (.cells #[.slice Ay y.length cy] 24)
      replace vf := vf.alloc (.cells #[.slice Ay y.length cy] 24)
      have vy := Blk.new w3 24 #[.slice Ay y.length cy]
      have HBa6 := Lib.hid (HBm3.out.alloc HBm3.out.size (.cells #[.slice Ay y.length cy] 24))
      replace hM := Lib.hid (hM.out.below (below_alloc1 w3 (.cells #[.slice Ay y.length cy] 24)))
      replace V0 := Lib.hid (V0.out.keep (Keeps.alloc w3 _ (.cells #[.slice Ay y.length cy] 24)))
      replace V2 := Lib.hid (V2.out.keep (Keeps.alloc w3 _ (.cells #[.slice Ay y.length cy] 24)))
      replace V3 := Lib.hid (V3.out.keep (Keeps.alloc w3 _ (.cells #[.slice Ay y.length cy] 24)))
      replace Vx := Lib.hid (Vx.out.keep (Keeps.alloc w3 _ (.cells #[.slice Ay y.length cy] 24)))
      replace Vy := Lib.hid (Vy.out.keep (Keeps.alloc w3 _ (.cells #[.slice Ay y.length cy] 24)))
      replace bx := bx.alloc (.cells #[.int .i64 0, .int .i64 0] 30)
      replace bt := bt.alloc (.cells #[.int .i64 0, .int .i64 0] 30)
      replace bu := bu.alloc (.cells #[.int .i64 0, .int .i64 0] 30)
      replace vx := vx.alloc (.cells #[.int .i64 0, .int .i64 0] 30)
      replace vf := vf.alloc (.cells #[.int .i64 0, .int .i64 0] 30)
      replace vy := vy.alloc (.cells #[.int .i64 0, .int .i64 0] 30)
      have vg : Blk ((w3.alloc (.cells #[.slice Ay y.length cy] 24)).alloc (.cells #[.int .i64 0, .int .i64 0] 30)) (w3.heap.size + 1) 30 #[.int .i64 0, .int .i64 0] := by simpa using Blk.new (w3.alloc (.cells #[.slice Ay y.length cy] 24)) 30 #[.int .i64 0, .int .i64 0]
      have HBa7 := Lib.hid (HBa6.out.alloc HBa6.out.size (.cells #[.int .i64 0, .int .i64 0] 30))
      replace hM := Lib.hid (hM.out.below (below_alloc1 (w3.alloc (.cells #[.slice Ay y.length cy] 24)) (.cells #[.int .i64 0, .int .i64 0] 30)))
      replace V0 := Lib.hid (V0.out.keep (Keeps.alloc (w3.alloc (.cells #[.slice Ay y.length cy] 24)) _ (.cells #[.int .i64 0, .int .i64 0] 30)))
      replace V2 := Lib.hid (V2.out.keep (Keeps.alloc (w3.alloc (.cells #[.slice Ay y.length cy] 24)) _ (.cells #[.int .i64 0, .int .i64 0] 30)))
      replace V3 := Lib.hid (V3.out.keep (Keeps.alloc (w3.alloc (.cells #[.slice Ay y.length cy] 24)) _ (.cells #[.int .i64 0, .int .i64 0] 30)))
      replace Vx := Lib.hid (Vx.out.keep (Keeps.alloc (w3.alloc (.cells #[.slice Ay y.length cy] 24)) _ (.cells #[.int .i64 0, .int .i64 0] 30)))
      replace Vy := Lib.hid (Vy.out.keep (Keeps.alloc (w3.alloc (.cells #[.slice Ay y.length cy] 24)) _ (.cells #[.int .i64 0, .int .i64 0] 30)))
      go_wp2_with fail
      go_at_call 18
      with_reducible refine (H18a.out _ _ _ hM.out Vy.out).mono ?_
      rintro e w4 ⟨Al, cl, rfl, hsl, hb4'⟩
      have HBm4 := Lib.hid (HBa7.out.trans (hb4'.mono HBa7.out.size))
      replace bx := bx.below hb4' bx.lt
      replace bt := bt.below hb4' bt.lt
      replace bu := bu.below hb4' bu.lt
      replace vx := vx.below hb4' vx.lt
      replace vf := vf.below hb4' vf.lt
      replace vy := vy.below hb4' vy.lt
      replace vg := vg.below hb4' vg.lt
      replace hM := Lib.hid (hM.out.below hb4')
      replace V0 := Lib.hid (V0.out.keep (free_below hb4'))
      replace V2 := Lib.hid (V2.out.keep (free_below hb4'))
      replace V3 := Lib.hid (V3.out.keep (free_below hb4'))
      replace Vx := Lib.hid (Vx.out.keep (free_below hb4'))
      replace Vy := Lib.hid (Vy.out.keep (free_below hb4'))
      clear bx_l bx_l1 bx_l2 bx_0 bt_l bt_l1 bt_l2 bt_0 bu_l bu_l1 bu_l2 bu_0 vx_l vx_l1 vx_l2 vx_0 vf_l vf_l1 vf_l2 vf_0 vf_1
      have bx_l : w.heap.size < w4.heap.size := bx.lt
      have bx_l1 : w.heap.size < w4.heap.size + 1 := Nat.lt_succ_of_lt bx_l
      have bx_l2 : w.heap.size < w4.heap.size + 1 + 1 := Nat.lt_succ_of_lt bx_l1
      have bx_0 : w4.cell? ⟨w.heap.size, 0, none⟩ = some (.slice A s.length k) := (bx.cell 0).trans rfl
      have bt_l : w.heap.size + 1 < w4.heap.size := bt.lt
      have bt_l1 : w.heap.size + 1 < w4.heap.size + 1 := Nat.lt_succ_of_lt bt_l
      have bt_l2 : w.heap.size + 1 < w4.heap.size + 1 + 1 := Nat.lt_succ_of_lt bt_l1
      have bt_0 : w4.cell? ⟨w.heap.size + 1, 0, none⟩ = some (.slice A2 t.length k2) := (bt.cell 0).trans rfl
      have bu_l : w.heap.size + 2 < w4.heap.size := bu.lt
      have bu_l1 : w.heap.size + 2 < w4.heap.size + 1 := Nat.lt_succ_of_lt bu_l
      have bu_l2 : w.heap.size + 2 < w4.heap.size + 1 + 1 := Nat.lt_succ_of_lt bu_l1
      have bu_0 : w4.cell? ⟨w.heap.size + 2, 0, none⟩ = some (.slice A3 u.length k3) := (bu.cell 0).trans rfl
      have vx_l : w2.heap.size < w4.heap.size := vx.lt
      have vx_l1 : w2.heap.size < w4.heap.size + 1 := Nat.lt_succ_of_lt vx_l
      have vx_l2 : w2.heap.size < w4.heap.size + 1 + 1 := Nat.lt_succ_of_lt vx_l1
      have vx_0 : w4.cell? ⟨w2.heap.size, 0, none⟩ = some (.slice Ax x.length cx) := (vx.cell 0).trans rfl
      have vf_l : w2.heap.size + 1 < w4.heap.size := vf.lt
      have vf_l1 : w2.heap.size + 1 < w4.heap.size + 1 := Nat.lt_succ_of_lt vf_l
      have vf_l2 : w2.heap.size + 1 < w4.heap.size + 1 + 1 := Nat.lt_succ_of_lt vf_l1
      have vf_0 : w4.cell? ⟨w2.heap.size + 1, 0, none⟩ = some (.int .i64 0) := (vf.cell 0).trans rfl
      have vf_1 : w4.cell? ⟨w2.heap.size + 1, 1, none⟩ = some (.int .i64 0) := (vf.cell 1).trans rfl
      have vy_l : w3.heap.size < w4.heap.size := vy.lt
      have vy_l1 : w3.heap.size < w4.heap.size + 1 := Nat.lt_succ_of_lt vy_l
      have vy_l2 : w3.heap.size < w4.heap.size + 1 + 1 := Nat.lt_succ_of_lt vy_l1
      have vy_0 : w4.cell? ⟨w3.heap.size, 0, none⟩ = some (.slice Ay y.length cy) := (vy.cell 0).trans rfl
      have vg_l : w3.heap.size + 1 < w4.heap.size := vg.lt
      have vg_l1 : w3.heap.size + 1 < w4.heap.size + 1 := Nat.lt_succ_of_lt vg_l
      have vg_l2 : w3.heap.size + 1 < w4.heap.size + 1 + 1 := Nat.lt_succ_of_lt vg_l1
      have vg_0 : w4.cell? ⟨w3.heap.size + 1, 0, none⟩ = some (.int .i64 0) := (vg.cell 0).trans rfl
      have vg_1 : w4.cell? ⟨w3.heap.size + 1, 1, none⟩ = some (.int .i64 0) := (vg.cell 1).trans rfl
      have Vl := Lib.hid (hsl.mono (X' := Free) (fun _ h => h.elim))
      clear hsl
      clear hb4'
      replace bx := bx.alloc (.cells #[.int .i64 0, .int .i64 0] 30)
      replace bt := bt.alloc (.cells #[.int .i64 0, .int .i64 0] 30)
      replace bu := bu.alloc (.cells #[.int .i64 0, .int .i64 0] 30)
      replace vx := vx.alloc (.cells #[.int .i64 0, .int .i64 0] 30)
      replace vf := vf.alloc (.cells #[.int .i64 0, .int .i64 0] 30)
      replace vy := vy.alloc (.cells #[.int .i64 0, .int .i64 0] 30)
      replace vg := vg.alloc (.cells #[.int .i64 0, .int .i64 0] 30)
      have ve1 := Blk.new w4 30 #[.int .i64 0, .int .i64 0]
      have HBa8 := Lib.hid (HBm4.out.alloc HBm4.out.size (.cells #[.int .i64 0, .int .i64 0] 30))
      replace hM := Lib.hid (hM.out.below (below_alloc1 w4 (.cells #[.int .i64 0, .int .i64 0] 30)))
      replace V0 := Lib.hid (V0.out.keep (Keeps.alloc w4 _ (.cells #[.int .i64 0, .int .i64 0] 30)))
      replace V2 := Lib.hid (V2.out.keep (Keeps.alloc w4 _ (.cells #[.int .i64 0, .int .i64 0] 30)))
      replace V3 := Lib.hid (V3.out.keep (Keeps.alloc w4 _ (.cells #[.int .i64 0, .int .i64 0] 30)))
      replace Vx := Lib.hid (Vx.out.keep (Keeps.alloc w4 _ (.cells #[.int .i64 0, .int .i64 0] 30)))
      replace Vy := Lib.hid (Vy.out.keep (Keeps.alloc w4 _ (.cells #[.int .i64 0, .int .i64 0] 30)))
      replace Vl := Lib.hid (Vl.out.keep (Keeps.alloc w4 _ (.cells #[.int .i64 0, .int .i64 0] 30)))
      go_wp2_with fail
      go_at_call 18
      with_reducible refine (H18b.out _ _ _ hM.out Vy.out).mono ?_
      rintro e w5 ⟨Am, cm, rfl, hsm, hb5'⟩
      have HBm5 := Lib.hid (HBa8.out.trans (hb5'.mono HBa8.out.size))
      replace bx := bx.below hb5' bx.lt
      replace bt := bt.below hb5' bt.lt
      replace bu := bu.below hb5' bu.lt
      replace vx := vx.below hb5' vx.lt
      replace vf := vf.below hb5' vf.lt
      replace vy := vy.below hb5' vy.lt
      replace vg := vg.below hb5' vg.lt
      replace ve1 := ve1.below hb5' ve1.lt
      replace hM := Lib.hid (hM.out.below hb5')
      replace V0 := Lib.hid (V0.out.keep (free_below hb5'))
      replace V2 := Lib.hid (V2.out.keep (free_below hb5'))
      replace V3 := Lib.hid (V3.out.keep (free_below hb5'))
      replace Vx := Lib.hid (Vx.out.keep (free_below hb5'))
      replace Vy := Lib.hid (Vy.out.keep (free_below hb5'))
      replace Vl := Lib.hid (Vl.out.keep (free_below hb5'))
      clear bx_l bx_l1 bx_l2 bx_0 bt_l bt_l1 bt_l2 bt_0 bu_l bu_l1 bu_l2 bu_0 vx_l vx_l1 vx_l2 vx_0 vf_l vf_l1 vf_l2 vf_0 vf_1 vy_l vy_l1 vy_l2 vy_0 vg_l vg_l1 vg_l2 vg_0 vg_1
      have bx_l : w.heap.size < w5.heap.size := bx.lt
      have bx_l1 : w.heap.size < w5.heap.size + 1 := Nat.lt_succ_of_lt bx_l
      have bx_l2 : w.heap.size < w5.heap.size + 1 + 1 := Nat.lt_succ_of_lt bx_l1
      have bx_0 : w5.cell? ⟨w.heap.size, 0, none⟩ = some (.slice A s.length k) := (bx.cell 0).trans rfl
      have bt_l : w.heap.size + 1 < w5.heap.size := bt.lt
      have bt_l1 : w.heap.size + 1 < w5.heap.size + 1 := Nat.lt_succ_of_lt bt_l
      have bt_l2 : w.heap.size + 1 < w5.heap.size + 1 + 1 := Nat.lt_succ_of_lt bt_l1
      have bt_0 : w5.cell? ⟨w.heap.size + 1, 0, none⟩ = some (.slice A2 t.length k2) := (bt.cell 0).trans rfl
      have bu_l : w.heap.size + 2 < w5.heap.size := bu.lt
      have bu_l1 : w.heap.size + 2 < w5.heap.size + 1 := Nat.lt_succ_of_lt bu_l
      have bu_l2 : w.heap.size + 2 < w5.heap.size + 1 + 1 := Nat.lt_succ_of_lt bu_l1
      have bu_0 : w5.cell? ⟨w.heap.size + 2, 0, none⟩ = some (.slice A3 u.length k3) := (bu.cell 0).trans rfl
      have vx_l : w2.heap.size < w5.heap.size := vx.lt
      have vx_l1 : w2.heap.size < w5.heap.size + 1 := Nat.lt_succ_of_lt vx_l
      have vx_l2 : w2.heap.size < w5.heap.size + 1 + 1 := Nat.lt_succ_of_lt vx_l1
      have vx_0 : w5.cell? ⟨w2.heap.size, 0, none⟩ = some (.slice Ax x.length cx) := (vx.cell 0).trans rfl
      have vf_l : w2.heap.size + 1 < w5.heap.size := vf.lt
      have vf_l1 : w2.heap.size + 1 < w5.heap.size + 1 := Nat.lt_succ_of_lt vf_l
      have vf_l2 : w2.heap.size + 1 < w5.heap.size + 1 + 1 := Nat.lt_succ_of_lt vf_l1
      have vf_0 : w5.cell? ⟨w2.heap.size + 1, 0, none⟩ = some (.int .i64 0) := (vf.cell 0).trans rfl
      have vf_1 : w5.cell? ⟨w2.heap.size + 1, 1, none⟩ = some (.int .i64 0) := (vf.cell 1).trans rfl
      have vy_l : w3.heap.size < w5.heap.size := vy.lt
      have vy_l1 : w3.heap.size < w5.heap.size + 1 := Nat.lt_succ_of_lt vy_l
      have vy_l2 : w3.heap.size < w5.heap.size + 1 + 1 := Nat.lt_succ_of_lt vy_l1
      have vy_0 : w5.cell? ⟨w3.heap.size, 0, none⟩ = some (.slice Ay y.length cy) := (vy.cell 0).trans rfl
      have vg_l : w3.heap.size + 1 < w5.heap.size := vg.lt
      have vg_l1 : w3.heap.size + 1 < w5.heap.size + 1 := Nat.lt_succ_of_lt vg_l
      have vg_l2 : w3.heap.size + 1 < w5.heap.size + 1 + 1 := Nat.lt_succ_of_lt vg_l1
      have vg_0 : w5.cell? ⟨w3.heap.size + 1, 0, none⟩ = some (.int .i64 0) := (vg.cell 0).trans rfl
      have vg_1 : w5.cell? ⟨w3.heap.size + 1, 1, none⟩ = some (.int .i64 0) := (vg.cell 1).trans rfl
      have ve1_l : w4.heap.size < w5.heap.size := ve1.lt
      have ve1_l1 : w4.heap.size < w5.heap.size + 1 := Nat.lt_succ_of_lt ve1_l
      have ve1_l2 : w4.heap.size < w5.heap.size + 1 + 1 := Nat.lt_succ_of_lt ve1_l1
      have ve1_0 : w5.cell? ⟨w4.heap.size, 0, none⟩ = some (.int .i64 0) := (ve1.cell 0).trans rfl
      have ve1_1 : w5.cell? ⟨w4.heap.size, 1, none⟩ = some (.int .i64 0) := (ve1.cell 1).trans rfl
      have Vm := Lib.hid (hsm.mono (X' := Free) (fun _ h => h.elim))
      clear hsm
      clear hb5'
      replace bx := bx.alloc (.cells #[.int .i64 0, .int .i64 0] 30)
      replace bt := bt.alloc (.cells #[.int .i64 0, .int .i64 0] 30)
      replace bu := bu.alloc (.cells #[.int .i64 0, .int .i64 0] 30)
      replace vx := vx.alloc (.cells #[.int .i64 0, .int .i64 0] 30)
      replace vf := vf.alloc (.cells #[.int .i64 0, .int .i64 0] 30)
      replace vy := vy.alloc (.cells #[.int .i64 0, .int .i64 0] 30)
      replace vg := vg.alloc (.cells #[.int .i64 0, .int .i64 0] 30)
      replace ve1 := ve1.alloc (.cells #[.int .i64 0, .int .i64 0] 30)
      have ve2 := Blk.new w5 30 #[.int .i64 0, .int .i64 0]
      have HBa9 := Lib.hid (HBm5.out.alloc HBm5.out.size (.cells #[.int .i64 0, .int .i64 0] 30))
      replace hM := Lib.hid (hM.out.below (below_alloc1 w5 (.cells #[.int .i64 0, .int .i64 0] 30)))
      replace V0 := Lib.hid (V0.out.keep (Keeps.alloc w5 _ (.cells #[.int .i64 0, .int .i64 0] 30)))
      replace V2 := Lib.hid (V2.out.keep (Keeps.alloc w5 _ (.cells #[.int .i64 0, .int .i64 0] 30)))
      replace V3 := Lib.hid (V3.out.keep (Keeps.alloc w5 _ (.cells #[.int .i64 0, .int .i64 0] 30)))
      replace Vx := Lib.hid (Vx.out.keep (Keeps.alloc w5 _ (.cells #[.int .i64 0, .int .i64 0] 30)))
      replace Vy := Lib.hid (Vy.out.keep (Keeps.alloc w5 _ (.cells #[.int .i64 0, .int .i64 0] 30)))
      replace Vl := Lib.hid (Vl.out.keep (Keeps.alloc w5 _ (.cells #[.int .i64 0, .int .i64 0] 30)))
      replace Vm := Lib.hid (Vm.out.keep (Keeps.alloc w5 _ (.cells #[.int .i64 0, .int .i64 0] 30)))
      go_wp2_with fail
      go_at_call 17
      with_reducible refine (HS.out _ _ _ _ _ Vl.out Vm.out).mono ?_
      rintro e w6 ⟨rfl, hb6'⟩
      have HBm6 := Lib.hid (HBa9.out.trans (hb6'.mono HBa9.out.size))
      replace bx := bx.below hb6' bx.lt
      replace bt := bt.below hb6' bt.lt
      replace bu := bu.below hb6' bu.lt
      replace vx := vx.below hb6' vx.lt
      replace vf := vf.below hb6' vf.lt
      replace vy := vy.below hb6' vy.lt
      replace vg := vg.below hb6' vg.lt
      replace ve1 := ve1.below hb6' ve1.lt
      replace ve2 := ve2.below hb6' ve2.lt
      replace hM := Lib.hid (hM.out.below hb6')
      replace V0 := Lib.hid (V0.out.keep (free_below hb6'))
      replace V2 := Lib.hid (V2.out.keep (free_below hb6'))
      replace V3 := Lib.hid (V3.out.keep (free_below hb6'))
      replace Vx := Lib.hid (Vx.out.keep (free_below hb6'))
      replace Vy := Lib.hid (Vy.out.keep (free_below hb6'))
      replace Vl := Lib.hid (Vl.out.keep (free_below hb6'))
      replace Vm := Lib.hid (Vm.out.keep (free_below hb6'))
      clear bx_l bx_l1 bx_l2 bx_0 bt_l bt_l1 bt_l2 bt_0 bu_l bu_l1 bu_l2 bu_0 vx_l vx_l1 vx_l2 vx_0 vf_l vf_l1 vf_l2 vf_0 vf_1 vy_l vy_l1 vy_l2 vy_0 vg_l vg_l1 vg_l2 vg_0 vg_1 ve1_l ve1_l1 ve1_l2 ve1_0 ve1_1
      have bx_l : w.heap.size < w6.heap.size := bx.lt
      have bx_l1 : w.heap.size < w6.heap.size + 1 := Nat.lt_succ_of_lt bx_l
      have bx_l2 : w.heap.size < w6.heap.size + 1 + 1 := Nat.lt_succ_of_lt bx_l1
      have bx_0 : w6.cell? ⟨w.heap.size, 0, none⟩ = some (.slice A s.length k) := (bx.cell 0).trans rfl
      have bt_l : w.heap.size + 1 < w6.heap.size := bt.lt
      have bt_l1 : w.heap.size + 1 < w6.heap.size + 1 := Nat.lt_succ_of_lt bt_l
      have bt_l2 : w.heap.size + 1 < w6.heap.size + 1 + 1 := Nat.lt_succ_of_lt bt_l1
      have bt_0 : w6.cell? ⟨w.heap.size + 1, 0, none⟩ = some (.slice A2 t.length k2) := (bt.cell 0).trans rfl
      have bu_l : w.heap.size + 2 < w6.heap.size := bu.lt
      have bu_l1 : w.heap.size + 2 < w6.heap.size + 1 := Nat.lt_succ_of_lt bu_l
      have bu_l2 : w.heap.size + 2 < w6.heap.size + 1 + 1 := Nat.lt_succ_of_lt bu_l1
      have bu_0 : w6.cell? ⟨w.heap.size + 2, 0, none⟩ = some (.slice A3 u.length k3) := (bu.cell 0).trans rfl
      have vx_l : w2.heap.size < w6.heap.size := vx.lt
      have vx_l1 : w2.heap.size < w6.heap.size + 1 := Nat.lt_succ_of_lt vx_l
      have vx_l2 : w2.heap.size < w6.heap.size + 1 + 1 := Nat.lt_succ_of_lt vx_l1
      have vx_0 : w6.cell? ⟨w2.heap.size, 0, none⟩ = some (.slice Ax x.length cx) := (vx.cell 0).trans rfl
      have vf_l : w2.heap.size + 1 < w6.heap.size := vf.lt
      have vf_l1 : w2.heap.size + 1 < w6.heap.size + 1 := Nat.lt_succ_of_lt vf_l
      have vf_l2 : w2.heap.size + 1 < w6.heap.size + 1 + 1 := Nat.lt_succ_of_lt vf_l1
      have vf_0 : w6.cell? ⟨w2.heap.size + 1, 0, none⟩ = some (.int .i64 0) := (vf.cell 0).trans rfl
      have vf_1 : w6.cell? ⟨w2.heap.size + 1, 1, none⟩ = some (.int .i64 0) := (vf.cell 1).trans rfl
      have vy_l : w3.heap.size < w6.heap.size := vy.lt
      have vy_l1 : w3.heap.size < w6.heap.size + 1 := Nat.lt_succ_of_lt vy_l
      have vy_l2 : w3.heap.size < w6.heap.size + 1 + 1 := Nat.lt_succ_of_lt vy_l1
      have vy_0 : w6.cell? ⟨w3.heap.size, 0, none⟩ = some (.slice Ay y.length cy) := (vy.cell 0).trans rfl
      have vg_l : w3.heap.size + 1 < w6.heap.size := vg.lt
      have vg_l1 : w3.heap.size + 1 < w6.heap.size + 1 := Nat.lt_succ_of_lt vg_l
      have vg_l2 : w3.heap.size + 1 < w6.heap.size + 1 + 1 := Nat.lt_succ_of_lt vg_l1
      have vg_0 : w6.cell? ⟨w3.heap.size + 1, 0, none⟩ = some (.int .i64 0) := (vg.cell 0).trans rfl
      have vg_1 : w6.cell? ⟨w3.heap.size + 1, 1, none⟩ = some (.int .i64 0) := (vg.cell 1).trans rfl
      have ve1_l : w4.heap.size < w6.heap.size := ve1.lt
      have ve1_l1 : w4.heap.size < w6.heap.size + 1 := Nat.lt_succ_of_lt ve1_l
      have ve1_l2 : w4.heap.size < w6.heap.size + 1 + 1 := Nat.lt_succ_of_lt ve1_l1
      have ve1_0 : w6.cell? ⟨w4.heap.size, 0, none⟩ = some (.int .i64 0) := (ve1.cell 0).trans rfl
      have ve1_1 : w6.cell? ⟨w4.heap.size, 1, none⟩ = some (.int .i64 0) := (ve1.cell 1).trans rfl
      have ve2_l : w5.heap.size < w6.heap.size := ve2.lt
      have ve2_l1 : w5.heap.size < w6.heap.size + 1 := Nat.lt_succ_of_lt ve2_l
      have ve2_l2 : w5.heap.size < w6.heap.size + 1 + 1 := Nat.lt_succ_of_lt ve2_l1
      have ve2_0 : w6.cell? ⟨w5.heap.size, 0, none⟩ = some (.int .i64 0) := (ve2.cell 0).trans rfl
      have ve2_1 : w6.cell? ⟨w5.heap.size, 1, none⟩ = some (.int .i64 0) := (ve2.cell 1).trans rfl
      clear hb6'
      by_cases hdd : d = d2
      · have hn2 : (d == d2) = true := by simpa using hdd
        have hn1 : ((L.length : Int) == 0) = true := by rw [hS.2 hdd]; rfl
        clear hdd hS
        go_wp2_with fail
        go_ret
        exact ⟨rfl, HBm6.out⟩
      · have hn2 : (d == d2) = false := by simpa using hdd
        have hn1 : ((L.length : Int) == 0) = false := by
          have h9 : L ≠ [] := fun h => hdd (hS.1 h)
          have h8 := List.length_pos_iff.2 h9
          simp; omega
        clear hdd hS
        go_wp2_with fail
        go_ret
        exact ⟨rfl, HBm6.out⟩
end Go.Proofs.YtjljknocnebnaaaDoor
