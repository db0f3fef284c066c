/-
  ReflogNamesIndependent: the law's walk.
-/
import Derived.Test.YtfbbgnhelannjaaDoorRf33
import Derived.Test.YtfbbgnhelannjaaDoorRf34
import Derived.Test.YtfbbgnhelannjaaDoorView14
import Derived.Deep.RegionHeld3
namespace Rf
theorem rpF_cases (b : List R) (l : List E) : ((rpF b l).2.1 ≠ 0 ∧ (rpF b l).1 = []) ∨ (LOk b l ∧ rpF b l = (stAt b l l.length, (0, 0))) := by
  unfold rpF
  by_cases h1 : (lgF b l).1 ≠ 0
  · left; rw [if_pos h1]; exact ⟨h1, rfl⟩
  · right; rw [if_neg h1]
    exact ⟨(lgF_ok (by simpa using h1)).2, rfl⟩
theorem rpF_ok {b : List R} {l : List E} (h : LOk b l) : rpF b l = (stAt b l l.length, (0, 0)) := by
  unfold rpF; rw [h.f, if_neg (by decide)]
theorem ofF_ok {l : List E} (h : l.length ≤ 60) (n : Nm) : ofF l n = (ofL l n, (0, 0)) := by
  unfold ofF; rw [if_neg (by omega)]
/-- The references of one name. -/
def ownR (s : List R) (n : Nm) : List R := s.filter fun x => decide (x.name = n)
theorem ownR_len (s : List R) (n : Nm) : (ownR s n).length ≤ s.length := List.length_filter_le _ _
end Rf
namespace Go.Proofs.YtfbbgnhelannjaaDoor
open Go.RowKit Go.V Go.Shelf Go.Lib
set_option linter.unusedVariables false

theorem size_alloc_le (w : World) (o : Obj) : w.heap.size ≤ (w.alloc o).heap.size := by simp
theorem rC_one (x : Rf.R) : ∀ u ∈ ([strV x.name, .int .i64 x.tgt] : List Value), u.oneCell' = true := by
  intro v hv; simp at hv; rcases hv with rfl | rfl <;> rfl
structure LnSt (w wr : World) (gx kb : Nat) (A : Option Addr) (n k : Nat) (Ax : Option Addr) (xs : List Rf.R) (cx : Nat) (Al : Option Addr) (pl : List Rf.E) (v : Value) : Prop where
  bx : Blk wr w.heap.size 26 #[.slice A n k]
  bX : Blk wr gx 26 #[.slice Ax xs.length cx]
  bo : Blk wr kb 26 #[v]
  rx : SA wr (From kb) Ax (rsV xs)
  rl : SA wr (From kb) Al (esV pl)
  bel : Below w.heap.size w wr
  ord : w.heap.size < kb ∧ gx < kb
section
variable {w wr w' : World} {gx kb : Nat} {A : Option Addr} {n k : Nat} {Ax : Option Addr} {xs : List Rf.R} {cx : Nat} {Al : Option Addr} {pl : List Rf.E} {v : Value}
theorem LnSt.below (h : LnSt w wr gx kb A n k Ax xs cx Al pl v) (hb : Below wr.heap.size wr w') : LnSt w w' gx kb A n k Ax xs cx Al pl v :=
  ⟨h.bx.below hb h.bx.lt, h.bX.below hb h.bX.lt, h.bo.below hb h.bo.lt, h.rx.keep (Keeps.below hb fun _ _ h => h), h.rl.keep (Keeps.below hb fun _ _ h => h), h.bel.trans (hb.mono h.bel.size), h.ord⟩
theorem LnSt.grown (h : LnSt w wr gx kb A n k Ax xs cx Al pl v) {row : Option Nat} (hg : wr.grownBy w' row) (hr : ∀ b, row = some b → kb + 1 ≤ b) : LnSt w w' gx kb A n k Ax xs cx Al pl v := by
  obtain ⟨o1, o2⟩ := h.ord
  exact ⟨h.bx.grown hg (fun e => by have := hr _ e.symm; omega), h.bX.grown hg (fun e => by have := hr _ e.symm; omega), h.bo.grown hg (fun e => by have := hr _ e.symm; omega),
    h.rx.keep (Keeps.grown hg (fun b e _ => by have := hr b e; unfold From; omega) (fun _ _ h => h)), h.rl.keep (Keeps.grown hg (fun b e _ => by have := hr b e; unfold From; omega) (fun _ _ h => h)), h.bel.grown hg h.bel.size (fun b e => by have := hr b e; omega), h.ord⟩
theorem LnSt.set (h : LnSt w wr gx kb A n k Ax xs cx Al pl v) (v2 : Value) : LnSt w (wr.setCell ⟨kb, 0, none⟩ v2) gx kb A n k Ax xs cx Al pl v2 := by
  obtain ⟨o1, o2⟩ := h.ord
  exact ⟨h.bx.far (p := ⟨kb, 0, none⟩) (by simp only; omega) _, h.bX.far (p := ⟨kb, 0, none⟩) (by simp only; omega) _, by simpa using h.bo.set_ 0 v2,
    h.rx.keep (Keeps.setCell wr _ ⟨kb, 0, none⟩ v2 (Nat.le_refl kb)), h.rl.keep (Keeps.setCell wr _ ⟨kb, 0, none⟩ v2 (Nat.le_refl kb)), h.bel.setCell (p := ⟨kb, 0, none⟩) (show w.heap.size ≤ kb by omega) _, h.ord⟩
theorem LnSt.facts (h : LnSt w wr gx kb A n k Ax xs cx Al pl v) : wr.cell? ⟨w.heap.size, 0, none⟩ = some (.slice A n k) ∧ wr.cell? ⟨kb, 0, none⟩ = some v ∧ wr.frozen? ⟨kb, 0, none⟩ = false ∧ wr.cell? ⟨gx, 0, none⟩ = some (.slice Ax xs.length cx) ∧ w.heap.size < wr.heap.size ∧ kb < wr.heap.size ∧ gx < wr.heap.size :=
  ⟨(h.bx.cell 0).trans rfl, (h.bo.cell 0).trans rfl, h.bo.frozen 0, (h.bX.cell 0).trans rfl, h.bx.lt, h.bo.lt, h.bX.lt⟩
end
set_option maxRecDepth 100000 in
set_option maxHeartbeats 64000000 in
theorem law12_any (w : World) (hm : Mx w) (A : Option Addr) (k : Nat) (s : List Rf.R) (hv : SA w Free A (rsV s)) (hl : s.length * 24 ≤ 140737488351232) (hk : s.length ≤ k)
    (A2 : Option Addr) (k2 : Nat) (l : List Rf.E) (hv2 : SA w Free A2 (esV l)) (hl2 : l.length * 40 ≤ 140737488351232) (n : List UInt8) :
    Calls Tryd.prog 12 #[.agg #[.slice A s.length k], .slice A2 l.length k2, strV n] w fun e w' => e = .returned (.bool true) ∧ Below w.heap.size w w' := by
  obtain ⟨i0, hi0, hz0, hz1, hz2⟩ := info_parts info51
  have hM := Lib.hid hm
  have HMX := Lib.hid hm.fun_
  have V0 := Lib.hid hv
  have V2 := Lib.hid hv2
  have HV := Lib.hid (fun (w1 : World) (hb : Below w.heap.size w w1) => hv.keep (free_below hb))
  have HRC := Lib.hid (Rf.rpF_cases s l)
  have HOF := Lib.hid (fun h => Rf.ofF_ok (l := l) h n)
  have H32 := Lib.hid (fun (w1 : World) (hm : Mx w1) (hv : SA w1 Free A (rsV s)) (hv2 : SA w1 Free A2 (esV l)) => replay_any w1 hm A k s hv (by omega) hk A2 k2 l hv2)
  have H38 := Lib.hid (fun (w1 : World) (hv2 : SA w1 Free A2 (esV l)) => of_any w1 A2 k2 l n hv2 (by omega))
  have HNI := Lib.hid (fun (h : Rf.LOk s l) => Rf.names_indep h n)
  clear hm hv hv2
  generalize hr : Rf.rpF s l = r at *
  generalize hq : Rf.ofF l n = q at *
  clear hr hq
  have HB0 := Lib.hid (Below.refl w.heap.size w)
  go_enter Tryd.func12, Tryd.ntmps12
  have bx := Blk.new w 26 #[.slice A s.length k]
  have HBa1 := Lib.hid (HB0.out.alloc HB0.out.size (.cells #[.slice A s.length k] 26))
  replace hM := Lib.hid (hM.out.below (below_alloc1 w (.cells #[.slice A s.length k] 26)))
  replace V0 := Lib.hid (V0.out.keep (Keeps.alloc w _ (.cells #[.slice A s.length k] 26)))
  replace V2 := Lib.hid (V2.out.keep (Keeps.alloc w _ (.cells #[.slice A s.length k] 26)))
  go_wp2_with fail
  go_at_call 31
  refine (logExample_any _ hM.out).mono ?_
  rintro e w1 ⟨rfl, hb1'⟩
  have HBm1 := Lib.hid (HBa1.out.trans (hb1'.mono HBa1.out.size))
  replace bx := bx.below hb1' bx.lt
  replace hM := Lib.hid (hM.out.below hb1')
  replace V0 := Lib.hid (V0.out.keep (free_below hb1'))
  replace V2 := Lib.hid (V2.out.keep (free_below hb1'))
  have bx_l : w.heap.size < w1.heap.size := bx.lt
  have bx_l1 : w.heap.size < w1.heap.size + 1 := Nat.lt_succ_of_lt bx_l
  have bx_l2 : w.heap.size < w1.heap.size + 1 + 1 := Nat.lt_succ_of_lt bx_l1
  have bx_0 : w1.cell? ⟨w.heap.size, 0, none⟩ = some (.slice A s.length k) := (bx.cell 0).trans rfl
  clear hb1'
  obtain ⟨xs, c1, i1⟩ := r
  go_wp2_with fail
  go_at_call 32
  refine (H32.out _ hM.out V0.out V2.out).mono ?_
  rintro e w2 ⟨Ax, cx, rfl, hcx, hsx, hb2'⟩
  have HBm2 := Lib.hid (HBm1.out.trans (hb2'.mono HBm1.out.size))
  replace bx := bx.below hb2' bx.lt
  replace hM := Lib.hid (hM.out.below hb2')
  replace V0 := Lib.hid (V0.out.keep (free_below hb2'))
  replace V2 := Lib.hid (V2.out.keep (free_below hb2'))
  clear bx_l bx_l1 bx_l2 bx_0
  have bx_l : w.heap.size < w2.heap.size := bx.lt
  have bx_l1 : w.heap.size < w2.heap.size + 1 := Nat.lt_succ_of_lt bx_l
  have bx_l2 : w.heap.size < w2.heap.size + 1 + 1 := Nat.lt_succ_of_lt bx_l1
  have bx_0 : w2.cell? ⟨w.heap.size, 0, none⟩ = some (.slice A s.length k) := (bx.cell 0).trans rfl
  have Vx := Lib.hid (hsx.mono (X' := Free) (fun _ h => h.elim))
  clear hsx
  clear hb2'
  simp only at *
  replace bx := bx.alloc (.cells #[.slice Ax xs.length cx] 26)
  have x := Blk.new w2 26 #[.slice Ax xs.length cx]
  have HBa2 := Lib.hid (HBm2.out.alloc HBm2.out.size (.cells #[.slice Ax xs.length cx] 26))
  replace hM := Lib.hid (hM.out.below (below_alloc1 w2 (.cells #[.slice Ax xs.length cx] 26)))
  replace V0 := Lib.hid (V0.out.keep (Keeps.alloc w2 _ (.cells #[.slice Ax xs.length cx] 26)))
  replace V2 := Lib.hid (V2.out.keep (Keeps.alloc w2 _ (.cells #[.slice Ax xs.length cx] 26)))
  replace Vx := Lib.hid (Vx.out.keep (Keeps.alloc w2 _ (.cells #[.slice Ax xs.length cx] 26)))
  replace bx := bx.alloc (.cells #[.int .i64 c1, .int .i64 i1] 30)
  replace x := x.alloc (.cells #[.int .i64 c1, .int .i64 i1] 30)
  have f : Blk ((w2.alloc (.cells #[.slice Ax xs.length cx] 26)).alloc (.cells #[.int .i64 c1, .int .i64 i1] 30)) (w2.heap.size + 1) 30 #[.int .i64 c1, .int .i64 i1] := by simpa using Blk.new (w2.alloc (.cells #[.slice Ax xs.length cx] 26)) 30 #[.int .i64 c1, .int .i64 i1]
  have HBa3 := Lib.hid (HBa2.out.alloc HBa2.out.size (.cells #[.int .i64 c1, .int .i64 i1] 30))
  replace hM := Lib.hid (hM.out.below (below_alloc1 (w2.alloc (.cells #[.slice Ax xs.length cx] 26)) (.cells #[.int .i64 c1, .int .i64 i1] 30)))
  replace V0 := Lib.hid (V0.out.keep (Keeps.alloc (w2.alloc (.cells #[.slice Ax xs.length cx] 26)) _ (.cells #[.int .i64 c1, .int .i64 i1] 30)))
  replace V2 := Lib.hid (V2.out.keep (Keeps.alloc (w2.alloc (.cells #[.slice Ax xs.length cx] 26)) _ (.cells #[.int .i64 c1, .int .i64 i1] 30)))
  replace Vx := Lib.hid (Vx.out.keep (Keeps.alloc (w2.alloc (.cells #[.slice Ax xs.length cx] 26)) _ (.cells #[.int .i64 c1, .int .i64 i1] 30)))
  obtain ⟨pl, c2, i2⟩ := q
  go_wp2_with fail
  go_at_call 38
  refine (H38.out _ V2.out).mono ?_
  rintro e w3 ⟨Al, cl, rfl, hcl, hsl, hb3'⟩
  have HBm3 := Lib.hid (HBa3.out.trans (hb3'.mono HBa3.out.size))
  replace bx := bx.below hb3' bx.lt
  replace x := x.below hb3' x.lt
  replace f := f.below hb3' f.lt
  replace hM := Lib.hid (hM.out.below hb3')
  replace V0 := Lib.hid (V0.out.keep (free_below hb3'))
  replace V2 := Lib.hid (V2.out.keep (free_below hb3'))
  replace Vx := Lib.hid (Vx.out.keep (free_below hb3'))
  clear bx_l bx_l1 bx_l2 bx_0
  have bx_l : w.heap.size < w3.heap.size := bx.lt
  have bx_l1 : w.heap.size < w3.heap.size + 1 := Nat.lt_succ_of_lt bx_l
  have bx_l2 : w.heap.size < w3.heap.size + 1 + 1 := Nat.lt_succ_of_lt bx_l1
  have bx_0 : w3.cell? ⟨w.heap.size, 0, none⟩ = some (.slice A s.length k) := (bx.cell 0).trans rfl
  have x_l : w2.heap.size < w3.heap.size := x.lt
  have x_l1 : w2.heap.size < w3.heap.size + 1 := Nat.lt_succ_of_lt x_l
  have x_l2 : w2.heap.size < w3.heap.size + 1 + 1 := Nat.lt_succ_of_lt x_l1
  have x_0 : w3.cell? ⟨w2.heap.size, 0, none⟩ = some (.slice Ax xs.length cx) := (x.cell 0).trans rfl
  have f_l : w2.heap.size + 1 < w3.heap.size := f.lt
  have f_l1 : w2.heap.size + 1 < w3.heap.size + 1 := Nat.lt_succ_of_lt f_l
  have f_l2 : w2.heap.size + 1 < w3.heap.size + 1 + 1 := Nat.lt_succ_of_lt f_l1
  have f_0 : w3.cell? ⟨w2.heap.size + 1, 0, none⟩ = some (.int .i64 c1) := (f.cell 0).trans rfl
  have f_1 : w3.cell? ⟨w2.heap.size + 1, 1, none⟩ = some (.int .i64 i1) := (f.cell 1).trans rfl
  have Vl := Lib.hid (hsl.mono (X' := Free) (fun _ h => h.elim))
  clear hsl
  clear hb3'
  simp only at *
  have hw3 : w.heap.size < w3.heap.size := bx_l
  have hw4 : w2.heap.size < w3.heap.size := x_l
  replace bx := bx.alloc (.cells #[.int .i64 c2, .int .i64 i2] 30)
  replace x := x.alloc (.cells #[.int .i64 c2, .int .i64 i2] 30)
  replace f := f.alloc (.cells #[.int .i64 c2, .int .i64 i2] 30)
  have g := Blk.new w3 30 #[.int .i64 c2, .int .i64 i2]
  have HBa4 := Lib.hid (HBm3.out.alloc HBm3.out.size (.cells #[.int .i64 c2, .int .i64 i2] 30))
  replace hM := Lib.hid (hM.out.below (below_alloc1 w3 (.cells #[.int .i64 c2, .int .i64 i2] 30)))
  replace V0 := Lib.hid (V0.out.keep (Keeps.alloc w3 _ (.cells #[.int .i64 c2, .int .i64 i2] 30)))
  replace V2 := Lib.hid (V2.out.keep (Keeps.alloc w3 _ (.cells #[.int .i64 c2, .int .i64 i2] 30)))
  replace Vx := Lib.hid (Vx.out.keep (Keeps.alloc w3 _ (.cells #[.int .i64 c2, .int .i64 i2] 30)))
  replace Vl := Lib.hid (Vl.out.keep (Keeps.alloc w3 _ (.cells #[.int .i64 c2, .int .i64 i2] 30)))
  rcases HRC.out with ⟨hc, hx⟩ | ⟨hok, he⟩
  · have hx1 : (c1 == 0) = false := by simpa using hc
    have hx2 : (c1 != 0) = true := by simpa using hc
    subst hx
    clear HRC HOF H32 H38 HNI hc
    go_wp2_with fail
    go_ret
    exact ⟨by simp, HBa4.out⟩
  · injection he with e1 e2
    injection e2 with e2 e3
    subst e2
    subst e3
    have hof := HOF.out hok.len
    injection hof with e4 e5
    injection e5 with e5 e6
    subst e5
    subst e6
    have HE1 := Lib.hid e1
    have HE4 := Lib.hid e4
    have HNI2 := Lib.hid (HNI.out hok)
    have hsl30 := hok.base.len
    have hxl : xs.length ≤ 31 := by rw [e1]; have := (hok.stOk l.length).len; omega
    clear e1 e4 HOF HRC HNI hok H32 H38
    have st0 : LnSt w ((w3.alloc (.cells #[.int .i64 0, .int .i64 0] 30)).alloc (.cells #[.slice none 0 0] 26)) w2.heap.size (w3.heap.size + 1) A s.length k Ax xs cx Al pl (.slice none 0 0) := ⟨bx.alloc _, x.alloc _, by simpa using Blk.new (w3.alloc (.cells #[.int .i64 0, .int .i64 0] 30)) 26 #[.slice none 0 0], Vx.out.keep (Keeps.below (below_alloc1 _ _) (fun b hb hX => by unfold From at hX; simp at hb; omega)), Vl.out.keep (Keeps.below (below_alloc1 _ _) (fun b hb hX => by unfold From at hX; simp at hb; omega)), HBa4.out.alloc HBa4.out.size _, by omega, by omega⟩
    have hown0 := World.ownsRow_nil ((w3.alloc (.cells #[.int .i64 0, .int .i64 0] 30)).alloc (.cells #[.slice none 0 0] 26)) (w3.heap.size + 1 + 1) 51 2
    go_wp2_with fail
    clear bx_l bx_l1 bx_l2 bx_0 x_l x_l1 x_l2 x_0 f_l f_l1 f_l2 f_0 f_1
    clear bx f g x V0 Vl Vx hM V2 HBm1 HBm2 HBm3 HBa1 HBa2 HBa3 HBa4 HB0 hw3 hw4
    obtain ⟨kb, hkb⟩ : ∃ kb, kb = w3.heap.size + 1 := ⟨_, rfl⟩
    obtain ⟨gx, hgx⟩ : ∃ gx, gx = w2.heap.size := ⟨_, rfl⟩
    simp only [← hkb, ← hgx] at *
    go_loopw [12] (fun iv wr => ∃ (i : Nat) (o : List Rf.R) (A' : Option Addr) (c' : Nat), i ≤ s.length ∧ iv = .int .i64 i ∧ o.length ≤ i ∧ Hid (o = Rf.ownR (s.take i) n) ∧ LnSt w wr gx kb A s.length k Ax xs cx Al pl (.slice A' o.length c') ∧ wr.ownsRow (kb + 1) 51 2 (.slice A' o.length c') o.length (rsV o)) (fun iv _ => s.length - (intOf iv).toNat)
    case atStart => exact ⟨0, [], none, 0, Nat.zero_le _, rfl, Nat.le_refl _, Lib.hid rfl, st0, hown0⟩
    case round =>
      obtain ⟨i, o, A', c', hi, rfl, hol, HO, st, hown⟩ := hrel
      obtain ⟨wo, rfl⟩ : ∃ wo : World, wo = wr := ⟨_, rfl⟩
      obtain ⟨a0, a1, a2, a3, l0, l1, l2⟩ := st.facts
      by_cases hlt : i < s.length
      · have hlt' : (i : Int) < s.length := by omega
        obtain ⟨b, off, e, hbb, _, d0, d1⟩ := rsV_row (HV.out _ st.bel) i hlt
        subst e
        have HT : Hid (s.take (i + 1) = s.take i ++ [Rf.it s i]) := Lib.hid (by rw [List.take_succ_eq_append_getElem hlt, Rf.it_eq s i hlt])
        generalize Rf.it s i = x at *
        by_cases hp : x.name = n
        · have HN2 : Hid (o ++ [x] = Rf.ownR (s.take (i + 1)) n) := Lib.hid (by rw [HT.out, HO.out]; unfold Rf.ownR; rw [List.filter_append]; simp [hp])
          have hp1 : (x.name == n) = true := by simpa using hp
          clear HT HO hp
          have h63 : o.length + 1 ≤ maxLen := by unfold maxLen; omega
          have hby : (o.length + 1) * 24 ≤ 140737488355328 := by omega
          have hub : ∀ b, (Value.slice A' o.length c').ownBlock = some b → kb + 1 ≤ b := fun b e => (hown.lt b e).1
          go_wp2_with fail
          go_region_law
            (first
              | (refine step_appNo _ rfl (.tmp 63) (.tmp 69) 24 rfl (kb + 1) 51 i0 _ 2 24 Tryd.underlying24 hi0 hz0 hz1 hz2 rfl (by decide) A' o.length c' (rsV o) rfl (hown.alloc _).drew wo.heap.size 1 [strV x.name, .int .i64 x.tgt] rfl rfl (fun j v hj => cells_new wo #[strV x.name, .int .i64 x.tgt] 51 j v hj) (rC_one x) h63 hby (Nat.le_trans (Nat.succ_le_of_lt l1) (size_alloc_le _ _)) ?_; intro ge ce wz hown4 hg4 hob4; have s4 := (st.below (below_drew' (below_alloc1 wo (.cells #[strV x.name, .int .i64 x.tgt] 51)))).grown hg4 hub; obtain ⟨r0, r1, r2, r3, m0, m1, m2⟩ := s4.facts))
          all_goals
            have hne2 : some kb ≠ (Value.slice (some ⟨ge, 0, none⟩) (o.length + 1) ce).ownBlock := fun e => by have := (hown4.lt _ e.symm).1; omega
            have s5 := s4.set (.slice (some ⟨ge, 0, none⟩) (o.length + 1) ce)
            have own5 := own_setCell (p := ⟨kb, 0, none⟩) hown4 hne2 (.slice (some ⟨ge, 0, none⟩) (o.length + 1) ce)
            have eo5 : rsV o ++ [strV x.name, .int .i64 x.tgt] = rsV (o ++ [x]) := rsV_snoc o x
            rw [eo5] at own5
            have hol3 : (o ++ [x]).length = o.length + 1 := by simp
            clear hown4 hg4 hob4 s4 eo5
            go_wp2_with fail
            go_roundw
            case rel => exact ⟨i + 1, o ++ [x], _, ce, by omega, by go_num, by simp; omega, HN2, by rw [hol3]; exact s5, by rw [hol3]; exact own5⟩
            case measure => simp [intOf]; omega
        · have HN2 : Hid (o = Rf.ownR (s.take (i + 1)) n) := Lib.hid (by rw [HT.out, HO.out]; unfold Rf.ownR; rw [List.filter_append]; simp [hp])
          have hp1 : (x.name == n) = false := by simpa using hp
          clear HT HO hp
          go_wp2_with fail
          go_roundw
          case rel => exact ⟨i + 1, o, A', c', by omega, by go_num, by omega, HN2, st, hown⟩
          case measure => simp [intOf]; omega
      · obtain rfl : i = s.length := by omega
        have hO : o = Rf.ownR s n := by rw [HO.out, List.take_length]
        clear HO
        have hcap : o.length ≤ c' := by
          obtain ⟨A'', c'', e1, hcc, _⟩ := own_form hown
          injection e1 with _ _ e3
          subst e3; exact hcc
        have HRP : Hid (Calls Tryd.prog 32 #[.agg #[.slice A' o.length c'], .slice Al pl.length cl] wo (UpPost wo (Rf.stAt o pl pl.length, (0, 0)))) := Lib.hid (by
          have h := replay_any wo (HMX.out _ st.bel) A' c' o (SA.of_own' hown (fun _ _ h => h)) (by omega) hcap Al cl pl (st.rl.mono (fun _ h => h.elim))
          rw [Rf.rpF_ok (by rw [hO, HE4.out]; exact HNI2.out.1)] at h
          exact h)
        have HTE : Hid (Rf.tgtOf (Rf.stAt o pl pl.length) n = Rf.tgtOf xs n) := Lib.hid (by rw [hO, HE4.out, HE1.out]; exact HNI2.out.2)
        have hyl : (Rf.stAt o pl pl.length).length ≤ 30 := by
          have h := (HNI2.out.1.stOk (Rf.ofL l n).length).len
          rw [hO, HE4.out]; exact h
        clear hO HNI2 HE1 HE4
        generalize Rf.stAt o pl pl.length = ys at *
        go_wp2_with fail
        go_at_call 32
        refine HRP.out.mono ?_
        rintro e w8 ⟨Ay, cy, rfl, hcy, hsy, hb8⟩
        simp only at hcy hsy
        have st8 := st.below hb8
        have st9 := st8.below (below_alloc2 w8 (.cells #[.slice Ay ys.length cy] 26) (.cells #[.int .i64 0, .int .i64 0] 30))
        have hy9 : SA ((w8.alloc (.cells #[.slice Ay ys.length cy] 26)).alloc (.cells #[.int .i64 0, .int .i64 0] 30)) Free Ay (rsV ys) := (hsy.mono (X' := Free) fun _ h => h.elim).keep ((Keeps.alloc _ _ _).trans (Keeps.alloc _ _ _))
        have by9 : Blk ((w8.alloc (.cells #[.slice Ay ys.length cy] 26)).alloc (.cells #[.int .i64 0, .int .i64 0] 30)) w8.heap.size 26 #[.slice Ay ys.length cy] := (Blk.new _ _ _).alloc _
        have bh9 := blk_new1 w8 (.cells #[.slice Ay ys.length cy] 26) 30 #[.int .i64 0, .int .i64 0]
        clear HRP st hb8 hown a0 a1 a2 a3 l0 l1 l2 hsy st8
        go_wp2_with fail
        generalize (w8.alloc (.cells #[.slice Ay ys.length cy] 26)).alloc (.cells #[.int .i64 0, .int .i64 0] 30) = wz at *
        have HK : Hid (∀ w6 : World, Below wz.heap.size wz w6 → w6.cell? ⟨gx, 0, none⟩ = some (.slice Ax xs.length cx) ∧ w6.cell? ⟨w8.heap.size, 0, none⟩ = some (.slice Ay ys.length cy) ∧ w6.cell? ⟨w8.heap.size + 1, 0, none⟩ = some (.int .i64 0)) := Lib.hid fun w6 h6 => ⟨(h6.cell (p := ⟨_, _, none⟩) st9.bX.lt).trans ((st9.bX.cell 0).trans rfl), (h6.cell (p := ⟨_, _, none⟩) by9.lt).trans ((by9.cell 0).trans rfl), (h6.cell (p := ⟨_, _, none⟩) bh9.lt).trans ((bh9.cell 0).trans rfl)⟩
        have hk0 : Below wz.heap.size wz wz.drew := below_drew' (Below.refl _ _)
        have HTX := Lib.hid (fun (w6 : World) (h6 : Below wz.heap.size wz w6) => refTarget_any w6 Ax cx xs n ((st9.rx.mono (X' := Free) fun _ h => h.elim).keep (free_below h6)) (by omega))
        have HTY := Lib.hid (fun (w6 : World) (h6 : Below wz.heap.size wz w6) => by
          have h := refTarget_any w6 Ay cy ys n (hy9.keep (free_below h6)) (by omega)
          rw [HTE.out] at h
          exact h)
        have hbz := Lib.hid st9.bel
        generalize Rf.tgtOf xs n = tg at *
        have htt : (tg == tg) = true := by simp
        clear st9 hy9 by9 bh9 HTE
        go_region_held3 (fun w6 => w6.cell? ⟨gx, 0, none⟩ = some (.slice Ax xs.length cx) ∧ w6.cell? ⟨w8.heap.size, 0, none⟩ = some (.slice Ay ys.length cy) ∧ w6.cell? ⟨w8.heap.size + 1, 0, none⟩ = some (.int .i64 0))
          (first | exact HK.out _ hk0 | exact HK.out _ hk1 | exact HK.out _ hk2)
          (first | (go_at_call 30; (with_reducible refine (HTX.out _ hk0).mono ?_); rintro e v1 ⟨rfl, hv1⟩; have hk1 : Below wz.heap.size wz v1 := hk0.trans (hv1.mono hk0.size)) | (go_at_call 30; (with_reducible refine (HTY.out _ hk1).mono ?_); rintro e v2 ⟨rfl, hv2⟩; have hk2 : Below wz.heap.size wz v2 := hk1.trans (hv2.mono hk1.size)))
        have hbf := hbz.out.trans (hk2.mono hbz.out.size)
        go_wp2_with fail
        go_ret
        exact ⟨by simp, hbf⟩
end Go.Proofs.YtfbbgnhelannjaaDoor
