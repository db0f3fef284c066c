/-
  RefsGetMatchesSpec: the law's walk.
-/
import Derived.Test.YtfbbgnhelannjaaDoorRf21
import Derived.Test.YtfbbgnhelannjaaDoorRf25
namespace Rf
theorem pre_len (s : List R) (p : Nm) : (pre s p).length ≤ s.length := List.length_filter_le _ _
theorem getF_ok {s : List R} (h : Ok s) (n : Nm) : (nameOk n = false ∧ getF s n = (0, (12, -1))) ∨ (nameOk n = true ∧ tgtOf s n < 0 ∧ getF s n = (0, (6, -1))) ∨ (nameOk n = true ∧ 0 ≤ tgtOf s n ∧ getF s n = (tgtOf s n, (0, 0))) := by
  unfold getF
  rw [if_neg (by rw [h.f]; decide)]
  by_cases h1 : nameOk n = false
  · left; exact ⟨h1, by rw [if_pos h1]⟩
  · right
    rw [if_neg h1]
    have h1' : nameOk n = true := by simpa using h1
    cases hf : fnd s n with
    | false => left; exact ⟨h1', by rw [tgt_nofnd h.srt hf]; decide, by rw [if_pos rfl]⟩
    | true =>
      right
      obtain ⟨k1, k2, k3⟩ := tgt_fnd h.srt hf
      have hm : it s (lb s n) ∈ s := by rw [← it_eq s _ k1]; exact List.getElem_mem k1
      have ht := h.tgt _ hm
      unfold dgOk at ht
      rw [Bool.and_eq_true] at ht
      exact ⟨h1', by rw [k3]; simpa using ht.1, by rw [if_neg (by decide), k3]⟩
end Rf
namespace Go.Proofs.YtfbbgnhelannjaaDoor
open Go.RowKit Go.V Go.Shelf Go.Lib
set_option linter.unusedVariables false

theorem hasPrefix_take (a b : List UInt8) (h : b.length ≤ a.length) : (a.take b.length == b) = hasPrefix a b := by
  unfold hasPrefix
  rw [Bool.eq_iff_iff, beq_iff_eq, List.isPrefixOf_iff_prefix, List.prefix_iff_eq_take]
  exact eq_comm
theorem hasPrefix_short (a b : List UInt8) (h : a.length < b.length) : hasPrefix a b = false := by
  unfold hasPrefix
  rw [Bool.eq_false_iff]
  intro hp
  have := (List.isPrefixOf_iff_prefix.1 hp).length_le
  omega
structure L9St (w wr : World) (f fl kb : Nat) (A : Option Addr) (n k : Nat) (c1 i1 c2 i2 : Int) (Al : Option Addr) (pl : List Rf.R) (v : Value) : Prop where
  bx : Blk wr w.heap.size 26 #[.slice A n k]
  bf : Blk wr f 30 #[.int .i64 c1, .int .i64 i1]
  bl : Blk wr fl 30 #[.int .i64 c2, .int .i64 i2]
  bo : Blk wr kb 26 #[v]
  row : SA wr (From kb) Al (rsV pl)
  bel : Below w.heap.size w wr
  ord : w.heap.size < kb ∧ f < kb ∧ fl < kb
section
variable {w wr w' : World} {f fl kb : Nat} {A : Option Addr} {n k : Nat} {c1 i1 c2 i2 : Int} {Al : Option Addr} {pl : List Rf.R} {v : Value}
theorem L9St.below (h : L9St w wr f fl kb A n k c1 i1 c2 i2 Al pl v) (hb : Below wr.heap.size wr w') : L9St w w' f fl kb A n k c1 i1 c2 i2 Al pl v :=
  ⟨h.bx.below hb h.bx.lt, h.bf.below hb h.bf.lt, h.bl.below hb h.bl.lt, h.bo.below hb h.bo.lt, h.row.keep (Keeps.below hb fun _ _ h => h), h.bel.trans (hb.mono h.bel.size), h.ord⟩
theorem L9St.grown (h : L9St w wr f fl kb A n k c1 i1 c2 i2 Al pl v) {row : Option Nat} (hg : wr.grownBy w' row) (hr : ∀ b, row = some b → kb + 1 ≤ b) : L9St w w' f fl kb A n k c1 i1 c2 i2 Al pl v := by
  obtain ⟨o1, o2, o3⟩ := h.ord
  exact ⟨h.bx.grown hg (fun e => by have := hr _ e.symm; omega), h.bf.grown hg (fun e => by have := hr _ e.symm; omega), h.bl.grown hg (fun e => by have := hr _ e.symm; omega), h.bo.grown hg (fun e => by have := hr _ e.symm; omega),
    h.row.keep (Keeps.grown hg (fun b e _ => by have := hr b e; unfold From; omega) (fun _ _ h => h)), h.bel.grown hg h.bel.size (fun b e => by have := hr b e; omega), h.ord⟩
theorem L9St.set (h : L9St w wr f fl kb A n k c1 i1 c2 i2 Al pl v) (v2 : Value) : L9St w (wr.setCell ⟨kb, 0, none⟩ v2) f fl kb A n k c1 i1 c2 i2 Al pl v2 := by
  obtain ⟨o1, o2, o3⟩ := h.ord
  exact ⟨h.bx.far (p := ⟨kb, 0, none⟩) (by simp only; omega) _, h.bf.far (p := ⟨kb, 0, none⟩) (by simp only; omega) _, h.bl.far (p := ⟨kb, 0, none⟩) (by simp only; omega) _, by simpa using h.bo.set_ 0 v2,
    h.row.keep (Keeps.setCell wr _ ⟨kb, 0, none⟩ v2 (Nat.le_refl kb)), h.bel.setCell (p := ⟨kb, 0, none⟩) (show w.heap.size ≤ kb by omega) _, h.ord⟩
theorem L9St.facts (h : L9St w wr f fl kb A n k c1 i1 c2 i2 Al pl v) : wr.cell? ⟨w.heap.size, 0, none⟩ = some (.slice A n k) ∧ wr.cell? ⟨kb, 0, none⟩ = some v ∧ wr.frozen? ⟨kb, 0, none⟩ = false ∧ w.heap.size < wr.heap.size ∧ kb < wr.heap.size :=
  ⟨(h.bx.cell 0).trans rfl, (h.bo.cell 0).trans rfl, h.bo.frozen 0, h.bx.lt, h.bo.lt⟩
theorem L9St.facts2 (h : L9St w wr f fl kb A n k c1 i1 c2 i2 Al pl v) : wr.cell? ⟨f, 0, none⟩ = some (.int .i64 c1) ∧ wr.cell? ⟨f, 1, none⟩ = some (.int .i64 i1) ∧ wr.cell? ⟨fl, 0, none⟩ = some (.int .i64 c2) ∧ wr.cell? ⟨fl, 1, none⟩ = some (.int .i64 i2) ∧ f < wr.heap.size ∧ fl < wr.heap.size :=
  ⟨(h.bf.cell 0).trans rfl, (h.bf.cell 1).trans rfl, (h.bl.cell 0).trans rfl, (h.bl.cell 1).trans rfl, h.bf.lt, h.bl.lt⟩
end
set_option maxRecDepth 100000 in
set_option maxHeartbeats 64000000 in
theorem law9_any (w : World) (hm : Mx w) (A : Option Addr) (k : Nat) (s : List Rf.R) (hv : SA w Free A (rsV s)) (hl : s.length * 24 ≤ 140737488351232) (hk : s.length ≤ k) (n p : List UInt8) (hp : p.length ≤ 140737488351232) :
    Calls Tryd.prog 9 #[.agg #[.slice A s.length k], strV n, strV p] w fun e w' => e = .returned (.bool true) ∧ Below w.heap.size w w' := by
  obtain ⟨i0, hi0, hz0, hz1, hz2⟩ := info_parts info51
  have hM := Lib.hid hm
  have V0 := Lib.hid hv
  have hv0 := Lib.hid (fun (w1 : World) (hb : Below w.heap.size w w1) => hv.keep (free_below hb))
  have HGF := Lib.hid (Rf.getF.eq_1 s n)
  have HLF := Lib.hid (Rf.lsF.eq_1 s p)
  have H27 := Lib.hid (fun (w1 : World) (hm : Mx w1) (hv : SA w1 Free A (rsV s)) => get_any w1 hm A k s n hv (by omega) hk)
  have H28 := Lib.hid (fun (w1 : World) (hm : Mx w1) (hv : SA w1 Free A (rsV s)) => list_any w1 hm A k s p hv (by omega) hk)
  have H19 := Lib.hid (fun (w1 : World) (hv : SA w1 Free A (rsV s)) => refsFault_any w1 A k s hv (by omega))
  have H29 := Lib.hid (fun (w1 : World) (hm : Mx w1) (hv : SA w1 Free A (rsV s)) => validate_any w1 hm A k s hv (by omega) hk)
  have H30 := Lib.hid (fun (w1 : World) (hv : SA w1 Free A (rsV s)) => refTarget_any w1 A k s n hv (by omega))
  clear hm hv
  have HB0 := Lib.hid (Below.refl w.heap.size w)
  go_enter Tryd.func9, Tryd.ntmps9
  have bx := Blk.new w 26 #[.slice A s.length k]
  have HBa1 := Lib.hid (HB0.out.alloc HB0.out.size (.cells #[.slice A s.length k] 26))
  replace hM := Lib.hid (hM.out.below (below_alloc1 w (.cells #[.slice A s.length k] 26)))
  replace V0 := Lib.hid (V0.out.keep (Keeps.alloc w _ (.cells #[.slice A s.length k] 26)))
  go_wp2_with fail
  go_at_call 15
  refine (example_any _ hM.out).mono ?_
  rintro e w1 ⟨rfl, hb1'⟩
  have HBm1 := Lib.hid (HBa1.out.trans (hb1'.mono HBa1.out.size))
  replace bx := bx.below hb1' bx.lt
  replace hM := Lib.hid (hM.out.below hb1')
  replace V0 := Lib.hid (V0.out.keep (free_below hb1'))
  have bx_l : w.heap.size < w1.heap.size := bx.lt
  have bx_l1 : w.heap.size < w1.heap.size + 1 := Nat.lt_succ_of_lt bx_l
  have bx_l2 : w.heap.size < w1.heap.size + 1 + 1 := Nat.lt_succ_of_lt bx_l1
  have bx_0 : w1.cell? ⟨w.heap.size, 0, none⟩ = some (.slice A s.length k) := (bx.cell 0).trans rfl
  clear hb1'
  generalize hgr : Rf.getF s n = gr at *
  generalize hlr : Rf.lsF s p = lr at *
  have HGR := Lib.hid hgr
  have HLR := Lib.hid hlr
  clear hgr hlr
  obtain ⟨gt, c1, i1⟩ := gr
  obtain ⟨pl, c2, i2⟩ := lr
  go_wp2_with fail
  go_at_call 27
  refine (H27.out _ hM.out V0.out).mono ?_
  rintro e w2 ⟨rfl, hb2'⟩
  have HBm2 := Lib.hid (HBm1.out.trans (hb2'.mono HBm1.out.size))
  replace bx := bx.below hb2' bx.lt
  replace hM := Lib.hid (hM.out.below hb2')
  replace V0 := Lib.hid (V0.out.keep (free_below hb2'))
  clear bx_l bx_l1 bx_l2 bx_0
  have bx_l : w.heap.size < w2.heap.size := bx.lt
  have bx_l1 : w.heap.size < w2.heap.size + 1 := Nat.lt_succ_of_lt bx_l
  have bx_l2 : w.heap.size < w2.heap.size + 1 + 1 := Nat.lt_succ_of_lt bx_l1
  have bx_0 : w2.cell? ⟨w.heap.size, 0, none⟩ = some (.slice A s.length k) := (bx.cell 0).trans rfl
  clear hb2'
  replace bx := bx.alloc (.cells #[.int .i64 c1, .int .i64 i1] 30)
  have f := Blk.new w2 30 #[.int .i64 c1, .int .i64 i1]
  have HBa2 := Lib.hid (HBm2.out.alloc HBm2.out.size (.cells #[.int .i64 c1, .int .i64 i1] 30))
  replace hM := Lib.hid (hM.out.below (below_alloc1 w2 (.cells #[.int .i64 c1, .int .i64 i1] 30)))
  replace V0 := Lib.hid (V0.out.keep (Keeps.alloc w2 _ (.cells #[.int .i64 c1, .int .i64 i1] 30)))
  go_wp2_with fail
  go_at_call 28
  refine (H28.out _ hM.out V0.out).mono ?_
  rintro e w3 ⟨Al, cl, rfl, hcl, hsl, hb3'⟩
  have HBm3 := Lib.hid (HBa2.out.trans (hb3'.mono HBa2.out.size))
  replace bx := bx.below hb3' bx.lt
  replace f := f.below hb3' f.lt
  replace hM := Lib.hid (hM.out.below hb3')
  replace V0 := Lib.hid (V0.out.keep (free_below hb3'))
  clear bx_l bx_l1 bx_l2 bx_0
  have bx_l : w.heap.size < w3.heap.size := bx.lt
  have bx_l1 : w.heap.size < w3.heap.size + 1 := Nat.lt_succ_of_lt bx_l
  have bx_l2 : w.heap.size < w3.heap.size + 1 + 1 := Nat.lt_succ_of_lt bx_l1
  have bx_0 : w3.cell? ⟨w.heap.size, 0, none⟩ = some (.slice A s.length k) := (bx.cell 0).trans rfl
  have f_l : w2.heap.size < w3.heap.size := f.lt
  have f_l1 : w2.heap.size < w3.heap.size + 1 := Nat.lt_succ_of_lt f_l
  have f_l2 : w2.heap.size < w3.heap.size + 1 + 1 := Nat.lt_succ_of_lt f_l1
  have f_0 : w3.cell? ⟨w2.heap.size, 0, none⟩ = some (.int .i64 c1) := (f.cell 0).trans rfl
  have f_1 : w3.cell? ⟨w2.heap.size, 1, none⟩ = some (.int .i64 i1) := (f.cell 1).trans rfl
  have Vl := Lib.hid (hsl.mono (X' := Free) (fun _ h => h.elim))
  clear hsl
  clear hb3'
  have hw3 : w.heap.size < w3.heap.size := bx_l
  replace bx := bx.alloc (.cells #[.int .i64 c2, .int .i64 i2] 30)
  replace f := f.alloc (.cells #[.int .i64 c2, .int .i64 i2] 30)
  have g := Blk.new w3 30 #[.int .i64 c2, .int .i64 i2]
  have HBa3 := Lib.hid (HBm3.out.alloc HBm3.out.size (.cells #[.int .i64 c2, .int .i64 i2] 30))
  replace hM := Lib.hid (hM.out.below (below_alloc1 w3 (.cells #[.int .i64 c2, .int .i64 i2] 30)))
  replace V0 := Lib.hid (V0.out.keep (Keeps.alloc w3 _ (.cells #[.int .i64 c2, .int .i64 i2] 30)))
  replace Vl := Lib.hid (Vl.out.keep (Keeps.alloc w3 _ (.cells #[.int .i64 c2, .int .i64 i2] 30)))
  go_wp2_with fail
  go_at_call 19
  refine (H19.out _ V0.out).mono ?_
  rintro e w4 ⟨rfl, hb4'⟩
  have HBm4 := Lib.hid (HBa3.out.trans (hb4'.mono HBa3.out.size))
  replace bx := bx.below hb4' bx.lt
  replace f := f.below hb4' f.lt
  replace g := g.below hb4' g.lt
  replace hM := Lib.hid (hM.out.below hb4')
  replace V0 := Lib.hid (V0.out.keep (free_below hb4'))
  replace Vl := Lib.hid (Vl.out.keep (free_below hb4'))
  clear bx_l bx_l1 bx_l2 bx_0 f_l f_l1 f_l2 f_0 f_1
  have bx_l : w.heap.size < w4.heap.size := bx.lt
  have bx_l1 : w.heap.size < w4.heap.size + 1 := Nat.lt_succ_of_lt bx_l
  have bx_l2 : w.heap.size < w4.heap.size + 1 + 1 := Nat.lt_succ_of_lt bx_l1
  have bx_0 : w4.cell? ⟨w.heap.size, 0, none⟩ = some (.slice A s.length k) := (bx.cell 0).trans rfl
  have f_l : w2.heap.size < w4.heap.size := f.lt
  have f_l1 : w2.heap.size < w4.heap.size + 1 := Nat.lt_succ_of_lt f_l
  have f_l2 : w2.heap.size < w4.heap.size + 1 + 1 := Nat.lt_succ_of_lt f_l1
  have f_0 : w4.cell? ⟨w2.heap.size, 0, none⟩ = some (.int .i64 c1) := (f.cell 0).trans rfl
  have f_1 : w4.cell? ⟨w2.heap.size, 1, none⟩ = some (.int .i64 i1) := (f.cell 1).trans rfl
  have g_l : w3.heap.size < w4.heap.size := g.lt
  have g_l1 : w3.heap.size < w4.heap.size + 1 := Nat.lt_succ_of_lt g_l
  have g_l2 : w3.heap.size < w4.heap.size + 1 + 1 := Nat.lt_succ_of_lt g_l1
  have g_0 : w4.cell? ⟨w3.heap.size, 0, none⟩ = some (.int .i64 c2) := (g.cell 0).trans rfl
  have g_1 : w4.cell? ⟨w3.heap.size, 1, none⟩ = some (.int .i64 i2) := (g.cell 1).trans rfl
  clear hb4'
  have hw4 : w3.heap.size < w4.heap.size := g_l
  have hw5 : w2.heap.size < w4.heap.size := f_l
  generalize hq : Rf.rfF s = q at *
  have HQ := Lib.hid hq
  clear hq
  obtain ⟨cd, ix⟩ := q
  simp only at *
  replace bx := bx.alloc (.cells #[.int .i64 cd, .int .i64 ix] 30)
  replace f := f.alloc (.cells #[.int .i64 cd, .int .i64 ix] 30)
  replace g := g.alloc (.cells #[.int .i64 cd, .int .i64 ix] 30)
  have v := Blk.new w4 30 #[.int .i64 cd, .int .i64 ix]
  have HBa4 := Lib.hid (HBm4.out.alloc HBm4.out.size (.cells #[.int .i64 cd, .int .i64 ix] 30))
  replace hM := Lib.hid (hM.out.below (below_alloc1 w4 (.cells #[.int .i64 cd, .int .i64 ix] 30)))
  replace V0 := Lib.hid (V0.out.keep (Keeps.alloc w4 _ (.cells #[.int .i64 cd, .int .i64 ix] 30)))
  replace Vl := Lib.hid (Vl.out.keep (Keeps.alloc w4 _ (.cells #[.int .i64 cd, .int .i64 ix] 30)))
  have bx_l : w.heap.size < w4.heap.size + 1 := Nat.lt_succ_of_lt bx_l
  have g_l : w3.heap.size < w4.heap.size + 1 := Nat.lt_succ_of_lt g_l
  have f_l : w2.heap.size < w4.heap.size + 1 := Nat.lt_succ_of_lt f_l
  have hk0 : Below (w4.alloc (.cells #[.int .i64 cd, .int .i64 ix] 30)).heap.size (w4.alloc (.cells #[.int .i64 cd, .int .i64 ix] 30)) (w4.alloc (.cells #[.int .i64 cd, .int .i64 ix] 30)).drew := below_drew' (Below.refl _ _)
  have HK : Hid (∀ w6 : World, Below (w4.alloc (.cells #[.int .i64 cd, .int .i64 ix] 30)).heap.size (w4.alloc (.cells #[.int .i64 cd, .int .i64 ix] 30)) w6 → w6.cell? ⟨w.heap.size, 0, none⟩ = some (.slice A s.length k) ∧ w6.cell? ⟨w2.heap.size, 0, none⟩ = some (.int .i64 c1) ∧ w6.cell? ⟨w2.heap.size, 1, none⟩ = some (.int .i64 i1) ∧ w6.cell? ⟨w3.heap.size, 0, none⟩ = some (.int .i64 c2) ∧ w6.cell? ⟨w3.heap.size, 1, none⟩ = some (.int .i64 i2) ∧ w6.cell? ⟨w4.heap.size, 0, none⟩ = some (.int .i64 cd) ∧ w6.cell? ⟨w4.heap.size, 1, none⟩ = some (.int .i64 ix)) := Lib.hid fun w6 h6 => ⟨(h6.cell (p := ⟨_, _, none⟩) bx.lt).trans ((bx.cell 0).trans rfl), (h6.cell (p := ⟨_, _, none⟩) f.lt).trans ((f.cell 0).trans rfl), (h6.cell (p := ⟨_, _, none⟩) f.lt).trans ((f.cell 1).trans rfl), (h6.cell (p := ⟨_, _, none⟩) g.lt).trans ((g.cell 0).trans rfl), (h6.cell (p := ⟨_, _, none⟩) g.lt).trans ((g.cell 1).trans rfl), (h6.cell (p := ⟨_, _, none⟩) v.lt).trans ((v.cell 0).trans rfl), (h6.cell (p := ⟨_, _, none⟩) v.lt).trans ((v.cell 1).trans rfl)⟩
  have HA29 := Lib.hid (fun (w6 : World) (h6 : Below (w4.alloc (.cells #[.int .i64 cd, .int .i64 ix] 30)).heap.size (w4.alloc (.cells #[.int .i64 cd, .int .i64 ix] 30)) w6) => H29.out w6 (hM.out.below h6) (V0.out.keep (free_below h6)))
  have hcc : (cd == cd) = true := by simp
  have hii : (ix == ix) = true := by simp
  have hcc2 : (cd != cd) = false := by simp
  have hii2 : (ix != ix) = false := by simp
  go_wp2_with fail
  go_region_held3 (fun w6 => w6.cell? ⟨w.heap.size, 0, none⟩ = some (.slice A s.length k) ∧ w6.cell? ⟨w2.heap.size, 0, none⟩ = some (.int .i64 c1) ∧ w6.cell? ⟨w2.heap.size, 1, none⟩ = some (.int .i64 i1) ∧ w6.cell? ⟨w3.heap.size, 0, none⟩ = some (.int .i64 c2) ∧ w6.cell? ⟨w3.heap.size, 1, none⟩ = some (.int .i64 i2) ∧ w6.cell? ⟨w4.heap.size, 0, none⟩ = some (.int .i64 cd) ∧ w6.cell? ⟨w4.heap.size, 1, none⟩ = some (.int .i64 ix))
    (first | exact HK.out _ hk0 | exact HK.out _ hk1)
    (first | (go_at_call 29; (with_reducible refine (HA29.out _ hk0).mono ?_); rintro e v1 ⟨rfl, hv1⟩; have hk1 : Below (w4.alloc (.cells #[.int .i64 cd, .int .i64 ix] 30)).heap.size (w4.alloc (.cells #[.int .i64 cd, .int .i64 ix] 30)) v1 := hk0.trans (hv1.mono hk0.size)))
  clear hk0 HK HA29 H29 H19 H27 H28
  have HBm5 := Lib.hid (HBa4.out.trans (hk1.mono HBa4.out.size))
  replace bx := bx.below hk1 bx.lt
  replace f := f.below hk1 f.lt
  replace g := g.below hk1 g.lt
  replace v := v.below hk1 v.lt
  replace hM := Lib.hid (hM.out.below hk1)
  replace V0 := Lib.hid (V0.out.keep (free_below hk1))
  replace Vl := Lib.hid (Vl.out.keep (free_below hk1))
  clear bx_l bx_l1 bx_l2 bx_0 f_l f_l1 f_l2 f_0 f_1 g_l g_l1 g_l2 g_0 g_1
  have bx_l : w.heap.size < v1.heap.size := bx.lt
  have bx_l1 : w.heap.size < v1.heap.size + 1 := Nat.lt_succ_of_lt bx_l
  have bx_l2 : w.heap.size < v1.heap.size + 1 + 1 := Nat.lt_succ_of_lt bx_l1
  have bx_0 : v1.cell? ⟨w.heap.size, 0, none⟩ = some (.slice A s.length k) := (bx.cell 0).trans rfl
  have f_l : w2.heap.size < v1.heap.size := f.lt
  have f_l1 : w2.heap.size < v1.heap.size + 1 := Nat.lt_succ_of_lt f_l
  have f_l2 : w2.heap.size < v1.heap.size + 1 + 1 := Nat.lt_succ_of_lt f_l1
  have f_0 : v1.cell? ⟨w2.heap.size, 0, none⟩ = some (.int .i64 c1) := (f.cell 0).trans rfl
  have f_1 : v1.cell? ⟨w2.heap.size, 1, none⟩ = some (.int .i64 i1) := (f.cell 1).trans rfl
  have g_l : w3.heap.size < v1.heap.size := g.lt
  have g_l1 : w3.heap.size < v1.heap.size + 1 := Nat.lt_succ_of_lt g_l
  have g_l2 : w3.heap.size < v1.heap.size + 1 + 1 := Nat.lt_succ_of_lt g_l1
  have g_0 : v1.cell? ⟨w3.heap.size, 0, none⟩ = some (.int .i64 c2) := (g.cell 0).trans rfl
  have g_1 : v1.cell? ⟨w3.heap.size, 1, none⟩ = some (.int .i64 i2) := (g.cell 1).trans rfl
  have v_l : w4.heap.size < v1.heap.size := v.lt
  have v_l1 : w4.heap.size < v1.heap.size + 1 := Nat.lt_succ_of_lt v_l
  have v_l2 : w4.heap.size < v1.heap.size + 1 + 1 := Nat.lt_succ_of_lt v_l1
  have v_0 : v1.cell? ⟨w4.heap.size, 0, none⟩ = some (.int .i64 cd) := (v.cell 0).trans rfl
  have v_1 : v1.cell? ⟨w4.heap.size, 1, none⟩ = some (.int .i64 ix) := (v.cell 1).trans rfl
  clear hk1
  by_cases hbad : cd ≠ 0
  · have hx1 : (cd == 0) = false := by simpa using hbad
    have hx2 : (cd != 0) = true := by simpa using hbad
    have hG : (gt, (c1, i1)) = (0, (cd, ix)) := HGF.out.trans (if_pos hbad)
    have hL : (pl, (c2, i2)) = (([] : List Rf.R), (cd, ix)) := HLF.out.trans (if_pos hbad)
    injection hG with e1 e2
    injection e2 with e2 e3
    injection hL with e4 e5
    injection e5 with e5 e6
    subst e1
    subst e2
    subst e3
    subst e4
    subst e5
    subst e6
    clear hbad HGF HLF HGR HLR HQ
    go_wp2_with fail
    go_ret
    exact ⟨by simp, HBm5.out⟩
  · obtain rfl : cd = 0 := by simpa using hbad
    clear hbad
    obtain ⟨hz, hok⟩ := Rf.rfF_ok (s := s) (by rw [HQ.out])
    obtain rfl : ix = 0 := by have := HQ.out; rw [hz] at this; injection this with _ h; exact h.symm
    have hL : (pl, (c2, i2)) = (Rf.pre s p, ((0 : Int), (0 : Int))) := HLF.out.trans (if_neg (by decide))
    injection hL with e4 e5
    injection e5 with e5 e6
    subst e4
    subst e5
    subst e6
    have HG := Rf.getF_ok hok n
    rw [HGR.out] at HG
    have HGO := Lib.hid HG
    have hpl := Rf.pre_len s p
    have hsl2 := hok.len
    clear HG hok hz HGF HLF HGR HLR HQ
    have HPL := Lib.hid (rfl : Rf.pre s p = Rf.pre s p)
    generalize hpl2 : Rf.pre s p = pl at *
    have HPL2 := Lib.hid hpl2
    clear hpl2 HPL
    have st0 : L9St w (v1.alloc (.cells #[.slice none 0 0] 26)) w2.heap.size w3.heap.size v1.heap.size A s.length k c1 i1 0 0 Al pl (.slice none 0 0) := ⟨bx.alloc _, f.alloc _, g.alloc _, Blk.new _ _ _, Vl.out.keep (Keeps.below (below_alloc1 _ _) (fun b hb hX => by unfold From at hX; omega)), HBm5.out.alloc HBm5.out.size _, bx_l, f_l, g_l⟩
    have hsz0 : (v1.alloc (.cells #[.slice none 0 0] 26)).heap.size = v1.heap.size + 1 := by simp
    have hown0 := World.ownsRow_nil (v1.alloc (.cells #[.slice none 0 0] 26)) (v1.heap.size + 1) 51 2
    have HV := Lib.hid (fun (w6 : World) (h6 : Below w.heap.size w w6) => hv0.out w6 h6)
    go_wp2_with fail
    clear bx_l bx_l1 bx_l2 bx_0 f_l f_l1 f_l2 f_0 f_1 g_l g_l1 g_l2 g_0 g_1 v_l v_l1 v_l2 v_0 v_1
    clear bx f g v V0 Vl hM HBm1 HBm2 HBm3 HBm4 HBm5 HBa1 HBa2 HBa3 HBa4
    obtain ⟨kb, hkb⟩ : ∃ kb, kb = v1.heap.size := ⟨_, rfl⟩
    obtain ⟨fa, hfa⟩ : ∃ fa, fa = w2.heap.size := ⟨_, rfl⟩
    obtain ⟨ga, hga⟩ : ∃ ga, ga = w3.heap.size := ⟨_, rfl⟩
    simp only [← hkb, ← hfa, ← hga] at *
    go_loopw [13] (fun iv wr => ∃ (i : Nat) (o : List Rf.R) (A' : Option Addr) (c' : Nat), i ≤ s.length ∧ iv = .int .i64 i ∧ o.length ≤ i ∧ Hid (o = Rf.pre (s.take i) p) ∧ L9St w wr fa ga kb A s.length k c1 i1 0 0 Al pl (.slice A' o.length c') ∧ wr.ownsRow (kb + 1) 51 2 (.slice A' o.length c') o.length (rsV o)) (fun iv _ => s.length - (intOf iv).toNat)
    case atStart => exact ⟨0, [], none, 0, Nat.zero_le _, rfl, Nat.le_refl _, Lib.hid rfl, st0, hown0⟩
    case round =>
      obtain ⟨i, o, A', c', hi, rfl, hol, HO, st, hown⟩ := hrel
      obtain ⟨wo, rfl⟩ : ∃ wo : World, wo = wr := ⟨_, rfl⟩
      obtain ⟨a0, a1, a2, l0, l1⟩ := st.facts
      by_cases hlt : i < s.length
      · have hlt' : (i : Int) < s.length := by omega
        obtain ⟨b, off, e, hbb, _, d0, d1⟩ := rsV_row (HV.out _ st.bel) i hlt
        subst e
        have HT : Hid (s.take (i + 1) = s.take i ++ [Rf.it s i]) := Lib.hid (by rw [List.take_succ_eq_append_getElem hlt, Rf.it_eq s i hlt])
        generalize Rf.it s i = x at *
        have bx1 := Blk.new wo 51 #[strV x.name, .int .i64 x.tgt]
        have sx := st.below (below_alloc1 wo (.cells #[strV x.name, .int .i64 x.tgt] 51))
        have ow1 := hown.alloc (.cells #[strV x.name, .int .i64 x.tgt] 51)
        have hnl : Hid (Lib.hasPrefix x.name p = false → o = Rf.pre (s.take (i + 1)) p) := Lib.hid fun hp => by rw [HT.out, HO.out]; unfold Rf.pre; rw [List.filter_append]; simp [hp]
        have hyl : Hid (Lib.hasPrefix x.name p = true → o ++ [x] = Rf.pre (s.take (i + 1)) p) := Lib.hid fun hp => by rw [HT.out, HO.out]; unfold Rf.pre; rw [List.filter_append]; simp [hp]
        clear HT HO
        have hnorm : ∀ m : Nat, m < 1 → False → True := fun _ _ _ => trivial
        clear hnorm
        by_cases hln : p.length ≤ x.name.length
        · have hln' : (p.length : Int) ≤ x.name.length := by omega
          have hext := extract_take x.name p.length
          cases hpx : (x.name.take p.length == p) with
          | false =>
            have HN2 := Lib.hid (hnl.out (by rw [← hasPrefix_take _ _ hln, hpx]))
            clear hnl hyl
            go_wp2_with fail
            go_roundw
            case rel => exact ⟨i + 1, o, A', c', by omega, by go_num, by omega, HN2, sx, ow1⟩
            case measure => simp [intOf]; omega
          | true =>
            have HN2 := Lib.hid (hyl.out (by rw [← hasPrefix_take _ _ hln, hpx]))
            clear hnl hyl
            have hsv1 : SV ((wo.alloc (.cells #[strV x.name, .int .i64 x.tgt] 51)).alloc (.cells #[strV x.name, .int .i64 x.tgt] 51)) (wo.heap.size + 1 + 1) (some ⟨wo.heap.size + 1, 0, none⟩) [strV x.name, .int .i64 x.tgt] := by simpa using SV.lit (wo.alloc (.cells #[strV x.name, .int .i64 x.tgt] 51)) #[strV x.name, .int .i64 x.tgt] 51
            go_wp2_with (first | (at_builtin; refine wpList_appN _ rfl (.tmp 84) (.tmp 86) 24 rfl (kb + 1) 51 i0 _ 2 24 Tryd.underlying24 hi0 hz0 hz1 hz2 rfl (by decide) A' o.length c' (rsV o) rfl (ow1.alloc (.cells #[strV x.name, .int .i64 x.tgt] 51)) _ _ 1 1 [strV x.name, .int .i64 x.tgt] rfl rfl hsv1 (by intro v hv; simp at hv; rcases hv with rfl | rfl <;> rfl) ?ha1 ?hb1 ?hc1 ?_))
            case ha1 => unfold maxLen; omega
            case hb1 => omega
            case hc1 => simp; omega
            intro A2 c2' w2' own2 hg2 _
            have hr2 : ∀ b, (Value.slice A' o.length c').ownBlock = some b → kb + 1 ≤ b := fun b e => (hown.lt b e).1
            have s2 := (sx.below (below_alloc1 _ (.cells #[strV x.name, .int .i64 x.tgt] 51))).grown hg2 hr2
            obtain ⟨q0, q1, q2, m0, m1⟩ := s2.facts
            have hne2 : some kb ≠ (Value.slice A2 (o.length + 1) c2').ownBlock := fun e => by have := (own2.lt _ e.symm).1; omega
            have s3 := s2.set (.slice A2 (o.length + 1) c2')
            have own3 := own_setCell (p := ⟨kb, 0, none⟩) own2 hne2 (.slice A2 (o.length + 1) c2')
            have eo3 : rsV o ++ [strV x.name, .int .i64 x.tgt] = rsV (o ++ [x]) := rsV_snoc o x
            rw [eo3] at own3
            have hol3 : (o ++ [x]).length = o.length + 1 := by simp
            clear a0 a1 a2 hg2 own2 s2 sx ow1 bx1 hsv1 eo3 d0 d1
            go_wp2_with fail
            go_roundw
            case rel => exact ⟨i + 1, o ++ [x], A2, c2', by omega, by go_num, by simp; omega, HN2, by rw [hol3]; exact s3, by rw [hol3]; exact own3⟩
            case measure => simp [intOf]; omega
        · have hln' : ¬ (p.length : Int) ≤ x.name.length := by omega
          have HN2 := Lib.hid (hnl.out (hasPrefix_short _ _ (by omega)))
          clear hnl hyl
          go_wp2_with fail
          go_roundw
          case rel => exact ⟨i + 1, o, A', c', by omega, by go_num, by omega, HN2, sx, ow1⟩
          case measure => simp [intOf]; omega
      · obtain rfl : i = s.length := by omega
        obtain rfl : o = pl := by rw [HO.out, List.take_length, HPL2.out]
        obtain ⟨q0, q1, q2, q3, l2, l3⟩ := st.facts2
        clear HO HPL2
        have HST := Lib.hid (refStores_any wo Al A' cl c' o o (st.row.mono (fun _ h => h.elim)) (SA.of_own' hown (fun _ _ h => h)) (by omega) (by omega))
        have HNA := Lib.hid (fun (w1 : World) => refName_any w1 n)
        go_wp2_with fail
        go_at_call 22
        refine HST.out.mono ?_
        rintro e w8 ⟨rfl, hb8⟩
        have st8 := st.below hb8
        clear HST st hb8 a0 a1 a2 l0 l1 q0 q1 q2 q3 l2 l3 hown
        obtain ⟨a0, a1, a2, l0, l1⟩ := st8.facts
        obtain ⟨q0, q1, q2, q3, l2, l3⟩ := st8.facts2
        have htt : (!decide (o = o)) = false := by simp
        have htt2 : decide (o = o) = true := by simp
        go_wp2_with fail
        go_at_call 17
        refine (HNA.out _).mono ?_
        rintro e w9 ⟨rfl, hb9⟩
        have st9 := st8.below hb9
        clear HNA st8 hb9 a0 a1 a2 l0 l1 q0 q1 q2 q3 l2 l3
        obtain ⟨a0, a1, a2, l0, l1⟩ := st9.facts
        obtain ⟨q0, q1, q2, q3, l2, l3⟩ := st9.facts2
        have HQQ : Hid (∀ w6 : World, Below w9.heap.size w9 w6 → w6.cell? ⟨fa, 0, none⟩ = some (.int .i64 c1) ∧ w6.cell? ⟨fa, 1, none⟩ = some (.int .i64 i1)) := Lib.hid fun w6 h6 => ⟨(h6.cell (p := ⟨_, _, none⟩) l2).trans q0, (h6.cell (p := ⟨_, _, none⟩) l2).trans q1⟩
        have hq0 : Below w9.heap.size w9 w9.drew := below_drew' (Below.refl _ _)
        rcases HGO.out with ⟨hn, hg⟩ | ⟨hn, ht, hg⟩ | ⟨hn, ht, hg⟩
        · rw [hn]
          injection hg with e1 e2
          injection e2 with e2 e3
          subst e1
          subst e2
          subst e3
          clear HGO hn
          go_wp2_with fail
          go_region_held3 (fun w6 => w6.cell? ⟨fa, 0, none⟩ = some (.int .i64 12) ∧ w6.cell? ⟨fa, 1, none⟩ = some (.int .i64 (-1))) (first | exact HQQ.out _ hq0 | exact HQQ.out _ hq1) (first | (go_at_call 21; (with_reducible refine (fault_b _ _ _).mono ?_); rintro e v5 ⟨rfl, hv5⟩; have hq1 : Below w9.heap.size w9 v5 := hq0.trans (hv5.mono hq0.size)))
          have hbf := st9.bel.trans (hq1.mono st9.bel.size)
          go_wp2_with fail
          go_ret
          exact ⟨by simp, hbf⟩
        · rw [hn]
          injection hg with e1 e2
          injection e2 with e2 e3
          subst e1
          subst e2
          subst e3
          clear hn HGO
          have HT30 := Lib.hid (H30.out w9 (HV.out _ st9.bel))
          clear HQQ hq0
          go_wp2_with fail
          go_at_call 30
          refine HT30.out.mono ?_
          rintro e w10 ⟨rfl, hb10⟩
          have st10 := st9.below hb10
          clear HT30 st9 hb10 a0 a1 a2 l0 l1 q0 q1 q2 q3 l2 l3
          obtain ⟨q0, q1, q2, q3, l2, l3⟩ := st10.facts2
          have HQQ : Hid (∀ w6 : World, Below w10.heap.size w10 w6 → w6.cell? ⟨fa, 0, none⟩ = some (.int .i64 6) ∧ w6.cell? ⟨fa, 1, none⟩ = some (.int .i64 (-1))) := Lib.hid fun w6 h6 => ⟨(h6.cell (p := ⟨_, _, none⟩) l2).trans q0, (h6.cell (p := ⟨_, _, none⟩) l2).trans q1⟩
          have hq0 : Below w10.heap.size w10 w10.drew := below_drew' (Below.refl _ _)
          have htd : decide (Rf.tgtOf s n < 0) = true := by simpa using ht
          generalize Rf.tgtOf s n = tg at *
          go_wp2_with fail
          go_region_held3 (fun w6 => w6.cell? ⟨fa, 0, none⟩ = some (.int .i64 6) ∧ w6.cell? ⟨fa, 1, none⟩ = some (.int .i64 (-1))) (first | exact HQQ.out _ hq0 | exact HQQ.out _ hq1) (first | (go_at_call 21; (with_reducible refine (fault_b _ _ _).mono ?_); rintro e v5 ⟨rfl, hv5⟩; have hq1 : Below w10.heap.size w10 v5 := hq0.trans (hv5.mono hq0.size)))
          have hbf := st10.bel.trans (hq1.mono st10.bel.size)
          go_wp2_with fail
          go_ret
          exact ⟨by simp, hbf⟩
        · rw [hn]
          injection hg with e1 e2
          injection e2 with e2 e3
          subst e2
          subst e3
          clear hn HQQ hq0 HGO
          have HT30 := Lib.hid (H30.out w9 (HV.out _ st9.bel))
          go_wp2_with fail
          go_at_call 30
          refine HT30.out.mono ?_
          rintro e w10 ⟨rfl, hb10⟩
          have st10 := st9.below hb10
          clear HT30 st9 hb10 a0 a1 a2 l0 l1 q0 q1 q2 q3 l2 l3
          obtain ⟨a0, a1, a2, l0, l1⟩ := st10.facts
          obtain ⟨q0, q1, q2, q3, l2, l3⟩ := st10.facts2
          have htd : decide (Rf.tgtOf s n < 0) = false := by simpa using ht
          have ht2 : ¬ Rf.tgtOf s n < 0 := by omega
          have HT30 := Lib.hid (H30.out w10 (HV.out _ st10.bel))
          have hee : (gt == Rf.tgtOf s n) = true := by simpa using e1
          clear e1
          generalize Rf.tgtOf s n = tg at *
          go_wp2_with fail
          go_at_call 30
          refine HT30.out.mono ?_
          rintro e w11 ⟨rfl, hb11⟩
          have hbf := st10.bel.trans (hb11.mono st10.bel.size)
          go_wp2_with fail
          go_ret
          exact ⟨by simp, hbf⟩
end Go.Proofs.YtfbbgnhelannjaaDoor
