/-
  Tree patches: walks of 'ValidatePatch' at a patch with one edit, and of 'make1' at an edit.
-/
import Derived.Test.YtjfckjonfpkphaaDoorTq7
import Derived.Deep.RegionHeld3
namespace Go.Proofs.YtjfckjonfpkphaaDoor
open Go.RowKit Go.V Go.Shelf
set_option linter.unusedVariables false

set_option maxRecDepth 100000 in
set_option maxHeartbeats 8000000 in
theorem vpatch_any (w : World) (hm : Mx w) (p : List UInt8) (hp : Tr.pathOk p = true) (A : Option Addr) (k : Nat) (l : List Tp.H) (hv : HvV w Free A l) (h0 : 0 < l.length) (hl : l.length ≤ 9223372036854775807) (hk : l.length ≤ k)
    (cb : Nat) (hB : Blk w cb 58 (chC p A l.length k)) :
    Calls Tryd.prog 17 #[.agg #[.slice (some ⟨cb, 0, none⟩) 1 1]] w (FaultPost w (secF (Tp.vlF l) 0)) := by
  have HC := Lib.hid (fun (w1 : World) (hb : Below w.heap.size w w1) => check_any w1 (hm.below hb) p hp A k l (hv.keep (free_below hb)) h0 hl hk)
  have HS := Lib.hid (secF.eq_1 (Tp.vlF l) 0)
  have HB := Lib.hid (fun (w1 : World) (hb : Below w.heap.size w w1) => hB.below hb hB.lt)
  generalize secF (Tp.vlF l) 0 = r at *
  generalize (Tp.vlF l).1 = cd at *
  have st0 := BxSt.new 41 w (some ⟨cb, 0, none⟩) 1 1
  clear hv hm hB
  go_enter Tryd.func17, Tryd.ntmps17
  go_wp2_with fail
  go_loopw [14] (fun iv wr => (iv = .int .i64 0 ∨ iv = .int .i64 1 ∧ Hid (cd = 0)) ∧ BxSt 41 w wr (some ⟨cb, 0, none⟩) 1 1) (fun iv _ => 1 - (intOf iv).toNat)
  case atStart => exact ⟨.inl rfl, st0⟩
  case round =>
    obtain ⟨hc, st⟩ := hrel
    obtain ⟨wo, rfl⟩ : ∃ wo : World, wo = wr := ⟨_, rfl⟩
    rcases hc with rfl | ⟨rfl, HZ⟩
    · have bB := HB.out _ st.bel
      have c0 := (bB.cell 0).trans rfl
      have c1 := (bB.cell 1).trans rfl
      have c2 := (bB.cell 2).trans rfl
      have c3 := (bB.cell 3).trans rfl
      have c4 := (bB.cell 4).trans rfl
      have cl := bB.lt
      obtain ⟨p0, p1, p2, p3, p4, l0, l1⟩ := st.facts
      have hal := below_alloc1 wo (.cells (chC p A l.length k) 58)
      have st1 := st.below hal
      have HC2 := Lib.hid (HC.out _ st1.bel)
      clear st0 st hal bB
      go_wp2_with fail
      go_at_call 28
      with_reducible refine HC2.out.mono ?_
      rintro e w2 ⟨rfl, hb2⟩
      have st2 := st1.below hb2
      clear st1 hb2 HC2 c0 c1 c2 c3 c4 cl p0 p1 p2 p3 p4 l0 l1
      obtain ⟨p0, p1, p2, p3, p4, l0, l1⟩ := st2.facts
      by_cases hz : cd = 0
      · subst hz
        go_wp2_with fail
        go_roundw
        case rel => exact ⟨.inr ⟨rfl, Lib.hid trivial⟩, st2⟩
        case measure => simp [intOf]
      · have HR := Lib.hid (HS.out.trans (if_pos hz))
        have hx1 : (cd == 0) = false := by simpa using hz
        have hx2 : (cd != 0) = true := by simpa using hz
        clear HS hz
        go_wp2_with fail
        obtain ⟨q1, q2⟩ := st2.put (.int .i64 cd) (.int .i64 0)
        exact bodyPost_ret (results_c rfl _ _ (w.heap.size + 1) (.int .i64 cd) (.int .i64 0) rfl q1) rfl (FaultPost.mk_ HR.out q2)
    · have HR := Lib.hid (HS.out.trans (if_neg (not_not_intro HZ.out)))
      obtain ⟨p0, p1, p2, p3, p4, l0, l1⟩ := st.facts
      go_wp2_with fail
      obtain ⟨q1, q2⟩ := st.put (.int .i64 0) (.int .i64 0)
      exact bodyPost_ret (results_c rfl _ _ (w.heap.size + 1) (.int .i64 0) (.int .i64 0) rfl q1) rfl (FaultPost.mk_ HR.out q2)
/-- What 'make1' tells of an edit of the file number m. -/
def MkPost (w : World) (bb m : Nat) (q : List (List UInt8) × (Int × Int)) (e : Ending) (w' : World) : Prop :=
  e = .returned (.int .i64 q.2.1) ∧ (q.2.1 ≠ 0 ∧ Below w.heap.size w w' ∨ q.2.1 = 0 ∧ ∃ w1 A c, w' = w1.setCell ⟨bb, m * 2 + 1, none⟩ (.slice A q.1.length c) ∧ Below w.heap.size w w1 ∧ q.1.length ≤ c ∧ SA w1 (Under w.heap.size) A (ssV q.1))
set_option maxRecDepth 100000 in
set_option maxHeartbeats 16000000 in
theorem make1_any (w : World) (A : Option Addr) (k : Nat) (l : List Tp.H) (hv : HvV w Free A l) (hl : l.length ≤ 9223372036854775807) (hk : l.length ≤ k)
    (t : List Tr.F) (m0 : Nat) (p : List UInt8) (hp : p = (Tr.it t m0).path) (hm0 : m0 < t.length) (hs : Tr.Srt t) (hok : Tr.LnOk (Tr.it t m0).lines) (htl : t.length ≤ 24)
    (G bb c : Nat) (cur : Array Value) (hG : Blk w G 24 #[.slice (some ⟨bb, 0, none⟩) t.length c]) (hbb : Blk w bb 36 cur) (ht : VfV w Free (some ⟨bb, 0, none⟩) t) :
    Calls Tryd.prog 20 #[chV p A l.length k, .pointer (some ⟨G, 0, none⟩)] w (MkPost w bb m0 (Tp.apF l (Tr.it t m0).lines)) := by
  have HF := Lib.hid (fun (w1 : World) (hb : Below w.heap.size w w1) => find_any w1 (some ⟨bb, 0, none⟩) c t m0 p hp (ht.keep (free_below hb)) (by omega) hs hm0)
  have HG := Lib.hid (fun (w1 : World) (hb : Below w.heap.size w w1) => And.intro (hG.below hb hG.lt) (hbb.below hb hbb.lt))
  obtain ⟨b9, off9, Al, kl, e9, hbl, _, d0, d1, hla⟩ := ht.row m0 hm0
  injection e9 with e9
  injection e9 with e9 e10 _
  subst e9
  subst e10
  have HD := Lib.hid (fun (w1 : World) (hb : Below w.heap.size w w1) => (hb.cell (p := ⟨bb, 0 + m0 * 2 + 1, none⟩) hbl).trans d1)
  have HAP := Lib.hid (fun (w1 : World) (hb : Below w.heap.size w w1) => apply_any w1 A k l (hv.keep (free_below hb)) hl hk Al kl (Tr.it t m0).lines (hla.ls.keep (free_below hb)) hok hla.lk)
  have HZ := Lib.hid (Tp.apF_zero (l := l) (t := (Tr.it t m0).lines))
  generalize (Tr.it t m0).lines = tl at *
  generalize Tp.apF l tl = q at *
  obtain ⟨ql, cd, ix⟩ := q
  simp only at HZ
  have hm0' : (m0 : Int) < t.length := by omega
  have b0 := Blk.new w 58 (chC p A l.length k)
  have hb0 := below_alloc1 w (.cells (chC p A l.length k) 58)
  clear hv ht hG hbb hs hok d0 d1 hla hp
  go_enter Tryd.func20, Tryd.ntmps20
  go_wp2_with fail
  generalize hwq : w.alloc (.cells (chC p A l.length k) 58) = wq at *
  clear hwq
  have HK := Lib.hid (fun (w6 : World) (h6 : Below wq.heap.size wq w6) => show w6.cell? ⟨G, 0, none⟩ = some (.slice (some ⟨bb, 0, none⟩) t.length c) ∧ w6.cell? ⟨w.heap.size, 1, none⟩ = some (strV p) from
    ⟨((HG.out _ (hb0.trans (h6.mono hb0.size))).1.cell 0).trans rfl, ((b0.below h6 b0.lt).cell 1).trans rfl⟩)
  have hk0 : Below wq.heap.size wq wq.drew := below_drew' (Below.refl _ _)
  have bl := b0.lt
  go_region_held3 (fun w6 => w6.cell? ⟨G, 0, none⟩ = some (.slice (some ⟨bb, 0, none⟩) t.length c) ∧ w6.cell? ⟨w.heap.size, 1, none⟩ = some (strV p))
    (first | exact HK.out _ hk0 | exact HK.out _ hj1)
    (first | (go_at_call 30; (with_reducible refine (HF.out _ (hb0.trans (hk0.mono hb0.size))).mono ?_); rintro e v1 ⟨rfl, hv1⟩; have hj1 : Below wq.heap.size wq v1 := hk0.trans (hv1.mono hk0.size)))
  have hb1 := hb0.trans (hj1.mono hb0.size)
  have b1 := b0.below hj1 b0.lt
  clear hk0 hj1 hv1 bl HK b0 hb0 HF
  have g0 := ((HG.out _ hb1).1.cell 0).trans rfl
  have gl := (HG.out _ hb1).1.lt
  have h0 := (b1.cell 0).trans rfl
  have h4 := (b1.cell 4).trans rfl
  have hl1 := b1.lt
  have hd1 := HD.out _ hb1
  rw [Nat.zero_add] at hd1
  have hbl1 : bb < v1.heap.size := (HG.out _ hb1).2.lt
  have HA2 := Lib.hid (HAP.out _ hb1)
  clear HAP
  go_wp2_with fail
  go_at_call 6
  with_reducible refine HA2.out.mono ?_
  rintro e w2 ⟨A5, c5, rfl, hc5, hs5, hb5⟩
  have hsz1 := hb1.size
  have hb2 := hb1.trans (hb5.mono hb1.size)
  clear HA2 hb5 b1 g0 gl h0 h4 hl1 hd1 hbl1
  have g0 := ((HG.out _ (hb2.alloc hb2.size (.cells #[.int .i64 cd, .int .i64 ix] 29))).1.cell 0).trans rfl
  have gl := (HG.out _ (hb2.alloc hb2.size (.cells #[.int .i64 cd, .int .i64 ix] 29))).1.lt
  have g1 := (HG.out _ (hb2.alloc hb2.size (.cells #[.int .i64 cd, .int .i64 ix] 29))).2.frozen (m0 * 2 + 1)
  have hbl1 := (HG.out _ (hb2.alloc hb2.size (.cells #[.int .i64 cd, .int .i64 ix] 29))).2.lt
  by_cases hz : cd = 0
  · have hix := HZ.out hz
    obtain ⟨hix, hq⟩ := hix
    injection hix with _ hix
    subst hz
    subst hix
    have hdd := HD.out _ (hb2.alloc hb2.size (.cells #[.int .i64 0, .int .i64 0] 29))
    rw [Nat.zero_add] at hdd
    clear HZ HD HG
    go_wp2_with fail
    go_ret
    exact ⟨rfl, .inr ⟨rfl, _, A5, c5, rfl, hb2.alloc hb2.size _, hc5, (hs5.mono fun b hb => Nat.lt_of_lt_of_le hb hsz1).keep (Keeps.alloc _ _ _)⟩⟩
  · have hx1 : (cd == 0) = false := by simpa using hz
    have hx2 : (cd != 0) = true := by simpa using hz
    clear HZ HD HG
    go_wp2_with fail
    go_ret
    exact ⟨rfl, .inl ⟨hz, hb2.alloc hb2.size _⟩⟩
end Go.Proofs.YtjfckjonfpkphaaDoor
