/-
  Text patches: walks of the library's 'slices.Equal' at lines, of 'lines.Occurs', of 'Validate'.
-/
import Derived.Test.YtjfckjonfpkphaaDoorTq1
namespace Go.Proofs.YtjfckjonfpkphaaDoor
open Go.RowKit Go.V Go.Shelf
set_option linter.unusedVariables false

theorem slice_mid (W : World) (A : Option Addr) (n k a m : Nat) (h : a + m ≤ n) (hk : n ≤ k) : (Instr.slice 32 (.slice A n k) (some (.int .i64 (a : Int))) (some (.int .i64 ((a : Int) + m))) none).run Tryd.prog W = .ok (.slice (if k = a then A else A.map (·.add a)) m (k - a)) W := by
  have hu := Tryd.underlying32
  have h3 : ((a : Int) + m).toNat = a + m := by omega
  rw [run_slice_lh W 32 A n k (by rw [hu]; rfl) .i64 .i64 (a : Int) ((a : Int) + m) (by omega) (by omega) (by omega), h3]
  simp [go_sem]
theorem eq_upto {α : Type} {a b : List α} (hl : a.length = b.length) (h : ∀ j, j < a.length → a[j]? = b[j]?) : a = b := eq_uptoS hl h
set_option maxHeartbeats 1600000 in
theorem equal_any (w : World) (A1 A2 : Option Addr) (c1 c2 n1 : Nat) (l1 l2 : List (List UInt8)) (hn : l1.length = n1) (h1 : SA w Free A1 (ssV l1)) (h2 : SA w Free A2 (ssV l2)) (hl1 : l1.length ≤ 9223372036854775807) (hl2 : l2.length ≤ 9223372036854775807) :
    Calls Tryd.prog 27 #[.slice A1 n1 c1, .slice A2 l2.length c2] w fun e w' => e = .returned (.bool (decide (l1 = l2))) ∧ ∃ n, w' = w.drewN n := by
  subst hn
  by_cases hlen : l1.length = l2.length
  · have hlen' : ((l1.length : Int) != l2.length) = false := by simp [hlen]
    have HL := Lib.hid hlen
    clear hlen
    go_enter Tryd.func27, Tryd.ntmps27
    go_wp2_with fail
    go_loopw [13] (fun k wr => ∃ i : Nat, i ≤ l1.length ∧ k = .int .i64 i ∧ Hid (∀ j, j < i → l1[j]? = l2[j]?) ∧ ∃ n, wr = w.drewN n) (fun k _ => l1.length - (intOf k).toNat)
    case atStart => exact ⟨0, Nat.zero_le _, rfl, Lib.hid (fun j hj => by omega), 0, rfl⟩
    case round =>
      obtain ⟨i, hi, rfl, H, n, rfl⟩ := hrel
      by_cases hlt : i < l1.length
      · have hlt2 : i < l2.length := by rw [← HL.out]; exact hlt
        obtain ⟨b1, o1, rfl, _, _, x1⟩ := ssV_row h1 i hlt
        obtain ⟨b2, o2, rfl, _, _, x2⟩ := ssV_row h2 i hlt2
        have hlt' : (i : Int) < l1.length := by omega
        have hlt2' : (i : Int) < l2.length := by omega
        by_cases he : l1[i] = l2[i]
        · have H' : Hid (∀ j, j < i + 1 → l1[j]? = l2[j]?) := Lib.hid fun j hj => by
            by_cases e : j = i
            · subst e; rw [List.getElem?_eq_getElem hlt, List.getElem?_eq_getElem hlt2, he]
            · exact H.out j (by omega)
          have he' : (l1[i] != l2[i]) = false := by simp [he]
          have he2 : (l1[i] == l2[i]) = true := by simp [he]
          clear he
          generalize l1[i] = u1 at *
          generalize l2[i] = u2 at *
          go_wp2_with fail
          go_quiet (fail)
          go_wp2
          go_roundw
          case rel => exact ⟨i + 1, by omega, by go_num, H', _, rfl⟩
          case measure => simp [intOf]; omega
        · have HN : Hid (decide (l1 = l2) = false) := Lib.hid (decide_eq_false fun e => he (by subst e; rfl))
          have he' : (l1[i] != l2[i]) = true := by simpa using he
          have he2 : (l1[i] == l2[i]) = false := by simpa using he
          clear he
          generalize l1[i] = u1 at *
          generalize l2[i] = u2 at *
          go_wp2_with fail
          go_quiet (fail)
          go_wp2
          go_ret
          exact ⟨by rw [HN.out]; rfl, n + nq, by simp [World.drewN_drewN]⟩
      · obtain rfl : i = l1.length := by omega
        have HY : Hid (decide (l1 = l2) = true) := Lib.hid (decide_eq_true (eq_upto HL.out H.out))
        go_wp2
        go_ret
        exact ⟨by rw [HY.out]; rfl, _, rfl⟩
  · have hlen' : ((l1.length : Int) != l2.length) = true := by simp; omega
    have HN : Hid (decide (l1 = l2) = false) := Lib.hid (decide_eq_false fun e => hlen (by rw [e]))
    clear hlen
    go_enter Tryd.func27, Tryd.ntmps27
    go_wp2_with fail
    go_ret
    exact ⟨by rw [HN.out]; rfl, 0, rfl⟩
theorem sub_view {w : World} {X : Nat → Prop} {A : Option Addr} {t : List (List UInt8)} {k : Nat} (h : SA w X A (ssV t)) (hk : t.length ≤ k) (a m : Nat) : SA w X (if k = a then A else A.map (·.add a)) (ssV ((t.drop a).take m)) := by
  have h1 := SA.drop h a (k = a) (fun e => .inl (by rw [ssV_len]; omega))
  have h2 := h1.take m
  have e1 := Fl.drop sC_len a t
  have e2 := Fl.take sC_len m (t.drop a)
  rw [Nat.mul_one] at e1 e2
  rw [ssV, e2, e1]
  exact h2
set_option maxHeartbeats 4000000 in
theorem occurs_any (w : World) (A1 A2 : Option Addr) (c1 c2 : Nat) (t part : List (List UInt8)) (p : Int) (h1 : SA w Free A1 (ssV t)) (h2 : SA w Free A2 (ssV part)) (hl1 : t.length ≤ 1000) (hl2 : part.length ≤ 1000) (hk : t.length ≤ c1) :
    Calls Tryd.prog 15 #[.slice A1 t.length c1, .slice A2 part.length c2, .int .i64 p] w fun e w' => e = .returned (.bool (Tp.occ t part p)) ∧ ∃ n, w' = w.drewN n := by
  have HQ := Lib.hid (Tp.occ.eq_1 t part p)
  have HV := Lib.hid (fun a m => sub_view h1 hk a m)
  have HP := Lib.hid h2
  generalize Tp.occ t part p = q at *
  clear h1 h2
  by_cases g1 : 0 ≤ p
  · obtain ⟨a, rfl⟩ := Int.eq_ofNat_of_zero_le g1
    have g0 : (0 : Int) ≤ (a : Int) := by omega
    have gd0 : decide ((0 : Int) ≤ (a : Int)) = true := by simp
    by_cases g2 : a ≤ t.length
    · have g2' : (a : Int) ≤ t.length := by omega
      have gd2 : decide ((a : Int) ≤ t.length) = true := by simp; omega
      have gd2n : decide (a ≤ t.length) = true := by simp; omega
      have hsub : IntKind.i64.wrap ((t.length : Int) - a) = (t.length : Int) - a := IntWalk.i64_in _ (by omega)
      by_cases g3 : part.length ≤ t.length - a
      · have g3' : (part.length : Int) ≤ (t.length : Int) - a := by omega
        have gd3 : decide ((part.length : Int) ≤ (t.length : Int) - a) = true := by simp; omega
        have hadd : IntKind.i64.wrap ((a : Int) + part.length) = (a : Int) + part.length := IntWalk.i64_in _ (by omega)
        have hs : ∀ W, (Instr.slice 32 (.slice A1 t.length c1) (some (.int .i64 (a : Int))) (some (.int .i64 ((a : Int) + part.length))) none).run Tryd.prog W = .ok (.slice (if c1 = a then A1 else A1.map (·.add a)) part.length (c1 - a)) W := fun W => slice_mid W A1 t.length c1 a part.length (by omega) hk
        have HE := Lib.hid (equal_any w (if c1 = a then A1 else A1.map (·.add a)) A2 (c1 - a) c2 part.length ((t.drop a).take part.length) part (by rw [List.length_take, List.length_drop]; omega) (HV.out a part.length) HP.out (by rw [List.length_take]; omega) (by omega))
        have HQ2 : Hid (q = decide ((t.drop a).take part.length = part)) := Lib.hid (by
          rw [HQ.out, gd0, gd2, gd3]; simp)
        clear HQ HV HP
        generalize decide ((t.drop a).take part.length = part) = dd at *
        generalize (if c1 = a then A1 else A1.map (·.add a)) = AA at *
        go_enter Tryd.func15, Tryd.ntmps15
        go_wp2_with (first | (go_at_call 27; with_reducible refine HE.out.mono ?_; rintro e w' ⟨rfl, n, rfl⟩))
        go_ret
        exact ⟨by rw [HQ2.out]; rfl, _, rfl⟩
      · have g3' : ¬ (part.length : Int) ≤ (t.length : Int) - a := by omega
        have gd3 : decide ((part.length : Int) ≤ (t.length : Int) - a) = false := by simp; omega
        have HQ2 : Hid (q = false) := Lib.hid (by rw [HQ.out, gd3]; simp)
        clear HQ HV HP
        go_enter Tryd.func15, Tryd.ntmps15
        go_wp2_with fail
        go_ret
        exact ⟨by rw [HQ2.out]; rfl, 0, rfl⟩
    · have g2' : ¬ (a : Int) ≤ t.length := by omega
      have gd2 : decide ((a : Int) ≤ t.length) = false := by simp; omega
      have gd2n : decide (a ≤ t.length) = false := by simp; omega
      have HQ2 : Hid (q = false) := Lib.hid (by rw [HQ.out, gd2]; simp)
      clear HQ HV HP
      go_enter Tryd.func15, Tryd.ntmps15
      go_wp2_with fail
      go_ret
      exact ⟨by rw [HQ2.out]; rfl, 0, rfl⟩
  · have gd0 : decide ((0 : Int) ≤ p) = false := by simp; omega
    have HQ2 : Hid (q = false) := Lib.hid (by rw [HQ.out, gd0]; simp)
    clear HQ HV HP
    go_enter Tryd.func15, Tryd.ntmps15
    go_wp2_with fail
    go_ret
    exact ⟨by rw [HQ2.out]; rfl, 0, rfl⟩
/-- The box of what came and the result's cells. -/
structure BxSt (T : TypeId) (w wr : World) (A : Option Addr) (n k : Nat) : Prop where
  bx : Blk wr w.heap.size T #[.slice A n k]
  r : Blk wr (w.heap.size + 1) 29 #[.int .i64 0, .int .i64 0]
  bel : Below w.heap.size w wr
section
variable {T : TypeId} {w wr w' : World} {A : Option Addr} {n k : Nat}
theorem BxSt.below (h : BxSt T w wr A n k) (hb : Below wr.heap.size wr w') : BxSt T w w' A n k :=
  ⟨h.bx.below hb h.bx.lt, h.r.below hb h.r.lt, h.bel.trans (hb.mono h.bel.size)⟩
theorem BxSt.facts (h : BxSt T w wr A n k) : wr.cell? ⟨w.heap.size, 0, none⟩ = some (.slice A n k) ∧ wr.cell? ⟨w.heap.size + 1, 0, none⟩ = some (.int .i64 0) ∧ wr.cell? ⟨w.heap.size + 1, 1, none⟩ = some (.int .i64 0) ∧
    wr.frozen? ⟨w.heap.size + 1, 0, none⟩ = false ∧ wr.frozen? ⟨w.heap.size + 1, 1, none⟩ = false ∧ w.heap.size < wr.heap.size ∧ w.heap.size + 1 < wr.heap.size :=
  ⟨(h.bx.cell 0).trans rfl, (h.r.cell 0).trans rfl, (h.r.cell 1).trans rfl, h.r.frozen 0, h.r.frozen 1, h.bx.lt, h.r.lt⟩
theorem BxSt.put (h : BxSt T w wr A n k) (u v : Value) : Blk ((wr.setCell ⟨w.heap.size + 1, 0, none⟩ u).setCell ⟨w.heap.size + 1, 1, none⟩ v) (w.heap.size + 1) 29 #[u, v] ∧ Below w.heap.size w ((wr.setCell ⟨w.heap.size + 1, 0, none⟩ u).setCell ⟨w.heap.size + 1, 1, none⟩ v) :=
  ⟨blk_put2 h.r u v, (h.bel.setCell (p := ⟨w.heap.size + 1, 0, none⟩) (by simp only; omega) u).setCell (p := ⟨w.heap.size + 1, 1, none⟩) (by simp only; omega) v⟩
theorem BxSt.new (T : TypeId) (w : World) (A : Option Addr) (n k : Nat) : BxSt T w ((w.alloc (.cells #[.slice A n k] T)).alloc (.cells #[.int .i64 0, .int .i64 0] 29)) A n k := ⟨(Blk.new _ _ _).alloc _, blk_new1 _ _ _ _, below_alloc2 _ _ _⟩
end
set_option maxRecDepth 100000 in
set_option maxHeartbeats 8000000 in
theorem pvalidate_any (w : World) (A : Option Addr) (k : Nat) (l : List Tp.H) (hv : HvV w Free A l) (hl : l.length ≤ 9223372036854775807) (hk : l.length ≤ k) :
    Calls Tryd.prog 14 #[.agg #[.slice A l.length k]] w (FaultPost w (Tp.vlF l)) := by
  have HV := Lib.hid (fun (w' : World) (hb : Below w.heap.size w w') => hv.keep (free_below hb))
  have HLF := Lib.hid (Tp.vlF.eq_1 l)
  generalize hr : Tp.vlF l = r at *
  clear hr hv
  have st0 := BxSt.new 27 w A l.length k
  by_cases h24 : 130 < l.length
  · have H := Lib.hid (HLF.out.trans (if_pos h24))
    have h24' : (130 : Int) < l.length := by omega
    clear HLF h24
    go_enter Tryd.func14, Tryd.ntmps14
    go_wp2_with fail
    refine bodyPost_ret (results_c rfl _ _ (w.heap.size + 1) (.int .i64 2) (.int .i64 (-1)) rfl (blk_new1 w (.cells #[.slice A l.length k] 27) 29 #[.int .i64 2, .int .i64 (-1)])) rfl (FaultPost.mk_ H.out (below_alloc2 _ _ _))
  · have H := Lib.hid (HLF.out.trans (if_neg h24))
    have h24' : ¬ (130 : Int) < l.length := by omega
    clear HLF
    go_enter Tryd.func14, Tryd.ntmps14
    go_wp2_with fail
    go_loopw [3, 15] (fun ev iv wr => ∃ i : Nat, i ≤ l.length ∧ ev = .int .i64 (Tp.ea l i) ∧ iv = .int .i64 i ∧ Hid (r = Tp.vlFrom l i) ∧ BxSt 27 w wr A l.length k) (fun _ iv _ => l.length - (intOf iv).toNat)
    case atStart => exact ⟨0, Nat.zero_le _, rfl, rfl, H, st0⟩
    case round =>
      obtain ⟨i, hi, rfl, rfl, HI, st⟩ := hrel
      obtain ⟨wo, rfl⟩ : ∃ wo : World, wo = wr := ⟨_, rfl⟩
      by_cases hlt2 : i < l.length
      · have hlt' : (i : Int) < l.length := by omega
        obtain ⟨b, off, A1, k1, A2, k2, e, hb, _, d0, d1, d2, ho⟩ := (HV.out _ st.bel).row i hlt2
        subst e
        have HIB := Lib.hid (fun h => HI.out.trans (Tp.vlFrom_bad l i hlt2 h))
        have HIN := Lib.hid (fun h => HI.out.trans (Tp.vlFrom_next l i hlt2 h))
        have HEA := Lib.hid (Tp.ea_succ l i)
        have HOK := Lib.hid (fun (h : Tp.hkC (Tp.it l i) (Tp.ea l i) = 0) => Tp.hkC_ok h)
        have hal := below_alloc1 wo (.cells #[.int .i64 (Tp.it l i).pos, .slice A1 (Tp.it l i).old.length k1, .slice A2 (Tp.it l i).new.length k2] 49)
        have HH := Lib.hid (hunk_any (wo.alloc (.cells #[.int .i64 (Tp.it l i).pos, .slice A1 (Tp.it l i).old.length k1, .slice A2 (Tp.it l i).new.length k2] 49)) (Tp.it l i) (Tp.ea l i) A1 k1 A2 k2 (ho.keep (free_below hal)))
        have HEN := Lib.hid (fun (w1 : World) h0 h1 hl => end_any w1 (Tp.it l i) A1 k1 A2 k2 h0 h1 hl)
        have st1 := st.below hal
        have bf := Blk.new wo 49 #[.int .i64 (Tp.it l i).pos, .slice A1 (Tp.it l i).old.length k1, .slice A2 (Tp.it l i).new.length k2]
        obtain ⟨p0, p1, p2, p3, p4, l0, l1⟩ := st.facts
        clear HI st ho
        generalize Tp.it l i = x at *
        generalize Tp.hkC x (Tp.ea l i) = cd at *
        generalize Tp.ea l i = e0 at *
        obtain ⟨pos, old, new⟩ := x
        simp only at *
        go_wp2_with fail
        go_at_call 25
        with_reducible refine HH.out.mono ?_
        rintro e w1 ⟨rfl, hb1⟩
        have st2 := st1.below hb1
        have bf2 := bf.below hb1 bf.lt
        clear st1 bf hb1 HH p0 p1 p2 p3 p4 l0 l1 hal
        obtain ⟨p0, p1, p2, p3, p4, l0, l1⟩ := st2.facts
        have b0 := (bf2.cell 0).trans rfl
        have b1 := (bf2.cell 1).trans rfl
        have b2 := (bf2.cell 2).trans rfl
        have bl := bf2.lt
        by_cases hc : cd = 0
        · subst hc
          have HR := Lib.hid (HIN.out rfl)
          have ok := HOK.out rfl
          have HE2 := Lib.hid (HEN.out w1 ok.lo ok.hi ok.old.len)
          clear HIB HIN HOK HEN ok
          have st3 := st2.below (below_alloc1 w1 (.cells #[.int .i64 pos, .slice A1 old.length k1, .slice A2 new.length k2] 49))
          go_wp2_with fail
          go_at_call 26
          with_reducible refine HE2.out.mono ?_
          rintro e w2 ⟨rfl, rfl⟩
          go_wp2_with fail
          go_roundw
          case rel => exact ⟨i + 1, by omega, by rw [HEA.out], by go_num, HR, st3⟩
          case measure => simp [intOf]; omega
        · have HR := Lib.hid (HIB.out hc)
          have hx1 : (cd == 0) = false := by simpa using hc
          have hx2 : (cd != 0) = true := by simpa using hc
          clear HIB HIN HOK HEN hc HEA
          go_wp2_with fail
          obtain ⟨q1, q2⟩ := st2.put (.int .i64 cd) (.int .i64 i)
          exact bodyPost_ret (results_c rfl _ _ (w.heap.size + 1) (.int .i64 cd) (.int .i64 i) rfl q1) rfl (FaultPost.mk_ HR.out q2)
      · obtain rfl : i = l.length := by omega
        have H2 : Hid (r = (0, 0)) := Lib.hid (by rw [HI.out, Tp.vlFrom_end l _ (Nat.le_refl _)])
        obtain ⟨p0, p1, p2, p3, p4, l0, l1⟩ := st.facts
        clear HI
        go_wp2_with fail
        obtain ⟨k1, k2⟩ := st.put (.int .i64 0) (.int .i64 0)
        exact bodyPost_ret (results_c rfl _ _ (w.heap.size + 1) (.int .i64 0) (.int .i64 0) rfl k1) rfl (FaultPost.mk_ H2.out k2)
end Go.Proofs.YtjfckjonfpkphaaDoor
