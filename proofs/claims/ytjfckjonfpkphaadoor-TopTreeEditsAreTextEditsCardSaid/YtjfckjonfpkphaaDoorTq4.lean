/-
  Text patches: walk of 'Apply'.
-/
import Derived.Test.YtjfckjonfpkphaaDoorTq3
namespace Go.Proofs.YtjfckjonfpkphaaDoor
open Go.RowKit Go.V Go.Shelf
set_option linter.unusedVariables false

/-- What 'Apply' tells. -/
def ApPost (w : World) (q : List (List UInt8) × (Int × Int)) (e : Ending) (w' : World) : Prop :=
  ∃ A c, e = .returned (.tuple #[.slice A q.1.length c, .agg #[.int .i64 q.2.1, .int .i64 q.2.2]]) ∧ q.1.length ≤ c ∧ SA w' (Under w.heap.size) A (ssV q.1) ∧ Below w.heap.size w w'
theorem ApPost.no {w w' : World} {q : List (List UInt8) × (Int × Int)} {c i : Int} (h : q = ([], (c, i))) (hb : Below w.heap.size w w') : ApPost w q (.returned (.tuple #[.slice none 0 0, .agg #[.int .i64 c, .int .i64 i]])) w' := by
  subst h; exact ⟨none, 0, rfl, Nat.zero_le _, SA.nil, hb⟩
set_option maxRecDepth 100000 in
set_option maxHeartbeats 16000000 in
theorem apply_any (w : World) (A : Option Addr) (k : Nat) (l : List Tp.H) (hv : HvV w Free A l) (hl : l.length ≤ 9223372036854775807) (hk : l.length ≤ k) (B : Option Addr) (c : Nat) (t : List (List UInt8)) (ht : SA w Free B (ssV t)) (hok : Tr.LnOk t) (hc : t.length ≤ c) :
    Calls Tryd.prog 6 #[.agg #[.slice A l.length k], .slice B t.length c] w (ApPost w (Tp.apF l t)) := by
  have HV := Lib.hid hv
  have HPV := Lib.hid (fun (w1 : World) (hb : Below w.heap.size w w1) => pvalidate_any w1 A k l (hv.keep (free_below hb)) hl hk)
  have HSC := Lib.hid (fun (w1 : World) (hb : Below w.heap.size w w1) => (show Calls Tryd.prog 12 #[.slice B t.length c, .int .i64 (-2)] w1 (FaultPost w1 (0, 0)) from by
    have h := lnSecond_any w1 B c t (-2) (ht.keep (free_below hb)) (by have := hok.len; omega)
    rw [hok.f] at h
    exact h))
  have HOC := Lib.hid (fun (w1 : World) (hb : Below w.heap.size w w1) (A2 : Option Addr) (k2 : Nat) (part : List (List UInt8)) (p : Int) (hp : SA w1 Free A2 (ssV part)) (hpl : part.length ≤ 1000) => occurs_any w1 B A2 c k2 t part p (ht.keep (free_below hb)) hp (by have := hok.len; omega) hpl hc)
  have HRW := Lib.hid (fun (w1 : World) (hb : Below w.heap.size w w1) h1 h2 => raw_any w1 A k l (hv.keep (free_below hb)) B c t (ht.keep (free_below hb)) h1 h2 hok.len hc)
  have HA1 := Lib.hid (Tp.apF_v (l := l) (t := t))
  have HA2 := Lib.hid (Tp.apF_c (l := l) (t := t))
  have HA3 := Lib.hid (Tp.apF_l (l := l) (t := t))
  have HA4 := Lib.hid (Tp.apF_k (l := l) (t := t))
  have HVO := Lib.hid (Tp.vlF_ok (l := l))
  have HFI := Lib.hid (Tp.fits_of (l := l) (t := t))
  have ht120 := hok.len
  have hrl := Lib.hid (fun hv => Tp.raw_len (l := l) (t := t) hv hok.len)
  generalize Tp.apF l t = q at *
  clear hv ht hok
  have st0 := BxSt.new 27 w A l.length k
  go_enter Tryd.func6, Tryd.ntmps6
  go_wp2_with fail
  go_at_call 14
  with_reducible refine (HPV.out _ st0.bel).mono ?_
  rintro e w1 ⟨rfl, hb1⟩
  have st := st0.below hb1
  clear HPV st0 hb1
  obtain ⟨p0, p1, p2, p3, p4, l0, l1⟩ := st.facts
  by_cases hbad : (Tp.vlF l).1 ≠ 0
  · have H := Lib.hid (HA1.out hbad)
    have hx1 : ((Tp.vlF l).1 == 0) = false := by simpa using hbad
    have hx2 : ((Tp.vlF l).1 != 0) = true := by simpa using hbad
    clear hbad HA1 HA2 HA3 HA4 HVO HFI HSC HOC HRW HV hrl
    generalize Tp.vlF l = v at *
    obtain ⟨cd, ix⟩ := v
    simp only at *
    go_wp2_with fail
    go_region
    all_goals
      go_wp2_with fail
      obtain ⟨k1, k2⟩ := st.put (.int .i64 cd) (.int .i64 ix)
      refine bodyPost_ret (results_tc rfl _ _ (w.heap.size + 1) (.int .i64 cd) (.int .i64 ix) rfl (k1.alloc _).drew) rfl ?_
      exact ApPost.no H.out (below_drew' (k2.alloc (by simp [World.setCell]; omega) _))
  · have hz := Classical.not_not.1 hbad
    obtain ⟨hz2, vok⟩ := HVO.out hz
    have HVK := Lib.hid vok
    have HZ := Lib.hid hz
    rw [hz2]
    have st1 := st.below (below_alloc1 w1 (.cells #[.int .i64 0, .int .i64 0] 29))
    have HS2 := Lib.hid (HSC.out _ st1.bel)
    clear hbad HA1 HVO hz2 vok HSC st hz
    go_wp2_with fail
    go_at_call 12
    with_reducible refine HS2.out.mono ?_
    rintro e w2 ⟨rfl, hb2⟩
    have st2 := st1.below hb2
    clear HS2 st1 hb2 p0 p1 p2 p3 p4 l0 l1
    obtain ⟨p0, p1, p2, p3, p4, l0, l1⟩ := st2.facts
    have st3 := st2.below (below_alloc1 w2 (.cells #[.int .i64 0, .int .i64 0] 29))
    go_wp2_with fail
    go_loopw [26] (fun iv wr => ∃ i : Nat, i ≤ l.length ∧ iv = .int .i64 i ∧ Hid (Tp.cfFrom l t 0 = Tp.cfFrom l t i) ∧ BxSt 27 w wr A l.length k) (fun iv _ => l.length - (intOf iv).toNat)
    case atStart => exact ⟨0, Nat.zero_le _, rfl, Lib.hid rfl, st3⟩
    case round =>
      clear st2 st3 p0 p1 p2 p3 p4 l0 l1
      obtain ⟨i, hi, rfl, HI, st⟩ := hrel
      obtain ⟨wo, rfl⟩ : ∃ wo : World, wo = wr := ⟨_, rfl⟩
      obtain ⟨p0, p1, p2, p3, p4, l0, l1⟩ := st.facts
      by_cases hlt2 : i < l.length
      · have hlt' : (i : Int) < l.length := by omega
        obtain ⟨b, off, A1, k1, A2, k2, e, hb, _, d0, d1, d2, ho⟩ := (HV.out.keep (free_below st.bel)).row i hlt2
        subst e
        have hal := below_alloc1 wo (.cells #[.int .i64 (Tp.it l i).pos, .slice A1 (Tp.it l i).old.length k1, .slice A2 (Tp.it l i).new.length k2] 49)
        have st1 := st.below hal
        have HO2 := Lib.hid (HOC.out _ st1.bel A1 k1 (Tp.it l i).old (Tp.it l i).pos (ho.o.ls.keep (free_below hal)) (by have := (HVK.out.h i hlt2).old.len; omega))
        have HCN := Lib.hid (fun h => HI.out.trans (Tp.cfFrom_next l t i hlt2 h))
        have HCB := Lib.hid (fun h => HI.out.trans (Tp.cfFrom_bad l t i hlt2 h))
        clear ho hal HI
        generalize Tp.it l i = x at *
        obtain ⟨pos, old, new⟩ := x
        simp only at *
        cases hoc : Tp.occ t old pos with
        | false =>
          rw [hoc] at HO2
          have HC := Lib.hid (HCB.out hoc)
          have HQ := Lib.hid (show q = ([], (19, (i : Int))) by rw [HA2.out HZ.out (by rw [HC.out]; simp), HC.out])
          clear HCB HCN hoc HC HA2 HA3 HA4 HFI HOC HRW hrl
          go_wp2_with fail
          go_at_call 15
          with_reducible refine HO2.out.mono ?_
          rintro e w3 ⟨rfl, n, rfl⟩
          go_wp2_with fail
          obtain ⟨q1, q2⟩ := (st1.below (below_drewN (Below.refl _ _) n)).put (.int .i64 19) (.int .i64 i)
          refine bodyPost_ret (results_tc rfl _ _ (w.heap.size + 1) (.int .i64 19) (.int .i64 i) rfl q1) rfl ?_
          exact ApPost.no HQ.out q2
        | true =>
          rw [hoc] at HO2
          have HC := Lib.hid (HCN.out hoc)
          clear HCB HCN hoc
          go_wp2_with fail
          go_at_call 15
          with_reducible refine HO2.out.mono ?_
          rintro e w3 ⟨rfl, n, rfl⟩
          have st2 := st1.below (below_drewN (Below.refl _ _) n)
          clear st st1
          go_wp2_with fail
          go_roundw
          case rel => exact ⟨i + 1, by omega, by go_num, HC, st2⟩
          case measure => simp [intOf]; omega
      · obtain rfl : i = l.length := by omega
        have hcz : (Tp.cfFrom l t 0).1 = 0 := by rw [HI.out, Tp.cfFrom_end l t _ (Nat.le_refl _)]
        have HR2 := Lib.hid (HRW.out _ st.bel HVK.out (HFI.out hcz))
        have HQ3 := Lib.hid (HA3.out HZ.out hcz)
        have HQ4 := Lib.hid (HA4.out HZ.out hcz)
        have hr40 := hrl.out HVK.out
        clear HI HRW HA2 HA3 HA4 HFI hcz hrl HOC
        generalize Tp.raw l t = r at *
        go_wp2_with fail
        go_at_call 16
        with_reducible refine HR2.out.mono ?_
        rintro e w3 ⟨A5, c5, rfl, hc5, hs5, hb5⟩
        have st2 := st.below hb5
        have hsz5 := st.bel.size
        have l1w := st.r.lt
        clear HR2 st hb5 p0 p1 p2 p3 p4 l0 l1
        obtain ⟨p0, p1, p2, p3, p4, l0, l1⟩ := st2.facts
        by_cases h120 : 120 < r.length
        · have HQ := Lib.hid (HQ3.out h120)
          have h120' : (120 : Int) < r.length := by omega
          clear HQ3 HQ4 h120
          go_wp2_with fail
          obtain ⟨q1, q2⟩ := st2.put (.int .i64 10) (.int .i64 (-1))
          refine bodyPost_ret (results_tc rfl _ _ (w.heap.size + 1) (.int .i64 10) (.int .i64 (-1)) rfl q1) rfl ?_
          exact ApPost.no HQ.out q2
        · have HQ := Lib.hid (HQ4.out h120)
          have h120' : ¬ (120 : Int) < r.length := by omega
          clear HQ3 HQ4 h120
          go_wp2_with fail
          obtain ⟨q1, q2⟩ := st2.put (.int .i64 0) (.int .i64 0)
          refine bodyPost_ret (results_tc rfl _ _ (w.heap.size + 1) (.int .i64 0) (.int .i64 0) rfl q1) rfl ?_
          rw [HQ.out]
          refine ⟨A5, c5, rfl, hc5, ?_, q2⟩
          have hX : Under wo.heap.size (w.heap.size + 1) := by unfold Under; exact l1w
          have hXX : ∀ b, Under w.heap.size b → Under wo.heap.size b := fun b hb => Nat.lt_of_lt_of_le hb hsz5
          exact (hs5.keep ((Keeps.setCell w3 _ ⟨w.heap.size + 1, 0, none⟩ _ hX).trans (Keeps.setCell _ _ ⟨w.heap.size + 1, 1, none⟩ _ hX))).mono hXX
end Go.Proofs.YtjfckjonfpkphaaDoor
