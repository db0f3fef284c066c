/-
  File trees: walks of 'Second', 'Strings', 'Trees', 'terminated', 'LinesBlob'.
-/
import Derived.Test.YtjfckjonfpkphaaDoorTr3
import Derived.Test.YtjfckjonfpkphaaDoorView14
namespace Go.Proofs.YtjfckjonfpkphaaDoor
open Go.RowKit Go.V Go.Shelf
set_option linter.unusedVariables false

set_option maxHeartbeats 4000000 in
theorem tsecond_any (w : World) (hm : Mx w) (A : Option Addr) (k : Nat) (t : List Tr.F) (i : Int) (hv : VfV w Free A t) (hl : t.length ≤ 9223372036854775807) (hk : t.length ≤ k) :
    Calls Tryd.prog 18 #[.agg #[.slice A t.length k], .int .i64 i] w (FaultPost w (secF (Tr.vlF t) i)) := by
  have HC := Lib.hid (fun (w1 : World) (hb : Below w.heap.size w w1) => tvalidate_any w1 (hm.below hb) A k t (hv.keep (free_below hb)) hl hk)
  have HZ := Lib.hid (fun (h : (Tr.vlF t).1 = 0) => (Tr.vlF_ok h).1)
  have HS := Lib.hid (secF.eq_1 (Tr.vlF t) i)
  generalize hr : secF (Tr.vlF t) i = r at *
  clear hr hv hm
  have st0 : TvSt w ((w.alloc (.cells #[.slice A t.length k] 24)).alloc (.cells #[.int .i64 0, .int .i64 0] 29)) A t.length k := ⟨(Blk.new _ _ _).alloc _, blk_new1 _ _ _ _, below_alloc2 _ _ _⟩
  go_enter Tryd.func18, Tryd.ntmps18
  go_wp2_with fail
  go_at_call 4
  with_reducible refine (HC.out _ st0.bel).mono ?_
  rintro e w1 ⟨rfl, hb1⟩
  have st := st0.below hb1
  clear HC st0 hb1
  obtain ⟨p0, p1, p2, p3, p4, l0, l1⟩ := st.facts
  by_cases hbad : (Tr.vlF t).1 ≠ 0
  · have H := Lib.hid (HS.out.trans (if_pos hbad))
    have hx1 : ((Tr.vlF t).1 == 0) = false := by simpa using hbad
    have hx2 : ((Tr.vlF t).1 != 0) = true := by simpa using hbad
    clear HS HZ hbad
    generalize Tr.vlF t = q at *
    obtain ⟨cd, ix⟩ := q
    simp only at hx1 hx2
    go_wp2_with fail
    obtain ⟨k1, k2⟩ := st.put (.int .i64 cd) (.int .i64 i)
    exact bodyPost_ret (results_c rfl _ _ (w.heap.size + 1) (.int .i64 cd) (.int .i64 i) rfl (k1.alloc _)) rfl (FaultPost.mk_ H.out (k2.alloc (by simp [World.setCell]; omega) _))
  · have hz := Classical.not_not.1 hbad
    have H := Lib.hid (HS.out.trans (if_neg hbad))
    rw [HZ.out hz]
    clear HS HZ hbad hz
    go_wp2_with fail
    obtain ⟨k1, k2⟩ := st.put (.int .i64 0) (.int .i64 0)
    exact bodyPost_ret (results_c rfl _ _ (w.heap.size + 1) (.int .i64 0) (.int .i64 0) rfl (k1.alloc _)) rfl (FaultPost.mk_ H.out (k2.alloc (by simp [World.setCell]; omega) _))
/-- Equality of two lists up to i. -/
theorem eq_uptoS {α : Type} {a b : List α} (hl : a.length = b.length) (h : ∀ j, j < a.length → a[j]? = b[j]?) : a = b :=
  List.ext_getElem? fun j => by
    by_cases hj : j < a.length
    · exact h j hj
    · rw [List.getElem?_eq_none (by omega), List.getElem?_eq_none (by omega)]
set_option maxHeartbeats 1600000 in
theorem strings_any (w : World) (A1 A2 : Option Addr) (c1 c2 : Nat) (l1 l2 : List (List UInt8)) (h1 : SA w Free A1 (ssV l1)) (h2 : SA w Free A2 (ssV l2)) (hl1 : l1.length ≤ 9223372036854775807) (hl2 : l2.length ≤ 9223372036854775807) :
    Calls Tryd.prog 9 #[.slice A1 l1.length c1, .slice A2 l2.length c2] w fun e w' => e = .returned (.bool (decide (l1 = l2))) ∧ ∃ n, w' = w.drewN n := by
  by_cases hlen : l1.length = l2.length
  · have hlen' : ((l1.length : Int) != l2.length) = false := by simp [hlen]
    have HL := Lib.hid hlen
    clear hlen
    go_enter Tryd.func9, Tryd.ntmps9
    go_wp2_with fail
    go_loopw [5] (fun k wr => ∃ i : Nat, i ≤ l1.length ∧ k = .int .i64 i ∧ Hid (∀ j, j < i → l1[j]? = l2[j]?) ∧ ∃ n, wr = w.drewN n) (fun k _ => l1.length - (intOf k).toNat)
    case atStart => exact ⟨0, Nat.zero_le _, rfl, Lib.hid (fun j hj => by omega), 0, rfl⟩
    case round =>
      obtain ⟨i, hi, rfl, H, n, rfl⟩ := hrel
      by_cases hlt : i < l1.length
      · have hlt2 : i < l2.length := by rw [← HL.out]; exact hlt
        obtain ⟨b1, o1, rfl, _, _, x1⟩ := ssV_row h1 i hlt
        obtain ⟨b2, o2, rfl, _, _, x2⟩ := ssV_row h2 i hlt2
        have hlt' : (i : Int) < l1.length := by omega
        have hlt2' : (i : Int) < l2.length := by omega
        by_cases he : l1[i] = l2[i]
        · have H' : Hid (∀ j, j < i + 1 → l1[j]? = l2[j]?) := Lib.hid fun j hj => by
            by_cases e : j = i
            · subst e; rw [List.getElem?_eq_getElem hlt, List.getElem?_eq_getElem hlt2, he]
            · exact H.out j (by omega)
          have he' : (l1[i] != l2[i]) = false := by simp [he]
          have he2 : (l1[i] == l2[i]) = true := by simp [he]
          clear he
          generalize l1[i] = u1 at *
          generalize l2[i] = u2 at *
          go_wp2_with fail
          go_quiet (fail)
          go_wp2
          go_roundw
          case rel => exact ⟨i + 1, by omega, by go_num, H', _, rfl⟩
          case measure => simp [intOf]; omega
        · have HN : Hid (decide (l1 = l2) = false) := Lib.hid (decide_eq_false fun e => he (by subst e; rfl))
          have he' : (l1[i] != l2[i]) = true := by simpa using he
          have he2 : (l1[i] == l2[i]) = false := by simpa using he
          clear he
          generalize l1[i] = u1 at *
          generalize l2[i] = u2 at *
          go_wp2_with fail
          go_quiet (fail)
          go_wp2
          go_ret
          exact ⟨by rw [HN.out]; rfl, n + nq, by simp [World.drewN_drewN]⟩
      · obtain rfl : i = l1.length := by omega
        have HY : Hid (decide (l1 = l2) = true) := Lib.hid (decide_eq_true (eq_uptoS HL.out H.out))
        go_wp2
        go_ret
        exact ⟨by rw [HY.out]; rfl, _, rfl⟩
  · have hlen' : ((l1.length : Int) != l2.length) = true := by simp; omega
    have HN : Hid (decide (l1 = l2) = false) := Lib.hid (decide_eq_false fun e => hlen (by rw [e]))
    clear hlen
    go_enter Tryd.func9, Tryd.ntmps9
    go_wp2_with fail
    go_ret
    exact ⟨by rw [HN.out]; rfl, 0, rfl⟩

end Go.Proofs.YtjfckjonfpkphaaDoor
