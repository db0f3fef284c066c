/-
  Histories: walk of the reference's 'NextOf'.
-/
import Derived.Test.YtoohmkdgimkgoaaW30
import Derived.Test.YtoohmkdgimkgoaaW26
namespace Go.Proofs.Ytoohmkdgimkgoaa
open Go.RowKit Go.V
set_option linter.unusedVariables false

theorem rx_yes (l : List Hs.Cm) (cs : List Nat) (j : Nat) (h : j < cs.length) (c k : Nat) (hc : cs[j] = c) (hk : Hs.kOf l cs c = k) (h0 : 0 < min (k : Int) ((cs.length : Int) - k)) (hm : (Hs.rxAt l cs (j + 1)).2 ≤ min (k : Int) ((cs.length : Int) - k)) : Hs.rxAt l cs j = ((c : Int), min (k : Int) ((cs.length : Int) - k)) := by
  have hle := Hs.kOf_le l cs c
  have e : (Hs.valOf l cs c : Int) = min (k : Int) ((cs.length : Int) - k) := by unfold Hs.valOf; rw [hk]; omega
  rw [Hs.rxAt_step l cs j h, hc, Hs.rxStep, e, if_pos ⟨h0, hm⟩]
theorem rx_no (l : List Hs.Cm) (cs : List Nat) (j : Nat) (h : j < cs.length) (c k : Nat) (hc : cs[j] = c) (hk : Hs.kOf l cs c = k) (hm : ¬ (0 < min (k : Int) ((cs.length : Int) - k) ∧ (Hs.rxAt l cs (j + 1)).2 ≤ min (k : Int) ((cs.length : Int) - k))) : Hs.rxAt l cs j = Hs.rxAt l cs (j + 1) := by
  have hle := Hs.kOf_le l cs c
  have e : (Hs.valOf l cs c : Int) = min (k : Int) ((cs.length : Int) - k) := by unfold Hs.valOf; rw [hk]; omega
  rw [Hs.rxAt_step l cs j h, hc, Hs.rxStep, e, if_neg hm]

set_option maxRecDepth 100000 in
set_option maxHeartbeats 16000000 in
theorem nextOf_any (w : World) (A A2 : Option Addr) (k k2 : Nat) (l : List Hs.Cm) (gs : List Nat) (b : Nat) (hv : CV w A l) (hok : Hs.Ok l) (h2 : IV w A2 (Hs.ints gs)) (hin : ∀ x ∈ gs, x < l.length) (hb : b < l.length) (hlen : gs.length ≤ 9223372036854775807) :
    Calls Try.prog 43 #[.slice A l.length k, .slice A2 gs.length k2, .int .i64 (b : Int)] w fun e w' => e = .returned (.int .i64 (Hs.rxAt l (Hs.cand l gs b) 0).1) ∧ Below w.heap.size w w' := by
  have hl := hok.len
  have HR := Lib.hid (reach_any w A k l hv hok)
  have HC := Lib.hid (fun (w1 : World) hb1 => candidatesOf_any w1 A A2 k k2 l gs b (hv.below hb1) hok (h2.below hb1) hin hb hlen)
  have HIN := Lib.hid (Hs.cand_lt l gs b)
  have hcl := Hs.cand_len l gs b
  clear hin
  go_enter Try.func43, Try.ntmps43
  go_wp2_with fail
  go_at_call 24
  refine HR.out.mono ?_
  rintro e w1 ⟨At, ct, rfl, hm, hb1⟩
  have HCALL := Lib.hid (HC.out w1 hb1)
  clear HR HC
  go_wp2_with fail
  go_at_call 42
  refine HCALL.out.mono ?_
  generalize hcs : Hs.cand l gs b = cs at *
  have HCS := Lib.hid hcs
  clear hcs
  rintro e w2 ⟨A5, c5, rfl, hc5, hv5, hb2⟩
  simp only [Hs.ints_length]
  have HM := Lib.hid (fun x i hx hi => mv_cell (wr := w2) hm hb2 x i hx hi)
  have HAT := Lib.hid (fun (i : Nat) (hi : i < cs.length) => nat_at (wr := w2) hv5 (Below.refl _ _) i hi)
  have HBD := Lib.hid (Hs.rxAt_bd l cs cs.length)
  have HE := Lib.hid (Hs.rxAt_end l cs)
  have HY := Lib.hid (rx_yes l cs)
  have HN := Lib.hid (rx_no l cs)
  have hbel := hb1.trans (hb2.mono hb1.size)
  clear hm hv5 hb1 hb2 HCALL hc5
  go_wp2_with fail
  go_loopw [9, 10, 11] (fun bv vv iv wr => ∃ (j n : Nat), j ≤ cs.length ∧ bv = .int .i64 (Hs.rxAt l cs j).1 ∧ vv = .int .i64 (Hs.rxAt l cs j).2 ∧ iv = .int .i64 ((j : Int) - 1) ∧ wr = w2.drewN n) (fun _ _ iv _ => (intOf iv + 1).toNat)
  case atStart => exact ⟨cs.length, 0, Nat.le_refl _, by rw [HE.out], by rw [HE.out], rfl, rfl⟩
  case round =>
    obtain ⟨j, nd, hj, rfl, rfl, rfl, rfl⟩ := hrel
    by_cases hj0 : 0 < j
    · obtain ⟨i, rfl⟩ : ∃ i, j = i + 1 := ⟨j - 1, by omega⟩
      have hri : ((i + 1 : Nat) : Int) - 1 = (i : Int) := by omega
      rw [hri]
      clear hri hj0
      have hil : i < cs.length := by omega
      have hil' : (i : Int) < cs.length := by omega
      have hi0 : (0 : Int) ≤ (i : Int) := by omega
      obtain ⟨b0, off0, e0, hb0, hc0⟩ := HAT.out i hil
      subst e0
      have hcl0 := HIN.out _ (List.getElem_mem hil)
      have HY2 := Lib.hid (HY.out i hil)
      have HN2 := Lib.hid (HN.out i hil)
      generalize cs[i] = c at *
      have hbd := HBD.out (i + 1) (by omega)
      generalize hst : Hs.rxAt l cs (i + 1) = st at *
      have HST := Lib.hid hst
      clear hst
      obtain ⟨bst, vst⟩ := st
      simp only at hbd
      have HK0 : Hid (kAt l cs c 0 = 0) := Lib.hid (by simp [kAt])
      go_wp2_with fail
      go_loopw [12, 13] (fun nv kv wr => ∃ (m n : Nat), m ≤ cs.length ∧ nv = .int .i64 (kAt l cs c m : Nat) ∧ kv = .int .i64 m ∧ wr = w2.drewN n) (fun _ kv _ => cs.length - (intOf kv).toNat)
      case atStart => exact ⟨0, nd, Nat.zero_le _, by rw [HK0.out]; rfl, rfl, rfl⟩
      case round =>
        obtain ⟨m, nq, hm, rfl, rfl, rfl⟩ := hrel
        have hkl := kAt_le l cs c m hm
        by_cases hml : m < cs.length
        · have hml' : (m : Int) < cs.length := by omega
          have hm0 : (0 : Int) ≤ (m : Int) := by omega
          obtain ⟨b1, off1, e1, hb1, hc1⟩ := HAT.out m hml
          cases e1
          have hdl := HIN.out _ (List.getElem_mem hml)
          have HKS := Lib.hid (kAt_succ l cs c m hml)
          generalize cs[m] = d at *
          obtain ⟨b2, off2, b3, off3, c3, e2, hc2, hc3⟩ := HM.out c d hcl0 hdl
          subst e2
          have hdl' : (d : Int) < l.length := by omega
          have hcl' : (c : Int) < l.length := by omega
          have hd0 : (0 : Int) ≤ (d : Int) := by omega
          have hcc0 : (0 : Int) ≤ (c : Int) := by omega
          generalize Hs.reach l c d = v at *
          generalize kAt l cs c m = km at *
          cases v
          · go_wp2_with fail
            go_quiet (fail)
            go_wp2_with fail
            go_roundw
            case rel => exact ⟨m + 1, _, by omega, by rw [HKS.out]; rfl, by go_num, rfl⟩
            case measure => simp [intOf]; omega
          · go_wp2_with fail
            go_quiet (fail)
            go_wp2_with fail
            go_roundw
            case rel => exact ⟨m + 1, _, by omega, by rw [HKS.out]; go_num, by go_num, rfl⟩
            case measure => simp [intOf]; omega
        · obtain rfl : m = cs.length := by omega
          have HKA := Lib.hid (kAt_all l cs c).symm
          generalize kAt l cs c cs.length = km at *
          have hmin : min (km : Int) ((cs.length : Int) - km) = if (cs.length : Int) - km < (km : Int) then (cs.length : Int) - km else (km : Int) := by split <;> omega
          have HM2 := Lib.hid hmin
          have HYK := Lib.hid (HY2.out c km rfl HKA.out)
          have HNK := Lib.hid (HN2.out c km rfl HKA.out)
          clear hmin HY2 HN2 HM HKA HK0 HY HN HE HBD
          by_cases hlt : (cs.length : Int) - km < (km : Int)
          · have HMV := Lib.hid (HM2.out.trans (if_pos hlt))
            clear HM2
            by_cases h0 : 0 < (cs.length : Int) - km
            · by_cases hbest : vst ≤ (cs.length : Int) - km
              · have HE2 := Lib.hid (HYK.out (by rw [HMV.out]; exact h0) (by rw [HMV.out]; exact hbest))
                rw [HMV.out] at HE2
                have q1 : decide (0 < (cs.length : Int) - km) = true := by simpa using h0
                have q2 : decide (vst ≤ (cs.length : Int) - km) = true := by simpa using hbest
                go_wp2_with fail
                go_roundw
                case rel => exact ⟨i, _, by omega, by rw [HE2.out], by rw [HE2.out], rfl, rfl⟩
                case measure => simp [intOf]
              · have HE2 := Lib.hid (HNK.out (by rw [HMV.out]; exact fun hh => hbest hh.2))
                have q1 : decide (0 < (cs.length : Int) - km) = true := by simpa using h0
                have q2 : decide (vst ≤ (cs.length : Int) - km) = false := by simpa using hbest
                go_wp2_with fail
                go_roundw
                case rel => exact ⟨i, _, by omega, by rw [HE2.out], by rw [HE2.out], rfl, rfl⟩
                case measure => simp [intOf]
            · have HE2 := Lib.hid (HNK.out (by rw [HMV.out]; exact fun hh => h0 hh.1))
              have q1 : decide (0 < (cs.length : Int) - km) = false := by simpa using h0
              go_wp2_with fail
              go_roundw
              case rel => exact ⟨i, _, by omega, by rw [HE2.out], by rw [HE2.out], rfl, rfl⟩
              case measure => simp [intOf]
          · have HMV := Lib.hid (HM2.out.trans (if_neg hlt))
            clear HM2
            by_cases h0 : 0 < (km : Int)
            · by_cases hbest : vst ≤ (km : Int)
              · have HE2 := Lib.hid (HYK.out (by rw [HMV.out]; exact h0) (by rw [HMV.out]; exact hbest))
                rw [HMV.out] at HE2
                have q1 : decide (0 < (km : Int)) = true := by simpa using h0
                have q2 : decide (vst ≤ (km : Int)) = true := by simpa using hbest
                go_wp2_with fail
                go_roundw
                case rel => exact ⟨i, _, by omega, by rw [HE2.out], by rw [HE2.out], rfl, rfl⟩
                case measure => simp [intOf]
              · have HE2 := Lib.hid (HNK.out (by rw [HMV.out]; exact fun hh => hbest hh.2))
                have q1 : decide (0 < (km : Int)) = true := by simpa using h0
                have q2 : decide (vst ≤ (km : Int)) = false := by simpa using hbest
                go_wp2_with fail
                go_roundw
                case rel => exact ⟨i, _, by omega, by rw [HE2.out], by rw [HE2.out], rfl, rfl⟩
                case measure => simp [intOf]
            · have HE2 := Lib.hid (HNK.out (by rw [HMV.out]; exact fun hh => h0 hh.1))
              have q1 : decide (0 < (km : Int)) = false := by simpa using h0
              go_wp2_with fail
              go_roundw
              case rel => exact ⟨i, _, by omega, by rw [HE2.out], by rw [HE2.out], rfl, rfl⟩
              case measure => simp [intOf]
    · obtain rfl : j = 0 := by omega
      go_wp2_with fail
      go_ret
      exact ⟨by rw [HCS.out]; rfl, below_drewN hbel _⟩
end Go.Proofs.Ytoohmkdgimkgoaa
