/-
  Histories: walk of bisect's 'next'.
-/
import Derived.Test.YtoohmkdgimkgoaaW24
namespace Go.Proofs.Ytoohmkdgimkgoaa
open Go.RowKit Go.V
set_option linter.unusedVariables false

def kAt (l : List Hs.Cm) (cs : List Nat) (c m : Nat) : Nat := (cs.take m).countP (Hs.reach l c)
theorem kAt_succ (l : List Hs.Cm) (cs : List Nat) (c m : Nat) (h : m < cs.length) : kAt l cs c (m + 1) = kAt l cs c m + if Hs.reach l c cs[m] = true then 1 else 0 := by
  unfold kAt; rw [List.take_succ_eq_append_getElem h, List.countP_append, List.countP_cons]; simp
theorem kAt_all (l : List Hs.Cm) (cs : List Nat) (c : Nat) : kAt l cs c cs.length = Hs.kOf l cs c := by unfold kAt Hs.kOf; rw [List.take_length]
theorem kAt_le (l : List Hs.Cm) (cs : List Nat) (c m : Nat) (h : m ≤ cs.length) : kAt l cs c m ≤ m := by
  have := List.countP_le_length (p := Hs.reach l c) (l := cs.take m)
  rw [List.length_take_of_le h] at this
  exact this
theorem nx_yes (l : List Hs.Cm) (cs : List Nat) (j : Nat) (h : j < cs.length) (c k : Nat) (hc : cs[j] = c) (hk : Hs.kOf l cs c = k) (hm : (Hs.nxAt l cs j).2 < min (k : Int) ((cs.length : Int) - k)) : Hs.nxAt l cs (j + 1) = ((c : Int), min (k : Int) ((cs.length : Int) - k)) := by
  have hle := Hs.kOf_le l cs c
  have e : (Hs.valOf l cs c : Int) = min (k : Int) ((cs.length : Int) - k) := by unfold Hs.valOf; rw [hk]; omega
  rw [Hs.nxAt_succ l cs j h, hc, Hs.nxStep, e, if_pos hm]
theorem nx_no (l : List Hs.Cm) (cs : List Nat) (j : Nat) (h : j < cs.length) (c k : Nat) (hc : cs[j] = c) (hk : Hs.kOf l cs c = k) (hm : ¬ (Hs.nxAt l cs j).2 < min (k : Int) ((cs.length : Int) - k)) : Hs.nxAt l cs (j + 1) = Hs.nxAt l cs j := by
  have hle := Hs.kOf_le l cs c
  have e : (Hs.valOf l cs c : Int) = min (k : Int) ((cs.length : Int) - k) := by unfold Hs.valOf; rw [hk]; omega
  rw [Hs.nxAt_succ l cs j h, hc, Hs.nxStep, e, if_neg hm]

set_option maxRecDepth 100000 in
set_option maxHeartbeats 8000000 in
theorem next_any (w : World) (A A2 : Option Addr) (k k2 : Nat) (l : List Hs.Cm) (cs : List Nat) (hv : CV w A l) (hok : Hs.Ok l) (hv2 : IV w A2 (Hs.ints cs)) (hin : ∀ g ∈ cs, g < l.length) (hlen : cs.length ≤ 60) :
    Calls Try.prog 58 #[.slice A l.length k, .slice A2 cs.length k2] w fun e w' => e = .returned (.int .i64 (Hs.nextI l cs)) ∧ Below w.heap.size w w' := by
  have HS := Lib.hid (fun w1 A3 b hb h => of_single w1 A A3 k l b h hok hb)
  have HIN := Lib.hid hin
  have HAT := Lib.hid (fun (i : Nat) (hi : i < cs.length) (wr : World) hbel => nat_at (wr := wr) hv2 hbel i hi)
  have HNX := Lib.hid (show Hs.nextI l cs = if cs.length = 1 then -1 else (Hs.nxAt l cs cs.length).1 from rfl)
  clear hin
  by_cases h1 : cs.length = 1
  · have H := Lib.hid (HNX.out.trans (if_pos h1))
    have h1' : ((cs.length : Int) == 1) = true := by simp; omega
    have h1'' : (cs.length == 1) = true := by simpa using h1
    clear HNX
    go_enter Try.func58, Try.ntmps58
    rw [h1]
    clear h1 h1' h1''
    go_wp2_with fail
    go_ret
    exact ⟨by rw [H.out]; rfl, Below.refl _ _⟩
  · have H := Lib.hid (HNX.out.trans (if_neg h1))
    have h1' : ((cs.length : Int) == 1) = false := by simp; omega
    have h1'' : (cs.length == 1) = false := by simpa using h1
    have HBD := Lib.hid (Hs.nxAt_bd l cs)
    have H0 := Lib.hid (Hs.nxAt_zero l cs)
    have HY := Lib.hid (nx_yes l cs)
    have HN := Lib.hid (nx_no l cs)
    clear HNX h1
    go_enter Try.func58, Try.ntmps58
    go_wp2_with fail
    go_loopw [5, 6, 20] (fun bv mv iv wr => ∃ j : Nat, j ≤ cs.length ∧ bv = .int .i64 (Hs.nxAt l cs j).1 ∧ mv = .int .i64 (Hs.nxAt l cs j).2 ∧ iv = .int .i64 j ∧ Below w.heap.size w wr) (fun _ _ iv _ => cs.length - (intOf iv).toNat)
    case atStart => exact ⟨0, Nat.zero_le _, by rw [H0.out], by rw [H0.out], rfl, Below.refl _ _⟩
    case round =>
      obtain ⟨j, hj, rfl, rfl, rfl, hbel⟩ := hrel
      obtain ⟨wo, rfl⟩ : ∃ wo : World, wo = wr := ⟨_, rfl⟩
      by_cases hjl : j < cs.length
      · have hjl' : (j : Int) < cs.length := by omega
        obtain ⟨b0, off, e, hb0, hc0⟩ := HAT.out j hjl wo hbel
        subst e
        have hcl := HIN.out _ (List.getElem_mem hjl)
        have HY2 := Lib.hid (HY.out j hjl)
        have HN2 := Lib.hid (HN.out j hjl)
        generalize cs[j] = c at *
        have hbel1 := hbel.alloc hbel.size (.cells #[.int .i64 (c : Int)] 3)
        have HCALL := Lib.hid (HS.out _ _ c hcl (hv.below hbel1) (lit_ints wo [(c : Int)] 3 _ rfl))
        have hbd := HBD.out j (by omega)
        generalize hst : Hs.nxAt l cs j = st at *
        have HST := Lib.hid hst
        clear hst
        obtain ⟨bst, mst⟩ := st
        simp only at hbd
        go_wp2_with fail
        go_at_call 50
        refine HCALL.out.mono ?_
        rintro e w2 ⟨g2, rfl, hg2, his, hb2⟩
        have hbel2 := hbel1.trans (hb2.mono hbel1.size)
        have HK0 : Hid (kAt l cs c 0 = 0) := Lib.hid (by simp [kAt])
        clear hbel1 hb2 HCALL
        go_wp2_with fail
        go_loop [10, 30] (fun kv iv => ∃ m : Nat, m ≤ cs.length ∧ kv = .int .i64 (kAt l cs c m : Nat) ∧ iv = .int .i64 m) (fun _ iv => cs.length - (intOf iv).toNat)
        case atStart => exact ⟨0, Nat.zero_le _, by rw [HK0.out]; rfl, rfl⟩
        case round =>
          obtain ⟨m, hm, rfl, rfl⟩ := hrel
          have hkl := kAt_le l cs c m hm
          by_cases hml : m < cs.length
          · have hml' : (m : Int) < cs.length := by omega
            obtain ⟨b1, off1, e1, hb1, hc1⟩ := HAT.out m hml w2 hbel2
            cases e1
            have hdl := HIN.out _ (List.getElem_mem hml)
            have HKS := Lib.hid (kAt_succ l cs c m hml)
            generalize cs[m] = d at *
            have hcd := blk_tabB his d hdl
            have hdl' : (d : Int) < l.length := by omega
            generalize Hs.reach l c d = v at *
            generalize kAt l cs c m = km at *
            cases v
            · go_wp2_with fail
              go_round
              case rel => exact ⟨m + 1, by omega, by rw [HKS.out]; rfl, by go_num⟩
              case measure => simp [intOf]; omega
            · go_wp2_with fail
              go_round
              case rel => exact ⟨m + 1, by omega, by rw [HKS.out]; go_num, by go_num⟩
              case measure => simp [intOf]; omega
          · obtain rfl : m = cs.length := by omega
            have HKA := Lib.hid (kAt_all l cs c).symm
            generalize kAt l cs c cs.length = km at *
            have hmin : min (km : Int) ((cs.length : Int) - km) = if (cs.length : Int) - km < (km : Int) then (cs.length : Int) - km else (km : Int) := by split <;> omega
            have HM := Lib.hid hmin
            clear hmin
            have HYK := Lib.hid (HY2.out c km rfl HKA.out)
            have HNK := Lib.hid (HN2.out c km rfl HKA.out)
            clear HY2 HN2 HAT HIN HS HKA HK0
            by_cases hlt : (cs.length : Int) - km < (km : Int)
            · have HM2 := Lib.hid (HM.out.trans (if_pos hlt))
              clear HM
              by_cases hbest : mst < (cs.length : Int) - km
              · have HE := Lib.hid (HYK.out (by rw [HM2.out]; omega))
                rw [HM2.out] at HE
                go_wp2_with fail
                go_roundw
                case rel => exact ⟨j + 1, by omega, by rw [HE.out], by rw [HE.out], by go_num, hbel2⟩
                case measure => simp [intOf]; omega
              · have HE := Lib.hid (HNK.out (by rw [HM2.out]; omega))
                go_wp2_with fail
                go_roundw
                case rel => exact ⟨j + 1, by omega, by rw [HE.out], by rw [HE.out], by go_num, hbel2⟩
                case measure => simp [intOf]; omega
            · have HM2 := Lib.hid (HM.out.trans (if_neg hlt))
              clear HM
              by_cases hbest : mst < (km : Int)
              · have HE := Lib.hid (HYK.out (by rw [HM2.out]; omega))
                rw [HM2.out] at HE
                go_wp2_with fail
                go_roundw
                case rel => exact ⟨j + 1, by omega, by rw [HE.out], by rw [HE.out], by go_num, hbel2⟩
                case measure => simp [intOf]; omega
              · have HE := Lib.hid (HNK.out (by rw [HM2.out]; omega))
                go_wp2_with fail
                go_roundw
                case rel => exact ⟨j + 1, by omega, by rw [HE.out], by rw [HE.out], by go_num, hbel2⟩
                case measure => simp [intOf]; omega
      · obtain rfl : j = cs.length := by omega
        go_wp2_with fail
        go_ret
        exact ⟨by rw [H.out]; rfl, hbel⟩
end Go.Proofs.Ytoohmkdgimkgoaa
