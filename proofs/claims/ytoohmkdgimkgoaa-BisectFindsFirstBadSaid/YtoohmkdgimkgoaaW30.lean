/-
  Histories: walk of the reference's 'CandidatesOf'.
-/
import Derived.Test.YtoohmkdgimkgoaaW29
import Derived.Test.YtoohmkdgimkgoaaW25
namespace Hs
def candAt (l : List Cm) (gs : List Nat) (b i k : Nat) : Bool := reach l b i && (gs.take k).all fun g => !reach l g i
theorem candAt_zero (l : List Cm) (gs : List Nat) (b i : Nat) : candAt l gs b i 0 = reach l b i := by simp [candAt]
theorem candAt_succ (l : List Cm) (gs : List Nat) (b i k : Nat) (h : k < gs.length) : candAt l gs b i (k + 1) = (candAt l gs b i k && !reach l gs[k] i) := by
  unfold candAt; rw [List.take_succ_eq_append_getElem h, List.all_append]; simp [Bool.and_assoc]
theorem candAt_all (l : List Cm) (gs : List Nat) (b i : Nat) : candAt l gs b i gs.length = isCand l gs b i := by
  unfold candAt isCand; rw [List.take_length, List.not_any_eq_all_not]
end Hs
namespace Go.Proofs.Ytoohmkdgimkgoaa
open Go.RowKit Go.V
set_option linter.unusedVariables false

structure CoSt (w1 wr : World) (out : List Nat) (Ao : Option Addr) (co : Nat) : Prop where
  own : wr.ownsRow w1.heap.size 3 1 (.slice Ao out.length co) out.length (intsV (Hs.ints out))
  bel : Below w1.heap.size w1 wr
theorem CoSt.app {w1 wr w' : World} {out : List Nat} {i c' : Nat} {Ao A' : Option Addr} {co : Nat} (h : CoSt w1 wr out Ao co) (o : Obj)
    (hg : (wr.alloc o).grownBy w' (Value.slice Ao out.length co).ownBlock) (hown : w'.ownsRow w1.heap.size 3 1 (.slice A' (out.length + 1) c') (out.length + 1) (intsV (Hs.ints out) ++ [.int .i64 i])) : CoSt w1 w' (out ++ [i]) A' c' := by
  refine ⟨?_, below_append (h.bel.alloc h.bel.size o) (h.own.alloc o) hg (Nat.le_refl _) (by have := h.bel.size; simp; omega)⟩
  rw [Hs.ints_append, intsV_append, List.length_append]
  exact hown

set_option maxRecDepth 100000 in
set_option maxHeartbeats 8000000 in
theorem candidatesOf_any (w : World) (A A2 : Option Addr) (k k2 : Nat) (l : List Hs.Cm) (gs : List Nat) (b : Nat) (hv : CV w A l) (hok : Hs.Ok l) (h2 : IV w A2 (Hs.ints gs)) (hin : ∀ x ∈ gs, x < l.length) (hb : b < l.length) (hlen : gs.length ≤ 9223372036854775807) :
    Calls Try.prog 42 #[.slice A l.length k, .slice A2 gs.length k2, .int .i64 (b : Int)] w (BoPost w (Hs.ints (Hs.cand l gs b))) := by
  obtain ⟨i0, hi0, hz0, hz1, hz2⟩ := info_parts info3
  have hl := hok.len
  have HIN := Lib.hid hin
  have HR := Lib.hid (reach_any w A k l hv hok)
  have HCAND := Lib.hid (show Hs.cand l gs b = candTo l gs b l.length from rfl)
  clear hin
  go_enter Try.func42, Try.ntmps42
  go_wp2_with fail
  go_at_call 24
  refine HR.out.mono ?_
  rintro e w1 ⟨At, ct, rfl, hm, hb1⟩
  have HM := Lib.hid (fun (wr : World) hb x i hx hi => mv_cell (wr := wr) hm hb x i hx hi)
  have HL := Lib.hid (fun (i : Nat) (hi : i < gs.length) (wr : World) hbel => nat_at (wr := wr) (h2.below hb1) hbel i hi)
  have hbi : (b : Int) < l.length := by omega
  clear HR hm
  go_wp2_with fail
  go_loopw [8, 9] (fun ov iv wr => ∃ (i : Nat) (Ao : Option Addr) (co : Nat), i ≤ l.length ∧ ov = .slice Ao (candTo l gs b i).length co ∧ iv = .int .i64 i ∧ CoSt w1 wr (candTo l gs b i) Ao co) (fun _ iv _ => l.length - (intOf iv).toNat)
  case atStart => exact ⟨0, none, 0, Nat.zero_le _, rfl, rfl, ⟨World.ownsRow_nil _ _ _ _, Below.refl _ _⟩⟩
  case round =>
    obtain ⟨i, Ao, co, hi, rfl, rfl, st⟩ := hrel
    obtain ⟨wo, rfl⟩ : ∃ wo : World, wo = wr := ⟨_, rfl⟩
    by_cases hil : i < l.length
    · have hil' : (i : Int) < l.length := by omega
      obtain ⟨b2, off2, b3, off3, c3, e2, hc2, hc3⟩ := HM.out wo st.bel b i hb hil
      subst e2
      have hhl := candTo_len l gs b i
      have hsz3 := st.bel.size
      have H0 := Lib.hid (Hs.candAt_zero l gs b i)
      have HS := Lib.hid (Hs.candAt_succ l gs b i)
      have HA := Lib.hid (Hs.candAt_all l gs b i)
      go_wp2_with fail
      go_loop [10, 11] (fun v kv => ∃ kk : Nat, kk ≤ gs.length ∧ v = .bool (Hs.candAt l gs b i kk) ∧ kv = .int .i64 kk) (fun _ kv => gs.length - (intOf kv).toNat)
      case atStart => exact ⟨0, Nat.zero_le _, by rw [H0.out], rfl⟩
      case round =>
        obtain ⟨kk, hk, rfl, rfl⟩ := hrel
        by_cases hkl : kk < gs.length
        · have hkl' : (kk : Int) < gs.length := by omega
          obtain ⟨b4, off, e, hb4, hc⟩ := HL.out kk hkl wo st.bel
          subst e
          have hxl := HIN.out _ (List.getElem_mem hkl)
          obtain ⟨b5, off5, b6, off6, c6, e5, hc5, hc6⟩ := HM.out wo st.bel gs[kk] i hxl hil
          injection e5 with e5
          injection e5 with e5 e7
          subst e5 e7
          have HSK := Lib.hid (HS.out kk hkl)
          generalize gs[kk] = x at *
          have hxl' : (x : Int) < l.length := by omega
          generalize Hs.candAt l gs b i kk = v1 at *
          generalize Hs.reach l x i = v2 at *
          cases v1
          · go_wp2_with fail
            go_round
            case rel => exact ⟨kk + 1, by omega, by rw [HSK.out]; rfl, by go_num⟩
            case measure => simp [intOf]; omega
          · go_wp2_with fail
            go_round
            case rel => exact ⟨kk + 1, by omega, by rw [HSK.out, Bool.true_and], by go_num⟩
            case measure => simp [intOf]; omega
        · obtain rfl : kk = gs.length := by omega
          generalize Hs.candAt l gs b i gs.length = v at *
          have HV := Lib.hid HA.out.symm
          clear HA HS H0
          cases v
          · have hle := Lib.hid (congrArg List.length (candTo_no l gs b i HV.out))
            have st4 : CoSt w1 wo (candTo l gs b (i + 1)) Ao co := by rw [candTo_no l gs b i HV.out]; exact st
            go_wp2_with fail
            go_roundw
            case rel => exact ⟨i + 1, _, _, by omega, by rw [hle.out], by go_num, st4⟩
            case measure => simp [intOf]; omega
          · have hle := Lib.hid (show (candTo l gs b (i + 1)).length = (candTo l gs b i).length + 1 by rw [candTo_yes l gs b i HV.out]; simp)
            go_wp2_with (first | (at_builtin; refine wpList_app1 _ rfl (.tmp 48) (.tmp 50) 37 rfl w1.heap.size 3 i0 (.int .i64 0) 8 Try.underlying37 hi0 hz0 hz1 hz2 rfl Ao _ co _ rfl (st.own.alloc _) wo.heap.size _ (.int .i64 i) rfl (by simp [World.cell?_alloc_new]) rfl ?ha ?hb ?hc ?_))
            case ha => simp [maxLen]; omega
            case hb => omega
            case hc => (try simp) <;> omega
            intro A' c' w4 hown4 hg4 _
            have st4 : CoSt w1 w4 (candTo l gs b (i + 1)) A' c' := by rw [candTo_yes l gs b i HV.out]; exact st.app _ hg4 hown4
            clear hown4 hg4
            go_wp2_with fail
            go_roundw
            case rel => exact ⟨i + 1, _, _, by omega, by rw [hle.out], by go_num, st4⟩
            case measure => simp [intOf]; omega
    · obtain rfl : i = l.length := by omega
      rw [HCAND.out]
      go_wp2_with fail
      go_ret
      obtain ⟨A', c', e1, hcc, _⟩ := own_form st.own
      injection e1 with _ _ e3
      subst e3
      exact ⟨Ao, co, by rw [Hs.ints_length]; rfl, by rw [Hs.ints_length]; exact hcc, SV.of_own st.own, hb1.trans (st.bel.mono hb1.size)⟩
end Go.Proofs.Ytoohmkdgimkgoaa
