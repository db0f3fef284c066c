/-
  Histories: walk of bisect's 'candidates'.
-/
import Derived.Test.YtoohmkdgimkgoaaW24
namespace Go.Proofs.Ytoohmkdgimkgoaa
open Go.RowKit Go.V
set_option linter.unusedVariables false

def candTo (l : List Hs.Cm) (gs : List Nat) (b i : Nat) : List Nat := (List.range i).filter (Hs.isCand l gs b)
theorem candTo_yes (l : List Hs.Cm) (gs : List Nat) (b i : Nat) (h : Hs.isCand l gs b i = true) : candTo l gs b (i + 1) = candTo l gs b i ++ [i] := by
  unfold candTo; rw [List.range_succ, List.filter_append]; simp [h]
theorem candTo_no (l : List Hs.Cm) (gs : List Nat) (b i : Nat) (h : Hs.isCand l gs b i = false) : candTo l gs b (i + 1) = candTo l gs b i := by
  unfold candTo; rw [List.range_succ, List.filter_append]; simp [h]
theorem candTo_len (l : List Hs.Cm) (gs : List Nat) (b i : Nat) : (candTo l gs b i).length ≤ i := by
  have := List.length_filter_le (Hs.isCand l gs b) (List.range i)
  simpa [candTo] using this
structure CandSt (w wr : World) (l : List Hs.Cm) (gs : List Nat) (b base g1 g2 i : Nat) (Ao : Option Addr) (co : Nat) : Prop where
  own : wr.ownsRow base 3 1 (.slice Ao (candTo l gs b i).length co) (candTo l gs b i).length (intsV (Hs.ints (candTo l gs b i)))
  fine : Blk wr g1 4 (boolsA (tab l.length fun k => gs.any fun g => Hs.reach l g k))
  is_ : Blk wr g2 4 (boolsA (tab l.length (Hs.reach l b)))
  lt1 : g1 < base
  lt2 : g2 < base
  lo : w.heap.size ≤ base
  hi : base ≤ wr.heap.size
  bel : Below w.heap.size w wr
theorem CandSt.app {w wr w' : World} {l : List Hs.Cm} {gs : List Nat} {b base g1 g2 i c' : Nat} {Ao A' : Option Addr} {co : Nat} (h : CandSt w wr l gs b base g1 g2 i Ao co) (h0 : Hs.isCand l gs b i = true) (o : Obj)
    (hg : (wr.alloc o).grownBy w' (Value.slice Ao (candTo l gs b i).length co).ownBlock) (hown : w'.ownsRow base 3 1 (.slice A' ((candTo l gs b i).length + 1) c') ((candTo l gs b i).length + 1) (intsV (Hs.ints (candTo l gs b i)) ++ [.int .i64 i])) : CandSt w w' l gs b base g1 g2 (i + 1) A' c' := by
  have hsz := hg.size
  refine ⟨?_, blk_app h.own o hg h.fine h.lt1, blk_app h.own o hg h.is_ h.lt2, h.lt1, h.lt2, h.lo, by have := h.hi; simp at hsz; omega, below_append (h.bel.alloc h.bel.size o) (h.own.alloc o) hg h.lo (by have := h.hi; simp; omega)⟩
  rw [candTo_yes l gs b i h0, Hs.ints_append, intsV_append, List.length_append]
  exact hown
theorem CandSt.skip {w wr : World} {l : List Hs.Cm} {gs : List Nat} {b base g1 g2 i : Nat} {Ao : Option Addr} {co : Nat} (h : CandSt w wr l gs b base g1 g2 i Ao co) (h0 : Hs.isCand l gs b i = false) : CandSt w wr l gs b base g1 g2 (i + 1) Ao co :=
  ⟨by rw [candTo_no l gs b i h0]; exact h.own, h.fine, h.is_, h.lt1, h.lt2, h.lo, h.hi, h.bel⟩

set_option maxRecDepth 100000 in
set_option maxHeartbeats 8000000 in
theorem cand_any (w : World) (A A2 : Option Addr) (k k2 : Nat) (l : List Hs.Cm) (gs : List Nat) (b : Nat) (hv : CV w A l) (hok : Hs.Ok l) (hv2 : IV w A2 (Hs.ints gs)) (hin : ∀ g ∈ gs, g < l.length) (hb : b < l.length) (hlen : gs.length ≤ 9223372036854775807) :
    Calls Try.prog 57 #[.slice A l.length k, .slice A2 gs.length k2, .int .i64 (b : Int)] w (IPost w (Hs.ints (Hs.cand l gs b))) := by
  obtain ⟨i0, hi0, hz0, hz1, hz2⟩ := info_parts info3
  have hl := hok.len
  have HC := Lib.hid (of_any w A A2 k k2 l gs hv hok hv2 hin hlen)
  have HS := Lib.hid (fun w1 A3 h => of_single w1 A A3 k l b h hok hb)
  have HF := Lib.hid (funext (of_any_reach hok gs hin))
  have HCAND := Lib.hid (show Hs.cand l gs b = candTo l gs b l.length from rfl)
  go_enter Try.func57, Try.ntmps57
  go_wp2_with fail
  go_at_call 50
  refine HC.out.mono ?_
  rintro e w1 ⟨g1, rfl, hg1, hfine, hb1⟩
  rw [HF.out] at hfine
  have hbel1 := hb1.alloc hb1.size (.cells #[.int .i64 (b : Int)] 3)
  have hcv := hv.below hbel1
  have hlit := lit_ints w1 [(b : Int)] 3 _ rfl
  have HCALL := Lib.hid (HS.out _ _ hcv hlit)
  have hfine1 := hfine.alloc (.cells #[.int .i64 (b : Int)] 3)
  clear hcv hlit HC HF HS hb1 hfine
  go_wp2_with fail
  go_at_call 50
  refine HCALL.out.mono ?_
  rintro e w2 ⟨g2, rfl, hg2, his, hb2⟩
  have st0 : CandSt w w2 l gs b w2.heap.size g1 g2 0 none 0 :=
    ⟨World.ownsRow_nil _ _ _ _, hfine1.below hb2 hfine1.lt, his, by have := (hfine1.below hb2 hfine1.lt).lt; omega, his.lt, by have := hbel1.size; have := hb2.size; omega, Nat.le_refl _, hbel1.trans (hb2.mono hbel1.size)⟩
  clear hbel1 hfine1 HCALL hb2 his
  go_wp2_with fail
  go_loopw [8, 19] (fun ov iv wr => ∃ (i : Nat) (Ao : Option Addr) (co : Nat), i ≤ l.length ∧ ov = .slice Ao (candTo l gs b i).length co ∧ iv = .int .i64 i ∧ CandSt w wr l gs b w2.heap.size g1 g2 i Ao co) (fun _ iv _ => l.length - (intOf iv).toNat)
  case atStart => exact ⟨0, none, 0, Nat.zero_le _, rfl, rfl, st0⟩
  case round =>
    obtain ⟨i, Ao, co, hi, rfl, rfl, st⟩ := hrel
    obtain ⟨wo, rfl⟩ : ∃ wo : World, wo = wr := ⟨_, rfl⟩
    clear st0
    by_cases hil : i < l.length
    · have hil' : (i : Int) < l.length := by omega
      have hc1 := blk_tabB st.fine i hil
      have hc2 := blk_tabB st.is_ i hil
      have hhl := candTo_len l gs b i
      have hsz3 := st.bel.size
      have hhi := st.hi
      have HCI := Lib.hid (show Hs.isCand l gs b i = (Hs.reach l b i && !(gs.any fun g => Hs.reach l g i)) from rfl)
      generalize (gs.any fun g => Hs.reach l g i) = v1 at *
      generalize Hs.reach l b i = v2 at *
      cases v2
      · have hno := HCI.out
        rw [Bool.false_and] at hno
        have st4 := st.skip hno
        have hle := Lib.hid (show (candTo l gs b (i + 1)).length = (candTo l gs b i).length by rw [candTo_no l gs b i hno])
        clear hno HCI
        go_wp2_with fail
        go_roundw
        case rel => exact ⟨i + 1, _, _, by omega, by rw [hle.out], by go_num, st4⟩
        case measure => simp [intOf]; omega
      · cases v1
        · have H0 := Lib.hid (show Hs.isCand l gs b i = true from HCI.out)
          clear HCI
          go_wp2_with (first | (at_builtin; refine wpList_app1 _ rfl (.tmp 32) (.tmp 34) 37 rfl w2.heap.size 3 i0 (.int .i64 0) 8 Try.underlying37 hi0 hz0 hz1 hz2 rfl Ao _ co _ rfl (st.own.alloc _) wo.heap.size _ (.int .i64 i) rfl (by simp [World.cell?_alloc_new]) rfl ?ha ?hb ?hc ?_))
          case ha => simp [maxLen]; omega
          case hb => omega
          case hc => simp; omega
          intro A' c' w4 hown4 hg4 _
          have st4 := st.app H0.out _ hg4 hown4
          have hle := Lib.hid (show (candTo l gs b (i + 1)).length = (candTo l gs b i).length + 1 by rw [candTo_yes l gs b i H0.out]; simp)
          clear hown4 hg4
          go_wp2_with fail
          go_roundw
          case rel => exact ⟨i + 1, _, _, by omega, by rw [hle.out], by go_num, st4⟩
          case measure => simp [intOf]; omega
        · have hno : Hs.isCand l gs b i = false := HCI.out
          have st4 := st.skip hno
          have hle := Lib.hid (show (candTo l gs b (i + 1)).length = (candTo l gs b i).length by rw [candTo_no l gs b i hno])
          clear hno HCI
          go_wp2_with fail
          go_roundw
          case rel => exact ⟨i + 1, _, _, by omega, by rw [hle.out], by go_num, st4⟩
          case measure => simp [intOf]; omega
    · obtain rfl : i = l.length := by omega
      rw [HCAND.out]
      go_wp2_with fail
      go_ret
      obtain ⟨A', c', e1, hcc, _⟩ := own_form st.own
      injection e1 with _ _ e3
      subst e3
      exact ⟨Ao, co, by rw [Hs.ints_length]; rfl, by rw [Hs.ints_length]; exact hcc, SV.of_own st.own, fun ad ea => by have := (st.own.lt ad.block (by rw [ea]; rfl)).1; have := st.lo; omega, st.bel⟩
end Go.Proofs.Ytoohmkdgimkgoaa
