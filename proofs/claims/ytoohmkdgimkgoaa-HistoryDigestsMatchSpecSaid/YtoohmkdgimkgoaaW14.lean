/-
  Histories: walk of 'Heads'.
-/
import Derived.Test.YtoohmkdgimkgoaaW13
import Derived.Test.YtoohmkdgimkgoaaPure4
namespace Go.Proofs.Ytoohmkdgimkgoaa
open Go.RowKit Go.V
set_option linter.unusedVariables false

def headsTo (l : List Hs.Cm) (i : Nat) : List Nat := (List.range i).filter fun j => Hs.cnt l l.length j == 0
theorem headsTo_yes (l : List Hs.Cm) (i : Nat) (h : Hs.cnt l l.length i = 0) : headsTo l (i + 1) = headsTo l i ++ [i] := by
  unfold headsTo; rw [List.range_succ, List.filter_append]; simp [h]
theorem headsTo_no (l : List Hs.Cm) (i : Nat) (h : Hs.cnt l l.length i ≠ 0) : headsTo l (i + 1) = headsTo l i := by
  unfold headsTo; rw [List.range_succ, List.filter_append]; simp [h]
theorem headsTo_len (l : List Hs.Cm) (i : Nat) : (headsTo l i).length ≤ i := by
  have := List.length_filter_le (fun j => Hs.cnt l l.length j == 0) (List.range i)
  simpa [headsTo] using this

structure HeadSt (w wr : World) (l : List Hs.Cm) (base g i : Nat) (Ao : Option Addr) (co : Nat) : Prop where
  own : wr.ownsRow base 3 1 (.slice Ao (headsTo l i).length co) (headsTo l i).length (intsV (Hs.ints (headsTo l i)))
  left : Blk wr g 3 (intsA (tab l.length (Hs.cnt l l.length)))
  res : Blk wr w.heap.size 26 #[.int .i64 0, .int .i64 0]
  lt : g < base
  lo : w.heap.size < g
  hi : base ≤ wr.heap.size
  bel : Below w.heap.size w wr
theorem HeadSt.app {w wr w' : World} {l : List Hs.Cm} {base g i c' : Nat} {Ao A' : Option Addr} {co : Nat} (h : HeadSt w wr l base g i Ao co) (h0 : Hs.cnt l l.length i = 0) (o : Obj)
    (hg : (wr.alloc o).grownBy w' (Value.slice Ao (headsTo l i).length co).ownBlock) (hown : w'.ownsRow base 3 1 (.slice A' ((headsTo l i).length + 1) c') ((headsTo l i).length + 1) (intsV (Hs.ints (headsTo l i)) ++ [.int .i64 i])) : HeadSt w w' l base g (i + 1) A' c' := by
  have hsz := hg.size
  refine ⟨?_, blk_app h.own o hg h.left h.lt, blk_app h.own o hg h.res (by have := h.lt; have := h.lo; omega), h.lt, h.lo, by have := h.hi; simp at hsz; omega, below_append (h.bel.alloc h.bel.size o) (h.own.alloc o) hg (by have := h.lt; have := h.lo; omega) (by have := h.hi; simp; omega)⟩
  rw [headsTo_yes l i h0, Hs.ints_append, intsV_append, List.length_append]
  exact hown
theorem HeadSt.skip {w wr : World} {l : List Hs.Cm} {base g i : Nat} {Ao : Option Addr} {co : Nat} (h : HeadSt w wr l base g i Ao co) (h0 : Hs.cnt l l.length i ≠ 0) : HeadSt w wr l base g (i + 1) Ao co :=
  ⟨by rw [headsTo_no l i h0]; exact h.own, h.left, h.res, h.lt, h.lo, h.hi, h.bel⟩

set_option maxRecDepth 100000 in
set_option maxHeartbeats 8000000 in
theorem heads_ok (w : World) (A : Option Addr) (k : Nat) (l : List Hs.Cm) (hv : CV w A l) (hok : Hs.Ok l) :
    Calls Try.prog 29 #[.slice A l.length k] w (IntsPost w (Hs.ints (Hs.heads l))) := by
  obtain ⟨i0, hi0, hz0, hz1, hz2⟩ := info_parts info3
  have hl := hok.len
  have HC := Lib.hid (fun w1 h => validate_any w1 A k l h (by omega))
  have HC2 := Lib.hid (fun w1 h => children_any w1 A k l h hok)
  have HV := Lib.hid (Hs.validate_of_ok hok)
  go_enter Try.func29, Try.ntmps29
  go_wp2_with fail
  go_at_call 20
  refine (HC.out _ (hv.alloc _)).mono ?_
  rw [HV.out]
  rintro e w1 ⟨rfl, hb1⟩
  have hblk := (Blk.new w 26 #[.int .i64 0, .int .i64 0]).below hb1 (by simp)
  have hbel := (below_alloc1 w (.cells #[.int .i64 0, .int .i64 0] 26)).trans (hb1.mono (by simp))
  have hsz := hbel.size
  have hlt := hblk.lt
  clear hb1 HC HV
  go_wp2_with fail
  go_at_call 53
  have hbel1 := hbel.alloc hsz (.cells #[.int .i64 0, .int .i64 0] 26)
  refine (HC2.out _ (hv.below hbel1)).mono ?_
  rintro e w2 ⟨g, rfl, hg1, hleft, hb2⟩
  have hbel2 := hbel1.trans (hb2.mono hbel1.size)
  have hblk2 := (hblk.alloc (.cells #[.int .i64 0, .int .i64 0] 26)).below hb2 (by simp; omega)
  have st0 : HeadSt w w2 l w2.heap.size g 0 none 0 := ⟨World.ownsRow_nil _ _ _ _, hleft, hblk2, hleft.lt, by simp at hg1; omega, Nat.le_refl _, hbel2⟩
  clear hbel hsz hlt hbel1 hg1 hleft hb2 hbel2 hblk2 HC2 hblk
  go_wp2_with fail
  go_loopw [5, 17] (fun ov iv wr => ∃ (i : Nat) (Ao : Option Addr) (co : Nat), i ≤ l.length ∧ ov = .slice Ao (headsTo l i).length co ∧ iv = .int .i64 i ∧ HeadSt w wr l w2.heap.size g i Ao co) (fun _ iv _ => l.length - (intOf iv).toNat)
  case atStart => exact ⟨0, none, 0, Nat.zero_le _, rfl, rfl, st0⟩
  case round =>
    obtain ⟨i, Ao, co, hi, rfl, rfl, st⟩ := hrel
    obtain ⟨wo, rfl⟩ : ∃ wo : World, wo = wr := ⟨_, rfl⟩
    clear st0
    by_cases hil : i < l.length
    · have hil' : (i : Int) < l.length := by omega
      have hci := blk_tab st.left i hil
      have hhl := headsTo_len l i
      have hsz3 := st.bel.size
      have hhi := st.hi
      by_cases h0 : Hs.cnt l l.length i = 0
      · have H0 := Lib.hid h0
        rw [h0] at hci
        clear h0
        go_wp2_with (first | (at_builtin; refine wpList_app1 _ rfl (.tmp 24) (.tmp 26) 37 rfl w2.heap.size 3 i0 (.int .i64 0) 8 Try.underlying37 hi0 hz0 hz1 hz2 rfl Ao _ co _ rfl (st.own.alloc _) wo.heap.size _ (.int .i64 i) rfl (by simp [World.cell?_alloc_new]) rfl ?ha ?hb ?hc ?_))
        case ha => simp [maxLen]; omega
        case hb => omega
        case hc => simp; omega
        intro A' c' w4 hown4 hg4 _
        have st4 := st.app H0.out _ hg4 hown4
        have hle := Lib.hid (show (headsTo l (i + 1)).length = (headsTo l i).length + 1 by rw [headsTo_yes l i H0.out]; simp)
        clear hown4 hg4
        go_wp2_with fail
        go_roundw
        case rel => exact ⟨i + 1, _, _, by omega, by rw [hle.out], by go_num, st4⟩
        case measure => simp [intOf]; omega
      · have st4 := st.skip h0
        have hle := Lib.hid (show (headsTo l (i + 1)).length = (headsTo l i).length by rw [headsTo_no l i h0])
        have h0' : (Hs.cnt l l.length i == 0) = false := by simpa using h0
        clear h0
        go_wp2_with fail
        go_roundw
        case rel => exact ⟨i + 1, _, _, by omega, by rw [hle.out], by go_num, st4⟩
        case measure => simp [intOf]; omega
    · obtain rfl : i = l.length := by omega
      have hc0 := st.res.cell 0
      have hc1 := st.res.cell 1
      have hf0 := st.res.frozen 0
      have hf1 := st.res.frozen 1
      have hlt := st.res.lt
      simp only [List.getElem?_toArray, List.getElem?_cons_zero, List.getElem?_cons_succ] at hc0 hc1
      go_wp2_with fail
      refine bodyPost_ret (results_tc rfl _ _ w.heap.size (.int .i64 0) (.int .i64 0) rfl (blk_put26 st.res _ _)) rfl ?_
      obtain ⟨A', c', e1, hcc, _⟩ := own_form st.own
      injection e1 with _ _ e3
      subst e3
      have h1 := st.lt
      have h2 := st.lo
      refine ⟨Ao, co, by rw [Hs.ints_length]; rfl, by rw [Hs.ints_length]; exact hcc, ?_, (st.bel.setCell (by simp) _).setCell (by simp) _⟩
      have := SV.of_own (own_far (own_far st.own (p := ⟨w.heap.size, 0, none⟩) (by simp; omega) (.int .i64 0)) (p := ⟨w.heap.size, 1, none⟩) (by simp; omega) (.int .i64 0))
      exact this
theorem heads_any (w : World) (A : Option Addr) (k : Nat) (l : List Hs.Cm) (hv : CV w A l) (hl : l.length ≤ 9223372036854775807) :
    Calls Try.prog 29 #[.slice A l.length k] w (IRes w (listRes l (Hs.ints (Hs.heads l)))) := by
  unfold listRes
  by_cases h : (Hs.validate l).1 = 0
  · rw [if_neg (by simpa using h)]
    exact (heads_ok w A k l hv (Hs.validate_ok l h).2).mono fun e w' h => .of_ints h
  · rw [if_pos h]
    exact (heads_bad w A k l hv hl h).mono fun e w' h => .of_none h
end Go.Proofs.Ytoohmkdgimkgoaa
