/-
  Histories: walk of 'Validate'.
-/
import Derived.Test.YtebohncdhhikkaaW1
namespace Go.Proofs.Ytebohncdhhikkaa
open Go.RowKit Go.V
set_option linter.unusedVariables false

theorem blk_put26 {w : World} {g : Nat} {a b : Value} (h : Blk w g 28 #[a, b]) (x y : Value) : Blk ((w.setCell ⟨g, 0, none⟩ x).setCell ⟨g, 1, none⟩ y) g 28 #[x, y] := by
  simpa using (h.set_ 0 x).set_ 1 y
/-- A fault and nothing that lay has turned. -/
def FaultPost (w : World) (r : Int × Int) (e : Ending) (w' : World) : Prop := e = .returned (.agg #[.int .i64 r.1, .int .i64 r.2]) ∧ Below w.heap.size w w'
theorem FaultPost.mk_ {w w' : World} {r : Int × Int} {a b : Int} (h : r = (a, b)) (hb : Below w.heap.size w w') : FaultPost w r (.returned (.agg #[.int .i64 a, .int .i64 b])) w' := by
  subst h; exact ⟨rfl, hb⟩

set_option maxHeartbeats 4000000 in
theorem validate_any (w : World) (A : Option Addr) (k : Nat) (l : List Hs.Cm) (hv : CV w A l) (hl : l.length ≤ 9223372036854775807) :
    Calls Try.prog 17 #[.slice A l.length k] w (FaultPost w (Hs.validate l)) := by
  by_cases h60 : 60 < l.length
  · have H := Lib.hid (show Hs.validate l = (2, -1) from by unfold Hs.validate; rw [if_pos h60])
    have h60' : (60 : Int) < l.length := by omega
    go_enter Try.func17, Try.ntmps17
    go_wp2_with fail
    refine bodyPost_ret (results_c rfl _ _ w.heap.size (.int .i64 2) (.int .i64 (-1)) rfl (Blk.new _ _ _)) rfl (FaultPost.mk_ H.out ?_)
    exact below_alloc1 _ _
  · have h60' : (l.length : Int) ≤ 60 := by omega
    have H := Lib.hid (show Hs.validate l = Hs.valFrom l 0 from by unfold Hs.validate; rw [if_neg h60])
    go_enter Try.func17, Try.ntmps17
    go_wp2_with fail
    go_loopw [12] (fun v wr => ∃ i : Nat, i ≤ l.length ∧ v = .int .i64 i ∧ Blk wr w.heap.size 28 #[.int .i64 0, .int .i64 0] ∧ Below w.heap.size w wr ∧ Hid (Hs.valFrom l 0 = Hs.valFrom l i)) (fun v _ => l.length - (intOf v).toNat)
    case atStart => exact ⟨0, Nat.zero_le _, rfl, Blk.new _ _ _, below_alloc1 _ _, rfl⟩
    case round =>
      obtain ⟨i, hi, rfl, hblk, hbel, HJ⟩ := hrel
      obtain ⟨wo, rfl⟩ : ∃ wo : World, wo = wr := ⟨_, rfl⟩
      have hsz := hbel.size
      have hlt0 := hblk.lt
      by_cases hlt : i < l.length
      · obtain ⟨b, off, Ap, kp, e, hb, c0, c1, c2, c3, c4, hok, hip⟩ := (hv.below hbel).row i hlt
        subst e
        have hi64 : I64 (i : Int) := by unfold I64; omega
        have HC1 := Lib.hid (Hs.valFrom_next l i hlt)
        have HC2 := Lib.hid (Hs.valFrom_bad l i hlt)
        generalize l[i] = c at *
        have hc0 := hblk.cell 0
        have hc1' := hblk.cell 1
        have hf0 := hblk.frozen 0
        have hf1 := hblk.frozen 1
        simp only [List.getElem?_toArray, List.getElem?_cons_zero, List.getElem?_cons_succ] at hc0 hc1'
        by_cases hck : Hs.check c i = 0
        · have H2 := Lib.hid (HJ.out.trans (HC1.out hck))
          have HK := Lib.hid hck
          clear HC1 HC2 hck
          go_wp2_with (go_at_call 35; refine (check_any _ Ap kp c i hi64 hok (hip.alloc _)).mono ?_; rintro e w' ⟨rfl, rfl⟩; rw [HK.out])
          go_roundw
          case rel => exact ⟨i + 1, by omega, by go_num, (hblk.alloc _).alloc _, (hbel.alloc hsz _).alloc (by simp; omega) _, H2⟩
          case measure => simp [intOf]; omega
        · have H2 := Lib.hid (H.out.trans (HJ.out.trans (HC2.out hck)))
          have hck' : (Hs.check c i == 0) = false := by simpa using hck
          have hck2 : (Hs.check c i != 0) = true := by simpa using hck
          clear HC1 HC2 hck
          go_wp2_with (go_at_call 35; refine (check_any _ Ap kp c i hi64 hok (hip.alloc _)).mono ?_; rintro e w' ⟨rfl, rfl⟩)
          refine bodyPost_ret (results_c rfl _ _ w.heap.size (.int .i64 (Hs.check c i)) (.int .i64 i) rfl (((blk_put26 hblk _ _).alloc _).alloc _)) rfl (FaultPost.mk_ H2.out ?_)
          exact (((hbel.setCell (by simp) _).setCell (by simp) _).alloc (by simp; omega) _).alloc (by simp; omega) _
      · obtain rfl : i = l.length := by omega
        have hc0 := hblk.cell 0
        have hc1' := hblk.cell 1
        have hf0 := hblk.frozen 0
        have hf1 := hblk.frozen 1
        simp only [List.getElem?_toArray, List.getElem?_cons_zero, List.getElem?_cons_succ] at hc0 hc1'
        go_wp2_with fail
        refine bodyPost_ret (results_c rfl _ _ w.heap.size (.int .i64 0) (.int .i64 0) rfl (blk_put26 hblk _ _)) rfl (FaultPost.mk_ ?_ ?_)
        · rw [H.out, HJ.out, Hs.valFrom_end l _ (Nat.le_refl _)]
        · exact (hbel.setCell (by simp) _).setCell (by simp) _
end Go.Proofs.Ytebohncdhhikkaa
