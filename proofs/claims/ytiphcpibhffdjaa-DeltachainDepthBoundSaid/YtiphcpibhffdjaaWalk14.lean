/-
  Delta chains: walks of 'Read' and 'Depths'.
-/
import Derived.Test.YtiphcpibhffdjaaWalk13
namespace Go.Proofs.Ytiphcpibhffdjaa
open Go.RowKit Go.V
set_option linter.unusedVariables false

/-- What 'Read' answers. -/
def RdPost (w : World) (c : List Dc.En) (i : Int) (e : Ending) (w' : World) : Prop :=
  Below w.heap.size w w' ∧ (((Dc.chFault c).1 ≠ 0 ∧ e = .returned (.tuple #[.slice none 0 0, .agg #[.int .i64 (Dc.chFault c).1, .int .i64 (Dc.chFault c).2]])) ∨
    (Dc.chFault c = (0, 0) ∧ ¬ (0 ≤ i ∧ i < c.length) ∧ e = .returned (.tuple #[.slice none 0 0, .agg #[.int .i64 6, .int .i64 (-1)]])) ∨
    (Dc.chFault c = (0, 0) ∧ ∃ n : Nat, i = n ∧ n < c.length ∧ ∃ A cap, e = .returned (.tuple #[.slice A (Dc.ver c n).length cap, .agg #[.int .i64 0, .int .i64 0]]) ∧ (Dc.ver c n).length ≤ cap ∧ SA w' Free A (bytesV (Dc.ver c n))))
/-- What 'Depths' answers. -/
def DpPost (w : World) (c : List Dc.En) (e : Ending) (w' : World) : Prop :=
  Below w.heap.size w w' ∧ (((Dc.chFault c).1 ≠ 0 ∧ e = .returned (.tuple #[.slice none 0 0, .agg #[.int .i64 (Dc.chFault c).1, .int .i64 (Dc.chFault c).2]])) ∨
    (Dc.chFault c = (0, 0) ∧ ∃ A cap, e = .returned (.tuple #[.slice A c.length cap, .agg #[.int .i64 0, .int .i64 0]]) ∧ c.length ≤ cap ∧ SA w' Free A (intsV (depsI c c.length))))

set_option maxRecDepth 100000 in
set_option maxHeartbeats 8000000 in
theorem read_any (w : World) (A : Option Addr) (k : Nat) (c : List Dc.En) (i : Int) (hv : ChV w Free A c) (hl64 : c.length ≤ 9223372036854775807) (hi : I64 i) :
    Calls Try.prog 19 #[.slice A c.length k, .int .i64 i] w (RdPost w c i) := by
  have HC := Lib.hid (fun (w1 : World) (hb : Below w.heap.size w w1) => unpack_any w1 A k c (hv.keep (free_below hb)) hl64)
  unfold I64 at hi
  clear hv
  go_enter Try.func19, Try.ntmps19
  go_wp2_with fail
  go_at_call 27
  refine (HC.out _ (below_alloc1 _ _)).mono ?_
  rintro e w1 ⟨hb1, hres⟩
  have hblk := (Blk.new w 26 #[.int .i64 0, .int .i64 0]).below hb1 (by simp)
  have hbel := (below_alloc1 w (.cells #[.int .i64 0, .int .i64 0] 26)).trans (hb1.mono (by simp))
  have hsz := hbel.size
  have hlt := hblk.lt
  have hc0 := hblk.cell 0
  have hc1 := hblk.cell 1
  have hf0 := hblk.frozen 0
  have hf1 := hblk.frozen 1
  simp only [List.getElem?_toArray, List.getElem?_cons_zero, List.getElem?_cons_succ] at hc0 hc1
  clear hb1 HC
  rcases hres with ⟨hne, rfl⟩ | ⟨hz, Av, cv, Ap, cp, rfl, hcv, hcp, hV, hD⟩
  · have H : Hid (∀ (w' : World), Below w.heap.size w w' → RdPost w c i (.returned (.tuple #[.slice none 0 0, .agg #[.int .i64 (Dc.chFault c).1, .int .i64 (Dc.chFault c).2]])) w') := Lib.hid fun w' hb => ⟨hb, .inl ⟨hne, rfl⟩⟩
    have hbad1 : ((Dc.chFault c).1 == 0) = false := by simpa using hne
    have hbad2 : ((Dc.chFault c).1 != 0) = true := by simpa using hne
    generalize RdPost w c i = R at *
    generalize Dc.chFault c = r at *
    obtain ⟨cd, ix⟩ := r
    simp only at hbad1 hbad2 hne
    go_wp2_with fail
    go_region
    all_goals
      go_wp2_with fail
      refine bodyPost_ret (results_tc rfl _ _ w.heap.size (.int .i64 cd) (.int .i64 ix) rfl (((blk_put2 hblk _ _).alloc _).drewN 1)) rfl ?_
      refine H.out _ ?_
      exact below_drewN (((hbel.setCell (by simp) _).setCell (by simp) _).alloc (by simp; omega) _) 1
  · by_cases hin : 0 ≤ i ∧ i < c.length
    · obtain ⟨n, rfl⟩ := Int.eq_ofNat_of_zero_le hin.1
      have hn : n < c.length := by omega
      have hn' : (n : Int) < c.length := hin.2
      have hg := Dc.vers_get c n c.length hn
      obtain ⟨b, off, Ad, kd, e, hb, _, hc, h1, _, h3⟩ := hV.row n (by simpa using hn)
      rw [List.getElem?_eq_getElem (by simpa using hn)] at hg
      injection hg with hg
      rw [hg] at hc h1 h3
      subst e
      have H : Hid (∀ (w' : World), Below w.heap.size w w' → SA w' Free Ad (bytesV (Dc.ver c n)) → RdPost w c n (.returned (.tuple #[.slice Ad (Dc.ver c n).length kd, .agg #[.int .i64 0, .int .i64 0]])) w') := Lib.hid fun w' hb hs => ⟨hb, .inr (.inr ⟨hz, n, rfl, hn, Ad, kd, rfl, h1, hs⟩)⟩
      generalize RdPost w c n = R at *
      have hi0 : decide ((n : Int) < 0) = false := by simp
      have hge : decide ((c.length : Int) ≤ n) = false := by simp; omega
      clear hz hin hV hD
      go_wp2_with fail
      refine bodyPost_ret (results_tc rfl _ _ w.heap.size (.int .i64 0) (.int .i64 0) rfl (((blk_put2 hblk _ _).alloc _))) rfl ?_
      refine H.out _ ?_ ?_
      · exact ((hbel.setCell (by simp) _).setCell (by simp) _).alloc (by simp; omega) _
      · have hu : (Under (w.heap.size + 1)) w.heap.size := by unfold Under; omega
        have h4 : SA w1 (Under (w.heap.size + 1)) Ad (bytesV (Dc.ver c n)) := h3.mono (fun b hb => by simpa [Under] using hb)
        exact (((h4.keep (Keeps.setCell _ _ ⟨w.heap.size, 0, none⟩ _ hu)).keep (Keeps.setCell _ _ ⟨w.heap.size, 1, none⟩ _ hu)).keep (Keeps.alloc _ _ _)).mono (fun b hb => hb.elim)
    · have H : Hid (∀ (w' : World), Below w.heap.size w w' → RdPost w c i (.returned (.tuple #[.slice none 0 0, .agg #[.int .i64 6, .int .i64 (-1)]])) w') := Lib.hid fun w' hb => ⟨hb, .inr (.inl ⟨hz, hin, rfl⟩)⟩
      generalize RdPost w c i = R at *
      clear hV hD hz
      rcases Int.lt_or_le i 0 with hneg | hpos
      · have hneg' : decide (i < 0) = true := by simpa using hneg
        clear hin
        go_wp2_with fail
        refine bodyPost_ret (results_tc rfl _ _ w.heap.size (.int .i64 6) (.int .i64 (-1)) rfl (((blk_put2 hblk _ _).alloc _))) rfl ?_
        refine H.out _ ?_
        exact ((hbel.setCell (by simp) _).setCell (by simp) _).alloc (by simp; omega) _
      · have hneg' : decide (i < 0) = false := by simpa using hpos
        have hge : decide ((c.length : Int) ≤ i) = true := by simp; omega
        clear hin
        go_wp2_with fail
        refine bodyPost_ret (results_tc rfl _ _ w.heap.size (.int .i64 6) (.int .i64 (-1)) rfl (((blk_put2 hblk _ _).alloc _))) rfl ?_
        refine H.out _ ?_
        exact ((hbel.setCell (by simp) _).setCell (by simp) _).alloc (by simp; omega) _

set_option maxRecDepth 100000 in
set_option maxHeartbeats 8000000 in
theorem depths_any (w : World) (A : Option Addr) (k : Nat) (c : List Dc.En) (hv : ChV w Free A c) (hl64 : c.length ≤ 9223372036854775807) :
    Calls Try.prog 20 #[.slice A c.length k] w (DpPost w c) := by
  have HC := Lib.hid (fun (w1 : World) (hb : Below w.heap.size w w1) => unpack_any w1 A k c (hv.keep (free_below hb)) hl64)
  clear hv
  go_enter Try.func20, Try.ntmps20
  go_wp2_with fail
  go_at_call 27
  refine (HC.out _ (below_alloc1 _ _)).mono ?_
  rintro e w1 ⟨hb1, hres⟩
  have hblk := (Blk.new w 26 #[.int .i64 0, .int .i64 0]).below hb1 (by simp)
  have hbel := (below_alloc1 w (.cells #[.int .i64 0, .int .i64 0] 26)).trans (hb1.mono (by simp))
  have hsz := hbel.size
  have hlt := hblk.lt
  have hc0 := hblk.cell 0
  have hc1 := hblk.cell 1
  have hf0 := hblk.frozen 0
  have hf1 := hblk.frozen 1
  simp only [List.getElem?_toArray, List.getElem?_cons_zero, List.getElem?_cons_succ] at hc0 hc1
  clear hb1 HC
  rcases hres with ⟨hne, rfl⟩ | ⟨hz, Av, cv, Ap, cp, rfl, hcv, hcp, hV, hD⟩
  · have H : Hid (∀ (w' : World), Below w.heap.size w w' → DpPost w c (.returned (.tuple #[.slice none 0 0, .agg #[.int .i64 (Dc.chFault c).1, .int .i64 (Dc.chFault c).2]])) w') := Lib.hid fun w' hb => ⟨hb, .inl ⟨hne, rfl⟩⟩
    generalize DpPost w c = R at *
    generalize Dc.chFault c = r at *
    obtain ⟨cd, ix⟩ := r
    go_wp2_with fail
    go_region
    all_goals
      go_wp2_with fail
      refine bodyPost_ret (results_tc rfl _ _ w.heap.size (.int .i64 cd) (.int .i64 ix) rfl (((blk_put2 hblk _ _).alloc _).drewN 1)) rfl ?_
      refine H.out _ ?_
      exact below_drewN (((hbel.setCell (by simp) _).setCell (by simp) _).alloc (by simp; omega) _) 1
  · have H : Hid (∀ (w' : World), Below w.heap.size w w' → SA w' Free Ap (intsV (depsI c c.length)) → DpPost w c (.returned (.tuple #[.slice Ap c.length cp, .agg #[.int .i64 0, .int .i64 0]])) w') := Lib.hid fun w' hb hs => ⟨hb, .inr ⟨hz, Ap, cp, rfl, hcp, hs⟩⟩
    generalize DpPost w c = R at *
    clear hV hz
    go_wp2_with fail
    go_region
    all_goals
      go_wp2_with fail
      refine bodyPost_ret (results_tc rfl _ _ w.heap.size (.int .i64 0) (.int .i64 0) rfl (((blk_put2 hblk _ _).alloc _).drewN 1)) rfl ?_
      refine H.out _ ?_ ?_
      · exact below_drewN (((hbel.setCell (by simp) _).setCell (by simp) _).alloc (by simp; omega) _) 1
      · have hu : (Under (w.heap.size + 1)) w.heap.size := by unfold Under; omega
        have h4 : SA w1 (Under (w.heap.size + 1)) Ap (intsV (depsI c c.length)) := hD.mono (fun b hb => by simpa [Under] using hb)
        exact ((((h4.keep (Keeps.setCell _ _ ⟨w.heap.size, 0, none⟩ _ hu)).keep (Keeps.setCell _ _ ⟨w.heap.size, 1, none⟩ _ hu)).keep (Keeps.alloc _ _ _)).keep (Keeps.drewN _ _ 1)).mono (fun b hb => hb.elim)
end Go.Proofs.Ytiphcpibhffdjaa
