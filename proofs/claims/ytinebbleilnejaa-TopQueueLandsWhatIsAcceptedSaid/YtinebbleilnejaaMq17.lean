/-
  The merge queue: walk of speculate.Decide at the example, of nLands.
-/
import Derived.Test.YtinebbleilnejaaMq15
import Derived.Test.YtinebbleilnejaaMq16
namespace Go.Proofs.Ytinebbleilnejaa
open Go.RowKit Go.V
set_option linter.unusedVariables false
theorem results_ttc {fn : Func} {s t a : Tmp} (h : fn.results = #[.tmp s, .tmp t, .cell a 26]) (tmps : Array Value) (w : World) (g : Nat) (x y : Value) (ha : tmps.getD a undef = .pointer (some ⟨g, 0, none⟩)) (hb : Blk w g 26 #[x, y]) :
    (results fn tmps).run Try.prog w = .ok (.tuple #[tmps.getD s undef, tmps.getD t undef, .agg #[x, y]]) w := by
  have h0 := hb.cell 0
  have h1 := hb.cell 1
  simp only [List.getElem?_toArray, List.getElem?_cons_zero, List.getElem?_cons_succ] at h0 h1
  have ha' : tmps[a]?.getD undef = .pointer (some ⟨g, 0, none⟩) := by simpa using ha
  simp [results, h, go_sem, ha', h0, h1]
/-- What Decide tells of the example. -/
def DcPost (w : World) (e : Ending) (w' : World) : Prop := ∃ A c, e = .returned (.tuple #[.slice A 1 c, .slice none 0 0, .agg #[.int .i64 0, .int .i64 0]]) ∧ IV w' A [0] ∧ Below w.heap.size w w'
set_option maxRecDepth 100000 in
set_option maxHeartbeats 8000000 in
theorem decide_any (w : World) (g : Nat) (hg : g < w.heap.size) (d0 : w.cell? ⟨g, 0, none⟩ = some (.int .i64 0)) (d1 : w.cell? ⟨g, 1, none⟩ = some (.slice none 0 0)) (d2 : w.cell? ⟨g, 2, none⟩ = some (.bool true)) :
    Calls Try.prog 10 #[.int .i64 1, .slice (some ⟨g, 0, none⟩) 1 1] w (DcPost w) := by
  obtain ⟨i0, hi0, hz0, hz1, hz2⟩ := info_parts info3
  have hb0 := below_alloc1 w (.cells #[.int .i64 0, .int .i64 0] 26)
  have b0 := Blk.new w 26 #[.int .i64 0, .int .i64 0]
  have HD := Lib.hid (fun (W : World) (hb : Below w.heap.size w W) => (show g < W.heap.size ∧ W.cell? ⟨g, 0, none⟩ = some (.int .i64 0) ∧ W.cell? ⟨g, 1, none⟩ = some (.slice none 0 0) ∧ W.cell? ⟨g, 2, none⟩ = some (.bool true) from
    ⟨Nat.lt_of_lt_of_le hg hb.size, (hb.cell (p := ⟨g, 0, none⟩) hg).trans d0, (hb.cell (p := ⟨g, 1, none⟩) hg).trans d1, (hb.cell (p := ⟨g, 2, none⟩) hg).trans d2⟩))
  have HCR := Lib.hid (f20e _ g (HD.out _ hb0).1 (HD.out _ hb0).2.1 (HD.out _ hb0).2.2.1 (HD.out _ hb0).2.2.2)
  clear d0 d1 d2
  go_enter Try.func10, Try.ntmps10
  go_wp2_with fail
  go_at_call 20
  with_reducible refine HCR.out.mono ?_
  rintro e w1 ⟨rfl, hb1⟩
  replace b0 := (b0.below hb1 b0.lt).alloc (.cells #[.int .i64 0, .int .i64 0] 26)
  have hb2 := hb0.trans (hb1.mono hb0.size)
  have hb3 := hb2.alloc hb2.size (.cells #[.int .i64 0, .int .i64 0] 26)
  clear hb0 hb1 hb2 HCR
  go_wp2_with fail
  go_loopw [8, 9, 21] (fun ov rv iv wr => ∃ (i : Nat) (Ao : Option Addr) (co : Nat), i ≤ 1 ∧ ov = .slice Ao i co ∧ rv = .slice none 0 0 ∧ iv = .int .i64 i ∧ Below w.heap.size w wr ∧ Blk wr w.heap.size 26 #[.int .i64 0, .int .i64 0] ∧ wr.ownsRow w.heap.size 3 1 (.slice Ao i co) i (intsV (List.replicate i (0 : Int))) ∧ Hid (i = 0 → Ao = none ∧ co = 0)) (fun _ _ iv _ => 1 - (intOf iv).toNat)
  case atStart => exact ⟨0, none, 0, by omega, rfl, rfl, rfl, hb3, b0, World.ownsRow_nil _ _ _ _, Lib.hid fun _ => ⟨rfl, rfl⟩⟩
  case round =>
    clear b0 hb3
    obtain ⟨i, Ao, co, hi, rfl, rfl, rfl, hb, bF, hown, HZ⟩ := hrel
    obtain ⟨wo, rfl⟩ : ∃ wo : World, wo = wr := ⟨_, rfl⟩
    by_cases hlt : i = 0
    · obtain rfl := hlt
      obtain ⟨rfl, rfl⟩ := HZ.out rfl
      have hal := below_alloc1 wo (.cells #[.int .i64 0, .slice none 0 0] 47)
      have bR := Blk.new wo 47 #[.int .i64 0, .slice none 0 0]
      have hb4 := hb.trans (hal.mono hb.size)
      obtain ⟨g1, e0, e1, e2⟩ := HD.out _ hb4
      have HC := Lib.hid (fun fv hfv => f21e _ wo.heap.size g fv hfv ((bR.cell 0).trans rfl) ((bR.cell 1).trans rfl) bR.lt e0 e1 e2)
      have HX := Lib.hid (fun (W : World) (hbW : Below (wo.alloc (.cells #[.int .i64 0, .slice none 0 0] 47)).heap.size (wo.alloc (.cells #[.int .i64 0, .slice none 0 0] 47)) W) => And.intro (hb4.trans (hbW.mono hb4.size)) (And.intro ((bF.alloc _).below hbW (bF.alloc _).lt) (HD.out W (hb4.trans (hbW.mono hb4.size)))))
      clear hb4 hal bR g1 e0 e1 e2 HZ bF hown HD
      go_wp2_with fail
      go_at_call 21
      with_reducible refine (HC.out _ rfl).mono ?_
      rintro e w2 ⟨rfl, hb2⟩
      obtain ⟨hw2, bF, _, c0, c1, c2⟩ := HX.out w2 hb2
      have h63 : (0 : Nat) + 1 ≤ maxLen := by unfold maxLen; omega
      have hby : ((0 : Nat) + 1) * 8 ≤ 140737488355328 := by omega
      have hu : (w2.alloc (.cells #[.int .i64 0] 3)).cell? ⟨w2.heap.size, 0, none⟩ = some (.int .i64 0) := ((Blk.new w2 3 #[.int .i64 0]).cell 0).trans rfl
      have hnil : w2.ownsRow w.heap.size 3 1 (.slice none 0 0) 0 [] := World.ownsRow_nil _ _ _ _
      have hsz := hw2.size
      clear HC HX hb2
      go_wp2_with (first | (at_builtin; refine wpList_app1o _ rfl (.tmp 46) (.tmp 48) 23 rfl w.heap.size 3 i0 (.int .i64 0) 8 Try.underlying23 hi0 hz0 hz1 hz2 rfl none 0 0 [] rfl (hnil.alloc _) w2.heap.size 1 (.int .i64 0) rfl hu rfl h63 hby (Nat.le_trans hsz (by simp)) ?_))
      intro A' c' w' hown' hg' hc' hob'
      have hb5 := (app_keep hnil _ hg' hsz).2.1 w _ (Nat.le_refl _) hw2
      have bF5 := (app_keep hnil _ hg' hsz).1 _ _ _ (by decide) bF
      clear hg' hu hc' hob' bF c0 c1 c2
      go_wp2_with fail
      go_roundw
      case rel => exact ⟨1, A', c', by omega, rfl, rfl, rfl, hb5, bF5, by simpa [intsV] using hown', Lib.hid fun h => by omega⟩
      case measure => simp [intOf]
    · obtain rfl : i = 1 := by omega
      have q0 := (bF.cell 0).trans rfl
      have q1 := (bF.cell 1).trans rfl
      have f0 := bF.frozen 0
      have f1 := bF.frozen 1
      have l1 := bF.lt
      have hown2 := own_setCell (own_setCell hown (own_blk_ne hown bF (by decide)) (p := ⟨w.heap.size, 0, none⟩) (.int .i64 0)) (own_blk_ne hown bF (by decide)) (p := ⟨w.heap.size, 1, none⟩) (.int .i64 0)
      have HF := Lib.hid (show DcPost w (.returned (.tuple #[.slice Ao 1 co, .slice none 0 0, .agg #[.int .i64 0, .int .i64 0]])) ((wo.setCell ⟨w.heap.size, 0, none⟩ (.int .i64 0)).setCell ⟨w.heap.size, 1, none⟩ (.int .i64 0)) from ⟨Ao, co, rfl, SV.of_own hown2, below_put26 hb (Nat.le_refl _) _ _⟩)
      clear hown hown2 HD
      go_wp2_with fail
      refine bodyPost_ret (results_ttc rfl _ _ w.heap.size (.int .i64 0) (.int .i64 0) rfl (blk_put26 bF _ _)) rfl ?_
      exact HF.out
end Go.Proofs.Ytinebbleilnejaa
