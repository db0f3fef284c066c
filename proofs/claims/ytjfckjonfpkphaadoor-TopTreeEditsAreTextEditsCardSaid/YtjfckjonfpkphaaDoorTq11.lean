/-
  Editing a file of a tree: walks of 'h11Edit', of the comparison of equal trees; the example's plain facts.
-/
import Derived.Test.YtjfckjonfpkphaaDoorTq10
namespace Tp
/-- The example's patch. -/
def exP : List H := [⟨0, [[97]], [[98]]⟩]
theorem exP_v : vlF exP = (0, 0) := by
  unfold vlF
  rw [if_neg (by decide), vlFrom_next exP 0 (by decide) (by decide), vlFrom_end exP 1 (by decide)]
theorem exP_c : cfFrom exP [[97]] 0 = (0, 0) := by rw [cfFrom_next exP _ 0 (by decide) (by decide), cfFrom_end exP _ 1 (by decide)]
theorem exP_r : raw exP [[97]] = [[98]] := by decide
theorem exP_a : apF exP [[97]] = ([[98]], (0, 0)) := by
  rw [apF_k (by rw [exP_v]) (by rw [exP_c]) (by rw [exP_r]; decide), exP_r]
end Tp
namespace Tr
/-- The example's tree. -/
def exT : List F := [⟨[120], [[97]]⟩]
theorem exT_p : pathOk [120] = true := by decide
theorem exT_v : (vlF exT).1 = 0 := by
  unfold vlF
  rw [if_neg (by decide), vlFrom_next exT 0 (by decide) (by decide), vlFrom_end exT 1 (by decide)]
end Tr
namespace Go.Proofs.YtjfckjonfpkphaaDoor
open Go.RowKit Go.V Go.Shelf
set_option linter.unusedVariables false

theorem sv_one {w : World} {g : Nat} {x : List UInt8} (b : Blk w g 9 #[strV x]) : SA w Free (some ⟨g, 0, none⟩) (ssV [x]) := by
  have h := SA.of_blk (X := Free) b (fun h => h)
  exact h
theorem hv_ex {w : World} {g6 g7 g9 : Nat} (b6 : Blk w g6 9 #[strV [97]]) (b7 : Blk w g7 9 #[strV [98]]) (b9 : Blk w g9 49 #[.int .i64 0, .slice (some ⟨g6, 0, none⟩) 1 1, .slice (some ⟨g7, 0, none⟩) 1 1]) : HvV w Free (some ⟨g9, 0, none⟩) Tp.exP :=
  ⟨_, SA.of_blk b9 (fun h => h), RowsR.one ⟨_, 1, _, 1, rfl, ⟨⟨by decide, by decide⟩, ⟨by decide, by decide, sv_one b6⟩, ⟨by decide, by decide, sv_one b7⟩⟩⟩⟩
theorem tv_one {w : World} {g g2 : Nat} {p x : List UInt8} (b : Blk w g 9 #[strV x]) (b2 : Blk w g2 36 #[strV p, .slice (some ⟨g, 0, none⟩) 1 1]) : VfV w Free (some ⟨g2, 0, none⟩) [⟨p, [x]⟩] :=
  ⟨_, SA.of_blk b2 (fun h => h), RowsR.one ⟨_, 1, rfl, ⟨by simp, by simp, sv_one b⟩⟩⟩
theorem results_c41 {fn : Func} {a : Tmp} (h : fn.results = #[.cell a 41]) (tmps : Array Value) (w : World) (g : Nat) (x : Value) (ha : tmps.getD a undef = .pointer (some ⟨g, 0, none⟩)) (hb : Blk w g 41 #[x]) :
    (results fn tmps).run Tryd.prog w = .ok (.agg #[x]) w := by
  have h0 := hb.cell 0
  simp only [List.getElem?_toArray, List.getElem?_cons_zero] at h0
  have ha' : tmps[a]?.getD undef = .pointer (some ⟨g, 0, none⟩) := by simpa using ha
  simp [results, h, go_sem, ha', h0]
/-- What 'h11Edit' tells. -/
def EdPost (w : World) (p : List UInt8) (A : Option Addr) (n k : Nat) (e : Ending) (w' : World) : Prop :=
  ∃ cb, e = .returned (.agg #[.slice (some ⟨cb, 0, none⟩) 1 1]) ∧ Blk w' cb 58 (chC p A n k) ∧ Below w.heap.size w w'
set_option maxHeartbeats 4000000 in
theorem edit_any (w : World) (p : List UInt8) (A : Option Addr) (n k : Nat) : Calls Tryd.prog 8 #[strV p, .agg #[.slice A n k]] w (EdPost w p A n k) := by
  have b4 := (blk_new1 w (.cells #[.slice A n k] 27) 41 #[.slice (some ⟨w.heap.size + 1 + 1, 0, none⟩) 1 1]).alloc (.cells (chC p A n k) 58)
  have b5 : Blk (((w.alloc (.cells #[.slice A n k] 27)).alloc (.cells #[.slice (some ⟨w.heap.size + 1 + 1, 0, none⟩) 1 1] 41)).alloc (.cells (chC p A n k) 58)) (w.heap.size + 1 + 1) 58 (chC p A n k) := by
    have := Blk.new ((w.alloc (.cells #[.slice A n k] 27)).alloc (.cells #[.slice (some ⟨w.heap.size + 1 + 1, 0, none⟩) 1 1] 41)) 58 (chC p A n k)
    simpa using this
  go_enter Tryd.func8, Tryd.ntmps8
  go_wp2_with fail
  refine bodyPost_ret (results_c41 rfl _ _ (w.heap.size + 1) _ rfl b4) rfl ?_
  exact ⟨_, rfl, b5, below_alloc3 _ _ _ _⟩
set_option maxRecDepth 100000 in
set_option maxHeartbeats 8000000 in
theorem treeEq_any (w : World) (A1 A2 : Option Addr) (c1 c2 : Nat) (t : List Tr.F) (h1 : VfV w Free A1 t) (h2 : VfV w Free A2 t) (hl : t.length ≤ 24) :
    Calls Tryd.prog 13 #[.agg #[.slice A1 t.length c1], .agg #[.slice A2 t.length c2]] w fun e w' => e = .returned (.bool true) ∧ Below w.heap.size w w' := by
  have HV := Lib.hid (fun (w1 : World) (hb : Below w.heap.size w w1) => And.intro (h1.keep (free_below hb)) (h2.keep (free_below hb)))
  have HS := Lib.hid (fun (w1 : World) (B1 B2 : Option Addr) (k1 k2 : Nat) (l : List (List UInt8)) (g1 : LnA w1 Free l B1 k1) (g2 : LnA w1 Free l B2 k2) => (show Calls Tryd.prog 9 #[.slice B1 l.length k1, .slice B2 l.length k2] w1 fun e w' => e = .returned (.bool true) ∧ ∃ n, w' = w1.drewN n from by
    have h := strings_any w1 B1 B2 k1 k2 l l g1.ls g2.ls (by have := g1.ll; omega) (by have := g1.ll; omega)
    rw [decide_eq_true rfl] at h
    exact h))
  have b1 : Blk ((w.alloc (.cells #[.slice A1 t.length c1] 24)).alloc (.cells #[.slice A2 t.length c2] 24)) w.heap.size 24 #[.slice A1 t.length c1] := (Blk.new _ _ _).alloc _
  have b2 := blk_new1 w (.cells #[.slice A1 t.length c1] 24) 24 #[.slice A2 t.length c2]
  have hb := below_alloc2 w (.cells #[.slice A1 t.length c1] 24) (.cells #[.slice A2 t.length c2] 24)
  clear h1 h2
  go_enter Tryd.func13, Tryd.ntmps13
  go_wp2_with fail
  go_loopw [5] (fun iv wr => ∃ i : Nat, i ≤ t.length ∧ iv = .int .i64 i ∧ Blk wr w.heap.size 24 #[.slice A1 t.length c1] ∧ Blk wr (w.heap.size + 1) 24 #[.slice A2 t.length c2] ∧ Below w.heap.size w wr) (fun iv _ => t.length - (intOf iv).toNat)
  case atStart => exact ⟨0, Nat.zero_le _, rfl, b1, b2, hb⟩
  case round =>
    clear b1 b2 hb
    obtain ⟨i, hi, rfl, b1, b2, hb⟩ := hrel
    obtain ⟨wo, rfl⟩ : ∃ wo : World, wo = wr := ⟨_, rfl⟩
    have p1 := (b1.cell 0).trans rfl
    have p2 := (b2.cell 0).trans rfl
    have l1 := b1.lt
    have l2 := b2.lt
    by_cases hlt : i < t.length
    · have hlt' : (i : Int) < t.length := by omega
      obtain ⟨v1, v2⟩ := HV.out _ hb
      obtain ⟨g1, o1, B1, k1, e1, hg1, _, d1, d2, ln1⟩ := v1.row i hlt
      obtain ⟨g2, o2, B2, k2, e2, hg2, _, d3, d4, ln2⟩ := v2.row i hlt
      subst e1
      subst e2
      generalize Tr.it t i = x at *
      obtain ⟨xp, xl⟩ := x
      simp only at *
      have hne1 : (xp == xp) = true := by simp
      have hne2 : (xp != xp) = false := by simp
      have HS2 := Lib.hid (fun n => HS.out (wo.drewN n) B1 B2 k1 k2 xl (ln1.keep (Keeps.drewN _ _ _)) (ln2.keep (Keeps.drewN _ _ _)))
      clear v1 v2 ln1 ln2
      go_wp2_with fail
      go_quiet ((go_at_call 9; (with_reducible refine (HS2.out _).mono ?_); exact fun e w3 h => ⟨h.1, h.2.elim fun n' hn => ⟨_, hn.trans (World.drewN_drewN _ _ _)⟩⟩))
      go_wp2_with fail
      go_roundw
      case rel => exact ⟨i + 1, by omega, by go_num, b1.drewN nq, b2.drewN nq, below_drewN hb nq⟩
      case measure => simp [intOf]; omega
    · obtain rfl : i = t.length := by omega
      go_wp2_with fail
      go_ret
      exact ⟨rfl, hb⟩
end Go.Proofs.YtjfckjonfpkphaaDoor
