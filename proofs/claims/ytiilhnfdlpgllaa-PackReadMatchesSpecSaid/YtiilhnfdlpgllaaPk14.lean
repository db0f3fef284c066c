/-
  Packs: walks of 'read' and 'Read' at bytes whose digest is wrong.
-/
import Derived.Test.YtiilhnfdlpgllaaPkC
import Derived.Test.YtiilhnfdlpgllaaOb1
import Derived.Test.YtiilhnfdlpgllaaOb17
namespace Go.Proofs.Ytiilhnfdlpgllaa
open Go.RowKit Go.V
set_option linter.unusedVariables false

set_option maxRecDepth 100000 in
set_option maxHeartbeats 16000000 in
theorem read_broken (w : World) (A : Option Addr) (k n : Nat) (l : List UInt8) (hv : SA w Free A (bytesV l)) (hln : l.length = n + 8) (h3 : 3 ≤ n) (h4 : n + 8 ≤ 4096) (hk : n + 8 ≤ k) (hbr : Broken l) :
    Calls Try.prog 42 #[.slice A (n + 8) k] w fun e w' => e = .returned (.tuple #[.agg #[.slice none 0 0], .slice none 0 0, .agg #[.int .i64 18, .int .i64 0]]) ∧ Below w.heap.size w w' := by
  have ht : (l.take n).length = n := by simp; omega
  have hd : (l.drop n).length = 8 := by simp; omega
  have H46 := Lib.hid (fun (w1 : World) (hb : Below w.heap.size w w1) => of_bytes w1 A k (l.take n) (by have := ((hv.keep (free_below hb)).take n).sv; unfold bytesV at this ⊢; rwa [List.map_take]) (by omega))
  rw [ht] at H46
  have hofl : Dg.ofL (l.take n) < 2305843009213693951 := Dg.ofTo_lt _ _ (Nat.le_refl _)
  have H52 := Lib.hid (fun (w1 : World) => (big_any w1 (Dg.ofL (l.take n)) hofl).mono (fun e w' (h : BtPost w1 (Ob.wide (Dg.ofL (l.take n))) e w') => show ∃ A2 c2, e = .returned (.slice A2 8 c2) ∧ SV w' w'.heap.size A2 (bytesV (Ob.wide (Dg.ofL (l.take n)))) ∧ Below w1.heap.size w1 w' from by
    obtain ⟨A2, c2, rfl, _, _, hown, hb⟩ := h
    rw [Ob.wide_length] at hown ⊢
    exact ⟨A2, c2, rfl, SV.of_own hown, hb⟩))
  have hne : decide (Ob.wide (Dg.ofL (l.take n)) = l.drop n) = false := by
    unfold Broken at hbr
    rw [hln, Nat.add_sub_cancel] at hbr
    exact decide_eq_false hbr
  have H54 := Lib.hid (fun (w1 : World) (hb : Below w.heap.size w w1) (A2 : Option Addr) (c2 : Nat) (h2 : SV w1 w1.heap.size A2 (bytesV (Ob.wide (Dg.ofL (l.take n))))) (cc : Nat) => bytesEq_any w1 A2 (A.map (·.add n)) c2 cc (Ob.wide (Dg.ofL (l.take n))) (l.drop n) h2
    (by have := ((hv.keep (free_below hb)).drop n False (fun h => h.elim)).sv; rw [if_neg (fun h => h)] at this; unfold bytesV at this ⊢; rwa [List.map_drop]))
  rw [Ob.wide_length, hd, hne] at H54
  clear hne hd ht hv hbr
  generalize Dg.ofL (l.take n) = d at *
  have hd0 : (0 : Int) ≤ d := by omega
  have b0 := below_alloc3 w (.cells #[.slice none 0 0] 24) (.cells #[.int .i64 0, .int .i64 0] 28) (.cells #[.slice none 0 0] 24)
  have r1 := ((Blk.new w 24 #[.slice none 0 0]).alloc (.cells #[.int .i64 0, .int .i64 0] 28)).alloc (.cells #[.slice none 0 0] 24)
  have r2 := (blk_new1 w (.cells #[.slice none 0 0] 24) 28 #[.int .i64 0, .int .i64 0]).alloc (.cells #[.slice none 0 0] 24)
  have sb := blk_new2 w (.cells #[.slice none 0 0] 24) (.cells #[.int .i64 0, .int .i64 0] 28) 24 #[.slice none 0 0]
  have hn8 : ((n : Int) + 8 - 8) = n := by omega
  have hi0 : (0 : Int) ≤ n := by omega
  have hi1 : (n : Int) ≤ (n : Int) + 8 := by omega
  have hi2 : (n : Int) + 8 ≤ k := by omega
  have hi3 : (n : Int) ≤ k := by omega
  go_enter Try.func42, Try.ntmps42
  go_wp2_with fail
  go_at_call 46
  refine (H46.out _ b0).mono ?_
  rintro e w1 ⟨rfl, hb1⟩
  have b1 := (b0.trans (hb1.mono b0.size)).alloc (b0.trans (hb1.mono b0.size)).size (.cells #[.int .i64 0, .int .i64 0] 28)
  replace r1 := (r1.below hb1 r1.lt).alloc (.cells #[.int .i64 0, .int .i64 0] 28)
  replace r2 := (r2.below hb1 r2.lt).alloc (.cells #[.int .i64 0, .int .i64 0] 28)
  replace sb := (sb.below hb1 sb.lt).alloc (.cells #[.int .i64 0, .int .i64 0] 28)
  clear hb1 H46 b0
  have hk0 : Below (w1.alloc (.cells #[.int .i64 0, .int .i64 0] 28)).heap.size (w1.alloc (.cells #[.int .i64 0, .int .i64 0] 28)) (w1.alloc (.cells #[.int .i64 0, .int .i64 0] 28)).drew := below_drew' (Below.refl _ _)
  go_wp2_with fail
  go_region_held3 (fun w6 => True)
    (exact True.intro)
    (first
      | (go_at_call 52; (with_reducible refine (H52.out _).mono ?_); rintro e v1 ⟨A2, c2, rfl, hs2, hv1⟩; have hk1 := hk0.trans (hv1.mono hk0.size))
      | (go_at_call 54; (with_reducible refine (H54.out _ (b1.trans (hk1.mono b1.size)) A2 c2 hs2 _).mono ?_); rintro e v2 ⟨rfl, rfl⟩))
  have b2 := b1.trans (hk1.mono b1.size)
  replace r1 := r1.below hk1 r1.lt
  replace r2 := r2.below hk1 r2.lt
  replace sb := sb.below hk1 sb.lt
  clear H52 H54 hk0 hv1 hk1 hs2 b1
  have x0 := (sb.cell 0).trans (rfl : _ = some (Value.slice none 0 0))
  have x1 := sb.lt
  have y0 := (r1.cell 0).trans (rfl : _ = some (Value.slice none 0 0))
  have y1 := r1.lt
  have y2 := r1.frozen 0
  have z0 := (r2.cell 0).trans (rfl : _ = some (Value.int .i64 0))
  have z1 := (r2.cell 1).trans (rfl : _ = some (Value.int .i64 0))
  have z2 := r2.lt
  have z3 := r2.frozen 0
  have z4 := r2.frozen 1
  go_wp2_with fail
  obtain ⟨k1, k2, k3⟩ := put12 r1 r2 (by omega) (.slice none 0 0) (.int .i64 18) (.int .i64 0)
  refine bodyPost_ret (results_24_t_28 rfl _ _ w.heap.size (w.heap.size + 1) (.slice none 0 0) (.int .i64 18) (.int .i64 0) rfl rfl k1 k2) rfl ?_
  exact ⟨rfl, k3 _ _ (by omega) (by omega) b2⟩
set_option maxRecDepth 100000 in
set_option maxHeartbeats 16000000 in
theorem Read_broken (w : World) (A : Option Addr) (k n : Nat) (l : List UInt8) (hv : SA w Free A (bytesV l)) (hln : l.length = n + 8) (h3 : 3 ≤ n) (h4 : n + 8 ≤ 4096) (hk : n + 8 ≤ k) (hbr : Broken l) :
    Calls Try.prog 20 #[.slice A (n + 8) k] w fun e w' => e = .returned (.tuple #[.agg #[.slice none 0 0], .agg #[.int .i64 18, .int .i64 0]]) ∧ Below w.heap.size w w' := by
  have b0 := below_alloc2 w (.cells #[.slice none 0 0] 24) (.cells #[.int .i64 0, .int .i64 0] 28)
  have HC := Lib.hid (read_broken _ A k n l (hv.keep (free_below b0)) hln h3 h4 hk hbr)
  have r1 := (Blk.new w 24 #[.slice none 0 0]).alloc (.cells #[.int .i64 0, .int .i64 0] 28)
  have r2 := blk_new1 w (.cells #[.slice none 0 0] 24) 28 #[.int .i64 0, .int .i64 0]
  clear hv hbr
  go_enter Try.func20, Try.ntmps20
  go_wp2_with fail
  go_at_call 42
  refine HC.out.mono ?_
  rintro e w1 ⟨rfl, hb1⟩
  have b1 := b0.trans (hb1.mono b0.size)
  replace r1 := r1.below hb1 r1.lt
  replace r2 := r2.below hb1 r2.lt
  have y0 := (r1.cell 0).trans (rfl : _ = some (Value.slice none 0 0))
  have y1 := r1.lt
  have y2 := r1.frozen 0
  have z0 := (r2.cell 0).trans (rfl : _ = some (Value.int .i64 0))
  have z1 := (r2.cell 1).trans (rfl : _ = some (Value.int .i64 0))
  have z2 := r2.lt
  have z3 := r2.frozen 0
  have z4 := r2.frozen 1
  clear HC hb1 b0
  go_wp2_with fail
  go_region
  all_goals
    go_wp2_with fail
    obtain ⟨k1, k2, k3⟩ := put12 r1 r2 (by omega) (.slice none 0 0) (.int .i64 18) (.int .i64 0)
    refine bodyPost_ret (results_24_28 rfl _ _ w.heap.size (w.heap.size + 1) (.slice none 0 0) (.int .i64 18) (.int .i64 0) rfl rfl (((k1.alloc _).alloc _).drewN 1) (((k2.alloc _).alloc _).drewN 1)) rfl ?_
    refine ⟨rfl, ?_⟩
    have hb := k3 w.heap.size w (by omega) (by omega) b1
    exact below_drewN ((hb.alloc hb.size _).alloc (hb.alloc hb.size _).size _) 1
end Go.Proofs.Ytiilhnfdlpgllaa
