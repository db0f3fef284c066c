/-
  PackReadMatchesSpec: the law's walk.
-/
import Derived.Test.YtiilhnfdlpgllaaPk24
import Derived.Test.YtiilhnfdlpgllaaPk25
namespace Go.Proofs.Ytiilhnfdlpgllaa
open Go.RowKit Go.V
set_option linter.unusedVariables false

set_option maxRecDepth 100000 in
set_option maxHeartbeats 8000000 in
theorem law7_any (w : World) (A : Option Addr) (n k : Nat) (b : List UInt8) (d : Int) (hv : SA w Free A (bytesV b)) (hln : b.length = n) (hk : n ≤ k) :
    Calls Try.prog 7 #[.slice A n k, .int .i64 d] w fun e w' => e = .returned (.bool true) ∧ Below w.heap.size w w' := by
  have hb0 : Below w.heap.size w w := Below.refl _ _
  have K20 := Lib.hid (fun (w1 : World) (hb : Below w.heap.size w w1) => Read_any w1 A n k b (hv.keep (free_below hb)) hln hk)
  have K21 := Lib.hid (fun (w1 : World) (hb : Below w.heap.size w w1) => Index_any w1 A n k b (hv.keep (free_below hb)) hln hk)
  have K23 := Lib.hid (fun (w1 : World) (hb : Below w.heap.size w w1) => Lookup_any w1 A n k b d (hv.keep (free_below hb)) hln hk)
  have K25 := Lib.hid (fun (w1 : World) (hb : Below w.heap.size w w1) => readPack_all w1 A n k b (hv.keep (free_below hb)) hln hk)
  clear hv hln
  rcases readF_cases b with ⟨c, hc, hr⟩ | ⟨s, hs, hp, _, hr⟩
  · have H20 : Hid (∀ w1 : World, Below w.heap.size w w1 → Calls Try.prog 20 #[.slice A n k] w1 fun e w' => ∃ A1 k1, e = .returned (.tuple #[.agg #[.slice A1 0 k1], .agg #[.int .i64 c, .int .i64 0]]) ∧ Below w1.heap.size w1 w') := Lib.hid fun w1 hb => (K20.out w1 hb).mono fun e w' h => by
      unfold RePost at h; rw [hr] at h; obtain ⟨A1, k1, h1, _, h3⟩ := h; exact ⟨A1, k1, h1, h3⟩
    have H21 : Hid (∀ w1 : World, Below w.heap.size w w1 → Calls Try.prog 21 #[.slice A n k] w1 fun e w' => ∃ A1 k1, e = .returned (.tuple #[.slice A1 0 k1, .agg #[.int .i64 c, .int .i64 0]]) ∧ Below w1.heap.size w1 w') := Lib.hid fun w1 hb => (K21.out w1 hb).mono fun e w' h => by
      unfold IxPost at h; rw [hr] at h; obtain ⟨A1, k1, h1, _, h3⟩ := h; exact ⟨A1, k1, h1, h3⟩
    have H25 : Hid (∀ w1 : World, Below w.heap.size w w1 → Calls Try.prog 25 #[.slice A n k] w1 fun e w' => ∃ A1 k1, e = .returned (.tuple #[.agg #[.slice A1 0 k1], .agg #[.int .i64 c, .int .i64 0]]) ∧ Below w1.heap.size w1 w') := Lib.hid fun w1 hb => (K25.out w1 hb).mono fun e w' h => by
      unfold RqPost at h; rw [hr] at h; obtain ⟨A1, k1, h1, _, _, h3⟩ := h; exact ⟨A1, k1, h1, h3⟩
    have H23 : Hid (∀ w1 : World, Below w.heap.size w w1 → Calls Try.prog 23 #[.slice A n k, .int .i64 d] w1 fun e w' => e = .returned (.tuple #[zObj, .agg #[.int .i64 c, .int .i64 0]]) ∧ Below w1.heap.size w1 w') := Lib.hid fun w1 hb => (K23.out w1 hb).mono fun e w' h => by
      obtain ⟨hb, ⟨c', _, hr', h1⟩ | ⟨s', _, _, hr', _⟩⟩ := h
      · rw [hr] at hr'; injection hr' with _ h2; injection h2 with _ h2; injection h2 with h2 _; subst h2; exact ⟨h1, hb⟩
      · rw [hr] at hr'; injection hr' with _ h2; injection h2 with _ h2; injection h2 with h2 _; exact absurd h2 hc
    have hx1 : (c == 0) = false := by simpa using hc
    have hx2 : (c != 0) = true := by simpa using hc
    clear K20 K21 K23 K25 hc hr
    go_enter Try.func7, Try.ntmps7
    go_wp2_with fail
    go_at_call 14
    refine (example_any _).mono ?_
    rintro e w1 ⟨rfl, hb1'⟩
    have wB1 := hb0.trans (hb1'.mono hb0.size)
    clear hb1'
    go_wp2_with fail
    go_at_call 20
    refine (H20.out _ wB1).mono ?_
    rintro e w2 ⟨A1, k1, rfl, hb2'⟩
    have wB2 := wB1.trans (hb2'.mono wB1.size)
    clear hb2'
    have xs := Blk.new w2 24 #[.slice A1 0 k1]
    have wB2a0 := wB2.alloc wB2.size (.cells #[.slice A1 0 k1] 24)
    replace xs := xs.alloc (.cells #[.int .i64 c, .int .i64 0] 28)
    have fs : Blk ((w2.alloc (.cells #[.slice A1 0 k1] 24)).alloc (.cells #[.int .i64 c, .int .i64 0] 28)) (w2.heap.size + 1) 28 #[.int .i64 c, .int .i64 0] := by simpa using Blk.new (w2.alloc (.cells #[.slice A1 0 k1] 24)) 28 #[.int .i64 c, .int .i64 0]
    have wB2a1 := wB2a0.alloc wB2a0.size (.cells #[.int .i64 c, .int .i64 0] 28)
    go_wp2_with fail
    go_at_call 21
    refine (H21.out _ wB2a1).mono ?_
    rintro e w3 ⟨A2, k2, rfl, hb3'⟩
    have wB3 := wB2a1.trans (hb3'.mono wB2a1.size)
    replace xs := xs.below hb3' xs.lt
    replace fs := fs.below hb3' fs.lt
    have xs_l : w2.heap.size < w3.heap.size := xs.lt
    have xs_l2 : w2.heap.size < w3.heap.size + 1 + 1 := Nat.lt_succ_of_lt (Nat.lt_succ_of_lt xs_l)
    have xs_0 : w3.cell? ⟨w2.heap.size, 0, none⟩ = some (.slice A1 0 k1) := (xs.cell 0).trans rfl
    have fs_l : w2.heap.size + 1 < w3.heap.size := fs.lt
    have fs_l2 : w2.heap.size + 1 < w3.heap.size + 1 + 1 := Nat.lt_succ_of_lt (Nat.lt_succ_of_lt fs_l)
    have fs_0 : w3.cell? ⟨w2.heap.size + 1, 0, none⟩ = some (.int .i64 c) := (fs.cell 0).trans rfl
    have fs_1 : w3.cell? ⟨w2.heap.size + 1, 1, none⟩ = some (.int .i64 0) := (fs.cell 1).trans rfl
    clear hb3'
    replace xs := xs.alloc (.cells #[.int .i64 c, .int .i64 0] 28)
    replace fs := fs.alloc (.cells #[.int .i64 c, .int .i64 0] 28)
    have gs := Blk.new w3 28 #[.int .i64 c, .int .i64 0]
    have wB3a0 := wB3.alloc wB3.size (.cells #[.int .i64 c, .int .i64 0] 28)
    go_wp2_with fail
    go_at_call 23
    refine (H23.out _ wB3a0).mono ?_
    rintro e w4 ⟨rfl, hb4'⟩
    have wB4 := wB3a0.trans (hb4'.mono wB3a0.size)
    replace xs := xs.below hb4' xs.lt
    replace fs := fs.below hb4' fs.lt
    replace gs := gs.below hb4' gs.lt
    clear fs_0 fs_1 fs_l fs_l2 xs_0 xs_l xs_l2
    have xs_l : w2.heap.size < w4.heap.size := xs.lt
    have xs_l2 : w2.heap.size < w4.heap.size + 1 + 1 := Nat.lt_succ_of_lt (Nat.lt_succ_of_lt xs_l)
    have xs_0 : w4.cell? ⟨w2.heap.size, 0, none⟩ = some (.slice A1 0 k1) := (xs.cell 0).trans rfl
    have fs_l : w2.heap.size + 1 < w4.heap.size := fs.lt
    have fs_l2 : w2.heap.size + 1 < w4.heap.size + 1 + 1 := Nat.lt_succ_of_lt (Nat.lt_succ_of_lt fs_l)
    have fs_0 : w4.cell? ⟨w2.heap.size + 1, 0, none⟩ = some (.int .i64 c) := (fs.cell 0).trans rfl
    have fs_1 : w4.cell? ⟨w2.heap.size + 1, 1, none⟩ = some (.int .i64 0) := (fs.cell 1).trans rfl
    have gs_l : w3.heap.size < w4.heap.size := gs.lt
    have gs_l2 : w3.heap.size < w4.heap.size + 1 + 1 := Nat.lt_succ_of_lt (Nat.lt_succ_of_lt gs_l)
    have gs_0 : w4.cell? ⟨w3.heap.size, 0, none⟩ = some (.int .i64 c) := (gs.cell 0).trans rfl
    have gs_1 : w4.cell? ⟨w3.heap.size, 1, none⟩ = some (.int .i64 0) := (gs.cell 1).trans rfl
    clear hb4'
    replace xs := xs.alloc (.cells #[.int .i64 0, .slice none 0 0, .slice none 0 0] 44)
    replace fs := fs.alloc (.cells #[.int .i64 0, .slice none 0 0, .slice none 0 0] 44)
    replace gs := gs.alloc (.cells #[.int .i64 0, .slice none 0 0, .slice none 0 0] 44)
    have ob := Blk.new w4 44 #[.int .i64 0, .slice none 0 0, .slice none 0 0]
    have wB4a0 := wB4.alloc wB4.size (.cells #[.int .i64 0, .slice none 0 0, .slice none 0 0] 44)
    replace xs := xs.alloc (.cells #[.int .i64 c, .int .i64 0] 28)
    replace fs := fs.alloc (.cells #[.int .i64 c, .int .i64 0] 28)
    replace gs := gs.alloc (.cells #[.int .i64 c, .int .i64 0] 28)
    replace ob := ob.alloc (.cells #[.int .i64 c, .int .i64 0] 28)
    have hs : Blk ((w4.alloc (.cells #[.int .i64 0, .slice none 0 0, .slice none 0 0] 44)).alloc (.cells #[.int .i64 c, .int .i64 0] 28)) (w4.heap.size + 1) 28 #[.int .i64 c, .int .i64 0] := by simpa using Blk.new (w4.alloc (.cells #[.int .i64 0, .slice none 0 0, .slice none 0 0] 44)) 28 #[.int .i64 c, .int .i64 0]
    have wB4a1 := wB4a0.alloc wB4a0.size (.cells #[.int .i64 c, .int .i64 0] 28)
    go_wp2_with fail
    go_at_call 25
    refine (H25.out _ wB4a1).mono ?_
    rintro e w5 ⟨A3, k3, rfl, hb5'⟩
    have wB5 := wB4a1.trans (hb5'.mono wB4a1.size)
    replace xs := xs.below hb5' xs.lt
    replace fs := fs.below hb5' fs.lt
    replace gs := gs.below hb5' gs.lt
    replace ob := ob.below hb5' ob.lt
    replace hs := hs.below hb5' hs.lt
    clear fs_0 fs_1 fs_l fs_l2 gs_0 gs_1 gs_l gs_l2 xs_0 xs_l xs_l2
    have xs_l : w2.heap.size < w5.heap.size := xs.lt
    have xs_l2 : w2.heap.size < w5.heap.size + 1 + 1 := Nat.lt_succ_of_lt (Nat.lt_succ_of_lt xs_l)
    have xs_0 : w5.cell? ⟨w2.heap.size, 0, none⟩ = some (.slice A1 0 k1) := (xs.cell 0).trans rfl
    have fs_l : w2.heap.size + 1 < w5.heap.size := fs.lt
    have fs_l2 : w2.heap.size + 1 < w5.heap.size + 1 + 1 := Nat.lt_succ_of_lt (Nat.lt_succ_of_lt fs_l)
    have fs_0 : w5.cell? ⟨w2.heap.size + 1, 0, none⟩ = some (.int .i64 c) := (fs.cell 0).trans rfl
    have fs_1 : w5.cell? ⟨w2.heap.size + 1, 1, none⟩ = some (.int .i64 0) := (fs.cell 1).trans rfl
    have gs_l : w3.heap.size < w5.heap.size := gs.lt
    have gs_l2 : w3.heap.size < w5.heap.size + 1 + 1 := Nat.lt_succ_of_lt (Nat.lt_succ_of_lt gs_l)
    have gs_0 : w5.cell? ⟨w3.heap.size, 0, none⟩ = some (.int .i64 c) := (gs.cell 0).trans rfl
    have gs_1 : w5.cell? ⟨w3.heap.size, 1, none⟩ = some (.int .i64 0) := (gs.cell 1).trans rfl
    have ob_l : w4.heap.size < w5.heap.size := ob.lt
    have ob_l2 : w4.heap.size < w5.heap.size + 1 + 1 := Nat.lt_succ_of_lt (Nat.lt_succ_of_lt ob_l)
    have ob_0 : w5.cell? ⟨w4.heap.size, 0, none⟩ = some (.int .i64 0) := (ob.cell 0).trans rfl
    have ob_1 : w5.cell? ⟨w4.heap.size, 1, none⟩ = some (.slice none 0 0) := (ob.cell 1).trans rfl
    have ob_2 : w5.cell? ⟨w4.heap.size, 2, none⟩ = some (.slice none 0 0) := (ob.cell 2).trans rfl
    have hs_l : w4.heap.size + 1 < w5.heap.size := hs.lt
    have hs_l2 : w4.heap.size + 1 < w5.heap.size + 1 + 1 := Nat.lt_succ_of_lt (Nat.lt_succ_of_lt hs_l)
    have hs_0 : w5.cell? ⟨w4.heap.size + 1, 0, none⟩ = some (.int .i64 c) := (hs.cell 0).trans rfl
    have hs_1 : w5.cell? ⟨w4.heap.size + 1, 1, none⟩ = some (.int .i64 0) := (hs.cell 1).trans rfl
    clear hb5'
    replace xs := xs.alloc (.cells #[.slice A3 0 k3] 24)
    replace fs := fs.alloc (.cells #[.slice A3 0 k3] 24)
    replace gs := gs.alloc (.cells #[.slice A3 0 k3] 24)
    replace ob := ob.alloc (.cells #[.slice A3 0 k3] 24)
    replace hs := hs.alloc (.cells #[.slice A3 0 k3] 24)
    have ys := Blk.new w5 24 #[.slice A3 0 k3]
    have wB5a0 := wB5.alloc wB5.size (.cells #[.slice A3 0 k3] 24)
    replace xs := xs.alloc (.cells #[.int .i64 c, .int .i64 0] 28)
    replace fs := fs.alloc (.cells #[.int .i64 c, .int .i64 0] 28)
    replace gs := gs.alloc (.cells #[.int .i64 c, .int .i64 0] 28)
    replace ob := ob.alloc (.cells #[.int .i64 c, .int .i64 0] 28)
    replace hs := hs.alloc (.cells #[.int .i64 c, .int .i64 0] 28)
    replace ys := ys.alloc (.cells #[.int .i64 c, .int .i64 0] 28)
    have ws : Blk ((w5.alloc (.cells #[.slice A3 0 k3] 24)).alloc (.cells #[.int .i64 c, .int .i64 0] 28)) (w5.heap.size + 1) 28 #[.int .i64 c, .int .i64 0] := by simpa using Blk.new (w5.alloc (.cells #[.slice A3 0 k3] 24)) 28 #[.int .i64 c, .int .i64 0]
    have wB5a1 := wB5a0.alloc wB5a0.size (.cells #[.int .i64 c, .int .i64 0] 28)
    go_wp2_with fail
    go_at_call 24
    refine (objects_zz _).mono ?_
    rintro e w6 ⟨rfl, hb6'⟩
    have wB6 := wB5a1.trans (hb6'.mono wB5a1.size)
    replace xs := xs.below hb6' xs.lt
    replace fs := fs.below hb6' fs.lt
    replace gs := gs.below hb6' gs.lt
    replace ob := ob.below hb6' ob.lt
    replace hs := hs.below hb6' hs.lt
    replace ys := ys.below hb6' ys.lt
    replace ws := ws.below hb6' ws.lt
    clear fs_0 fs_1 fs_l fs_l2 gs_0 gs_1 gs_l gs_l2 hs_0 hs_1 hs_l hs_l2 ob_0 ob_1 ob_2 ob_l ob_l2 xs_0 xs_l xs_l2
    have xs_l : w2.heap.size < w6.heap.size := xs.lt
    have xs_l2 : w2.heap.size < w6.heap.size + 1 + 1 := Nat.lt_succ_of_lt (Nat.lt_succ_of_lt xs_l)
    have xs_0 : w6.cell? ⟨w2.heap.size, 0, none⟩ = some (.slice A1 0 k1) := (xs.cell 0).trans rfl
    have fs_l : w2.heap.size + 1 < w6.heap.size := fs.lt
    have fs_l2 : w2.heap.size + 1 < w6.heap.size + 1 + 1 := Nat.lt_succ_of_lt (Nat.lt_succ_of_lt fs_l)
    have fs_0 : w6.cell? ⟨w2.heap.size + 1, 0, none⟩ = some (.int .i64 c) := (fs.cell 0).trans rfl
    have fs_1 : w6.cell? ⟨w2.heap.size + 1, 1, none⟩ = some (.int .i64 0) := (fs.cell 1).trans rfl
    have gs_l : w3.heap.size < w6.heap.size := gs.lt
    have gs_l2 : w3.heap.size < w6.heap.size + 1 + 1 := Nat.lt_succ_of_lt (Nat.lt_succ_of_lt gs_l)
    have gs_0 : w6.cell? ⟨w3.heap.size, 0, none⟩ = some (.int .i64 c) := (gs.cell 0).trans rfl
    have gs_1 : w6.cell? ⟨w3.heap.size, 1, none⟩ = some (.int .i64 0) := (gs.cell 1).trans rfl
    have ob_l : w4.heap.size < w6.heap.size := ob.lt
    have ob_l2 : w4.heap.size < w6.heap.size + 1 + 1 := Nat.lt_succ_of_lt (Nat.lt_succ_of_lt ob_l)
    have ob_0 : w6.cell? ⟨w4.heap.size, 0, none⟩ = some (.int .i64 0) := (ob.cell 0).trans rfl
    have ob_1 : w6.cell? ⟨w4.heap.size, 1, none⟩ = some (.slice none 0 0) := (ob.cell 1).trans rfl
    have ob_2 : w6.cell? ⟨w4.heap.size, 2, none⟩ = some (.slice none 0 0) := (ob.cell 2).trans rfl
    have hs_l : w4.heap.size + 1 < w6.heap.size := hs.lt
    have hs_l2 : w4.heap.size + 1 < w6.heap.size + 1 + 1 := Nat.lt_succ_of_lt (Nat.lt_succ_of_lt hs_l)
    have hs_0 : w6.cell? ⟨w4.heap.size + 1, 0, none⟩ = some (.int .i64 c) := (hs.cell 0).trans rfl
    have hs_1 : w6.cell? ⟨w4.heap.size + 1, 1, none⟩ = some (.int .i64 0) := (hs.cell 1).trans rfl
    have ys_l : w5.heap.size < w6.heap.size := ys.lt
    have ys_l2 : w5.heap.size < w6.heap.size + 1 + 1 := Nat.lt_succ_of_lt (Nat.lt_succ_of_lt ys_l)
    have ys_0 : w6.cell? ⟨w5.heap.size, 0, none⟩ = some (.slice A3 0 k3) := (ys.cell 0).trans rfl
    have ws_l : w5.heap.size + 1 < w6.heap.size := ws.lt
    have ws_l2 : w5.heap.size + 1 < w6.heap.size + 1 + 1 := Nat.lt_succ_of_lt (Nat.lt_succ_of_lt ws_l)
    have ws_0 : w6.cell? ⟨w5.heap.size + 1, 0, none⟩ = some (.int .i64 c) := (ws.cell 0).trans rfl
    have ws_1 : w6.cell? ⟨w5.heap.size + 1, 1, none⟩ = some (.int .i64 0) := (ws.cell 1).trans rfl
    clear hb6'
    go_wp2_with fail
    go_ret
    exact ⟨rfl, wB6⟩
  · have hsl := hs.len
    have H20 : Hid (∀ w1 : World, Below w.heap.size w w1 → Calls Try.prog 20 #[.slice A n k] w1 fun e w' => ∃ A1 k1, e = .returned (.tuple #[.agg #[.slice A1 s.length k1], .agg #[.int .i64 0, .int .i64 0]]) ∧ StV w' Free A1 s ∧ Below w1.heap.size w1 w') := Lib.hid fun w1 hb => (K20.out w1 hb).mono fun e w' h => by
      unfold RePost at h; rw [hr] at h; obtain ⟨A1, k1, h1, h2, h3⟩ := h; exact ⟨A1, k1, h1, h2.keep ((Keeps.refl _ _).into fun _ h => h.elim), h3⟩
    have H21 : Hid (∀ w1 : World, Below w.heap.size w w1 → Calls Try.prog 21 #[.slice A n k] w1 fun e w' => ∃ A1 k1, e = .returned (.tuple #[.slice A1 s.length k1, .agg #[.int .i64 0, .int .i64 0]]) ∧ SA w' Free A1 (ixV (ixL s s.length)) ∧ Below w1.heap.size w1 w') := Lib.hid fun w1 hb => (K21.out w1 hb).mono fun e w' h => by
      unfold IxPost at h; rw [hr] at h; obtain ⟨A1, k1, h1, h2, h3⟩ := h; rw [ixL_length] at h1; exact ⟨A1, k1, h1, h2.keep ((Keeps.refl _ _).into fun _ h => h.elim), h3⟩
    have H25 : Hid (∀ w1 : World, Below w.heap.size w w1 → Calls Try.prog 25 #[.slice A n k] w1 fun e w' => ∃ A1 k1, e = .returned (.tuple #[.agg #[.slice A1 s.length k1], .agg #[.int .i64 0, .int .i64 0]]) ∧ s.length ≤ k1 ∧ StV w' Free A1 s ∧ Below w1.heap.size w1 w') := Lib.hid fun w1 hb => (K25.out w1 hb).mono fun e w' h => by
      unfold RqPost at h; rw [hr] at h; obtain ⟨A1, k1, h1, h0, h2, h3⟩ := h; exact ⟨A1, k1, h1, h0, h2.keep ((Keeps.refl _ _).into fun _ h => h.elim), h3⟩
    have K23 : Hid (∀ w1 : World, Below w.heap.size w w1 → Calls Try.prog 23 #[.slice A n k, .int .i64 d] w1 fun e w' => Below w1.heap.size w1 w' ∧ ((Ob.fnd s d = false ∧ e = .returned (.tuple #[zObj, .agg #[.int .i64 6, .int .i64 (-1)]])) ∨ (Ob.fnd s d = true ∧ ∃ A1 k1 A2 k2, e = .returned (.tuple #[obV (Ob.it s (Ob.lb s d)).ob A1 k1 A2 k2, .agg #[.int .i64 0, .int .i64 0]]) ∧ ObA w' Free (Ob.it s (Ob.lb s d)).ob A1 k1 A2 k2))) := Lib.hid fun w1 hb => (K23.out w1 hb).mono fun e w' h => by
      obtain ⟨hb, ⟨c', hc', hr', h1⟩ | ⟨s', _, _, hr', h1⟩⟩ := h
      · rw [hr] at hr'; injection hr' with _ h2; injection h2 with _ h2; injection h2 with h2 _; exact absurd h2.symm hc'
      · rw [hr] at hr'; injection hr' with h2 _; subst h2
        refine ⟨hb, ?_⟩
        rcases h1 with h1 | ⟨h1, A1, k1, A2, k2, h2, h3⟩
        · exact .inl h1
        · exact .inr ⟨h1, A1, k1, A2, k2, h2, h3.mono_ (fun _ h => h.elim)⟩
    have H22 := Lib.hid (fun (w1 : World) A1 k1 A3 k3 (h1 : StV w1 Free A1 s) (h3 : StV w1 Free A3 s) => stores_any w1 A1 A3 k1 k3 s h1 h3 (by omega))
    have H26 := Lib.hid (fun (w1 : World) A3 k3 (h3 : StV w1 Free A3 s) (hk3 : s.length ≤ k3) => packIndex_any w1 A3 k3 s h3 hs hk3)
    have H27 := Lib.hid (fun (w1 : World) A3 k3 (h3 : StV w1 Free A3 s) => at_any w1 A3 k3 s d h3 (by omega))
    rw [Ob.at_sorted hs.sorted d] at H27
    clear K20 K21 K25 hr hp
    by_cases hf : Ob.fnd s d = true
    · have H23 : Hid (∀ w1 : World, Below w.heap.size w w1 → Calls Try.prog 23 #[.slice A n k, .int .i64 d] w1 fun e w' => ∃ A4 k4 A5 k5, e = .returned (.tuple #[obV (Ob.it s (Ob.lb s d)).ob A4 k4 A5 k5, .agg #[.int .i64 0, .int .i64 0]]) ∧ ObA w' Free (Ob.it s (Ob.lb s d)).ob A4 k4 A5 k5 ∧ Below w1.heap.size w1 w') := Lib.hid fun w1 hb => (K23.out w1 hb).mono fun e w' h => by
        obtain ⟨hb, h | ⟨_, A4, k4, A5, k5, h1, h2⟩⟩ := h
        · rw [hf] at h; exact absurd h.1 (by simp)
        · exact ⟨A4, k4, A5, k5, h1, h2, hb⟩
      rw [if_pos hf] at H27
      have hpl : Ob.lb s d < s.length := by
        have h := hf; unfold Ob.fnd at h; rw [Bool.and_eq_true] at h; simpa using h.1
      clear hf K23 hs
      generalize hpp : Ob.lb s d = p at *
      clear hpp
      obtain ⟨x, hxx⟩ : ∃ x, Ob.it s p = x := ⟨_, rfl⟩
      rw [hxx] at H23
      obtain ⟨xd, kk, ls, da⟩ := x
      simp only [obV] at H23
      have HXX := Lib.hid hxx
      clear hxx
      go_enter Try.func7, Try.ntmps7
      go_wp2_with fail
      go_at_call 14
      refine (example_any _).mono ?_
      rintro e w1 ⟨rfl, hb1'⟩
      have wB1 := hb0.trans (hb1'.mono hb0.size)
      clear hb1'
      go_wp2_with fail
      go_at_call 20
      refine (H20.out _ wB1).mono ?_
      rintro e w2 ⟨A1, k1, rfl, hst1, hb2'⟩
      have HST1 := Lib.hid hst1
      clear hst1
      have wB2 := wB1.trans (hb2'.mono wB1.size)
      clear hb2'
      have p1 : Below (w2).heap.size (w2) (w2) := Below.refl _ _
      have xs := Blk.new w2 24 #[.slice A1 s.length k1]
      have wB2a0 := wB2.alloc wB2.size (.cells #[.slice A1 s.length k1] 24)
      have p1B2a0 := p1.alloc p1.size (.cells #[.slice A1 s.length k1] 24)
      replace xs := xs.alloc (.cells #[.int .i64 0, .int .i64 0] 28)
      have fs : Blk ((w2.alloc (.cells #[.slice A1 s.length k1] 24)).alloc (.cells #[.int .i64 0, .int .i64 0] 28)) (w2.heap.size + 1) 28 #[.int .i64 0, .int .i64 0] := by simpa using Blk.new (w2.alloc (.cells #[.slice A1 s.length k1] 24)) 28 #[.int .i64 0, .int .i64 0]
      have wB2a1 := wB2a0.alloc wB2a0.size (.cells #[.int .i64 0, .int .i64 0] 28)
      have p1B2a1 := p1B2a0.alloc p1B2a0.size (.cells #[.int .i64 0, .int .i64 0] 28)
      go_wp2_with fail
      go_at_call 21
      refine (H21.out _ wB2a1).mono ?_
      rintro e w3 ⟨A2, k2, rfl, hsi, hb3'⟩
      have HSI1 := Lib.hid hsi
      clear hsi
      have wB3 := wB2a1.trans (hb3'.mono wB2a1.size)
      have p1B3 := p1B2a1.trans (hb3'.mono p1B2a1.size)
      replace xs := xs.below hb3' xs.lt
      replace fs := fs.below hb3' fs.lt
      have xs_l : w2.heap.size < w3.heap.size := xs.lt
      have xs_l2 : w2.heap.size < w3.heap.size + 1 + 1 := Nat.lt_succ_of_lt (Nat.lt_succ_of_lt xs_l)
      have xs_0 : w3.cell? ⟨w2.heap.size, 0, none⟩ = some (.slice A1 s.length k1) := (xs.cell 0).trans rfl
      have fs_l : w2.heap.size + 1 < w3.heap.size := fs.lt
      have fs_l2 : w2.heap.size + 1 < w3.heap.size + 1 + 1 := Nat.lt_succ_of_lt (Nat.lt_succ_of_lt fs_l)
      have fs_0 : w3.cell? ⟨w2.heap.size + 1, 0, none⟩ = some (.int .i64 0) := (fs.cell 0).trans rfl
      have fs_1 : w3.cell? ⟨w2.heap.size + 1, 1, none⟩ = some (.int .i64 0) := (fs.cell 1).trans rfl
      clear hb3'
      have p2 : Below (w3).heap.size (w3) (w3) := Below.refl _ _
      replace xs := xs.alloc (.cells #[.int .i64 0, .int .i64 0] 28)
      replace fs := fs.alloc (.cells #[.int .i64 0, .int .i64 0] 28)
      have gs := Blk.new w3 28 #[.int .i64 0, .int .i64 0]
      have wB3a0 := wB3.alloc wB3.size (.cells #[.int .i64 0, .int .i64 0] 28)
      have p1B3a0 := p1B3.alloc p1B3.size (.cells #[.int .i64 0, .int .i64 0] 28)
      have p2B3a0 := p2.alloc p2.size (.cells #[.int .i64 0, .int .i64 0] 28)
      go_wp2_with fail
      go_at_call 23
      refine (H23.out _ wB3a0).mono ?_
      rintro e w4 ⟨A4, k4, A5, k5, rfl, hob, hb4'⟩
      have HOB1 := Lib.hid hob
      clear hob
      have wB4 := wB3a0.trans (hb4'.mono wB3a0.size)
      have p1B4 := p1B3a0.trans (hb4'.mono p1B3a0.size)
      have p2B4 := p2B3a0.trans (hb4'.mono p2B3a0.size)
      replace xs := xs.below hb4' xs.lt
      replace fs := fs.below hb4' fs.lt
      replace gs := gs.below hb4' gs.lt
      clear fs_0 fs_1 fs_l fs_l2 xs_0 xs_l xs_l2
      have xs_l : w2.heap.size < w4.heap.size := xs.lt
      have xs_l2 : w2.heap.size < w4.heap.size + 1 + 1 := Nat.lt_succ_of_lt (Nat.lt_succ_of_lt xs_l)
      have xs_0 : w4.cell? ⟨w2.heap.size, 0, none⟩ = some (.slice A1 s.length k1) := (xs.cell 0).trans rfl
      have fs_l : w2.heap.size + 1 < w4.heap.size := fs.lt
      have fs_l2 : w2.heap.size + 1 < w4.heap.size + 1 + 1 := Nat.lt_succ_of_lt (Nat.lt_succ_of_lt fs_l)
      have fs_0 : w4.cell? ⟨w2.heap.size + 1, 0, none⟩ = some (.int .i64 0) := (fs.cell 0).trans rfl
      have fs_1 : w4.cell? ⟨w2.heap.size + 1, 1, none⟩ = some (.int .i64 0) := (fs.cell 1).trans rfl
      have gs_l : w3.heap.size < w4.heap.size := gs.lt
      have gs_l2 : w3.heap.size < w4.heap.size + 1 + 1 := Nat.lt_succ_of_lt (Nat.lt_succ_of_lt gs_l)
      have gs_0 : w4.cell? ⟨w3.heap.size, 0, none⟩ = some (.int .i64 0) := (gs.cell 0).trans rfl
      have gs_1 : w4.cell? ⟨w3.heap.size, 1, none⟩ = some (.int .i64 0) := (gs.cell 1).trans rfl
      clear hb4'
      have p3 : Below (w4).heap.size (w4) (w4) := Below.refl _ _
      replace xs := xs.alloc (.cells #[.int .i64 kk, .slice A4 ls.length k4, .slice A5 da.length k5] 44)
      replace fs := fs.alloc (.cells #[.int .i64 kk, .slice A4 ls.length k4, .slice A5 da.length k5] 44)
      replace gs := gs.alloc (.cells #[.int .i64 kk, .slice A4 ls.length k4, .slice A5 da.length k5] 44)
      have ob := Blk.new w4 44 #[.int .i64 kk, .slice A4 ls.length k4, .slice A5 da.length k5]
      have wB4a0 := wB4.alloc wB4.size (.cells #[.int .i64 kk, .slice A4 ls.length k4, .slice A5 da.length k5] 44)
      have p1B4a0 := p1B4.alloc p1B4.size (.cells #[.int .i64 kk, .slice A4 ls.length k4, .slice A5 da.length k5] 44)
      have p2B4a0 := p2B4.alloc p2B4.size (.cells #[.int .i64 kk, .slice A4 ls.length k4, .slice A5 da.length k5] 44)
      have p3B4a0 := p3.alloc p3.size (.cells #[.int .i64 kk, .slice A4 ls.length k4, .slice A5 da.length k5] 44)
      replace xs := xs.alloc (.cells #[.int .i64 0, .int .i64 0] 28)
      replace fs := fs.alloc (.cells #[.int .i64 0, .int .i64 0] 28)
      replace gs := gs.alloc (.cells #[.int .i64 0, .int .i64 0] 28)
      replace ob := ob.alloc (.cells #[.int .i64 0, .int .i64 0] 28)
      have hs : Blk ((w4.alloc (.cells #[.int .i64 kk, .slice A4 ls.length k4, .slice A5 da.length k5] 44)).alloc (.cells #[.int .i64 0, .int .i64 0] 28)) (w4.heap.size + 1) 28 #[.int .i64 0, .int .i64 0] := by simpa using Blk.new (w4.alloc (.cells #[.int .i64 kk, .slice A4 ls.length k4, .slice A5 da.length k5] 44)) 28 #[.int .i64 0, .int .i64 0]
      have wB4a1 := wB4a0.alloc wB4a0.size (.cells #[.int .i64 0, .int .i64 0] 28)
      have p1B4a1 := p1B4a0.alloc p1B4a0.size (.cells #[.int .i64 0, .int .i64 0] 28)
      have p2B4a1 := p2B4a0.alloc p2B4a0.size (.cells #[.int .i64 0, .int .i64 0] 28)
      have p3B4a1 := p3B4a0.alloc p3B4a0.size (.cells #[.int .i64 0, .int .i64 0] 28)
      go_wp2_with fail
      go_at_call 25
      refine (H25.out _ wB4a1).mono ?_
      rintro e w5 ⟨A3, k3, rfl, hk3, hst3, hb5'⟩
      have HST3 := Lib.hid hst3
      clear hst3
      have wB5 := wB4a1.trans (hb5'.mono wB4a1.size)
      have p1B5 := p1B4a1.trans (hb5'.mono p1B4a1.size)
      have p2B5 := p2B4a1.trans (hb5'.mono p2B4a1.size)
      have p3B5 := p3B4a1.trans (hb5'.mono p3B4a1.size)
      replace xs := xs.below hb5' xs.lt
      replace fs := fs.below hb5' fs.lt
      replace gs := gs.below hb5' gs.lt
      replace ob := ob.below hb5' ob.lt
      replace hs := hs.below hb5' hs.lt
      clear fs_0 fs_1 fs_l fs_l2 gs_0 gs_1 gs_l gs_l2 xs_0 xs_l xs_l2
      have xs_l : w2.heap.size < w5.heap.size := xs.lt
      have xs_l2 : w2.heap.size < w5.heap.size + 1 + 1 := Nat.lt_succ_of_lt (Nat.lt_succ_of_lt xs_l)
      have xs_0 : w5.cell? ⟨w2.heap.size, 0, none⟩ = some (.slice A1 s.length k1) := (xs.cell 0).trans rfl
      have fs_l : w2.heap.size + 1 < w5.heap.size := fs.lt
      have fs_l2 : w2.heap.size + 1 < w5.heap.size + 1 + 1 := Nat.lt_succ_of_lt (Nat.lt_succ_of_lt fs_l)
      have fs_0 : w5.cell? ⟨w2.heap.size + 1, 0, none⟩ = some (.int .i64 0) := (fs.cell 0).trans rfl
      have fs_1 : w5.cell? ⟨w2.heap.size + 1, 1, none⟩ = some (.int .i64 0) := (fs.cell 1).trans rfl
      have gs_l : w3.heap.size < w5.heap.size := gs.lt
      have gs_l2 : w3.heap.size < w5.heap.size + 1 + 1 := Nat.lt_succ_of_lt (Nat.lt_succ_of_lt gs_l)
      have gs_0 : w5.cell? ⟨w3.heap.size, 0, none⟩ = some (.int .i64 0) := (gs.cell 0).trans rfl
      have gs_1 : w5.cell? ⟨w3.heap.size, 1, none⟩ = some (.int .i64 0) := (gs.cell 1).trans rfl
      have ob_l : w4.heap.size < w5.heap.size := ob.lt
      have ob_l2 : w4.heap.size < w5.heap.size + 1 + 1 := Nat.lt_succ_of_lt (Nat.lt_succ_of_lt ob_l)
      have ob_0 : w5.cell? ⟨w4.heap.size, 0, none⟩ = some (.int .i64 kk) := (ob.cell 0).trans rfl
      have ob_1 : w5.cell? ⟨w4.heap.size, 1, none⟩ = some (.slice A4 ls.length k4) := (ob.cell 1).trans rfl
      have ob_2 : w5.cell? ⟨w4.heap.size, 2, none⟩ = some (.slice A5 da.length k5) := (ob.cell 2).trans rfl
      have hs_l : w4.heap.size + 1 < w5.heap.size := hs.lt
      have hs_l2 : w4.heap.size + 1 < w5.heap.size + 1 + 1 := Nat.lt_succ_of_lt (Nat.lt_succ_of_lt hs_l)
      have hs_0 : w5.cell? ⟨w4.heap.size + 1, 0, none⟩ = some (.int .i64 0) := (hs.cell 0).trans rfl
      have hs_1 : w5.cell? ⟨w4.heap.size + 1, 1, none⟩ = some (.int .i64 0) := (hs.cell 1).trans rfl
      clear hb5'
      have p4 : Below (w5).heap.size (w5) (w5) := Below.refl _ _
      replace xs := xs.alloc (.cells #[.slice A3 s.length k3] 24)
      replace fs := fs.alloc (.cells #[.slice A3 s.length k3] 24)
      replace gs := gs.alloc (.cells #[.slice A3 s.length k3] 24)
      replace ob := ob.alloc (.cells #[.slice A3 s.length k3] 24)
      replace hs := hs.alloc (.cells #[.slice A3 s.length k3] 24)
      have ys := Blk.new w5 24 #[.slice A3 s.length k3]
      have wB5a0 := wB5.alloc wB5.size (.cells #[.slice A3 s.length k3] 24)
      have p1B5a0 := p1B5.alloc p1B5.size (.cells #[.slice A3 s.length k3] 24)
      have p2B5a0 := p2B5.alloc p2B5.size (.cells #[.slice A3 s.length k3] 24)
      have p3B5a0 := p3B5.alloc p3B5.size (.cells #[.slice A3 s.length k3] 24)
      have p4B5a0 := p4.alloc p4.size (.cells #[.slice A3 s.length k3] 24)
      replace xs := xs.alloc (.cells #[.int .i64 0, .int .i64 0] 28)
      replace fs := fs.alloc (.cells #[.int .i64 0, .int .i64 0] 28)
      replace gs := gs.alloc (.cells #[.int .i64 0, .int .i64 0] 28)
      replace ob := ob.alloc (.cells #[.int .i64 0, .int .i64 0] 28)
      replace hs := hs.alloc (.cells #[.int .i64 0, .int .i64 0] 28)
      replace ys := ys.alloc (.cells #[.int .i64 0, .int .i64 0] 28)
      have ws : Blk ((w5.alloc (.cells #[.slice A3 s.length k3] 24)).alloc (.cells #[.int .i64 0, .int .i64 0] 28)) (w5.heap.size + 1) 28 #[.int .i64 0, .int .i64 0] := by simpa using Blk.new (w5.alloc (.cells #[.slice A3 s.length k3] 24)) 28 #[.int .i64 0, .int .i64 0]
      have wB5a1 := wB5a0.alloc wB5a0.size (.cells #[.int .i64 0, .int .i64 0] 28)
      have p1B5a1 := p1B5a0.alloc p1B5a0.size (.cells #[.int .i64 0, .int .i64 0] 28)
      have p2B5a1 := p2B5a0.alloc p2B5a0.size (.cells #[.int .i64 0, .int .i64 0] 28)
      have p3B5a1 := p3B5a0.alloc p3B5a0.size (.cells #[.int .i64 0, .int .i64 0] 28)
      have p4B5a1 := p4B5a0.alloc p4B5a0.size (.cells #[.int .i64 0, .int .i64 0] 28)
      go_wp2_with fail
      go_at_call 26
      refine (H26.out _ A3 k3 (HST3.out.keep (free_below p4B5a1)) hk3).mono ?_
      rintro e w26 ⟨A6, k6, rfl, hsj, hb26⟩
      have HSJ1 := Lib.hid (hsj.keep ((Keeps.refl _ _).into (X'' := Free) fun _ h => h.elim))
      clear hsj
      have wB6 := wB5a1.trans (hb26.mono wB5a1.size)
      have p1B6 := p1B5a1.trans (hb26.mono p1B5a1.size)
      have p2B6 := p2B5a1.trans (hb26.mono p2B5a1.size)
      have p3B6 := p3B5a1.trans (hb26.mono p3B5a1.size)
      have p4B6 := p4B5a1.trans (hb26.mono p4B5a1.size)
      replace xs := xs.below hb26 xs.lt
      replace fs := fs.below hb26 fs.lt
      replace gs := gs.below hb26 gs.lt
      replace ob := ob.below hb26 ob.lt
      replace hs := hs.below hb26 hs.lt
      replace ys := ys.below hb26 ys.lt
      replace ws := ws.below hb26 ws.lt
      clear fs_0 fs_1 fs_l fs_l2 gs_0 gs_1 gs_l gs_l2 hs_0 hs_1 hs_l hs_l2 ob_0 ob_1 ob_2 ob_l ob_l2 xs_0 xs_l xs_l2
      have xs_l : w2.heap.size < w26.heap.size := xs.lt
      have xs_l2 : w2.heap.size < w26.heap.size + 1 + 1 := Nat.lt_succ_of_lt (Nat.lt_succ_of_lt xs_l)
      have xs_0 : w26.cell? ⟨w2.heap.size, 0, none⟩ = some (.slice A1 s.length k1) := (xs.cell 0).trans rfl
      have fs_l : w2.heap.size + 1 < w26.heap.size := fs.lt
      have fs_l2 : w2.heap.size + 1 < w26.heap.size + 1 + 1 := Nat.lt_succ_of_lt (Nat.lt_succ_of_lt fs_l)
      have fs_0 : w26.cell? ⟨w2.heap.size + 1, 0, none⟩ = some (.int .i64 0) := (fs.cell 0).trans rfl
      have fs_1 : w26.cell? ⟨w2.heap.size + 1, 1, none⟩ = some (.int .i64 0) := (fs.cell 1).trans rfl
      have gs_l : w3.heap.size < w26.heap.size := gs.lt
      have gs_l2 : w3.heap.size < w26.heap.size + 1 + 1 := Nat.lt_succ_of_lt (Nat.lt_succ_of_lt gs_l)
      have gs_0 : w26.cell? ⟨w3.heap.size, 0, none⟩ = some (.int .i64 0) := (gs.cell 0).trans rfl
      have gs_1 : w26.cell? ⟨w3.heap.size, 1, none⟩ = some (.int .i64 0) := (gs.cell 1).trans rfl
      have ob_l : w4.heap.size < w26.heap.size := ob.lt
      have ob_l2 : w4.heap.size < w26.heap.size + 1 + 1 := Nat.lt_succ_of_lt (Nat.lt_succ_of_lt ob_l)
      have ob_0 : w26.cell? ⟨w4.heap.size, 0, none⟩ = some (.int .i64 kk) := (ob.cell 0).trans rfl
      have ob_1 : w26.cell? ⟨w4.heap.size, 1, none⟩ = some (.slice A4 ls.length k4) := (ob.cell 1).trans rfl
      have ob_2 : w26.cell? ⟨w4.heap.size, 2, none⟩ = some (.slice A5 da.length k5) := (ob.cell 2).trans rfl
      have hs_l : w4.heap.size + 1 < w26.heap.size := hs.lt
      have hs_l2 : w4.heap.size + 1 < w26.heap.size + 1 + 1 := Nat.lt_succ_of_lt (Nat.lt_succ_of_lt hs_l)
      have hs_0 : w26.cell? ⟨w4.heap.size + 1, 0, none⟩ = some (.int .i64 0) := (hs.cell 0).trans rfl
      have hs_1 : w26.cell? ⟨w4.heap.size + 1, 1, none⟩ = some (.int .i64 0) := (hs.cell 1).trans rfl
      have ys_l : w5.heap.size < w26.heap.size := ys.lt
      have ys_l2 : w5.heap.size < w26.heap.size + 1 + 1 := Nat.lt_succ_of_lt (Nat.lt_succ_of_lt ys_l)
      have ys_0 : w26.cell? ⟨w5.heap.size, 0, none⟩ = some (.slice A3 s.length k3) := (ys.cell 0).trans rfl
      have ws_l : w5.heap.size + 1 < w26.heap.size := ws.lt
      have ws_l2 : w5.heap.size + 1 < w26.heap.size + 1 + 1 := Nat.lt_succ_of_lt (Nat.lt_succ_of_lt ws_l)
      have ws_0 : w26.cell? ⟨w5.heap.size + 1, 0, none⟩ = some (.int .i64 0) := (ws.cell 0).trans rfl
      have ws_1 : w26.cell? ⟨w5.heap.size + 1, 1, none⟩ = some (.int .i64 0) := (ws.cell 1).trans rfl
      clear hb26
      have p5 : Below (w26).heap.size (w26) (w26) := Below.refl _ _
      go_wp2_with fail
      go_at_call 22
      refine (H22.out _ A1 k1 A3 k3 (HST1.out.keep (free_below p1B6)) (HST3.out.keep (free_below p4B6))).mono ?_
      rintro e w7 ⟨rfl, hb7'⟩
      have wB7 := wB6.trans (hb7'.mono wB6.size)
      have p1B7 := p1B6.trans (hb7'.mono p1B6.size)
      have p2B7 := p2B6.trans (hb7'.mono p2B6.size)
      have p3B7 := p3B6.trans (hb7'.mono p3B6.size)
      have p4B7 := p4B6.trans (hb7'.mono p4B6.size)
      have p5B7 := p5.trans (hb7'.mono p5.size)
      replace xs := xs.below hb7' xs.lt
      replace fs := fs.below hb7' fs.lt
      replace gs := gs.below hb7' gs.lt
      replace ob := ob.below hb7' ob.lt
      replace hs := hs.below hb7' hs.lt
      replace ys := ys.below hb7' ys.lt
      replace ws := ws.below hb7' ws.lt
      clear fs_0 fs_1 fs_l fs_l2 gs_0 gs_1 gs_l gs_l2 hs_0 hs_1 hs_l hs_l2 ob_0 ob_1 ob_2 ob_l ob_l2 ws_0 ws_1 ws_l ws_l2 xs_0 xs_l xs_l2 ys_0 ys_l ys_l2
      have xs_l : w2.heap.size < w7.heap.size := xs.lt
      have xs_l2 : w2.heap.size < w7.heap.size + 1 + 1 := Nat.lt_succ_of_lt (Nat.lt_succ_of_lt xs_l)
      have xs_0 : w7.cell? ⟨w2.heap.size, 0, none⟩ = some (.slice A1 s.length k1) := (xs.cell 0).trans rfl
      have fs_l : w2.heap.size + 1 < w7.heap.size := fs.lt
      have fs_l2 : w2.heap.size + 1 < w7.heap.size + 1 + 1 := Nat.lt_succ_of_lt (Nat.lt_succ_of_lt fs_l)
      have fs_0 : w7.cell? ⟨w2.heap.size + 1, 0, none⟩ = some (.int .i64 0) := (fs.cell 0).trans rfl
      have fs_1 : w7.cell? ⟨w2.heap.size + 1, 1, none⟩ = some (.int .i64 0) := (fs.cell 1).trans rfl
      have gs_l : w3.heap.size < w7.heap.size := gs.lt
      have gs_l2 : w3.heap.size < w7.heap.size + 1 + 1 := Nat.lt_succ_of_lt (Nat.lt_succ_of_lt gs_l)
      have gs_0 : w7.cell? ⟨w3.heap.size, 0, none⟩ = some (.int .i64 0) := (gs.cell 0).trans rfl
      have gs_1 : w7.cell? ⟨w3.heap.size, 1, none⟩ = some (.int .i64 0) := (gs.cell 1).trans rfl
      have ob_l : w4.heap.size < w7.heap.size := ob.lt
      have ob_l2 : w4.heap.size < w7.heap.size + 1 + 1 := Nat.lt_succ_of_lt (Nat.lt_succ_of_lt ob_l)
      have ob_0 : w7.cell? ⟨w4.heap.size, 0, none⟩ = some (.int .i64 kk) := (ob.cell 0).trans rfl
      have ob_1 : w7.cell? ⟨w4.heap.size, 1, none⟩ = some (.slice A4 ls.length k4) := (ob.cell 1).trans rfl
      have ob_2 : w7.cell? ⟨w4.heap.size, 2, none⟩ = some (.slice A5 da.length k5) := (ob.cell 2).trans rfl
      have hs_l : w4.heap.size + 1 < w7.heap.size := hs.lt
      have hs_l2 : w4.heap.size + 1 < w7.heap.size + 1 + 1 := Nat.lt_succ_of_lt (Nat.lt_succ_of_lt hs_l)
      have hs_0 : w7.cell? ⟨w4.heap.size + 1, 0, none⟩ = some (.int .i64 0) := (hs.cell 0).trans rfl
      have hs_1 : w7.cell? ⟨w4.heap.size + 1, 1, none⟩ = some (.int .i64 0) := (hs.cell 1).trans rfl
      have ys_l : w5.heap.size < w7.heap.size := ys.lt
      have ys_l2 : w5.heap.size < w7.heap.size + 1 + 1 := Nat.lt_succ_of_lt (Nat.lt_succ_of_lt ys_l)
      have ys_0 : w7.cell? ⟨w5.heap.size, 0, none⟩ = some (.slice A3 s.length k3) := (ys.cell 0).trans rfl
      have ws_l : w5.heap.size + 1 < w7.heap.size := ws.lt
      have ws_l2 : w5.heap.size + 1 < w7.heap.size + 1 + 1 := Nat.lt_succ_of_lt (Nat.lt_succ_of_lt ws_l)
      have ws_0 : w7.cell? ⟨w5.heap.size + 1, 0, none⟩ = some (.int .i64 0) := (ws.cell 0).trans rfl
      have ws_1 : w7.cell? ⟨w5.heap.size + 1, 1, none⟩ = some (.int .i64 0) := (ws.cell 1).trans rfl
      clear hb7'
      have HBW := Lib.hid wB7
      have HI1 := Lib.hid (HSI1.out.keep (free_below p2B7))
      have HI2 := Lib.hid (HSJ1.out.keep (free_below p5B7))
      have HST3b := Lib.hid (HST3.out.keep (free_below p4B7))
      have HOBb := Lib.hid (HOB1.out.keep (free_below p3B7))
      have XSB := Lib.hid xs
      have FSB := Lib.hid fs
      have GSB := Lib.hid gs
      have OBB := Lib.hid ob
      have HSB := Lib.hid hs
      have YSB := Lib.hid ys
      have WSB := Lib.hid ws
      clear fs_0 fs_1 fs_l fs_l2 gs_0 gs_1 gs_l gs_l2 hs_0 hs_1 hs_l hs_l2 ob_0 ob_1 ob_2 ob_l ob_l2 ws_0 ws_1 ws_l ws_l2 xs_0 xs_l xs_l2 ys_0 ys_l ys_l2 xs fs gs ob hs ys ws H20 H21 H22 H23 H25 H26 HST1 HSI1 HSJ1 HST3 HOB1
      go_wp2_with fail
      go_loopw [14] (fun iv wr => ∃ i : Nat, i ≤ s.length ∧ iv = .int .i64 i ∧ Below w7.heap.size w7 wr) (fun iv _ => s.length - (intOf iv).toNat)
      case atStart => exact ⟨0, Nat.zero_le _, rfl, Below.refl _ _⟩
      case round =>
        obtain ⟨i, hi, rfl, hbr⟩ := hrel
        obtain ⟨wo, rfl⟩ : ∃ wo : World, wo = wr := ⟨_, rfl⟩
        by_cases hlt : i < s.length
        · have hlt' : (i : Int) < s.length := by omega
          obtain ⟨bi, oi, e, hbi, i0, i1, i2⟩ := ixL_row (HI1.out.keep (free_below hbr)) i hlt
          subst e
          obtain ⟨bj, oj, e, hbj, j0, j1, j2⟩ := ixL_row (HI2.out.keep (free_below hbr)) i hlt
          subst e
          generalize ((Ob.dig (Ob.it s i).ob : Nat) : Int) = g0 at *
          generalize ((3 + (ents s i).length : Nat) : Int) = g1 at *
          generalize (((Ob.ent (Ob.it s i).ob).length : Nat) : Int) = g2 at *
          have hp0 : (0 : Int) ≤ i := by omega
          go_wp2_with fail
          go_quiet (fail)
          go_wp2_with fail
          go_roundw
          case rel => exact ⟨i + 1, by omega, by go_num, below_drewN hbr _⟩
          case measure => simp [intOf]; omega
        · have hge : ¬ (i : Int) < s.length := by omega
          have B0 := HBW.out.trans (hbr.mono HBW.out.size)
          have r0 : Below wo.heap.size wo wo := Below.refl _ _
          have xs := XSB.out.below hbr XSB.out.lt
          have fs := FSB.out.below hbr FSB.out.lt
          have gs := GSB.out.below hbr GSB.out.lt
          have ob := OBB.out.below hbr OBB.out.lt
          have hs := HSB.out.below hbr HSB.out.lt
          have ys := YSB.out.below hbr YSB.out.lt
          have ws := WSB.out.below hbr WSB.out.lt
          clear XSB FSB GSB OBB HSB YSB WSB HI1 HI2 HBW
          have xs_l : w2.heap.size < wo.heap.size := xs.lt
          have xs_l2 : w2.heap.size < wo.heap.size + 1 + 1 := Nat.lt_succ_of_lt (Nat.lt_succ_of_lt xs_l)
          have xs_0 : wo.cell? ⟨w2.heap.size, 0, none⟩ = some (.slice A1 s.length k1) := (xs.cell 0).trans rfl
          have fs_l : w2.heap.size + 1 < wo.heap.size := fs.lt
          have fs_l2 : w2.heap.size + 1 < wo.heap.size + 1 + 1 := Nat.lt_succ_of_lt (Nat.lt_succ_of_lt fs_l)
          have fs_0 : wo.cell? ⟨w2.heap.size + 1, 0, none⟩ = some (.int .i64 0) := (fs.cell 0).trans rfl
          have fs_1 : wo.cell? ⟨w2.heap.size + 1, 1, none⟩ = some (.int .i64 0) := (fs.cell 1).trans rfl
          have gs_l : w3.heap.size < wo.heap.size := gs.lt
          have gs_l2 : w3.heap.size < wo.heap.size + 1 + 1 := Nat.lt_succ_of_lt (Nat.lt_succ_of_lt gs_l)
          have gs_0 : wo.cell? ⟨w3.heap.size, 0, none⟩ = some (.int .i64 0) := (gs.cell 0).trans rfl
          have gs_1 : wo.cell? ⟨w3.heap.size, 1, none⟩ = some (.int .i64 0) := (gs.cell 1).trans rfl
          have ob_l : w4.heap.size < wo.heap.size := ob.lt
          have ob_l2 : w4.heap.size < wo.heap.size + 1 + 1 := Nat.lt_succ_of_lt (Nat.lt_succ_of_lt ob_l)
          have ob_0 : wo.cell? ⟨w4.heap.size, 0, none⟩ = some (.int .i64 kk) := (ob.cell 0).trans rfl
          have ob_1 : wo.cell? ⟨w4.heap.size, 1, none⟩ = some (.slice A4 ls.length k4) := (ob.cell 1).trans rfl
          have ob_2 : wo.cell? ⟨w4.heap.size, 2, none⟩ = some (.slice A5 da.length k5) := (ob.cell 2).trans rfl
          have hs_l : w4.heap.size + 1 < wo.heap.size := hs.lt
          have hs_l2 : w4.heap.size + 1 < wo.heap.size + 1 + 1 := Nat.lt_succ_of_lt (Nat.lt_succ_of_lt hs_l)
          have hs_0 : wo.cell? ⟨w4.heap.size + 1, 0, none⟩ = some (.int .i64 0) := (hs.cell 0).trans rfl
          have hs_1 : wo.cell? ⟨w4.heap.size + 1, 1, none⟩ = some (.int .i64 0) := (hs.cell 1).trans rfl
          have ys_l : w5.heap.size < wo.heap.size := ys.lt
          have ys_l2 : w5.heap.size < wo.heap.size + 1 + 1 := Nat.lt_succ_of_lt (Nat.lt_succ_of_lt ys_l)
          have ys_0 : wo.cell? ⟨w5.heap.size, 0, none⟩ = some (.slice A3 s.length k3) := (ys.cell 0).trans rfl
          have ws_l : w5.heap.size + 1 < wo.heap.size := ws.lt
          have ws_l2 : w5.heap.size + 1 < wo.heap.size + 1 + 1 := Nat.lt_succ_of_lt (Nat.lt_succ_of_lt ws_l)
          have ws_0 : wo.cell? ⟨w5.heap.size + 1, 0, none⟩ = some (.int .i64 0) := (ws.cell 0).trans rfl
          have ws_1 : wo.cell? ⟨w5.heap.size + 1, 1, none⟩ = some (.int .i64 0) := (ws.cell 1).trans rfl
          go_wp2_with fail
          go_at_call 27
          refine (H27.out _ A3 k3 (HST3b.out.keep (free_below hbr))).mono ?_
          rintro e w31 ⟨rfl, hb31'⟩
          have wB31 := B0.trans (hb31'.mono B0.size)
          have qB31 := hbr.trans (hb31'.mono hbr.size)
          have rB31 := r0.trans (hb31'.mono r0.size)
          replace xs := xs.below hb31' xs.lt
          replace fs := fs.below hb31' fs.lt
          replace gs := gs.below hb31' gs.lt
          replace ob := ob.below hb31' ob.lt
          replace hs := hs.below hb31' hs.lt
          replace ys := ys.below hb31' ys.lt
          replace ws := ws.below hb31' ws.lt
          clear fs_0 fs_1 fs_l fs_l2 gs_0 gs_1 gs_l gs_l2 hs_0 hs_1 hs_l hs_l2 ob_0 ob_1 ob_2 ob_l ob_l2 ws_0 ws_1 ws_l ws_l2 xs_0 xs_l xs_l2 ys_0 ys_l ys_l2
          have xs_l : w2.heap.size < w31.heap.size := xs.lt
          have xs_l2 : w2.heap.size < w31.heap.size + 1 + 1 := Nat.lt_succ_of_lt (Nat.lt_succ_of_lt xs_l)
          have xs_0 : w31.cell? ⟨w2.heap.size, 0, none⟩ = some (.slice A1 s.length k1) := (xs.cell 0).trans rfl
          have fs_l : w2.heap.size + 1 < w31.heap.size := fs.lt
          have fs_l2 : w2.heap.size + 1 < w31.heap.size + 1 + 1 := Nat.lt_succ_of_lt (Nat.lt_succ_of_lt fs_l)
          have fs_0 : w31.cell? ⟨w2.heap.size + 1, 0, none⟩ = some (.int .i64 0) := (fs.cell 0).trans rfl
          have fs_1 : w31.cell? ⟨w2.heap.size + 1, 1, none⟩ = some (.int .i64 0) := (fs.cell 1).trans rfl
          have gs_l : w3.heap.size < w31.heap.size := gs.lt
          have gs_l2 : w3.heap.size < w31.heap.size + 1 + 1 := Nat.lt_succ_of_lt (Nat.lt_succ_of_lt gs_l)
          have gs_0 : w31.cell? ⟨w3.heap.size, 0, none⟩ = some (.int .i64 0) := (gs.cell 0).trans rfl
          have gs_1 : w31.cell? ⟨w3.heap.size, 1, none⟩ = some (.int .i64 0) := (gs.cell 1).trans rfl
          have ob_l : w4.heap.size < w31.heap.size := ob.lt
          have ob_l2 : w4.heap.size < w31.heap.size + 1 + 1 := Nat.lt_succ_of_lt (Nat.lt_succ_of_lt ob_l)
          have ob_0 : w31.cell? ⟨w4.heap.size, 0, none⟩ = some (.int .i64 kk) := (ob.cell 0).trans rfl
          have ob_1 : w31.cell? ⟨w4.heap.size, 1, none⟩ = some (.slice A4 ls.length k4) := (ob.cell 1).trans rfl
          have ob_2 : w31.cell? ⟨w4.heap.size, 2, none⟩ = some (.slice A5 da.length k5) := (ob.cell 2).trans rfl
          have hs_l : w4.heap.size + 1 < w31.heap.size := hs.lt
          have hs_l2 : w4.heap.size + 1 < w31.heap.size + 1 + 1 := Nat.lt_succ_of_lt (Nat.lt_succ_of_lt hs_l)
          have hs_0 : w31.cell? ⟨w4.heap.size + 1, 0, none⟩ = some (.int .i64 0) := (hs.cell 0).trans rfl
          have hs_1 : w31.cell? ⟨w4.heap.size + 1, 1, none⟩ = some (.int .i64 0) := (hs.cell 1).trans rfl
          have ys_l : w5.heap.size < w31.heap.size := ys.lt
          have ys_l2 : w5.heap.size < w31.heap.size + 1 + 1 := Nat.lt_succ_of_lt (Nat.lt_succ_of_lt ys_l)
          have ys_0 : w31.cell? ⟨w5.heap.size, 0, none⟩ = some (.slice A3 s.length k3) := (ys.cell 0).trans rfl
          have ws_l : w5.heap.size + 1 < w31.heap.size := ws.lt
          have ws_l2 : w5.heap.size + 1 < w31.heap.size + 1 + 1 := Nat.lt_succ_of_lt (Nat.lt_succ_of_lt ws_l)
          have ws_0 : w31.cell? ⟨w5.heap.size + 1, 0, none⟩ = some (.int .i64 0) := (ws.cell 0).trans rfl
          have ws_1 : w31.cell? ⟨w5.heap.size + 1, 1, none⟩ = some (.int .i64 0) := (ws.cell 1).trans rfl
          clear hb31'
          obtain ⟨bb, off, Al, kl, Ad, kd, eA, hb, _, d0, d1, d2, d3, _, hob⟩ := (HST3b.out.keep (free_below qB31)).row p hpl
          subst eA
          rw [HXX.out] at d1 d2 d3 hob
          simp only at d1 d2 d3 hob
          have HQ := Lib.hid (fun (w1 : World) (hb : Below w31.heap.size w31 w1) => show Calls Try.prog 24 #[obV ⟨kk, ls, da⟩ A4 k4 A5 k5, obV ⟨kk, ls, da⟩ Al kl Ad kd] w1 (fun e w' => e = .returned (.bool true) ∧ Below w1.heap.size w1 w') from by
            have h := objects_any w1 ⟨kk, ls, da⟩ ⟨kk, ls, da⟩ A4 k4 A5 k5 Al kl Ad kd (HOBb.out.keep ((free_below (qB31)).trans (free_below hb))) (hob.keep (free_below hb))
            rw [(eqO_iff _ _).2 rfl] at h
            exact h)
          clear hob HST3b HOBb
          have hpi : (p : Int) < s.length := by omega
          have hp0 : (0 : Int) ≤ p := by omega
          have hkr32_0 : Below w31.heap.size w31 w31.drew := below_drew' (Below.refl _ _)
          have HKr32 : Hid (∀ w6 : World, Below w31.heap.size w31 w6 → w6.cell? ⟨w5.heap.size, 0, none⟩ = some (.slice (some ⟨bb, off, none⟩) s.length k3) ∧ w6.cell? ⟨w4.heap.size, 0, none⟩ = some (.int .i64 kk) ∧ w6.cell? ⟨w4.heap.size, 1, none⟩ = some (.slice A4 ls.length k4) ∧ w6.cell? ⟨w4.heap.size, 2, none⟩ = some (.slice A5 da.length k5) ∧ w6.cell? ⟨w4.heap.size + 1, 0, none⟩ = some (.int .i64 0) ∧ w6.cell? ⟨w4.heap.size + 1, 1, none⟩ = some (.int .i64 0) ∧ w6.cell? ⟨bb, off + p * 4 + 1, none⟩ = some (.int .i64 kk) ∧ w6.cell? ⟨bb, off + p * 4 + 1 + 1, none⟩ = some (.slice Al ls.length kl) ∧ w6.cell? ⟨bb, off + p * 4 + 1 + 2, none⟩ = some (.slice Ad da.length kd)) := Lib.hid fun w6 h6 => ⟨(h6.cell (p := ⟨_, _, none⟩) ys_l).trans ys_0, (h6.cell (p := ⟨_, _, none⟩) ob_l).trans ob_0, (h6.cell (p := ⟨_, _, none⟩) ob_l).trans ob_1, (h6.cell (p := ⟨_, _, none⟩) ob_l).trans ob_2, (h6.cell (p := ⟨_, _, none⟩) hs_l).trans hs_0, (h6.cell (p := ⟨_, _, none⟩) hs_l).trans hs_1, (h6.cell (p := ⟨_, _, none⟩) hb).trans d1, (h6.cell (p := ⟨_, _, none⟩) hb).trans d2, (h6.cell (p := ⟨_, _, none⟩) hb).trans d3⟩
          go_wp2_with fail
          go_region_held3 (fun w6 => w6.cell? ⟨w5.heap.size, 0, none⟩ = some (.slice (some ⟨bb, off, none⟩) s.length k3) ∧ w6.cell? ⟨w4.heap.size, 0, none⟩ = some (.int .i64 kk) ∧ w6.cell? ⟨w4.heap.size, 1, none⟩ = some (.slice A4 ls.length k4) ∧ w6.cell? ⟨w4.heap.size, 2, none⟩ = some (.slice A5 da.length k5) ∧ w6.cell? ⟨w4.heap.size + 1, 0, none⟩ = some (.int .i64 0) ∧ w6.cell? ⟨w4.heap.size + 1, 1, none⟩ = some (.int .i64 0) ∧ w6.cell? ⟨bb, off + p * 4 + 1, none⟩ = some (.int .i64 kk) ∧ w6.cell? ⟨bb, off + p * 4 + 1 + 1, none⟩ = some (.slice Al ls.length kl) ∧ w6.cell? ⟨bb, off + p * 4 + 1 + 2, none⟩ = some (.slice Ad da.length kd))
            (first | exact HKr32.out _ hkr32_0 | exact HKr32.out _ hkr32_1)
            (first | (go_at_call 24; (with_reducible refine (HQ.out _ hkr32_0).mono ?_); rintro e vr32_1 ⟨rfl, hvr32_1⟩; have hkr32_1 : Below w31.heap.size w31 vr32_1 := hkr32_0.trans (hvr32_1.mono hkr32_0.size)))
          have wB32 := wB31.trans (hkr32_1.mono wB31.size)
          have qB32 := qB31.trans (hkr32_1.mono qB31.size)
          have rB32 := rB31.trans (hkr32_1.mono rB31.size)
          replace xs := xs.below hkr32_1 xs.lt
          replace fs := fs.below hkr32_1 fs.lt
          replace gs := gs.below hkr32_1 gs.lt
          replace ob := ob.below hkr32_1 ob.lt
          replace hs := hs.below hkr32_1 hs.lt
          replace ys := ys.below hkr32_1 ys.lt
          replace ws := ws.below hkr32_1 ws.lt
          clear fs_0 fs_1 fs_l fs_l2 gs_0 gs_1 gs_l gs_l2 hs_0 hs_1 hs_l hs_l2 ob_0 ob_1 ob_2 ob_l ob_l2 ws_0 ws_1 ws_l ws_l2 xs_0 xs_l xs_l2 ys_0 ys_l ys_l2
          have xs_l : w2.heap.size < vr32_1.heap.size := xs.lt
          have xs_l2 : w2.heap.size < vr32_1.heap.size + 1 + 1 := Nat.lt_succ_of_lt (Nat.lt_succ_of_lt xs_l)
          have xs_0 : vr32_1.cell? ⟨w2.heap.size, 0, none⟩ = some (.slice A1 s.length k1) := (xs.cell 0).trans rfl
          have fs_l : w2.heap.size + 1 < vr32_1.heap.size := fs.lt
          have fs_l2 : w2.heap.size + 1 < vr32_1.heap.size + 1 + 1 := Nat.lt_succ_of_lt (Nat.lt_succ_of_lt fs_l)
          have fs_0 : vr32_1.cell? ⟨w2.heap.size + 1, 0, none⟩ = some (.int .i64 0) := (fs.cell 0).trans rfl
          have fs_1 : vr32_1.cell? ⟨w2.heap.size + 1, 1, none⟩ = some (.int .i64 0) := (fs.cell 1).trans rfl
          have gs_l : w3.heap.size < vr32_1.heap.size := gs.lt
          have gs_l2 : w3.heap.size < vr32_1.heap.size + 1 + 1 := Nat.lt_succ_of_lt (Nat.lt_succ_of_lt gs_l)
          have gs_0 : vr32_1.cell? ⟨w3.heap.size, 0, none⟩ = some (.int .i64 0) := (gs.cell 0).trans rfl
          have gs_1 : vr32_1.cell? ⟨w3.heap.size, 1, none⟩ = some (.int .i64 0) := (gs.cell 1).trans rfl
          have ob_l : w4.heap.size < vr32_1.heap.size := ob.lt
          have ob_l2 : w4.heap.size < vr32_1.heap.size + 1 + 1 := Nat.lt_succ_of_lt (Nat.lt_succ_of_lt ob_l)
          have ob_0 : vr32_1.cell? ⟨w4.heap.size, 0, none⟩ = some (.int .i64 kk) := (ob.cell 0).trans rfl
          have ob_1 : vr32_1.cell? ⟨w4.heap.size, 1, none⟩ = some (.slice A4 ls.length k4) := (ob.cell 1).trans rfl
          have ob_2 : vr32_1.cell? ⟨w4.heap.size, 2, none⟩ = some (.slice A5 da.length k5) := (ob.cell 2).trans rfl
          have hs_l : w4.heap.size + 1 < vr32_1.heap.size := hs.lt
          have hs_l2 : w4.heap.size + 1 < vr32_1.heap.size + 1 + 1 := Nat.lt_succ_of_lt (Nat.lt_succ_of_lt hs_l)
          have hs_0 : vr32_1.cell? ⟨w4.heap.size + 1, 0, none⟩ = some (.int .i64 0) := (hs.cell 0).trans rfl
          have hs_1 : vr32_1.cell? ⟨w4.heap.size + 1, 1, none⟩ = some (.int .i64 0) := (hs.cell 1).trans rfl
          have ys_l : w5.heap.size < vr32_1.heap.size := ys.lt
          have ys_l2 : w5.heap.size < vr32_1.heap.size + 1 + 1 := Nat.lt_succ_of_lt (Nat.lt_succ_of_lt ys_l)
          have ys_0 : vr32_1.cell? ⟨w5.heap.size, 0, none⟩ = some (.slice (some ⟨bb, off, none⟩) s.length k3) := (ys.cell 0).trans rfl
          have ws_l : w5.heap.size + 1 < vr32_1.heap.size := ws.lt
          have ws_l2 : w5.heap.size + 1 < vr32_1.heap.size + 1 + 1 := Nat.lt_succ_of_lt (Nat.lt_succ_of_lt ws_l)
          have ws_0 : vr32_1.cell? ⟨w5.heap.size + 1, 0, none⟩ = some (.int .i64 0) := (ws.cell 0).trans rfl
          have ws_1 : vr32_1.cell? ⟨w5.heap.size + 1, 1, none⟩ = some (.int .i64 0) := (ws.cell 1).trans rfl
          clear HKr32
          go_wp2_with fail
          go_ret
          exact ⟨rfl, wB32⟩
    · have hff : Ob.fnd s d = false := by simpa using hf
      have H23 : Hid (∀ w1 : World, Below w.heap.size w w1 → Calls Try.prog 23 #[.slice A n k, .int .i64 d] w1 fun e w' => e = .returned (.tuple #[zObj, .agg #[.int .i64 6, .int .i64 (-1)]]) ∧ Below w1.heap.size w1 w') := Lib.hid fun w1 hb => (K23.out w1 hb).mono fun e w' h => by
        obtain ⟨hb, h | ⟨h, _⟩⟩ := h
        · exact ⟨h.2, hb⟩
        · rw [hff] at h; exact absurd h (by simp)
      rw [if_neg hf] at H27
      clear hf hff K23 hs
      go_enter Try.func7, Try.ntmps7
      go_wp2_with fail
      go_at_call 14
      refine (example_any _).mono ?_
      rintro e w1 ⟨rfl, hb1'⟩
      have wB1 := hb0.trans (hb1'.mono hb0.size)
      clear hb1'
      go_wp2_with fail
      go_at_call 20
      refine (H20.out _ wB1).mono ?_
      rintro e w2 ⟨A1, k1, rfl, hst1, hb2'⟩
      have HST1 := Lib.hid hst1
      clear hst1
      have wB2 := wB1.trans (hb2'.mono wB1.size)
      clear hb2'
      have p1 : Below (w2).heap.size (w2) (w2) := Below.refl _ _
      have xs := Blk.new w2 24 #[.slice A1 s.length k1]
      have wB2a0 := wB2.alloc wB2.size (.cells #[.slice A1 s.length k1] 24)
      have p1B2a0 := p1.alloc p1.size (.cells #[.slice A1 s.length k1] 24)
      replace xs := xs.alloc (.cells #[.int .i64 0, .int .i64 0] 28)
      have fs : Blk ((w2.alloc (.cells #[.slice A1 s.length k1] 24)).alloc (.cells #[.int .i64 0, .int .i64 0] 28)) (w2.heap.size + 1) 28 #[.int .i64 0, .int .i64 0] := by simpa using Blk.new (w2.alloc (.cells #[.slice A1 s.length k1] 24)) 28 #[.int .i64 0, .int .i64 0]
      have wB2a1 := wB2a0.alloc wB2a0.size (.cells #[.int .i64 0, .int .i64 0] 28)
      have p1B2a1 := p1B2a0.alloc p1B2a0.size (.cells #[.int .i64 0, .int .i64 0] 28)
      go_wp2_with fail
      go_at_call 21
      refine (H21.out _ wB2a1).mono ?_
      rintro e w3 ⟨A2, k2, rfl, hsi, hb3'⟩
      have HSI1 := Lib.hid hsi
      clear hsi
      have wB3 := wB2a1.trans (hb3'.mono wB2a1.size)
      have p1B3 := p1B2a1.trans (hb3'.mono p1B2a1.size)
      replace xs := xs.below hb3' xs.lt
      replace fs := fs.below hb3' fs.lt
      have xs_l : w2.heap.size < w3.heap.size := xs.lt
      have xs_l2 : w2.heap.size < w3.heap.size + 1 + 1 := Nat.lt_succ_of_lt (Nat.lt_succ_of_lt xs_l)
      have xs_0 : w3.cell? ⟨w2.heap.size, 0, none⟩ = some (.slice A1 s.length k1) := (xs.cell 0).trans rfl
      have fs_l : w2.heap.size + 1 < w3.heap.size := fs.lt
      have fs_l2 : w2.heap.size + 1 < w3.heap.size + 1 + 1 := Nat.lt_succ_of_lt (Nat.lt_succ_of_lt fs_l)
      have fs_0 : w3.cell? ⟨w2.heap.size + 1, 0, none⟩ = some (.int .i64 0) := (fs.cell 0).trans rfl
      have fs_1 : w3.cell? ⟨w2.heap.size + 1, 1, none⟩ = some (.int .i64 0) := (fs.cell 1).trans rfl
      clear hb3'
      have p2 : Below (w3).heap.size (w3) (w3) := Below.refl _ _
      replace xs := xs.alloc (.cells #[.int .i64 0, .int .i64 0] 28)
      replace fs := fs.alloc (.cells #[.int .i64 0, .int .i64 0] 28)
      have gs := Blk.new w3 28 #[.int .i64 0, .int .i64 0]
      have wB3a0 := wB3.alloc wB3.size (.cells #[.int .i64 0, .int .i64 0] 28)
      have p1B3a0 := p1B3.alloc p1B3.size (.cells #[.int .i64 0, .int .i64 0] 28)
      have p2B3a0 := p2.alloc p2.size (.cells #[.int .i64 0, .int .i64 0] 28)
      go_wp2_with fail
      go_at_call 23
      refine (H23.out _ wB3a0).mono ?_
      rintro e w4 ⟨rfl, hb4'⟩
      have wB4 := wB3a0.trans (hb4'.mono wB3a0.size)
      have p1B4 := p1B3a0.trans (hb4'.mono p1B3a0.size)
      have p2B4 := p2B3a0.trans (hb4'.mono p2B3a0.size)
      replace xs := xs.below hb4' xs.lt
      replace fs := fs.below hb4' fs.lt
      replace gs := gs.below hb4' gs.lt
      clear fs_0 fs_1 fs_l fs_l2 xs_0 xs_l xs_l2
      have xs_l : w2.heap.size < w4.heap.size := xs.lt
      have xs_l2 : w2.heap.size < w4.heap.size + 1 + 1 := Nat.lt_succ_of_lt (Nat.lt_succ_of_lt xs_l)
      have xs_0 : w4.cell? ⟨w2.heap.size, 0, none⟩ = some (.slice A1 s.length k1) := (xs.cell 0).trans rfl
      have fs_l : w2.heap.size + 1 < w4.heap.size := fs.lt
      have fs_l2 : w2.heap.size + 1 < w4.heap.size + 1 + 1 := Nat.lt_succ_of_lt (Nat.lt_succ_of_lt fs_l)
      have fs_0 : w4.cell? ⟨w2.heap.size + 1, 0, none⟩ = some (.int .i64 0) := (fs.cell 0).trans rfl
      have fs_1 : w4.cell? ⟨w2.heap.size + 1, 1, none⟩ = some (.int .i64 0) := (fs.cell 1).trans rfl
      have gs_l : w3.heap.size < w4.heap.size := gs.lt
      have gs_l2 : w3.heap.size < w4.heap.size + 1 + 1 := Nat.lt_succ_of_lt (Nat.lt_succ_of_lt gs_l)
      have gs_0 : w4.cell? ⟨w3.heap.size, 0, none⟩ = some (.int .i64 0) := (gs.cell 0).trans rfl
      have gs_1 : w4.cell? ⟨w3.heap.size, 1, none⟩ = some (.int .i64 0) := (gs.cell 1).trans rfl
      clear hb4'
      replace xs := xs.alloc (.cells #[.int .i64 0, .slice none 0 0, .slice none 0 0] 44)
      replace fs := fs.alloc (.cells #[.int .i64 0, .slice none 0 0, .slice none 0 0] 44)
      replace gs := gs.alloc (.cells #[.int .i64 0, .slice none 0 0, .slice none 0 0] 44)
      have ob := Blk.new w4 44 #[.int .i64 0, .slice none 0 0, .slice none 0 0]
      have wB4a0 := wB4.alloc wB4.size (.cells #[.int .i64 0, .slice none 0 0, .slice none 0 0] 44)
      have p1B4a0 := p1B4.alloc p1B4.size (.cells #[.int .i64 0, .slice none 0 0, .slice none 0 0] 44)
      have p2B4a0 := p2B4.alloc p2B4.size (.cells #[.int .i64 0, .slice none 0 0, .slice none 0 0] 44)
      replace xs := xs.alloc (.cells #[.int .i64 6, .int .i64 (-1)] 28)
      replace fs := fs.alloc (.cells #[.int .i64 6, .int .i64 (-1)] 28)
      replace gs := gs.alloc (.cells #[.int .i64 6, .int .i64 (-1)] 28)
      replace ob := ob.alloc (.cells #[.int .i64 6, .int .i64 (-1)] 28)
      have hs : Blk ((w4.alloc (.cells #[.int .i64 0, .slice none 0 0, .slice none 0 0] 44)).alloc (.cells #[.int .i64 6, .int .i64 (-1)] 28)) (w4.heap.size + 1) 28 #[.int .i64 6, .int .i64 (-1)] := by simpa using Blk.new (w4.alloc (.cells #[.int .i64 0, .slice none 0 0, .slice none 0 0] 44)) 28 #[.int .i64 6, .int .i64 (-1)]
      have wB4a1 := wB4a0.alloc wB4a0.size (.cells #[.int .i64 6, .int .i64 (-1)] 28)
      have p1B4a1 := p1B4a0.alloc p1B4a0.size (.cells #[.int .i64 6, .int .i64 (-1)] 28)
      have p2B4a1 := p2B4a0.alloc p2B4a0.size (.cells #[.int .i64 6, .int .i64 (-1)] 28)
      go_wp2_with fail
      go_at_call 25
      refine (H25.out _ wB4a1).mono ?_
      rintro e w5 ⟨A3, k3, rfl, hk3, hst3, hb5'⟩
      have HST3 := Lib.hid hst3
      clear hst3
      have wB5 := wB4a1.trans (hb5'.mono wB4a1.size)
      have p1B5 := p1B4a1.trans (hb5'.mono p1B4a1.size)
      have p2B5 := p2B4a1.trans (hb5'.mono p2B4a1.size)
      replace xs := xs.below hb5' xs.lt
      replace fs := fs.below hb5' fs.lt
      replace gs := gs.below hb5' gs.lt
      replace ob := ob.below hb5' ob.lt
      replace hs := hs.below hb5' hs.lt
      clear fs_0 fs_1 fs_l fs_l2 gs_0 gs_1 gs_l gs_l2 xs_0 xs_l xs_l2
      have xs_l : w2.heap.size < w5.heap.size := xs.lt
      have xs_l2 : w2.heap.size < w5.heap.size + 1 + 1 := Nat.lt_succ_of_lt (Nat.lt_succ_of_lt xs_l)
      have xs_0 : w5.cell? ⟨w2.heap.size, 0, none⟩ = some (.slice A1 s.length k1) := (xs.cell 0).trans rfl
      have fs_l : w2.heap.size + 1 < w5.heap.size := fs.lt
      have fs_l2 : w2.heap.size + 1 < w5.heap.size + 1 + 1 := Nat.lt_succ_of_lt (Nat.lt_succ_of_lt fs_l)
      have fs_0 : w5.cell? ⟨w2.heap.size + 1, 0, none⟩ = some (.int .i64 0) := (fs.cell 0).trans rfl
      have fs_1 : w5.cell? ⟨w2.heap.size + 1, 1, none⟩ = some (.int .i64 0) := (fs.cell 1).trans rfl
      have gs_l : w3.heap.size < w5.heap.size := gs.lt
      have gs_l2 : w3.heap.size < w5.heap.size + 1 + 1 := Nat.lt_succ_of_lt (Nat.lt_succ_of_lt gs_l)
      have gs_0 : w5.cell? ⟨w3.heap.size, 0, none⟩ = some (.int .i64 0) := (gs.cell 0).trans rfl
      have gs_1 : w5.cell? ⟨w3.heap.size, 1, none⟩ = some (.int .i64 0) := (gs.cell 1).trans rfl
      have ob_l : w4.heap.size < w5.heap.size := ob.lt
      have ob_l2 : w4.heap.size < w5.heap.size + 1 + 1 := Nat.lt_succ_of_lt (Nat.lt_succ_of_lt ob_l)
      have ob_0 : w5.cell? ⟨w4.heap.size, 0, none⟩ = some (.int .i64 0) := (ob.cell 0).trans rfl
      have ob_1 : w5.cell? ⟨w4.heap.size, 1, none⟩ = some (.slice none 0 0) := (ob.cell 1).trans rfl
      have ob_2 : w5.cell? ⟨w4.heap.size, 2, none⟩ = some (.slice none 0 0) := (ob.cell 2).trans rfl
      have hs_l : w4.heap.size + 1 < w5.heap.size := hs.lt
      have hs_l2 : w4.heap.size + 1 < w5.heap.size + 1 + 1 := Nat.lt_succ_of_lt (Nat.lt_succ_of_lt hs_l)
      have hs_0 : w5.cell? ⟨w4.heap.size + 1, 0, none⟩ = some (.int .i64 6) := (hs.cell 0).trans rfl
      have hs_1 : w5.cell? ⟨w4.heap.size + 1, 1, none⟩ = some (.int .i64 (-1)) := (hs.cell 1).trans rfl
      clear hb5'
      have p4 : Below (w5).heap.size (w5) (w5) := Below.refl _ _
      replace xs := xs.alloc (.cells #[.slice A3 s.length k3] 24)
      replace fs := fs.alloc (.cells #[.slice A3 s.length k3] 24)
      replace gs := gs.alloc (.cells #[.slice A3 s.length k3] 24)
      replace ob := ob.alloc (.cells #[.slice A3 s.length k3] 24)
      replace hs := hs.alloc (.cells #[.slice A3 s.length k3] 24)
      have ys := Blk.new w5 24 #[.slice A3 s.length k3]
      have wB5a0 := wB5.alloc wB5.size (.cells #[.slice A3 s.length k3] 24)
      have p1B5a0 := p1B5.alloc p1B5.size (.cells #[.slice A3 s.length k3] 24)
      have p2B5a0 := p2B5.alloc p2B5.size (.cells #[.slice A3 s.length k3] 24)
      have p4B5a0 := p4.alloc p4.size (.cells #[.slice A3 s.length k3] 24)
      replace xs := xs.alloc (.cells #[.int .i64 0, .int .i64 0] 28)
      replace fs := fs.alloc (.cells #[.int .i64 0, .int .i64 0] 28)
      replace gs := gs.alloc (.cells #[.int .i64 0, .int .i64 0] 28)
      replace ob := ob.alloc (.cells #[.int .i64 0, .int .i64 0] 28)
      replace hs := hs.alloc (.cells #[.int .i64 0, .int .i64 0] 28)
      replace ys := ys.alloc (.cells #[.int .i64 0, .int .i64 0] 28)
      have ws : Blk ((w5.alloc (.cells #[.slice A3 s.length k3] 24)).alloc (.cells #[.int .i64 0, .int .i64 0] 28)) (w5.heap.size + 1) 28 #[.int .i64 0, .int .i64 0] := by simpa using Blk.new (w5.alloc (.cells #[.slice A3 s.length k3] 24)) 28 #[.int .i64 0, .int .i64 0]
      have wB5a1 := wB5a0.alloc wB5a0.size (.cells #[.int .i64 0, .int .i64 0] 28)
      have p1B5a1 := p1B5a0.alloc p1B5a0.size (.cells #[.int .i64 0, .int .i64 0] 28)
      have p2B5a1 := p2B5a0.alloc p2B5a0.size (.cells #[.int .i64 0, .int .i64 0] 28)
      have p4B5a1 := p4B5a0.alloc p4B5a0.size (.cells #[.int .i64 0, .int .i64 0] 28)
      go_wp2_with fail
      go_at_call 26
      refine (H26.out _ A3 k3 (HST3.out.keep (free_below p4B5a1)) hk3).mono ?_
      rintro e w26 ⟨A6, k6, rfl, hsj, hb26⟩
      have HSJ1 := Lib.hid (hsj.keep ((Keeps.refl _ _).into (X'' := Free) fun _ h => h.elim))
      clear hsj
      have wB6 := wB5a1.trans (hb26.mono wB5a1.size)
      have p1B6 := p1B5a1.trans (hb26.mono p1B5a1.size)
      have p2B6 := p2B5a1.trans (hb26.mono p2B5a1.size)
      have p4B6 := p4B5a1.trans (hb26.mono p4B5a1.size)
      replace xs := xs.below hb26 xs.lt
      replace fs := fs.below hb26 fs.lt
      replace gs := gs.below hb26 gs.lt
      replace ob := ob.below hb26 ob.lt
      replace hs := hs.below hb26 hs.lt
      replace ys := ys.below hb26 ys.lt
      replace ws := ws.below hb26 ws.lt
      clear fs_0 fs_1 fs_l fs_l2 gs_0 gs_1 gs_l gs_l2 hs_0 hs_1 hs_l hs_l2 ob_0 ob_1 ob_2 ob_l ob_l2 xs_0 xs_l xs_l2
      have xs_l : w2.heap.size < w26.heap.size := xs.lt
      have xs_l2 : w2.heap.size < w26.heap.size + 1 + 1 := Nat.lt_succ_of_lt (Nat.lt_succ_of_lt xs_l)
      have xs_0 : w26.cell? ⟨w2.heap.size, 0, none⟩ = some (.slice A1 s.length k1) := (xs.cell 0).trans rfl
      have fs_l : w2.heap.size + 1 < w26.heap.size := fs.lt
      have fs_l2 : w2.heap.size + 1 < w26.heap.size + 1 + 1 := Nat.lt_succ_of_lt (Nat.lt_succ_of_lt fs_l)
      have fs_0 : w26.cell? ⟨w2.heap.size + 1, 0, none⟩ = some (.int .i64 0) := (fs.cell 0).trans rfl
      have fs_1 : w26.cell? ⟨w2.heap.size + 1, 1, none⟩ = some (.int .i64 0) := (fs.cell 1).trans rfl
      have gs_l : w3.heap.size < w26.heap.size := gs.lt
      have gs_l2 : w3.heap.size < w26.heap.size + 1 + 1 := Nat.lt_succ_of_lt (Nat.lt_succ_of_lt gs_l)
      have gs_0 : w26.cell? ⟨w3.heap.size, 0, none⟩ = some (.int .i64 0) := (gs.cell 0).trans rfl
      have gs_1 : w26.cell? ⟨w3.heap.size, 1, none⟩ = some (.int .i64 0) := (gs.cell 1).trans rfl
      have ob_l : w4.heap.size < w26.heap.size := ob.lt
      have ob_l2 : w4.heap.size < w26.heap.size + 1 + 1 := Nat.lt_succ_of_lt (Nat.lt_succ_of_lt ob_l)
      have ob_0 : w26.cell? ⟨w4.heap.size, 0, none⟩ = some (.int .i64 0) := (ob.cell 0).trans rfl
      have ob_1 : w26.cell? ⟨w4.heap.size, 1, none⟩ = some (.slice none 0 0) := (ob.cell 1).trans rfl
      have ob_2 : w26.cell? ⟨w4.heap.size, 2, none⟩ = some (.slice none 0 0) := (ob.cell 2).trans rfl
      have hs_l : w4.heap.size + 1 < w26.heap.size := hs.lt
      have hs_l2 : w4.heap.size + 1 < w26.heap.size + 1 + 1 := Nat.lt_succ_of_lt (Nat.lt_succ_of_lt hs_l)
      have hs_0 : w26.cell? ⟨w4.heap.size + 1, 0, none⟩ = some (.int .i64 6) := (hs.cell 0).trans rfl
      have hs_1 : w26.cell? ⟨w4.heap.size + 1, 1, none⟩ = some (.int .i64 (-1)) := (hs.cell 1).trans rfl
      have ys_l : w5.heap.size < w26.heap.size := ys.lt
      have ys_l2 : w5.heap.size < w26.heap.size + 1 + 1 := Nat.lt_succ_of_lt (Nat.lt_succ_of_lt ys_l)
      have ys_0 : w26.cell? ⟨w5.heap.size, 0, none⟩ = some (.slice A3 s.length k3) := (ys.cell 0).trans rfl
      have ws_l : w5.heap.size + 1 < w26.heap.size := ws.lt
      have ws_l2 : w5.heap.size + 1 < w26.heap.size + 1 + 1 := Nat.lt_succ_of_lt (Nat.lt_succ_of_lt ws_l)
      have ws_0 : w26.cell? ⟨w5.heap.size + 1, 0, none⟩ = some (.int .i64 0) := (ws.cell 0).trans rfl
      have ws_1 : w26.cell? ⟨w5.heap.size + 1, 1, none⟩ = some (.int .i64 0) := (ws.cell 1).trans rfl
      clear hb26
      have p5 : Below (w26).heap.size (w26) (w26) := Below.refl _ _
      go_wp2_with fail
      go_at_call 22
      refine (H22.out _ A1 k1 A3 k3 (HST1.out.keep (free_below p1B6)) (HST3.out.keep (free_below p4B6))).mono ?_
      rintro e w7 ⟨rfl, hb7'⟩
      have wB7 := wB6.trans (hb7'.mono wB6.size)
      have p1B7 := p1B6.trans (hb7'.mono p1B6.size)
      have p2B7 := p2B6.trans (hb7'.mono p2B6.size)
      have p4B7 := p4B6.trans (hb7'.mono p4B6.size)
      have p5B7 := p5.trans (hb7'.mono p5.size)
      replace xs := xs.below hb7' xs.lt
      replace fs := fs.below hb7' fs.lt
      replace gs := gs.below hb7' gs.lt
      replace ob := ob.below hb7' ob.lt
      replace hs := hs.below hb7' hs.lt
      replace ys := ys.below hb7' ys.lt
      replace ws := ws.below hb7' ws.lt
      clear fs_0 fs_1 fs_l fs_l2 gs_0 gs_1 gs_l gs_l2 hs_0 hs_1 hs_l hs_l2 ob_0 ob_1 ob_2 ob_l ob_l2 ws_0 ws_1 ws_l ws_l2 xs_0 xs_l xs_l2 ys_0 ys_l ys_l2
      have xs_l : w2.heap.size < w7.heap.size := xs.lt
      have xs_l2 : w2.heap.size < w7.heap.size + 1 + 1 := Nat.lt_succ_of_lt (Nat.lt_succ_of_lt xs_l)
      have xs_0 : w7.cell? ⟨w2.heap.size, 0, none⟩ = some (.slice A1 s.length k1) := (xs.cell 0).trans rfl
      have fs_l : w2.heap.size + 1 < w7.heap.size := fs.lt
      have fs_l2 : w2.heap.size + 1 < w7.heap.size + 1 + 1 := Nat.lt_succ_of_lt (Nat.lt_succ_of_lt fs_l)
      have fs_0 : w7.cell? ⟨w2.heap.size + 1, 0, none⟩ = some (.int .i64 0) := (fs.cell 0).trans rfl
      have fs_1 : w7.cell? ⟨w2.heap.size + 1, 1, none⟩ = some (.int .i64 0) := (fs.cell 1).trans rfl
      have gs_l : w3.heap.size < w7.heap.size := gs.lt
      have gs_l2 : w3.heap.size < w7.heap.size + 1 + 1 := Nat.lt_succ_of_lt (Nat.lt_succ_of_lt gs_l)
      have gs_0 : w7.cell? ⟨w3.heap.size, 0, none⟩ = some (.int .i64 0) := (gs.cell 0).trans rfl
      have gs_1 : w7.cell? ⟨w3.heap.size, 1, none⟩ = some (.int .i64 0) := (gs.cell 1).trans rfl
      have ob_l : w4.heap.size < w7.heap.size := ob.lt
      have ob_l2 : w4.heap.size < w7.heap.size + 1 + 1 := Nat.lt_succ_of_lt (Nat.lt_succ_of_lt ob_l)
      have ob_0 : w7.cell? ⟨w4.heap.size, 0, none⟩ = some (.int .i64 0) := (ob.cell 0).trans rfl
      have ob_1 : w7.cell? ⟨w4.heap.size, 1, none⟩ = some (.slice none 0 0) := (ob.cell 1).trans rfl
      have ob_2 : w7.cell? ⟨w4.heap.size, 2, none⟩ = some (.slice none 0 0) := (ob.cell 2).trans rfl
      have hs_l : w4.heap.size + 1 < w7.heap.size := hs.lt
      have hs_l2 : w4.heap.size + 1 < w7.heap.size + 1 + 1 := Nat.lt_succ_of_lt (Nat.lt_succ_of_lt hs_l)
      have hs_0 : w7.cell? ⟨w4.heap.size + 1, 0, none⟩ = some (.int .i64 6) := (hs.cell 0).trans rfl
      have hs_1 : w7.cell? ⟨w4.heap.size + 1, 1, none⟩ = some (.int .i64 (-1)) := (hs.cell 1).trans rfl
      have ys_l : w5.heap.size < w7.heap.size := ys.lt
      have ys_l2 : w5.heap.size < w7.heap.size + 1 + 1 := Nat.lt_succ_of_lt (Nat.lt_succ_of_lt ys_l)
      have ys_0 : w7.cell? ⟨w5.heap.size, 0, none⟩ = some (.slice A3 s.length k3) := (ys.cell 0).trans rfl
      have ws_l : w5.heap.size + 1 < w7.heap.size := ws.lt
      have ws_l2 : w5.heap.size + 1 < w7.heap.size + 1 + 1 := Nat.lt_succ_of_lt (Nat.lt_succ_of_lt ws_l)
      have ws_0 : w7.cell? ⟨w5.heap.size + 1, 0, none⟩ = some (.int .i64 0) := (ws.cell 0).trans rfl
      have ws_1 : w7.cell? ⟨w5.heap.size + 1, 1, none⟩ = some (.int .i64 0) := (ws.cell 1).trans rfl
      clear hb7'
      have HBW := Lib.hid wB7
      have HI1 := Lib.hid (HSI1.out.keep (free_below p2B7))
      have HI2 := Lib.hid (HSJ1.out.keep (free_below p5B7))
      have HST3b := Lib.hid (HST3.out.keep (free_below p4B7))
      have XSB := Lib.hid xs
      have FSB := Lib.hid fs
      have GSB := Lib.hid gs
      have OBB := Lib.hid ob
      have HSB := Lib.hid hs
      have YSB := Lib.hid ys
      have WSB := Lib.hid ws
      clear fs_0 fs_1 fs_l fs_l2 gs_0 gs_1 gs_l gs_l2 hs_0 hs_1 hs_l hs_l2 ob_0 ob_1 ob_2 ob_l ob_l2 ws_0 ws_1 ws_l ws_l2 xs_0 xs_l xs_l2 ys_0 ys_l ys_l2 xs fs gs ob hs ys ws H20 H21 H22 H23 H25 H26 HST1 HSI1 HSJ1 HST3
      go_wp2_with fail
      go_loopw [14] (fun iv wr => ∃ i : Nat, i ≤ s.length ∧ iv = .int .i64 i ∧ Below w7.heap.size w7 wr) (fun iv _ => s.length - (intOf iv).toNat)
      case atStart => exact ⟨0, Nat.zero_le _, rfl, Below.refl _ _⟩
      case round =>
        obtain ⟨i, hi, rfl, hbr⟩ := hrel
        obtain ⟨wo, rfl⟩ : ∃ wo : World, wo = wr := ⟨_, rfl⟩
        by_cases hlt : i < s.length
        · have hlt' : (i : Int) < s.length := by omega
          obtain ⟨bi, oi, e, hbi, i0, i1, i2⟩ := ixL_row (HI1.out.keep (free_below hbr)) i hlt
          subst e
          obtain ⟨bj, oj, e, hbj, j0, j1, j2⟩ := ixL_row (HI2.out.keep (free_below hbr)) i hlt
          subst e
          generalize ((Ob.dig (Ob.it s i).ob : Nat) : Int) = g0 at *
          generalize ((3 + (ents s i).length : Nat) : Int) = g1 at *
          generalize (((Ob.ent (Ob.it s i).ob).length : Nat) : Int) = g2 at *
          have hp0 : (0 : Int) ≤ i := by omega
          go_wp2_with fail
          go_quiet (fail)
          go_wp2_with fail
          go_roundw
          case rel => exact ⟨i + 1, by omega, by go_num, below_drewN hbr _⟩
          case measure => simp [intOf]; omega
        · have hge : ¬ (i : Int) < s.length := by omega
          have B0 := HBW.out.trans (hbr.mono HBW.out.size)
          have r0 : Below wo.heap.size wo wo := Below.refl _ _
          have xs := XSB.out.below hbr XSB.out.lt
          have fs := FSB.out.below hbr FSB.out.lt
          have gs := GSB.out.below hbr GSB.out.lt
          have ob := OBB.out.below hbr OBB.out.lt
          have hs := HSB.out.below hbr HSB.out.lt
          have ys := YSB.out.below hbr YSB.out.lt
          have ws := WSB.out.below hbr WSB.out.lt
          clear XSB FSB GSB OBB HSB YSB WSB HI1 HI2 HBW
          have xs_l : w2.heap.size < wo.heap.size := xs.lt
          have xs_l2 : w2.heap.size < wo.heap.size + 1 + 1 := Nat.lt_succ_of_lt (Nat.lt_succ_of_lt xs_l)
          have xs_0 : wo.cell? ⟨w2.heap.size, 0, none⟩ = some (.slice A1 s.length k1) := (xs.cell 0).trans rfl
          have fs_l : w2.heap.size + 1 < wo.heap.size := fs.lt
          have fs_l2 : w2.heap.size + 1 < wo.heap.size + 1 + 1 := Nat.lt_succ_of_lt (Nat.lt_succ_of_lt fs_l)
          have fs_0 : wo.cell? ⟨w2.heap.size + 1, 0, none⟩ = some (.int .i64 0) := (fs.cell 0).trans rfl
          have fs_1 : wo.cell? ⟨w2.heap.size + 1, 1, none⟩ = some (.int .i64 0) := (fs.cell 1).trans rfl
          have gs_l : w3.heap.size < wo.heap.size := gs.lt
          have gs_l2 : w3.heap.size < wo.heap.size + 1 + 1 := Nat.lt_succ_of_lt (Nat.lt_succ_of_lt gs_l)
          have gs_0 : wo.cell? ⟨w3.heap.size, 0, none⟩ = some (.int .i64 0) := (gs.cell 0).trans rfl
          have gs_1 : wo.cell? ⟨w3.heap.size, 1, none⟩ = some (.int .i64 0) := (gs.cell 1).trans rfl
          have ob_l : w4.heap.size < wo.heap.size := ob.lt
          have ob_l2 : w4.heap.size < wo.heap.size + 1 + 1 := Nat.lt_succ_of_lt (Nat.lt_succ_of_lt ob_l)
          have ob_0 : wo.cell? ⟨w4.heap.size, 0, none⟩ = some (.int .i64 0) := (ob.cell 0).trans rfl
          have ob_1 : wo.cell? ⟨w4.heap.size, 1, none⟩ = some (.slice none 0 0) := (ob.cell 1).trans rfl
          have ob_2 : wo.cell? ⟨w4.heap.size, 2, none⟩ = some (.slice none 0 0) := (ob.cell 2).trans rfl
          have hs_l : w4.heap.size + 1 < wo.heap.size := hs.lt
          have hs_l2 : w4.heap.size + 1 < wo.heap.size + 1 + 1 := Nat.lt_succ_of_lt (Nat.lt_succ_of_lt hs_l)
          have hs_0 : wo.cell? ⟨w4.heap.size + 1, 0, none⟩ = some (.int .i64 6) := (hs.cell 0).trans rfl
          have hs_1 : wo.cell? ⟨w4.heap.size + 1, 1, none⟩ = some (.int .i64 (-1)) := (hs.cell 1).trans rfl
          have ys_l : w5.heap.size < wo.heap.size := ys.lt
          have ys_l2 : w5.heap.size < wo.heap.size + 1 + 1 := Nat.lt_succ_of_lt (Nat.lt_succ_of_lt ys_l)
          have ys_0 : wo.cell? ⟨w5.heap.size, 0, none⟩ = some (.slice A3 s.length k3) := (ys.cell 0).trans rfl
          have ws_l : w5.heap.size + 1 < wo.heap.size := ws.lt
          have ws_l2 : w5.heap.size + 1 < wo.heap.size + 1 + 1 := Nat.lt_succ_of_lt (Nat.lt_succ_of_lt ws_l)
          have ws_0 : wo.cell? ⟨w5.heap.size + 1, 0, none⟩ = some (.int .i64 0) := (ws.cell 0).trans rfl
          have ws_1 : wo.cell? ⟨w5.heap.size + 1, 1, none⟩ = some (.int .i64 0) := (ws.cell 1).trans rfl
          go_wp2_with fail
          go_at_call 27
          refine (H27.out _ A3 k3 (HST3b.out.keep (free_below hbr))).mono ?_
          rintro e w31 ⟨rfl, hb31'⟩
          have wB31 := B0.trans (hb31'.mono B0.size)
          have qB31 := hbr.trans (hb31'.mono hbr.size)
          have rB31 := r0.trans (hb31'.mono r0.size)
          replace xs := xs.below hb31' xs.lt
          replace fs := fs.below hb31' fs.lt
          replace gs := gs.below hb31' gs.lt
          replace ob := ob.below hb31' ob.lt
          replace hs := hs.below hb31' hs.lt
          replace ys := ys.below hb31' ys.lt
          replace ws := ws.below hb31' ws.lt
          clear fs_0 fs_1 fs_l fs_l2 gs_0 gs_1 gs_l gs_l2 hs_0 hs_1 hs_l hs_l2 ob_0 ob_1 ob_2 ob_l ob_l2 ws_0 ws_1 ws_l ws_l2 xs_0 xs_l xs_l2 ys_0 ys_l ys_l2
          have xs_l : w2.heap.size < w31.heap.size := xs.lt
          have xs_l2 : w2.heap.size < w31.heap.size + 1 + 1 := Nat.lt_succ_of_lt (Nat.lt_succ_of_lt xs_l)
          have xs_0 : w31.cell? ⟨w2.heap.size, 0, none⟩ = some (.slice A1 s.length k1) := (xs.cell 0).trans rfl
          have fs_l : w2.heap.size + 1 < w31.heap.size := fs.lt
          have fs_l2 : w2.heap.size + 1 < w31.heap.size + 1 + 1 := Nat.lt_succ_of_lt (Nat.lt_succ_of_lt fs_l)
          have fs_0 : w31.cell? ⟨w2.heap.size + 1, 0, none⟩ = some (.int .i64 0) := (fs.cell 0).trans rfl
          have fs_1 : w31.cell? ⟨w2.heap.size + 1, 1, none⟩ = some (.int .i64 0) := (fs.cell 1).trans rfl
          have gs_l : w3.heap.size < w31.heap.size := gs.lt
          have gs_l2 : w3.heap.size < w31.heap.size + 1 + 1 := Nat.lt_succ_of_lt (Nat.lt_succ_of_lt gs_l)
          have gs_0 : w31.cell? ⟨w3.heap.size, 0, none⟩ = some (.int .i64 0) := (gs.cell 0).trans rfl
          have gs_1 : w31.cell? ⟨w3.heap.size, 1, none⟩ = some (.int .i64 0) := (gs.cell 1).trans rfl
          have ob_l : w4.heap.size < w31.heap.size := ob.lt
          have ob_l2 : w4.heap.size < w31.heap.size + 1 + 1 := Nat.lt_succ_of_lt (Nat.lt_succ_of_lt ob_l)
          have ob_0 : w31.cell? ⟨w4.heap.size, 0, none⟩ = some (.int .i64 0) := (ob.cell 0).trans rfl
          have ob_1 : w31.cell? ⟨w4.heap.size, 1, none⟩ = some (.slice none 0 0) := (ob.cell 1).trans rfl
          have ob_2 : w31.cell? ⟨w4.heap.size, 2, none⟩ = some (.slice none 0 0) := (ob.cell 2).trans rfl
          have hs_l : w4.heap.size + 1 < w31.heap.size := hs.lt
          have hs_l2 : w4.heap.size + 1 < w31.heap.size + 1 + 1 := Nat.lt_succ_of_lt (Nat.lt_succ_of_lt hs_l)
          have hs_0 : w31.cell? ⟨w4.heap.size + 1, 0, none⟩ = some (.int .i64 6) := (hs.cell 0).trans rfl
          have hs_1 : w31.cell? ⟨w4.heap.size + 1, 1, none⟩ = some (.int .i64 (-1)) := (hs.cell 1).trans rfl
          have ys_l : w5.heap.size < w31.heap.size := ys.lt
          have ys_l2 : w5.heap.size < w31.heap.size + 1 + 1 := Nat.lt_succ_of_lt (Nat.lt_succ_of_lt ys_l)
          have ys_0 : w31.cell? ⟨w5.heap.size, 0, none⟩ = some (.slice A3 s.length k3) := (ys.cell 0).trans rfl
          have ws_l : w5.heap.size + 1 < w31.heap.size := ws.lt
          have ws_l2 : w5.heap.size + 1 < w31.heap.size + 1 + 1 := Nat.lt_succ_of_lt (Nat.lt_succ_of_lt ws_l)
          have ws_0 : w31.cell? ⟨w5.heap.size + 1, 0, none⟩ = some (.int .i64 0) := (ws.cell 0).trans rfl
          have ws_1 : w31.cell? ⟨w5.heap.size + 1, 1, none⟩ = some (.int .i64 0) := (ws.cell 1).trans rfl
          clear hb31'
          clear HST3b
          have hkr32_0 : Below w31.heap.size w31 w31.drew := below_drew' (Below.refl _ _)
          have HKr32 : Hid (∀ w6 : World, Below w31.heap.size w31 w6 → w6.cell? ⟨w4.heap.size, 0, none⟩ = some (.int .i64 0) ∧ w6.cell? ⟨w4.heap.size, 1, none⟩ = some (.slice none 0 0) ∧ w6.cell? ⟨w4.heap.size, 2, none⟩ = some (.slice none 0 0) ∧ w6.cell? ⟨w4.heap.size + 1, 0, none⟩ = some (.int .i64 6) ∧ w6.cell? ⟨w4.heap.size + 1, 1, none⟩ = some (.int .i64 (-1))) := Lib.hid fun w6 h6 => ⟨(h6.cell (p := ⟨_, _, none⟩) ob_l).trans ob_0, (h6.cell (p := ⟨_, _, none⟩) ob_l).trans ob_1, (h6.cell (p := ⟨_, _, none⟩) ob_l).trans ob_2, (h6.cell (p := ⟨_, _, none⟩) hs_l).trans hs_0, (h6.cell (p := ⟨_, _, none⟩) hs_l).trans hs_1⟩
          go_wp2_with fail
          go_region_held3 (fun w6 => w6.cell? ⟨w4.heap.size, 0, none⟩ = some (.int .i64 0) ∧ w6.cell? ⟨w4.heap.size, 1, none⟩ = some (.slice none 0 0) ∧ w6.cell? ⟨w4.heap.size, 2, none⟩ = some (.slice none 0 0) ∧ w6.cell? ⟨w4.heap.size + 1, 0, none⟩ = some (.int .i64 6) ∧ w6.cell? ⟨w4.heap.size + 1, 1, none⟩ = some (.int .i64 (-1)))
            (first | exact HKr32.out _ hkr32_0 | exact HKr32.out _ hkr32_1 | exact HKr32.out _ hkr32_2)
            (first | (go_at_call 18; (with_reducible refine (fault_b _ _ _).mono ?_); rintro e vr32_1 ⟨rfl, hvr32_1⟩; have hkr32_1 : Below w31.heap.size w31 vr32_1 := hkr32_0.trans (hvr32_1.mono hkr32_0.size)) | (go_at_call 24; (with_reducible refine (objects_zz _).mono ?_); rintro e vr32_2 ⟨rfl, hvr32_2⟩; have hkr32_2 : Below w31.heap.size w31 vr32_2 := hkr32_1.trans (hvr32_2.mono hkr32_1.size)))
          have wB32 := wB31.trans (hkr32_2.mono wB31.size)
          have qB32 := qB31.trans (hkr32_2.mono qB31.size)
          have rB32 := rB31.trans (hkr32_2.mono rB31.size)
          replace xs := xs.below hkr32_2 xs.lt
          replace fs := fs.below hkr32_2 fs.lt
          replace gs := gs.below hkr32_2 gs.lt
          replace ob := ob.below hkr32_2 ob.lt
          replace hs := hs.below hkr32_2 hs.lt
          replace ys := ys.below hkr32_2 ys.lt
          replace ws := ws.below hkr32_2 ws.lt
          clear fs_0 fs_1 fs_l fs_l2 gs_0 gs_1 gs_l gs_l2 hs_0 hs_1 hs_l hs_l2 ob_0 ob_1 ob_2 ob_l ob_l2 ws_0 ws_1 ws_l ws_l2 xs_0 xs_l xs_l2 ys_0 ys_l ys_l2
          have xs_l : w2.heap.size < vr32_2.heap.size := xs.lt
          have xs_l2 : w2.heap.size < vr32_2.heap.size + 1 + 1 := Nat.lt_succ_of_lt (Nat.lt_succ_of_lt xs_l)
          have xs_0 : vr32_2.cell? ⟨w2.heap.size, 0, none⟩ = some (.slice A1 s.length k1) := (xs.cell 0).trans rfl
          have fs_l : w2.heap.size + 1 < vr32_2.heap.size := fs.lt
          have fs_l2 : w2.heap.size + 1 < vr32_2.heap.size + 1 + 1 := Nat.lt_succ_of_lt (Nat.lt_succ_of_lt fs_l)
          have fs_0 : vr32_2.cell? ⟨w2.heap.size + 1, 0, none⟩ = some (.int .i64 0) := (fs.cell 0).trans rfl
          have fs_1 : vr32_2.cell? ⟨w2.heap.size + 1, 1, none⟩ = some (.int .i64 0) := (fs.cell 1).trans rfl
          have gs_l : w3.heap.size < vr32_2.heap.size := gs.lt
          have gs_l2 : w3.heap.size < vr32_2.heap.size + 1 + 1 := Nat.lt_succ_of_lt (Nat.lt_succ_of_lt gs_l)
          have gs_0 : vr32_2.cell? ⟨w3.heap.size, 0, none⟩ = some (.int .i64 0) := (gs.cell 0).trans rfl
          have gs_1 : vr32_2.cell? ⟨w3.heap.size, 1, none⟩ = some (.int .i64 0) := (gs.cell 1).trans rfl
          have ob_l : w4.heap.size < vr32_2.heap.size := ob.lt
          have ob_l2 : w4.heap.size < vr32_2.heap.size + 1 + 1 := Nat.lt_succ_of_lt (Nat.lt_succ_of_lt ob_l)
          have ob_0 : vr32_2.cell? ⟨w4.heap.size, 0, none⟩ = some (.int .i64 0) := (ob.cell 0).trans rfl
          have ob_1 : vr32_2.cell? ⟨w4.heap.size, 1, none⟩ = some (.slice none 0 0) := (ob.cell 1).trans rfl
          have ob_2 : vr32_2.cell? ⟨w4.heap.size, 2, none⟩ = some (.slice none 0 0) := (ob.cell 2).trans rfl
          have hs_l : w4.heap.size + 1 < vr32_2.heap.size := hs.lt
          have hs_l2 : w4.heap.size + 1 < vr32_2.heap.size + 1 + 1 := Nat.lt_succ_of_lt (Nat.lt_succ_of_lt hs_l)
          have hs_0 : vr32_2.cell? ⟨w4.heap.size + 1, 0, none⟩ = some (.int .i64 6) := (hs.cell 0).trans rfl
          have hs_1 : vr32_2.cell? ⟨w4.heap.size + 1, 1, none⟩ = some (.int .i64 (-1)) := (hs.cell 1).trans rfl
          have ys_l : w5.heap.size < vr32_2.heap.size := ys.lt
          have ys_l2 : w5.heap.size < vr32_2.heap.size + 1 + 1 := Nat.lt_succ_of_lt (Nat.lt_succ_of_lt ys_l)
          have ys_0 : vr32_2.cell? ⟨w5.heap.size, 0, none⟩ = some (.slice A3 s.length k3) := (ys.cell 0).trans rfl
          have ws_l : w5.heap.size + 1 < vr32_2.heap.size := ws.lt
          have ws_l2 : w5.heap.size + 1 < vr32_2.heap.size + 1 + 1 := Nat.lt_succ_of_lt (Nat.lt_succ_of_lt ws_l)
          have ws_0 : vr32_2.cell? ⟨w5.heap.size + 1, 0, none⟩ = some (.int .i64 0) := (ws.cell 0).trans rfl
          have ws_1 : vr32_2.cell? ⟨w5.heap.size + 1, 1, none⟩ = some (.int .i64 0) := (ws.cell 1).trans rfl
          clear HKr32
          go_wp2_with fail
          go_ret
          exact ⟨rfl, wB32⟩
end Go.Proofs.Ytiilhnfdlpgllaa
