/-
  BisectMatchesSpec: the law's walk.
-/
import Derived.Test.YtoohmkdgimkgoaaW34
import Derived.Test.YtoohmkdgimkgoaaW32
namespace Go.Proofs.Ytoohmkdgimkgoaa
open Go.RowKit Go.V
set_option linter.unusedVariables false

theorem bad12 {l : List Hs.Cm} {good : List Int} {bad : Int} (h : (bcheck l good bad).1 ≠ 0) (broken : List Bool) :
    candRes l good bad = ([], bcheck l good bad) ∧ nextRes l good bad = (0, bcheck l good bad) ∧ findRes l good bad broken = (0, ([], bcheck l good bad)) :=
  ⟨if_pos h, if_pos h, if_pos h⟩

set_option maxRecDepth 100000 in
set_option maxHeartbeats 8000000 in
theorem law12_bad (w : World) (A A2 A3 : Option Addr) (k k2 k3 : Nat) (l : List Hs.Cm) (good : List Int) (bad : Int) (broken : List Bool) (hv : CV w A l) (hl : l.length ≤ 9223372036854775807) (hv2 : IV w A2 good) (hi64 : ∀ (j : Nat) (h : j < good.length), I64 good[j]) (hl2 : good.length ≤ 9223372036854775807)
    (hv3 : BV w A3 broken) (hl3 : broken.length ≤ 9223372036854775807) (hbad : (bcheck l good bad).1 ≠ 0) :
    Calls Try.prog 12 #[.slice A l.length k, .slice A2 good.length k2, .int .i64 bad, .slice A3 broken.length k3] w fun e w' => e = .returned (.bool true) ∧ Below w.heap.size w w' := by
  obtain ⟨e1, e2, e3⟩ := bad12 hbad broken
  have HB := Lib.hid (fun (w1 : World) h h2 => e1 ▸ candidates_any w1 A A2 k k2 l good bad h hl h2 hi64 hl2)
  have HO := Lib.hid (fun (w1 : World) h h2 => e2 ▸ bnext_any w1 A A2 k k2 l good bad h hl h2 hi64 hl2)
  have HI := Lib.hid (fun (w1 : World) h h2 h3 => e3 ▸ find_any w1 A A2 A3 k k2 k3 l good bad broken h hl h2 hi64 hl2 h3 hl3)
  have HF := Lib.hid (fun (w1 : World) h h2 => bisectFault_any w1 A A2 k k2 l good bad h hl h2 hi64 hl2)
  clear e1 e2 e3
  generalize bcheck l good bad = r at *
  obtain ⟨c, i⟩ := r
  simp only at hbad
  have hc1 : (c == 0) = false := by simpa using hbad
  have hc2 : (c != 0) = true := by simpa using hbad
  clear hbad
  go_enter Try.func12, Try.ntmps12
  go_wp2_with fail
  go_at_call 37
  refine (bexample_any _).mono ?_
  rintro e w1 ⟨rfl, hb1⟩
  have hsz1 := hb1.size
  go_wp2_with fail
  go_at_call 38
  refine (HB.out _ (hv.below hb1) (hv2.below hb1)).mono ?_
  rintro e w2 ⟨X2, c2, rfl, hcc2, hvx2, hb2'⟩
  have hb2 := hb1.trans (hb2'.mono hsz1)
  have hsz2 := hb2.size
  have hb3 := hb2.alloc hsz2 (.cells #[.int .i64 c, .int .i64 i] 26)
  clear hb2' hb1 hsz1 HB hvx2
  simp only [List.length_nil] at hcc2 ⊢
  go_wp2_with fail
  go_at_call 39
  refine (HO.out _ (hv.below hb3) (hv2.below hb3)).mono ?_
  rintro e w4 ⟨rfl, hb4'⟩
  have hb4 := hb3.trans (hb4'.mono hb3.size)
  have k10 := (Blk.new w2 26 #[.int .i64 c, .int .i64 i]).below hb4' (by simp)
  have hsz4 := hb4.size
  have hb5 := hb4.alloc hsz4 (.cells #[.int .i64 c, .int .i64 i] 26)
  clear hb4' hb3 HO
  simp only
  go_wp2_with fail
  go_at_call 40
  refine (HI.out _ (hv.below hb5) (hv2.below hb5) (hv3.below hb5)).mono ?_
  rintro e w6 ⟨X6, c6, rfl, hcc6, hvx6, hb6'⟩
  have hb6 := hb5.trans (hb6'.mono hb5.size)
  have hlt10 := k10.lt
  have k10' := (k10.alloc (.cells #[.int .i64 c, .int .i64 i] 26)).below hb6' (by simp; omega)
  have k12 := (Blk.new w4 26 #[.int .i64 c, .int .i64 i]).below hb6' (by simp)
  have hsz6 := hb6.size
  have hb7 := hb6.alloc hsz6 (.cells #[.int .i64 c, .int .i64 i] 26)
  clear hb6' hb5 HI k10 hvx6
  simp only [List.length_nil] at hcc6 ⊢
  go_wp2_with fail
  go_at_call 41
  refine (HF.out _ (hv.below hb7) (hv2.below hb7)).mono ?_
  rintro e w8 ⟨rfl, hb8'⟩
  have hb8 := hb7.trans (hb8'.mono hb7.size)
  have hlt12 := k12.lt
  have hlt10' := k10'.lt
  have k10 := (k10'.alloc (.cells #[.int .i64 c, .int .i64 i] 26)).below hb8' (by simp; omega)
  have k12' := (k12.alloc (.cells #[.int .i64 c, .int .i64 i] 26)).below hb8' (by simp; omega)
  have k14 := (Blk.new w6 26 #[.int .i64 c, .int .i64 i]).below hb8' (by simp)
  have hsz8 := hb8.size
  have hb9 := hb8.alloc hsz8 (.cells #[.int .i64 c, .int .i64 i] 26)
  have p0 := k10.cell 0
  have p1 := k10.cell 1
  have q0 := k12'.cell 0
  have q1 := k12'.cell 1
  have r0 := k14.cell 0
  have r1 := k14.cell 1
  have u0 := k10.lt
  have u1 := k12'.lt
  have u2 := k14.lt
  simp only [List.getElem?_toArray, List.getElem?_cons_zero, List.getElem?_cons_succ] at p0 p1 q0 q1 r0 r1
  clear hb8' hb7 HF k10' k12 k10 k12' k14
  simp only
  go_wp2_with fail
  go_ret
  exact ⟨rfl, hb9⟩
/- the valid search -/
theorem ok12 {l : List Hs.Cm} {gs : List Nat} {b : Nat} (h : bcheck l (Hs.ints gs) b = (0, 0)) (broken : List Bool) :
    candRes l (Hs.ints gs) b = (Hs.ints (Hs.cand l gs b), (0, 0)) ∧ nextRes l (Hs.ints gs) b = (Hs.nextI l (Hs.cand l gs b), (0, 0)) ∧
    (broken.length ≠ l.length → findRes l (Hs.ints gs) b broken = (0, ([], (9, -1)))) ∧
    (broken.length = l.length → findRes l (Hs.ints gs) b broken = (((Hs.find l (brk broken) gs b).1 : Int), (Hs.ints (Hs.find l (brk broken) gs b).2, (0, 0)))) := by
  refine ⟨?_, ?_, fun hb => ?_, fun hb => ?_⟩
  · unfold candRes; rw [h, nats_ints']; rfl
  · unfold nextRes; rw [h, nats_ints']; rfl
  · unfold findRes; rw [h, if_neg (by simp), if_pos hb]
  · unfold findRes; rw [h, if_neg (by simp), if_neg (by simpa using hb), nats_ints']; rfl
theorem rx_next {l : List Hs.Cm} {gs : List Nat} {b : Nat} (h : Hs.Srch l gs b) : (Hs.rxAt l (Hs.cand l gs b) 0).1 = Hs.nextI l (Hs.cand l gs b) := by
  by_cases h1 : (Hs.cand l gs b).length = 1
  · rw [(h.next_one h1).1, (h.next_one h1).2]
  · obtain ⟨c, _, _, e1, e2, _⟩ := h.next h1
    rw [e1, e2]

set_option maxRecDepth 100000 in
set_option maxHeartbeats 16000000 in
theorem law12_len (w : World) (A A2 A3 : Option Addr) (k k2 k3 : Nat) (l : List Hs.Cm) (gs : List Nat) (b : Nat) (broken : List Bool) (hv : CV w A l) (hv2 : IV w A2 (Hs.ints gs)) (hl2 : gs.length ≤ 60)
    (hv3 : BV w A3 broken) (hl3 : broken.length ≤ 9223372036854775807) (he : bcheck l (Hs.ints gs) b = (0, 0)) (hs : Hs.Srch l gs b) (hbl : broken.length ≠ l.length) :
    Calls Try.prog 12 #[.slice A l.length k, .slice A2 gs.length k2, .int .i64 (b : Int), .slice A3 broken.length k3] w fun e w' => e = .returned (.bool true) ∧ Below w.heap.size w w' := by
  have hok := hs.ok
  have hl60 := hok.len
  have hl : l.length ≤ 9223372036854775807 := by omega
  have hi64 : ∀ (j : Nat) (h : j < (Hs.ints gs).length), I64 (Hs.ints gs)[j] := fun j h => by
    rw [ints_at gs j (by simpa using h)]
    have := hs.hgood _ (List.getElem_mem (show j < gs.length by simpa using h))
    simp [I64]; omega
  obtain ⟨e1, e2, e3, e4⟩ := ok12 he broken
  have e5 := e3 hbl
  have hgl : (Hs.ints gs).length = gs.length := Hs.ints_length gs
  have HB0 := fun (w1 : World) h h2 => e1 ▸ candidates_any w1 A A2 k k2 l (Hs.ints gs) b h hl h2 hi64 (by rw [hgl]; omega)
  have HO0 := fun (w1 : World) h h2 => e2 ▸ bnext_any w1 A A2 k k2 l (Hs.ints gs) b h hl h2 hi64 (by rw [hgl]; omega)
  have HI0 := fun (w1 : World) h h2 h3 => e5 ▸ find_any w1 A A2 A3 k k2 k3 l (Hs.ints gs) b broken h hl h2 hi64 (by rw [hgl]; omega) h3 hl3
  have HF0 := fun (w1 : World) h h2 => he ▸ bisectFault_any w1 A A2 k k2 l (Hs.ints gs) b h hl h2 hi64 (by rw [hgl]; omega)
  rw [hgl] at HB0 HO0 HI0 HF0
  have HB := Lib.hid HB0
  have HO := Lib.hid HO0
  have HI := Lib.hid HI0
  have HF := Lib.hid HF0
  have HCO := Lib.hid (fun (w1 : World) h h2 => candidatesOf_any w1 A A2 k k2 l gs b h hok h2 hs.hgood hs.hbad (by omega))
  have HNO := Lib.hid (fun (w1 : World) h h2 => rx_next hs ▸ nextOf_any w1 A A2 k k2 l gs b h hok h2 hs.hgood hs.hbad (by omega))
  have hcl := Hs.cand_len l gs b
  have HIN := Lib.hid (fun (w1 : World) (A A2 : Option Addr) (c1 c2 : Nat) h1 h2 => ints_any w1 A A2 c1 c2 (Hs.ints (Hs.cand l gs b)) h1 h2 (by rw [Hs.ints_length]; omega))
  have HLEN := Lib.hid hbl
  clear e1 e2 e3 e4 e5 HB0 HO0 HI0 HF0 hgl he hi64 hbl
  generalize Hs.nextI l (Hs.cand l gs b) = nx at *
  generalize Hs.ints (Hs.cand l gs b) = xs at *
  go_enter Try.func12, Try.ntmps12
  go_wp2_with fail
  go_at_call 37
  refine (bexample_any _).mono ?_
  rintro e w1 ⟨rfl, hb1⟩
  have hsz1 := hb1.size
  go_wp2_with fail
  go_at_call 38
  refine (HB.out _ (hv.below hb1) (hv2.below hb1)).mono ?_
  rintro e w2 ⟨X2, c2, rfl, hcc2, hvx2, hb2'⟩
  have hb2 := hb1.trans (hb2'.mono hsz1)
  have hsz2 := hb2.size
  have hb3 := hb2.alloc hsz2 (.cells #[.int .i64 0, .int .i64 0] 26)
  have hvx3 := hvx2.alloc (.cells #[.int .i64 0, .int .i64 0] 26)
  clear hb2' hb1 hsz1 HB hvx2
  simp only at hcc2 ⊢
  go_wp2_with fail
  go_at_call 39
  refine (HO.out _ (hv.below hb3) (hv2.below hb3)).mono ?_
  rintro e w4 ⟨rfl, hb4'⟩
  have hb4 := hb3.trans (hb4'.mono hb3.size)
  have k10 := (Blk.new w2 26 #[.int .i64 0, .int .i64 0]).below hb4' (by simp)
  have hvx4 := (hvx3.below hb4').alloc (.cells #[.int .i64 0, .int .i64 0] 26)
  have hsz4 := hb4.size
  have hb5 := hb4.alloc hsz4 (.cells #[.int .i64 0, .int .i64 0] 26)
  clear hb4' hb3 HO hvx3
  simp only
  go_wp2_with fail
  go_at_call 40
  refine (HI.out _ (hv.below hb5) (hv2.below hb5) (hv3.below hb5)).mono ?_
  rintro e w6 ⟨X6, c6, rfl, hcc6, hvx6, hb6'⟩
  have hb6 := hb5.trans (hb6'.mono hb5.size)
  have hlt10 := k10.lt
  have k10' := (k10.alloc (.cells #[.int .i64 0, .int .i64 0] 26)).below hb6' (by simp; omega)
  have k12 := (Blk.new w4 26 #[.int .i64 0, .int .i64 0]).below hb6' (by simp)
  have hsz6 := hb6.size
  have hvx7 := (hvx4.below hb6').alloc (.cells #[.int .i64 9, .int .i64 (-1)] 26)
  have hvy7 := hvx6.alloc (.cells #[.int .i64 9, .int .i64 (-1)] 26)
  have hb7 := hb6.alloc hsz6 (.cells #[.int .i64 9, .int .i64 (-1)] 26)
  clear hb6' hb5 HI k10 hvx4 hvx6
  simp only at hcc6 ⊢
  go_wp2_with fail
  go_at_call 41
  refine (HF.out _ (hv.below hb7) (hv2.below hb7)).mono ?_
  rintro e w8 ⟨rfl, hb8'⟩
  have hb8 := hb7.trans (hb8'.mono hb7.size)
  have hlt12 := k12.lt
  have hlt10' := k10'.lt
  have k10 := (k10'.alloc (.cells #[.int .i64 9, .int .i64 (-1)] 26)).below hb8' (by simp; omega)
  have k12' := (k12.alloc (.cells #[.int .i64 9, .int .i64 (-1)] 26)).below hb8' (by simp; omega)
  have k14 := (Blk.new w6 26 #[.int .i64 9, .int .i64 (-1)]).below hb8' (by simp)
  have hvx8 := (hvx7.below hb8').alloc (.cells #[.int .i64 0, .int .i64 0] 26)
  have hvy8 := (hvy7.below hb8').alloc (.cells #[.int .i64 0, .int .i64 0] 26)
  have hsz8 := hb8.size
  have hb9 := hb8.alloc hsz8 (.cells #[.int .i64 0, .int .i64 0] 26)
  have p0 := k10.cell 0
  have q0 := k12'.cell 0
  have u0 := k10.lt
  have u1 := k12'.lt
  have u2 := k14.lt
  simp only [List.getElem?_toArray, List.getElem?_cons_zero] at p0 q0
  have k14' := k14.alloc (.cells #[.int .i64 0, .int .i64 0] 26)
  clear hb8' hb7 HF k10' k12 k10 k12' hvx7 hvy7
  simp only
  go_wp2_with fail
  go_at_call 42
  refine (HCO.out _ (hv.below hb9) (hv2.below hb9)).mono ?_
  rintro e w10 ⟨X10, c10, rfl, hcc10, hvx10, hb10'⟩
  have hb10 := hb9.trans (hb10'.mono hb9.size)
  have hvx11 := hvx8.below hb10'
  have hvy11 := hvy8.below hb10'
  have k15 := k14'.below hb10' k14'.lt
  clear hb10' hb9 HCO hvx8 hvy8 k14' k14 p0 q0
  go_wp2_with fail
  go_at_call 31
  refine (HIN.out _ X2 X10 c2 c10 hvx11 hvx10).mono ?_
  rintro e w11 ⟨rfl, n, rfl⟩
  have hb12 := below_drewN hb10 n
  have hvx12 := hvx11.drewN n
  have hvy12 := hvy11.drewN n
  have k16 := k15.drewN n
  clear hvx11 hvx10 hb10 k15 hvy11
  go_wp2_with fail
  go_at_call 43
  refine (HNO.out _ (hv.below hb12) (hv2.below hb12)).mono ?_
  rintro e w13 ⟨rfl, hb13'⟩
  have hb13 := hb12.trans (hb13'.mono hb12.size)
  have hvy13 := hvy12.below hb13'
  have k17 := k16.below hb13' k16.lt
  have hsz13 := hb13.size
  have hnn : (nx != nx) = false := by simp
  clear hb13' hb12 HNO k16 hvx12 hvy12
  have hb1 : ((broken.length : Int) == l.length) = false := by have := HLEN.out; simp; omega
  have hb2 : ((broken.length : Int) != l.length) = true := by have := HLEN.out; simp; omega
  have hb3 : (broken.length == l.length) = false := by have := HLEN.out; simpa using this
  have q0 := k17.cell 0
  have q1 := k17.cell 1
  have hlt := k17.lt
  have k19 := k17.alloc (.cells #[.int .i64 9, .int .i64 (-1)] 26)
  have m0 := k19.cell 0
  have m1 := k19.cell 1
  simp only [List.getElem?_toArray, List.getElem?_cons_zero, List.getElem?_cons_succ] at m0 m1
  simp only [List.getElem?_toArray, List.getElem?_cons_zero, List.getElem?_cons_succ] at q0 q1
  go_wp2_with fail
  go_region_held3 (fun w' => w'.cell? ⟨w6.heap.size, 0, none⟩ = some (.int .i64 9) ∧ w'.cell? ⟨w6.heap.size, 1, none⟩ = some (.int .i64 (-1))) (first | exact ⟨q0, q1⟩ | exact ⟨m0, m1⟩)
    (first | (go_at_call 22; refine (fault_any _ _ _).mono ?_; rintro e w6 ⟨rfl, rfl⟩))
  go_wp2_with fail
  go_ret
  exact ⟨rfl, (below_drew hb13).alloc (below_drew hb13).size _⟩

set_option maxRecDepth 100000 in
set_option maxHeartbeats 16000000 in
theorem law12_ok (w : World) (A A2 A3 : Option Addr) (k k2 k3 : Nat) (l : List Hs.Cm) (gs : List Nat) (b : Nat) (broken : List Bool) (hv : CV w A l) (hv2 : IV w A2 (Hs.ints gs)) (hl2 : gs.length ≤ 60)
    (hv3 : BV w A3 broken) (hl3 : broken.length ≤ 9223372036854775807) (he : bcheck l (Hs.ints gs) b = (0, 0)) (hs : Hs.Srch l gs b) (hbl : broken.length = l.length) :
    Calls Try.prog 12 #[.slice A l.length k, .slice A2 gs.length k2, .int .i64 (b : Int), .slice A3 broken.length k3] w fun e w' => e = .returned (.bool true) ∧ Below w.heap.size w w' := by
  have hok := hs.ok
  have hl60 := hok.len
  have hl : l.length ≤ 9223372036854775807 := by omega
  have hi64 : ∀ (j : Nat) (h : j < (Hs.ints gs).length), I64 (Hs.ints gs)[j] := fun j h => by
    rw [ints_at gs j (by simpa using h)]
    have := hs.hgood _ (List.getElem_mem (show j < gs.length by simpa using h))
    simp [I64]; omega
  obtain ⟨e1, e2, e3, e4⟩ := ok12 he broken
  have e5 := e4 hbl
  have hgl : (Hs.ints gs).length = gs.length := Hs.ints_length gs
  have HB0 := fun (w1 : World) h h2 => e1 ▸ candidates_any w1 A A2 k k2 l (Hs.ints gs) b h hl h2 hi64 (by rw [hgl]; omega)
  have HO0 := fun (w1 : World) h h2 => e2 ▸ bnext_any w1 A A2 k k2 l (Hs.ints gs) b h hl h2 hi64 (by rw [hgl]; omega)
  have HI0 := fun (w1 : World) h h2 h3 => e5 ▸ find_any w1 A A2 A3 k k2 k3 l (Hs.ints gs) b broken h hl h2 hi64 (by rw [hgl]; omega) h3 hl3
  have HF0 := fun (w1 : World) h h2 => he ▸ bisectFault_any w1 A A2 k k2 l (Hs.ints gs) b h hl h2 hi64 (by rw [hgl]; omega)
  rw [hgl] at HB0 HO0 HI0 HF0
  have HB := Lib.hid HB0
  have HO := Lib.hid HO0
  have HI := Lib.hid HI0
  have HF := Lib.hid HF0
  have HCO := Lib.hid (fun (w1 : World) h h2 => candidatesOf_any w1 A A2 k k2 l gs b h hok h2 hs.hgood hs.hbad (by omega))
  have HNO := Lib.hid (fun (w1 : World) h h2 => rx_next hs ▸ nextOf_any w1 A A2 k k2 l gs b h hok h2 hs.hgood hs.hbad (by omega))
  have hcl := Hs.cand_len l gs b
  have HFO := Lib.hid (fun (w1 : World) h h2 h3 => findOf_any w1 A A2 A3 k k2 k3 l gs b broken h hs hl2 h2 h3 hbl)
  have hfl := (hs.find_len (brk broken)).1
  have HIN2 := Lib.hid (fun (w1 : World) (A A2 : Option Addr) (c1 c2 : Nat) h1 h2 => ints_any w1 A A2 c1 c2 (Hs.ints (Hs.find l (brk broken) gs b).2) h1 h2 (by rw [Hs.ints_length]; omega))
  clear hfl
  have HIN := Lib.hid (fun (w1 : World) (A A2 : Option Addr) (c1 c2 : Nat) h1 h2 => ints_any w1 A A2 c1 c2 (Hs.ints (Hs.cand l gs b)) h1 h2 (by rw [Hs.ints_length]; omega))
  have HLEN := Lib.hid hbl
  clear e1 e2 e3 e4 e5 HB0 HO0 HI0 HF0 hgl he hi64 hbl
  generalize Hs.nextI l (Hs.cand l gs b) = nx at *
  generalize Hs.ints (Hs.cand l gs b) = xs at *
  go_enter Try.func12, Try.ntmps12
  go_wp2_with fail
  go_at_call 37
  refine (bexample_any _).mono ?_
  rintro e w1 ⟨rfl, hb1⟩
  have hsz1 := hb1.size
  go_wp2_with fail
  go_at_call 38
  refine (HB.out _ (hv.below hb1) (hv2.below hb1)).mono ?_
  rintro e w2 ⟨X2, c2, rfl, hcc2, hvx2, hb2'⟩
  have hb2 := hb1.trans (hb2'.mono hsz1)
  have hsz2 := hb2.size
  have hb3 := hb2.alloc hsz2 (.cells #[.int .i64 0, .int .i64 0] 26)
  have hvx3 := hvx2.alloc (.cells #[.int .i64 0, .int .i64 0] 26)
  clear hb2' hb1 hsz1 HB hvx2
  simp only at hcc2 ⊢
  go_wp2_with fail
  go_at_call 39
  refine (HO.out _ (hv.below hb3) (hv2.below hb3)).mono ?_
  rintro e w4 ⟨rfl, hb4'⟩
  have hb4 := hb3.trans (hb4'.mono hb3.size)
  have k10 := (Blk.new w2 26 #[.int .i64 0, .int .i64 0]).below hb4' (by simp)
  have hvx4 := (hvx3.below hb4').alloc (.cells #[.int .i64 0, .int .i64 0] 26)
  have hsz4 := hb4.size
  have hb5 := hb4.alloc hsz4 (.cells #[.int .i64 0, .int .i64 0] 26)
  clear hb4' hb3 HO hvx3
  simp only
  go_wp2_with fail
  go_at_call 40
  refine (HI.out _ (hv.below hb5) (hv2.below hb5) (hv3.below hb5)).mono ?_
  rintro e w6 ⟨X6, c6, rfl, hcc6, hvx6, hb6'⟩
  have hb6 := hb5.trans (hb6'.mono hb5.size)
  have hlt10 := k10.lt
  have k10' := (k10.alloc (.cells #[.int .i64 0, .int .i64 0] 26)).below hb6' (by simp; omega)
  have k12 := (Blk.new w4 26 #[.int .i64 0, .int .i64 0]).below hb6' (by simp)
  have hsz6 := hb6.size
  have hvx7 := (hvx4.below hb6').alloc (.cells #[.int .i64 0, .int .i64 0] 26)
  have hvy7 := hvx6.alloc (.cells #[.int .i64 0, .int .i64 0] 26)
  have hb7 := hb6.alloc hsz6 (.cells #[.int .i64 0, .int .i64 0] 26)
  clear hb6' hb5 HI k10 hvx4 hvx6
  simp only at hcc6 ⊢
  go_wp2_with fail
  go_at_call 41
  refine (HF.out _ (hv.below hb7) (hv2.below hb7)).mono ?_
  rintro e w8 ⟨rfl, hb8'⟩
  have hb8 := hb7.trans (hb8'.mono hb7.size)
  have hlt12 := k12.lt
  have hlt10' := k10'.lt
  have k10 := (k10'.alloc (.cells #[.int .i64 0, .int .i64 0] 26)).below hb8' (by simp; omega)
  have k12' := (k12.alloc (.cells #[.int .i64 0, .int .i64 0] 26)).below hb8' (by simp; omega)
  have k14 := (Blk.new w6 26 #[.int .i64 0, .int .i64 0]).below hb8' (by simp)
  have hvx8 := (hvx7.below hb8').alloc (.cells #[.int .i64 0, .int .i64 0] 26)
  have hvy8 := (hvy7.below hb8').alloc (.cells #[.int .i64 0, .int .i64 0] 26)
  have hsz8 := hb8.size
  have hb9 := hb8.alloc hsz8 (.cells #[.int .i64 0, .int .i64 0] 26)
  have p0 := k10.cell 0
  have q0 := k12'.cell 0
  have u0 := k10.lt
  have u1 := k12'.lt
  have u2 := k14.lt
  simp only [List.getElem?_toArray, List.getElem?_cons_zero] at p0 q0
  have k14' := k14.alloc (.cells #[.int .i64 0, .int .i64 0] 26)
  clear hb8' hb7 HF k10' k12 k10 k12' hvx7 hvy7
  simp only
  go_wp2_with fail
  go_at_call 42
  refine (HCO.out _ (hv.below hb9) (hv2.below hb9)).mono ?_
  rintro e w10 ⟨X10, c10, rfl, hcc10, hvx10, hb10'⟩
  have hb10 := hb9.trans (hb10'.mono hb9.size)
  have hvx11 := hvx8.below hb10'
  have hvy11 := hvy8.below hb10'
  have k15 := k14'.below hb10' k14'.lt
  clear hb10' hb9 HCO hvx8 hvy8 k14' k14 p0 q0
  go_wp2_with fail
  go_at_call 31
  refine (HIN.out _ X2 X10 c2 c10 hvx11 hvx10).mono ?_
  rintro e w11 ⟨rfl, n, rfl⟩
  have hb12 := below_drewN hb10 n
  have hvx12 := hvx11.drewN n
  have hvy12 := hvy11.drewN n
  have k16 := k15.drewN n
  clear hvx11 hvx10 hb10 k15 hvy11
  go_wp2_with fail
  go_at_call 43
  refine (HNO.out _ (hv.below hb12) (hv2.below hb12)).mono ?_
  rintro e w13 ⟨rfl, hb13'⟩
  have hb13 := hb12.trans (hb13'.mono hb12.size)
  have hvy13 := hvy12.below hb13'
  have k17 := k16.below hb13' k16.lt
  have hsz13 := hb13.size
  have hnn : (nx != nx) = false := by simp
  clear hb13' hb12 HNO k16 hvx12 hvy12
  have hb1 : ((broken.length : Int) == l.length) = true := by have := HLEN.out; simp; omega
  have hb2 : ((broken.length : Int) != l.length) = false := by have := HLEN.out; simp; omega
  have hb3 : (broken.length == l.length) = true := by have := HLEN.out; simpa using this
  have q0 := k17.cell 0
  simp only [List.getElem?_toArray, List.getElem?_cons_zero] at q0
  have HFOC := Lib.hid (HFO.out w13 (hv.below hb13) (hv2.below hb13) (hv3.below hb13))
  go_wp2_with fail
  go_at_call 44
  refine HFOC.out.mono ?_
  rintro e w14 ⟨X14, c14, rfl, hcc14, hvx14, hb14'⟩
  have hb14 := hb13.trans (hb14'.mono hsz13)
  have hvy14 := hvy13.below hb14'
  have k18 := k17.below hb14' k17.lt
  have q0 := k18.cell 0
  simp only [List.getElem?_toArray, List.getElem?_cons_zero] at q0
  generalize Hs.find l (brk broken) gs b = r at *
  obtain ⟨fst, tst⟩ := r
  simp only [Hs.ints_length] at hvx14 hvy14 ⊢
  clear hb13 hb14' HFOC k17 hvy13
  go_wp2_with fail
  go_at_call 31
  have HI2 := HIN2.out w14 X6 X14 c6 c14 hvy14 hvx14
  simp only [Hs.ints_length] at HI2
  refine HI2.mono ?_
  rintro e w15 ⟨rfl, n2, rfl⟩
  go_wp2_with fail
  go_ret
  exact ⟨rfl, below_drewN hb14 _⟩

theorem law12_any (w : World) (A A2 A3 : Option Addr) (k k2 k3 : Nat) (l : List Hs.Cm) (good : List Int) (bad : Int) (broken : List Bool) (hv : CV w A l) (hl : l.length ≤ 9223372036854775807) (hv2 : IV w A2 good) (hi64 : ∀ (j : Nat) (h : j < good.length), I64 good[j]) (hl2 : good.length ≤ 9223372036854775807)
    (hv3 : BV w A3 broken) (hl3 : broken.length ≤ 9223372036854775807) :
    Calls Try.prog 12 #[.slice A l.length k, .slice A2 good.length k2, .int .i64 bad, .slice A3 broken.length k3] w fun e w' => e = .returned (.bool true) ∧ Below w.heap.size w w' := by
  rcases bcheck_cases l good bad with h | ⟨he, gs, b, rfl, rfl, hs, hgl⟩
  · exact law12_bad w A A2 A3 k k2 k3 l good bad broken hv hl hv2 hi64 hl2 hv3 hl3 h
  · rw [Hs.ints_length]
    by_cases hbl : broken.length = l.length
    · exact law12_ok w A A2 A3 k k2 k3 l gs b broken hv hv2 hgl hv3 hl3 he hs hbl
    · exact law12_len w A A2 A3 k k2 k3 l gs b broken hv hv2 hgl hv3 hl3 he hs hbl
end Go.Proofs.Ytoohmkdgimkgoaa
