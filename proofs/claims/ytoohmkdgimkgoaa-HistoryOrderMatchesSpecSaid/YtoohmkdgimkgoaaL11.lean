/-
  HistoryOrderMatchesSpec: the law's walk.
-/
import Derived.Test.YtoohmkdgimkgoaaW21
import Derived.Test.YtoohmkdgimkgoaaW23
import Derived.Test.YtoohmkdgimkgoaaW12
import Derived.Test.YtoohmkdgimkgoaaW3
namespace Go.Proofs.Ytoohmkdgimkgoaa
open Go.RowKit Go.V
set_option linter.unusedVariables false

theorem gens_any (w : World) (A : Option Addr) (k : Nat) (l : List Hs.Cm) (hv : CV w A l) (hl : l.length ≤ 9223372036854775807) :
    Calls Try.prog 33 #[.slice A l.length k] w (IRes w (listRes l (tab l.length (Hs.gen l)))) := by
  unfold listRes
  by_cases h : (Hs.validate l).1 = 0
  · rw [if_neg (by simpa using h)]
    exact (gens_ok w A k l hv (Hs.validate_ok l h).2).mono fun e w' h => .of_ints h
  · rw [if_pos h]
    exact (gens_bad w A k l hv hl h).mono fun e w' h => .of_none h
set_option maxRecDepth 100000 in
set_option maxHeartbeats 8000000 in
/-- One walk for both: what the calls return, and what the reference's calls return. -/
theorem law11_walk (w : World) (A : Option Addr) (k : Nat) (l : List Hs.Cm) (hv : CV w A l) (hl : l.length ≤ 9223372036854775807) (hs os gs : List Int) (c i : Int)
    (h1 : ∀ w1, CV w1 A l → Calls Try.prog 29 #[.slice A l.length k] w1 (IRes w1 (hs, (c, i))))
    (h2 : ∀ w1, CV w1 A l → Calls Try.prog 25 #[.slice A l.length k] w1 (IRes w1 (os, (c, i))))
    (h3 : ∀ w1, CV w1 A l → Calls Try.prog 33 #[.slice A l.length k] w1 (IRes w1 (gs, (c, i))))
    (h4 : ∀ w1, CV w1 A l → Calls Try.prog 19 #[.slice A l.length k] w1 (FaultPost w1 (c, i)))
    (hcase : (c ≠ 0 ∧ hs = [] ∧ os = [] ∧ gs = []) ∨ (c = 0 ∧ hs.length ≤ 60 ∧ os.length ≤ 60 ∧ gs.length ≤ 60 ∧
      (∀ w1, CV w1 A l → Calls Try.prog 34 #[.slice A l.length k] w1 (BoPost w1 hs)) ∧
      (∀ w1, CV w1 A l → Calls Try.prog 35 #[.slice A l.length k] w1 (BoPost w1 os)) ∧
      (∀ w1, CV w1 A l → Calls Try.prog 36 #[.slice A l.length k] w1 (BoPost w1 gs)))) :
    Calls Try.prog 11 #[.slice A l.length k] w fun e w' => e = .returned (.bool true) ∧ Below w.heap.size w w' := by
  have HA := Lib.hid h1
  have HB := Lib.hid h2
  have HC := Lib.hid h3
  have HF := Lib.hid h4
  have HCASE := Lib.hid hcase
  clear h1 h2 h3 h4 hcase
  go_enter Try.func11, Try.ntmps11
  go_wp2_with fail
  go_at_call 17
  refine (example_any _).mono ?_
  rintro e w1 ⟨rfl, hb1⟩
  have hsz1 := hb1.size
  go_wp2_with fail
  go_at_call 29
  refine (HA.out _ (hv.below hb1)).mono ?_
  rintro e w2 ⟨X2, c2, rfl, hcc2, hvx2, hb2'⟩
  have hb2 := hb1.trans (hb2'.mono hsz1)
  have hsz2 := hb2.size
  have hb3 := hb2.alloc hsz2 (.cells #[.int .i64 c, .int .i64 i] 26)
  have hx3 := hvx2.alloc (.cells #[.int .i64 c, .int .i64 i] 26)
  clear hb2' hb1 hsz1 HA hvx2
  simp only at hcc2 hx3 ⊢
  go_wp2_with fail
  go_at_call 25
  refine (HB.out _ (hv.below hb3)).mono ?_
  rintro e w4 ⟨X4, c4, rfl, hcc4, hvx4, hb4'⟩
  have hb4 := hb3.trans (hb4'.mono hb3.size)
  have k4 := (Blk.new w2 26 #[.int .i64 c, .int .i64 i]).below hb4' (by simp)
  have hsz4 := hb4.size
  have hb5 := hb4.alloc hsz4 (.cells #[.int .i64 c, .int .i64 i] 26)
  have hx5 := (hx3.below hb4').alloc (.cells #[.int .i64 c, .int .i64 i] 26)
  have hy5 := hvx4.alloc (.cells #[.int .i64 c, .int .i64 i] 26)
  clear hb4' hb3 HB hvx4 hx3
  simp only at hcc4 hy5 ⊢
  go_wp2_with fail
  go_at_call 33
  refine (HC.out _ (hv.below hb5)).mono ?_
  rintro e w6 ⟨X6, c6, rfl, hcc6, hvx6, hb6'⟩
  have hb6 := hb5.trans (hb6'.mono hb5.size)
  have hlt4 := k4.lt
  have k4' := (k4.alloc (.cells #[.int .i64 c, .int .i64 i] 26)).below hb6' (by simp; omega)
  have k6 := (Blk.new w4 26 #[.int .i64 c, .int .i64 i]).below hb6' (by simp)
  have hsz6 := hb6.size
  have hb7 := hb6.alloc hsz6 (.cells #[.int .i64 c, .int .i64 i] 26)
  have hx7 := (hx5.below hb6').alloc (.cells #[.int .i64 c, .int .i64 i] 26)
  have hy7 := (hy5.below hb6').alloc (.cells #[.int .i64 c, .int .i64 i] 26)
  have hz7 := hvx6.alloc (.cells #[.int .i64 c, .int .i64 i] 26)
  clear hb6' hb5 HC k4 hx5 hy5 hvx6
  simp only at hcc6 hz7 ⊢
  go_wp2_with fail
  go_at_call 19
  refine (HF.out _ (hv.below hb7)).mono ?_
  rintro e w8 ⟨rfl, hb8'⟩
  have hb8 := hb7.trans (hb8'.mono hb7.size)
  have hlt6 := k6.lt
  have hlt4' := k4'.lt
  have m4 := (k4'.alloc (.cells #[.int .i64 c, .int .i64 i] 26)).below hb8' (by simp; omega)
  have m6 := (k6.alloc (.cells #[.int .i64 c, .int .i64 i] 26)).below hb8' (by simp; omega)
  have m8 := (Blk.new w6 26 #[.int .i64 c, .int .i64 i]).below hb8' (by simp)
  have hsz8 := hb8.size
  have hb9 := hb8.alloc hsz8 (.cells #[.int .i64 c, .int .i64 i] 26)
  have hx9 := (hx7.below hb8').alloc (.cells #[.int .i64 c, .int .i64 i] 26)
  have hy9 := (hy7.below hb8').alloc (.cells #[.int .i64 c, .int .i64 i] 26)
  have hz9 := (hz7.below hb8').alloc (.cells #[.int .i64 c, .int .i64 i] 26)
  have u0 := m4.lt
  have u1 := m6.lt
  have u2 := m8.lt
  have p0 := m4.cell 0
  have p1 := m4.cell 1
  have q0 := m6.cell 0
  have q1 := m6.cell 1
  have r0 := m8.cell 0
  have r1 := m8.cell 1
  simp only [List.getElem?_toArray, List.getElem?_cons_zero, List.getElem?_cons_succ] at p0 p1 q0 q1 r0 r1
  clear hb8' hb7 HF k4' k6 hx7 hy7 hz7
  simp only
  rcases HCASE.out with ⟨hc, rfl, rfl, rfl⟩ | ⟨rfl, hl1, hl2, hl3, H1, H2, H3⟩
  · have hc1 : (c == 0) = false := by simpa using hc
    have hc2 : (c != 0) = true := by simpa using hc
    simp only [List.length_nil]
    clear hc HCASE
    go_wp2_with fail
    go_ret
    exact ⟨rfl, hb9⟩
  · have H1 := Lib.hid H1
    have H2 := Lib.hid H2
    have H3 := Lib.hid H3
    clear HCASE
    have n4 := m4.alloc (.cells #[.int .i64 0, .int .i64 i] 26)
    have n6 := m6.alloc (.cells #[.int .i64 0, .int .i64 i] 26)
    have n8 := m8.alloc (.cells #[.int .i64 0, .int .i64 i] 26)
    go_wp2_with fail
    go_at_call 34
    refine (H1.out _ (hv.below hb9)).mono ?_
    rintro e w10 ⟨X10, c10, rfl, hcc10, hv10, hb10'⟩
    have hb10 := hb9.trans (hb10'.mono hb9.size)
    have hx10 := hx9.below hb10'
    have hy10 := hy9.below hb10'
    have hz10 := hz9.below hb10'
    clear hb10' H1
    go_wp2_with fail
    go_at_call 31
    refine (ints_any w10 _ _ _ _ hs hx10 hv10 (by omega)).mono ?_
    rintro e w' ⟨rfl, n1, rfl⟩
    have hb11 := below_drewN hb10 n1
    go_wp2_with fail
    go_at_call 35
    refine (H2.out _ (hv.below hb11)).mono ?_
    rintro e w12 ⟨X12, c12, rfl, hcc12, hv12, hb12'⟩
    have hb12 := hb11.trans (hb12'.mono hb11.size)
    have hy12 := (hy10.drewN n1).below hb12'
    have hz12 := (hz10.drewN n1).below hb12'
    clear hb12' H2
    go_wp2_with fail
    go_at_call 31
    refine (ints_any w12 _ _ _ _ os hy12 hv12 (by omega)).mono ?_
    rintro e w' ⟨rfl, n2, rfl⟩
    have hb13 := below_drewN hb12 n2
    go_wp2_with fail
    go_at_call 36
    refine (H3.out _ (hv.below hb13)).mono ?_
    rintro e w14 ⟨X14, c14, rfl, hcc14, hv14, hb14'⟩
    have hb14 := hb13.trans (hb14'.mono hb13.size)
    have hz14 := (hz12.drewN n2).below hb14'
    clear hb14' H3
    go_wp2_with fail
    go_at_call 31
    refine (ints_any w14 _ _ _ _ gs hz14 hv14 (by omega)).mono ?_
    rintro e w' ⟨rfl, n3, rfl⟩
    have hb15 := below_drewN hb14 n3
    go_wp2_with fail
    go_ret
    exact ⟨rfl, hb15⟩
theorem law11_any (w : World) (A : Option Addr) (k : Nat) (l : List Hs.Cm) (hv : CV w A l) (hl : l.length ≤ 9223372036854775807) :
    Calls Try.prog 11 #[.slice A l.length k] w fun e w' => e = .returned (.bool true) ∧ Below w.heap.size w w' := by
  by_cases h : (Hs.validate l).1 = 0
  · have hok := (Hs.validate_ok l h).2
    have e : ∀ xs, listRes l xs = (xs, (0, 0)) := fun xs => by unfold listRes; rw [if_neg (by simpa using h)]
    have hl60 := hok.len
    refine law11_walk w A k l hv hl (Hs.ints (Hs.heads l)) (Hs.ints (Hs.order l)) (tab l.length (Hs.gen l)) 0 0
      (fun w1 hv => e _ ▸ heads_any w1 A k l hv hl) (fun w1 hv => e _ ▸ order_any w1 A k l hv hl) (fun w1 hv => e _ ▸ gens_any w1 A k l hv hl)
      (fun w1 hv => Hs.validate_of_ok hok ▸ historyFault_any w1 A k l hv hl) (.inr ⟨rfl, ?_, ?_, ?_, fun w1 hv => headsOf_any w1 A k l hv hok, fun w1 hv => orderOf_any w1 A k l hv hok, fun w1 hv => gensOf_any w1 A k l hv hok⟩)
    · rw [Hs.ints_length]
      have := headsTo_len l l.length
      exact Nat.le_trans this hl60
    · rw [Hs.ints_length]; simpa [Hs.order] using hl60
    · rw [tab_length]; exact hl60
  · have e : ∀ xs, listRes l xs = ([], Hs.validate l) := fun xs => by unfold listRes; rw [if_pos h]
    exact law11_walk w A k l hv hl [] [] [] (Hs.validate l).1 (Hs.validate l).2
      (fun w1 hv => e _ ▸ heads_any w1 A k l hv hl) (fun w1 hv => e _ ▸ order_any w1 A k l hv hl) (fun w1 hv => e _ ▸ gens_any w1 A k l hv hl)
      (fun w1 hv => historyFault_any w1 A k l hv hl) (.inl ⟨h, rfl, rfl, rfl⟩)
end Go.Proofs.Ytoohmkdgimkgoaa
