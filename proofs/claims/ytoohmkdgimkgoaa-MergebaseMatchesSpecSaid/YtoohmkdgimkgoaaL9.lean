/-
  MergebaseMatchesSpec: the plain law and the law's walk.
-/
import Derived.Test.YtoohmkdgimkgoaaW19
import Derived.Test.YtoohmkdgimkgoaaL10
import Derived.Test.YtoohmkdgimkgoaaW3
namespace Go.Proofs.Ytoohmkdgimkgoaa
open Go.RowKit Go.V
set_option linter.unusedVariables false

theorem pre9 {l : List Hs.Cm} (hok : Hs.Ok l) (a b : Int) :
    (¬ (0 ≤ a ∧ a < l.length) ∧ basesRes l a b = ([], (6, 0)) ∧ isRes l a b = (false, (6, 0))) ∨
    ((0 ≤ a ∧ a < l.length) ∧ ¬ (0 ≤ b ∧ b < l.length) ∧ basesRes l a b = ([], (6, 1)) ∧ isRes l a b = (false, (6, 1))) ∨
    (∃ m n : Nat, a = m ∧ b = n ∧ m < l.length ∧ n < l.length ∧ basesRes l a b = (Hs.ints (Hs.best l [m, n]), (0, 0)) ∧ isRes l a b = (Hs.reach l n m, (0, 0))) := by
  by_cases ha : 0 ≤ a ∧ a < l.length
  · by_cases hb : 0 ≤ b ∧ b < l.length
    · obtain ⟨m, rfl⟩ := Int.eq_ofNat_of_zero_le ha.1
      obtain ⟨n, rfl⟩ := Int.eq_ofNat_of_zero_le hb.1
      have hm : m < l.length := by omega
      have hn : n < l.length := by omega
      exact .inr (.inr ⟨m, n, rfl, rfl, hm, hn, basesRes_ok hok hm hn, isRes_ok hok hm hn⟩)
    · have h1 : mcheck l a b = (6, 1) := by
        unfold mcheck
        rw [Hs.validate_of_ok hok, if_neg (by simp), if_neg (by simpa using ha), if_pos hb]
      exact .inr (.inl ⟨ha, hb, by rw [basesRes_bad (by rw [h1]; simp), h1], by unfold isRes; rw [h1, if_pos (by simp)]⟩)
  · have h1 : mcheck l a b = (6, 0) := by
      unfold mcheck
      rw [Hs.validate_of_ok hok, if_neg (by simp), if_pos ha]
    exact .inl ⟨ha, by rw [basesRes_bad (by rw [h1]; simp), h1], by unfold isRes; rw [h1, if_pos (by simp)]⟩
theorem bad9 {l : List Hs.Cm} (hv : (Hs.validate l).1 ≠ 0) (a b : Int) (list : List Int) : basesRes l a b = ([], Hs.validate l) ∧ octRes l list = ([], Hs.validate l) ∧ isRes l a b = (false, Hs.validate l) := by
  have h1 : mcheck l a b = Hs.validate l := by unfold mcheck; rw [if_pos hv]
  have h2 : octCheck l list = Hs.validate l := by unfold octCheck; rw [if_pos hv]
  exact ⟨by rw [basesRes_bad (by rw [h1]; exact hv), h1], by unfold octRes; rw [h2, if_pos hv], by unfold isRes; rw [h1, if_pos hv]⟩

set_option maxRecDepth 100000 in
set_option maxHeartbeats 8000000 in
theorem law9_bad (w : World) (A A2 : Option Addr) (k k2 : Nat) (l : List Hs.Cm) (a b : Int) (list : List Int) (hv : CV w A l) (hl : l.length ≤ 9223372036854775807) (hbad : (Hs.validate l).1 ≠ 0) (hv2 : IV w A2 list) (hi64 : ∀ (j : Nat) (h : j < list.length), I64 list[j]) (hl2 : list.length ≤ 9223372036854775807) :
    Calls Try.prog 9 #[.slice A l.length k, .int .i64 a, .int .i64 b, .slice A2 list.length k2] w fun e w' => e = .returned (.bool true) ∧ Below w.heap.size w w' := by
  obtain ⟨e1, e2, e3⟩ := bad9 hbad a b list
  have HB := Lib.hid (fun (w1 : World) h => e1 ▸ bases_any w1 A k l a b h hl)
  have HO := Lib.hid (fun (w1 : World) h h2 => e2 ▸ octopus_any w1 A A2 k k2 l list h hl h2 hi64 hl2)
  have HI := Lib.hid (fun (w1 : World) h => e3 ▸ isAncestor_any w1 A k l a b h hl)
  have HF := Lib.hid (fun (w1 : World) h => historyFault_any w1 A k l h hl)
  clear e1 e2 e3
  generalize Hs.validate l = r at *
  obtain ⟨c, i⟩ := r
  simp only at hbad
  have hc1 : (c == 0) = false := by simpa using hbad
  have hc2 : (c != 0) = true := by simpa using hbad
  clear hbad
  go_enter Try.func9, Try.ntmps9
  go_wp2_with fail
  go_at_call 26
  refine (mexample_any _).mono ?_
  rintro e w1 ⟨rfl, hb1⟩
  have hsz1 := hb1.size
  go_wp2_with fail
  go_at_call 28
  refine (HB.out _ (hv.below hb1)).mono ?_
  rintro e w2 ⟨X2, c2, rfl, hcc2, hvx2, hb2'⟩
  have hb2 := hb1.trans (hb2'.mono hsz1)
  have hsz2 := hb2.size
  have hb3 := hb2.alloc hsz2 (.cells #[.int .i64 c, .int .i64 i] 26)
  clear hb2' hb1 hsz1 HB hvx2
  simp only [List.length_nil] at hcc2 ⊢
  go_wp2_with fail
  go_at_call 30
  refine (HO.out _ (hv.below hb3) (hv2.below hb3)).mono ?_
  rintro e w4 ⟨X4, c4, rfl, hcc4, hvx4, hb4'⟩
  have hb4 := hb3.trans (hb4'.mono hb3.size)
  have k10 := (Blk.new w2 26 #[.int .i64 c, .int .i64 i]).below hb4' (by simp)
  have hsz4 := hb4.size
  have hb5 := hb4.alloc hsz4 (.cells #[.int .i64 c, .int .i64 i] 26)
  clear hb4' hb3 HO hvx4
  simp only [List.length_nil] at hcc4 ⊢
  go_wp2_with fail
  go_at_call 27
  refine (HI.out _ (hv.below hb5)).mono ?_
  rintro e w6 ⟨rfl, hb6'⟩
  have hb6 := hb5.trans (hb6'.mono hb5.size)
  have hlt10 := k10.lt
  have k10' := (k10.alloc (.cells #[.int .i64 c, .int .i64 i] 26)).below hb6' (by simp; omega)
  have k12 := (Blk.new w4 26 #[.int .i64 c, .int .i64 i]).below hb6' (by simp)
  have hsz6 := hb6.size
  have hb7 := hb6.alloc hsz6 (.cells #[.int .i64 c, .int .i64 i] 26)
  clear hb6' hb5 HI k10
  simp only
  go_wp2_with fail
  go_at_call 19
  refine (HF.out _ (hv.below hb7)).mono ?_
  rintro e w8 ⟨rfl, hb8'⟩
  have hb8 := hb7.trans (hb8'.mono hb7.size)
  have hlt12 := k12.lt
  have hlt10' := k10'.lt
  have k10 := (k10'.alloc (.cells #[.int .i64 c, .int .i64 i] 26)).below hb8' (by simp; omega)
  have k12' := (k12.alloc (.cells #[.int .i64 c, .int .i64 i] 26)).below hb8' (by simp; omega)
  have k14 := (Blk.new w6 26 #[.int .i64 c, .int .i64 i]).below hb8' (by simp)
  have hsz8 := hb8.size
  have hb9 := hb8.alloc hsz8 (.cells #[.int .i64 c, .int .i64 i] 26)
  have p0 := k10.cell 0
  have p1 := k10.cell 1
  have q0 := k12'.cell 0
  have q1 := k12'.cell 1
  have r0 := k14.cell 0
  have r1 := k14.cell 1
  have u0 := k10.lt
  have u1 := k12'.lt
  have u2 := k14.lt
  simp only [List.getElem?_toArray, List.getElem?_cons_zero, List.getElem?_cons_succ] at p0 p1 q0 q1 r0 r1
  clear hb8' hb7 HF k10' k12
  simp only
  go_wp2_with fail
  go_ret
  exact ⟨rfl, hb9⟩

/-- A world is forgotten but for what is known of it. -/
theorem gen_world {C : World → Prop} {w : World} (F : World → Prop) (hF : F w) (h : ∀ wz, F wz → C wz) : C w := h w hF
structure F9 (w9 wz : World) (c j : Int) : Prop where
  bel : Below w9.heap.size w9 wz
  k16 : Blk wz w9.heap.size 26 #[.int .i64 c, .int .i64 j]
theorem F9.new (w9 : World) (c j : Int) : F9 w9 (w9.alloc (.cells #[.int .i64 c, .int .i64 j] 26)) c j := ⟨below_alloc1 _ _, Blk.new _ _ _⟩
theorem F9.alloc {w9 wz : World} {c j : Int} (h : F9 w9 wz c j) (o : Obj) : F9 w9 (wz.alloc o) c j := ⟨h.bel.alloc h.bel.size o, h.k16.alloc o⟩
theorem F9.below {w9 wz w' : World} {c j : Int} (h : F9 w9 wz c j) (hb : Below wz.heap.size wz w') : F9 w9 w' c j := ⟨h.bel.trans (hb.mono h.bel.size), h.k16.below hb h.k16.lt⟩
theorem F9.drewN {w9 wz : World} {c j : Int} (h : F9 w9 wz c j) (n : Nat) : F9 w9 (wz.drewN n) c j := ⟨below_drewN h.bel n, h.k16.drewN n⟩
theorem F9.put {w9 wz : World} {c j : Int} (h : F9 w9 wz c j) (x y : Int) : F9 w9 ((wz.setCell ⟨w9.heap.size, 0, none⟩ (.int .i64 x)).setCell ⟨w9.heap.size, 1, none⟩ (.int .i64 y)) x y :=
  ⟨(h.bel.setCell (by simp) _).setCell (by simp) _, blk_put26 h.k16 _ _⟩
theorem oct9 {l : List Hs.Cm} (hok : Hs.Ok l) (list : List Int) : octCheck l list = if list.length = 0 ∨ 60 < list.length then (9, -1) else octFrom l list 0 := by
  unfold octCheck; rw [Hs.validate_of_ok hok, if_neg (by simp)]

set_option maxRecDepth 100000 in
set_option maxHeartbeats 16000000 in
theorem law9_ok (w : World) (A A2 : Option Addr) (k k2 : Nat) (l : List Hs.Cm) (a b : Int) (list : List Int) (hv : CV w A l) (hok : Hs.Ok l) (ha64 : I64 a) (hb64 : I64 b) (hv2 : IV w A2 list) (hi64 : ∀ (j : Nat) (h : j < list.length), I64 list[j]) (hl2 : list.length ≤ 9223372036854775807) :
    Calls Try.prog 9 #[.slice A l.length k, .int .i64 a, .int .i64 b, .slice A2 list.length k2] w fun e w' => e = .returned (.bool true) ∧ Below w.heap.size w w' := by
  have hl := hok.len
  have HB := Lib.hid (fun (w1 : World) h => bases_any w1 A k l a b h (by omega))
  have HO := Lib.hid (fun (w1 : World) h h2 => octopus_any w1 A A2 k k2 l list h (by omega) h2 hi64 hl2)
  have HI := Lib.hid (fun (w1 : World) h => isAncestor_any w1 A k l a b h (by omega))
  have HF := Lib.hid (show ∀ w1, CV w1 A l → Calls Try.prog 19 #[.slice A l.length k] w1 (FaultPost w1 (0, 0)) from fun w1 h => Hs.validate_of_ok hok ▸ historyFault_any w1 A k l h (by omega))
  have HCASE := Lib.hid (pre9 hok a b)
  go_enter Try.func9, Try.ntmps9
  go_wp2_with fail
  go_at_call 26
  refine (mexample_any _).mono ?_
  rintro e w1 ⟨rfl, hb1⟩
  have hsz1 := hb1.size
  go_wp2_with fail
  go_at_call 28
  refine (HB.out _ (hv.below hb1)).mono ?_
  generalize hrb : basesRes l a b = rb at *
  obtain ⟨xs, cf, jf⟩ := rb
  have HRB := Lib.hid hrb
  rintro e w2 ⟨X2, c2, rfl, hcc2, hvx2, hb2'⟩
  have hb2 := hb1.trans (hb2'.mono hsz1)
  have hsz2 := hb2.size
  have hb3 := hb2.alloc hsz2 (.cells #[.int .i64 cf, .int .i64 jf] 26)
  have hx3 := hvx2.alloc (.cells #[.int .i64 cf, .int .i64 jf] 26)
  clear hb2' hb1 hsz1 HB hvx2 hrb
  simp only at hcc2 hx3 ⊢
  go_wp2_with fail
  go_at_call 30
  refine (HO.out _ (hv.below hb3) (hv2.below hb3)).mono ?_
  generalize hro : octRes l list = ro at *
  obtain ⟨ys, cg, jg⟩ := ro
  have HRO := Lib.hid hro
  rintro e w4 ⟨X4, c4, rfl, hcc4, hvx4, hb4'⟩
  have hb4 := hb3.trans (hb4'.mono hb3.size)
  have k10 := (Blk.new w2 26 #[.int .i64 cf, .int .i64 jf]).below hb4' (by simp)
  have hsz4 := hb4.size
  have hb5 := hb4.alloc hsz4 (.cells #[.int .i64 cg, .int .i64 jg] 26)
  have hx5 := (hx3.below hb4').alloc (.cells #[.int .i64 cg, .int .i64 jg] 26)
  have hy5 := hvx4.alloc (.cells #[.int .i64 cg, .int .i64 jg] 26)
  clear hb4' hb3 HO hvx4 hro hx3
  simp only at hcc4 hy5 ⊢
  go_wp2_with fail
  go_at_call 27
  refine (HI.out _ (hv.below hb5)).mono ?_
  generalize hri : isRes l a b = ri at *
  obtain ⟨is, ch, jh⟩ := ri
  have HRI := Lib.hid hri
  rintro e w6 ⟨rfl, hb6'⟩
  have hb6 := hb5.trans (hb6'.mono hb5.size)
  have hlt10 := k10.lt
  have k10' := (k10.alloc (.cells #[.int .i64 cg, .int .i64 jg] 26)).below hb6' (by simp; omega)
  have k12 := (Blk.new w4 26 #[.int .i64 cg, .int .i64 jg]).below hb6' (by simp)
  have hsz6 := hb6.size
  have hb7 := hb6.alloc hsz6 (.cells #[.int .i64 ch, .int .i64 jh] 26)
  have hx7 := (hx5.below hb6').alloc (.cells #[.int .i64 ch, .int .i64 jh] 26)
  have hy7 := (hy5.below hb6').alloc (.cells #[.int .i64 ch, .int .i64 jh] 26)
  clear hb6' hb5 HI k10 hri hx5 hy5
  simp only
  go_wp2_with fail
  go_at_call 19
  refine (HF.out _ (hv.below hb7)).mono ?_
  rintro e w8 ⟨rfl, hb8'⟩
  have hb8 := hb7.trans (hb8'.mono hb7.size)
  have hlt12 := k12.lt
  have hlt10' := k10'.lt
  have k10 := ((k10'.alloc (.cells #[.int .i64 ch, .int .i64 jh] 26)).below hb8' (by simp; omega)).alloc (.cells #[.int .i64 0, .int .i64 0] 26)
  have k12' := ((k12.alloc (.cells #[.int .i64 ch, .int .i64 jh] 26)).below hb8' (by simp; omega)).alloc (.cells #[.int .i64 0, .int .i64 0] 26)
  have k14 := ((Blk.new w6 26 #[.int .i64 ch, .int .i64 jh]).below hb8' (by simp)).alloc (.cells #[.int .i64 0, .int .i64 0] 26)
  have hsz8 := hb8.size
  have hb9 := hb8.alloc hsz8 (.cells #[.int .i64 0, .int .i64 0] 26)
  have hx9 := (hx7.below hb8').alloc (.cells #[.int .i64 0, .int .i64 0] 26)
  have hy9 := (hy7.below hb8').alloc (.cells #[.int .i64 0, .int .i64 0] 26)
  clear hb8' hb7 HF k10' k12 hx7 hy7
  simp only
  go_wp2_with fail
  have hz9 : w8.heap.size + 1 = (w8.alloc (.cells #[.int .i64 0, .int .i64 0] 26)).heap.size := by simp
  rw [hz9]
  clear hz9
  generalize w8.alloc (.cells #[.int .i64 0, .int .i64 0] 26) = w9 at *
  have p0 := k10.cell 0
  have p1 := k10.cell 1
  have r0 := k14.cell 0
  have r1 := k14.cell 1
  have u0 := k10.lt
  have u1 := k12'.lt
  have u2 := k14.lt
  have hsz9 := hb9.size
  simp only [List.getElem?_toArray, List.getElem?_cons_zero, List.getElem?_cons_succ] at p0 p1 r0 r1
  clear k10 k14 hb8
  rcases HCASE.out with ⟨hna, e1, e2⟩ | ⟨hya, hnb, e1, e2⟩ | ⟨m, n, rfl, rfl, hm, hn, e1, e2⟩
  · have HNA := Lib.hid (show ¬ ((0 : Int) ≤ a ∧ a ≤ (l.length : Int) - 1) from by omega)
    injection e1 with e1 e3
    injection e3 with e3 e4
    injection e2 with e2 e5
    injection e5 with e5 e6
    subst e1 e2 e3 e4 e5 e6
    clear HCASE HRB HRI hna
    simp only [List.length_nil]
    go_at_call 21
    refine (in_no _ _ _ _ HNA.out).mono ?_
    rintro e w' ⟨rfl, rfl⟩
    go_wp2_with (go_at_call 22; refine (fault_any _ _ _).mono ?_; rintro e w' ⟨rfl, rfl⟩)
    refine gen_world (C := fun w => Calls _ _ _ w _) (fun wz => F9 w9 wz 0 0) ?_ ?_
    · exact (F9.new _ _ _).alloc _
    intro wz hz
    have z0 := hz.k16.cell 0
    have z1 := hz.k16.cell 1
    have z2 := hz.k16.frozen 0
    have z3 := hz.k16.frozen 1
    have z4 := hz.k16.lt
    simp only [List.getElem?_toArray, List.getElem?_cons_zero, List.getElem?_cons_succ] at z0 z1
    by_cases hlen : list.length = 0 ∨ 60 < list.length
    · have HN := Lib.hid (show ¬ ((1 : Int) ≤ (list.length : Int) ∧ (list.length : Int) ≤ 60) from by omega)
      have HCHK := Lib.hid (show octCheck l list = (9, -1) from by rw [oct9 hok, if_pos hlen])
      clear hlen
      go_at_call 21
      refine (in_no _ _ _ _ HN.out).mono ?_
      rintro e w' ⟨rfl, rfl⟩
      go_wp2_with (go_at_call 22; refine (fault_any _ _ _).mono ?_; rintro e w' ⟨rfl, rfl⟩)
      go_loopw [17] (fun v wr => ∃ (i : Nat) (c j : Int), i ≤ list.length ∧ v = .int .i64 i ∧ F9 w9 wr c j ∧ Hid ((c ≠ 0 ∧ octCheck l list = (c, j)) ∨ (c = 0 ∧ j = 0 ∧ list.length ≠ 0 ∧ list.length ≤ 60 ∧ octCheck l list = octFrom l list i))) (fun v _ => list.length - (intOf v).toNat)
      case atStart => exact ⟨0, 9, -1, Nat.zero_le _, rfl, (hz.put _ _).alloc _, Lib.hid (.inl ⟨by decide, HCHK.out⟩)⟩
      case round =>
        obtain ⟨i, c, j, hi, rfl, hF, HD⟩ := hrel
        clear z0 z1 z2 z3 z4 hz
        obtain ⟨wo, rfl⟩ : ∃ wo : World, wo = wr := ⟨_, rfl⟩
        have z0 := hF.k16.cell 0
        have z1 := hF.k16.cell 1
        have z2 := hF.k16.frozen 0
        have z3 := hF.k16.frozen 1
        have z4 := hF.k16.lt
        have k12 := k12'.below hF.bel (by omega)
        have v0 := k12.cell 0
        have v1 := k12.cell 1
        have v2 := k12.lt
        have hszo := hF.bel.size
        simp only [List.getElem?_toArray, List.getElem?_cons_zero, List.getElem?_cons_succ] at z0 z1 v0 v1
        have hbo := hb9.trans (hF.bel.mono hsz9)
        clear k12
        by_cases hc : c = 0
        · have HD' : j = 0 ∧ list.length ≠ 0 ∧ list.length ≤ 60 ∧ octCheck l list = octFrom l list i := by
            rcases HD.out with ⟨h, _⟩ | ⟨_, h⟩
            · exact absurd hc h
            · exact h
          subst hc
          obtain ⟨rfl, hne, h60, hoc⟩ := HD'
          have HOC := Lib.hid hoc
          clear hoc HD
          by_cases hil : i < list.length
          · have hil' : (i : Int) < list.length := by omega
            obtain ⟨bx, ox, ex, hbx, hcx⟩ := hv2.atIn hbo i hil
            subst ex
            have hxi := hi64 i hil
            unfold I64 at hxi
            by_cases hr : 0 ≤ list[i] ∧ list[i] < l.length
            · have HY := Lib.hid (show (0 : Int) ≤ list[i] ∧ list[i] ≤ (l.length : Int) - 1 from by omega)
              have HJ := Lib.hid (HOC.out.trans (octFrom_next l list i hil hr))
              clear hr
              generalize list[i] = x at *
              go_wp2_with (go_at_call 21; refine (in_yes _ _ _ _ HY.out).mono ?_; rintro e w' ⟨rfl, rfl⟩)
              go_roundw
              case rel => exact ⟨i + 1, 0, 0, by omega, by go_num, hF, Lib.hid (.inr ⟨rfl, rfl, hne, h60, HJ.out⟩)⟩
              case measure => simp [intOf]; omega
            · have HY := Lib.hid (show ¬ ((0 : Int) ≤ list[i] ∧ list[i] ≤ (l.length : Int) - 1) from by omega)
              have HJ := Lib.hid (HOC.out.trans (octFrom_bad l list i hil hr))
              clear hr
              generalize list[i] = x at *
              go_wp2_with (first | (go_at_call 21; refine (in_no _ _ _ _ HY.out).mono ?_; rintro e w' ⟨rfl, rfl⟩) | (go_at_call 22; refine (fault_any _ _ _).mono ?_; rintro e w' ⟨rfl, rfl⟩))
              go_roundw
              case rel => exact ⟨i + 1, 6, i, by omega, by go_num, (hF.put _ _).alloc _, Lib.hid (.inl ⟨by decide, HJ.out⟩)⟩
              case measure => simp [intOf]; omega
          · obtain rfl : i = list.length := by omega
            have hz := HOC.out.trans (octFrom_end l list _ (Nat.le_refl _))
            have hall : ∀ j (h : j < list.length), 0 ≤ list[j] ∧ list[j] < l.length := by
              rcases octFrom_all l list list.length 0 (by omega) with ⟨_, h2⟩ | ⟨h1, _⟩
              · exact fun j hj => h2 j hj (Nat.zero_le _)
              · rw [oct9 hok, if_neg (by omega)] at hz; rw [hz] at h1; simp at h1
            obtain ⟨hni, hlt3⟩ := nats_ints list l.length hall
            have hgood := oct_good hok list hne h60 (fun x hx => by obtain ⟨j, hj, rfl⟩ := List.mem_iff_getElem.1 hx; exact hall j hj)
            have e1 := HRO.out.symm.trans hgood
            injection e1 with e1 e3
            injection e3 with e3 e4
            have hbl : ys.length ≤ l.length := by rw [e1, Hs.ints_length]; exact best_len _ _
            have hiv : IV wo A2 (Hs.ints (Hs.nats list)) := by rw [← hni]; exact hv2.below hbo
            have hb0 := bestOf_any wo A A2 k k2 l (Hs.nats list) (hv.below hbo) hok hiv hlt3 (by simp [Hs.nats]; omega)
            rw [show (Hs.nats list).length = list.length from by simp [Hs.nats], ← e1] at hb0
            have HCALL := Lib.hid hb0
            have hyo := hy9.below hF.bel
            subst e3 e4
            clear hb0 hz hall hni hlt3 hgood hiv e1
            go_wp2_with fail
            go_at_call 32
            refine HCALL.out.mono ?_
            rintro e w12 ⟨X12, c12, rfl, hcc12, hv12, hb12⟩
            have hbf := hbo.trans (hb12.mono hbo.size)
            have hyf := hyo.below hb12
            clear HCALL hb12
            go_wp2_with fail
            go_at_call 31
            refine (ints_any w12 _ _ _ _ ys hyf hv12 (by omega)).mono ?_
            rintro e w' ⟨rfl, n2, rfl⟩
            go_wp2_with fail
            go_ret
            exact ⟨rfl, below_drewN hbf n2⟩
        · have hoc : octCheck l list = (c, j) := by
            rcases HD.out with ⟨_, h⟩ | ⟨h, _⟩
            · exact h
            · exact absurd h hc
          have hbadr : octRes l list = ([], (c, j)) := by unfold octRes; rw [hoc, if_pos hc]
          have e1 := HRO.out.symm.trans hbadr
          injection e1 with e1 e3
          injection e3 with e3 e4
          subst e1 e3 e4
          have hc1 : (cg == 0) = false := by simpa using hc
          have hc2 : (cg != 0) = true := by simpa using hc
          simp only [List.length_nil]
          clear hbadr hoc HD hc
          by_cases hil : i < list.length
          · have hil' : (i : Int) < list.length := by omega
            go_wp2_with fail
            go_ret
            exact ⟨rfl, hbo⟩
          · obtain rfl : i = list.length := by omega
            go_wp2_with fail
            go_ret
            exact ⟨rfl, hbo⟩
    · have HN := Lib.hid (show (1 : Int) ≤ (list.length : Int) ∧ (list.length : Int) ≤ 60 from by omega)
      have HCHK := Lib.hid (show octCheck l list = octFrom l list 0 from by rw [oct9 hok, if_neg hlen])
      have HLEN := Lib.hid (show list.length ≠ 0 ∧ list.length ≤ 60 from by omega)
      clear hlen
      go_at_call 21
      refine (in_yes _ _ _ _ HN.out).mono ?_
      rintro e w' ⟨rfl, rfl⟩
      go_wp2_with fail
      go_loopw [17] (fun v wr => ∃ (i : Nat) (c j : Int), i ≤ list.length ∧ v = .int .i64 i ∧ F9 w9 wr c j ∧ Hid ((c ≠ 0 ∧ octCheck l list = (c, j)) ∨ (c = 0 ∧ j = 0 ∧ list.length ≠ 0 ∧ list.length ≤ 60 ∧ octCheck l list = octFrom l list i))) (fun v _ => list.length - (intOf v).toNat)
      case atStart => exact ⟨0, 0, 0, Nat.zero_le _, rfl, hz, Lib.hid (.inr ⟨rfl, rfl, HLEN.out.1, HLEN.out.2, HCHK.out⟩)⟩
      case round =>
        obtain ⟨i, c, j, hi, rfl, hF, HD⟩ := hrel
        clear z0 z1 z2 z3 z4 hz
        obtain ⟨wo, rfl⟩ : ∃ wo : World, wo = wr := ⟨_, rfl⟩
        have z0 := hF.k16.cell 0
        have z1 := hF.k16.cell 1
        have z2 := hF.k16.frozen 0
        have z3 := hF.k16.frozen 1
        have z4 := hF.k16.lt
        have k12 := k12'.below hF.bel (by omega)
        have v0 := k12.cell 0
        have v1 := k12.cell 1
        have v2 := k12.lt
        have hszo := hF.bel.size
        simp only [List.getElem?_toArray, List.getElem?_cons_zero, List.getElem?_cons_succ] at z0 z1 v0 v1
        have hbo := hb9.trans (hF.bel.mono hsz9)
        clear k12
        by_cases hc : c = 0
        · have HD' : j = 0 ∧ list.length ≠ 0 ∧ list.length ≤ 60 ∧ octCheck l list = octFrom l list i := by
            rcases HD.out with ⟨h, _⟩ | ⟨_, h⟩
            · exact absurd hc h
            · exact h
          subst hc
          obtain ⟨rfl, hne, h60, hoc⟩ := HD'
          have HOC := Lib.hid hoc
          clear hoc HD
          by_cases hil : i < list.length
          · have hil' : (i : Int) < list.length := by omega
            obtain ⟨bx, ox, ex, hbx, hcx⟩ := hv2.atIn hbo i hil
            subst ex
            have hxi := hi64 i hil
            unfold I64 at hxi
            by_cases hr : 0 ≤ list[i] ∧ list[i] < l.length
            · have HY := Lib.hid (show (0 : Int) ≤ list[i] ∧ list[i] ≤ (l.length : Int) - 1 from by omega)
              have HJ := Lib.hid (HOC.out.trans (octFrom_next l list i hil hr))
              clear hr
              generalize list[i] = x at *
              go_wp2_with (go_at_call 21; refine (in_yes _ _ _ _ HY.out).mono ?_; rintro e w' ⟨rfl, rfl⟩)
              go_roundw
              case rel => exact ⟨i + 1, 0, 0, by omega, by go_num, hF, Lib.hid (.inr ⟨rfl, rfl, hne, h60, HJ.out⟩)⟩
              case measure => simp [intOf]; omega
            · have HY := Lib.hid (show ¬ ((0 : Int) ≤ list[i] ∧ list[i] ≤ (l.length : Int) - 1) from by omega)
              have HJ := Lib.hid (HOC.out.trans (octFrom_bad l list i hil hr))
              clear hr
              generalize list[i] = x at *
              go_wp2_with (first | (go_at_call 21; refine (in_no _ _ _ _ HY.out).mono ?_; rintro e w' ⟨rfl, rfl⟩) | (go_at_call 22; refine (fault_any _ _ _).mono ?_; rintro e w' ⟨rfl, rfl⟩))
              go_roundw
              case rel => exact ⟨i + 1, 6, i, by omega, by go_num, (hF.put _ _).alloc _, Lib.hid (.inl ⟨by decide, HJ.out⟩)⟩
              case measure => simp [intOf]; omega
          · obtain rfl : i = list.length := by omega
            have hz := HOC.out.trans (octFrom_end l list _ (Nat.le_refl _))
            have hall : ∀ j (h : j < list.length), 0 ≤ list[j] ∧ list[j] < l.length := by
              rcases octFrom_all l list list.length 0 (by omega) with ⟨_, h2⟩ | ⟨h1, _⟩
              · exact fun j hj => h2 j hj (Nat.zero_le _)
              · rw [oct9 hok, if_neg (by omega)] at hz; rw [hz] at h1; simp at h1
            obtain ⟨hni, hlt3⟩ := nats_ints list l.length hall
            have hgood := oct_good hok list hne h60 (fun x hx => by obtain ⟨j, hj, rfl⟩ := List.mem_iff_getElem.1 hx; exact hall j hj)
            have e1 := HRO.out.symm.trans hgood
            injection e1 with e1 e3
            injection e3 with e3 e4
            have hbl : ys.length ≤ l.length := by rw [e1, Hs.ints_length]; exact best_len _ _
            have hiv : IV wo A2 (Hs.ints (Hs.nats list)) := by rw [← hni]; exact hv2.below hbo
            have hb0 := bestOf_any wo A A2 k k2 l (Hs.nats list) (hv.below hbo) hok hiv hlt3 (by simp [Hs.nats]; omega)
            rw [show (Hs.nats list).length = list.length from by simp [Hs.nats], ← e1] at hb0
            have HCALL := Lib.hid hb0
            have hyo := hy9.below hF.bel
            subst e3 e4
            clear hb0 hz hall hni hlt3 hgood hiv e1
            go_wp2_with fail
            go_at_call 32
            refine HCALL.out.mono ?_
            rintro e w12 ⟨X12, c12, rfl, hcc12, hv12, hb12⟩
            have hbf := hbo.trans (hb12.mono hbo.size)
            have hyf := hyo.below hb12
            clear HCALL hb12
            go_wp2_with fail
            go_at_call 31
            refine (ints_any w12 _ _ _ _ ys hyf hv12 (by omega)).mono ?_
            rintro e w' ⟨rfl, n2, rfl⟩
            go_wp2_with fail
            go_ret
            exact ⟨rfl, below_drewN hbf n2⟩
        · have hoc : octCheck l list = (c, j) := by
            rcases HD.out with ⟨_, h⟩ | ⟨h, _⟩
            · exact h
            · exact absurd h hc
          have hbadr : octRes l list = ([], (c, j)) := by unfold octRes; rw [hoc, if_pos hc]
          have e1 := HRO.out.symm.trans hbadr
          injection e1 with e1 e3
          injection e3 with e3 e4
          subst e1 e3 e4
          have hc1 : (cg == 0) = false := by simpa using hc
          have hc2 : (cg != 0) = true := by simpa using hc
          simp only [List.length_nil]
          clear hbadr hoc HD hc
          by_cases hil : i < list.length
          · have hil' : (i : Int) < list.length := by omega
            go_wp2_with fail
            go_ret
            exact ⟨rfl, hbo⟩
          · obtain rfl : i = list.length := by omega
            go_wp2_with fail
            go_ret
            exact ⟨rfl, hbo⟩
  · have HYA := Lib.hid (show (0 : Int) ≤ a ∧ a ≤ (l.length : Int) - 1 from by omega)
    have HNB := Lib.hid (show ¬ ((0 : Int) ≤ b ∧ b ≤ (l.length : Int) - 1) from by omega)
    injection e1 with e1 e3
    injection e3 with e3 e4
    injection e2 with e2 e5
    injection e5 with e5 e6
    subst e1 e2 e3 e4 e5 e6
    clear HCASE HRB HRI hya hnb
    simp only [List.length_nil]
    go_at_call 21
    refine (in_yes _ _ _ _ HYA.out).mono ?_
    rintro e w' ⟨rfl, rfl⟩
    go_wp2_with fail
    go_at_call 21
    refine (in_no _ _ _ _ HNB.out).mono ?_
    rintro e w' ⟨rfl, rfl⟩
    go_wp2_with (go_at_call 22; refine (fault_any _ _ _).mono ?_; rintro e w' ⟨rfl, rfl⟩)
    refine gen_world (C := fun w => Calls _ _ _ w _) (fun wz => F9 w9 wz 0 0) ?_ ?_
    · exact (F9.new _ _ _).alloc _
    intro wz hz
    have z0 := hz.k16.cell 0
    have z1 := hz.k16.cell 1
    have z2 := hz.k16.frozen 0
    have z3 := hz.k16.frozen 1
    have z4 := hz.k16.lt
    simp only [List.getElem?_toArray, List.getElem?_cons_zero, List.getElem?_cons_succ] at z0 z1
    by_cases hlen : list.length = 0 ∨ 60 < list.length
    · have HN := Lib.hid (show ¬ ((1 : Int) ≤ (list.length : Int) ∧ (list.length : Int) ≤ 60) from by omega)
      have HCHK := Lib.hid (show octCheck l list = (9, -1) from by rw [oct9 hok, if_pos hlen])
      clear hlen
      go_at_call 21
      refine (in_no _ _ _ _ HN.out).mono ?_
      rintro e w' ⟨rfl, rfl⟩
      go_wp2_with (go_at_call 22; refine (fault_any _ _ _).mono ?_; rintro e w' ⟨rfl, rfl⟩)
      go_loopw [17] (fun v wr => ∃ (i : Nat) (c j : Int), i ≤ list.length ∧ v = .int .i64 i ∧ F9 w9 wr c j ∧ Hid ((c ≠ 0 ∧ octCheck l list = (c, j)) ∨ (c = 0 ∧ j = 0 ∧ list.length ≠ 0 ∧ list.length ≤ 60 ∧ octCheck l list = octFrom l list i))) (fun v _ => list.length - (intOf v).toNat)
      case atStart => exact ⟨0, 9, -1, Nat.zero_le _, rfl, (hz.put _ _).alloc _, Lib.hid (.inl ⟨by decide, HCHK.out⟩)⟩
      case round =>
        obtain ⟨i, c, j, hi, rfl, hF, HD⟩ := hrel
        clear z0 z1 z2 z3 z4 hz
        obtain ⟨wo, rfl⟩ : ∃ wo : World, wo = wr := ⟨_, rfl⟩
        have z0 := hF.k16.cell 0
        have z1 := hF.k16.cell 1
        have z2 := hF.k16.frozen 0
        have z3 := hF.k16.frozen 1
        have z4 := hF.k16.lt
        have k12 := k12'.below hF.bel (by omega)
        have v0 := k12.cell 0
        have v1 := k12.cell 1
        have v2 := k12.lt
        have hszo := hF.bel.size
        simp only [List.getElem?_toArray, List.getElem?_cons_zero, List.getElem?_cons_succ] at z0 z1 v0 v1
        have hbo := hb9.trans (hF.bel.mono hsz9)
        clear k12
        by_cases hc : c = 0
        · have HD' : j = 0 ∧ list.length ≠ 0 ∧ list.length ≤ 60 ∧ octCheck l list = octFrom l list i := by
            rcases HD.out with ⟨h, _⟩ | ⟨_, h⟩
            · exact absurd hc h
            · exact h
          subst hc
          obtain ⟨rfl, hne, h60, hoc⟩ := HD'
          have HOC := Lib.hid hoc
          clear hoc HD
          by_cases hil : i < list.length
          · have hil' : (i : Int) < list.length := by omega
            obtain ⟨bx, ox, ex, hbx, hcx⟩ := hv2.atIn hbo i hil
            subst ex
            have hxi := hi64 i hil
            unfold I64 at hxi
            by_cases hr : 0 ≤ list[i] ∧ list[i] < l.length
            · have HY := Lib.hid (show (0 : Int) ≤ list[i] ∧ list[i] ≤ (l.length : Int) - 1 from by omega)
              have HJ := Lib.hid (HOC.out.trans (octFrom_next l list i hil hr))
              clear hr
              generalize list[i] = x at *
              go_wp2_with (go_at_call 21; refine (in_yes _ _ _ _ HY.out).mono ?_; rintro e w' ⟨rfl, rfl⟩)
              go_roundw
              case rel => exact ⟨i + 1, 0, 0, by omega, by go_num, hF, Lib.hid (.inr ⟨rfl, rfl, hne, h60, HJ.out⟩)⟩
              case measure => simp [intOf]; omega
            · have HY := Lib.hid (show ¬ ((0 : Int) ≤ list[i] ∧ list[i] ≤ (l.length : Int) - 1) from by omega)
              have HJ := Lib.hid (HOC.out.trans (octFrom_bad l list i hil hr))
              clear hr
              generalize list[i] = x at *
              go_wp2_with (first | (go_at_call 21; refine (in_no _ _ _ _ HY.out).mono ?_; rintro e w' ⟨rfl, rfl⟩) | (go_at_call 22; refine (fault_any _ _ _).mono ?_; rintro e w' ⟨rfl, rfl⟩))
              go_roundw
              case rel => exact ⟨i + 1, 6, i, by omega, by go_num, (hF.put _ _).alloc _, Lib.hid (.inl ⟨by decide, HJ.out⟩)⟩
              case measure => simp [intOf]; omega
          · obtain rfl : i = list.length := by omega
            have hz := HOC.out.trans (octFrom_end l list _ (Nat.le_refl _))
            have hall : ∀ j (h : j < list.length), 0 ≤ list[j] ∧ list[j] < l.length := by
              rcases octFrom_all l list list.length 0 (by omega) with ⟨_, h2⟩ | ⟨h1, _⟩
              · exact fun j hj => h2 j hj (Nat.zero_le _)
              · rw [oct9 hok, if_neg (by omega)] at hz; rw [hz] at h1; simp at h1
            obtain ⟨hni, hlt3⟩ := nats_ints list l.length hall
            have hgood := oct_good hok list hne h60 (fun x hx => by obtain ⟨j, hj, rfl⟩ := List.mem_iff_getElem.1 hx; exact hall j hj)
            have e1 := HRO.out.symm.trans hgood
            injection e1 with e1 e3
            injection e3 with e3 e4
            have hbl : ys.length ≤ l.length := by rw [e1, Hs.ints_length]; exact best_len _ _
            have hiv : IV wo A2 (Hs.ints (Hs.nats list)) := by rw [← hni]; exact hv2.below hbo
            have hb0 := bestOf_any wo A A2 k k2 l (Hs.nats list) (hv.below hbo) hok hiv hlt3 (by simp [Hs.nats]; omega)
            rw [show (Hs.nats list).length = list.length from by simp [Hs.nats], ← e1] at hb0
            have HCALL := Lib.hid hb0
            have hyo := hy9.below hF.bel
            subst e3 e4
            clear hb0 hz hall hni hlt3 hgood hiv e1
            go_wp2_with fail
            go_at_call 32
            refine HCALL.out.mono ?_
            rintro e w12 ⟨X12, c12, rfl, hcc12, hv12, hb12⟩
            have hbf := hbo.trans (hb12.mono hbo.size)
            have hyf := hyo.below hb12
            clear HCALL hb12
            go_wp2_with fail
            go_at_call 31
            refine (ints_any w12 _ _ _ _ ys hyf hv12 (by omega)).mono ?_
            rintro e w' ⟨rfl, n2, rfl⟩
            go_wp2_with fail
            go_ret
            exact ⟨rfl, below_drewN hbf n2⟩
        · have hoc : octCheck l list = (c, j) := by
            rcases HD.out with ⟨_, h⟩ | ⟨h, _⟩
            · exact h
            · exact absurd h hc
          have hbadr : octRes l list = ([], (c, j)) := by unfold octRes; rw [hoc, if_pos hc]
          have e1 := HRO.out.symm.trans hbadr
          injection e1 with e1 e3
          injection e3 with e3 e4
          subst e1 e3 e4
          have hc1 : (cg == 0) = false := by simpa using hc
          have hc2 : (cg != 0) = true := by simpa using hc
          simp only [List.length_nil]
          clear hbadr hoc HD hc
          by_cases hil : i < list.length
          · have hil' : (i : Int) < list.length := by omega
            go_wp2_with fail
            go_ret
            exact ⟨rfl, hbo⟩
          · obtain rfl : i = list.length := by omega
            go_wp2_with fail
            go_ret
            exact ⟨rfl, hbo⟩
    · have HN := Lib.hid (show (1 : Int) ≤ (list.length : Int) ∧ (list.length : Int) ≤ 60 from by omega)
      have HCHK := Lib.hid (show octCheck l list = octFrom l list 0 from by rw [oct9 hok, if_neg hlen])
      have HLEN := Lib.hid (show list.length ≠ 0 ∧ list.length ≤ 60 from by omega)
      clear hlen
      go_at_call 21
      refine (in_yes _ _ _ _ HN.out).mono ?_
      rintro e w' ⟨rfl, rfl⟩
      go_wp2_with fail
      go_loopw [17] (fun v wr => ∃ (i : Nat) (c j : Int), i ≤ list.length ∧ v = .int .i64 i ∧ F9 w9 wr c j ∧ Hid ((c ≠ 0 ∧ octCheck l list = (c, j)) ∨ (c = 0 ∧ j = 0 ∧ list.length ≠ 0 ∧ list.length ≤ 60 ∧ octCheck l list = octFrom l list i))) (fun v _ => list.length - (intOf v).toNat)
      case atStart => exact ⟨0, 0, 0, Nat.zero_le _, rfl, hz, Lib.hid (.inr ⟨rfl, rfl, HLEN.out.1, HLEN.out.2, HCHK.out⟩)⟩
      case round =>
        obtain ⟨i, c, j, hi, rfl, hF, HD⟩ := hrel
        clear z0 z1 z2 z3 z4 hz
        obtain ⟨wo, rfl⟩ : ∃ wo : World, wo = wr := ⟨_, rfl⟩
        have z0 := hF.k16.cell 0
        have z1 := hF.k16.cell 1
        have z2 := hF.k16.frozen 0
        have z3 := hF.k16.frozen 1
        have z4 := hF.k16.lt
        have k12 := k12'.below hF.bel (by omega)
        have v0 := k12.cell 0
        have v1 := k12.cell 1
        have v2 := k12.lt
        have hszo := hF.bel.size
        simp only [List.getElem?_toArray, List.getElem?_cons_zero, List.getElem?_cons_succ] at z0 z1 v0 v1
        have hbo := hb9.trans (hF.bel.mono hsz9)
        clear k12
        by_cases hc : c = 0
        · have HD' : j = 0 ∧ list.length ≠ 0 ∧ list.length ≤ 60 ∧ octCheck l list = octFrom l list i := by
            rcases HD.out with ⟨h, _⟩ | ⟨_, h⟩
            · exact absurd hc h
            · exact h
          subst hc
          obtain ⟨rfl, hne, h60, hoc⟩ := HD'
          have HOC := Lib.hid hoc
          clear hoc HD
          by_cases hil : i < list.length
          · have hil' : (i : Int) < list.length := by omega
            obtain ⟨bx, ox, ex, hbx, hcx⟩ := hv2.atIn hbo i hil
            subst ex
            have hxi := hi64 i hil
            unfold I64 at hxi
            by_cases hr : 0 ≤ list[i] ∧ list[i] < l.length
            · have HY := Lib.hid (show (0 : Int) ≤ list[i] ∧ list[i] ≤ (l.length : Int) - 1 from by omega)
              have HJ := Lib.hid (HOC.out.trans (octFrom_next l list i hil hr))
              clear hr
              generalize list[i] = x at *
              go_wp2_with (go_at_call 21; refine (in_yes _ _ _ _ HY.out).mono ?_; rintro e w' ⟨rfl, rfl⟩)
              go_roundw
              case rel => exact ⟨i + 1, 0, 0, by omega, by go_num, hF, Lib.hid (.inr ⟨rfl, rfl, hne, h60, HJ.out⟩)⟩
              case measure => simp [intOf]; omega
            · have HY := Lib.hid (show ¬ ((0 : Int) ≤ list[i] ∧ list[i] ≤ (l.length : Int) - 1) from by omega)
              have HJ := Lib.hid (HOC.out.trans (octFrom_bad l list i hil hr))
              clear hr
              generalize list[i] = x at *
              go_wp2_with (first | (go_at_call 21; refine (in_no _ _ _ _ HY.out).mono ?_; rintro e w' ⟨rfl, rfl⟩) | (go_at_call 22; refine (fault_any _ _ _).mono ?_; rintro e w' ⟨rfl, rfl⟩))
              go_roundw
              case rel => exact ⟨i + 1, 6, i, by omega, by go_num, (hF.put _ _).alloc _, Lib.hid (.inl ⟨by decide, HJ.out⟩)⟩
              case measure => simp [intOf]; omega
          · obtain rfl : i = list.length := by omega
            have hz := HOC.out.trans (octFrom_end l list _ (Nat.le_refl _))
            have hall : ∀ j (h : j < list.length), 0 ≤ list[j] ∧ list[j] < l.length := by
              rcases octFrom_all l list list.length 0 (by omega) with ⟨_, h2⟩ | ⟨h1, _⟩
              · exact fun j hj => h2 j hj (Nat.zero_le _)
              · rw [oct9 hok, if_neg (by omega)] at hz; rw [hz] at h1; simp at h1
            obtain ⟨hni, hlt3⟩ := nats_ints list l.length hall
            have hgood := oct_good hok list hne h60 (fun x hx => by obtain ⟨j, hj, rfl⟩ := List.mem_iff_getElem.1 hx; exact hall j hj)
            have e1 := HRO.out.symm.trans hgood
            injection e1 with e1 e3
            injection e3 with e3 e4
            have hbl : ys.length ≤ l.length := by rw [e1, Hs.ints_length]; exact best_len _ _
            have hiv : IV wo A2 (Hs.ints (Hs.nats list)) := by rw [← hni]; exact hv2.below hbo
            have hb0 := bestOf_any wo A A2 k k2 l (Hs.nats list) (hv.below hbo) hok hiv hlt3 (by simp [Hs.nats]; omega)
            rw [show (Hs.nats list).length = list.length from by simp [Hs.nats], ← e1] at hb0
            have HCALL := Lib.hid hb0
            have hyo := hy9.below hF.bel
            subst e3 e4
            clear hb0 hz hall hni hlt3 hgood hiv e1
            go_wp2_with fail
            go_at_call 32
            refine HCALL.out.mono ?_
            rintro e w12 ⟨X12, c12, rfl, hcc12, hv12, hb12⟩
            have hbf := hbo.trans (hb12.mono hbo.size)
            have hyf := hyo.below hb12
            clear HCALL hb12
            go_wp2_with fail
            go_at_call 31
            refine (ints_any w12 _ _ _ _ ys hyf hv12 (by omega)).mono ?_
            rintro e w' ⟨rfl, n2, rfl⟩
            go_wp2_with fail
            go_ret
            exact ⟨rfl, below_drewN hbf n2⟩
        · have hoc : octCheck l list = (c, j) := by
            rcases HD.out with ⟨_, h⟩ | ⟨h, _⟩
            · exact h
            · exact absurd h hc
          have hbadr : octRes l list = ([], (c, j)) := by unfold octRes; rw [hoc, if_pos hc]
          have e1 := HRO.out.symm.trans hbadr
          injection e1 with e1 e3
          injection e3 with e3 e4
          subst e1 e3 e4
          have hc1 : (cg == 0) = false := by simpa using hc
          have hc2 : (cg != 0) = true := by simpa using hc
          simp only [List.length_nil]
          clear hbadr hoc HD hc
          by_cases hil : i < list.length
          · have hil' : (i : Int) < list.length := by omega
            go_wp2_with fail
            go_ret
            exact ⟨rfl, hbo⟩
          · obtain rfl : i = list.length := by omega
            go_wp2_with fail
            go_ret
            exact ⟨rfl, hbo⟩
  · have HYA := Lib.hid (show (0 : Int) ≤ (m : Int) ∧ (m : Int) ≤ (l.length : Int) - 1 from by omega)
    have HYB := Lib.hid (show (0 : Int) ≤ (n : Int) ∧ (n : Int) ≤ (l.length : Int) - 1 from by omega)
    have hbl : (Hs.ints (Hs.best l [m, n])).length ≤ l.length := by rw [Hs.ints_length]; exact best_len _ _
    injection e1 with e1 e3
    injection e3 with e3 e4
    injection e2 with e2 e5
    injection e5 with e5 e6
    subst e1 e2 e3 e4 e5 e6
    clear HCASE HRB HRI
    have HBO := Lib.hid (fun (w1 : World) (g : Nat) h h2 => bestOf_any w1 A (some ⟨g, 0, none⟩) k 2 l [m, n] h hok h2 (by intro x hx; simp at hx; rcases hx with h | h <;> subst h <;> assumption) (by simp))
    have HRE := Lib.hid (fun (w1 : World) h => reach_any w1 A k l h hok)
    have HRD : ∃ q, Hs.reach l n m = q := ⟨_, rfl⟩
    generalize Hs.ints (Hs.best l [m, n]) = xs at *
    have hlt1 : (m : Int) < l.length := by omega
    have hlt2 : (n : Int) < l.length := by omega
    go_at_call 21
    refine (in_yes _ _ _ _ HYA.out).mono ?_
    rintro e w' ⟨rfl, rfl⟩
    go_wp2_with fail
    go_at_call 21
    refine (in_yes _ _ _ _ HYB.out).mono ?_
    rintro e w' ⟨rfl, rfl⟩
    go_wp2_with fail
    have f1 := (F9.new w9 0 0).alloc (.cells (intsA [(m : Int), (n : Int)]) 3)
    go_at_call 32
    refine (HBO.out _ (w9.heap.size + 1) (hv.below (hb9.trans (f1.bel.mono hsz9))) (lit_ints _ [(m : Int), (n : Int)] 3 _ (by simp))).mono ?_
    rintro e w10 ⟨X10, c10, rfl, hcc10, hv10, hb10⟩
    have f2 := f1.below hb10
    have hsz10 := f2.bel.size
    simp only at hcc10 hv10 ⊢
    clear f1 hb10
    go_wp2_with fail
    go_at_call 31
    refine (ints_any w10 _ _ _ _ xs (hx9.below f2.bel) hv10 (by omega)).mono ?_
    rintro e w' ⟨rfl, n1, rfl⟩
    have f3 := f2.drewN n1
    clear f2
    go_wp2_with fail
    go_at_call 24
    refine (HRE.out _ (hv.below (hb9.trans (f3.bel.mono hsz9)))).mono ?_
    rintro e w11 ⟨At, ct, rfl, hmv, hb11⟩
    have f4 := f3.below hb11
    obtain ⟨b1, o1, b2, o2, c4', rfl, hm1, hm2⟩ := mv_cell hmv (Below.refl _ _) n m hn hm
    obtain ⟨q, hq⟩ := HRD
    rw [hq] at hm2 ⊢
    clear f3 hb11 hmv hq
    have y0 := f4.k16.cell 0
    have y1 := f4.k16.cell 1
    have y2 := f4.k16.frozen 0
    have y3 := f4.k16.frozen 1
    have y4 := f4.k16.lt
    simp only [List.getElem?_toArray, List.getElem?_cons_zero, List.getElem?_cons_succ] at y0 y1
    go_wp2_with fail
    refine gen_world (C := fun w => Calls _ _ _ w _) (fun wz => F9 w9 wz 0 0) ?_ ?_
    · exact f4.put 0 0
    intro wz hz
    have z0 := hz.k16.cell 0
    have z1 := hz.k16.cell 1
    have z2 := hz.k16.frozen 0
    have z3 := hz.k16.frozen 1
    have z4 := hz.k16.lt
    simp only [List.getElem?_toArray, List.getElem?_cons_zero, List.getElem?_cons_succ] at z0 z1
    by_cases hlen : list.length = 0 ∨ 60 < list.length
    · have HN := Lib.hid (show ¬ ((1 : Int) ≤ (list.length : Int) ∧ (list.length : Int) ≤ 60) from by omega)
      have HCHK := Lib.hid (show octCheck l list = (9, -1) from by rw [oct9 hok, if_pos hlen])
      clear hlen
      go_at_call 21
      refine (in_no _ _ _ _ HN.out).mono ?_
      rintro e w' ⟨rfl, rfl⟩
      go_wp2_with (go_at_call 22; refine (fault_any _ _ _).mono ?_; rintro e w' ⟨rfl, rfl⟩)
      go_loopw [17] (fun v wr => ∃ (i : Nat) (c j : Int), i ≤ list.length ∧ v = .int .i64 i ∧ F9 w9 wr c j ∧ Hid ((c ≠ 0 ∧ octCheck l list = (c, j)) ∨ (c = 0 ∧ j = 0 ∧ list.length ≠ 0 ∧ list.length ≤ 60 ∧ octCheck l list = octFrom l list i))) (fun v _ => list.length - (intOf v).toNat)
      case atStart => exact ⟨0, 9, -1, Nat.zero_le _, rfl, (hz.put _ _).alloc _, Lib.hid (.inl ⟨by decide, HCHK.out⟩)⟩
      case round =>
        obtain ⟨i, c, j, hi, rfl, hF, HD⟩ := hrel
        clear z0 z1 z2 z3 z4 hz
        obtain ⟨wo, rfl⟩ : ∃ wo : World, wo = wr := ⟨_, rfl⟩
        have z0 := hF.k16.cell 0
        have z1 := hF.k16.cell 1
        have z2 := hF.k16.frozen 0
        have z3 := hF.k16.frozen 1
        have z4 := hF.k16.lt
        have k12 := k12'.below hF.bel (by omega)
        have v0 := k12.cell 0
        have v1 := k12.cell 1
        have v2 := k12.lt
        have hszo := hF.bel.size
        simp only [List.getElem?_toArray, List.getElem?_cons_zero, List.getElem?_cons_succ] at z0 z1 v0 v1
        have hbo := hb9.trans (hF.bel.mono hsz9)
        clear k12
        by_cases hc : c = 0
        · have HD' : j = 0 ∧ list.length ≠ 0 ∧ list.length ≤ 60 ∧ octCheck l list = octFrom l list i := by
            rcases HD.out with ⟨h, _⟩ | ⟨_, h⟩
            · exact absurd hc h
            · exact h
          subst hc
          obtain ⟨rfl, hne, h60, hoc⟩ := HD'
          have HOC := Lib.hid hoc
          clear hoc HD
          by_cases hil : i < list.length
          · have hil' : (i : Int) < list.length := by omega
            obtain ⟨bx, ox, ex, hbx, hcx⟩ := hv2.atIn hbo i hil
            subst ex
            have hxi := hi64 i hil
            unfold I64 at hxi
            by_cases hr : 0 ≤ list[i] ∧ list[i] < l.length
            · have HY := Lib.hid (show (0 : Int) ≤ list[i] ∧ list[i] ≤ (l.length : Int) - 1 from by omega)
              have HJ := Lib.hid (HOC.out.trans (octFrom_next l list i hil hr))
              clear hr
              generalize list[i] = x at *
              go_wp2_with (go_at_call 21; refine (in_yes _ _ _ _ HY.out).mono ?_; rintro e w' ⟨rfl, rfl⟩)
              go_roundw
              case rel => exact ⟨i + 1, 0, 0, by omega, by go_num, hF, Lib.hid (.inr ⟨rfl, rfl, hne, h60, HJ.out⟩)⟩
              case measure => simp [intOf]; omega
            · have HY := Lib.hid (show ¬ ((0 : Int) ≤ list[i] ∧ list[i] ≤ (l.length : Int) - 1) from by omega)
              have HJ := Lib.hid (HOC.out.trans (octFrom_bad l list i hil hr))
              clear hr
              generalize list[i] = x at *
              go_wp2_with (first | (go_at_call 21; refine (in_no _ _ _ _ HY.out).mono ?_; rintro e w' ⟨rfl, rfl⟩) | (go_at_call 22; refine (fault_any _ _ _).mono ?_; rintro e w' ⟨rfl, rfl⟩))
              go_roundw
              case rel => exact ⟨i + 1, 6, i, by omega, by go_num, (hF.put _ _).alloc _, Lib.hid (.inl ⟨by decide, HJ.out⟩)⟩
              case measure => simp [intOf]; omega
          · obtain rfl : i = list.length := by omega
            have hz := HOC.out.trans (octFrom_end l list _ (Nat.le_refl _))
            have hall : ∀ j (h : j < list.length), 0 ≤ list[j] ∧ list[j] < l.length := by
              rcases octFrom_all l list list.length 0 (by omega) with ⟨_, h2⟩ | ⟨h1, _⟩
              · exact fun j hj => h2 j hj (Nat.zero_le _)
              · rw [oct9 hok, if_neg (by omega)] at hz; rw [hz] at h1; simp at h1
            obtain ⟨hni, hlt3⟩ := nats_ints list l.length hall
            have hgood := oct_good hok list hne h60 (fun x hx => by obtain ⟨j, hj, rfl⟩ := List.mem_iff_getElem.1 hx; exact hall j hj)
            have e1 := HRO.out.symm.trans hgood
            injection e1 with e1 e3
            injection e3 with e3 e4
            have hbl : ys.length ≤ l.length := by rw [e1, Hs.ints_length]; exact best_len _ _
            have hiv : IV wo A2 (Hs.ints (Hs.nats list)) := by rw [← hni]; exact hv2.below hbo
            have hb0 := bestOf_any wo A A2 k k2 l (Hs.nats list) (hv.below hbo) hok hiv hlt3 (by simp [Hs.nats]; omega)
            rw [show (Hs.nats list).length = list.length from by simp [Hs.nats], ← e1] at hb0
            have HCALL := Lib.hid hb0
            have hyo := hy9.below hF.bel
            subst e3 e4
            clear hb0 hz hall hni hlt3 hgood hiv e1
            go_wp2_with fail
            go_at_call 32
            refine HCALL.out.mono ?_
            rintro e w12 ⟨X12, c12, rfl, hcc12, hv12, hb12⟩
            have hbf := hbo.trans (hb12.mono hbo.size)
            have hyf := hyo.below hb12
            clear HCALL hb12
            go_wp2_with fail
            go_at_call 31
            refine (ints_any w12 _ _ _ _ ys hyf hv12 (by omega)).mono ?_
            rintro e w' ⟨rfl, n2, rfl⟩
            go_wp2_with fail
            go_ret
            exact ⟨rfl, below_drewN hbf n2⟩
        · have hoc : octCheck l list = (c, j) := by
            rcases HD.out with ⟨_, h⟩ | ⟨h, _⟩
            · exact h
            · exact absurd h hc
          have hbadr : octRes l list = ([], (c, j)) := by unfold octRes; rw [hoc, if_pos hc]
          have e1 := HRO.out.symm.trans hbadr
          injection e1 with e1 e3
          injection e3 with e3 e4
          subst e1 e3 e4
          have hc1 : (cg == 0) = false := by simpa using hc
          have hc2 : (cg != 0) = true := by simpa using hc
          simp only [List.length_nil]
          clear hbadr hoc HD hc
          by_cases hil : i < list.length
          · have hil' : (i : Int) < list.length := by omega
            go_wp2_with fail
            go_ret
            exact ⟨rfl, hbo⟩
          · obtain rfl : i = list.length := by omega
            go_wp2_with fail
            go_ret
            exact ⟨rfl, hbo⟩
    · have HN := Lib.hid (show (1 : Int) ≤ (list.length : Int) ∧ (list.length : Int) ≤ 60 from by omega)
      have HCHK := Lib.hid (show octCheck l list = octFrom l list 0 from by rw [oct9 hok, if_neg hlen])
      have HLEN := Lib.hid (show list.length ≠ 0 ∧ list.length ≤ 60 from by omega)
      clear hlen
      go_at_call 21
      refine (in_yes _ _ _ _ HN.out).mono ?_
      rintro e w' ⟨rfl, rfl⟩
      go_wp2_with fail
      go_loopw [17] (fun v wr => ∃ (i : Nat) (c j : Int), i ≤ list.length ∧ v = .int .i64 i ∧ F9 w9 wr c j ∧ Hid ((c ≠ 0 ∧ octCheck l list = (c, j)) ∨ (c = 0 ∧ j = 0 ∧ list.length ≠ 0 ∧ list.length ≤ 60 ∧ octCheck l list = octFrom l list i))) (fun v _ => list.length - (intOf v).toNat)
      case atStart => exact ⟨0, 0, 0, Nat.zero_le _, rfl, hz, Lib.hid (.inr ⟨rfl, rfl, HLEN.out.1, HLEN.out.2, HCHK.out⟩)⟩
      case round =>
        obtain ⟨i, c, j, hi, rfl, hF, HD⟩ := hrel
        clear z0 z1 z2 z3 z4 hz
        obtain ⟨wo, rfl⟩ : ∃ wo : World, wo = wr := ⟨_, rfl⟩
        have z0 := hF.k16.cell 0
        have z1 := hF.k16.cell 1
        have z2 := hF.k16.frozen 0
        have z3 := hF.k16.frozen 1
        have z4 := hF.k16.lt
        have k12 := k12'.below hF.bel (by omega)
        have v0 := k12.cell 0
        have v1 := k12.cell 1
        have v2 := k12.lt
        have hszo := hF.bel.size
        simp only [List.getElem?_toArray, List.getElem?_cons_zero, List.getElem?_cons_succ] at z0 z1 v0 v1
        have hbo := hb9.trans (hF.bel.mono hsz9)
        clear k12
        by_cases hc : c = 0
        · have HD' : j = 0 ∧ list.length ≠ 0 ∧ list.length ≤ 60 ∧ octCheck l list = octFrom l list i := by
            rcases HD.out with ⟨h, _⟩ | ⟨_, h⟩
            · exact absurd hc h
            · exact h
          subst hc
          obtain ⟨rfl, hne, h60, hoc⟩ := HD'
          have HOC := Lib.hid hoc
          clear hoc HD
          by_cases hil : i < list.length
          · have hil' : (i : Int) < list.length := by omega
            obtain ⟨bx, ox, ex, hbx, hcx⟩ := hv2.atIn hbo i hil
            subst ex
            have hxi := hi64 i hil
            unfold I64 at hxi
            by_cases hr : 0 ≤ list[i] ∧ list[i] < l.length
            · have HY := Lib.hid (show (0 : Int) ≤ list[i] ∧ list[i] ≤ (l.length : Int) - 1 from by omega)
              have HJ := Lib.hid (HOC.out.trans (octFrom_next l list i hil hr))
              clear hr
              generalize list[i] = x at *
              go_wp2_with (go_at_call 21; refine (in_yes _ _ _ _ HY.out).mono ?_; rintro e w' ⟨rfl, rfl⟩)
              go_roundw
              case rel => exact ⟨i + 1, 0, 0, by omega, by go_num, hF, Lib.hid (.inr ⟨rfl, rfl, hne, h60, HJ.out⟩)⟩
              case measure => simp [intOf]; omega
            · have HY := Lib.hid (show ¬ ((0 : Int) ≤ list[i] ∧ list[i] ≤ (l.length : Int) - 1) from by omega)
              have HJ := Lib.hid (HOC.out.trans (octFrom_bad l list i hil hr))
              clear hr
              generalize list[i] = x at *
              go_wp2_with (first | (go_at_call 21; refine (in_no _ _ _ _ HY.out).mono ?_; rintro e w' ⟨rfl, rfl⟩) | (go_at_call 22; refine (fault_any _ _ _).mono ?_; rintro e w' ⟨rfl, rfl⟩))
              go_roundw
              case rel => exact ⟨i + 1, 6, i, by omega, by go_num, (hF.put _ _).alloc _, Lib.hid (.inl ⟨by decide, HJ.out⟩)⟩
              case measure => simp [intOf]; omega
          · obtain rfl : i = list.length := by omega
            have hz := HOC.out.trans (octFrom_end l list _ (Nat.le_refl _))
            have hall : ∀ j (h : j < list.length), 0 ≤ list[j] ∧ list[j] < l.length := by
              rcases octFrom_all l list list.length 0 (by omega) with ⟨_, h2⟩ | ⟨h1, _⟩
              · exact fun j hj => h2 j hj (Nat.zero_le _)
              · rw [oct9 hok, if_neg (by omega)] at hz; rw [hz] at h1; simp at h1
            obtain ⟨hni, hlt3⟩ := nats_ints list l.length hall
            have hgood := oct_good hok list hne h60 (fun x hx => by obtain ⟨j, hj, rfl⟩ := List.mem_iff_getElem.1 hx; exact hall j hj)
            have e1 := HRO.out.symm.trans hgood
            injection e1 with e1 e3
            injection e3 with e3 e4
            have hbl : ys.length ≤ l.length := by rw [e1, Hs.ints_length]; exact best_len _ _
            have hiv : IV wo A2 (Hs.ints (Hs.nats list)) := by rw [← hni]; exact hv2.below hbo
            have hb0 := bestOf_any wo A A2 k k2 l (Hs.nats list) (hv.below hbo) hok hiv hlt3 (by simp [Hs.nats]; omega)
            rw [show (Hs.nats list).length = list.length from by simp [Hs.nats], ← e1] at hb0
            have HCALL := Lib.hid hb0
            have hyo := hy9.below hF.bel
            subst e3 e4
            clear hb0 hz hall hni hlt3 hgood hiv e1
            go_wp2_with fail
            go_at_call 32
            refine HCALL.out.mono ?_
            rintro e w12 ⟨X12, c12, rfl, hcc12, hv12, hb12⟩
            have hbf := hbo.trans (hb12.mono hbo.size)
            have hyf := hyo.below hb12
            clear HCALL hb12
            go_wp2_with fail
            go_at_call 31
            refine (ints_any w12 _ _ _ _ ys hyf hv12 (by omega)).mono ?_
            rintro e w' ⟨rfl, n2, rfl⟩
            go_wp2_with fail
            go_ret
            exact ⟨rfl, below_drewN hbf n2⟩
        · have hoc : octCheck l list = (c, j) := by
            rcases HD.out with ⟨_, h⟩ | ⟨h, _⟩
            · exact h
            · exact absurd h hc
          have hbadr : octRes l list = ([], (c, j)) := by unfold octRes; rw [hoc, if_pos hc]
          have e1 := HRO.out.symm.trans hbadr
          injection e1 with e1 e3
          injection e3 with e3 e4
          subst e1 e3 e4
          have hc1 : (cg == 0) = false := by simpa using hc
          have hc2 : (cg != 0) = true := by simpa using hc
          simp only [List.length_nil]
          clear hbadr hoc HD hc
          by_cases hil : i < list.length
          · have hil' : (i : Int) < list.length := by omega
            go_wp2_with fail
            go_ret
            exact ⟨rfl, hbo⟩
          · obtain rfl : i = list.length := by omega
            go_wp2_with fail
            go_ret
            exact ⟨rfl, hbo⟩
theorem law9_any (w : World) (A A2 : Option Addr) (k k2 : Nat) (l : List Hs.Cm) (a b : Int) (list : List Int) (hv : CV w A l) (hl : l.length ≤ 9223372036854775807) (ha64 : I64 a) (hb64 : I64 b) (hv2 : IV w A2 list) (hi64 : ∀ (j : Nat) (h : j < list.length), I64 list[j]) (hl2 : list.length ≤ 9223372036854775807) :
    Calls Try.prog 9 #[.slice A l.length k, .int .i64 a, .int .i64 b, .slice A2 list.length k2] w fun e w' => e = .returned (.bool true) ∧ Below w.heap.size w w' := by
  by_cases h : (Hs.validate l).1 = 0
  · exact law9_ok w A A2 k k2 l a b list hv (Hs.validate_ok l h).2 ha64 hb64 hv2 hi64 hl2
  · exact law9_bad w A A2 k k2 l a b list hv hl h hv2 hi64 hl2
end Go.Proofs.Ytoohmkdgimkgoaa
