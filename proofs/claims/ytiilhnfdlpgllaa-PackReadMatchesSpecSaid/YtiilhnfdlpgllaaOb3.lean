/-
  Objects: walks of 'Objects', 'same', 'CopyObject'.
-/
import Derived.Test.YtiilhnfdlpgllaaOb1
namespace Go.Proofs.Ytiilhnfdlpgllaa
open Go.RowKit Go.V
set_option linter.unusedVariables false

theorem info3 : (Try.prog.info? 3).map (fun i => (i.zero, i.size, i.bytes)) = some (some (.int .i64 0), 1, 8) := by kernel_rfl


set_option maxRecDepth 100000 in
set_option maxHeartbeats 4000000 in
theorem clone61_any (w : World) (A : Option Addr) (c : Nat) (l : List Int) (h : SV w w.heap.size A (intsV l)) (hl : l.length * 8 ≤ 140737488351232) :
    Calls Try.prog 61 #[.slice A l.length c] w fun e w' => ∃ A' c', e = .returned (.slice A' l.length c') ∧ l.length ≤ c' ∧ SA w' (Under w.heap.size) A' (intsV l) ∧ Below w.heap.size w w' := by
  obtain ⟨i0, hi0, hz0, hz1, hz2⟩ := info_parts info3
  have heq : ∀ (W : World) a n c, (binOp .eql 42 (.slice a n c) (.slice none 0 0)).run Try.prog W = .ok (.bool a.isNone) W := fun W a n c => Lib.run_eql_slice_nil W 42 3 a n c 0 0 Try.underlying42
  rcases A with _ | ad
  · have hl0 : l = [] := by
      rcases h with h | ⟨b, off, h, _⟩
      · simpa [intsV] using h
      · cases h
    subst hl0
    go_enter Try.func61, Try.ntmps61
    go_wp2_with fail
    go_ret
    exact ⟨none, 0, rfl, Nat.le_refl _, SA.nil, Below.refl _ _⟩
  · go_enter Try.func61, Try.ntmps61
    go_wp2_with (first | (at_builtin; refine wpList_appN _ rfl (.tmp 5) (.tmp 6) 42 rfl w.heap.size 3 i0 (.int .i64 0) 1 8 Try.underlying42 hi0 hz0 hz1 hz2 rfl (by decide) (some ⟨w.heap.size, 0, none⟩) 0 0 [] rfl (World.ownsRow_lit w #[] 0 (Nat.le_refl _) (by simp [maxLen]) rfl) _ (some ad) l.length c (intsV l) rfl ?ha (SV.alloc h (Nat.le_refl _) _) (intsV_one _) ?hb ?hc ?hd ?_))
    case ha => simp
    case hb => simp [maxLen]; omega
    case hc => omega
    case hd => simp
    intro A' c' w' hown hg hc'
    have hb := (below_alloc1 w (.cells #[] 3)).grown hg (by simp) (fun k hk => by simp [Value.ownBlock] at hk; omega)
    try simp only [Nat.zero_add, List.nil_append] at *
    have hsa := SA.of_own (X := Under w.heap.size) hown (fun b hb => hb)
    go_wp2_with fail
    go_ret
    exact ⟨A', c', rfl, hc', hsa, hb⟩

set_option maxRecDepth 100000 in
set_option maxHeartbeats 4000000 in
theorem clone62_any (w : World) (A : Option Addr) (c : Nat) (l : List UInt8) (h : SV w w.heap.size A (bytesV l)) (hl : l.length * 1 ≤ 140737488351232) :
    Calls Try.prog 62 #[.slice A l.length c] w fun e w' => ∃ A' c', e = .returned (.slice A' l.length c') ∧ l.length ≤ c' ∧ SA w' (Under w.heap.size) A' (bytesV l) ∧ Below w.heap.size w w' := by
  obtain ⟨i0, hi0, hz0, hz1, hz2⟩ := info_parts info5
  have heq : ∀ (W : World) a n c, (binOp .eql 26 (.slice a n c) (.slice none 0 0)).run Try.prog W = .ok (.bool a.isNone) W := fun W a n c => Lib.run_eql_slice_nil W 26 5 a n c 0 0 Try.underlying26
  rcases A with _ | ad
  · have hl0 : l = [] := by
      rcases h with h | ⟨b, off, h, _⟩
      · simpa [bytesV] using h
      · cases h
    subst hl0
    go_enter Try.func62, Try.ntmps62
    go_wp2_with fail
    go_ret
    exact ⟨none, 0, rfl, Nat.le_refl _, SA.nil, Below.refl _ _⟩
  · go_enter Try.func62, Try.ntmps62
    go_wp2_with (first | (at_builtin; refine wpList_appN _ rfl (.tmp 5) (.tmp 6) 26 rfl w.heap.size 5 i0 (.int .u8 0) 1 1 Try.underlying26 hi0 hz0 hz1 hz2 rfl (by decide) (some ⟨w.heap.size, 0, none⟩) 0 0 [] rfl (World.ownsRow_lit w #[] 0 (Nat.le_refl _) (by simp [maxLen]) rfl) _ (some ad) l.length c (bytesV l) rfl ?ha (SV.alloc h (Nat.le_refl _) _) (bytesV_one _) ?hb ?hc ?hd ?_))
    case ha => simp
    case hb => simp [maxLen]; omega
    case hc => omega
    case hd => simp
    intro A' c' w' hown hg hc'
    have hb := (below_alloc1 w (.cells #[] 5)).grown hg (by simp) (fun k hk => by simp [Value.ownBlock] at hk; omega)
    try simp only [Nat.zero_add, List.nil_append] at *
    have hsa := SA.of_own (X := Under w.heap.size) hown (fun b hb => hb)
    go_wp2_with fail
    go_ret
    exact ⟨A', c', rfl, hc', hsa, hb⟩

set_option maxRecDepth 100000 in
set_option maxHeartbeats 4000000 in
theorem objects_any (w : World) (o1 o2 : Ob.O) (Al1 : Option Addr) (kl1 : Nat) (Ad1 : Option Addr) (kd1 : Nat) (Al2 : Option Addr) (kl2 : Nat) (Ad2 : Option Addr) (kd2 : Nat) (h1 : ObA w Free o1 Al1 kl1 Ad1 kd1) (h2 : ObA w Free o2 Al2 kl2 Ad2 kd2) :
    Calls Try.prog 24 #[obV o1 Al1 kl1 Ad1 kd1, obV o2 Al2 kl2 Ad2 kd2] w fun e w' => e = .returned (.bool (eqO o1 o2)) ∧ Below w.heap.size w w' := by
  have HI := Lib.hid (fun (w' : World) (hb : Below w.heap.size w w') => ints44_any w' Al1 Al2 kl1 kl2 o1.links o2.links (h1.ls.keep (free_below hb)).sv (h2.ls.keep (free_below hb)).sv (by have := h1.ll; omega) (by have := h2.ll; omega))
  have HC1 := Lib.hid (fun (w' : World) (hb : Below w.heap.size w w') => run_conv_str (P := Try.prog) 26 9 5 kd1 Try.underlying26 Try.underlying5 Try.underlying9 (h1.ds.keep (free_below hb)).sv)
  have HC2 := Lib.hid (fun (w' : World) (hb : Below w.heap.size w w') => run_conv_str (P := Try.prog) 26 9 5 kd2 Try.underlying26 Try.underlying5 Try.underlying9 (h2.ds.keep (free_below hb)).sv)
  have HQ := Lib.hid (show eqO o1 o2 = (decide (o1.kind = o2.kind) && (decide (o1.links = o2.links) && decide (o1.data = o2.data))) from rfl)
  clear h1 h2
  obtain ⟨kk1, ls1, da1⟩ := o1
  obtain ⟨kk2, ls2, da2⟩ := o2
  simp only at HI HQ HC1 HC2 ⊢
  generalize eqO _ _ = q at *
  by_cases hk : kk1 = kk2
  · subst hk
    have hkk : (kk1 == kk1) = true := by simp
    go_enter Try.func24, Try.ntmps24
    go_wp2_with fail
    go_at_call 44
    refine (HI.out _ (below_alloc2 _ _ _)).mono ?_
    rintro e w1 ⟨rfl, n, rfl⟩
    have hb1 : Below w.heap.size w (((w.alloc (.cells #[.int .i64 kk1, .slice Al1 ls1.length kl1, .slice Ad1 da1.length kd1] 44)).alloc (.cells #[.int .i64 kk1, .slice Al2 ls2.length kl2, .slice Ad2 da2.length kd2] 44)).drewN n) := below_drewN (below_alloc2 _ _ _) n
    by_cases hll : ls1 = ls2
    · subst hll
      have hl1 : decide (ls1 = ls1) = true := decide_eq_true rfl
      rw [hl1]
      have e1 := HC1.out _ hb1
      have e2 := HC2.out _ hb1
      by_cases hdd : da1 = da2
      · have HQ2 : Hid (q = true) := Lib.hid (by rw [HQ.out]; simp [hdd])
        subst hdd
        go_wp2_with fail
        go_ret
        exact ⟨by rw [HQ2.out]; simp, hb1⟩
      · have HQ2 : Hid (q = false) := Lib.hid (by rw [HQ.out]; simp [hdd])
        have hd : (da1 == da2) = false := by simpa using hdd
        clear hdd
        go_wp2_with fail
        go_ret
        exact ⟨by rw [HQ2.out]; simp [hd], hb1⟩
    · have hl1 : decide (ls1 = ls2) = false := decide_eq_false hll
      rw [hl1]
      have HQ2 : Hid (q = false) := Lib.hid (by rw [HQ.out]; simp [hll])
      clear hll
      go_wp2_with fail
      go_ret
      exact ⟨by rw [HQ2.out]; rfl, hb1⟩
  · have hkk : (kk1 == kk2) = false := by simpa using hk
    have HQ2 : Hid (q = false) := Lib.hid (by rw [HQ.out]; simp [hk])
    clear hk
    go_enter Try.func24, Try.ntmps24
    go_wp2_with fail
    go_ret
    exact ⟨by rw [HQ2.out]; rfl, below_alloc2 _ _ _⟩

set_option maxRecDepth 100000 in
set_option maxHeartbeats 4000000 in
theorem same_any (w : World) (o1 o2 : Ob.O) (Al1 : Option Addr) (kl1 : Nat) (Ad1 : Option Addr) (kd1 : Nat) (Al2 : Option Addr) (kl2 : Nat) (Ad2 : Option Addr) (kd2 : Nat) (h1 : ObA w Free o1 Al1 kl1 Ad1 kd1) (h2 : ObA w Free o2 Al2 kl2 Ad2 kd2) :
    Calls Try.prog 59 #[obV o1 Al1 kl1 Ad1 kd1, obV o2 Al2 kl2 Ad2 kd2] w fun e w' => e = .returned (.bool (eqO o1 o2)) ∧ Below w.heap.size w w' := by
  have HI := Lib.hid (fun (w' : World) (hb : Below w.heap.size w w') => ints66_any w' Al1 Al2 kl1 kl2 o1.links o2.links (h1.ls.keep (free_below hb)).sv (h2.ls.keep (free_below hb)).sv (by have := h1.ll; omega) (by have := h2.ll; omega))
  have HE := Lib.hid (fun (w' : World) (hb : Below w.heap.size w w') => bytesEq_any w' Ad1 Ad2 kd1 kd2 o1.data o2.data (h1.ds.keep (free_below hb)).sv (h2.ds.keep (free_below hb)).sv)
  have HQ := Lib.hid (show eqO o1 o2 = (decide (o1.kind = o2.kind) && (decide (o1.links = o2.links) && decide (o1.data = o2.data))) from rfl)
  clear h1 h2
  obtain ⟨kk1, ls1, da1⟩ := o1
  obtain ⟨kk2, ls2, da2⟩ := o2
  simp only at HI HQ HE ⊢
  generalize eqO _ _ = q at *
  by_cases hk : kk1 = kk2
  · subst hk
    have hkk : (kk1 == kk1) = true := by simp
    go_enter Try.func59, Try.ntmps59
    go_wp2_with fail
    go_at_call 66
    refine (HI.out _ (below_alloc2 _ _ _)).mono ?_
    rintro e w1 ⟨rfl, n, rfl⟩
    have hb1 : Below w.heap.size w (((w.alloc (.cells #[.int .i64 kk1, .slice Al1 ls1.length kl1, .slice Ad1 da1.length kd1] 44)).alloc (.cells #[.int .i64 kk1, .slice Al2 ls2.length kl2, .slice Ad2 da2.length kd2] 44)).drewN n) := below_drewN (below_alloc2 _ _ _) n
    by_cases hll : ls1 = ls2
    · subst hll
      have hl1 : decide (ls1 = ls1) = true := decide_eq_true rfl
      rw [hl1]
      have HQ2 : Hid (q = decide (da1 = da2)) := Lib.hid (by rw [HQ.out]; simp)
      have HE2 := Lib.hid (HE.out _ hb1)
      generalize hq : decide (da1 = da2) = dd at *
      have HDD := Lib.hid hq
      clear hq hl1
      go_wp2_with fail
      go_at_call 54
      refine HE2.out.mono ?_
      rintro e w2 ⟨rfl, rfl⟩
      go_wp2_with fail
      go_ret
      exact ⟨by rw [HQ2.out]; rfl, hb1⟩
    · have hl1 : decide (ls1 = ls2) = false := decide_eq_false hll
      rw [hl1]
      have HQ2 : Hid (q = false) := Lib.hid (by rw [HQ.out]; simp [hll])
      clear hll
      go_wp2_with fail
      go_ret
      exact ⟨by rw [HQ2.out]; rfl, hb1⟩
  · have hkk : (kk1 == kk2) = false := by simpa using hk
    have HQ2 : Hid (q = false) := Lib.hid (by rw [HQ.out]; simp [hk])
    clear hk
    go_enter Try.func59, Try.ntmps59
    go_wp2_with fail
    go_ret
    exact ⟨by rw [HQ2.out]; rfl, below_alloc2 _ _ _⟩
end Go.Proofs.Ytiilhnfdlpgllaa
