/-
  Packs: walks of 'Read', 'Index' and 'Lookup'.
-/
import Derived.Test.YtiilhnfdlpgllaaPk20
namespace Go.Proofs.Ytiilhnfdlpgllaa
open Go.RowKit Go.V
set_option linter.unusedVariables false

/-- Either a fault, or the bytes are the pack of a valid store. -/
theorem readF_cases (b : List UInt8) : (∃ c : Int, c ≠ 0 ∧ readF b = ([], [], (c, 0))) ∨ (∃ s, Ob.StOk s ∧ packB s = b ∧ b.length ≤ 4096 ∧ readF b = (s, ixL s s.length, (0, 0))) := by
  by_cases h1 : 4096 < b.length
  · exact .inl ⟨2, by decide, by unfold readF; rw [if_pos h1]⟩
  by_cases h2 : b.length < 11
  · exact .inl ⟨18, by decide, by unfold readF; rw [if_neg h1, if_pos h2]⟩
  by_cases h3 : Broken b
  · exact .inl ⟨18, by decide, by unfold readF; rw [if_neg h1, if_neg h2, if_pos h3]⟩
  have e := readF_fin (b.length - 8) b (by omega) (by omega) (by omega) h3
  rcases hq : rdL (b.length - 8) (Ob.bt b 2) ((b.take (b.length - 8)).drop 3) [] [] with _ | ⟨s, ix⟩
  · exact .inl ⟨1, by decide, by rw [e, hq]; rfl⟩
  · rw [hq] at e
    unfold rdFin at e
    simp only at e
    by_cases h4 : (Ob.stF s).1 ≠ 0 ∨ packB s ≠ b
    · rw [if_pos h4] at e; exact .inl ⟨1, by decide, e⟩
    · have h5 : (Ob.stF s).1 = 0 := Classical.not_not.1 fun h => h4 (.inl h)
      have h6 : packB s = b := Classical.not_not.1 fun h => h4 (.inr h)
      have hok := (Ob.stF_ok h5).2
      exact .inr ⟨s, hok, h6, by omega, by rw [← h6]; exact readF_pack hok (by rw [h6]; omega)⟩
theorem read_all (w : World) (A : Option Addr) (n k : Nat) (b : List UInt8) (hv : SA w Free A (bytesV b)) (hln : b.length = n) (hk : n ≤ k) : Calls Try.prog 42 #[.slice A n k] w (RdPost w (readF b)) := by
  by_cases h1 : 4096 < n
  · exact (read_size w A n k 2 (.inl ⟨h1, rfl⟩)).mono fun e w' ⟨h, hb⟩ => by subst h; exact RdPost.no (by unfold readF; rw [if_pos (by omega)]) hb
  by_cases h2 : n < 11
  · exact (read_size w A n k 18 (.inr ⟨h2, rfl⟩)).mono fun e w' ⟨h, hb⟩ => by subst h; exact RdPost.no (by unfold readF; rw [if_neg (by omega), if_pos (by omega)]) hb
  obtain ⟨m, rfl⟩ : ∃ m, n = m + 8 := ⟨n - 8, by omega⟩
  by_cases h3 : Broken b
  · exact (read_broken w A k m b hv hln (by omega) (by omega) hk h3).mono fun e w' ⟨h, hb⟩ => by subst h; exact RdPost.no (by unfold readF; rw [if_neg (by omega), if_neg (by omega), if_pos h3]) hb
  · exact read_any w A k m b hv hln (by omega) (by omega) hk h3
/-- What 'Read' answers. -/
def RePost (w : World) (r : List Ob.S × List PE × (Int × Int)) (e : Ending) (w' : World) : Prop :=
  ∃ A c, e = .returned (.tuple #[stV A r.1.length c, .agg #[.int .i64 r.2.2.1, .int .i64 r.2.2.2]]) ∧ StV w' (Under w.heap.size) A r.1 ∧ Below w.heap.size w w'
/-- What 'Index' answers. -/
def IxPost (w : World) (r : List Ob.S × List PE × (Int × Int)) (e : Ending) (w' : World) : Prop :=
  ∃ A c, e = .returned (.tuple #[.slice A r.2.1.length c, .agg #[.int .i64 r.2.2.1, .int .i64 r.2.2.2]]) ∧ SA w' (Under w.heap.size) A (ixV r.2.1) ∧ Below w.heap.size w w'
set_option maxRecDepth 100000 in
set_option maxHeartbeats 16000000 in
theorem Read_any (w : World) (A : Option Addr) (n k : Nat) (b : List UInt8) (hv : SA w Free A (bytesV b)) (hln : b.length = n) (hk : n ≤ k) :
    Calls Try.prog 20 #[.slice A n k] w (RePost w (readF b)) := by
  have b0 := below_alloc2 w (.cells #[.slice none 0 0] 24) (.cells #[.int .i64 0, .int .i64 0] 28)
  have HC := Lib.hid (read_all _ A n k b (hv.keep (free_below b0)) hln hk)
  have r1 := (Blk.new w 24 #[.slice none 0 0]).alloc (.cells #[.int .i64 0, .int .i64 0] 28)
  have r2 := blk_new1 w (.cells #[.slice none 0 0] 24) 28 #[.int .i64 0, .int .i64 0]
  have HEND : Hid (∀ (w' : World) A1 c1, StV w' (Under w.heap.size) A1 (readF b).1 → Below w.heap.size w w' → RePost w (readF b) (.returned (.tuple #[.agg #[.slice A1 (readF b).1.length c1], .agg #[.int .i64 (readF b).2.2.1, .int .i64 (readF b).2.2.2]])) w') := Lib.hid fun w' A1 c1 h1 h2 => ⟨A1, c1, rfl, h1, h2⟩
  clear hv hln
  generalize RePost w (readF b) = R at *
  generalize readF b = r at *
  obtain ⟨s, ix, c, ci⟩ := r
  unfold RdPost at HC
  simp only at HC HEND
  go_enter Try.func20, Try.ntmps20
  go_wp2_with fail
  go_at_call 42
  refine HC.out.mono ?_
  rintro e w1 ⟨A1, k1, A2, k2, rfl, hs1, hi1, hb1⟩
  have b1 := b0.trans (hb1.mono b0.size)
  replace r1 := r1.below hb1 r1.lt
  replace r2 := r2.below hb1 r2.lt
  have y0 := (r1.cell 0).trans (rfl : _ = some (Value.slice none 0 0))
  have y1 := r1.lt
  have y2 := r1.frozen 0
  have z0 := (r2.cell 0).trans (rfl : _ = some (Value.int .i64 0))
  have z1 := (r2.cell 1).trans (rfl : _ = some (Value.int .i64 0))
  have z2 := r2.lt
  have z3 := r2.frozen 0
  have z4 := r2.frozen 1
  have hu0 : Under ((w.alloc (.cells #[.slice none 0 0] 24)).alloc (.cells #[.int .i64 0, .int .i64 0] 28)).heap.size w.heap.size := by unfold Under; simp; omega
  have hu1 : Under ((w.alloc (.cells #[.slice none 0 0] 24)).alloc (.cells #[.int .i64 0, .int .i64 0] 28)).heap.size (w.heap.size + 1) := by unfold Under; simp
  clear HC hb1 b0 hi1
  go_wp2_with fail
  go_region
  all_goals
    go_wp2_with fail
    obtain ⟨k1', k2', k3⟩ := put12 r1 r2 (by omega) (.slice A1 s.length k1) (.int .i64 c) (.int .i64 ci)
    refine bodyPost_ret (results_24_28 rfl _ _ w.heap.size (w.heap.size + 1) (.slice A1 s.length k1) (.int .i64 c) (.int .i64 ci) rfl rfl (((k1'.alloc _).alloc _).drewN 1) (((k2'.alloc _).alloc _).drewN 1)) rfl ?_
    have hkp := ((Keeps.setCell w1 _ ⟨w.heap.size, 0, none⟩ (.slice A1 s.length k1) hu0).trans (Keeps.setCell _ _ ⟨w.heap.size + 1, 0, none⟩ (.int .i64 c) hu1)).trans (Keeps.setCell _ _ ⟨w.heap.size + 1, 1, none⟩ (.int .i64 ci) hu1)
    refine HEND.out _ _ _ (hs1.keep (((hkp.trans (Keeps.alloc _ _ _)).trans (Keeps.alloc _ _ _)).trans ((Keeps.drewN _ _ 1).into fun b hb => ?_))) ?_
    · unfold Under at *; simp; omega
    · have hb := k3 w.heap.size w (by omega) (by omega) b1
      exact below_drewN ((hb.alloc hb.size _).alloc (hb.alloc hb.size _).size _) 1
set_option maxRecDepth 100000 in
set_option maxHeartbeats 16000000 in
theorem Index_any (w : World) (A : Option Addr) (n k : Nat) (b : List UInt8) (hv : SA w Free A (bytesV b)) (hln : b.length = n) (hk : n ≤ k) :
    Calls Try.prog 21 #[.slice A n k] w (IxPost w (readF b)) := by
  have b0 := below_alloc1 w (.cells #[.int .i64 0, .int .i64 0] 28)
  have HC := Lib.hid (read_all _ A n k b (hv.keep (free_below b0)) hln hk)
  have r2 := Blk.new w 28 #[.int .i64 0, .int .i64 0]
  have HEND : Hid (∀ (w' : World) A1 c1, SA w' (Under w.heap.size) A1 (ixV (readF b).2.1) → Below w.heap.size w w' → IxPost w (readF b) (.returned (.tuple #[.slice A1 (readF b).2.1.length c1, .agg #[.int .i64 (readF b).2.2.1, .int .i64 (readF b).2.2.2]])) w') := Lib.hid fun w' A1 c1 h1 h2 => ⟨A1, c1, rfl, h1, h2⟩
  clear hv hln
  generalize IxPost w (readF b) = R at *
  generalize readF b = r at *
  obtain ⟨s, ix, c, ci⟩ := r
  unfold RdPost at HC
  simp only at HC HEND
  go_enter Try.func21, Try.ntmps21
  go_wp2_with fail
  go_at_call 42
  refine HC.out.mono ?_
  rintro e w1 ⟨A1, k1, A2, k2, rfl, hs1, hi1, hb1⟩
  have b1 := b0.trans (hb1.mono b0.size)
  replace r2 := r2.below hb1 r2.lt
  have z0 := (r2.cell 0).trans (rfl : _ = some (Value.int .i64 0))
  have z1 := (r2.cell 1).trans (rfl : _ = some (Value.int .i64 0))
  have z2 := r2.lt
  have z3 := r2.frozen 0
  have z4 := r2.frozen 1
  have hu1 : Under (w.alloc (.cells #[.int .i64 0, .int .i64 0] 28)).heap.size w.heap.size := by unfold Under; simp
  clear HC hb1 b0 hs1
  go_wp2_with fail
  go_region
  all_goals
    go_wp2_with fail
    have k2' := blk_put2 r2 (.int .i64 c) (.int .i64 ci)
    refine bodyPost_ret (results_tc rfl _ _ w.heap.size (.int .i64 c) (.int .i64 ci) rfl (((k2'.alloc _).alloc _).drewN 1)) rfl ?_
    have hkp := (Keeps.setCell w1 _ ⟨w.heap.size, 0, none⟩ (.int .i64 c) hu1).trans (Keeps.setCell _ _ ⟨w.heap.size, 1, none⟩ (.int .i64 ci) hu1)
    refine HEND.out _ _ _ (hi1.keep (((hkp.trans (Keeps.alloc _ _ _)).trans (Keeps.alloc _ _ _)).trans ((Keeps.drewN _ _ 1).into fun b hb => ?_))) ?_
    · unfold Under at *; simp; omega
    · have hb := (b1.setCell (p := ⟨w.heap.size, 0, none⟩) (Nat.le_refl _) (.int .i64 c)).setCell (p := ⟨w.heap.size, 1, none⟩) (Nat.le_refl _) (.int .i64 ci)
      exact below_drewN ((hb.alloc hb.size _).alloc (hb.alloc hb.size _).size _) 1
/-- What 'Lookup' answers. -/
def LkPost (w : World) (b : List UInt8) (d : Int) (e : Ending) (w' : World) : Prop := Below w.heap.size w w' ∧
  ((∃ c : Int, c ≠ 0 ∧ readF b = ([], [], (c, 0)) ∧ e = .returned (.tuple #[zObj, .agg #[.int .i64 c, .int .i64 0]])) ∨
   (∃ s, Ob.StOk s ∧ packB s = b ∧ readF b = (s, ixL s s.length, (0, 0)) ∧ ((Ob.fnd s d = false ∧ e = .returned (.tuple #[zObj, .agg #[.int .i64 6, .int .i64 (-1)]])) ∨
    (Ob.fnd s d = true ∧ ∃ A1 k1 A2 k2, e = .returned (.tuple #[obV (Ob.it s (Ob.lb s d)).ob A1 k1 A2 k2, .agg #[.int .i64 0, .int .i64 0]]) ∧ ObA w' (Under w.heap.size) (Ob.it s (Ob.lb s d)).ob A1 k1 A2 k2))))
set_option maxRecDepth 100000 in
set_option maxHeartbeats 16000000 in
theorem Lookup_any (w : World) (A : Option Addr) (n k : Nat) (b : List UInt8) (d : Int) (hv : SA w Free A (bytesV b)) (hln : b.length = n) (hk : n ≤ k) :
    Calls Try.prog 23 #[.slice A n k, .int .i64 d] w (LkPost w b d) := by
  have b0 := below_alloc2 w (.cells #[.int .i64 0, .slice none 0 0, .slice none 0 0] 44) (.cells #[.int .i64 0, .int .i64 0] 28)
  have HC := Lib.hid (read_all _ A n k b (hv.keep (free_below b0)) hln hk)
  have r1 := (Blk.new w 44 #[.int .i64 0, .slice none 0 0, .slice none 0 0]).alloc (.cells #[.int .i64 0, .int .i64 0] 28)
  have r2 := blk_new1 w (.cells #[.int .i64 0, .slice none 0 0, .slice none 0 0] 44) 28 #[.int .i64 0, .int .i64 0]
  clear hv hln
  rcases readF_cases b with ⟨c, hc, hr⟩ | ⟨s, hs, hp, _, hr⟩
  · have HEND : Hid (∀ w' : World, Below w.heap.size w w' → LkPost w b d (.returned (.tuple #[zObj, .agg #[.int .i64 c, .int .i64 0]])) w') := Lib.hid fun w' h => ⟨h, .inl ⟨c, hc, hr, rfl⟩⟩
    have HC2 : Hid (Calls Try.prog 42 #[.slice A n k] ((w.alloc (.cells #[.int .i64 0, .slice none 0 0, .slice none 0 0] 44)).alloc (.cells #[.int .i64 0, .int .i64 0] 28)) fun e w' => ∃ A1 c1 Ai ci, e = .returned (.tuple #[.agg #[.slice A1 0 c1], .slice Ai 0 ci, .agg #[.int .i64 c, .int .i64 0]]) ∧ Below ((w.alloc (.cells #[.int .i64 0, .slice none 0 0, .slice none 0 0] 44)).alloc (.cells #[.int .i64 0, .int .i64 0] 28)).heap.size ((w.alloc (.cells #[.int .i64 0, .slice none 0 0, .slice none 0 0] 44)).alloc (.cells #[.int .i64 0, .int .i64 0] 28)) w') := Lib.hid (by
      have h := HC.out
      rw [hr] at h
      exact h.mono fun e w' ⟨A1, c1, Ai, ci, h1, _, _, h4⟩ => ⟨A1, c1, Ai, ci, h1, h4⟩)
    have hc1 : (c == 0) = false := by simpa using hc
    have hc2 : (c != 0) = true := by simpa using hc
    clear HC hc hr
    generalize LkPost w b d = R at *
    go_enter Try.func23, Try.ntmps23
    go_wp2_with fail
    go_at_call 42
    refine HC2.out.mono ?_
    rintro e w1 ⟨A1, k1, A2, k2, rfl, hb1⟩
    have b1 := b0.trans (hb1.mono b0.size)
    replace r1 := r1.below hb1 r1.lt
    replace r2 := r2.below hb1 r2.lt
    have y0 := (r1.cell 0).trans (rfl : _ = some (Value.int .i64 0))
    have y1 := (r1.cell 1).trans (rfl : _ = some (Value.slice none 0 0))
    have y2 := (r1.cell 2).trans (rfl : _ = some (Value.slice none 0 0))
    have y3 := r1.lt
    have y4 := r1.frozen 0
    have y5 := r1.frozen 1
    have y6 := r1.frozen 2
    have z0 := (r2.cell 0).trans (rfl : _ = some (Value.int .i64 0))
    have z1 := (r2.cell 1).trans (rfl : _ = some (Value.int .i64 0))
    have z2 := r2.lt
    have z3 := r2.frozen 0
    have z4 := r2.frozen 1
    clear HC2 hb1 b0
    go_wp2_with fail
    go_region
    all_goals
      go_wp2_with fail
      obtain ⟨k1', k2', k3⟩ := put32 r1 r2 (by omega) (.int .i64 0) (.slice none 0 0) (.slice none 0 0) (.int .i64 c) (.int .i64 0)
      refine bodyPost_ret (results_44_28 rfl _ _ w.heap.size (w.heap.size + 1) (.int .i64 0) (.slice none 0 0) (.slice none 0 0) (.int .i64 c) (.int .i64 0) rfl rfl (((k1'.alloc _).alloc _).drewN 1) (((k2'.alloc _).alloc _).drewN 1)) rfl ?_
      refine HEND.out _ ?_
      have hb := k3 w.heap.size w (by omega) (by omega) b1
      exact below_drewN ((hb.alloc hb.size _).alloc (hb.alloc hb.size _).size _) 1
  · have HN1 : Hid (∀ w' : World, Ob.fnd s d = false → Below w.heap.size w w' → LkPost w b d (.returned (.tuple #[zObj, .agg #[.int .i64 6, .int .i64 (-1)]])) w') := Lib.hid fun w' hf hb => ⟨hb, .inr ⟨s, hs, hp, hr, .inl ⟨hf, rfl⟩⟩⟩
    have HY1 : Hid (∀ (w' : World) A1 k1 A2 k2, Ob.fnd s d = true → ObA w' (Under w.heap.size) (Ob.it s (Ob.lb s d)).ob A1 k1 A2 k2 → Below w.heap.size w w' → LkPost w b d (.returned (.tuple #[obV (Ob.it s (Ob.lb s d)).ob A1 k1 A2 k2, .agg #[.int .i64 0, .int .i64 0]])) w') := Lib.hid fun w' A1 k1 A2 k2 hf ho hb => ⟨hb, .inr ⟨s, hs, hp, hr, .inr ⟨hf, A1, k1, A2, k2, rfl, ho⟩⟩⟩
    have HC2 : Hid (Calls Try.prog 42 #[.slice A n k] ((w.alloc (.cells #[.int .i64 0, .slice none 0 0, .slice none 0 0] 44)).alloc (.cells #[.int .i64 0, .int .i64 0] 28)) fun e w' => ∃ A1 c1 Ai ni ci, e = .returned (.tuple #[.agg #[.slice A1 s.length c1], .slice Ai ni ci, .agg #[.int .i64 0, .int .i64 0]]) ∧ StV w' (Under (w.heap.size + 2)) A1 s ∧ Below ((w.alloc (.cells #[.int .i64 0, .slice none 0 0, .slice none 0 0] 44)).alloc (.cells #[.int .i64 0, .int .i64 0] 28)).heap.size ((w.alloc (.cells #[.int .i64 0, .slice none 0 0, .slice none 0 0] 44)).alloc (.cells #[.int .i64 0, .int .i64 0] 28)) w') := Lib.hid (by
      have h := HC.out
      rw [hr] at h
      exact h.mono fun e w' ⟨A1, c1, Ai, ci, h1, h2, _, h4⟩ => ⟨A1, c1, Ai, _, ci, h1, by simpa using h2, h4⟩)
    have HFI := Lib.hid (fun (w1 : World) A1 c1 (h : StV w1 Free A1 s) => find_any w1 A1 c1 s d h (by have := hs.len; omega) hs.sorted)
    have HFD := Lib.hid (show Ob.fnd s d = (decide (Ob.lb s d < s.length) && decide ((Ob.it s (Ob.lb s d)).dig = d)) from rfl)
    clear HC hr hs hp
    generalize LkPost w b d = R at *
    go_enter Try.func23, Try.ntmps23
    go_wp2_with fail
    go_at_call 42
    refine HC2.out.mono ?_
    rintro e w1 ⟨A1, k1, A2, n2, k2, rfl, hs1, hb1⟩
    have b1 := ((b0.trans (hb1.mono b0.size)).alloc (b0.trans (hb1.mono b0.size)).size (.cells #[.slice A1 s.length k1] 24)).alloc ((b0.trans (hb1.mono b0.size)).alloc (b0.trans (hb1.mono b0.size)).size _).size (.cells #[.int .i64 0, .int .i64 0] 28)
    replace r1 := ((r1.below hb1 r1.lt).alloc (.cells #[.slice A1 s.length k1] 24)).alloc (.cells #[.int .i64 0, .int .i64 0] 28)
    replace r2 := ((r2.below hb1 r2.lt).alloc (.cells #[.slice A1 s.length k1] 24)).alloc (.cells #[.int .i64 0, .int .i64 0] 28)
    have r3 := (Blk.new w1 24 #[.slice A1 s.length k1]).alloc (.cells #[.int .i64 0, .int .i64 0] 28)
    have hs2 := (hs1.keep (Keeps.alloc _ _ (.cells #[.slice A1 s.length k1] 24))).keep (Keeps.alloc _ _ (.cells #[.int .i64 0, .int .i64 0] 28))
    have HF2 := Lib.hid (HFI.out _ A1 k1 (hs2.keep ((Keeps.refl _ _).into (X'' := Free) fun _ h => h.elim)))
    clear HC2 HFI hb1 b0 hs1
    go_wp2_with fail
    go_at_call 43
    refine HF2.out.mono ?_
    rintro e w2 ⟨rfl, hb2⟩
    have b2 := b1.trans (hb2.mono b1.size)
    replace r1 := r1.below hb2 r1.lt
    replace r2 := r2.below hb2 r2.lt
    replace r3 := r3.below hb2 r3.lt
    have hs3 := hs2.keep (any_below hb2)
    have y0 := (r1.cell 0).trans (rfl : _ = some (Value.int .i64 0))
    have y1 := (r1.cell 1).trans (rfl : _ = some (Value.slice none 0 0))
    have y2 := (r1.cell 2).trans (rfl : _ = some (Value.slice none 0 0))
    have y3 := r1.lt
    have y4 := r1.frozen 0
    have y5 := r1.frozen 1
    have y6 := r1.frozen 2
    have z0 := (r2.cell 0).trans (rfl : _ = some (Value.int .i64 0))
    have z1 := (r2.cell 1).trans (rfl : _ = some (Value.int .i64 0))
    have z2 := r2.lt
    have z3 := r2.frozen 0
    have z4 := r2.frozen 1
    have x0 := (r3.cell 0).trans (rfl : _ = some (Value.slice A1 s.length k1))
    have x1 := r3.lt
    clear HF2 hb2 b1 hs2
    by_cases hf : Ob.fnd s d = true
    · have hpl : Ob.lb s d < s.length := by
        have := HFD.out; rw [hf] at this; have h := this.symm; rw [Bool.and_eq_true] at h; simpa using h.1
      obtain ⟨ba, off, Al, kl, Ad, kd, e, hb, _, d0, d1, d2, d3, hx, hob⟩ := hs3.row _ hpl
      subst e
      have HY := Lib.hid (fun w' A1 k1 A2 k2 => HY1.out w' A1 k1 A2 k2 hf)
      rw [hf]
      clear hf HFD HN1 HY1
      generalize hxx : Ob.it s (Ob.lb s d) = x at *
      clear hxx
      generalize Ob.lb s d = p at *
      obtain ⟨xd, kk, ls, da⟩ := x
      simp only at *
      have hpi : (p : Int) < s.length := by omega
      have hu0 : Under (w.heap.size + 2) w.heap.size := by unfold Under; omega
      have hu1 : Under (w.heap.size + 2) (w.heap.size + 1) := by unfold Under; omega
      have hkp := ((((Keeps.setCell w2 _ ⟨w.heap.size, 0, none⟩ (.int .i64 kk) hu0).trans (Keeps.setCell _ _ ⟨w.heap.size, 1, none⟩ (.slice Al ls.length kl) hu0)).trans (Keeps.setCell _ _ ⟨w.heap.size, 2, none⟩ (.slice Ad da.length kd) hu0)).trans (Keeps.setCell _ _ ⟨w.heap.size + 1, 0, none⟩ (.int .i64 0) hu1)).trans (Keeps.setCell _ _ ⟨w.heap.size + 1, 1, none⟩ (.int .i64 0) hu1)
      have hob2 := hob.keep (hkp.into (X'' := Under w.heap.size) fun b hb => by unfold Under at *; omega)
      clear hob hs3 hkp
      go_wp2_with fail
      obtain ⟨j1, j2, j3⟩ := put32 r1 r2 (by omega) (.int .i64 kk) (.slice Al ls.length kl) (.slice Ad da.length kd) (.int .i64 0) (.int .i64 0)
      refine bodyPost_ret (results_44_28 rfl _ _ w.heap.size (w.heap.size + 1) (.int .i64 kk) (.slice Al ls.length kl) (.slice Ad da.length kd) (.int .i64 0) (.int .i64 0) rfl rfl j1 j2) rfl ?_
      exact HY.out _ _ _ _ _ hob2 (j3 _ _ (by omega) (by omega) b2)
    · have hff : Ob.fnd s d = false := by simpa using hf
      have HN := Lib.hid (fun w' => HN1.out w' hff)
      rw [hff]
      clear hf hff HFD HN1 HY1 hs3
      generalize Ob.lb s d = p at *
      go_wp2_with fail
      obtain ⟨j1, j2, j3⟩ := put32 r1 r2 (by omega) (.int .i64 0) (.slice none 0 0) (.slice none 0 0) (.int .i64 6) (.int .i64 (-1))
      refine bodyPost_ret (results_44_28 rfl _ _ w.heap.size (w.heap.size + 1) (.int .i64 0) (.slice none 0 0) (.slice none 0 0) (.int .i64 6) (.int .i64 (-1)) rfl rfl j1 j2) rfl ?_
      exact HN.out _ (j3 _ _ (by omega) (by omega) b2)
end Go.Proofs.Ytiilhnfdlpgllaa
