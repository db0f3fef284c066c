/-
  File trees: walks of 'slices.Clone' at lines, of 'CopyTree'.
-/
import Derived.Test.YtjfckjonfpkphaaDoorTq5
namespace Go.Proofs.YtjfckjonfpkphaaDoor
open Go.RowKit Go.V Go.Shelf
set_option linter.unusedVariables false

set_option maxRecDepth 100000 in
set_option maxHeartbeats 4000000 in
theorem clone_any (w : World) (A : Option Addr) (c : Nat) (l : List (List UInt8)) (h : SV w w.heap.size A (ssV l)) (hl : l.length * 16 ≤ 140737488351232) :
    Calls Tryd.prog 29 #[.slice A l.length c] w fun e w' => ∃ A' c', e = .returned (.slice A' l.length c') ∧ l.length ≤ c' ∧ SA w' (Under w.heap.size) A' (ssV l) ∧ Below w.heap.size w w' := by
  obtain ⟨i0, hi0, hz0, hz1, hz2⟩ := info_parts info9
  have heq : ∀ (W : World) a n c, (binOp .eql 32 (.slice a n c) (.slice none 0 0)).run Tryd.prog W = .ok (.bool a.isNone) W := fun W a n c => Lib.run_eql_slice_nil W 32 9 a n c 0 0 Tryd.underlying32
  rcases A with _ | ad
  · have hl0 : l = [] := by
      rcases h with h | ⟨b, off, h, _⟩
      · have h2 := ssV_len l
        rw [h] at h2
        exact List.eq_nil_of_length_eq_zero h2.symm
      · cases h
    subst hl0
    go_enter Tryd.func29, Tryd.ntmps29
    go_wp2_with fail
    go_ret
    exact ⟨none, 0, rfl, Nat.le_refl _, SA.nil, Below.refl _ _⟩
  · go_enter Tryd.func29, Tryd.ntmps29
    go_wp2_with (first | (at_builtin; refine wpList_appN _ rfl (.tmp 5) (.tmp 6) 32 rfl w.heap.size 9 i0 (.string .empty) 1 16 Tryd.underlying32 hi0 hz0 hz1 hz2 rfl (by decide) (some ⟨w.heap.size, 0, none⟩) 0 0 [] rfl (World.ownsRow_lit w #[] 0 (Nat.le_refl _) (by simp [maxLen]) rfl) _ (some ad) l.length c (ssV l) rfl ?ha (SV.alloc h (Nat.le_refl _) _) (ssV_one _) ?hb ?hc ?hd ?_))
    case ha => rw [ssV_len]; omega
    case hb => simp [maxLen]; omega
    case hc => omega
    case hd => simp
    intro A' c' w' hown hg hc'
    have hb := (below_alloc1 w (.cells #[] 9)).grown hg (by simp) (fun k hk => by simp [Value.ownBlock] at hk; omega)
    try simp only [Nat.zero_add, List.nil_append] at *
    have hsa := SA.of_own (X := Under w.heap.size) hown (fun b hb => hb)
    go_wp2_with fail
    go_ret
    exact ⟨A', c', rfl, hc', hsa, hb⟩

theorem info36 : (Tryd.prog.info? 36).map (fun i => (i.zero, i.size, i.bytes)) = some (some (.agg #[.string .empty, .slice none 0 0]), 2, 40) := by kernel_rfl
theorem size_alloc_le (w : World) (o : Obj) : w.heap.size ≤ (w.alloc o).heap.size := by simp
theorem fl_one (p : List UInt8) (A : Option Addr) (n k : Nat) : ∀ u ∈ [strV p, .slice A n k], u.oneCell' = true := by
  intro u hu; simp at hu; rcases hu with rfl | rfl <;> rfl
/-- A tree of the call's own: nothing of it lies in a block that X names, nor the lines in the row's block. -/
structure OwnT (w : World) (base : Nat) (X : Nat → Prop) (A : Option Addr) (c : Nat) (s : List Tr.F) (xs : List Value) : Prop where
  own : w.ownsRow base 36 2 (.slice A s.length c) s.length xs
  rows : RowsR (FlR w (Or1 X (.slice A s.length c))) s xs
/-- The state of the loop of 'CopyTree'. -/
structure CySt (w wr : World) (s : List Tr.F) (i : Nat) (Ao : Option Addr) (co : Nat) (xs : List Value) : Prop where
  res : Blk wr (w.heap.size + 1) 24 #[.slice none 0 0]
  out : Blk wr (w.heap.size + 2) 24 #[.slice Ao i co]
  own : wr.ownsRow (w.heap.size + 3) 36 2 (.slice Ao i co) i xs
  rows : RowsR (FlR wr (Or1 (Under (w.heap.size + 3)) (.slice Ao i co))) (s.take i) xs
  bel : Below w.heap.size w wr
  hi : w.heap.size + 3 ≤ wr.heap.size
theorem CySt.below {w wr w' : World} {s : List Tr.F} {i : Nat} {Ao : Option Addr} {co : Nat} {xs : List Value} (h : CySt w wr s i Ao co xs) (hb : Below wr.heap.size wr w') : CySt w w' s i Ao co xs :=
  ⟨h.res.below hb h.res.lt, h.out.below hb h.out.lt, h.own.kept (only_of_below hb none) (by cases hv : (Value.slice Ao i co).ownBlock <;> simp), h.rows.mono (FlR.keep (Keeps.below hb (fun _ _ h => h))), h.bel.trans (hb.mono h.bel.size), Nat.le_trans h.hi hb.size⟩
theorem CySt.app {w w3 w4 : World} {s : List Tr.F} {i : Nat} {Ao : Option Addr} {co : Nat} {xs : List Value} (st : CySt w w3 s i Ao co xs) {f : Tr.F} {A1 : Option Addr} {k1 : Nat} {o0 : Obj} {gd c' : Nat}
    (hob : LnA w3 (Or1 (Under (w.heap.size + 3)) (.slice Ao i co)) f.lines A1 k1) (hs : s.take (i + 1) = s.take i ++ [f]) (own3 : (w3.alloc o0).ownsRow (w.heap.size + 3) 36 2 (.slice Ao i co) i xs)
    (hg : (w3.alloc o0).grownBy w4 (Value.slice Ao i co).ownBlock)
    (hown : w4.ownsRow (w.heap.size + 3) 36 2 (.slice (some ⟨gd, 0, none⟩) (i + 1) c') (i + 1) (xs ++ [strV f.path, .slice A1 f.lines.length k1]))
    (hb : (Value.slice (some ⟨gd, 0, none⟩) (i + 1) c').ownBlock = (Value.slice Ao i co).ownBlock ∨ (Value.slice (some ⟨gd, 0, none⟩) (i + 1) c').ownBlock = some (w3.alloc o0).heap.size) :
    CySt w (w4.setCell ⟨w.heap.size + 2, 0, none⟩ (.slice (some ⟨gd, 0, none⟩) (i + 1) c')) s (i + 1) (some ⟨gd, 0, none⟩) c' (xs ++ [strV f.path, .slice A1 f.lines.length k1]) := by
  have res4 := (st.res.alloc o0).grown hg (own_blk_ne own3 (st.res.alloc o0) (by decide))
  have out4 := (st.out.alloc o0).grown hg (own_blk_ne own3 (st.out.alloc o0) (by decide))
  have hkp := ((Keeps.alloc w3 (Or1 (Under (w.heap.size + 3)) (.slice Ao i co)) o0).trans (Keeps.or1 hg rfl hb)).trans (Keeps.setCell w4 _ ⟨w.heap.size + 2, 0, none⟩ (.slice (some ⟨gd, 0, none⟩) (i + 1) c') (.inl (by show w.heap.size + 2 < w.heap.size + 3; omega)))
  have hsz := hg.size
  have hhi := st.hi
  refine ⟨res4.far (by simp) _, by simpa using out4.set_ 0 (.slice (some ⟨gd, 0, none⟩) (i + 1) c'), own_setCell hown (own_blk_ne hown out4 (by decide)) _, ?_, ?_, ?_⟩
  · rw [hs]
    exact (st.rows.mono (FlR.keep hkp)).append (RowsR.one ⟨A1, k1, rfl, hob.keep hkp⟩)
  · refine Below.setCell ?_ (by simp) _
    exact (st.bel.alloc st.bel.size o0).grown hg (by have := st.bel.size; simp; omega) (fun b hb => by have := (own3.lt b hb).1; omega)
  · simp at hsz ⊢; omega
theorem results_c24 {fn : Func} {a : Tmp} (h : fn.results = #[.cell a 24]) (tmps : Array Value) (w : World) (g : Nat) (x : Value) (ha : tmps.getD a undef = .pointer (some ⟨g, 0, none⟩)) (hb : Blk w g 24 #[x]) :
    (results fn tmps).run Tryd.prog w = .ok (.agg #[x]) w := by
  have h0 := hb.cell 0
  simp only [List.getElem?_toArray, List.getElem?_cons_zero] at h0
  have ha' : tmps[a]?.getD undef = .pointer (some ⟨g, 0, none⟩) := by simpa using ha
  simp [results, h, go_sem, ha', h0]
def CyPost (w : World) (s : List Tr.F) (e : Ending) (w' : World) : Prop := ∃ A c xs, e = .returned (.agg #[.slice A s.length c]) ∧ OwnT w' w.heap.size (Under w.heap.size) A c s xs ∧ Below w.heap.size w w'
set_option maxRecDepth 100000 in
set_option maxHeartbeats 16000000 in
theorem copyTree_any (w : World) (A : Option Addr) (k : Nat) (s : List Tr.F) (hv : VfV w Free A s) (hl : s.length ≤ 1000000) (hlk : ∀ i, i < s.length → (Tr.it s i).lines.length * 16 ≤ 140737488351232) :
    Calls Tryd.prog 19 #[.agg #[.slice A s.length k]] w (CyPost w s) := by
  obtain ⟨i0, hi0, hz0, hz1, hz2⟩ := info_parts info36
  have HROW := Lib.hid (fun (w' : World) (hb : Below w.heap.size w w') i hi => (hv.keep (free_below hb)).row (w := w') i hi)
  have HLK := Lib.hid hlk
  have hl' : (s.length : Int) ≤ 1000000 := by omega
  have st0 : CySt w (((w.alloc (.cells #[.slice A s.length k] 24)).alloc (.cells #[.slice none 0 0] 24)).alloc (.cells #[.slice none 0 0] 24)) s 0 none 0 [] :=
    ⟨(blk_new1 _ _ _ _).alloc _, by simpa using Blk.new ((w.alloc (.cells #[.slice A s.length k] 24)).alloc (.cells #[.slice none 0 0] 24)) 24 #[.slice none 0 0], World.ownsRow_nil _ _ _ _, rfl, below_alloc3 _ _ _ _, by simp⟩
  clear hv hlk
  go_enter Tryd.func19, Tryd.ntmps19
  go_wp2_with fail
  go_loopw [9] (fun iv wr => ∃ (i : Nat) (Ao : Option Addr) (co : Nat) (xs : List Value), i ≤ s.length ∧ iv = .int .i64 i ∧ CySt w wr s i Ao co xs) (fun iv _ => s.length - (intOf iv).toNat)
  case atStart => exact ⟨0, none, 0, [], Nat.zero_le _, rfl, st0⟩
  case round =>
    obtain ⟨i, Ao, co, xs, hi, rfl, st⟩ := hrel
    obtain ⟨wo, rfl⟩ : ∃ wo : World, wo = wr := ⟨_, rfl⟩
    clear st0
    have hsz := st.bel.size
    have hhi := st.hi
    by_cases hil : i < s.length
    · have hil' : (i : Int) < s.length := by omega
      obtain ⟨b, off, Al, kl, e, hb, _, d0, d1, hob⟩ := HROW.out _ st.bel i hil
      subst e
      have hlki := HLK.out i hil
      have HTK := Lib.hid (show s.take (i + 1) = s.take i ++ [Tr.it s i] by rw [List.take_succ_eq_append_getElem hil, Tr.it_eq s i hil])
      have hll := hob.ll
      generalize hxx : Tr.it s i = x at *
      clear hxx
      have HCO := Lib.hid (fun (w' : World) (hb : Below wo.heap.size wo w') => clone_any w' Al kl x.lines (hob.ls.keep (free_below hb)).sv hlki)
      clear hob hlki
      obtain ⟨xp, ls⟩ := x
      simp only at *
      have hbx := below_alloc1 wo (.cells #[strV xp, .slice Al ls.length kl] 36)
      have stx := st.below hbx
      have hk0 : Below wo.heap.size wo (wo.alloc (.cells #[strV xp, .slice Al ls.length kl] 36)).drew := below_drew' hbx
      have q0 := stx.out.cell 0
      have blx := Blk.new wo 36 #[strV xp, .slice Al ls.length kl]
      simp only [List.getElem?_toArray, List.getElem?_cons_zero] at q0
      have hne46 : (36 : TypeId) ≠ 24 := by decide
      have h63 : i + 1 ≤ maxLen := by unfold maxLen; omega
      have hby : (i + 1) * 40 ≤ 140737488355328 := by omega
      go_wp2_with fail
      go_region_law
        (first
          | (go_simp; go_at_call 29; (with_reducible refine (HCO.out _ hk0).mono ?_); rintro e w3 ⟨A1, k1, rfl, hlk1, hob3, hb3⟩; have hk3 : Below wo.heap.size wo w3 := hk0.trans (hb3.mono hk0.size); have st3 := st.below hk3; have z3 : w.heap.size + 1 + 1 < w3.heap.size := st3.out.lt; have p0 := (st3.out.cell 0).trans (rfl : _ = some (Value.slice Ao i co)); have x0 := ((blx.drew.below hb3 blx.drew.lt).cell 0).trans (rfl : _ = some (strV xp)); go_wp2_with fail)
          | (refine step_appNo _ rfl (.tmp 14) (.tmp 21) 22 rfl (w.heap.size + 3) 36 i0 _ 2 40 Tryd.underlying22 hi0 hz0 hz1 hz2 rfl (by decide) Ao i co xs rfl (st3.own.alloc _) w3.heap.size 1 [strV xp, .slice A1 ls.length k1] rfl rfl (fun j v hj => cells_new w3 #[strV xp, .slice A1 ls.length k1] 36 j v hj) (fl_one _ _ _ _) h63 hby (Nat.le_trans st3.hi (size_alloc_le _ _)) ?_; intro gd c' w4 hown4 hg4 hob4; have own3 := st3.own.alloc (.cells #[strV xp, .slice A1 ls.length k1] 36); have out3 := st3.out.alloc (.cells #[strV xp, .slice A1 ls.length k1] 36); have out4 := out3.grown hg4 (own_blk_ne own3 out3 hne46); have r0 := (out4.cell 0).trans (rfl : _ = some (Value.slice Ao i co)); have r1 := out4.frozen 0))
      all_goals
        have hob5 : LnA w3 (Or1 (Under (w.heap.size + 3)) (.slice Ao i co)) ls A1 k1 := ⟨hlk1, hll, hob3.mono (fun b hb => by
          rcases hb with hb | hb
          · unfold Under at *; exact Nat.lt_of_lt_of_le hb (Nat.le_trans hhi hk0.size)
          · exact Nat.lt_of_lt_of_le ((st.own.lt b hb).2) hk0.size)⟩
        have st5 := st3.app (f := ⟨xp, ls⟩) hob5 HTK.out own3 hg4 hown4 hob4
        clear hob5 hown4 hg4 hob4 own3 out3 out4 st3 st stx hob3 hb3 hk3
        go_wp2_with fail
        go_roundw
        case rel => exact ⟨i + 1, _, _, _, by omega, by go_num, st5⟩
        case measure => simp [intOf]; omega
    · obtain rfl : i = s.length := by omega
      have o0 := st.out.cell 0
      have r0 := st.res.cell 0
      have r1 := st.res.frozen 0
      have l0 := st.out.lt
      simp only [List.getElem?_toArray, List.getElem?_cons_zero] at o0 r0
      go_wp2_with fail
      have hu : (Under (w.heap.size + 3)) (w.heap.size + 1) := by unfold Under; omega
      have hk := Keeps.setCell wo (Or1 (Under (w.heap.size + 3)) (.slice Ao s.length co)) ⟨w.heap.size + 1, 0, none⟩ (.slice Ao s.length co) (.inl hu)
      have hb1 := st.res.set_ 0 (.slice Ao s.length co)
      refine bodyPost_ret (results_c24 rfl _ _ (w.heap.size + 1) (.slice Ao s.length co) rfl (by simpa using hb1)) rfl ?_
      refine ⟨Ao, co, xs, rfl, ⟨own_more (own_setCell st.own (own_blk_ne st.own st.res (by decide)) _) (by omega), ?_⟩, st.bel.setCell (by simp) _⟩
      have hr := st.rows
      rw [List.take_length] at hr
      exact hr.mono (FlR.keep (hk.into (X'' := Or1 (Under w.heap.size) (.slice Ao s.length co)) fun b hb => by
        rcases hb with hb | hb
        · exact .inl (by unfold Under at *; omega)
        · exact .inr hb))
end Go.Proofs.YtjfckjonfpkphaaDoor
