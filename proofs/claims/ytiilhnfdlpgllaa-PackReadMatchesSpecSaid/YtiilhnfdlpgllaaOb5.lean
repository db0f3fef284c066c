/-
  Objects: walk of 'Copy'.
-/
import Derived.Test.YtiilhnfdlpgllaaOb4
import Derived.Test.YtiilhnfdlpgllaaView14
namespace Go.Proofs.Ytiilhnfdlpgllaa
open Go.RowKit Go.V
set_option linter.unusedVariables false

theorem info46 : (Try.prog.info? 46).map (fun i => (i.zero, i.size, i.bytes)) = some (some (.agg #[.int .i64 0, .int .i64 0, .slice none 0 0, .slice none 0 0]), 4, 64) := by kernel_rfl
theorem ObA.mono_ {w : World} {X X' : Nat → Prop} {o : Ob.O} {Al : Option Addr} {kl : Nat} {Ad : Option Addr} {kd : Nat} (h : ObA w X o Al kl Ad kd) (hX : ∀ b, X' b → X b) : ObA w X' o Al kl Ad kd := h.keep ((Keeps.refl w X).into hX)
theorem size_alloc_le (w : World) (o : Obj) : w.heap.size ≤ (w.alloc o).heap.size := by simp
theorem st_one (d k : Int) (A1 : Option Addr) (n1 k1 : Nat) (A2 : Option Addr) (n2 k2 : Nat) : ∀ u ∈ [Value.int .i64 d, .int .i64 k, .slice A1 n1 k1, .slice A2 n2 k2], u.oneCell' = true := by
  intro u hu; simp at hu; rcases hu with rfl | rfl | rfl | rfl <;> rfl
/-- A store of the call's own: nothing of it lies in a block that X names. -/
structure OwnSt (w : World) (base : Nat) (X : Nat → Prop) (A : Option Addr) (c : Nat) (s : List Ob.S) (xs : List Value) : Prop where
  own : w.ownsRow base 46 4 (.slice A s.length c) s.length xs
  rows : RowsR (StR w (Or1 X (.slice A s.length c))) s xs
/-- The state of the loop of 'Copy'. -/
structure CySt (w wr : World) (A : Option Addr) (n k : Nat) (s : List Ob.S) (i : Nat) (Ao : Option Addr) (co : Nat) (xs : List Value) : Prop where
  res : Blk wr (w.heap.size + 1) 24 #[.slice none 0 0]
  out : Blk wr (w.heap.size + 2) 24 #[.slice Ao i co]
  own : wr.ownsRow (w.heap.size + 3) 46 4 (.slice Ao i co) i xs
  rows : RowsR (StR wr (Or1 (Under (w.heap.size + 3)) (.slice Ao i co))) (s.take i) xs
  bel : Below w.heap.size w wr
  hi : w.heap.size + 3 ≤ wr.heap.size
theorem CySt.below {w wr w' : World} {A : Option Addr} {n k : Nat} {s : List Ob.S} {i : Nat} {Ao : Option Addr} {co : Nat} {xs : List Value} (h : CySt w wr A n k s i Ao co xs) (hb : Below wr.heap.size wr w') : CySt w w' A n k s i Ao co xs :=
  ⟨h.res.below hb h.res.lt, h.out.below hb h.out.lt, h.own.kept (only_of_below hb none) (by cases hv : (Value.slice Ao i co).ownBlock <;> simp), h.rows.mono (StR.keep (Keeps.below hb (fun _ _ h => h))), h.bel.trans (hb.mono h.bel.size), Nat.le_trans h.hi hb.size⟩
theorem CySt.app {w w3 w4 : World} {A : Option Addr} {n k : Nat} {s : List Ob.S} {i : Nat} {Ao : Option Addr} {co : Nat} {xs : List Value} (st : CySt w w3 A n k s i Ao co xs) {x : Int} {o : Ob.O} {A1 A2 : Option Addr} {k1 k2 : Nat} {o0 : Obj} {gd c' : Nat}
    (hk : I64 o.kind) (hx : I64 x) (hob : ObA w3 (Or1 (Under (w.heap.size + 3)) (.slice Ao i co)) o A1 k1 A2 k2) (hs : s.take (i + 1) = s.take i ++ [⟨x, o⟩]) (own3 : (w3.alloc o0).ownsRow (w.heap.size + 3) 46 4 (.slice Ao i co) i xs)
    (hg : (w3.alloc o0).grownBy w4 (Value.slice Ao i co).ownBlock)
    (hown : w4.ownsRow (w.heap.size + 3) 46 4 (.slice (some ⟨gd, 0, none⟩) (i + 1) c') (i + 1) (xs ++ [.int .i64 x, .int .i64 o.kind, .slice A1 o.links.length k1, .slice A2 o.data.length k2]))
    (hb : (Value.slice (some ⟨gd, 0, none⟩) (i + 1) c').ownBlock = (Value.slice Ao i co).ownBlock ∨ (Value.slice (some ⟨gd, 0, none⟩) (i + 1) c').ownBlock = some (w3.alloc o0).heap.size) :
    CySt w (w4.setCell ⟨w.heap.size + 2, 0, none⟩ (.slice (some ⟨gd, 0, none⟩) (i + 1) c')) A n k s (i + 1) (some ⟨gd, 0, none⟩) c' (xs ++ [.int .i64 x, .int .i64 o.kind, .slice A1 o.links.length k1, .slice A2 o.data.length k2]) := by
  have res4 := (st.res.alloc o0).grown hg (own_blk_ne own3 (st.res.alloc o0) (by decide))
  have out4 := (st.out.alloc o0).grown hg (own_blk_ne own3 (st.out.alloc o0) (by decide))
  have hkp := ((Keeps.alloc w3 (Or1 (Under (w.heap.size + 3)) (.slice Ao i co)) o0).trans (Keeps.or1 hg rfl hb)).trans (Keeps.setCell w4 _ ⟨w.heap.size + 2, 0, none⟩ (.slice (some ⟨gd, 0, none⟩) (i + 1) c') (.inl (by show w.heap.size + 2 < w.heap.size + 3; omega)))
  have hsz := hg.size
  have hhi := st.hi
  refine ⟨res4.far (by simp) _, by simpa using out4.set_ 0 (.slice (some ⟨gd, 0, none⟩) (i + 1) c'), own_setCell hown (own_blk_ne hown out4 (by decide)) _, ?_, ?_, ?_⟩
  · rw [hs]
    exact (st.rows.mono (StR.keep hkp)).append (RowsR.one ⟨A1, k1, A2, k2, rfl, hx, hob.keep hkp⟩)
  · refine Below.setCell ?_ (by simp) _
    exact (st.bel.alloc st.bel.size o0).grown hg (by have := st.bel.size; simp; omega) (fun b hb => by have := (own3.lt b hb).1; omega)
  · simp at hsz ⊢; omega
def CyPost (w : World) (s : List Ob.S) (e : Ending) (w' : World) : Prop := ∃ A c xs, e = .returned (stV A s.length c) ∧ OwnSt w' w.heap.size (Under w.heap.size) A c s xs ∧ Below w.heap.size w w'
set_option maxRecDepth 100000 in
set_option maxHeartbeats 16000000 in
theorem copy_any (w : World) (A : Option Addr) (k : Nat) (s : List Ob.S) (hv : StV w Free A s) (hl : s.length ≤ 1000000) (hlk : ∀ i, i < s.length → (Ob.it s i).ob.links.length * 8 ≤ 140737488351232) :
    Calls Try.prog 48 #[stV A s.length k] w (CyPost w s) := by
  obtain ⟨i0, hi0, hz0, hz1, hz2⟩ := info_parts info46
  have HROW := Lib.hid (fun (w' : World) (hb : Below w.heap.size w w') i hi => (hv.keep (free_below hb)).row (w := w') i hi)
  have HLK := Lib.hid hlk
  have hl' : (s.length : Int) ≤ 1000000 := by omega
  have st0 : CySt w (((w.alloc (.cells #[.slice A s.length k] 24)).alloc (.cells #[.slice none 0 0] 24)).alloc (.cells #[.slice none 0 0] 24)) A s.length k s 0 none 0 [] :=
    ⟨(blk_new1 _ _ _ _).alloc _, by simpa using Blk.new ((w.alloc (.cells #[.slice A s.length k] 24)).alloc (.cells #[.slice none 0 0] 24)) 24 #[.slice none 0 0], World.ownsRow_nil _ _ _ _, rfl, below_alloc3 _ _ _ _, by simp⟩
  clear hv hlk
  go_enter Try.func48, Try.ntmps48
  go_wp2_with fail
  go_loopw [9] (fun iv wr => ∃ (i : Nat) (Ao : Option Addr) (co : Nat) (xs : List Value), i ≤ s.length ∧ iv = .int .i64 i ∧ CySt w wr A s.length k s i Ao co xs) (fun iv _ => s.length - (intOf iv).toNat)
  case atStart => exact ⟨0, none, 0, [], Nat.zero_le _, rfl, st0⟩
  case round =>
    obtain ⟨i, Ao, co, xs, hi, rfl, st⟩ := hrel
    obtain ⟨wo, rfl⟩ : ∃ wo : World, wo = wr := ⟨_, rfl⟩
    clear st0
    have hsz := st.bel.size
    have hhi := st.hi
    by_cases hil : i < s.length
    · have hil' : (i : Int) < s.length := by omega
      obtain ⟨b, off, Al, kl, Ad, kd, e, hb, _, d0, d1, d2, d3, hx, hob⟩ := HROW.out _ st.bel i hil
      subst e
      have hlki := HLK.out i hil
      have HTK := Lib.hid (show s.take (i + 1) = s.take i ++ [Ob.it s i] by rw [List.take_succ_eq_append_getElem hil, Ob.it_eq s i hil])
      have hobk := hob.kind
      generalize hxx : Ob.it s i = x at *
      clear hxx
      have HCO := Lib.hid (fun (w' : World) (hb : Below wo.heap.size wo w') => copyObject_any w' x.ob Al kl Ad kd (hob.keep (free_below hb)) hlki)
      clear hob hlki
      obtain ⟨xd, kk, ls, da⟩ := x
      simp only at *
      have hbx := below_alloc1 wo (.cells #[.int .i64 xd, .int .i64 kk, .slice Al ls.length kl, .slice Ad da.length kd] 46)
      have stx := st.below hbx
      have hk0 : Below wo.heap.size wo (wo.alloc (.cells #[.int .i64 xd, .int .i64 kk, .slice Al ls.length kl, .slice Ad da.length kd] 46)).drew := below_drew' hbx
      have q0 := stx.out.cell 0
      have blx := Blk.new wo 46 #[.int .i64 xd, .int .i64 kk, .slice Al ls.length kl, .slice Ad da.length kd]
      simp only [List.getElem?_toArray, List.getElem?_cons_zero] at q0
      have hne46 : (46 : TypeId) ≠ 24 := by decide
      have h63 : i + 1 ≤ maxLen := by unfold maxLen; omega
      have hby : (i + 1) * 64 ≤ 140737488355328 := by omega
      go_wp2_with fail
      go_region_law
        (first
          | (go_simp; go_at_call 50; (with_reducible refine (HCO.out _ hk0).mono ?_); rintro e w3 ⟨A1, k1, A2, k2, rfl, hob3, hb3⟩; have hk3 : Below wo.heap.size wo w3 := hk0.trans (hb3.mono hk0.size); have st3 := st.below hk3; have z3 : w.heap.size + 1 + 1 < w3.heap.size := st3.out.lt; have p0 := (st3.out.cell 0).trans (rfl : _ = some (Value.slice Ao i co)); have x0 := ((blx.drew.below hb3 blx.drew.lt).cell 0).trans (rfl : _ = some (Value.int .i64 xd)); go_wp2_with fail)
          | (refine step_appNo _ rfl (.tmp 14) (.tmp 21) 22 rfl (w.heap.size + 3) 46 i0 _ 4 64 Try.underlying22 hi0 hz0 hz1 hz2 rfl (by decide) Ao i co xs rfl (st3.own.alloc _) w3.heap.size 1 [.int .i64 xd, .int .i64 kk, .slice A1 ls.length k1, .slice A2 da.length k2] rfl rfl (fun j v hj => cells_new w3 #[.int .i64 xd, .int .i64 kk, .slice A1 ls.length k1, .slice A2 da.length k2] 46 j v hj) (st_one _ _ _ _ _ _ _ _) h63 hby (Nat.le_trans st3.hi (size_alloc_le _ _)) ?_; intro gd c' w4 hown4 hg4 hob4; have own3 := st3.own.alloc (.cells #[.int .i64 xd, .int .i64 kk, .slice A1 ls.length k1, .slice A2 da.length k2] 46); have out3 := st3.out.alloc (.cells #[.int .i64 xd, .int .i64 kk, .slice A1 ls.length k1, .slice A2 da.length k2] 46); have out4 := out3.grown hg4 (own_blk_ne own3 out3 hne46); have r0 := (out4.cell 0).trans (rfl : _ = some (Value.slice Ao i co)); have r1 := out4.frozen 0))
      all_goals
        have hob5 := hob3.mono_ (X' := Or1 (Under (w.heap.size + 3)) (.slice Ao i co)) (fun b hb => by
          rcases hb with hb | hb
          · unfold Under at *; exact Nat.lt_of_lt_of_le hb (Nat.le_trans hhi hk0.size)
          · exact Nat.lt_of_lt_of_le ((st.own.lt b hb).2) hk0.size)
        have st5 := st3.app hobk hx hob5 HTK.out own3 hg4 hown4 hob4
        clear hob5 hown4 hg4 hob4 own3 out3 out4 st3 st stx hob3 hb3 hk3
        go_wp2_with fail
        go_roundw
        case rel => exact ⟨i + 1, _, _, _, by omega, by go_num, st5⟩
        case measure => simp [intOf]; omega
    · obtain rfl : i = s.length := by omega
      have o0 := st.out.cell 0
      have r0 := st.res.cell 0
      have r1 := st.res.frozen 0
      have l0 := st.out.lt
      simp only [List.getElem?_toArray, List.getElem?_cons_zero] at o0 r0
      go_wp2_with fail
      have hu : (Under (w.heap.size + 3)) (w.heap.size + 1) := by unfold Under; omega
      have hk := Keeps.setCell wo (Or1 (Under (w.heap.size + 3)) (.slice Ao s.length co)) ⟨w.heap.size + 1, 0, none⟩ (.slice Ao s.length co) (.inl hu)
      have hb1 := st.res.set_ 0 (.slice Ao s.length co)
      refine bodyPost_ret (results_c24 rfl _ _ (w.heap.size + 1) (.slice Ao s.length co) rfl (by simpa using hb1)) rfl ?_
      refine ⟨Ao, co, xs, rfl, ⟨own_more (own_setCell st.own (own_blk_ne st.own st.res (by decide)) _) (by omega), ?_⟩, st.bel.setCell (by simp) _⟩
      have hr := st.rows
      rw [List.take_length] at hr
      exact hr.mono (StR.keep (hk.into (X'' := Or1 (Under w.heap.size) (.slice Ao s.length co)) fun b hb => by
        rcases hb with hb | hb
        · exact .inl (by unfold Under at *; omega)
        · exact .inr hb))
end Go.Proofs.Ytiilhnfdlpgllaa
