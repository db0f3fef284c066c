/-
  Histories: walk of 'Of'.
-/
import Derived.Test.YtebohncdhhikkaaW8
import Derived.Test.YtebohncdhhikkaaW4
import Derived.Test.YtebohncdhhikkaaPure2
import Derived.Outline
import Derived.Test.YtebohncdhhikkaaRegIn
namespace Go.Proofs.Ytebohncdhhikkaa
open Go.RowKit Go.V Go.Shelf
set_option linter.unusedVariables false
attribute [local go_sem] Oper.semAt_some

theorem backward_in (F : Fence) (n : Nat) (h51 : F.fn 51) (hro : F.round = none) (a : Option Addr) (len cap : Nat) (w : World) :
    CallsIn F n Try.prog 51 #[.slice a len cap] w fun e w' => e = .returned (.func (.func 54) #[] #[.pointer (some ⟨w.heap.size, 0, none⟩)]) ∧ w' = w.alloc (.cells #[.slice a len cap] 23) := by
  refine callsIn_of_wp Try.func51 rfl h51 ?_ hro
  simp only [Try.ntmps51, List.size_toArray, List.length_cons, List.length_nil, Nat.reduceAdd, Nat.reduceSub, Array.replicate_succ, Array.replicate_zero, List.push_toArray, List.append_toArray, List.nil_append, List.cons_append]
  gi_wp2
  go_ret
  exact ⟨rfl, rfl⟩

theorem back_stops (F : Fence) (n : Nat) (h54 : F.fn 54) (hro : F.round = none) (hn : 1 ≤ n) (Bs : Nat) (w0 w : World) (A : Option Addr) (l : List Hs.Cm) (kc : Nat) (hv : CV w0 A l) (hlen : l.length ≤ 60)
    (hb0 : Below w0.heap.size w0 w) (hB : Blk w Bs 23 #[.slice A l.length kc]) :
    SeqStopsK F n Try.prog 54 #[.pointer (some ⟨Bs, 0, none⟩)] (cxV (w0 := w0) (l := l)) (KpB w0.heap.size Bs) descX (fun _ => True) l.length w := fun lp J Jx W hW _ _ hY h0 =>
  back1_in F n h54 hro hn lp Bs w0 A l kc hv hlen J Jx hY W (hb0.trans (hW.mono hb0.size)) (hB.below hW hB.lt) h0

/-- A slice of bools that the call has made, as a function of the index. -/
def TabBPost (w : World) (n : Nat) (f : Nat → Bool) (e : Ending) (w' : World) : Prop :=
  ∃ g, e = .returned (.slice (some ⟨g, 0, none⟩) n n) ∧ w.heap.size ≤ g ∧ Blk w' g 4 (boolsA (tab n f)) ∧ Below w.heap.size w w'
/-- The marks: a row of bools, and the box that holds it. -/
structure OfSt (w wr : World) (n : Nat) (f : Nat → Bool) : Prop where
  blk : Blk wr w.heap.size 4 (boolsA (tab n f))
  box : Blk wr (w.heap.size + 1) 46 #[.slice (some ⟨w.heap.size, 0, none⟩) n n]
  bel : Below w.heap.size w wr
theorem OfSt.alloc {w wr : World} {n : Nat} {f : Nat → Bool} (h : OfSt w wr n f) (o : Obj) : OfSt w (wr.alloc o) n f := ⟨h.blk.alloc o, h.box.alloc o, h.bel.alloc h.bel.size o⟩
theorem OfSt.set_ {w wr : World} {n : Nat} {f f' : Nat → Bool} (h : OfSt w wr n f) (i : Nat) (x : Bool) (hf : ∀ j, j < n → f' j = if j = i then x else f j) : OfSt w (wr.setCell ⟨w.heap.size, i, none⟩ (.bool x)) n f' :=
  ⟨blk_tabB_set h.blk i x hf, h.box.far (by simp) _, h.bel.setCell (by simp) _⟩
theorem OfSt.drewN {w wr : World} {n : Nat} {f : Nat → Bool} (h : OfSt w wr n f) (m : Nat) : OfSt w (wr.drewN m) n f := ⟨h.blk, h.box, below_drewN h.bel m⟩
theorem OfSt.congr {w wr : World} {n : Nat} {f f' : Nat → Bool} (h : OfSt w wr n f) (hf : ∀ j, j < n → f' j = f j) : OfSt w wr n f' :=
  ⟨by have := h.blk; rw [← tab_congr (f := f') (g := f) hf] at this; exact this, h.box, h.bel⟩
theorem OfSt.grown {w wr W' : World} {n : Nat} {f : Nat → Bool} {row : Option Nat} (h : OfSt w wr n f) (hg : wr.grownBy W' row) (hr : ∀ r, row = some r → w.heap.size + 2 ≤ r) : OfSt w W' n f :=
  ⟨h.blk.grown hg (fun e => by have := hr _ e.symm; omega), h.box.grown hg (fun e => by have := hr _ e.symm; omega), h.bel.grown hg h.bel.size (fun k e => by have := hr k e; omega)⟩
theorem ints_at (l : List Nat) (i : Nat) (h : i < l.length) : (Hs.ints l)[i]'(by simpa using h) = (l[i] : Int) := by simp [Hs.ints]

set_option maxRecDepth 100000 in
set_option maxHeartbeats 8000000 in
theorem of_any (w : World) (A A2 : Option Addr) (k c2 : Nat) (l : List Hs.Cm) (list : List Nat) (hv : CV w A l) (hok : Hs.Ok l) (h2 : IV w A2 (Hs.ints list)) (hin : ∀ x ∈ list, x < l.length) (hlen : list.length ≤ 9223372036854775807) :
    Calls Try.prog 39 #[.slice A l.length k, .slice A2 list.length c2] w (TabBPost w l.length (Hs.of l fun x => list.contains x)) := by
  have hl := hok.len
  have hmk := run_make_row' (P := Try.prog) 46 4 (.bool false) 1 Try.underlying46 info4 rfl .i64 .i64 l.length (by omega) (by omega)
  have HIN := Lib.hid hin
  clear hin
  refine (callsIn_wide (n := 5)).1 ?_
  refine callsIn_of_wp_marks Try.func39 rfl trivial ?_ rfl
  simp only [Try.ntmps39, List.size_toArray, List.length_cons, List.length_nil, Nat.reduceAdd, Nat.reduceSub, Array.replicate_succ, Array.replicate_zero, List.push_toArray, List.append_toArray, List.nil_append, List.cons_append]
  gi_wp2
  gi_loopw [17] (fun v wr => ∃ j : Nat, j ≤ list.length ∧ v = .int .i64 j ∧ OfSt w wr l.length (fun x => (list.take j).contains x)) (fun v _ => list.length - (intOf v).toNat)
  case atStart =>
    refine ⟨0, Nat.zero_le _, rfl, ?_, ?_, (below_alloc1 _ _).alloc (by simp) _⟩
    · exact (blk_made_bool w 4 l.length).alloc _
    · have := Blk.new (w.alloc (.cells (madeCells #[.bool false] l.length) 4)) 46 #[.slice (some ⟨w.heap.size, 0, none⟩) l.length l.length]
      simpa using this
  case round =>
    obtain ⟨j, hj, rfl, st⟩ := hrel
    obtain ⟨wo, rfl⟩ : ∃ wo : World, wo = wr := ⟨_, rfl⟩
    have hbx := st.box.cell 0
    simp only [List.getElem?_toArray, List.getElem?_cons_zero] at hbx
    by_cases hjl : j < list.length
    · obtain ⟨b, off, e, hb, hc⟩ := h2.atIn st.bel j (by simpa using hjl)
      subst e
      rw [ints_at list j hjl] at hc
      have hx := HIN.out _ (List.getElem_mem hjl)
      have HT : Hid (list.take (j + 1) = list.take j ++ [list[j]]) := Lib.hid (List.take_succ_eq_append_getElem hjl)
      generalize list[j] = x at *
      have hxi : (x : Int) < l.length := by omega
      have hcx := blk_tabB st.blk x hx
      have hfx := st.blk.frozen x
      have hst := st.set_ (f' := fun y => (list.take (j + 1)).contains y) x true (fun y _ => by
        rw [HT.out, List.contains_append]
        by_cases e : y = x
        · subst e; simp
        · have : ([x] : List Nat).contains y = false := by simpa using e
          rw [this, if_neg e]; simp)
      gi_wp2
      go_roundw
      case rel => exact ⟨j + 1, by omega, by go_num, hst⟩
      case measure => simp [intOf]; omega
    · obtain rfl : j = list.length := by omega
      have st1 : OfSt w wo l.length (fun x => list.contains x) := st.congr fun y _ => by rw [List.take_length]
      clear st
      gi_wp2_with (refine ⟨trivial, ?_⟩; gi_at_call 51; refine (backward_in Fence.wide _ trivial rfl _ _ _ _).mono ?_; rintro e w' ⟨rfl, rfl⟩)
      have hbelo := st1.bel.alloc st1.bel.size (.cells #[.slice A l.length k] 23)
      have hlt2 := st1.box.lt
      have hbox2 := Blk.new wo 23 #[.slice A l.length k]
      refine wpIn_rangeFunc_ownH (F := Fence.wide) rfl (by omega : 1 ≤ 5) (gf := 54) (lb := #[.pointer (some ⟨wo.heap.size, 0, none⟩)]) rfl trivial (enters_of Try.func54 (by kernel_rfl) rfl)
        (back_stops Fence.wide (5 - 1) trivial rfl (by omega) wo.heap.size w (wo.alloc (.cells #[.slice A l.length k] 23)) A l k hv hl hbelo hbox2)
        kpB_t (kpB_b (by simp; omega) (by simp)) (Below.refl _ _) (fun _ => rfl)
        (fun pre W => OfSt w W l.length (Hs.ofFold l (fun x => list.contains x) (pre.map CX.ix)) ∧ wo.heap.size + 1 ≤ W.heap.size)
        (fun _ _ _ => False)
        (fun s W W' row hs hg hr => ⟨hs.1.grown hg (fun r e => by have := (hr r e).1; simp at this; omega), Nat.le_trans hs.2 hg.size⟩)
        (fun _ _ _ _ _ hs _ _ => hs)
        ⟨st1.alloc _, by simp⟩
        (fun x a' W => ∃ Bx, wo.heap.size + 1 ≤ Bx ∧ Blk W Bx 45 (coV (Hs.cm l x.ix) x.A x.k) ∧ ∃ u7 u19 u20 u21 u22 u23 u24 : Value, a' = { tmps := #[.slice A l.length k, .slice A2 list.length c2, undef, undef, .slice none 0 0, .pointer (some { block := w.heap.size + 1, off := 0 }), undef, u7, .int .i64 (x.ix : Int), .pointer (some ⟨Bx, 0, none⟩), undef, undef, .slice A l.length k, .int .i64 (l.length : Int), .slice (some { block := w.heap.size, off := 0 }) l.length l.length, .slice A2 list.length c2, .int .i64 (list.length : Int), .int .i64 (list.length : Int), .bool false, u19, u20, u21, u22, u23, u24, .slice A l.length k, .func (Fn.func 54) #[] #[.pointer (some { block := wo.heap.size, off := 0 })], .int .i64 (x.ix : Int), .agg (coV (Hs.cm l x.ix) x.A x.k), undef, undef, undef, undef, undef, undef, undef, undef, undef, undef, undef, undef, undef, undef, undef, undef, undef, undef, undef, undef, undef, undef], defers := [] })
        (fun x a' s W W' row ⟨Bx, h1, h2, h3⟩ hg hr => ⟨Bx, h1, h2.grown hg (fun e => by obtain ⟨_, o, ho, hc⟩ := hr Bx e.symm; rw [h2] at ho; cases ho; cases hc), h3⟩)
        ?assign ?body ?done ?stop
      case assign =>
        rintro lr pre x W K ⟨hi, hwz⟩ hK
        obtain ⟨i, Ap, kp, hxl, hxp⟩ := x
        simp only [cxV, coV] at *
        have hsz := hi.bel.size
        have hbl := hi.box.lt
        gi_wp2
        refine hK _ _ ((KeepsOthers.alloc _ _).from _) ⟨(Below.refl _ W).alloc hsz _, Below.heap_alloc _ _ _ (by omega)⟩ ⟨hi.alloc _, by simp; omega⟩ ⟨W.heap.size, hwz, Blk.new _ _ _, _, _, _, _, _, _, _, rfl⟩
      case body =>
        rintro lr pre x a' W hlr ⟨rr, hr⟩ ⟨hi, hwz⟩ ⟨Bx, hBx, bX, u7, u19, u20, u21, u22, u23, u24, rfl⟩ hplt
        obtain ⟨i, Ap, kp, hxl, hxp⟩ := x
        simp only at bX
        have HP := Lib.hid (hok.par_nat i · hxl)
        have HPL := Lib.hid (Hs.pars_length l i hxl)
        have hpl := hok.par_len i hxl
        rw [Hs.cm_eq l i hxl] at HP HPL hpl
        have HSelf := Lib.hid (Hs.ofIn_self hok (Hs.ofFold l (fun x => list.contains x) (pre.map CX.ix)) i)
        have HAll := Lib.hid (Hs.ofIn_all l (fun x => list.contains x) (pre.map CX.ix) i)
        have HSucc := Lib.hid (Hs.ofIn_succ l (Hs.ofFold l (fun x => list.contains x) (pre.map CX.ix)) i)
        have hi0 : OfSt w W l.length (Hs.ofIn l (Hs.ofFold l (fun x => list.contains x) (pre.map CX.ix)) i 0) := by rw [Hs.ofIn_zero]; exact hi
        have HM := Lib.hid (show (pre ++ [(CX.mk i Ap kp hxl hxp : CX w l)]).map CX.ix = pre.map CX.ix ++ [i] from by rw [List.map_append]; rfl)
        have HI := Lib.hid hi
        clear hi
        generalize pre ++ [(CX.mk i Ap kp hxl hxp : CX w l)] = ys at *
        simp only [coV] at bX ⊢
        generalize Hs.cm l i = c at *
        have hc0 := bX.cell 0
        simp only [List.getElem?_toArray, List.getElem?_cons_zero] at hc0
        gi_wp2
        gi_loopw [32] (fun v wr => ∃ j : Nat, j ≤ c.par.length ∧ v = .int .i64 j ∧ OfSt w wr l.length (Hs.ofIn l (Hs.ofFold l (fun x => list.contains x) (pre.map CX.ix)) i j) ∧ KeepsFrom (wo.heap.size + 1) W wr ∧ KpB w.heap.size wo.heap.size W wr) (fun v _ => c.par.length - (intOf v).toNat)
        case atStart => exact ⟨0, Nat.zero_le _, rfl, hi0, KeepsFrom.refl _ _, Below.refl _ _, rfl⟩
        case round =>
          obtain ⟨j, hj, rfl, st2, hkf, hkp⟩ := hrel
          obtain ⟨w3, rfl⟩ : ∃ w3 : World, w3 = wr := ⟨_, rfl⟩
          have hbx := st2.box.cell 0
          simp only [List.getElem?_toArray, List.getElem?_cons_zero] at hbx
          by_cases hjl : j < c.par.length
          · obtain ⟨b', off', e', hb', hc'⟩ := hxp.atIn st2.bel j hjl
            subst e'
            obtain ⟨p, hp, hpi, hj', hpe⟩ := HP.out j hjl
            rw [hp] at hc'
            have hcp := blk_tabB st2.blk p (by omega)
            have hfp := st2.blk.frozen p
            have hci := blk_tabB st2.blk i hxl
            rw [HSelf.out j] at hci
            have hpn : (p : Int) < l.length := by omega
            have hin : (i : Int) < l.length := by omega
            have hst := st2.set_ (f' := Hs.ofIn l (Hs.ofFold l (fun x => list.contains x) (pre.map CX.ix)) i (j + 1)) p (Hs.ofIn l (Hs.ofFold l (fun x => list.contains x) (pre.map CX.ix)) i j p || Hs.ofFold l (fun x => list.contains x) (pre.map CX.ix) i) (fun q hq => by
              rw [HSucc.out j q hj', hpe]
              by_cases e : q = p
              · subst e; simp
              · simp [e])
            clear hp hpe
            generalize Hs.ofIn l (Hs.ofFold l (fun x => list.contains x) (pre.map CX.ix)) i j p = vp at *
            generalize Hs.ofFold l (fun x => list.contains x) (pre.map CX.ix) i = vi at *
            cases vp
            · simp only [Bool.false_or] at hst
              gi_wp2
              refine wpIn_region_reads 13 (by kernel_rfl) (by kernel_rfl) (by kernel_rfl) ?_
              simp only [List.take_succ_cons, List.take_zero, List.drop_succ_cons, List.drop_zero]
              repeat still_step
              try refine wpStill_nil ?_
              go_simp
              go_wp2
              simp only [NQ]
              gi_wp2
              go_roundw
              case rel => exact ⟨j + 1, by omega, by go_num, hst.drewN 1, hkf.trans (((KeepsOthers.setCell _ _ _).trans (KeepsOthers.drew _)).from _), kpB_t hkp ⟨below_drewN ((Below.refl w.heap.size w3).setCell (p := ⟨w.heap.size, p, none⟩) (Nat.le_refl _) _) 1, Below.heap_setCell w3 ⟨w.heap.size, p, none⟩ _ wo.heap.size (by simp; omega)⟩⟩
              case measure => simp [intOf]; omega
            · simp only [Bool.true_or] at hst
              gi_wp2
              refine wpIn_region_reads 13 (by kernel_rfl) (by kernel_rfl) (by kernel_rfl) ?_
              simp only [List.take_succ_cons, List.take_zero, List.drop_succ_cons, List.drop_zero]
              repeat still_step
              try refine wpStill_nil ?_
              go_simp
              go_wp2
              simp only [NQ]
              gi_wp2
              go_roundw
              case rel => exact ⟨j + 1, by omega, by go_num, hst.drewN 1, hkf.trans (((KeepsOthers.setCell _ _ _).trans (KeepsOthers.drew _)).from _), kpB_t hkp ⟨below_drewN ((Below.refl w.heap.size w3).setCell (p := ⟨w.heap.size, p, none⟩) (Nat.le_refl _) _) 1, Below.heap_setCell w3 ⟨w.heap.size, p, none⟩ _ wo.heap.size (by simp; omega)⟩⟩
              case measure => simp [intOf]; omega
          · obtain rfl : j = c.par.length := by omega
            have hst : OfSt w w3 l.length (Hs.ofFold l (fun x => list.contains x) (pre.map CX.ix ++ [i])) := by
              rw [← HAll.out c.par.length (by rw [HPL.out]; exact Nat.le_refl _)]; exact st2
            have hwz3 := hkf.size
            gi_wp2
            exact ⟨by simpa using hkf, hkp, by rw [HM.out]; exact hst, by omega⟩
      case done =>
        rintro D ys W hD hS ⟨hi, hwz⟩ hK
        have hfin : OfSt w W l.length (Hs.of l fun x => list.contains x) := by
          have hS' : ys.map CX.ix = Hs.descL l.length l.length := hS
          rw [hS', Hs.ofFold_desc] at hi
          exact hi.congr fun _ _ => rfl
        clear hi
        have hbx := hfin.box.cell 0
        simp only [List.getElem?_toArray, List.getElem?_cons_zero] at hbx
        have hsz := hfin.bel.size
        simp at hD
        gi_wp2
        refine ⟨by simp, .inl ⟨_, _, rfl, run_takeDeferred hK, ?_⟩⟩
        have hg := grownBy_putObj' W D (.deferred none)
        have hfin2 := hfin.grown hg (fun r e => by injection e with e; omega)
        exact ⟨_, results_tmp rfl _ _ _, w.heap.size, rfl, Nat.le_refl _, hfin2.blk, hfin2.bel⟩
      case stop =>
        rintro D c pre W _ _ h _
        exact h.elim
end Go.Proofs.Ytebohncdhhikkaa
