/-
  References: walk of 'Name'.
-/
import Derived.Test.YtfbbgnhelannjaaDoorRf2
namespace Go.Proofs.YtfbbgnhelannjaaDoor
open Go.RowKit Go.V Go.Shelf Go.Lib
set_option linter.unusedVariables false
attribute [local go_sem] Oper.semAt_some

/-- The library's own variable at block 0 holds a number. -/
def Mx (w : World) : Prop := ∃ m, w.cell? ⟨0, 0, none⟩ = some (.int .i64 m)
theorem Mx.pos {w : World} (h : Mx w) : 0 < w.heap.size := by obtain ⟨m, hm⟩ := h; exact World.block_lt_of_cell? w _ hm
theorem Mx.below {w w' : World} (h : Mx w) (hb : Below w.heap.size w w') : Mx w' := by
  have hp := h.pos
  obtain ⟨m, hm⟩ := h; exact ⟨m, (hb.cell (p := ⟨0, 0, none⟩) hp).trans hm⟩
theorem results_c4 {fn : Func} {a : Tmp} (h : fn.results = #[.cell a 4]) (tmps : Array Value) (w : World) (g : Nat) (x : Value) (ha : tmps.getD a undef = .pointer (some ⟨g, 0, none⟩)) (hb : w.cell? ⟨g, 0, none⟩ = some x) :
    (results fn tmps).run Tryd.prog w = .ok x w := by
  have ha' : tmps[a]?.getD undef = .pointer (some ⟨g, 0, none⟩) := by simpa using ha
  simp [results, h, go_sem, ha', hb]
set_option maxRecDepth 100000 in
set_option maxHeartbeats 8000000 in
theorem name_any (w : World) (hm : Mx w) (l : List UInt8) : Calls Tryd.prog 16 #[strV l] w fun e w' => e = .returned (.bool (Rf.nameOk l)) ∧ Below w.heap.size w w' := by
  by_cases hlen : l.length ≤ 60
  · have HQ := Lib.hid (show Rf.nameOk l = (Rf.comps l).all Rf.comp from by unfold Rf.nameOk; rw [decide_eq_true hlen]; rfl)
    have hl' : ¬ (60 : Int) < l.length := by omega
    have hsz : (⟨l.toArray⟩ : ByteArray).size = l.length := by simp [ByteArray.size]
    generalize Rf.nameOk l = q at *
    refine (callsIn_wide (n := 5)).1 ?_
    refine callsIn_of_wp_marks Tryd.func16 rfl trivial ?_ rfl
    simp only [Tryd.ntmps16, List.size_toArray, List.length_cons, List.length_nil, Nat.reduceAdd, Nat.reduceSub, Array.replicate_succ, Array.replicate_zero, List.push_toArray, List.append_toArray, List.nil_append, List.cons_append]
    gi_wp2_with (refine ⟨trivial, ?_⟩; gi_at_call 41; refine (SplitSeq_in _ (by omega) _ _).mono ?_; rintro e w' ⟨rfl, rfl⟩)
    have hsz0 : (w.alloc (.cells #[.bool false] 4)).heap.size = w.heap.size + 1 := by simp
    have hszS : (splW (w.alloc (.cells #[.bool false] 4)) l).heap.size = w.heap.size + 4 := by simp [splW]
    have bS : Below w.heap.size w (splW (w.alloc (.cells #[.bool false] 4)) l) := (below_alloc3 _ _ _ _).mono (by simp) |> (below_alloc1 w (.cells #[.bool false] 4)).trans
    have rS : Blk (splW (w.alloc (.cells #[.bool false] 4)) l) w.heap.size 4 #[.bool false] := ((((Blk.new w 4 #[.bool false]).alloc _).alloc _).alloc _ : _)
    refine wpIn_rangeFunc_B (F := Fence.wide) rfl (by omega : 1 ≤ 5) (gf := 74) (lb := splC (w.alloc (.cells #[.bool false] 4))) rfl trivial (enters_of Tryd.func74 (by kernel_rfl) rfl)
      (split_in (5 - 1) (by omega) (w.alloc (.cells #[.bool false] 4)) l hlen) (by rw [hszS, hsz0]; omega) (fun h1 h2 => Below.trans h1 h2)
      (fun W k o o' hk ho h1 h2 => belowK_b (w := splW (w.alloc (.cells #[.bool false] 4)) l) (by rw [hszS, hsz0]; omega) W k o o' hk ho h1 h2) (fun _ => rfl)
      (fun pre W => Hid (∀ x ∈ pre, Rf.comp x.1 = true) ∧ Below w.heap.size w W ∧ Blk W w.heap.size 4 #[.bool false] ∧ w.heap.size + 4 ≤ W.heap.size)
      (fun c pre W => Hid (∃ x ∈ pre, Rf.comp x.1 = false) ∧ c = .ret ∧ Below w.heap.size w W ∧ Blk W w.heap.size 4 #[.bool false])
      (fun s W W' row hs hg hr => ⟨hs.1, hs.2.1.grown hg hs.2.1.size (fun k e => by have := (hr k e).1; omega), hs.2.2.1.grown hg (fun e => by have := (hr _ e.symm).1; omega), Nat.le_trans hs.2.2.2 hg.size⟩)
      (fun c s W W' row hs hg hr => ⟨hs.1, hs.2.1, hs.2.2.1.grown hg hs.2.2.1.size (fun k e => by have := (hr k e).1; omega), hs.2.2.2.grown hg (fun e => by have := (hr _ e.symm).1; omega)⟩)
      (fun s W v hs => ⟨hs.1, hs.2.1.setCell (by simp) v, hs.2.2.1.far (by simp) v, by simpa [World.setCell] using hs.2.2.2⟩)
      (fun c s W v hs => ⟨hs.1, hs.2.1, hs.2.2.1.setCell (by simp) v, hs.2.2.2.far (by simp) v⟩)
      ⟨Lib.hid (fun x hx => by cases hx), bS, rS, by rw [hszS]; omega⟩
      (fun x : Cx => { tmps := #[strV l, undef, .pointer (some { block := w.heap.size, off := 0 }), strV x.1, strV l, .int .i64 l.length, .bool false, strV l, .func (Fn.func 74) #[] (splC (w.alloc (Obj.cells #[Value.bool false] 4))), strV x.1, undef, undef, undef], defers := [] })
      ?assign ?body ?done ?stop
    case assign =>
      intro lr x W K hK
      gi_wp2
      exact hK
    case body =>
      rintro lr pre ⟨x, hx60⟩ W ⟨hall, hbW, hrb, hz4⟩ hplt
      have hmW : Mx W := hm.below hbW
      obtain ⟨m, hm0⟩ := hmW
      have HCO := Lib.hid (component_any W x hx60 m hm0)
      have hsW := hbW.size
      clear hm0
      cases hc : Rf.comp x with
      | true =>
        rw [hc] at HCO
        have hall2 := Lib.hid (show ∀ y ∈ pre ++ [(⟨x, hx60⟩ : Cx)], Rf.comp y.1 = true from fun y hy => by
          rcases List.mem_append.1 hy with hy | hy
          · exact hall.out y hy
          · rw [List.mem_singleton.1 hy]; exact hc)
        clear hc hall
        gi_wp2_with (refine ⟨trivial, ?_⟩; gi_at_call 42; refine (CallsIn.inRound lr (callsIn_wide.2 HCO.out)).mono ?_; rintro e w' ⟨rfl, hb'⟩)
        have hz5 := hb'.size
        exact ⟨⟨hb'.size, fun k o hk _ => (hb'.block k (Array.getElem?_eq_some_iff.1 hk).1).trans hk⟩, hb'.mono (by rw [hsz0]; omega), hall2, hbW.trans (hb'.mono hsW), hrb.below hb' hrb.lt, by omega⟩
      | false =>
        rw [hc] at HCO
        have hex2 := Lib.hid (show ∃ y ∈ pre ++ [(⟨x, hx60⟩ : Cx)], Rf.comp y.1 = false from ⟨⟨x, hx60⟩, by simp, hc⟩)
        clear hc hall
        gi_wp2_with (refine ⟨trivial, ?_⟩; gi_at_call 42; refine (CallsIn.inRound lr (callsIn_wide.2 HCO.out)).mono ?_; rintro e w' ⟨rfl, hb'⟩; have hrb' := hrb.below hb' hrb.lt; have q0 : w'.cell? ⟨w.heap.size, 0, none⟩ = some (.bool false) := (hrb'.cell 0).trans rfl; have qf := hrb'.frozen 0)
        exact ⟨(KeepsOthers.trans ⟨hb'.size, fun k o hk _ => (hb'.block k (Array.getElem?_eq_some_iff.1 hk).1).trans hk⟩ (KeepsOthers.setCell _ _ _)), hex2, rfl, (hbW.trans (hb'.mono hsW)).setCell (by simp) _, by simpa using hrb'.set_ 0 (.bool false)⟩
    case done =>
      rintro D ys W hD hS ⟨hall, hbW, hrb, hz4⟩ hK
      have hq : Hid (q = true) := Lib.hid (by
        rw [HQ.out, List.all_eq_true]; intro x hx
        rw [← hS] at hx
        obtain ⟨y, hy, rfl⟩ := List.mem_map.1 hx
        exact hall.out y hy)
      have q0 : W.cell? ⟨w.heap.size, 0, none⟩ = some (.bool false) := (hrb.cell 0).trans rfl
      have hf := hrb.frozen 0
      have hlt := hrb.lt
      gi_wp2
      have hne : D ≠ w.heap.size := by omega
      refine ⟨by simp, .inl ⟨_, _, rfl, run_takeDeferred ((heap_setCell_ne W w.heap.size D (.bool true) hne).trans hK), ?_⟩⟩
      have hg := grownBy_putObj' (W.setCell ⟨w.heap.size, 0, none⟩ (.bool true)) D (.deferred none)
      have hr2 := (hrb.set_ 0 (.bool true)).grown hg (fun e => hne (by injection e with e; exact e.symm))
      have hb2 := (hbW.setCell (p := ⟨w.heap.size, 0, none⟩) (Nat.le_refl _) (.bool true)).grown hg (by simpa [World.setCell] using hbW.size) (fun k e => by injection e with e; omega)
      exact ⟨_, results_c4 rfl _ _ w.heap.size (.bool true) rfl ((hr2.cell 0).trans rfl), by rw [hq.out], hb2⟩
    case stop =>
      rintro D c pre W hD ⟨r, hr⟩ ⟨hex, rfl, hbW, hrb⟩ hK
      have hq : Hid (q = false) := Lib.hid (by
        obtain ⟨x, hx, hc⟩ := hex.out
        rw [HQ.out, List.all_eq_false]; exact ⟨x.1, by rw [hr]; exact List.mem_append_left _ (List.mem_map.2 ⟨x, hx, rfl⟩), by simp [hc]⟩)
      have hne : D ≠ w.heap.size := by omega
      gi_wp2
      refine ⟨by simp, .inl ⟨_, _, rfl, run_takeDeferred hK, ?_⟩⟩
      have hg := grownBy_putObj' W D (.deferred none)
      have hr2 := hrb.grown hg (fun e => hne (by injection e with e; exact e.symm))
      have hb2 := hbW.grown hg hbW.size (fun k e => by injection e with e; omega)
      exact ⟨_, results_c4 rfl _ _ w.heap.size (.bool false) rfl ((hr2.cell 0).trans rfl), by rw [hq.out], hb2⟩
  · have HQ : Hid (Rf.nameOk l = false) := Lib.hid (by unfold Rf.nameOk; rw [decide_eq_false hlen]; rfl)
    have hl' : (60 : Int) < l.length := by omega
    have hsz : (⟨l.toArray⟩ : ByteArray).size = l.length := by simp [ByteArray.size]
    generalize Rf.nameOk l = q at *
    clear hlen
    go_enter Tryd.func16, Tryd.ntmps16
    go_wp2
    refine bodyPost_ret (results_c4 rfl _ _ w.heap.size (.bool false) rfl ?_) rfl ⟨by rw [HQ.out], ?_⟩
    · simp
    · exact below_alloc1 _ _
end Go.Proofs.YtfbbgnhelannjaaDoor
