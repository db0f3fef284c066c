/-
  File trees: walk of 'ValidPath'.
-/
import Derived.Test.YtjfckjonfpkphaaDoorRf2
import Derived.Test.YtjfckjonfpkphaaDoorTr1
import Derived.Test.YtjfckjonfpkphaaDoorTbA
namespace Go.Proofs.YtjfckjonfpkphaaDoor
open Go.RowKit Go.V Go.Shelf Go.Lib
set_option linter.unusedVariables false
attribute [local go_sem] Oper.semAt_some

/-- The library's own variable at block 0 holds a number. -/
def Mx (w : World) : Prop := ∃ m, w.cell? ⟨0, 0, none⟩ = some (.int .i64 m)
theorem Mx.pos {w : World} (h : Mx w) : 0 < w.heap.size := by obtain ⟨m, hm⟩ := h; exact World.block_lt_of_cell? w _ hm
theorem Mx.below {w w' : World} (h : Mx w) (hb : Below w.heap.size w w') : Mx w' := by
  have hp := h.pos
  obtain ⟨m, hm⟩ := h; exact ⟨m, (hb.cell (p := ⟨0, 0, none⟩) hp).trans hm⟩
theorem Mx.fun_ {w : World} (h : Mx w) : ∀ w', Below w.heap.size w w' → Mx w' := fun w' hb => h.below hb
theorem results_c4 {fn : Func} {a : Tmp} (h : fn.results = #[.cell a 4]) (tmps : Array Value) (w : World) (g : Nat) (x : Value) (ha : tmps.getD a undef = .pointer (some ⟨g, 0, none⟩)) (hb : w.cell? ⟨g, 0, none⟩ = some x) :
    (results fn tmps).run Tryd.prog w = .ok x w := by
  have ha' : tmps[a]?.getD undef = .pointer (some ⟨g, 0, none⟩) := by simpa using ha
  simp [results, h, go_sem, ha', hb]
/-- All parts so far are right; one is not. -/
def GoodIn (ys : List Cx) : Prop := ∀ x ∈ ys, Tr.part x.1 = true
def BadIn (ys : List Cx) : Prop := ∃ x ∈ ys, Tr.part x.1 = false
theorem part_iff (l : List UInt8) : Tr.part l = (!(l == []) && !(l == [46]) && !(l == [46, 46]) && l.all Tr.letter) := by
  unfold Tr.part
  have e : ∀ m : List UInt8, decide (l ≠ m) = !(l == m) := fun m => by by_cases h : l = m <;> simp [h]
  rw [e, e, e]
theorem all_snoc {l : List UInt8} {i : Nat} (h : (l.take i).all Tr.letter = true) (hi : i < l.length) (hx : Tr.letter l[i] = true) : (l.take (i + 1)).all Tr.letter = true := by
  rw [List.take_succ_eq_append_getElem hi, List.all_append, h]; simp [hx]
set_option maxRecDepth 100000 in
set_option maxHeartbeats 16000000 in
theorem validPath_any (w : World) (hm : Mx w) (l : List UInt8) : Calls Tryd.prog 10 #[strV l] w fun e w' => e = .returned (.bool (Tr.pathOk l)) ∧ Below w.heap.size w w' := by
  by_cases hlen : l.length ≤ 60
  · have HQ := Lib.hid (show Tr.pathOk l = (Rf.comps l).all Tr.part from by unfold Tr.pathOk; rw [decide_eq_true hlen]; rfl)
    have hl' : ¬ (60 : Int) < l.length := by omega
    have hsz : (⟨l.toArray⟩ : ByteArray).size = l.length := by simp [ByteArray.size]
    generalize Tr.pathOk l = q at *
    refine (callsIn_wide (n := 5)).1 ?_
    refine callsIn_of_wp_marks Tryd.func10 rfl trivial ?_ rfl
    simp only [Tryd.ntmps10, List.size_toArray, List.length_cons, List.length_nil, Nat.reduceAdd, Nat.reduceSub, Array.replicate_succ, Array.replicate_zero, List.push_toArray, List.append_toArray, List.nil_append, List.cons_append]
    gi_wp2_with (refine ⟨trivial, ?_⟩; gi_at_call 21; refine (SplitSeq_in _ (by omega) _ _).mono ?_; rintro e w' ⟨rfl, rfl⟩)
    have hsz0 : (w.alloc (.cells #[.bool false] 4)).heap.size = w.heap.size + 1 := by simp
    have hszS : (splW (w.alloc (.cells #[.bool false] 4)) l).heap.size = w.heap.size + 4 := by simp [splW]
    have bS : Below w.heap.size w (splW (w.alloc (.cells #[.bool false] 4)) l) := (below_alloc3 _ _ _ _).mono (by simp) |> (below_alloc1 w (.cells #[.bool false] 4)).trans
    have rS : Blk (splW (w.alloc (.cells #[.bool false] 4)) l) w.heap.size 4 #[.bool false] := ((((Blk.new w 4 #[.bool false]).alloc _).alloc _).alloc _ : _)
    refine wpIn_rangeFunc_B (F := Fence.wide) rfl (by omega : 1 ≤ 5) (gf := 40) (lb := splC (w.alloc (.cells #[.bool false] 4))) rfl trivial (enters_of Tryd.func40 (by kernel_rfl) rfl)
      (split_in (5 - 1) (by omega) (w.alloc (.cells #[.bool false] 4)) l hlen) (by rw [hszS, hsz0]; omega) (fun h1 h2 => Below.trans h1 h2)
      (fun W k o o' hk ho h1 h2 => belowK_b (w := splW (w.alloc (.cells #[.bool false] 4)) l) (by rw [hszS, hsz0]; omega) W k o o' hk ho h1 h2) (fun _ => rfl)
      (fun pre W => GoodIn pre ∧ Below w.heap.size w W ∧ Blk W w.heap.size 4 #[.bool false] ∧ w.heap.size + 4 ≤ W.heap.size)
      (fun c pre W => BadIn pre ∧ c = .ret ∧ Below w.heap.size w W ∧ Blk W w.heap.size 4 #[.bool false])
      (fun s W W' row hs hg hr => ⟨hs.1, hs.2.1.grown hg hs.2.1.size (fun k e => by have := (hr k e).1; omega), hs.2.2.1.grown hg (fun e => by have := (hr _ e.symm).1; omega), Nat.le_trans hs.2.2.2 hg.size⟩)
      (fun c s W W' row hs hg hr => ⟨hs.1, hs.2.1, hs.2.2.1.grown hg hs.2.2.1.size (fun k e => by have := (hr k e).1; omega), hs.2.2.2.grown hg (fun e => by have := (hr _ e.symm).1; omega)⟩)
      (fun s W v hs => ⟨hs.1, hs.2.1.setCell (by simp) v, hs.2.2.1.far (by simp) v, by simpa [World.setCell] using hs.2.2.2⟩)
      (fun c s W v hs => ⟨hs.1, hs.2.1, hs.2.2.1.setCell (by simp) v, hs.2.2.2.far (by simp) v⟩)
      ⟨(fun x hx => by cases hx), bS, rS, by rw [hszS]; omega⟩
      (fun x : Cx => { tmps := #[strV l, undef, .pointer (some { block := w.heap.size, off := 0 }), strV x.1, undef, strV l, .int .i64 l.length, .bool false, strV l, .func (Fn.func 40) #[] (splC (w.alloc (Obj.cells #[Value.bool false] 4))), strV x.1, undef, undef, undef, undef, undef, undef, undef, undef, undef, undef, undef, undef, undef, undef, undef, undef, undef, undef, undef, undef, undef], defers := [] })
      ?assign ?body ?done ?stop
    case assign =>
      intro lr x W K hK
      gi_wp2
      exact hK
    case body =>
      rintro lr pre ⟨x, hx60⟩ W ⟨hall, hbW, hrb, hz4⟩ hplt
      have hsW := hbW.size
      have q0 : W.cell? ⟨w.heap.size, 0, none⟩ = some (.bool false) := (hrb.cell 0).trans rfl
      have qf := hrb.frozen 0
      have ql := hrb.lt
      have HP := Lib.hid (part_iff x)
      have sx : (⟨x.toArray⟩ : ByteArray).size = x.length := by simp [ByteArray.size]
      have HEXIT : Hid (Tr.part x = false → BadIn (pre ++ [(⟨x, hx60⟩ : Cx)])) := Lib.hid fun h => ⟨⟨x, hx60⟩, by simp, h⟩
      have HON : Hid (Tr.part x = true → GoodIn (pre ++ [(⟨x, hx60⟩ : Cx)])) := Lib.hid fun h y hy => by
        rcases List.mem_append.1 hy with hy | hy
        · exact hall y hy
        · rw [List.mem_singleton.1 hy]; exact h
      generalize hys : pre ++ [(⟨x, hx60⟩ : Cx)] = ys at *
      clear hall hys
      have HSTOP := Lib.hid (fun (h : Tr.part x = false) => show KeepsOthers W (W.setCell ⟨w.heap.size, 0, none⟩ (.bool false)) ∧ BadIn ys ∧ Below w.heap.size w (W.setCell ⟨w.heap.size, 0, none⟩ (.bool false)) ∧ Blk (W.setCell ⟨w.heap.size, 0, none⟩ (.bool false)) w.heap.size 4 #[.bool false] from
        ⟨KeepsOthers.setCell _ _ _, HEXIT.out h, hbW.setCell (by simp) _, by simpa using hrb.set_ 0 (.bool false)⟩)
      have HGO := Lib.hid (fun (h : Tr.part x = true) => show KeepsOthers W W ∧ KpS (w.heap.size + 1 + 3) W W ∧ GoodIn ys ∧ Below w.heap.size w W ∧ Blk W w.heap.size 4 #[.bool false] ∧ w.heap.size + 4 ≤ W.heap.size from
        ⟨KeepsOthers.refl _, Below.refl _ _, HON.out h, hbW, hrb, hz4⟩)
      clear HEXIT HON
      by_cases h0 : x = []
      · have HS := Lib.hid (HSTOP.out (by rw [HP.out, h0]; rfl))
        clear HSTOP HGO HP
        subst h0
        gi_wp2_with fail
        obtain ⟨a1, a2, a4, a5⟩ := HS.out
        exact ⟨a1, a2, rfl, a4, a5⟩
      have e0 : (x == []) = false := by simpa using h0
      by_cases h1 : x = [46]
      · have HS := Lib.hid (HSTOP.out (by rw [HP.out, h1]; rfl))
        clear HSTOP HGO HP
        subst h1
        gi_wp2_with fail
        obtain ⟨a1, a2, a4, a5⟩ := HS.out
        exact ⟨a1, a2, rfl, a4, a5⟩
      have e1 : (x == [46]) = false := by simpa using h1
      by_cases h2 : x = [46, 46]
      · have HS := Lib.hid (HSTOP.out (by rw [HP.out, h2]; rfl))
        clear HSTOP HGO HP
        subst h2
        gi_wp2_with fail
        obtain ⟨a1, a2, a4, a5⟩ := HS.out
        exact ⟨a1, a2, rfl, a4, a5⟩
      have e2 : (x == [46, 46]) = false := by simpa using h2
      have HP2 : Hid (Tr.part x = x.all Tr.letter) := Lib.hid (by rw [HP.out, e0, e1, e2]; simp)
      clear HP h0 h1 h2
      gi_wp2_with fail
      gi_loopw [23] (fun iv wr => ∃ i : Nat, i ≤ x.length ∧ iv = .int .i64 i ∧ Hid ((x.take i).all Tr.letter = true) ∧ wr = W) (fun iv _ => x.length - (RowKit.intOf iv).toNat)
      case atStart => exact ⟨0, Nat.zero_le _, rfl, Lib.hid rfl, rfl⟩
      case round =>
        obtain ⟨i, hi, rfl, H, rfl⟩ := hrel
        by_cases hlt : i < x.length
        · have hlt' : (i : Int) < x.length := by omega
          have HN : Hid (Tr.letter x[i] = true → (x.take (i + 1)).all Tr.letter = true) := Lib.hid fun h => all_snoc H.out hlt h
          have HB : Hid (Tr.letter x[i] = false → Tr.part x = false) := Lib.hid fun h => by
            rw [HP2.out, List.all_eq_false]; exact ⟨x[i], List.getElem_mem hlt, by simp [h]⟩
          have hget : i < (⟨x.toArray⟩ : ByteArray).size := by rw [sx]; exact hlt
          have HLT0 := letter_any wr x[i]
          cases hc : Tr.letter x[i] with
          | true =>
            rw [hc] at HLT0
            have HLT : Hid (Calls Tryd.prog 22 #[.int .u8 (((⟨x.toArray⟩ : ByteArray)[i]'hget).toNat : Int)] wr fun e w' => e = .returned (.bool true) ∧ w' = wr) := Lib.hid HLT0
            clear HLT0
            have HN2 := Lib.hid (HN.out hc)
            clear HN HB hc HP2 H
            gi_wp2_with (refine ⟨trivial, ?_⟩; gi_at_call 22; with_reducible refine (CallsIn.inRound lr (callsIn_wide.2 HLT.out)).mono ?_; rintro e w' ⟨rfl, hw'⟩; have hw' := hw'.symm; subst hw')
            go_roundw
            case rel => exact ⟨i + 1, by omega, by go_num, HN2, by first | rfl | trivial⟩
            case measure => simp [RowKit.intOf]; omega
          | false =>
            rw [hc] at HLT0
            have HLT : Hid (Calls Tryd.prog 22 #[.int .u8 (((⟨x.toArray⟩ : ByteArray)[i]'hget).toNat : Int)] wr fun e w' => e = .returned (.bool false) ∧ w' = wr) := Lib.hid HLT0
            clear HLT0
            have HS := Lib.hid (HSTOP.out (HB.out hc))
            clear HN HB hc HP2 H HSTOP HGO
            gi_wp2_with (refine ⟨trivial, ?_⟩; gi_at_call 22; with_reducible refine (CallsIn.inRound lr (callsIn_wide.2 HLT.out)).mono ?_; rintro e w' ⟨rfl, hw'⟩; have hw' := hw'.symm; subst hw')
            obtain ⟨a1, a2, a4, a5⟩ := HS.out
            exact ⟨a1, a2, rfl, a4, a5⟩
        · obtain rfl : i = x.length := by omega
          have HS := Lib.hid (HGO.out (by rw [HP2.out]; have := H.out; rwa [List.take_length] at this))
          clear H HP2 HSTOP HGO
          gi_wp2_with fail
          obtain ⟨a1, a2, a3, a4, a5, a6⟩ := HS.out
          exact ⟨a1, Below.refl _ _, a3, a4, a5, a6⟩
    case done =>
      rintro D ys W hD hS ⟨hall, hbW, hrb, hz4⟩ hK
      have hq : Hid (q = true) := Lib.hid (by
        rw [HQ.out, List.all_eq_true]; intro x hx
        rw [← hS] at hx
        obtain ⟨y, hy, rfl⟩ := List.mem_map.1 hx
        exact hall y hy)
      have q0 : W.cell? ⟨w.heap.size, 0, none⟩ = some (.bool false) := (hrb.cell 0).trans rfl
      have hf := hrb.frozen 0
      have hlt := hrb.lt
      gi_wp2
      have hne : D ≠ w.heap.size := by omega
      refine ⟨by simp, .inl ⟨_, _, rfl, run_takeDeferred ((heap_setCell_ne W w.heap.size D (.bool true) hne).trans hK), ?_⟩⟩
      have hg := grownBy_putObj' (W.setCell ⟨w.heap.size, 0, none⟩ (.bool true)) D (.deferred none)
      have hr2 := (hrb.set_ 0 (.bool true)).grown hg (fun e => hne (by injection e with e; exact e.symm))
      have hb2 := (hbW.setCell (p := ⟨w.heap.size, 0, none⟩) (Nat.le_refl _) (.bool true)).grown hg (by simpa [World.setCell] using hbW.size) (fun k e => by injection e with e; omega)
      exact ⟨_, results_c4 rfl _ _ w.heap.size (.bool true) rfl ((hr2.cell 0).trans rfl), by rw [hq.out], hb2⟩
    case stop =>
      rintro D c pre W hD ⟨r, hr⟩ ⟨hex, rfl, hbW, hrb⟩ hK
      have hq : Hid (q = false) := Lib.hid (by
        obtain ⟨x, hx, hc⟩ := hex
        rw [HQ.out, List.all_eq_false]; exact ⟨x.1, by rw [hr]; exact List.mem_append_left _ (List.mem_map.2 ⟨x, hx, rfl⟩), by simp [hc]⟩)
      have hne : D ≠ w.heap.size := by omega
      gi_wp2
      refine ⟨by simp, .inl ⟨_, _, rfl, run_takeDeferred hK, ?_⟩⟩
      have hg := grownBy_putObj' W D (.deferred none)
      have hr2 := hrb.grown hg (fun e => hne (by injection e with e; exact e.symm))
      have hb2 := hbW.grown hg hbW.size (fun k e => by injection e with e; omega)
      exact ⟨_, results_c4 rfl _ _ w.heap.size (.bool false) rfl ((hr2.cell 0).trans rfl), by rw [hq.out], hb2⟩
  · have HQ : Hid (Tr.pathOk l = false) := Lib.hid (by unfold Tr.pathOk; rw [decide_eq_false hlen]; rfl)
    have hl' : (60 : Int) < l.length := by omega
    have hsz : (⟨l.toArray⟩ : ByteArray).size = l.length := by simp [ByteArray.size]
    generalize Tr.pathOk l = q at *
    clear hlen
    go_enter Tryd.func10, Tryd.ntmps10
    go_wp2
    refine bodyPost_ret (results_c4 rfl _ _ w.heap.size (.bool false) rfl ?_) rfl ⟨by rw [HQ.out], ?_⟩
    · simp
    · exact below_alloc1 _ _
end Go.Proofs.YtjfckjonfpkphaaDoor
