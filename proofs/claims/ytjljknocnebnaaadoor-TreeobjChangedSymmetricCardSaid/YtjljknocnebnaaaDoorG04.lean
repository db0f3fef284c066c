/-
  File trees: walk of 'ValidPath'.
  Objects: walks of 'Big' and 'Wide'.
  Objects: walk of 'Bytes'.
  Views, third part: bytes to strings; opening arguments.
  Objects: walks of the comparisons.
  Objects: walks of 'Objects', 'same', 'CopyObject'.
  Objects: walk of 'Digest'.
  Objects: walk of 'Validate'.
-/
import Derived.Test.YtjljknocnebnaaaDoorG03
import Derived.Test.YtjljknocnebnaaaDoorG01
import Derived.ProofKit
import Derived.OpenShut
import Derived.SizedLaws
import Derived.ChangeOld
import Derived.Lib.SlBytesConst
namespace Go.Proofs.YtjljknocnebnaaaDoor
open Go.RowKit Go.V Go.Shelf Go.Lib
set_option linter.unusedVariables false
attribute [local go_sem] Oper.semAt_some

/-- The library's own variable at block 2 holds a number. -/
def Mx (w : World) : Prop := ∃ m, w.cell? ⟨2, 0, none⟩ = some (.int .i64 m)
theorem Mx.pos {w : World} (h : Mx w) : 2 < w.heap.size := by obtain ⟨m, hm⟩ := h; exact World.block_lt_of_cell? w _ hm
theorem Mx.below {w w' : World} (h : Mx w) (hb : Below w.heap.size w w') : Mx w' := by
  have hp := h.pos
  obtain ⟨m, hm⟩ := h; exact ⟨m, (hb.cell (p := ⟨2, 0, none⟩) hp).trans hm⟩
theorem Mx.fun_ {w : World} (h : Mx w) : ∀ w', Below w.heap.size w w' → Mx w' := fun w' hb => h.below hb
theorem results_c4 {fn : Func} {a : Tmp} (h : fn.results = #[.cell a 4]) (tmps : Array Value) (w : World) (g : Nat) (x : Value) (ha : tmps.getD a undef = .pointer (some ⟨g, 0, none⟩)) (hb : w.cell? ⟨g, 0, none⟩ = some x) :
    (results fn tmps).run Tryd.prog w = .ok x w := by
  have ha' : tmps[a]?.getD undef = .pointer (some ⟨g, 0, none⟩) := by simpa using ha
  simp [results, h, go_sem, ha', hb]
/-- All parts so far are right; one is not. -/
def GoodIn (ys : List Cx) : Prop := ∀ x ∈ ys, Tr.part x.1 = true
def BadIn (ys : List Cx) : Prop := ∃ x ∈ ys, Tr.part x.1 = false
theorem part_iff (l : List UInt8) : Tr.part l = (!(l == []) && !(l == [46]) && !(l == [46, 46]) && l.all Tr.letter) := by
  unfold Tr.part
  have e : ∀ m : List UInt8, decide (l ≠ m) = !(l == m) := fun m => by by_cases h : l = m <;> simp [h]
  rw [e, e, e]
theorem all_snoc {l : List UInt8} {i : Nat} (h : (l.take i).all Tr.letter = true) (hi : i < l.length) (hx : Tr.letter l[i] = true) : (l.take (i + 1)).all Tr.letter = true := by
  rw [List.take_succ_eq_append_getElem hi, List.all_append, h]; simp [hx]
set_option maxRecDepth 100000 in
set_option maxHeartbeats 16000000 in
theorem validPath_any (w : World) (hm : Mx w) (l : List UInt8) : Calls Tryd.prog 43 #[strV l] w fun e w' => e = .returned (.bool (Tr.pathOk l)) ∧ Below w.heap.size w w' := by
  by_cases hlen : l.length ≤ 60
  · have HQ := Lib.hid (show Tr.pathOk l = (Rf.comps l).all Tr.part from by unfold Tr.pathOk; rw [decide_eq_true hlen]; rfl)
    have hl' : ¬ (60 : Int) < l.length := by omega
    have hsz : (⟨l.toArray⟩ : ByteArray).size = l.length := by simp [ByteArray.size]
    generalize Tr.pathOk l = q at *
    refine (callsIn_wide (n := 5)).1 ?_
    refine callsIn_of_wp_marks Tryd.func43 rfl trivial ?_ rfl
    simp only [Tryd.ntmps43, List.size_toArray, List.length_cons, List.length_nil, Nat.reduceAdd, Nat.reduceSub, Array.replicate_succ, Array.replicate_zero, List.push_toArray, List.append_toArray, List.nil_append, List.cons_append]
    gi_wp2_with (refine ⟨trivial, ?_⟩; gi_at_call 63; refine (SplitSeq_in _ (by omega) _ _).mono ?_; rintro e w' ⟨rfl, rfl⟩)
    have hsz0 : (w.alloc (.cells #[.bool false] 4)).heap.size = w.heap.size + 1 := by simp
    have hszS : (splW (w.alloc (.cells #[.bool false] 4)) l).heap.size = w.heap.size + 4 := by simp [splW]
    have bS : Below w.heap.size w (splW (w.alloc (.cells #[.bool false] 4)) l) := (below_alloc3 _ _ _ _).mono (by simp) |> (below_alloc1 w (.cells #[.bool false] 4)).trans
    have rS : Blk (splW (w.alloc (.cells #[.bool false] 4)) l) w.heap.size 4 #[.bool false] := ((((Blk.new w 4 #[.bool false]).alloc _).alloc _).alloc _ : _)
    refine wpIn_rangeFunc_B (F := Fence.wide) rfl (by omega : 1 ≤ 5) (gf := 103) (lb := splC (w.alloc (.cells #[.bool false] 4))) rfl trivial (enters_of Tryd.func103 (by kernel_rfl) rfl)
      (split_in (5 - 1) (by omega) (w.alloc (.cells #[.bool false] 4)) l hlen) (by rw [hszS, hsz0]; omega) (fun h1 h2 => Below.trans h1 h2)
      (fun W k o o' hk ho h1 h2 => belowK_b (w := splW (w.alloc (.cells #[.bool false] 4)) l) (by rw [hszS, hsz0]; omega) W k o o' hk ho h1 h2) (fun _ => rfl)
      (fun pre W => GoodIn pre ∧ Below w.heap.size w W ∧ Blk W w.heap.size 4 #[.bool false] ∧ w.heap.size + 4 ≤ W.heap.size)
      (fun c pre W => BadIn pre ∧ c = .ret ∧ Below w.heap.size w W ∧ Blk W w.heap.size 4 #[.bool false])
      (fun s W W' row hs hg hr => ⟨hs.1, hs.2.1.grown hg hs.2.1.size (fun k e => by have := (hr k e).1; omega), hs.2.2.1.grown hg (fun e => by have := (hr _ e.symm).1; omega), Nat.le_trans hs.2.2.2 hg.size⟩)
      (fun c s W W' row hs hg hr => ⟨hs.1, hs.2.1, hs.2.2.1.grown hg hs.2.2.1.size (fun k e => by have := (hr k e).1; omega), hs.2.2.2.grown hg (fun e => by have := (hr _ e.symm).1; omega)⟩)
      (fun s W v hs => ⟨hs.1, hs.2.1.setCell (by simp) v, hs.2.2.1.far (by simp) v, by simpa [World.setCell] using hs.2.2.2⟩)
      (fun c s W v hs => ⟨hs.1, hs.2.1, hs.2.2.1.setCell (by simp) v, hs.2.2.2.far (by simp) v⟩)
      ⟨(fun x hx => by cases hx), bS, rS, by rw [hszS]; omega⟩
      (fun x : Cx => { tmps := #[strV l, undef, .pointer (some { block := w.heap.size, off := 0 }), strV x.1, undef, strV l, .int .i64 l.length, .bool false, strV l, .func (Fn.func 103) #[] (splC (w.alloc (Obj.cells #[Value.bool false] 4))), strV x.1, undef, undef, undef, undef, undef, undef, undef, undef, undef, undef, undef, undef, undef, undef, undef, undef, undef, undef, undef, undef, undef], defers := [] })
      ?assign ?body ?done ?stop
    case assign =>
      intro lr x W K hK
      gi_wp2
      exact hK
    case body =>
      rintro lr pre ⟨x, hx60⟩ W ⟨hall, hbW, hrb, hz4⟩ hplt
      have hsW := hbW.size
      have q0 : W.cell? ⟨w.heap.size, 0, none⟩ = some (.bool false) := (hrb.cell 0).trans rfl
      have qf := hrb.frozen 0
      have ql := hrb.lt
      have HP := Lib.hid (part_iff x)
      have sx : (⟨x.toArray⟩ : ByteArray).size = x.length := by simp [ByteArray.size]
      have HEXIT : Hid (Tr.part x = false → BadIn (pre ++ [(⟨x, hx60⟩ : Cx)])) := Lib.hid fun h => ⟨⟨x, hx60⟩, by simp, h⟩
      have HON : Hid (Tr.part x = true → GoodIn (pre ++ [(⟨x, hx60⟩ : Cx)])) := Lib.hid fun h y hy => by
        rcases List.mem_append.1 hy with hy | hy
        · exact hall y hy
        · rw [List.mem_singleton.1 hy]; exact h
      generalize hys : pre ++ [(⟨x, hx60⟩ : Cx)] = ys at *
      clear hall hys
      have HSTOP := Lib.hid (fun (h : Tr.part x = false) => show KeepsOthers W (W.setCell ⟨w.heap.size, 0, none⟩ (.bool false)) ∧ BadIn ys ∧ Below w.heap.size w (W.setCell ⟨w.heap.size, 0, none⟩ (.bool false)) ∧ Blk (W.setCell ⟨w.heap.size, 0, none⟩ (.bool false)) w.heap.size 4 #[.bool false] from
        ⟨KeepsOthers.setCell _ _ _, HEXIT.out h, hbW.setCell (by simp) _, by simpa using hrb.set_ 0 (.bool false)⟩)
      have HGO := Lib.hid (fun (h : Tr.part x = true) => show KeepsOthers W W ∧ KpS (w.heap.size + 1 + 3) W W ∧ GoodIn ys ∧ Below w.heap.size w W ∧ Blk W w.heap.size 4 #[.bool false] ∧ w.heap.size + 4 ≤ W.heap.size from
        ⟨KeepsOthers.refl _, Below.refl _ _, HON.out h, hbW, hrb, hz4⟩)
      clear HEXIT HON
      by_cases h0 : x = []
      · have HS := Lib.hid (HSTOP.out (by rw [HP.out, h0]; rfl))
        clear HSTOP HGO HP
        subst h0
        gi_wp2_with fail
        obtain ⟨a1, a2, a4, a5⟩ := HS.out
        exact ⟨a1, a2, rfl, a4, a5⟩
      have e0 : (x == []) = false := by simpa using h0
      by_cases h1 : x = [46]
      · have HS := Lib.hid (HSTOP.out (by rw [HP.out, h1]; rfl))
        clear HSTOP HGO HP
        subst h1
        gi_wp2_with fail
        obtain ⟨a1, a2, a4, a5⟩ := HS.out
        exact ⟨a1, a2, rfl, a4, a5⟩
      have e1 : (x == [46]) = false := by simpa using h1
      by_cases h2 : x = [46, 46]
      · have HS := Lib.hid (HSTOP.out (by rw [HP.out, h2]; rfl))
        clear HSTOP HGO HP
        subst h2
        gi_wp2_with fail
        obtain ⟨a1, a2, a4, a5⟩ := HS.out
        exact ⟨a1, a2, rfl, a4, a5⟩
      have e2 : (x == [46, 46]) = false := by simpa using h2
      have HP2 : Hid (Tr.part x = x.all Tr.letter) := Lib.hid (by rw [HP.out, e0, e1, e2]; simp)
      clear HP h0 h1 h2
      gi_wp2_with fail
      gi_loopw [23] (fun iv wr => ∃ i : Nat, i ≤ x.length ∧ iv = .int .i64 i ∧ Hid ((x.take i).all Tr.letter = true) ∧ wr = W) (fun iv _ => x.length - (intOf iv).toNat)
      case atStart => exact ⟨0, Nat.zero_le _, rfl, Lib.hid rfl, rfl⟩
      case round =>
        obtain ⟨i, hi, rfl, H, rfl⟩ := hrel
        by_cases hlt : i < x.length
        · have hlt' : (i : Int) < x.length := by omega
          have HN : Hid (Tr.letter x[i] = true → (x.take (i + 1)).all Tr.letter = true) := Lib.hid fun h => all_snoc H.out hlt h
          have HB : Hid (Tr.letter x[i] = false → Tr.part x = false) := Lib.hid fun h => by
            rw [HP2.out, List.all_eq_false]; exact ⟨x[i], List.getElem_mem hlt, by simp [h]⟩
          have hget : i < (⟨x.toArray⟩ : ByteArray).size := by rw [sx]; exact hlt
          have HLT0 := letter_any wr x[i]
          cases hc : Tr.letter x[i] with
          | true =>
            rw [hc] at HLT0
            have HLT : Hid (Calls Tryd.prog 64 #[.int .u8 (((⟨x.toArray⟩ : ByteArray)[i]'hget).toNat : Int)] wr fun e w' => e = .returned (.bool true) ∧ w' = wr) := Lib.hid HLT0
            clear HLT0
            have HN2 := Lib.hid (HN.out hc)
            clear HN HB hc HP2 H
            gi_wp2_with (refine ⟨trivial, ?_⟩; gi_at_call 64; with_reducible refine (CallsIn.inRound lr (callsIn_wide.2 HLT.out)).mono ?_; rintro e w' ⟨rfl, hw'⟩; have hw' := hw'.symm; subst hw')
            go_roundw
            case rel => exact ⟨i + 1, by omega, by go_num, HN2, by first | rfl | trivial⟩
            case measure => simp [intOf]; omega
          | false =>
            rw [hc] at HLT0
            have HLT : Hid (Calls Tryd.prog 64 #[.int .u8 (((⟨x.toArray⟩ : ByteArray)[i]'hget).toNat : Int)] wr fun e w' => e = .returned (.bool false) ∧ w' = wr) := Lib.hid HLT0
            clear HLT0
            have HS := Lib.hid (HSTOP.out (HB.out hc))
            clear HN HB hc HP2 H HSTOP HGO
            gi_wp2_with (refine ⟨trivial, ?_⟩; gi_at_call 64; with_reducible refine (CallsIn.inRound lr (callsIn_wide.2 HLT.out)).mono ?_; rintro e w' ⟨rfl, hw'⟩; have hw' := hw'.symm; subst hw')
            obtain ⟨a1, a2, a4, a5⟩ := HS.out
            exact ⟨a1, a2, rfl, a4, a5⟩
        · obtain rfl : i = x.length := by omega
          have HS := Lib.hid (HGO.out (by rw [HP2.out]; have := H.out; rwa [List.take_length] at this))
          clear H HP2 HSTOP HGO
          gi_wp2_with fail
          obtain ⟨a1, a2, a3, a4, a5, a6⟩ := HS.out
          exact ⟨a1, Below.refl _ _, a3, a4, a5, a6⟩
    case done =>
      rintro D ys W hD hS ⟨hall, hbW, hrb, hz4⟩ hK
      have hq : Hid (q = true) := Lib.hid (by
        rw [HQ.out, List.all_eq_true]; intro x hx
        rw [← hS] at hx
        obtain ⟨y, hy, rfl⟩ := List.mem_map.1 hx
        exact hall y hy)
      have q0 : W.cell? ⟨w.heap.size, 0, none⟩ = some (.bool false) := (hrb.cell 0).trans rfl
      have hf := hrb.frozen 0
      have hlt := hrb.lt
      gi_wp2
      have hne : D ≠ w.heap.size := by omega
      refine ⟨by simp, .inl ⟨_, _, rfl, run_takeDeferred ((heap_setCell_ne W w.heap.size D (.bool true) hne).trans hK), ?_⟩⟩
      have hg := grownBy_putObj' (W.setCell ⟨w.heap.size, 0, none⟩ (.bool true)) D (.deferred none)
      have hr2 := (hrb.set_ 0 (.bool true)).grown hg (fun e => hne (by injection e with e; exact e.symm))
      have hb2 := (hbW.setCell (p := ⟨w.heap.size, 0, none⟩) (Nat.le_refl _) (.bool true)).grown hg (by simpa [World.setCell] using hbW.size) (fun k e => by injection e with e; omega)
      exact ⟨_, results_c4 rfl _ _ w.heap.size (.bool true) rfl ((hr2.cell 0).trans rfl), by rw [hq.out], hb2⟩
    case stop =>
      rintro D c pre W hD ⟨r, hr⟩ ⟨hex, rfl, hbW, hrb⟩ hK
      have hq : Hid (q = false) := Lib.hid (by
        obtain ⟨x, hx, hc⟩ := hex
        rw [HQ.out, List.all_eq_false]; exact ⟨x.1, by rw [hr]; exact List.mem_append_left _ (List.mem_map.2 ⟨x, hx, rfl⟩), by simp [hc]⟩)
      have hne : D ≠ w.heap.size := by omega
      gi_wp2
      refine ⟨by simp, .inl ⟨_, _, rfl, run_takeDeferred hK, ?_⟩⟩
      have hg := grownBy_putObj' W D (.deferred none)
      have hr2 := hrb.grown hg (fun e => hne (by injection e with e; exact e.symm))
      have hb2 := hbW.grown hg hbW.size (fun k e => by injection e with e; omega)
      exact ⟨_, results_c4 rfl _ _ w.heap.size (.bool false) rfl ((hr2.cell 0).trans rfl), by rw [hq.out], hb2⟩
  · have HQ : Hid (Tr.pathOk l = false) := Lib.hid (by unfold Tr.pathOk; rw [decide_eq_false hlen]; rfl)
    have hl' : (60 : Int) < l.length := by omega
    have hsz : (⟨l.toArray⟩ : ByteArray).size = l.length := by simp [ByteArray.size]
    generalize Tr.pathOk l = q at *
    clear hlen
    go_enter Tryd.func43, Tryd.ntmps43
    go_wp2
    refine bodyPost_ret (results_c4 rfl _ _ w.heap.size (.bool false) rfl ?_) rfl ⟨by rw [HQ.out], ?_⟩
    · simp
    · exact below_alloc1 _ _
end Go.Proofs.YtjljknocnebnaaaDoor
namespace Go.Proofs.YtjljknocnebnaaaDoor
open Go.RowKit Go.V
set_option linter.unusedVariables false

theorem info5 : (Tryd.prog.info? 5).map (fun i => (i.zero, i.size, i.bytes)) = some (some (.int .u8 0), 1, 1) := by kernel_rfl
/-- Bytes in a row of the call's own. -/
def BtPost (w : World) (l : List UInt8) (e : Ending) (w' : World) : Prop := ∃ A c, e = .returned (.slice A l.length c) ∧ l.length ≤ c ∧ c ≤ maxLen ∧ w'.ownsRow w.heap.size 5 1 (.slice A l.length c) l.length (bytesV l) ∧ Below w.heap.size w w'
theorem wide_get (n j : Nat) (h : j < 8) : (Ob.wide n)[j]? = some (UInt8.ofNat (n / 256 ^ (7 - j))) := by
  unfold Ob.wide; simp [h]
theorem wide_take (n j : Nat) (h : j < 8) : (Ob.wide n).take (j + 1) = (Ob.wide n).take j ++ [UInt8.ofNat (n / 256 ^ (7 - j))] := by
  have h8 : j < (Ob.wide n).length := by simpa using h
  rw [List.take_succ_eq_append_getElem h8]
  have := wide_get n j h
  rw [List.getElem?_eq_getElem h8] at this
  injection this with this
  rw [this]
theorem pow_eq (j : Nat) (h : j < 8) : 256 ^ (7 - j) = 2 ^ (56 - 8 * j) := by
  rw [show (256 : Nat) = 2 ^ 8 by rfl, ← Nat.pow_mul]; congr 1; omega
theorem u8_int (m : Nat) : ((UInt8.ofNat m).toNat : Int) = (m : Int) % 256 := by simp
set_option maxRecDepth 100000 in
set_option maxHeartbeats 8000000 in
theorem big_any (w : World) (n : Nat) (hn : n < 2305843009213693951) : Calls Tryd.prog 82 #[.int .i64 n] w (BtPost w (Ob.wide n)) := by
  obtain ⟨i0, hi0, hz0, hz1, hz2⟩ := info_parts info5
  go_enter Tryd.func82, Tryd.ntmps82
  go_wp2_with fail
  go_loopw [3, 4] (fun vv sv wr => ∃ (j : Nat) (A : Option Addr) (c : Nat), j ≤ 8 ∧ vv = .slice A j c ∧ sv = .int .i64 (56 - 8 * (j : Int)) ∧ wr.ownsRow w.heap.size 5 1 (.slice A j c) j (bytesV ((Ob.wide n).take j)) ∧ Below w.heap.size w wr) (fun _ sv _ => (intOf sv + 8).toNat)
  case atStart => exact ⟨0, none, 0, by omega, rfl, rfl, World.ownsRow_nil _ _ _ _, Below.refl _ _⟩
  case round =>
    obtain ⟨j, A, c, hj, rfl, rfl, hown, hbel⟩ := hrel
    obtain ⟨wo, rfl⟩ : ∃ wo : World, wo = wr := ⟨_, rfl⟩
    have hsz := hbel.size
    by_cases hj8 : j < 8
    · have h1 : (0 : Int) ≤ 56 - 8 * (j : Int) := by omega
      have hval : (n : Int) / 2 ^ (56 - 8 * j) % 256 = ((UInt8.ofNat (n / 256 ^ (7 - j))).toNat : Int) := by
        rw [u8_int, pow_eq j hj8, Int.natCast_ediv, Int.natCast_pow]; rfl
      have ht := wide_take n j hj8
      have HT := Lib.hid (congrArg bytesV ht)
      have HV := Lib.hid hval
      have hown1 := hown.alloc (.cells #[.int .u8 ((n : Int) / 2 ^ (56 - 8 * j) % 256)] 5)
      have hb1 := hbel.alloc hsz (.cells #[.int .u8 ((n : Int) / 2 ^ (56 - 8 * j) % 256)] 5)
      have hsv : SV (wo.alloc (.cells #[.int .u8 ((n : Int) / 2 ^ (56 - 8 * j) % 256)] 5)) (wo.heap.size + 1) (some ⟨wo.heap.size, 0, none⟩) [.int .u8 ((n : Int) / 2 ^ (56 - 8 * j) % 256)] := by
        have := SV.lit wo #[.int .u8 ((n : Int) / 2 ^ (56 - 8 * j) % 256)] 5
        simpa using this
      clear ht hval hown hbel
      go_wp2_with (first | (at_builtin; refine wpList_appNo _ rfl (.tmp 9) (.tmp 14) 52 rfl w.heap.size 5 i0 _ 1 1 Tryd.underlying52 hi0 hz0 hz1 hz2 rfl (by decide) A j c _ rfl hown1 _ (some ⟨wo.heap.size, 0, none⟩) 1 1 _ rfl rfl hsv (by intro u hu; simp at hu; subst hu; rfl) ?ha ?hb ?hc ?_))
      case ha => simp [maxLen]; omega
      case hb => omega
      case hc => simp; omega
      intro A' c' w' hown' hg hc' _
      have hb2 := hb1.grown hg (by simp; omega) (fun k hk => (hown1.lt k hk).1)
      rw [HV.out] at hown'
      have hown2 : w'.ownsRow w.heap.size 5 1 (.slice A' (j + 1) c') (j + 1) (bytesV ((Ob.wide n).take (j + 1))) := by
        rw [HT.out]; unfold bytesV at hown' ⊢; rw [List.map_append]; exact hown'
      clear hown' hown1 hg hsv hb1
      go_wp2_with fail
      go_roundw
      case rel => exact ⟨j + 1, A', c', by omega, rfl, by go_num, hown2, hb2⟩
      case measure => simp [intOf]; omega
    · obtain rfl : j = 8 := by omega
      go_wp2_with fail
      go_ret
      obtain ⟨A', c', e, h8, hm⟩ := own_form hown
      injection e with _ _ e2
      subst e2
      rw [List.take_of_length_le (by simp)] at hown
      exact ⟨A, c, by simp, by simpa using h8, hm, by simpa using hown, hbel⟩
/-- Bytes that lie in new blocks. -/
def BvPost (w : World) (l : List UInt8) (e : Ending) (w' : World) : Prop := ∃ A c, e = .returned (.slice A l.length c) ∧ l.length ≤ c ∧ SA w' (Under w.heap.size) A (bytesV l) ∧ Below w.heap.size w w'
def bytesA (l : List UInt8) : Array Value := (l.map fun b => Value.int .u8 b.toNat).toArray
theorem blk_byte_set {w : World} {g : Nat} {t : TypeId} {l : List UInt8} (h : Blk w g t (bytesA l)) (i : Nat) (x : UInt8) : Blk (w.setCell ⟨g, i, none⟩ (.int .u8 x.toNat)) g t (bytesA (l.set i x)) := by
  have := h.set_ i (.int .u8 x.toNat)
  have e : (bytesA l).setIfInBounds i (.int .u8 x.toNat) = bytesA (l.set i x) := by
    unfold bytesA; rw [List.setIfInBounds_toArray, List.map_set]
  rwa [e] at this
def wideTo (n k : Nat) : List UInt8 := List.replicate (8 - k) 0 ++ (Ob.wide n).drop (8 - k)
theorem wideTo_set (n k : Nat) (h : k < 8) : (wideTo n k).set (7 - k) (UInt8.ofNat (n / 256 ^ k)) = wideTo n (k + 1) := by
  match k, h with
  | 0, _ => rfl
  | 1, _ => rfl
  | 2, _ => rfl
  | 3, _ => rfl
  | 4, _ => rfl
  | 5, _ => rfl
  | 6, _ => rfl
  | 7, _ => rfl
set_option maxRecDepth 100000 in
set_option maxHeartbeats 8000000 in
theorem wide_any (w : World) (n : Nat) (hn : n < 2305843009213693951) : Calls Tryd.prog 47 #[.int .i64 n] w (BvPost w (Ob.wide n)) := by
  have hmk : ∀ W : World, (Instr.makeSlice 52 (.int .i64 8) (.int .i64 8)).run Tryd.prog W = .ok (.slice (some ⟨W.heap.size, 0, none⟩) 8 8) (W.alloc (.cells (bytesA (wideTo n 0)) 5)) := fun W =>
    by have := run_make_row' (P := Tryd.prog) 52 5 (.int .u8 0) 1 Tryd.underlying52 info5 rfl .i64 .i64 8 (by omega) (by omega) W; rw [made_eq] at this; exact this
  go_enter Tryd.func47, Tryd.ntmps47
  go_wp2_with fail
  go_loopw [0, 4] (fun nv sv wr => ∃ j : Nat, j ≤ 8 ∧ nv = .int .i64 ((n / 256 ^ j : Nat) : Int) ∧ sv = .int .i64 (7 - (j : Int)) ∧ Blk wr w.heap.size 5 (bytesA (wideTo n j)) ∧ Below w.heap.size w wr) (fun _ sv _ => (intOf sv + 1).toNat)
  case atStart => exact ⟨0, by omega, by simp, rfl, Blk.new _ _ _, below_alloc1 _ _⟩
  case round =>
    obtain ⟨j, hj, rfl, rfl, hblk, hbel⟩ := hrel
    obtain ⟨wo, rfl⟩ : ∃ wo : World, wo = wr := ⟨_, rfl⟩
    by_cases hj8 : j < 8
    · have h1 : (0 : Int) ≤ 7 - (j : Int) := by omega
      have hd : n / 256 ^ j / 256 = n / 256 ^ (j + 1) := by rw [Nat.div_div_eq_div_mul, Nat.pow_succ]
      have hv : ((n / 256 ^ j : Nat) : Int) % 256 = ((UInt8.ofNat (n / 256 ^ j)).toNat : Int) := (u8_int _).symm
      have hs := blk_byte_set hblk (7 - j) (UInt8.ofNat (n / 256 ^ j))
      rw [wideTo_set n j hj8] at hs
      have hfz := hblk.frozen (7 - j)
      have hcl := hblk.cell (7 - j)
      have hbs := hbel.setCell (p := ⟨w.heap.size, 7 - j, none⟩) (by simp) (.int .u8 (UInt8.ofNat (n / 256 ^ j)).toNat)
      have hl8 : (bytesA (wideTo n j)).size = 8 := by simp [bytesA, wideTo]
      have hp : n / 256 ^ j < 2305843009213693951 := Nat.lt_of_le_of_lt (Nat.div_le_self _ _) hn
      have HD := Lib.hid hd
      rw [Array.getElem?_eq_getElem (by omega)] at hcl
      clear hblk hbel hd
      have HV := Lib.hid hv
      clear hv
      generalize (bytesA (wideTo n j))[7 - j] = old at *
      generalize n / 256 ^ j = m at *
      go_wp2_with fail
      go_roundw
      case rel =>
        rw [HV.out]
        exact ⟨j + 1, by omega, int_eq (by rw [← HD.out]; rfl), by go_num, hs, hbs⟩
      case measure => simp [intOf]; omega
    · obtain rfl : j = 8 := by omega
      go_wp2_with fail
      go_ret
      refine ⟨_, _, rfl, Nat.le_refl _, ?_, hbel⟩
      have := SA.of_blk (X := Under w.heap.size) hblk (by simp [Under])
      simpa [bytesA, bytesV, wideTo] using this
end Go.Proofs.YtjljknocnebnaaaDoor
namespace Go.Proofs.YtjljknocnebnaaaDoor
open Go.RowKit Go.V
set_option linter.unusedVariables false

theorem bytesV_app (a b : List UInt8) : bytesV (a ++ b) = bytesV a ++ bytesV b := List.map_append
@[simp] theorem bytesV_len (a : List UInt8) : (bytesV a).length = a.length := List.length_map _
theorem own_more {w : World} {base base' : Nat} {e : TypeId} {size n : Nat} {v : Value} {xs : List Value} (h : w.ownsRow base e size v n xs) (hb : base' ≤ base) : w.ownsRow base' e size v n xs := by
  obtain ⟨h1, h2⟩ := h
  rcases h2 with h2 | ⟨g, cap, cur, e, hlo, rest⟩
  · exact ⟨h1, .inl h2⟩
  · exact ⟨h1, .inr ⟨g, cap, cur, e, Nat.le_trans hb hlo, rest⟩⟩
def hd2 (o : Ob.O) : List UInt8 := [UInt8.ofNat o.kind.toNat, UInt8.ofNat o.links.length]
theorem bytes_eq (o : Ob.O) : Ob.bytes o = hd2 o ++ Ob.lnB o.links o.links.length ++ o.data := rfl
theorem hd2_cells {o : Ob.O} (ho : Ob.Ok o) : bytesV (hd2 o) = [.int .u8 o.kind, .int .u8 (o.links.length : Int)] := by
  have h1 := ho.lo
  have h2 := ho.hi
  have h3 := ho.ln
  obtain ⟨k, hk⟩ := Int.eq_ofNat_of_zero_le (show 0 ≤ o.kind by omega)
  simp only [hd2, bytesV, List.map_cons, List.map_nil, u8_int]
  rw [hk, Int.toNat_natCast]
  have e1 : (k : Int) % 256 = k := by omega
  have e2 : (o.links.length : Int) % 256 = o.links.length := by omega
  rw [e1, e2]
/-- The state of the loop of 'Bytes'. -/
structure BySt (w wr : World) (o : Ob.O) (Al : Option Addr) (kl : Nat) (Ad : Option Addr) (kd : Nat) (j : Nat) (A : Option Addr) (c : Nat) : Prop where
  own : wr.ownsRow (w.heap.size + 1) 5 1 (.slice A (2 + 8 * j) c) (2 + 8 * j) (bytesV (hd2 o ++ Ob.lnB o.links j))
  box : Blk wr w.heap.size 54 #[.int .i64 o.kind, .slice Al o.links.length kl, .slice Ad o.data.length kd]
  bel : Below w.heap.size w wr
set_option maxRecDepth 100000 in
set_option maxHeartbeats 8000000 in
theorem bytes_any (w : World) (o : Ob.O) (Al : Option Addr) (kl : Nat) (Ad : Option Addr) (kd : Nat) (ho : ObA w Free o Al kl Ad kd) (hok : Ob.Ok o) :
    Calls Tryd.prog 59 #[obV o Al kl Ad kd] w (BtPost w (Ob.bytes o)) := by
  obtain ⟨i0, hi0, hz0, hz1, hz2⟩ := info_parts info5
  have HL := Lib.hid (fun (w' : World) (hb : Below w.heap.size w w') => (ho.ls.keep (free_below hb)).sv)
  have HD := Lib.hid (fun (w' : World) (hb : Below w.heap.size w w') => (ho.ds.keep (free_below hb)).sv)
  have HALL := Lib.hid hok.all
  have hk1 := hok.lo
  have hk2 := hok.hi
  have hl30 := hok.ln
  have hl30' : (o.links.length : Int) ≤ 30 := by omega
  have hd1000 := hok.dn
  have HE := Lib.hid (bytes_eq o)
  have HBL := Lib.hid (Ob.bytes_length o)
  have HH := hd2_cells hok
  have st0 : BySt w ((w.alloc (.cells #[.int .i64 o.kind, .slice Al o.links.length kl, .slice Ad o.data.length kd] 54)).alloc (.cells #[.int .u8 o.kind, .int .u8 (o.links.length : Int)] 5)) o Al kl Ad kd 0 (some ⟨w.heap.size + 1, 0, none⟩) 2 := by
    refine ⟨?_, (Blk.new _ _ _).alloc _, below_alloc2 _ _ _⟩
    have := World.ownsRow_lit (base := w.heap.size + 1) (size := 1) (e := 5) (w.alloc (.cells #[.int .i64 o.kind, .slice Al o.links.length kl, .slice Ad o.data.length kd] 54)) #[.int .u8 o.kind, .int .u8 (o.links.length : Int)] 2 (by simp) (by simp [maxLen]) rfl
    rw [Ob.lnB_zero, List.append_nil, HH]
    simpa using this
  clear ho hok HH
  obtain ⟨kk, ls, da⟩ := o
  simp only at *
  have hkm : kk % 256 = kk := by omega
  go_enter Tryd.func59, Tryd.ntmps59
  go_wp2_with fail
  go_loopw [3, 17] (fun vv jv wr => ∃ (j : Nat) (A : Option Addr) (c : Nat), j ≤ ls.length ∧ vv = .slice A (2 + 8 * j) c ∧ jv = .int .i64 j ∧ BySt w wr ⟨kk, ls, da⟩ Al kl Ad kd j A c) (fun _ jv _ => ls.length - (intOf jv).toNat)
  case atStart => exact ⟨0, _, 2, Nat.zero_le _, rfl, rfl, st0⟩
  case round =>
    obtain ⟨j, A, c, hj, rfl, rfl, st⟩ := hrel
    obtain ⟨wo, rfl⟩ : ∃ wo : World, wo = wr := ⟨_, rfl⟩
    have hsz := st.bel.size
    have hbl := st.box.lt
    by_cases hlt : j < ls.length
    · have hlt' : (j : Int) < ls.length := by omega
      obtain ⟨b, off, e, hb, hc⟩ := (HL.out _ st.bel).int j hlt
      subst e
      obtain ⟨hr0, hr1⟩ := HALL.out j hlt
      obtain ⟨m, hm⟩ := Int.eq_ofNat_of_zero_le hr0
      have hs := Ob.lnB_succ ls j hlt
      rw [hm] at hc
      rw [hm, Int.toNat_natCast] at hs
      have HS := Lib.hid hs
      have hmb : m < 2305843009213693951 := by omega
      clear hm hs hr0 hr1
      go_wp2_with fail
      go_at_call 82
      refine (big_any wo m hmb).mono ?_
      rintro e w2 ⟨A2, c2, rfl, hc2, _, hown2, hb2⟩
      have hbw := st.bel.trans (hb2.mono hsz)
      have hown := st.own.kept (only_of_below hb2 none) (by cases hv : (Value.slice A (2 + 8 * j) c).ownBlock <;> simp)
      have hbox := st.box.below hb2 hbl
      have hz2' := hb2.size
      have hsv2 := SV.of_own hown2
      simp only [Ob.wide_length]
      rw [Ob.wide_length] at hc2
      clear st hown2 hb2
      go_wp2_with (first | (at_builtin; refine wpList_appNo _ rfl (.tmp 21) (.tmp 23) 52 rfl (w.heap.size + 1) 5 i0 _ 1 1 Tryd.underlying52 hi0 hz0 hz1 hz2 rfl (by decide) A (2 + 8 * j) c _ rfl hown _ A2 8 c2 _ rfl (by simp) hsv2 (bytesV_one _) ?ha ?hb ?hc ?_))
      case ha => simp [maxLen]; omega
      case hb => omega
      case hc => omega
      intro A' c' w' hown' hg hc' _
      have hbw' := hbw.grown hg hbw.size (fun k hk => by have := (hown.lt k hk).1; omega)
      have hbox' := hbox.grown hg (own_blk_ne hown hbox (by decide))
      have st2 : BySt w w' ⟨kk, ls, da⟩ _ kl Ad kd (j + 1) A' c' := ⟨by rw [show 2 + 8 * (j + 1) = 2 + 8 * j + 8 by omega]; simp only [HS.out, bytesV_app] at hown' ⊢; exact hown', hbox', hbw'⟩
      clear hown' hown hg hsv2 hbw hbox
      go_wp2_with fail
      go_roundw
      case rel => exact ⟨j + 1, A', c', by omega, rfl, by go_num, st2⟩
      case measure => simp [intOf]; omega
    · obtain rfl : j = ls.length := by omega
      have hbx := st.box.cell 2
      simp only [List.getElem?_toArray, List.getElem?_cons_zero, List.getElem?_cons_succ] at hbx
      have hdv := HD.out _ st.bel
      have hown := st.own
      have hbel := st.bel
      clear st st0
      go_wp2_with (first | (at_builtin; refine wpList_appNo _ rfl (.tmp 26) (.tmp 28) 52 rfl (w.heap.size + 1) 5 i0 _ 1 1 Tryd.underlying52 hi0 hz0 hz1 hz2 rfl (by decide) A (2 + 8 * ls.length) c _ rfl hown _ Ad da.length kd _ rfl (by simp) hdv (bytesV_one _) ?hd ?he ?hf ?_))
      case hd => simp [maxLen]; omega
      case he => omega
      case hf => omega
      intro A' c' w' hown' hg hc' _
      have hbw' := hbel.grown hg hbel.size (fun k hk => by have := (hown.lt k hk).1; omega)
      have hown2 : w'.ownsRow (w.heap.size + 1) 5 1 (.slice A' (2 + 8 * ls.length + da.length) c') (2 + 8 * ls.length + da.length) (bytesV (Ob.bytes ⟨kk, ls, da⟩)) := by
        rw [HE.out]; simp only [bytesV_app, List.append_assoc] at hown' ⊢; exact hown'
      have hm : c' ≤ maxLen := by
        obtain ⟨_, _, e, _, hm⟩ := own_form hown'
        injection e with _ _ e2
        rw [e2]; exact hm
      have hbn : (Ob.bytes ⟨kk, ls, da⟩).length = 2 + 8 * ls.length + da.length := HBL.out
      clear hown hg
      go_wp2_with fail
      go_ret
      refine ⟨A', c', ret_eq (by rw [hbn]; rfl), by rw [hbn]; exact hc', hm, ?_, hbw'⟩
      rw [hbn]
      exact own_more hown2 (by omega)
end Go.Proofs.YtjljknocnebnaaaDoor
namespace Go.V
open Go.RowKit Go.ChangeShapes Go.WideShapes Go.ChangeAt

theorem foldl_push : ∀ (l : List UInt8) (s : ByteArray), (l.map fun b => (b.toNat : Int)).foldl (fun r n => r.push (UInt8.ofNat n.toNat)) s = ⟨s.data ++ l.toArray⟩
  | [], s => by simp
  | b :: l, s => by
    simp only [List.map_cons, List.foldl_cons]
    rw [foldl_push l]
    simp [ByteArray.push]

/-- 'string(b)'. -/
theorem run_conv_str {P : Program} {w : World} {B : Nat} {A : Option Addr} {l : List UInt8} (src dst e : TypeId) (c : Nat) (hs : P.underlying src = some (.slice e)) (he : P.underlying e = some (.int .u8)) (hd : P.underlying dst = some .string)
    (h : SV w B A (bytesV l)) : (convert src dst (.slice A l.length c)).run P w = .ok (.string ⟨l.toArray⟩) w := by
  rw [run_convert_bytes_string w src dst e A l.length c hs he hd]
  rcases A with _ | a
  · rcases h with h | ⟨b, off, h, _⟩
    · have hl : l = [] := by simpa [bytesV] using h
      subst hl
      rfl
    · cases h
  · rw [run_bytesToString (P := P) w a l.length c (l.map fun b => (b.toNat : Int)) ?_, foldl_push]
    · simp
    · have hv : (l.map fun b => (b.toNat : Int)).map (Value.int .u8) = bytesV l := by simp [bytesV]
      rw [hv]
      have := run_loadCells_list (P := P) (w := w) a (bytesV l) (fun j v hj => by
        rcases h with h | ⟨b, off, h, _, hc⟩
        · rw [h] at hj; simp at hj
        · injection h with h
          subst h
          have := hc j v hj
          unfold Addr.add
          split
          · rename_i h0; subst h0; exact this
          · exact this)
      simpa using this

/-! ### opening an argument -/
section
variable {H : Type} {enc : TypeId × Value → H} {P : Program} {W : World}
/-- A []byte that came in. -/
theorem open_bytes {t e : TypeId} {fuel base : Nat} {spare : Nat → Bool} {held : Bool} {cs : List Value} {x : DataW H × List MemPlace} (ht : P.underlying t = some (.slice e)) (he : P.underlying e = some (.int .u8)) (hce : P.cellsOf e = 1)
    (h : DataW.trod enc P W base spare held fuel t cs = some x) :
    ∃ A c l, cs = [.slice A l.length c] ∧ l.length ≤ c ∧ c ≤ maxLen ∧ SV W W.heap.size A (bytesV l) := by
  rcases open_ints ht he hce h with ⟨hcs, _⟩ | ⟨a, len, cap, zs, hcs, _, hl, hm, hz, _, hcell, hwz⟩
  · exact ⟨none, 0, [], by simpa using hcs, by simp, by simp [maxLen], .inl rfl⟩
  · have hlz : len ≤ zs.length := by
      have := hz
      split at this <;> omega
    refine ⟨some a, cap, (zs.take len).map (fun n => UInt8.ofNat n.toNat), by simp [hcs]; omega, by simp; omega, hm, ?_⟩
    have hb : ∀ i, (hi : i < zs.length) → 0 ≤ zs[i] ∧ zs[i] ≤ 255 := fun i hi => bounds_u8 (hwz _ (List.getElem_mem hi))
    by_cases h0 : len = 0
    · subst h0; exact .inl (by simp [bytesV])
    · obtain ⟨b, off, spot⟩ := a
      have hc0 := hcell 0 (by omega)
      have hspot : spot = none := by simpa [Addr.add] using World.cell?_spot hc0
      subst hspot
      have hcell' : ∀ i, i < zs.length → W.cell? ⟨b, off + i, none⟩ = some (.int .u8 (zs.getD i 0)) := fun i hi => by
        have := hcell i hi
        unfold Addr.add at this
        split at this
        · rename_i h; subst h; exact this
        · exact this
      refine .inr ⟨b, off, rfl, World.block_lt_of_cell? W _ (hcell' 0 (by omega)), fun j u hu => ?_⟩
      simp only [bytesV, List.getElem?_map, Option.map_map, Option.map_eq_some_iff, List.getElem?_take] at hu
      obtain ⟨z, hz1, rfl⟩ := hu
      split at hz1
      · rename_i hj
        obtain ⟨hjl, rfl⟩ := List.getElem?_eq_some_iff.1 hz1
        rw [hcell' j hjl]
        have := hb j hjl
        have e1 : zs.getD j 0 = zs[j] := by simp [List.getD, hz1]
        rw [e1]
        congr 2
        simp only
        rw [UInt8.toNat_ofNat']
        omega
      · cases hz1
end
end Go.V
namespace Go.Proofs.YtjljknocnebnaaaDoor
open Go.RowKit Go.V
set_option linter.unusedVariables false

/-- Equality of two lists up to i. -/
theorem eq_upto {α : Type} {a b : List α} (hl : a.length = b.length) (h : ∀ j, j < a.length → a[j]? = b[j]?) : a = b :=
  List.ext_getElem? fun j => by
    by_cases hj : j < a.length
    · exact h j hj
    · rw [List.getElem?_eq_none (by omega), List.getElem?_eq_none (by omega)]
set_option maxHeartbeats 1600000 in
theorem ints44_any (w : World) (A1 A2 : Option Addr) (c1 c2 : Nat) (l1 l2 : List Int) (h1 : SV w w.heap.size A1 (intsV l1)) (h2 : SV w w.heap.size A2 (intsV l2)) (hl1 : l1.length ≤ 9223372036854775807) (hl2 : l2.length ≤ 9223372036854775807) :
    Calls Tryd.prog 49 #[.slice A1 l1.length c1, .slice A2 l2.length c2] w fun e w' => e = .returned (.bool (decide (l1 = l2))) ∧ ∃ n, w' = w.drewN n := by
  by_cases hlen : l1.length = l2.length
  · have hlen' : ((l1.length : Int) != l2.length) = false := by simp [hlen]
    have HL := Lib.hid hlen
    clear hlen
    go_enter Tryd.func49, Tryd.ntmps49
    go_wp2_with fail
    go_loopw [5] (fun k wr => ∃ i : Nat, i ≤ l1.length ∧ k = .int .i64 i ∧ Hid (∀ j, j < i → l1[j]? = l2[j]?) ∧ ∃ n, wr = w.drewN n) (fun k _ => l1.length - (intOf k).toNat)
    case atStart => exact ⟨0, Nat.zero_le _, rfl, Lib.hid (fun j hj => by omega), 0, rfl⟩
    case round =>
      obtain ⟨i, hi, rfl, H, n, rfl⟩ := hrel
      by_cases hlt : i < l1.length
      · have hlt2 : i < l2.length := by rw [← HL.out]; exact hlt
        obtain ⟨b1, o1, rfl, _, x1⟩ := h1.int i hlt
        obtain ⟨b2, o2, rfl, _, x2⟩ := h2.int i hlt2
        have hlt' : (i : Int) < l1.length := by omega
        have hlt2' : (i : Int) < l2.length := by omega
        by_cases he : l1[i] = l2[i]
        · have H' : Hid (∀ j, j < i + 1 → l1[j]? = l2[j]?) := Lib.hid fun j hj => by
            by_cases e : j = i
            · subst e; rw [List.getElem?_eq_getElem hlt, List.getElem?_eq_getElem hlt2, he]
            · exact H.out j (by omega)
          have he' : (l1[i] != l2[i]) = false := by simp [he]
          clear he
          generalize l1[i] = u1 at *
          generalize l2[i] = u2 at *
          go_wp2_with fail
          go_quiet (fail)
          go_wp2
          go_roundw
          case rel => exact ⟨i + 1, by omega, by go_num, H', _, rfl⟩
          case measure => simp [intOf]; omega
        · have HN : Hid (decide (l1 = l2) = false) := Lib.hid (decide_eq_false fun e => he (by subst e; rfl))
          have he' : (l1[i] != l2[i]) = true := by simpa using he
          clear he
          generalize l1[i] = u1 at *
          generalize l2[i] = u2 at *
          go_wp2_with fail
          go_quiet (fail)
          go_wp2
          go_ret
          exact ⟨by rw [HN.out]; rfl, n + nq, by simp [World.drewN_drewN]⟩
      · obtain rfl : i = l1.length := by omega
        have HY : Hid (decide (l1 = l2) = true) := Lib.hid (decide_eq_true (eq_upto HL.out H.out))
        go_wp2
        go_ret
        exact ⟨by rw [HY.out]; rfl, _, rfl⟩
  · have hlen' : ((l1.length : Int) != l2.length) = true := by simp; omega
    have HN : Hid (decide (l1 = l2) = false) := Lib.hid (decide_eq_false fun e => hlen (by rw [e]))
    clear hlen
    go_enter Tryd.func49, Tryd.ntmps49
    go_wp2_with fail
    go_ret
    exact ⟨by rw [HN.out]; rfl, 0, rfl⟩
set_option maxHeartbeats 1600000 in
theorem ints66_any (w : World) (A1 A2 : Option Addr) (c1 c2 : Nat) (l1 l2 : List Int) (h1 : SV w w.heap.size A1 (intsV l1)) (h2 : SV w w.heap.size A2 (intsV l2)) (hl1 : l1.length ≤ 9223372036854775807) (hl2 : l2.length ≤ 9223372036854775807) :
    Calls Tryd.prog 85 #[.slice A1 l1.length c1, .slice A2 l2.length c2] w fun e w' => e = .returned (.bool (decide (l1 = l2))) ∧ ∃ n, w' = w.drewN n := by
  by_cases hlen : l1.length = l2.length
  · have hlen' : ((l1.length : Int) != l2.length) = false := by simp [hlen]
    have HL := Lib.hid hlen
    clear hlen
    go_enter Tryd.func85, Tryd.ntmps85
    go_wp2_with fail
    go_loopw [13] (fun k wr => ∃ i : Nat, i ≤ l1.length ∧ k = .int .i64 i ∧ Hid (∀ j, j < i → l1[j]? = l2[j]?) ∧ ∃ n, wr = w.drewN n) (fun k _ => l1.length - (intOf k).toNat)
    case atStart => exact ⟨0, Nat.zero_le _, rfl, Lib.hid (fun j hj => by omega), 0, rfl⟩
    case round =>
      obtain ⟨i, hi, rfl, H, n, rfl⟩ := hrel
      by_cases hlt : i < l1.length
      · have hlt2 : i < l2.length := by rw [← HL.out]; exact hlt
        obtain ⟨b1, o1, rfl, _, x1⟩ := h1.int i hlt
        obtain ⟨b2, o2, rfl, _, x2⟩ := h2.int i hlt2
        have hlt' : (i : Int) < l1.length := by omega
        have hlt2' : (i : Int) < l2.length := by omega
        by_cases he : l1[i] = l2[i]
        · have H' : Hid (∀ j, j < i + 1 → l1[j]? = l2[j]?) := Lib.hid fun j hj => by
            by_cases e : j = i
            · subst e; rw [List.getElem?_eq_getElem hlt, List.getElem?_eq_getElem hlt2, he]
            · exact H.out j (by omega)
          have he' : (l1[i] != l2[i]) = false := by simp [he]
          clear he
          generalize l1[i] = u1 at *
          generalize l2[i] = u2 at *
          go_wp2_with fail
          go_quiet (fail)
          go_wp2
          go_roundw
          case rel => exact ⟨i + 1, by omega, by go_num, H', _, rfl⟩
          case measure => simp [intOf]; omega
        · have HN : Hid (decide (l1 = l2) = false) := Lib.hid (decide_eq_false fun e => he (by subst e; rfl))
          have he' : (l1[i] != l2[i]) = true := by simpa using he
          clear he
          generalize l1[i] = u1 at *
          generalize l2[i] = u2 at *
          go_wp2_with fail
          go_quiet (fail)
          go_wp2
          go_ret
          exact ⟨by rw [HN.out]; rfl, n + nq, by simp [World.drewN_drewN]⟩
      · obtain rfl : i = l1.length := by omega
        have HY : Hid (decide (l1 = l2) = true) := Lib.hid (decide_eq_true (eq_upto HL.out H.out))
        go_wp2
        go_ret
        exact ⟨by rw [HY.out]; rfl, _, rfl⟩
  · have hlen' : ((l1.length : Int) != l2.length) = true := by simp; omega
    have HN : Hid (decide (l1 = l2) = false) := Lib.hid (decide_eq_false fun e => hlen (by rw [e]))
    clear hlen
    go_enter Tryd.func85, Tryd.ntmps85
    go_wp2_with fail
    go_ret
    exact ⟨by rw [HN.out]; rfl, 0, rfl⟩
/-- Equality of two objects. -/
def eqO (a b : Ob.O) : Bool := decide (a.kind = b.kind) && (decide (a.links = b.links) && decide (a.data = b.data))
theorem eqO_iff (a b : Ob.O) : eqO a b = true ↔ a = b := by
  obtain ⟨k1, l1, d1⟩ := a
  obtain ⟨k2, l2, d2⟩ := b
  simp [eqO]
theorem eqO_false {a b : Ob.O} (h : eqO a b = false) : a ≠ b := fun e => by rw [(eqO_iff a b).2 e] at h; cases h
theorem bytesEq_any (w : World) (A1 A2 : Option Addr) (c1 c2 : Nat) (l1 l2 : List UInt8) (h1 : SV w w.heap.size A1 (bytesV l1)) (h2 : SV w w.heap.size A2 (bytesV l2)) :
    Calls Tryd.prog 86 #[.slice A1 l1.length c1, .slice A2 l2.length c2] w fun e w' => e = .returned (.bool (decide (l1 = l2))) ∧ w = w' := by
  have e1 := run_conv_str (P := Tryd.prog) 52 9 5 c1 Tryd.underlying52 Tryd.underlying5 Tryd.underlying9 h1
  have e2 := run_conv_str (P := Tryd.prog) 52 9 5 c2 Tryd.underlying52 Tryd.underlying5 Tryd.underlying9 h2
  by_cases he : l1 = l2
  · subst he
    go_enter Tryd.func86, Tryd.ntmps86
    go_wp2_with fail
    go_ret
    exact ⟨by simp, rfl⟩
  · have he' : (l1 == l2) = false := by simpa using he
    have HN : Hid (decide (l1 = l2) = false) := Lib.hid (decide_eq_false he)
    clear he
    go_enter Tryd.func86, Tryd.ntmps86
    go_wp2_with fail
    go_ret
    exact ⟨by rw [HN.out]; simp, rfl⟩
end Go.Proofs.YtjljknocnebnaaaDoor
namespace Go.Proofs.YtjljknocnebnaaaDoor
open Go.RowKit Go.V
set_option linter.unusedVariables false

theorem info3 : (Tryd.prog.info? 3).map (fun i => (i.zero, i.size, i.bytes)) = some (some (.int .i64 0), 1, 8) := by kernel_rfl


set_option maxRecDepth 100000 in
set_option maxHeartbeats 4000000 in
theorem clone61_any (w : World) (A : Option Addr) (c : Nat) (l : List Int) (h : SV w w.heap.size A (intsV l)) (hl : l.length * 8 ≤ 140737488351232) :
    Calls Tryd.prog 83 #[.slice A l.length c] w fun e w' => ∃ A' c', e = .returned (.slice A' l.length c') ∧ l.length ≤ c' ∧ SA w' (Under w.heap.size) A' (intsV l) ∧ Below w.heap.size w w' := by
  obtain ⟨i0, hi0, hz0, hz1, hz2⟩ := info_parts info3
  have heq : ∀ (W : World) a n c, (binOp .eql 41 (.slice a n c) (.slice none 0 0)).run Tryd.prog W = .ok (.bool a.isNone) W := fun W a n c => Lib.run_eql_slice_nil W 41 3 a n c 0 0 Tryd.underlying41
  rcases A with _ | ad
  · have hl0 : l = [] := by
      rcases h with h | ⟨b, off, h, _⟩
      · simpa [intsV] using h
      · cases h
    subst hl0
    go_enter Tryd.func83, Tryd.ntmps83
    go_wp2_with fail
    go_ret
    exact ⟨none, 0, rfl, Nat.le_refl _, SA.nil, Below.refl _ _⟩
  · go_enter Tryd.func83, Tryd.ntmps83
    go_wp2_with (first | (at_builtin; refine wpList_appN _ rfl (.tmp 5) (.tmp 6) 41 rfl w.heap.size 3 i0 (.int .i64 0) 1 8 Tryd.underlying41 hi0 hz0 hz1 hz2 rfl (by decide) (some ⟨w.heap.size, 0, none⟩) 0 0 [] rfl (World.ownsRow_lit w #[] 0 (Nat.le_refl _) (by simp [maxLen]) rfl) _ (some ad) l.length c (intsV l) rfl ?ha (SV.alloc h (Nat.le_refl _) _) (intsV_one _) ?hb ?hc ?hd ?_))
    case ha => simp
    case hb => simp [maxLen]; omega
    case hc => omega
    case hd => simp
    intro A' c' w' hown hg hc'
    have hb := (below_alloc1 w (.cells #[] 3)).grown hg (by simp) (fun k hk => by simp [Value.ownBlock] at hk; omega)
    try simp only [Nat.zero_add, List.nil_append] at *
    have hsa := SA.of_own (X := Under w.heap.size) hown (fun b hb => hb)
    go_wp2_with fail
    go_ret
    exact ⟨A', c', rfl, hc', hsa, hb⟩

set_option maxRecDepth 100000 in
set_option maxHeartbeats 4000000 in
theorem clone62_any (w : World) (A : Option Addr) (c : Nat) (l : List UInt8) (h : SV w w.heap.size A (bytesV l)) (hl : l.length * 1 ≤ 140737488351232) :
    Calls Tryd.prog 84 #[.slice A l.length c] w fun e w' => ∃ A' c', e = .returned (.slice A' l.length c') ∧ l.length ≤ c' ∧ SA w' (Under w.heap.size) A' (bytesV l) ∧ Below w.heap.size w w' := by
  obtain ⟨i0, hi0, hz0, hz1, hz2⟩ := info_parts info5
  have heq : ∀ (W : World) a n c, (binOp .eql 52 (.slice a n c) (.slice none 0 0)).run Tryd.prog W = .ok (.bool a.isNone) W := fun W a n c => Lib.run_eql_slice_nil W 52 5 a n c 0 0 Tryd.underlying52
  rcases A with _ | ad
  · have hl0 : l = [] := by
      rcases h with h | ⟨b, off, h, _⟩
      · simpa [bytesV] using h
      · cases h
    subst hl0
    go_enter Tryd.func84, Tryd.ntmps84
    go_wp2_with fail
    go_ret
    exact ⟨none, 0, rfl, Nat.le_refl _, SA.nil, Below.refl _ _⟩
  · go_enter Tryd.func84, Tryd.ntmps84
    go_wp2_with (first | (at_builtin; refine wpList_appN _ rfl (.tmp 5) (.tmp 6) 52 rfl w.heap.size 5 i0 (.int .u8 0) 1 1 Tryd.underlying52 hi0 hz0 hz1 hz2 rfl (by decide) (some ⟨w.heap.size, 0, none⟩) 0 0 [] rfl (World.ownsRow_lit w #[] 0 (Nat.le_refl _) (by simp [maxLen]) rfl) _ (some ad) l.length c (bytesV l) rfl ?ha (SV.alloc h (Nat.le_refl _) _) (bytesV_one _) ?hb ?hc ?hd ?_))
    case ha => simp
    case hb => simp [maxLen]; omega
    case hc => omega
    case hd => simp
    intro A' c' w' hown hg hc'
    have hb := (below_alloc1 w (.cells #[] 5)).grown hg (by simp) (fun k hk => by simp [Value.ownBlock] at hk; omega)
    try simp only [Nat.zero_add, List.nil_append] at *
    have hsa := SA.of_own (X := Under w.heap.size) hown (fun b hb => hb)
    go_wp2_with fail
    go_ret
    exact ⟨A', c', rfl, hc', hsa, hb⟩

set_option maxRecDepth 100000 in
set_option maxHeartbeats 4000000 in
theorem objects_any (w : World) (o1 o2 : Ob.O) (Al1 : Option Addr) (kl1 : Nat) (Ad1 : Option Addr) (kd1 : Nat) (Al2 : Option Addr) (kl2 : Nat) (Ad2 : Option Addr) (kd2 : Nat) (h1 : ObA w Free o1 Al1 kl1 Ad1 kd1) (h2 : ObA w Free o2 Al2 kl2 Ad2 kd2) :
    Calls Tryd.prog 31 #[obV o1 Al1 kl1 Ad1 kd1, obV o2 Al2 kl2 Ad2 kd2] w fun e w' => e = .returned (.bool (eqO o1 o2)) ∧ Below w.heap.size w w' := by
  have HI := Lib.hid (fun (w' : World) (hb : Below w.heap.size w w') => ints44_any w' Al1 Al2 kl1 kl2 o1.links o2.links (h1.ls.keep (free_below hb)).sv (h2.ls.keep (free_below hb)).sv (by have := h1.ll; omega) (by have := h2.ll; omega))
  have HC1 := Lib.hid (fun (w' : World) (hb : Below w.heap.size w w') => run_conv_str (P := Tryd.prog) 52 9 5 kd1 Tryd.underlying52 Tryd.underlying5 Tryd.underlying9 (h1.ds.keep (free_below hb)).sv)
  have HC2 := Lib.hid (fun (w' : World) (hb : Below w.heap.size w w') => run_conv_str (P := Tryd.prog) 52 9 5 kd2 Tryd.underlying52 Tryd.underlying5 Tryd.underlying9 (h2.ds.keep (free_below hb)).sv)
  have HQ := Lib.hid (show eqO o1 o2 = (decide (o1.kind = o2.kind) && (decide (o1.links = o2.links) && decide (o1.data = o2.data))) from rfl)
  clear h1 h2
  obtain ⟨kk1, ls1, da1⟩ := o1
  obtain ⟨kk2, ls2, da2⟩ := o2
  simp only at HI HQ HC1 HC2 ⊢
  generalize eqO _ _ = q at *
  by_cases hk : kk1 = kk2
  · subst hk
    have hkk : (kk1 == kk1) = true := by simp
    go_enter Tryd.func31, Tryd.ntmps31
    go_wp2_with fail
    go_at_call 49
    refine (HI.out _ (below_alloc2 _ _ _)).mono ?_
    rintro e w1 ⟨rfl, n, rfl⟩
    have hb1 : Below w.heap.size w (((w.alloc (.cells #[.int .i64 kk1, .slice Al1 ls1.length kl1, .slice Ad1 da1.length kd1] 54)).alloc (.cells #[.int .i64 kk1, .slice Al2 ls2.length kl2, .slice Ad2 da2.length kd2] 54)).drewN n) := below_drewN (below_alloc2 _ _ _) n
    by_cases hll : ls1 = ls2
    · subst hll
      have hl1 : decide (ls1 = ls1) = true := decide_eq_true rfl
      rw [hl1]
      have e1 := HC1.out _ hb1
      have e2 := HC2.out _ hb1
      by_cases hdd : da1 = da2
      · have HQ2 : Hid (q = true) := Lib.hid (by rw [HQ.out]; simp [hdd])
        subst hdd
        go_wp2_with fail
        go_ret
        exact ⟨by rw [HQ2.out]; simp, hb1⟩
      · have HQ2 : Hid (q = false) := Lib.hid (by rw [HQ.out]; simp [hdd])
        have hd : (da1 == da2) = false := by simpa using hdd
        clear hdd
        go_wp2_with fail
        go_ret
        exact ⟨by rw [HQ2.out]; simp, hb1⟩
    · have hl1 : decide (ls1 = ls2) = false := decide_eq_false hll
      rw [hl1]
      have HQ2 : Hid (q = false) := Lib.hid (by rw [HQ.out]; simp [hll])
      clear hll
      go_wp2_with fail
      go_ret
      exact ⟨by rw [HQ2.out]; rfl, hb1⟩
  · have hkk : (kk1 == kk2) = false := by simpa using hk
    have HQ2 : Hid (q = false) := Lib.hid (by rw [HQ.out]; simp [hk])
    clear hk
    go_enter Tryd.func31, Tryd.ntmps31
    go_wp2_with fail
    go_ret
    exact ⟨by rw [HQ2.out]; rfl, below_alloc2 _ _ _⟩

set_option maxRecDepth 100000 in
set_option maxHeartbeats 4000000 in
theorem same_any (w : World) (o1 o2 : Ob.O) (Al1 : Option Addr) (kl1 : Nat) (Ad1 : Option Addr) (kd1 : Nat) (Al2 : Option Addr) (kl2 : Nat) (Ad2 : Option Addr) (kd2 : Nat) (h1 : ObA w Free o1 Al1 kl1 Ad1 kd1) (h2 : ObA w Free o2 Al2 kl2 Ad2 kd2) :
    Calls Tryd.prog 61 #[obV o1 Al1 kl1 Ad1 kd1, obV o2 Al2 kl2 Ad2 kd2] w fun e w' => e = .returned (.bool (eqO o1 o2)) ∧ Below w.heap.size w w' := by
  have HI := Lib.hid (fun (w' : World) (hb : Below w.heap.size w w') => ints66_any w' Al1 Al2 kl1 kl2 o1.links o2.links (h1.ls.keep (free_below hb)).sv (h2.ls.keep (free_below hb)).sv (by have := h1.ll; omega) (by have := h2.ll; omega))
  have HE := Lib.hid (fun (w' : World) (hb : Below w.heap.size w w') => bytesEq_any w' Ad1 Ad2 kd1 kd2 o1.data o2.data (h1.ds.keep (free_below hb)).sv (h2.ds.keep (free_below hb)).sv)
  have HQ := Lib.hid (show eqO o1 o2 = (decide (o1.kind = o2.kind) && (decide (o1.links = o2.links) && decide (o1.data = o2.data))) from rfl)
  clear h1 h2
  obtain ⟨kk1, ls1, da1⟩ := o1
  obtain ⟨kk2, ls2, da2⟩ := o2
  simp only at HI HQ HE ⊢
  generalize eqO _ _ = q at *
  by_cases hk : kk1 = kk2
  · subst hk
    have hkk : (kk1 == kk1) = true := by simp
    go_enter Tryd.func61, Tryd.ntmps61
    go_wp2_with fail
    go_at_call 85
    refine (HI.out _ (below_alloc2 _ _ _)).mono ?_
    rintro e w1 ⟨rfl, n, rfl⟩
    have hb1 : Below w.heap.size w (((w.alloc (.cells #[.int .i64 kk1, .slice Al1 ls1.length kl1, .slice Ad1 da1.length kd1] 54)).alloc (.cells #[.int .i64 kk1, .slice Al2 ls2.length kl2, .slice Ad2 da2.length kd2] 54)).drewN n) := below_drewN (below_alloc2 _ _ _) n
    by_cases hll : ls1 = ls2
    · subst hll
      have hl1 : decide (ls1 = ls1) = true := decide_eq_true rfl
      rw [hl1]
      have HQ2 : Hid (q = decide (da1 = da2)) := Lib.hid (by rw [HQ.out]; simp)
      have HE2 := Lib.hid (HE.out _ hb1)
      generalize hq : decide (da1 = da2) = dd at *
      have HDD := Lib.hid hq
      clear hq hl1
      go_wp2_with fail
      go_at_call 86
      refine HE2.out.mono ?_
      rintro e w2 ⟨rfl, rfl⟩
      go_wp2_with fail
      go_ret
      exact ⟨by rw [HQ2.out]; rfl, hb1⟩
    · have hl1 : decide (ls1 = ls2) = false := decide_eq_false hll
      rw [hl1]
      have HQ2 : Hid (q = false) := Lib.hid (by rw [HQ.out]; simp [hll])
      clear hll
      go_wp2_with fail
      go_ret
      exact ⟨by rw [HQ2.out]; rfl, hb1⟩
  · have hkk : (kk1 == kk2) = false := by simpa using hk
    have HQ2 : Hid (q = false) := Lib.hid (by rw [HQ.out]; simp [hk])
    clear hk
    go_enter Tryd.func61, Tryd.ntmps61
    go_wp2_with fail
    go_ret
    exact ⟨by rw [HQ2.out]; rfl, below_alloc2 _ _ _⟩
end Go.Proofs.YtjljknocnebnaaaDoor
namespace Go.Proofs.YtjljknocnebnaaaDoor
open Go.RowKit Go.V
set_option linter.unusedVariables false

/-- A number, a fault, and nothing that lay has turned. -/
def NumPost (w : World) (n : Int) (r : Int × Int) (e : Ending) (w' : World) : Prop := e = .returned (.tuple #[.int .i64 n, .agg #[.int .i64 r.1, .int .i64 r.2]]) ∧ Below w.heap.size w w'
set_option maxRecDepth 100000 in
set_option maxHeartbeats 8000000 in
theorem digest_bad (w : World) (o : Ob.O) (Al : Option Addr) (kl : Nat) (Ad : Option Addr) (kd : Nat) (ho : ObA w Free o Al kl Ad kd) (hbad : (Ob.obF o).1 ≠ 0) :
    Calls Tryd.prog 40 #[obV o Al kl Ad kd] w (NumPost w 0 (Ob.obF o)) := by
  have HC := Lib.hid (fun (w' : World) (hb : Below w.heap.size w w') => check_any w' o Al kl Ad kd (ho.keep (free_below hb)))
  have hb1 : ((Ob.obF o).1 == 0) = false := by simpa using hbad
  have hb2 : ((Ob.obF o).1 != 0) = true := by simpa using hbad
  clear ho hbad
  generalize Ob.obF o = r at *
  obtain ⟨cd, ix⟩ := r
  obtain ⟨kk, ls, da⟩ := o
  simp only at *
  go_enter Tryd.func40, Tryd.ntmps40
  go_wp2_with fail
  go_at_call 57
  refine (HC.out _ (below_alloc2 _ _ _)).mono ?_
  rintro e w1 ⟨rfl, hbel⟩
  have hblk := (blk_new1 w (.cells #[.int .i64 kk, .slice Al ls.length kl, .slice Ad da.length kd] 54) 30 #[.int .i64 0, .int .i64 0]).below hbel (by simp)
  have hbw := (below_alloc2 w (.cells #[.int .i64 kk, .slice Al ls.length kl, .slice Ad da.length kd] 54) (.cells #[.int .i64 0, .int .i64 0] 30)).trans (hbel.mono (by simp; omega))
  have hsz := hbw.size
  have hlt := hblk.lt
  have hc0 := hblk.cell 0
  have hc1 := hblk.cell 1
  have hf0 := hblk.frozen 0
  have hf1 := hblk.frozen 1
  simp only [List.getElem?_toArray, List.getElem?_cons_zero, List.getElem?_cons_succ] at hc0 hc1
  clear hbel HC
  go_wp2_with fail
  go_region
  all_goals
    go_wp2_with fail
    refine bodyPost_ret (results_tc rfl _ _ (w.heap.size + 1) (.int .i64 cd) (.int .i64 ix) rfl (((blk_put2 hblk _ _).alloc _).drewN 1)) rfl ⟨rfl, ?_⟩
    exact below_drewN (((hbw.setCell (by simp) _).setCell (by simp) _).alloc (by simp; omega) _) 1
set_option maxRecDepth 100000 in
set_option maxHeartbeats 8000000 in
theorem digest_ok (w : World) (o : Ob.O) (Al : Option Addr) (kl : Nat) (Ad : Option Addr) (kd : Nat) (ho : ObA w Free o Al kl Ad kd) (hok : Ob.Ok o) :
    Calls Tryd.prog 40 #[obV o Al kl Ad kd] w (NumPost w ((Ob.dig o : Nat) : Int) (0, 0)) := by
  have HC := Lib.hid (fun (w' : World) (hb : Below w.heap.size w w') => check_any w' o Al kl Ad kd (ho.keep (free_below hb)))
  have HB := Lib.hid (fun (w' : World) (hb : Below w.heap.size w w') => bytes_any w' o Al kl Ad kd (ho.keep (free_below hb)) hok)
  have HF := Lib.hid hok.f
  have hbl : (Ob.bytes o).length ≤ 4096 := by
    have h1 := hok.ln
    have h2 := hok.dn
    rw [Ob.bytes_length]; omega
  have HO := Lib.hid (fun (w' : World) A k h => of_bytes w' A k (Ob.bytes o) h hbl)
  have HD := Lib.hid (show Ob.dig o = Dg.ofL (Ob.bytes o) from rfl)
  clear ho hok hbl
  generalize Ob.dig o = dg at *
  generalize Ob.bytes o = by_ at *
  obtain ⟨kk, ls, da⟩ := o
  try simp only at *
  go_enter Tryd.func40, Tryd.ntmps40
  go_wp2_with fail
  go_at_call 57
  refine (HC.out _ (below_alloc2 _ _ _)).mono ?_
  rw [HF.out]
  rintro e w1 ⟨rfl, hbel⟩
  have hblk := (blk_new1 w (.cells #[.int .i64 kk, .slice Al ls.length kl, .slice Ad da.length kd] 54) 30 #[.int .i64 0, .int .i64 0]).below hbel (by simp)
  have hbox := ((Blk.new w 54 #[.int .i64 kk, .slice Al ls.length kl, .slice Ad da.length kd]).alloc (.cells #[.int .i64 0, .int .i64 0] 30)).below hbel (by simp; omega)
  have hbw := (below_alloc2 w (.cells #[.int .i64 kk, .slice Al ls.length kl, .slice Ad da.length kd] 54) (.cells #[.int .i64 0, .int .i64 0] 30)).trans (hbel.mono (by simp; omega))
  have hsz := hbw.size
  have hlt := hblk.lt
  have hlx := hbox.lt
  have p0 := hbox.cell 0
  have p1 := hbox.cell 1
  have p2 := hbox.cell 2
  simp only [List.getElem?_toArray, List.getElem?_cons_zero, List.getElem?_cons_succ] at p0 p1 p2
  have hbw2 := hbw.alloc hsz (.cells #[.int .i64 0, .int .i64 0] 30)
  have hblk2 := hblk.alloc (.cells #[.int .i64 0, .int .i64 0] 30)
  clear hbel HC
  go_wp2_with fail
  go_at_call 59
  refine (HB.out _ hbw2).mono ?_
  rintro e w2 ⟨A2, c2, rfl, hc2, _, hown2, hb2⟩
  have hbw3 := hbw2.trans (hb2.mono hbw2.size)
  have hblk3 := hblk2.below hb2 hblk2.lt
  have hsv := SV.of_own hown2
  clear hown2 hb2 hblk2 hbw2 hbw hblk
  go_wp2_with fail
  go_at_call 58
  refine (HO.out _ _ _ hsv).mono ?_
  rintro e w3 ⟨rfl, hb3⟩
  rw [← HD.out]
  have hbw4 := hbw3.trans (hb3.mono hbw3.size)
  have hblk4 := hblk3.below hb3 hblk3.lt
  have hlt := hblk4.lt
  have hf0 := hblk4.frozen 0
  have hf1 := hblk4.frozen 1
  have hc0 := hblk4.cell 0
  have hc1 := hblk4.cell 1
  simp only [List.getElem?_toArray, List.getElem?_cons_zero, List.getElem?_cons_succ] at hc0 hc1
  clear hb3 hblk3 hsv
  go_wp2_with fail
  refine bodyPost_ret (results_tc rfl _ _ (w.heap.size + 1) (.int .i64 0) (.int .i64 0) rfl (blk_put2 hblk4 _ _)) rfl ⟨rfl, ?_⟩
  exact (hbw4.setCell (by simp) _).setCell (by simp) _
end Go.Proofs.YtjljknocnebnaaaDoor
namespace Go.Proofs.YtjljknocnebnaaaDoor
open Go.RowKit Go.V
set_option linter.unusedVariables false

/-- The value of a store. -/
abbrev stV (A : Option Addr) (n k : Nat) : Value := .agg #[.slice A n k]
/-- The state of the loops over a store: the parameter's copy and the result's cells. -/
structure VaSt (w wr : World) (A : Option Addr) (n k : Nat) : Prop where
  box : Blk wr w.heap.size 24 #[.slice A n k]
  res : Blk wr (w.heap.size + 1) 30 #[.int .i64 0, .int .i64 0]
  bel : Below w.heap.size w wr
theorem VaSt.below {w wr w' : World} {A : Option Addr} {n k : Nat} (h : VaSt w wr A n k) (hb : Below wr.heap.size wr w') : VaSt w w' A n k :=
  ⟨h.box.below hb h.box.lt, h.res.below hb h.res.lt, h.bel.trans (hb.mono h.bel.size)⟩
theorem VaSt.alloc {w wr : World} {A : Option Addr} {n k : Nat} (h : VaSt w wr A n k) (o : Obj) : VaSt w (wr.alloc o) A n k := h.below (below_alloc1 _ _)
theorem VaSt.drewN {w wr : World} {A : Option Addr} {n k : Nat} (h : VaSt w wr A n k) (q : Nat) : VaSt w (wr.drewN q) A n k := h.below (below_drewN (Below.refl _ _) _)
set_option maxRecDepth 100000 in
set_option maxHeartbeats 16000000 in
theorem validate_any (w : World) (A : Option Addr) (k : Nat) (s : List Ob.S) (hv : StV w Free A s) (hl64 : s.length ≤ 9223372036854775807) :
    Calls Tryd.prog 19 #[stV A s.length k] w (FaultPost w (Ob.stF s)) := by
  by_cases hl : 40 < s.length
  · have H := Lib.hid (show Ob.stF s = (2, 0) from by unfold Ob.stF; rw [if_pos hl])
    have hl' : (40 : Int) < s.length := by omega
    clear hv
    go_enter Tryd.func19, Tryd.ntmps19
    go_wp2_with fail
    refine bodyPost_ret (results_c rfl _ _ (w.heap.size + 1) (.int .i64 2) (.int .i64 0) rfl (blk_new1 _ _ _ _)) rfl (FaultPost.mk_ H.out ?_)
    exact below_alloc2 _ _ _
  · have hl' : (s.length : Int) ≤ 40 := by omega
    have H := Lib.hid (show Ob.stF s = Ob.stFrom s 0 from by unfold Ob.stF; rw [if_neg hl])
    have HROW := Lib.hid (fun (w' : World) (hb : Below w.heap.size w w') i hi => (hv.keep (free_below hb)).row (w := w') i hi)
    clear hv hl
    go_enter Tryd.func19, Tryd.ntmps19
    go_wp2_with fail
    go_loopw [15] (fun v wr => ∃ i : Nat, i ≤ s.length ∧ v = .int .i64 i ∧ VaSt w wr A s.length k ∧ Hid (Ob.stFrom s 0 = Ob.stFrom s i)) (fun v _ => s.length - (intOf v).toNat)
    case atStart => exact ⟨0, Nat.zero_le _, rfl, ⟨(Blk.new _ _ _).alloc _, blk_new1 _ _ _ _, below_alloc2 _ _ _⟩, Lib.hid rfl⟩
    case round =>
      obtain ⟨i, hi, rfl, st, HJ⟩ := hrel
      obtain ⟨wo, rfl⟩ : ∃ wo : World, wo = wr := ⟨_, rfl⟩
      have hsz := st.bel.size
      have hlt0 := st.res.lt
      by_cases hlt : i < s.length
      · have hlt' : (i : Int) < s.length := by omega
        obtain ⟨b, off, Al, kl, Ad, kd, e, hb, _, d0, d1, d2, d3, hx, hob⟩ := HROW.out _ st.bel i hlt
        subst e
        have HC1 := Lib.hid (Ob.stFrom_next s i hlt)
        have HC2 := Lib.hid (Ob.stFrom_bad s i hlt)
        have HCO := Lib.hid (Ob.code.eq_1 s i)
        have HBAD := Lib.hid (fun (h : Ob.code s i ≠ 0) => show Ob.stF s = (Ob.code s i, (i : Int)) from by rw [H.out, HJ.out, HC2.out h])
        unfold I64 at hx
        by_cases hf : (Ob.obF (Ob.it s i).ob).1 ≠ 0
        · have HD := Lib.hid (fun (w' : World) (hb : Below wo.heap.size wo w') => digest_bad w' (Ob.it s i).ob Al kl Ad kd (hob.keep (free_below hb)) hf)
          have hcc : Ob.code s i = (Ob.obF (Ob.it s i).ob).1 := by rw [HCO.out, if_pos hf]
          have HB := Lib.hid (show Ob.stF s = ((Ob.obF (Ob.it s i).ob).1, (i : Int)) from by rw [HBAD.out (by rw [hcc]; exact hf), hcc])
          have hf1 : ((Ob.obF (Ob.it s i).ob).1 == 0) = false := by simpa using hf
          have hf2 : ((Ob.obF (Ob.it s i).ob).1 != 0) = true := by simpa using hf
          clear HC1 HC2 HCO HBAD hcc hob hf
          generalize Ob.it s i = x at *
          generalize Ob.obF x.ob = r at *
          obtain ⟨cd, ix⟩ := r
          obtain ⟨xd, kk, ls, da⟩ := x
          simp only at *
          go_wp2_with fail
          go_at_call 40
          refine (HD.out _ (below_alloc1 _ _)).mono ?_
          rintro e w2 ⟨rfl, hb2'⟩
          have hb2 : Below wo.heap.size wo w2 := (below_alloc1 wo (.cells #[.int .i64 xd, .int .i64 kk, .slice Al ls.length kl, .slice Ad da.length kd] 66)).trans (hb2'.mono (by simp))
          have st2 := st.below hb2
          have hlt2 := st2.res.lt
          have hf0 := st2.res.frozen 0
          have hf1' := st2.res.frozen 1
          have hc0 := st2.res.cell 0
          have hc1 := st2.res.cell 1
          simp only [List.getElem?_toArray, List.getElem?_cons_zero, List.getElem?_cons_succ] at hc0 hc1
          have hsz2 := st2.bel.size
          clear hb2 hb2' st HD
          go_wp2_with fail
          refine bodyPost_ret (results_c rfl _ _ (w.heap.size + 1) (.int .i64 cd) (.int .i64 i) rfl ((blk_put2 st2.res _ _).alloc _)) rfl (FaultPost.mk_ HB.out ?_)
          exact (((st2.bel.setCell (by simp) _).setCell (by simp) _).alloc (by simp; omega) _)
        · have hok : Ob.Ok (Ob.it s i).ob := (Ob.obF_ok (by simpa using hf)).2
          have HD := Lib.hid (fun (w' : World) (hb : Below wo.heap.size wo w') => digest_ok w' (Ob.it s i).ob Al kl Ad kd (hob.keep (free_below hb)) hok)
          have hcp := Lib.hid (HCO.out.trans (if_neg hf))
          clear HCO hob hok hf
          by_cases hd : ((Ob.dig (Ob.it s i).ob : Nat) : Int) ≠ (Ob.it s i).dig
          · have hcc : Ob.code s i = 18 := by rw [hcp.out, if_pos hd]
            have HB := Lib.hid (show Ob.stF s = (18, (i : Int)) from by rw [HBAD.out (by rw [hcc]; decide), hcc])
            have hd1 : (((Ob.dig (Ob.it s i).ob : Nat) : Int) == (Ob.it s i).dig) = false := by simpa using hd
            have hd2 : (((Ob.dig (Ob.it s i).ob : Nat) : Int) != (Ob.it s i).dig) = true := bne_iff_ne.2 hd
            clear HC1 HC2 HBAD hcp hcc hd
            generalize Ob.it s i = x at *
            generalize Ob.dig x.ob = dg at *
            obtain ⟨xd, kk, ls, da⟩ := x
            simp only at *
            go_wp2_with fail
            go_at_call 40
            refine (HD.out _ (below_alloc1 _ _)).mono ?_
            rintro e w2 ⟨rfl, hb2'⟩
            have hb2 : Below wo.heap.size wo w2 := (below_alloc1 wo (.cells #[.int .i64 xd, .int .i64 kk, .slice Al ls.length kl, .slice Ad da.length kd] 66)).trans (hb2'.mono (by simp))
            have hBx := ((Blk.new wo 66 #[.int .i64 xd, .int .i64 kk, .slice Al ls.length kl, .slice Ad da.length kd]).below hb2' (by simp))
            have hcx := hBx.cell 0
            have hlx := hBx.lt
            have st2 := st.below hb2
            have hlt2 := st2.res.lt
            have hf0 := st2.res.frozen 0
            have hf1' := st2.res.frozen 1
            have hc0 := st2.res.cell 0
            have hc1 := st2.res.cell 1
            have hbx0 := st2.box.cell 0
            simp only [List.getElem?_toArray, List.getElem?_cons_zero, List.getElem?_cons_succ] at hc0 hc1 hbx0 hcx
            have hsz2 := st2.bel.size
            have hlbx := st2.box.lt
            clear hb2 hb2' st HD
            go_wp2_with fail
            refine bodyPost_ret (results_c rfl _ _ (w.heap.size + 1) (.int .i64 18) (.int .i64 i) rfl ((blk_put2 st2.res _ _).alloc _)) rfl (FaultPost.mk_ HB.out ?_)
            exact (((st2.bel.setCell (by simp) _).setCell (by simp) _).alloc (by simp; omega) _)
          · have hcq := Lib.hid (hcp.out.trans (if_neg hd))
            have hde : ((Ob.dig (Ob.it s i).ob : Nat) : Int) = (Ob.it s i).dig := by omega
            by_cases hi0 : i = 0
            · have hcc : Ob.code s i = 0 := by rw [hcq.out, if_neg (by omega)]
              have HJ2 := Lib.hid (HJ.out.trans (HC1.out hcc))
              have hz1 : decide ((0 : Int) < (i : Int)) = false := by simp; omega
              have hz2 : decide (0 < i) = false := by simp; omega
              clear HC1 HC2 HBAD hcp hcq hcc hd hi0
              generalize Ob.it s i = x at *
              generalize Ob.dig x.ob = dg at *
              obtain ⟨xd, kk, ls, da⟩ := x
              simp only at *
              subst hde
              have hd1 : ((dg : Int) == (dg : Int)) = true := by simp
              have hd2 : ((dg : Int) != (dg : Int)) = false := by simp
              go_wp2_with fail
              go_at_call 40
              refine (HD.out _ (below_alloc1 _ _)).mono ?_
              rintro e w2 ⟨rfl, hb2'⟩
              have hb2 : Below wo.heap.size wo w2 := (below_alloc1 wo (.cells #[.int .i64 dg, .int .i64 kk, .slice Al ls.length kl, .slice Ad da.length kd] 66)).trans (hb2'.mono (by simp))
              have hBx := ((Blk.new wo 66 #[.int .i64 dg, .int .i64 kk, .slice Al ls.length kl, .slice Ad da.length kd]).below hb2' (by simp))
              have hcx := hBx.cell 0
              have hlx := hBx.lt
              have st2 := st.below hb2
              have hlt2 := st2.res.lt
              have hf0 := st2.res.frozen 0
              have hf1' := st2.res.frozen 1
              have hc0 := st2.res.cell 0
              have hc1 := st2.res.cell 1
              have hbx0 := st2.box.cell 0
              simp only [List.getElem?_toArray, List.getElem?_cons_zero, List.getElem?_cons_succ] at hc0 hc1 hbx0 hcx
              have hsz2 := st2.bel.size
              have hlbx := st2.box.lt
              clear hb2 hb2' st HD
              go_wp2_with fail
              go_roundw
              case rel => exact ⟨i + 1, by omega, by go_num, st2.alloc _, HJ2⟩
              case measure => simp [intOf]; omega
            · have hz1 : decide ((0 : Int) < (i : Int)) = true := by simp; omega
              have hz2 : decide (0 < i) = true := by simp; omega
              have hz3 : (0 : Int) ≤ (i : Int) - 1 := by omega
              have hz4 : (i : Int) - 1 < s.length := by omega
              obtain ⟨b', off', Al', kl', Ad', kd', e', hb', _, d0', _, _, _, hx', _⟩ := HROW.out _ st.bel (i - 1) (by omega)
              cases e'
              by_cases hle : (Ob.it s i).dig ≤ (Ob.it s (i - 1)).dig
              · have hcc : Ob.code s i = 5 := by rw [hcq.out, if_pos ⟨by omega, hle⟩]
                have HB := Lib.hid (show Ob.stF s = (5, (i : Int)) from by rw [HBAD.out (by rw [hcc]; decide), hcc])
                have hle' : decide ((Ob.it s i).dig ≤ (Ob.it s (i - 1)).dig) = true := by simpa using hle
                clear HC1 HC2 HBAD hcp hcq hcc hd hi0 hle
                generalize (Ob.it s (i - 1)).dig = pd at *
                generalize Ob.it s i = x at *
                generalize Ob.dig x.ob = dg at *
                obtain ⟨xd, kk, ls, da⟩ := x
                simp only at *
                subst hde
                have hd1 : ((dg : Int) == (dg : Int)) = true := by simp
                have hd2 : ((dg : Int) != (dg : Int)) = false := by simp
                go_wp2_with fail
                go_at_call 40
                refine (HD.out _ (below_alloc1 _ _)).mono ?_
                rintro e w2 ⟨rfl, hb2'⟩
                have hb2 : Below wo.heap.size wo w2 := (below_alloc1 wo (.cells #[.int .i64 dg, .int .i64 kk, .slice Al ls.length kl, .slice Ad da.length kd] 66)).trans (hb2'.mono (by simp))
                have hBx := ((Blk.new wo 66 #[.int .i64 dg, .int .i64 kk, .slice Al ls.length kl, .slice Ad da.length kd]).below hb2' (by simp))
                have hcx := hBx.cell 0
                have hlx := hBx.lt
                have hpd := (hb2.cell (p := ⟨b, off + (i - 1) * 4, none⟩) hb).trans d0'
                have hbb : b < w2.heap.size := Nat.lt_of_lt_of_le hb hb2.size
                have st2 := st.below hb2
                have hlt2 := st2.res.lt
                have hf0 := st2.res.frozen 0
                have hf1' := st2.res.frozen 1
                have hc0 := st2.res.cell 0
                have hc1 := st2.res.cell 1
                have hbx0 := st2.box.cell 0
                simp only [List.getElem?_toArray, List.getElem?_cons_zero, List.getElem?_cons_succ] at hc0 hc1 hbx0 hcx
                have hsz2 := st2.bel.size
                have hlbx := st2.box.lt
                clear hb2 hb2' st HD
                go_wp2_with fail
                refine bodyPost_ret (results_c rfl _ _ (w.heap.size + 1) (.int .i64 5) (.int .i64 i) rfl ((blk_put2 st2.res _ _).alloc _)) rfl (FaultPost.mk_ HB.out ?_)
                exact (((st2.bel.setCell (by simp) _).setCell (by simp) _).alloc (by simp; omega) _)
              · have hcc : Ob.code s i = 0 := by rw [hcq.out, if_neg (by rintro ⟨_, h⟩; exact hle h)]
                have HJ2 := Lib.hid (HJ.out.trans (HC1.out hcc))
                have hle' : decide ((Ob.it s i).dig ≤ (Ob.it s (i - 1)).dig) = false := by simpa using hle
                clear HC1 HC2 HBAD hcp hcq hcc hd hi0 hle
                generalize (Ob.it s (i - 1)).dig = pd at *
                generalize Ob.it s i = x at *
                generalize Ob.dig x.ob = dg at *
                obtain ⟨xd, kk, ls, da⟩ := x
                simp only at *
                subst hde
                have hd1 : ((dg : Int) == (dg : Int)) = true := by simp
                have hd2 : ((dg : Int) != (dg : Int)) = false := by simp
                go_wp2_with fail
                go_at_call 40
                refine (HD.out _ (below_alloc1 _ _)).mono ?_
                rintro e w2 ⟨rfl, hb2'⟩
                have hb2 : Below wo.heap.size wo w2 := (below_alloc1 wo (.cells #[.int .i64 dg, .int .i64 kk, .slice Al ls.length kl, .slice Ad da.length kd] 66)).trans (hb2'.mono (by simp))
                have hBx := ((Blk.new wo 66 #[.int .i64 dg, .int .i64 kk, .slice Al ls.length kl, .slice Ad da.length kd]).below hb2' (by simp))
                have hcx := hBx.cell 0
                have hlx := hBx.lt
                have hpd := (hb2.cell (p := ⟨b, off + (i - 1) * 4, none⟩) hb).trans d0'
                have hbb : b < w2.heap.size := Nat.lt_of_lt_of_le hb hb2.size
                have st2 := st.below hb2
                have hlt2 := st2.res.lt
                have hf0 := st2.res.frozen 0
                have hf1' := st2.res.frozen 1
                have hc0 := st2.res.cell 0
                have hc1 := st2.res.cell 1
                have hbx0 := st2.box.cell 0
                simp only [List.getElem?_toArray, List.getElem?_cons_zero, List.getElem?_cons_succ] at hc0 hc1 hbx0 hcx
                have hsz2 := st2.bel.size
                have hlbx := st2.box.lt
                clear hb2 hb2' st HD
                go_wp2_with fail
                go_roundw
                case rel => exact ⟨i + 1, by omega, by go_num, st2.alloc _, HJ2⟩
                case measure => simp [intOf]; omega
      · obtain rfl : i = s.length := by omega
        have hf0 := st.res.frozen 0
        have hf1' := st.res.frozen 1
        have hc0 := st.res.cell 0
        have hc1 := st.res.cell 1
        simp only [List.getElem?_toArray, List.getElem?_cons_zero, List.getElem?_cons_succ] at hc0 hc1
        go_wp2_with fail
        refine bodyPost_ret (results_c rfl _ _ (w.heap.size + 1) (.int .i64 0) (.int .i64 0) rfl (blk_put2 st.res _ _)) rfl (FaultPost.mk_ ?_ ?_)
        · rw [H.out, HJ.out, Ob.stFrom_end s _ (Nat.le_refl _)]
        · exact (st.bel.setCell (by simp) _).setCell (by simp) _
end Go.Proofs.YtjljknocnebnaaaDoor
