/-
  File trees: walk of 'Contents'.
  File trees: walk of 'Parse'.
  File trees: an object that is being made: its box, and two rows of its own.
  Objects: walks of the reference's 'At' and 'Stores'.
  Objects: walk of the reference's 'ObjectDigest'.
-/
import Derived.Test.YtjljknocnebnaaaDoorG07
import Derived.OwnWalk
import Derived.Test.YtjljknocnebnaaaDoorG04
import Derived.Test.YtjljknocnebnaaaDoorG05
namespace Go.Proofs.YtjljknocnebnaaaDoor
open Go.RowKit Go.V Go.Shelf
set_option linter.unusedVariables false

/-- What 'Contents' tells. -/
def CoPost2 (w : World) (q : List (List UInt8) × Int) (e : Ending) (w' : World) : Prop :=
  ∃ A c, e = .returned (.tuple #[.slice A q.1.length c, .int .i64 q.2]) ∧ LnA w' (Under w.heap.size) q.1 A c ∧ Below w.heap.size w w'
theorem FlR.one {w : World} {g : Nat} {t : TypeId} {p : List UInt8} {L : List (List UInt8)} {A : Option Addr} {c : Nat} (hb : Blk w g t #[strV p, .slice A L.length c]) (h : LnA w Free L A c) : VfV w Free (some ⟨g, 0, none⟩) [(⟨p, L⟩ : Tr.F)] := by
  refine ⟨[strV p, .slice A L.length c], ?_, ?_⟩
  · have := SA.of_blk (X := Free) hb (fun h => h)
    simpa using this
  · exact ⟨[strV p, .slice A L.length c], [], by simp, ⟨A, c, rfl, h⟩, rfl⟩
set_option maxRecDepth 100000 in
set_option maxHeartbeats 4000000 in
theorem contents_any (w : World) (hm : Mx w) (hm2 : M2 w) (o : Ob.O) (Al : Option Addr) (kl : Nat) (Ad : Option Addr) (kd : Nat) (p : List UInt8) (ho : ObA w Free o Al kl Ad kd) (hdl : o.data.length ≤ 1000000000) :
    Calls Tryd.prog 34 #[obV o Al kl Ad kd, strV p] w (CoPost2 w (Tr.coF o p)) := by
  have HB := Lib.hid (below_alloc1 w (.cells #[.int .i64 o.kind, .slice Al o.links.length kl, .slice Ad o.data.length kd] 54))
  have q1 := Blk.new w 54 #[.int .i64 o.kind, .slice Al o.links.length kl, .slice Ad o.data.length kd]
  have p0 := (q1.cell 0).trans rfl
  have p1 := (q1.cell 1).trans rfl
  have p2 := (q1.cell 2).trans rfl
  have l1 := q1.lt
  have HQ := Lib.hid (show Tr.coF o p = if o.kind ≠ 1 then ([], 8) else if (Tr.cut o.data).2 ≠ [] ∨ (Tr.vlF [(⟨p, (Tr.cut o.data).1⟩ : Tr.F)]).1 ≠ 0 then ([], 5) else ((Tr.cut o.data).1, 0) from rfl)
  generalize Tr.coF o p = q at *
  have h2 : M2 (w.alloc (.cells #[.int .i64 o.kind, .slice Al o.links.length kl, .slice Ad o.data.length kd] 54)) := by
    obtain ⟨m, hm⟩ := hm2
    exact ⟨m, (HB.out.cell (p := ⟨2, 0, none⟩) (World.block_lt_of_cell? w _ hm)).trans hm⟩
  have HS := Lib.hid (split_any _ h2 Ad kd o.data (ho.ds.keep (free_below HB.out)) hdl)
  have HM := Lib.hid (hm.below HB.out)
  clear ho hm hm2 h2
  obtain ⟨kk, ls, da⟩ := o
  simp only at *
  by_cases hk : kk = 1
  · subst hk
    have HQ2 := Lib.hid (HQ.out.trans (if_neg (by simp)))
    clear HQ
    go_enter Tryd.func34, Tryd.ntmps34
    go_wp2_with fail
    go_at_call 54
    with_reducible refine (HS.out).mono ?_
    rintro e w1 ⟨A1, c1, L, rfl, hc, sl, hb1, hL, hLl⟩
    have hbw := HB.out.trans (hb1.mono HB.out.size)
    have hm1 := HM.out.below hb1
    by_cases hz : (Tr.cut da).2 = []
    · have hzd : decide ((Tr.cut da).2 = []) = true := decide_eq_true hz
      have hLe := hL hz
      rw [hzd]
      have HQ3 := Lib.hid (show q = if (Tr.vlF [(⟨p, L⟩ : Tr.F)]).1 ≠ 0 then ([], 5) else (L, 0) from by
        rw [HQ2.out, hLe]
        by_cases h : (Tr.vlF [(⟨p, (Tr.cut da).1⟩ : Tr.F)]).1 ≠ 0
        · rw [if_pos h, if_pos (.inr h)]
        · rw [if_neg h, if_neg (fun h2 => h2.elim (fun h3 => h3 hz) h)])
      have hLm : L.length ≤ 140737488351232 := by omega
      have hb2 : Below w1.heap.size w1 ((w1.alloc (.cells #[strV p, .slice A1 L.length c1] 49)).alloc (.cells #[.slice (some ⟨w1.heap.size, 0, none⟩) 1 1] 27)) := below_alloc2 _ _ _
      have bb := (Blk.new w1 49 #[strV p, .slice A1 L.length c1]).alloc (.cells #[.slice (some ⟨w1.heap.size, 0, none⟩) 1 1] 27)
      have bc := (blk_new1 w1 (.cells #[strV p, .slice A1 L.length c1] 49) 27 #[.slice (some ⟨w1.heap.size, 0, none⟩) 1 1])
      have cc := (bc.cell 0).trans rfl
      have lc := bc.lt
      have slf : LnA ((w1.alloc (.cells #[strV p, .slice A1 L.length c1] 49)).alloc (.cells #[.slice (some ⟨w1.heap.size, 0, none⟩) 1 1] 27)) (Under w.heap.size) L A1 c1 := ⟨hc, hLm, (sl.mono (X' := Under w.heap.size) (fun b h => Nat.lt_of_lt_of_le h HB.out.size)).keep (Keeps.below hb2 fun _ _ h => h)⟩
      have hbw2 := hbw.trans (hb2.mono hbw.size)
      have HT := Lib.hid (show Calls Tryd.prog 24 #[.agg #[.slice (some ⟨w1.heap.size, 0, none⟩) 1 1]] ((w1.alloc (.cells #[strV p, .slice A1 L.length c1] 49)).alloc (.cells #[.slice (some ⟨w1.heap.size, 0, none⟩) 1 1] 27)) (FaultPost ((w1.alloc (.cells #[strV p, .slice A1 L.length c1] 49)).alloc (.cells #[.slice (some ⟨w1.heap.size, 0, none⟩) 1 1] 27)) (Tr.vlF [(⟨p, L⟩ : Tr.F)])) from
        tvalidate_any _ (hm1.below hb2) _ 1 [(⟨p, L⟩ : Tr.F)] (FlR.one bb (slf.mono (fun b h => False.elim h))) (by show 1 ≤ _; omega) (Nat.le_refl _))
      have HR5 := Lib.hid (show (Tr.vlF [(⟨p, L⟩ : Tr.F)]).1 ≠ 0 → ∀ W2, Below w.heap.size w W2 → CoPost2 w q (.returned (.tuple #[.slice none 0 0, .int .i64 5])) W2 from fun h W2 hb => by
        rw [HQ3.out, if_pos h]
        exact ⟨none, 0, rfl, ⟨Nat.le_refl _, Nat.zero_le _, SA.nil⟩, hb⟩)
      have HR0 := Lib.hid (show (Tr.vlF [(⟨p, L⟩ : Tr.F)]).1 = 0 → ∀ W2, Below w.heap.size w W2 → LnA W2 (Under w.heap.size) L A1 c1 → CoPost2 w q (.returned (.tuple #[.slice A1 L.length c1, .int .i64 0])) W2 from fun h W2 hb hs => by
        rw [HQ3.out, if_neg (fun h2 => h2 h)]
        exact ⟨A1, c1, rfl, hs, hb⟩)
      have HZ := Lib.hid (fun (h : (Tr.vlF [(⟨p, L⟩ : Tr.F)]).1 = 0) => (Tr.vlF_ok h).1)
      clear HQ2 HQ3 hz hzd hLe hL sl bb bc
      generalize CoPost2 w q = R at *
      generalize Tr.vlF [(⟨p, L⟩ : Tr.F)] = f at *
      go_wp2_with fail
      go_at_call 24
      with_reducible refine (HT.out).mono ?_
      rintro e w3 ⟨rfl, hb3⟩
      have hbw3 := hbw2.trans (hb3.mono hbw2.size)
      have slf3 := slf.keep (Keeps.below hb3 fun _ _ h => h)
      clear HT slf hb3 hb2
      by_cases hf : f.1 = 0
      · have H0 := Lib.hid (HR0.out hf w3 hbw3 slf3)
        rw [HZ.out hf]
        clear HR0 HR5 HZ slf3
        go_wp2_with fail
        exact H0.out
      · have H5 := Lib.hid (HR5.out hf w3 hbw3)
        have hx1 : (f.1 == 0) = false := by simpa using hf
        have hx2 : (f.1 != 0) = true := by simpa using hf
        clear HR0 HR5 HZ slf3 hf
        obtain ⟨cd, ix⟩ := f
        simp only at hx1 hx2
        go_wp2_with fail
        exact H5.out
    · have hzd : decide ((Tr.cut da).2 = []) = false := decide_eq_false hz
      have H5 := Lib.hid (HQ2.out.trans (if_pos (.inl hz)))
      rw [hzd]
      clear HQ2 hz hzd
      have HR := Lib.hid (show ∀ W2, Below w.heap.size w W2 → CoPost2 w q (.returned (.tuple #[.slice none 0 0, .int .i64 5])) W2 from fun W2 hb => by
        rw [H5.out]
        exact ⟨none, 0, rfl, ⟨Nat.le_refl _, Nat.zero_le _, SA.nil⟩, hb⟩)
      clear H5
      generalize CoPost2 w q = R at *
      go_wp2_with fail
      refine HR.out _ ?_
      exact hbw.trans ((below_alloc2 w1 _ _).mono hbw.size)
  · have hkk : (kk != 1) = true := by simpa using hk
    have HF : Hid (CoPost2 w q (.returned (.tuple #[.slice none 0 0, .int .i64 8])) (w.alloc (.cells #[.int .i64 kk, .slice Al ls.length kl, .slice Ad da.length kd] 54))) := Lib.hid (by
      rw [HQ.out, if_pos hk]
      exact ⟨none, 0, rfl, ⟨Nat.le_refl _, Nat.zero_le _, SA.nil⟩, HB.out⟩)
    clear hk HQ HS HM
    generalize CoPost2 w q = R at *
    go_enter Tryd.func34, Tryd.ntmps34
    go_wp2_with fail
    exact HF.out
end Go.Proofs.YtjljknocnebnaaaDoor
namespace Go.Proofs.YtjljknocnebnaaaDoor
open Go.RowKit Go.V Go.Shelf
set_option linter.unusedVariables false

/-- What 'Parse' tells: new paths, and the links as they came. -/
def PrPost (w : World) (Al : Option Addr) (kl : Nat) (q : (List (List UInt8) × List Int) × Int) (e : Ending) (w' : World) : Prop :=
  ∃ A c Bl m, e = .returned (.tuple #[.slice A q.1.1.length c, .slice Bl q.1.2.length m, .int .i64 q.2]) ∧ LnA w' (Under w.heap.size) q.1.1 A c ∧ Below w.heap.size w w' ∧ (q.2 = 0 → Bl = Al ∧ m = kl) ∧ q.1.2.length ≤ m
theorem rows_files (w : World) : ∀ L : List (List UInt8), RowsR (FlR w Free) (L.map fun p => (⟨p, []⟩ : Tr.F)) (L.flatMap fun p => [strV p, Value.slice none 0 0])
  | [] => rfl
  | p :: L => ⟨[strV p, .slice none 0 0], _, by simp, ⟨none, 0, rfl, ⟨Nat.le_refl _, Nat.zero_le _, SA.nil⟩⟩, rows_files w L⟩
theorem info49 : (Tryd.prog.info? 49).map (fun i => (i.zero, i.size, i.bytes)) = some (some (.agg #[.string .empty, .slice none 0 0]), 2, 40) := by kernel_rfl
set_option maxRecDepth 100000 in
set_option maxHeartbeats 4000000 in
theorem parse_any (w : World) (hm : Mx w) (hm2 : M2 w) (o : Ob.O) (Al : Option Addr) (kl : Nat) (Ad : Option Addr) (kd : Nat) (ho : ObA w Free o Al kl Ad kd) (hdl : o.data.length ≤ 1000000000) :
    Calls Tryd.prog 51 #[obV o Al kl Ad kd] w (PrPost w Al kl (Tr.prF o)) := by
  have HB := Lib.hid (below_alloc1 w (.cells #[.int .i64 o.kind, .slice Al o.links.length kl, .slice Ad o.data.length kd] 54))
  have q1 := Blk.new w 54 #[.int .i64 o.kind, .slice Al o.links.length kl, .slice Ad o.data.length kd]
  have p0 := (q1.cell 0).trans rfl
  have p1 := (q1.cell 1).trans rfl
  have p2 := (q1.cell 2).trans rfl
  have l1 := q1.lt
  have HQ := Lib.hid (Tr.prF.eq_1 o)
  generalize Tr.prF o = q at *
  have h2 : M2 (w.alloc (.cells #[.int .i64 o.kind, .slice Al o.links.length kl, .slice Ad o.data.length kd] 54)) := by
    obtain ⟨m, hm⟩ := hm2
    exact ⟨m, (HB.out.cell (p := ⟨2, 0, none⟩) (World.block_lt_of_cell? w _ hm)).trans hm⟩
  have HS := Lib.hid (split_any _ h2 Ad kd o.data (ho.ds.keep (free_below HB.out)) hdl)
  have HM := Lib.hid (hm.below HB.out)
  have hlk := ho.lk
  have hll := ho.ll
  clear ho hm hm2 h2
  obtain ⟨kk, ls, da⟩ := o
  simp only at *
  by_cases hk : kk = 2
  · subst hk
    have HQ2 := Lib.hid (HQ.out.trans (if_neg (by simp)))
    have HR := Lib.hid (show q = (([], []), 5) → ∀ W2, Below w.heap.size w W2 → PrPost w Al kl q (.returned (.tuple #[.slice none 0 0, .slice none 0 0, .int .i64 5])) W2 from fun h W2 hb => by
      rw [h]
      exact ⟨none, 0, none, 0, rfl, ⟨Nat.le_refl _, Nat.zero_le _, SA.nil⟩, hb, fun h => by simp at h, Nat.le_refl _⟩)
    clear HQ
    go_enter Tryd.func51, Tryd.ntmps51
    go_wp2_with fail
    go_at_call 54
    with_reducible refine (HS.out).mono ?_
    rintro e w1 ⟨A1, c1, L, rfl, hc, sl, hb1, hL, hLl⟩
    have hbw := HB.out.trans (hb1.mono HB.out.size)
    have r1 := q1.below hb1 l1
    have p10 := (r1.cell 1).trans rfl
    have l2 := r1.lt
    have hm1 := HM.out.below hb1
    by_cases hz : (Tr.cut da).2 = []
    · have hzd : decide ((Tr.cut da).2 = []) = true := decide_eq_true hz
      rw [hzd]
      have hLe := hL hz
      by_cases hn : L.length = ls.length
      · have hn' : ((L.length : Int) != ls.length) = false := by simp [hn]
        have HL := Lib.hid hn
        have HLe := Lib.hid hLe
        have HD := Lib.hid hL
        clear hn hLe hL
        go_wp2_with fail
        have bt := Blk.new w1 27 #[.slice none 0 0]
        go_loopw [9, 31] (fun pv iv wr => ∃ (i : Nat) (B : Option Addr) (c : Nat), i ≤ L.length ∧ iv = .int .i64 i ∧ Blk wr w1.heap.size 27 #[.slice B i c] ∧ wr.ownsRow w1.heap.size 49 2 (.slice B i c) i ((L.take i).flatMap fun p => [strV p, .slice none 0 0]) ∧ Below w1.heap.size w1 wr) (fun _ iv _ => L.length - (intOf iv).toNat)
        case atStart => exact ⟨0, none, 0, Nat.zero_le _, rfl, bt, World.ownsRow_nil _ _ _ _, below_alloc1 _ _⟩
        case round =>
          obtain ⟨i, B, c, hi, rfl, bx, hown, hbx⟩ := hrel
          by_cases hlt : i < L.length
          · have hlt' : (i : Int) < L.length := by omega
            obtain ⟨b, off, e0, hb, _, d0⟩ := ssV_row (sl.keep (Keeps.below hbx fun _ _ h => h)) i hlt
            subst e0
            have HT := Lib.hid (List.take_succ_eq_append_getElem hlt)
            generalize L[i] = x at *
            obtain ⟨i0, hi0, hz0, hz1, hz2⟩ := info_parts info49
            have f0 := bx.frozen 0
            have c0 := (bx.cell 0).trans rfl
            have lb := bx.lt
            have hsv : SV (wr.alloc (.cells #[strV x, .slice none 0 0] 49)) (wr.heap.size + 1) (some ⟨wr.heap.size, 0, none⟩) [strV x, .slice none 0 0] := by simpa using SV.lit wr #[strV x, .slice none 0 0] 49
            have hown2 := hown.alloc (.cells #[strV x, .slice none 0 0] 49)
            go_wp2_with (first | (at_builtin; refine wpList_appN _ rfl (.tmp 36) (.tmp 39) 25 rfl w1.heap.size 49 i0 _ 2 40 Tryd.underlying25 hi0 hz0 hz1 hz2 rfl (by decide) B i c ((L.take i).flatMap fun p => [strV p, .slice none 0 0]) rfl hown2 _ (some ⟨wr.heap.size, 0, none⟩) 1 1 [strV x, .slice none 0 0] rfl rfl hsv (by intro u hu; simp at hu; rcases hu with rfl | rfl <;> rfl) ?hd ?he ?hf ?_))
            case hd => unfold maxLen; omega
            case he => omega
            case hf => simp; have := hbx.size; omega
            intro A5 c5 w5 own5 hg5 hc5
            have hb5 := (hbx.alloc hbx.size (.cells #[strV x, .slice none 0 0] 49)).grown hg5 (by simp; have := hbx.size; omega) (fun b e => (hown2.lt b e).1)
            have bx5 := (bx.alloc (.cells #[strV x, .slice none 0 0] 49)).grown hg5 (own_blk_ne hown2 (bx.alloc _) (by decide))
            have f5 := bx5.frozen 0
            have cc5 := (bx5.cell 0).trans rfl
            have bx6 := bx5.set_ 0 (.slice A5 (i + 1) c5)
            have own6 := own_setCell own5 (p := ⟨w1.heap.size, 0, none⟩) (own_blk_ne own5 bx5 (by decide)) (.slice A5 (i + 1) c5)
            have hb6 := hb5.setCell (p := ⟨w1.heap.size, 0, none⟩) (Nat.le_refl _) (.slice A5 (i + 1) c5)
            have eL : (L.take (i + 1)).flatMap (fun p => [strV p, Value.slice none 0 0]) = (L.take i).flatMap (fun p => [strV p, Value.slice none 0 0]) ++ [strV x, .slice none 0 0] := by rw [HT.out, List.flatMap_append]; simp
            clear own5 hown2 hown hg5 hsv hb5 bx5 bx d0
            go_wp2_with fail
            go_roundw
            case rel => exact ⟨i + 1, A5, c5, by omega, by go_num, bx6, by rw [eL]; exact own6, hb6⟩
            case measure => simp [intOf]; omega
          · obtain rfl : i = L.length := by omega
            rw [List.take_length] at hown
            obtain ⟨A', c', e, h8, hm⟩ := own_form hown
            injection e with e1 _ e2
            subst e1
            subst e2
            have hbw2 := hbw.trans (hbx.mono hbw.size)
            have hv : VfV wr Free B (L.map fun p => (⟨p, []⟩ : Tr.F)) := ⟨_, SA.of_own hown (fun b h => False.elim h), rows_files wr L⟩
            have HT := tvalidate_any wr (hm1.below hbx) B c (L.map fun p => (⟨p, []⟩ : Tr.F)) hv (by rw [List.length_map]; omega) (by rw [List.length_map]; exact h8)
            rw [List.length_map] at HT
            have HT := Lib.hid HT
            have c0 := (bx.cell 0).trans rfl
            have pw := (hbx.cell (p := ⟨w.heap.size, 1, none⟩) l2).trans p10
            have lw := Nat.lt_of_lt_of_le l2 hbx.size
            have slw := (sl.mono (X' := Under w.heap.size) (fun b h => Nat.lt_of_lt_of_le h HB.out.size)).keep (Keeps.below hbx fun _ _ h => h)
            have HQ3 := Lib.hid (show q = if (Tr.vlF (L.map fun p => (⟨p, []⟩ : Tr.F))).1 ≠ 0 then (([], []), 5) else ((L, ls), 0) from by
              rw [HQ2.out, ← HLe.out]
              by_cases h : (Tr.vlF (L.map fun p => (⟨p, []⟩ : Tr.F))).1 ≠ 0
              · rw [if_pos h, if_pos (.inr (.inr h))]
              · rw [if_neg h, if_neg (fun h2 => h2.elim (fun h3 => h3 hz) (fun h3 => h3.elim (fun h4 => h4 HL.out) h))])
            have HR5 := Lib.hid (fun (h : (Tr.vlF (L.map fun p => (⟨p, []⟩ : Tr.F))).1 ≠ 0) => HR.out (HQ3.out.trans (if_pos h)))
            have HR0 := Lib.hid (show (Tr.vlF (L.map fun p => (⟨p, []⟩ : Tr.F))).1 = 0 → ∀ W2, Below w.heap.size w W2 → LnA W2 (Under w.heap.size) L A1 c1 → PrPost w Al kl q (.returned (.tuple #[.slice A1 L.length c1, .slice Al ls.length kl, .int .i64 0])) W2 from fun h W2 hb hs => by
              rw [HQ3.out, if_neg (fun h2 => h2 h)]
              exact ⟨A1, c1, Al, kl, rfl, hs, hb, fun _ => ⟨rfl, rfl⟩, hlk⟩)
            have HZ := Lib.hid (fun (h : (Tr.vlF (L.map fun p => (⟨p, []⟩ : Tr.F))).1 = 0) => (Tr.vlF_ok h).1)
            have sln : LnA wr (Under w.heap.size) L A1 c1 := ⟨hc, by omega, slw⟩
            clear HQ2 HQ3 HR hz hzd sl slw hv hown hm1 HLe HL HD bt
            generalize PrPost w Al kl q = R at *
            generalize Tr.vlF (L.map fun p => (⟨p, []⟩ : Tr.F)) = f at *
            go_wp2_with fail
            go_at_call 24
            with_reducible refine (HT.out).mono ?_
            rintro e w3 ⟨rfl, hb3⟩
            have hbw3 := hbw2.trans (hb3.mono hbw2.size)
            have sl3 := sln.keep (Keeps.below hb3 fun _ _ h => h)
            have pw3 := (hb3.cell (p := ⟨w.heap.size, 1, none⟩) lw).trans pw
            clear HT sln hb3 pw c0
            by_cases hf : f.1 = 0
            · have H0 := Lib.hid (HR0.out hf)
              rw [HZ.out hf]
              clear HR0 HR5 HZ
              go_wp2_with fail
              go_quiet (fail)
              go_wp2_with fail
              go_ret3
              have h9 := H0.out _ (below_drewN' hbw3 nq) (sl3.keep (Keeps.drewN w3 _ nq))
              first | exact h9 | simpa using h9
            · have H5 := Lib.hid (HR5.out hf)
              have hx1 : (f.1 == 0) = false := by simpa using hf
              have hx2 : (f.1 != 0) = true := by simpa using hf
              clear HR0 HR5 HZ sl3 hf
              obtain ⟨cd, ix⟩ := f
              simp only at hx1 hx2
              go_wp2_with fail
              go_ret3
              have h9 := H5.out _ hbw3
              first | exact h9 | simpa using h9
      · have hn' : ((L.length : Int) != ls.length) = true := by simp; omega
        have H5 := Lib.hid (HR.out (HQ2.out.trans (if_pos (.inr (.inl (by rw [← hLe]; exact hn))))))
        clear HQ2 HR hL sl hLl hn hLe
        generalize PrPost w Al kl q = R at *
        go_wp2_with fail
        go_ret3
        first | exact H5.out _ hbw | (have h9 := H5.out _ hbw; simpa using h9)
    · have hzd : decide ((Tr.cut da).2 = []) = false := decide_eq_false hz
      have H5 := Lib.hid (HR.out (HQ2.out.trans (if_pos (.inl hz))))
      rw [hzd]
      clear HQ2 HR hz hzd hL sl hLl
      generalize PrPost w Al kl q = R at *
      go_wp2_with fail
      go_ret3
      first | exact H5.out _ hbw | (have h9 := H5.out _ hbw; simpa using h9)
  · have hkk : (kk != 2) = true := by simpa using hk
    have HF : Hid (PrPost w Al kl q (.returned (.tuple #[.slice none 0 0, .slice none 0 0, .int .i64 8])) (w.alloc (.cells #[.int .i64 kk, .slice Al ls.length kl, .slice Ad da.length kd] 54))) := Lib.hid (by
      rw [HQ.out, if_pos hk]
      exact ⟨none, 0, none, 0, rfl, ⟨Nat.le_refl _, Nat.zero_le _, SA.nil⟩, HB.out, fun h => by simp at h, Nat.le_refl _⟩)
    clear hk HQ HS HM
    generalize PrPost w Al kl q = R at *
    go_enter Tryd.func51, Tryd.ntmps51
    go_wp2_with fail
    go_ret3
    first | exact HF.out | (have h9 := HF.out; simpa using h9)
end Go.Proofs.YtjljknocnebnaaaDoor
namespace Go.Proofs.YtjljknocnebnaaaDoor
open Go.RowKit Go.V Go.Shelf
set_option linter.unusedVariables false

theorem M2.below {w w' : World} (h : M2 w) (hb : Below w.heap.size w w') : M2 w' := by
  obtain ⟨m, hm⟩ := h
  exact ⟨m, (hb.cell (p := ⟨2, 0, none⟩) (World.block_lt_of_cell? w _ hm)).trans hm⟩
theorem own_ne {w : World} {b1 b2 : Nat} {e1 e2 : TypeId} {s1 s2 n1 n2 : Nat} {v1 v2 : Value} {x1 x2 : List Value} (h1 : w.ownsRow b1 e1 s1 v1 n1 x1) (h2 : w.ownsRow b2 e2 s2 v2 n2 x2) (he : e1 ≠ e2) :
    ∀ g, v1.ownBlock = some g → v2.ownBlock ≠ some g := by
  intro g hg hg2
  rcases h1.2 with ⟨rfl, _⟩ | ⟨g1, c1, cur1, rfl, _, hh1, _⟩
  · cases hg
  · rcases h2.2 with ⟨rfl, _⟩ | ⟨g2, c2, cur2, rfl, _, hh2, _⟩
    · cases hg2
    · have e1' : g1 = g := by simpa [Value.ownBlock] using hg
      have e2' : g2 = g := by simpa [Value.ownBlock] using hg2
      subst e1'
      subst e2'
      exact Blk.ne_ (t := e1) hh1 hh2 he rfl
theorem own_kept_ne {w w' : World} {b1 b2 : Nat} {e1 e2 : TypeId} {s1 s2 n1 n2 : Nat} {v1 v2 : Value} {x1 x2 : List Value} (h1 : w.ownsRow b1 e1 s1 v1 n1 x1) (h2 : w.ownsRow b2 e2 s2 v2 n2 x2) (he : e1 ≠ e2) (hg : w.grownBy w' v1.ownBlock) :
    w'.ownsRow b2 e2 s2 v2 n2 x2 := by
  refine h2.kept hg ?_
  rcases hu : v2.ownBlock with _ | g2
  · exact .inl rfl
  · rcases hv : v1.ownBlock with _ | g
    · exact .inr (by simp)
    · exact .inr fun e => own_ne h1 h2 he g hv (hu.trans e)
/-- The blocks of an object that is being made. -/
abbrev Rx (g : Nat) (Al : Option Addr) (nl cl : Nat) (Ad : Option Addr) (nd cd : Nat) : Nat → Prop := Or2 (fun b => b = g) (.slice Al nl cl) (.slice Ad nd cd)
structure RtSt (w wr : World) (g : Nat) (ls : List Int) (da : List UInt8) (Al : Option Addr) (cl : Nat) (Ad : Option Addr) (cd : Nat) : Prop where
  sb : Blk wr g 54 #[.int .i64 2, .slice Al ls.length cl, .slice Ad da.length cd]
  ol : wr.ownsRow (g + 1) 3 1 (.slice Al ls.length cl) ls.length (intsV ls)
  od : wr.ownsRow (g + 1) 5 1 (.slice Ad da.length cd) da.length (bytesV da)
  hg : w.heap.size ≤ g
  bel : Below w.heap.size w wr
section
variable {w wr w' : World} {g : Nat} {ls : List Int} {da : List UInt8} {Al : Option Addr} {cl : Nat} {Ad : Option Addr} {cd : Nat}
theorem RtSt.below (h : RtSt w wr g ls da Al cl Ad cd) (hb : Below wr.heap.size wr w') : RtSt w w' g ls da Al cl Ad cd :=
  ⟨h.sb.below hb h.sb.lt, h.ol.kept (only_of_below hb none) (by cases hv : (Value.slice Al ls.length cl).ownBlock <;> simp), h.od.kept (only_of_below hb none) (by cases hv : (Value.slice Ad da.length cd).ownBlock <;> simp), h.hg, h.bel.trans (hb.mono h.bel.size)⟩
/-- The blocks of the object lie in the world at hand. -/
theorem RtSt.under (h : RtSt w wr g ls da Al cl Ad cd) : ∀ b, Rx g Al ls.length cl Ad da.length cd b → b < wr.heap.size := by
  rintro b (rfl | hb | hb)
  · exact h.sb.lt
  · exact (h.ol.lt b hb).2
  · exact (h.od.lt b hb).2
theorem RtSt.over (h : RtSt w wr g ls da Al cl Ad cd) : ∀ b, Rx g Al ls.length cl Ad da.length cd b → w.heap.size ≤ b := by
  have := h.hg
  rintro b (rfl | hb | hb)
  · exact h.hg
  · have := (h.ol.lt b hb).1; omega
  · have := (h.od.lt b hb).1; omega
/-- A link has been appended. -/
theorem RtSt.appL (h : RtSt w wr g ls da Al cl Ad cd) {w4 : World} {A4 : Option Addr} {c4 : Nat} {d : Int}
    (hg : wr.grownBy w4 (Value.slice Al ls.length cl).ownBlock) (hown : w4.ownsRow (g + 1) 3 1 (.slice A4 (ls.length + 1) c4) (ls.length + 1) (intsV ls ++ [.int .i64 d])) :
    RtSt w (w4.setCell ⟨g, 1, none⟩ (.slice A4 (ls.length + 1) c4)) g (ls ++ [d]) da A4 c4 Ad cd := by
  have hl : (ls ++ [d]).length = ls.length + 1 := by simp
  have hlo : ∀ b, (Value.slice Al ls.length cl).ownBlock = some b → g + 1 ≤ b := fun b hb => (h.ol.lt b hb).1
  have sb4 := h.sb.grown hg (fun e => by have := hlo _ e.symm; omega)
  have od4 := own_kept_ne h.ol h.od (by decide) hg
  refine ⟨by rw [hl]; simpa using sb4.set_ 1 (.slice A4 (ls.length + 1) c4), ?_, ?_, h.hg, ?_⟩
  · rw [hl, intsV_append]; exact own_setCell hown (fun e => by have := (hown.lt _ e.symm).1; simp only at this; omega) _
  · exact own_setCell od4 (fun e => by have := (od4.lt _ e.symm).1; simp only at this; omega) _
  · exact (h.bel.grown hg h.bel.size (fun b hb => by have := hlo b hb; have := h.hg; omega)).setCell h.hg _
theorem RtSt.keepL (h : RtSt w wr g ls da Al cl Ad cd) {w4 : World} {A4 : Option Addr} {n4 c4 : Nat} {u : Value}
    (hg : wr.grownBy w4 (Value.slice Al ls.length cl).ownBlock) (hb : (Value.slice A4 n4 c4).ownBlock = (Value.slice Al ls.length cl).ownBlock ∨ (Value.slice A4 n4 c4).ownBlock = some wr.heap.size) :
    Keeps wr (Rx g Al ls.length cl Ad da.length cd) (w4.setCell ⟨g, 1, none⟩ u) (Rx g A4 n4 c4 Ad da.length cd) :=
  (Keeps.or2a hg rfl hb).trans (Keeps.setCell w4 _ ⟨g, 1, none⟩ u (.inl rfl))
/-- Bytes have been appended. -/
theorem RtSt.appD (h : RtSt w wr g ls da Al cl Ad cd) {w4 : World} {A4 : Option Addr} {c4 : Nat} {x : List UInt8}
    (hg : wr.grownBy w4 (Value.slice Ad da.length cd).ownBlock) (hown : w4.ownsRow (g + 1) 5 1 (.slice A4 (da.length + x.length) c4) (da.length + x.length) (bytesV da ++ bytesV x)) :
    RtSt w (w4.setCell ⟨g, 2, none⟩ (.slice A4 (da.length + x.length) c4)) g ls (da ++ x) Al cl A4 c4 := by
  have hl : (da ++ x).length = da.length + x.length := by simp
  have hlo : ∀ b, (Value.slice Ad da.length cd).ownBlock = some b → g + 1 ≤ b := fun b hb => (h.od.lt b hb).1
  have sb4 := h.sb.grown hg (fun e => by have := hlo _ e.symm; omega)
  have ol4 := own_kept_ne h.od h.ol (by decide) hg
  refine ⟨by rw [hl]; simpa using sb4.set_ 2 (.slice A4 (da.length + x.length) c4), ?_, ?_, h.hg, ?_⟩
  · exact own_setCell ol4 (fun e => by have := (ol4.lt _ e.symm).1; simp only at this; omega) _
  · rw [hl, bytesV_append]; exact own_setCell hown (fun e => by have := (hown.lt _ e.symm).1; simp only at this; omega) _
  · exact (h.bel.grown hg h.bel.size (fun b hb => by have := hlo b hb; have := h.hg; omega)).setCell h.hg _
theorem RtSt.keepD (h : RtSt w wr g ls da Al cl Ad cd) {w4 : World} {A4 : Option Addr} {n4 c4 : Nat} {u : Value}
    (hg : wr.grownBy w4 (Value.slice Ad da.length cd).ownBlock) (hb : (Value.slice A4 n4 c4).ownBlock = (Value.slice Ad da.length cd).ownBlock ∨ (Value.slice A4 n4 c4).ownBlock = some wr.heap.size) :
    Keeps wr (Rx g Al ls.length cl Ad da.length cd) (w4.setCell ⟨g, 2, none⟩ u) (Rx g Al ls.length cl A4 n4 c4) :=
  (Keeps.or2b hg rfl hb).trans (Keeps.setCell w4 _ ⟨g, 2, none⟩ u (.inl rfl))
/-- What has been made reads as an object. -/
theorem RtSt.ob (h : RtSt w wr g ls da Al cl Ad cd) (hI : ∀ (i : Nat) (h : i < ls.length), I64 ls[i]) (h1 : ls.length ≤ 140737488351232) (h2 : da.length ≤ 140737488351232) {X : Nat → Prop} (hX : ∀ b, X b → b < w.heap.size) : ObA wr X ⟨2, ls, da⟩ Al cl Ad cd := by
  obtain ⟨_, _, e1, k1, _⟩ := own_form h.ol
  obtain ⟨_, _, e2, k2, _⟩ := own_form h.od
  injection e1 with _ _ e1
  injection e2 with _ _ e2
  subst e1
  subst e2
  have := h.hg
  exact ⟨by show I64 2; unfold I64; omega, hI, k1, k2, h1, h2, SA.of_own h.ol (fun b hb => by have := hX b hb; omega), SA.of_own h.od (fun b hb => by have := hX b hb; omega)⟩
theorem RtSt.start (w wr : World) (hb : Below w.heap.size w wr) (g : Nat) (hg : w.heap.size ≤ g) (hs : Blk wr g 54 #[.int .i64 2, .slice none 0 0, .slice none 0 0]) : RtSt w wr g [] [] none 0 none 0 :=
  ⟨hs, World.ownsRow_nil _ _ _ _, World.ownsRow_nil _ _ _ _, hg, hb⟩
end
end Go.Proofs.YtjljknocnebnaaaDoor
namespace Ob
/-- The place of a digest, or -1. -/
def atFrom (s : List S) (d : Int) (i : Nat) : Int := if i < s.length then if (it s i).dig = d then (i : Int) else atFrom s d (i + 1) else -1
termination_by s.length - i
theorem atFrom_end (s : List S) (d : Int) (i : Nat) (h : s.length ≤ i) : atFrom s d i = -1 := by rw [atFrom, if_neg (by omega)]
theorem atFrom_hit (s : List S) (d : Int) (i : Nat) (h : i < s.length) (hc : (it s i).dig = d) : atFrom s d i = (i : Int) := by rw [atFrom, if_pos h, if_pos hc]
theorem atFrom_next (s : List S) (d : Int) (i : Nat) (h : i < s.length) (hc : (it s i).dig ≠ d) : atFrom s d i = atFrom s d (i + 1) := by rw [atFrom, if_pos h, if_neg hc]
theorem atFrom_no (s : List S) (d : Int) (h : ∀ k, k < s.length → (it s k).dig ≠ d) : ∀ n i, s.length - i ≤ n → atFrom s d i = -1
  | n, i, hn => by
    by_cases hi : i < s.length
    · obtain _ | n := n
      · omega
      · rw [atFrom_next s d i hi (h i hi)]; exact atFrom_no s d h n (i + 1) (by omega)
    · exact atFrom_end s d i (by omega)
theorem atFrom_yes (s : List S) (d : Int) (p : Nat) (hp : p < s.length) (hd : (it s p).dig = d) (h : ∀ k, k < p → (it s k).dig ≠ d) : ∀ n i, p - i ≤ n → i ≤ p → atFrom s d i = (p : Int)
  | n, i, hn, hi => by
    by_cases hip : i = p
    · subst hip; exact atFrom_hit s d i hp hd
    · obtain _ | n := n
      · omega
      · rw [atFrom_next s d i (by omega) (h i (by omega))]; exact atFrom_yes s d p hp hd h n (i + 1) (by omega) (by omega)
/-- In a store whose digests grow. -/
theorem at_sorted {s : List S} (h : Sorted s) (d : Int) : atFrom s d 0 = if fnd s d then ((lb s d : Nat) : Int) else -1 := by
  by_cases hf : fnd s d = true
  · rw [if_pos hf]
    have h1 : lb s d < s.length ∧ (it s (lb s d)).dig = d := by unfold fnd at hf; rw [Bool.and_eq_true] at hf; simpa using hf
    exact atFrom_yes s d _ h1.1 h1.2 (fun k hk => by have := lb_lt h d k hk; omega) _ 0 (Nat.le_refl _) (Nat.zero_le _)
  · rw [if_neg hf]
    refine atFrom_no s d (fun k hk => ?_) _ 0 (Nat.le_refl _)
    intro e
    have hlb : lb s d = k := by
      apply lb_eq s d k (by omega)
      · intro j hj; have := h.mono hj hk; omega
      · intro j hj hjl; have := h.le hj hjl; omega
    apply hf
    unfold fnd
    rw [hlb, decide_eq_true hk, decide_eq_true e]; rfl
end Ob
namespace Go.Proofs.YtjljknocnebnaaaDoor
open Go.RowKit Go.V
set_option linter.unusedVariables false

set_option maxRecDepth 100000 in
set_option maxHeartbeats 4000000 in
theorem at_any (w : World) (A : Option Addr) (k : Nat) (s : List Ob.S) (d : Int) (hv : StV w Free A s) (hl : s.length ≤ 1000000) :
    Calls Tryd.prog 35 #[stV A s.length k, .int .i64 d] w fun e w' => e = .returned (.int .i64 (Ob.atFrom s d 0)) ∧ Below w.heap.size w w' := by
  have HROW := Lib.hid (fun i hi => (hv.keep (Keeps.alloc w Free (.cells #[.slice A s.length k] 24))).row i hi)
  clear hv
  go_enter Tryd.func35, Tryd.ntmps35
  go_wp2_with fail
  go_loop [5] (fun v => ∃ i : Nat, i ≤ s.length ∧ v = .int .i64 i ∧ Hid (Ob.atFrom s d 0 = Ob.atFrom s d i)) (fun v => s.length - (intOf v).toNat)
  case atStart => exact ⟨0, Nat.zero_le _, rfl, Lib.hid rfl⟩
  case round =>
    obtain ⟨i, hi, rfl, H⟩ := hrel
    by_cases hlt : i < s.length
    · have hlt' : (i : Int) < s.length := by omega
      obtain ⟨b, off, Al, kl, Ad, kd, e, hb, _, d0, d1, d2, d3, hx, hob⟩ := HROW.out i hlt
      subst e
      clear d1 d2 d3 hx hob
      by_cases he : (Ob.it s i).dig = d
      · have HR := Lib.hid (H.out.trans (Ob.atFrom_hit s d i hlt he))
        have he' : ((Ob.it s i).dig == d) = true := by simpa using he
        clear he
        generalize Ob.it s i = x at *
        go_wp2_with fail
        go_ret
        exact ⟨by rw [HR.out]; rfl, below_alloc1 _ _⟩
      · have HR := Lib.hid (H.out.trans (Ob.atFrom_next s d i hlt he))
        have he' : ((Ob.it s i).dig == d) = false := by simpa using he
        clear he
        generalize Ob.it s i = x at *
        go_wp2_with fail
        go_round
        case rel => exact ⟨i + 1, by omega, by go_num, HR⟩
        case measure => simp [intOf]; omega
    · obtain rfl : i = s.length := by omega
      have HR := Lib.hid (H.out.trans (Ob.atFrom_end s d _ (Nat.le_refl _)))
      go_wp2_with fail
      go_ret
      exact ⟨by rw [HR.out]; rfl, below_alloc1 _ _⟩
/-- The state of the loop of 'Stores'. -/
structure SsSt (w wr : World) (A1 A2 : Option Addr) (n k1 k2 : Nat) : Prop where
  b1 : Blk wr w.heap.size 24 #[.slice A1 n k1]
  b2 : Blk wr (w.heap.size + 1) 24 #[.slice A2 n k2]
  bel : Below w.heap.size w wr
theorem SsSt.below {w wr w' : World} {A1 A2 : Option Addr} {n k1 k2 : Nat} (h : SsSt w wr A1 A2 n k1 k2) (hb : Below wr.heap.size wr w') : SsSt w w' A1 A2 n k1 k2 :=
  ⟨h.b1.below hb h.b1.lt, h.b2.below hb h.b2.lt, h.bel.trans (hb.mono h.bel.size)⟩
set_option maxRecDepth 100000 in
set_option maxHeartbeats 8000000 in
/-- 'Stores' of two readings of one list. -/
theorem stores_any (w : World) (A1 A2 : Option Addr) (k1 k2 : Nat) (s : List Ob.S) (h1 : StV w Free A1 s) (h2 : StV w Free A2 s) (hl : s.length ≤ 9223372036854775807) :
    Calls Tryd.prog 11 #[stV A1 s.length k1, stV A2 s.length k2] w fun e w' => e = .returned (.bool true) ∧ Below w.heap.size w w' := by
  have HR1 := Lib.hid (fun (w' : World) (hb : Below w.heap.size w w') i hi => (h1.keep (free_below hb)).row (w := w') i hi)
  have HR2 := Lib.hid (fun (w' : World) (hb : Below w.heap.size w w') i hi => (h2.keep (free_below hb)).row (w := w') i hi)
  clear h1 h2
  have st0 : SsSt w ((w.alloc (.cells #[.slice A1 s.length k1] 24)).alloc (.cells #[.slice A2 s.length k2] 24)) A1 A2 s.length k1 k2 := ⟨(Blk.new _ _ _).alloc _, blk_new1 _ _ _ _, below_alloc2 _ _ _⟩
  go_enter Tryd.func11, Tryd.ntmps11
  go_wp2_with fail
  go_loopw [5] (fun v wr => ∃ i : Nat, i ≤ s.length ∧ v = .int .i64 i ∧ SsSt w wr A1 A2 s.length k1 k2) (fun v _ => s.length - (intOf v).toNat)
  case atStart => exact ⟨0, Nat.zero_le _, rfl, st0⟩
  case round =>
    obtain ⟨i, hi, rfl, st⟩ := hrel
    obtain ⟨wo, rfl⟩ : ∃ wo : World, wo = wr := ⟨_, rfl⟩
    clear st0
    have hsz := st.bel.size
    have p1 := st.b1.cell 0
    have p2 := st.b2.cell 0
    have l1 := st.b1.lt
    have l2 := st.b2.lt
    simp only [List.getElem?_toArray, List.getElem?_cons_zero] at p1 p2
    by_cases hlt : i < s.length
    · have hlt' : (i : Int) < s.length := by omega
      have hi0 : (0 : Int) ≤ i := by omega
      obtain ⟨b, off, Al, kl, Ad, kd, e, hb, _, d0, d1, d2, d3, hx, hob⟩ := HR1.out _ st.bel i hlt
      subst e
      obtain ⟨b', off', Al', kl', Ad', kd', e, hb', _, d0', d1', d2', d3', hx', hob'⟩ := HR2.out _ st.bel i hlt
      subst e
      have hk0 : Below wo.heap.size wo wo.drew := below_drew' (Below.refl _ _)
      have HOB := Lib.hid (objects_any wo.drew (Ob.it s i).ob (Ob.it s i).ob Al kl Ad kd Al' kl' Ad' kd' (hob.keep (free_below hk0)) (hob'.keep (free_below hk0)))
      rw [(eqO_iff _ _).2 rfl] at HOB
      clear hob hob' hx hx'
      generalize Ob.it s i = x at *
      obtain ⟨xd, kk, ls, da⟩ := x
      simp only at *
      have hne : (xd != xd) = false := by simp
      have HK : Hid (∀ w6 : World, Below wo.heap.size wo w6 → w6.cell? ⟨w.heap.size, 0, none⟩ = some (.slice (some ⟨b, off, none⟩) s.length k1) ∧ w6.cell? ⟨w.heap.size + 1, 0, none⟩ = some (.slice (some ⟨b', off', none⟩) s.length k2) ∧
          w6.cell? ⟨b, off + i * 4, none⟩ = some (.int .i64 xd) ∧ w6.cell? ⟨b, off + i * 4 + 1, none⟩ = some (.int .i64 kk) ∧ w6.cell? ⟨b, off + i * 4 + 1 + 1, none⟩ = some (.slice Al ls.length kl) ∧ w6.cell? ⟨b, off + i * 4 + 1 + 2, none⟩ = some (.slice Ad da.length kd) ∧
          w6.cell? ⟨b', off' + i * 4, none⟩ = some (.int .i64 xd) ∧ w6.cell? ⟨b', off' + i * 4 + 1, none⟩ = some (.int .i64 kk) ∧ w6.cell? ⟨b', off' + i * 4 + 1 + 1, none⟩ = some (.slice Al' ls.length kl') ∧ w6.cell? ⟨b', off' + i * 4 + 1 + 2, none⟩ = some (.slice Ad' da.length kd')) := Lib.hid fun w6 h6 =>
        ⟨(h6.cell (p := ⟨_, _, none⟩) l1).trans p1, (h6.cell (p := ⟨_, _, none⟩) l2).trans p2, (h6.cell (p := ⟨_, _, none⟩) hb).trans d0, (h6.cell (p := ⟨_, _, none⟩) hb).trans d1, (h6.cell (p := ⟨_, _, none⟩) hb).trans d2, (h6.cell (p := ⟨_, _, none⟩) hb).trans d3,
          (h6.cell (p := ⟨_, _, none⟩) hb').trans d0', (h6.cell (p := ⟨_, _, none⟩) hb').trans d1', (h6.cell (p := ⟨_, _, none⟩) hb').trans d2', (h6.cell (p := ⟨_, _, none⟩) hb').trans d3'⟩
      clear d0 d1 d2 d3 d0' d1' d2' d3'
      go_wp2_with fail
      go_region_held3 (fun w6 => w6.cell? ⟨w.heap.size, 0, none⟩ = some (.slice (some ⟨b, off, none⟩) s.length k1) ∧ w6.cell? ⟨w.heap.size + 1, 0, none⟩ = some (.slice (some ⟨b', off', none⟩) s.length k2) ∧
          w6.cell? ⟨b, off + i * 4, none⟩ = some (.int .i64 xd) ∧ w6.cell? ⟨b, off + i * 4 + 1, none⟩ = some (.int .i64 kk) ∧ w6.cell? ⟨b, off + i * 4 + 1 + 1, none⟩ = some (.slice Al ls.length kl) ∧ w6.cell? ⟨b, off + i * 4 + 1 + 2, none⟩ = some (.slice Ad da.length kd) ∧
          w6.cell? ⟨b', off' + i * 4, none⟩ = some (.int .i64 xd) ∧ w6.cell? ⟨b', off' + i * 4 + 1, none⟩ = some (.int .i64 kk) ∧ w6.cell? ⟨b', off' + i * 4 + 1 + 1, none⟩ = some (.slice Al' ls.length kl') ∧ w6.cell? ⟨b', off' + i * 4 + 1 + 2, none⟩ = some (.slice Ad' da.length kd'))
        (first | exact HK.out _ hk0 | exact HK.out _ hk3)
        (first | (go_at_call 31; (with_reducible refine HOB.out.mono ?_); rintro e w3 ⟨rfl, hb3⟩; have hk3 : Below wo.heap.size wo w3 := hk0.trans (hb3.mono hk0.size)))
      have st3 := st.below hk3
      clear hb3 HK hk0 hk3 HOB st
      go_wp2_with fail
      go_roundw
      case rel => exact ⟨i + 1, by omega, by go_num, st3⟩
      case measure => simp [intOf]; omega
    · obtain rfl : i = s.length := by omega
      go_wp2_with fail
      go_ret
      exact ⟨rfl, st.bel⟩
end Go.Proofs.YtjljknocnebnaaaDoor
namespace Go.Proofs.YtjljknocnebnaaaDoor
open Go.RowKit Go.V
set_option linter.unusedVariables false

set_option maxRecDepth 100000 in
set_option maxHeartbeats 8000000 in
theorem objDigest_any (w : World) (o : Ob.O) (Al : Option Addr) (kl : Nat) (Ad : Option Addr) (kd : Nat) (ho : ObA w Free o Al kl Ad kd) (hok : Ob.Ok o) :
    Calls Tryd.prog 30 #[obV o Al kl Ad kd] w fun e w' => e = .returned (.int .i64 ((Ob.dig o : Nat) : Int)) ∧ Below w.heap.size w w' := by
  obtain ⟨i0, hi0, hz0, hz1, hz2⟩ := info_parts info5
  have HL := Lib.hid (fun (w' : World) (hb : Below w.heap.size w w') => (ho.ls.keep (free_below hb)).sv)
  have HD := Lib.hid (fun (w' : World) (hb : Below w.heap.size w w') => (ho.ds.keep (free_below hb)).sv)
  have HALL := Lib.hid hok.all
  have hk1 := hok.lo
  have hk2 := hok.hi
  have hl30 := hok.ln
  have hl30' : (o.links.length : Int) ≤ 30 := by omega
  have hd1000 := hok.dn
  have HE := Lib.hid (bytes_eq o)
  have HBL := Lib.hid (Ob.bytes_length o)
  have HDD := Lib.hid (show Ob.dig o = Dg.ofL (Ob.bytes o) from rfl)
  have HH := hd2_cells hok
  have st0 : BySt w ((w.alloc (.cells #[.int .i64 o.kind, .slice Al o.links.length kl, .slice Ad o.data.length kd] 54)).alloc (.cells #[.int .u8 o.kind, .int .u8 (o.links.length : Int)] 5)) o Al kl Ad kd 0 (some ⟨w.heap.size + 1, 0, none⟩) 2 := by
    refine ⟨?_, (Blk.new _ _ _).alloc _, below_alloc2 _ _ _⟩
    have := World.ownsRow_lit (base := w.heap.size + 1) (size := 1) (e := 5) (w.alloc (.cells #[.int .i64 o.kind, .slice Al o.links.length kl, .slice Ad o.data.length kd] 54)) #[.int .u8 o.kind, .int .u8 (o.links.length : Int)] 2 (by simp) (by simp [maxLen]) rfl
    rw [Ob.lnB_zero, List.append_nil, HH]
    simpa using this
  clear ho hok HH
  obtain ⟨kk, ls, da⟩ := o
  simp only at *
  have hkm : kk % 256 = kk := by omega
  go_enter Tryd.func30, Tryd.ntmps30
  go_wp2_with fail
  go_loopw [3, 4] (fun vv jv wr => ∃ (j : Nat) (A : Option Addr) (c : Nat), j ≤ ls.length ∧ vv = .slice A (2 + 8 * j) c ∧ jv = .int .i64 j ∧ BySt w wr ⟨kk, ls, da⟩ Al kl Ad kd j A c) (fun _ jv _ => ls.length - (intOf jv).toNat)
  case atStart => exact ⟨0, _, 2, Nat.zero_le _, rfl, rfl, st0⟩
  case round =>
    obtain ⟨j, A, c, hj, rfl, rfl, st⟩ := hrel
    obtain ⟨wo, rfl⟩ : ∃ wo : World, wo = wr := ⟨_, rfl⟩
    have hsz := st.bel.size
    have hbl := st.box.lt
    have bx1 := st.box.cell 1
    have bx2 := st.box.cell 2
    simp only [List.getElem?_toArray, List.getElem?_cons_zero, List.getElem?_cons_succ] at bx1 bx2
    by_cases hlt : j < ls.length
    · have hlt' : (j : Int) < ls.length := by omega
      obtain ⟨b, off, e, hb, hc⟩ := (HL.out _ st.bel).int j hlt
      subst e
      obtain ⟨hr0, hr1⟩ := HALL.out j hlt
      obtain ⟨m, hm⟩ := Int.eq_ofNat_of_zero_le hr0
      have hs := Ob.lnB_succ ls j hlt
      rw [hm] at hc
      rw [hm, Int.toNat_natCast] at hs
      have HS := Lib.hid hs
      have hmb : m < 2305843009213693951 := by omega
      clear hm hs hr0 hr1
      go_wp2_with fail
      go_at_call 47
      refine (wide_any wo m hmb).mono ?_
      rintro e w2 ⟨A2, c2, rfl, hc2, hsa2, hb2⟩
      have hbw := st.bel.trans (hb2.mono hsz)
      have hown := st.own.kept (only_of_below hb2 none) (by cases hv : (Value.slice A (2 + 8 * j) c).ownBlock <;> simp)
      have hbox := st.box.below hb2 hbl
      have hz2' := hb2.size
      have hsv2 := hsa2.sv
      simp only [Ob.wide_length]
      rw [Ob.wide_length] at hc2
      clear st hsa2 hb2
      go_wp2_with (first | (at_builtin; refine wpList_appNo _ rfl (.tmp 20) (.tmp 26) 52 rfl (w.heap.size + 1) 5 i0 _ 1 1 Tryd.underlying52 hi0 hz0 hz1 hz2 rfl (by decide) A (2 + 8 * j) c _ rfl hown _ A2 8 c2 _ rfl (by simp) hsv2 (bytesV_one _) ?ha ?hb ?hc ?_))
      case ha => simp [maxLen]; omega
      case hb => omega
      case hc => omega
      intro A' c' w' hown' hg hc' _
      have hbw' := hbw.grown hg hbw.size (fun k hk => by have := (hown.lt k hk).1; omega)
      have hbox' := hbox.grown hg (own_blk_ne hown hbox (by decide))
      have st2 : BySt w w' ⟨kk, ls, da⟩ _ kl Ad kd (j + 1) A' c' := ⟨by rw [show 2 + 8 * (j + 1) = 2 + 8 * j + 8 by omega]; simp only [HS.out, bytesV_app] at hown' ⊢; exact hown', hbox', hbw'⟩
      clear hown' hown hg hsv2 hbw hbox
      go_wp2_with fail
      go_roundw
      case rel => exact ⟨j + 1, A', c', by omega, rfl, by go_num, st2⟩
      case measure => simp [intOf]; omega
    · obtain rfl : j = ls.length := by omega
      have hdv := HD.out _ st.bel
      have hown := st.own
      have hbel := st.bel
      clear st st0
      go_wp2_with (first | (at_builtin; refine wpList_appNo _ rfl (.tmp 28) (.tmp 30) 52 rfl (w.heap.size + 1) 5 i0 _ 1 1 Tryd.underlying52 hi0 hz0 hz1 hz2 rfl (by decide) A (2 + 8 * ls.length) c _ rfl hown _ Ad da.length kd _ rfl (by simp) hdv (bytesV_one _) ?hd ?he ?hf ?_))
      case hd => simp [maxLen]; omega
      case he => omega
      case hf => omega
      intro A' c' w' hown' hg hc' _
      have hbw' := hbel.grown hg hbel.size (fun k hk => by have := (hown.lt k hk).1; omega)
      have hown2 : w'.ownsRow (w.heap.size + 1) 5 1 (.slice A' (2 + 8 * ls.length + da.length) c') (2 + 8 * ls.length + da.length) (bytesV (Ob.bytes ⟨kk, ls, da⟩)) := by
        rw [HE.out]; simp only [bytesV_app, List.append_assoc] at hown' ⊢; exact hown'
      have hbn : (Ob.bytes ⟨kk, ls, da⟩).length = 2 + 8 * ls.length + da.length := HBL.out
      have hsv' := SV.of_own hown2
      have HO := digestOf_any w' A' c' _ hsv' (by omega)
      rw [hbn] at HO
      clear hown hg hown' hown2
      go_wp2_with fail
      go_at_call 48
      refine HO.mono ?_
      rintro e w9 ⟨rfl, n9, rfl⟩
      rw [← HDD.out]
      go_wp2_with fail
      go_ret
      exact ⟨rfl, below_drewN hbw' _⟩
end Go.Proofs.YtjljknocnebnaaaDoor
