/-
  References: walks of the reference's 'RefTarget', 'RefStores', 'UpdateCode'.
-/
import Derived.Test.YtfbbgnhelannjaaDoorRf16
namespace Go.Proofs.YtfbbgnhelannjaaDoor
open Go.RowKit Go.V Go.Shelf Go.Lib
set_option linter.unusedVariables false

theorem tgt_drop (s : List Rf.R) (n : Rf.Nm) (i : Nat) (hi : i < s.length) : Rf.tgtOf (s.drop i) n = if (Rf.it s i).name = n then (Rf.it s i).tgt else Rf.tgtOf (s.drop (i + 1)) n := by
  rw [List.drop_eq_getElem_cons hi, Rf.tgtOf, Rf.it_eq s i hi]
set_option maxRecDepth 100000 in
set_option maxHeartbeats 8000000 in
theorem refTarget_any (w : World) (A : Option Addr) (k : Nat) (s : List Rf.R) (n : List UInt8) (hv : SA w Free A (rsV s)) (hl : s.length ≤ 9223372036854775807) :
    Calls Tryd.prog 30 #[.agg #[.slice A s.length k], strV n] w fun e w' => e = .returned (.int .i64 (Rf.tgtOf s n)) ∧ Below w.heap.size w w' := by
  have HROW := Lib.hid (fun i hi => rsV_row (hv.keep (Keeps.alloc w _ (.cells #[.slice A s.length k] 26))) i hi)
  have c0 : (w.alloc (.cells #[.slice A s.length k] 26)).cell? ⟨w.heap.size, 0, none⟩ = some (.slice A s.length k) := ((Blk.new w 26 #[.slice A s.length k]).cell 0).trans rfl
  have HB := Lib.hid (below_alloc1 w (.cells #[.slice A s.length k] 26))
  have HE : Hid (∀ i, Rf.tgtOf s n = Rf.tgtOf (s.drop i) n → ∀ hi : i < s.length, (Rf.it s i).name = n → Rf.tgtOf s n = (Rf.it s i).tgt) := Lib.hid fun i h hi he => by rw [h, tgt_drop s n i hi, if_pos he]
  have HN : Hid (∀ i, Rf.tgtOf s n = Rf.tgtOf (s.drop i) n → ∀ hi : i < s.length, ¬ (Rf.it s i).name = n → Rf.tgtOf s n = Rf.tgtOf (s.drop (i + 1)) n) := Lib.hid fun i h hi he => by rw [h, tgt_drop s n i hi, if_neg he]
  clear hv
  generalize hq : Rf.tgtOf s n = q at *
  have HQ := Lib.hid hq
  clear hq
  go_enter Tryd.func30, Tryd.ntmps30
  go_wp2_with fail
  generalize hw1 : w.alloc (.cells #[.slice A s.length k] 26) = w1 at *
  clear hw1
  go_loopw [5] (fun iv wr => ∃ i : Nat, i ≤ s.length ∧ iv = .int .i64 i ∧ Hid (q = Rf.tgtOf (s.drop i) n) ∧ wr = w1) (fun iv _ => s.length - (intOf iv).toNat)
  case atStart => exact ⟨0, Nat.zero_le _, rfl, Lib.hid (by rw [List.drop_zero]; exact HQ.out.symm), rfl⟩
  case round =>
    obtain ⟨i, hi, rfl, H, rfl⟩ := hrel
    by_cases hlt : i < s.length
    · have hlt' : (i : Int) < s.length := by omega
      obtain ⟨b, off, e, hb, _, d0, d1⟩ := HROW.out i hlt
      subst e
      by_cases he : (Rf.it s i).name = n
      · have HF := Lib.hid (HE.out i H.out hlt he)
        have he' : ((Rf.it s i).name == n) = true := by simpa using he
        clear he HE HN
        generalize Rf.it s i = x at *
        go_wp2_with fail
        go_ret
        exact ⟨by rw [HF.out]; rfl, HB.out⟩
      · have HF := Lib.hid (HN.out i H.out hlt he)
        have he' : ((Rf.it s i).name == n) = false := by simpa using he
        clear he HE
        generalize Rf.it s i = x at *
        go_wp2_with fail
        go_roundw
        case rel => exact ⟨i + 1, by omega, by go_num, HF, by first | rfl | trivial⟩
        case measure => simp [intOf]; omega
    · obtain rfl : i = s.length := by omega
      have HF := Lib.hid (show q = -1 from by rw [H.out, List.drop_length]; rfl)
      go_wp2_with fail
      go_ret
      exact ⟨by rw [HF.out]; rfl, HB.out⟩
theorem eq_upto' {s t : List Rf.R} (hl : s.length = t.length) (h : ∀ j, j < s.length → Rf.it s j = Rf.it t j) : s = t :=
  List.ext_getElem hl fun i h1 h2 => by rw [Rf.it_eq s i h1, Rf.it_eq t i h2]; exact h i h1
set_option maxRecDepth 100000 in
set_option maxHeartbeats 8000000 in
theorem refStores_any (w : World) (A1 A2 : Option Addr) (c1 c2 : Nat) (l1 l2 : List Rf.R) (h1 : SA w Free A1 (rsV l1)) (h2 : SA w Free A2 (rsV l2)) (hl1 : l1.length ≤ 9223372036854775807) (hl2 : l2.length ≤ 9223372036854775807) :
    Calls Tryd.prog 22 #[.agg #[.slice A1 l1.length c1], .agg #[.slice A2 l2.length c2]] w fun e w' => e = .returned (.bool (decide (l1 = l2))) ∧ Below w.heap.size w w' := by
  have HB := Lib.hid (below_alloc2 w (.cells #[.slice A1 l1.length c1] 26) (.cells #[.slice A2 l2.length c2] 26))
  by_cases hlen : l1.length = l2.length
  · have hlen' : ((l1.length : Int) != l2.length) = false := by simp [hlen]
    have HR1 := Lib.hid (fun (w1 : World) (hb : Below w.heap.size w w1) i hi => rsV_row (h1.keep (free_below hb)) i hi)
    have HR2 := Lib.hid (fun (w1 : World) (hb : Below w.heap.size w w1) i hi => rsV_row (h2.keep (free_below hb)) i hi)
    have c0 := (((Blk.new w 26 #[.slice A1 l1.length c1]).alloc (.cells #[.slice A2 l2.length c2] 26)).cell 0).trans (rfl : _ = some (Value.slice A1 l1.length c1))
    have c1' := ((blk_new1 w (.cells #[.slice A1 l1.length c1] 26) 26 #[.slice A2 l2.length c2]).cell 0).trans (rfl : _ = some (Value.slice A2 l2.length c2))
    have HL := Lib.hid hlen
    clear hlen h1 h2
    go_enter Tryd.func22, Tryd.ntmps22
    go_wp2_with fail
    generalize hw1 : (w.alloc (.cells #[.slice A1 l1.length c1] 26)).alloc (.cells #[.slice A2 l2.length c2] 26) = w1 at *
    clear hw1
    go_loopw [5] (fun k wr => ∃ i : Nat, i ≤ l1.length ∧ k = .int .i64 i ∧ Hid (∀ j, j < i → Rf.it l1 j = Rf.it l2 j) ∧ ∃ n, wr = w1.drewN n) (fun k _ => l1.length - (intOf k).toNat)
    case atStart => exact ⟨0, Nat.zero_le _, rfl, Lib.hid (fun j hj => by omega), 0, rfl⟩
    case round =>
      obtain ⟨i, hi, rfl, H, n, rfl⟩ := hrel
      by_cases hlt : i < l1.length
      · have hlt2 : i < l2.length := by rw [← HL.out]; exact hlt
        obtain ⟨b1, o1, rfl, _, _, x1, y1⟩ := HR1.out _ HB.out i hlt
        obtain ⟨b2, o2, rfl, _, _, x2, y2⟩ := HR2.out _ HB.out i hlt2
        have hlt' : (i : Int) < l1.length := by omega
        have hlt2' : (i : Int) < l2.length := by omega
        by_cases he : Rf.it l1 i = Rf.it l2 i
        · have H' : Hid (∀ j, j < i + 1 → Rf.it l1 j = Rf.it l2 j) := Lib.hid fun j hj => by
            by_cases e : j = i
            · subst e; exact he
            · exact H.out j (by omega)
          rw [← he] at x2 y2
          clear he
          generalize Rf.it l1 i = x at *
          go_wp2_with fail
          go_quiet (fail)
          go_wp2
          go_roundw
          case rel => exact ⟨i + 1, by omega, by go_num, H', _, rfl⟩
          case measure => simp [intOf]; omega
        · have HN : Hid (decide (l1 = l2) = false) := Lib.hid (decide_eq_false fun e => he (by subst e; rfl))
          have hex : ((Rf.it l1 i).name == (Rf.it l2 i).name) = false ∨ (((Rf.it l1 i).name == (Rf.it l2 i).name) = true ∧ ((Rf.it l1 i).tgt == (Rf.it l2 i).tgt) = false) := by
            by_cases hn : (Rf.it l1 i).name = (Rf.it l2 i).name
            · refine .inr ⟨by simpa using hn, ?_⟩
              rw [beq_eq_false_iff_ne]; intro ht
              apply he
              revert hn ht
              generalize Rf.it l1 i = p
              generalize Rf.it l2 i = q
              obtain ⟨p1, p2⟩ := p
              obtain ⟨q1, q2⟩ := q
              simp only
              rintro rfl rfl; rfl
            · exact .inl (by simpa using hn)
          clear he
          generalize Rf.it l1 i = x at *
          generalize Rf.it l2 i = y at *
          rcases hex with hn | ⟨hn, ht⟩
          · have hn2 : (x.name != y.name) = true := by simpa using hn
            go_wp2_with fail
            go_quiet (fail)
            go_wp2
            go_ret
            exact ⟨by rw [HN.out]; rfl, below_drewN' (below_drewN' HB.out n) nq⟩
          · have hn2 : (x.name != y.name) = false := by simpa using hn
            have ht2 : (x.tgt != y.tgt) = true := by simpa using ht
            go_wp2_with fail
            go_quiet (fail)
            go_wp2
            go_ret
            exact ⟨by rw [HN.out]; rfl, below_drewN' (below_drewN' HB.out n) nq⟩
      · obtain rfl : i = l1.length := by omega
        have HY : Hid (decide (l1 = l2) = true) := Lib.hid (decide_eq_true (eq_upto' HL.out H.out))
        go_wp2
        go_ret
        exact ⟨by rw [HY.out]; rfl, below_drewN' HB.out n⟩
  · have hlen' : ((l1.length : Int) != l2.length) = true := by simp; omega
    have HN : Hid (decide (l1 = l2) = false) := Lib.hid (decide_eq_false fun e => hlen (by rw [e]))
    clear hlen h1 h2
    go_enter Tryd.func22, Tryd.ntmps22
    go_wp2_with fail
    go_ret
    exact ⟨by rw [HN.out]; rfl, HB.out⟩
set_option maxRecDepth 100000 in
set_option maxHeartbeats 16000000 in
theorem updateCode_any (w : World) (A : Option Addr) (k : Nat) (s : List Rf.R) (u : Rf.U) (hv : SA w Free A (rsV s)) (hl : s.length ≤ 9223372036854775807) (hnm : ∀ x ∈ s, x.name.length ≤ 1000000000) :
    Calls Tryd.prog 20 #[.agg #[.slice A s.length k], .agg #[strV u.name, .int .i64 u.old, .int .i64 u.new]] w fun e w' => e = .returned (.int .i64 (Rf.upC s u)) ∧ Below w.heap.size w w' := by
  have hUC := Lib.hid (Rf.upC.eq_1 s u)
  generalize Rf.upC s u = uc at *
  have HNA := Lib.hid (fun (w1 : World) => refName_any w1 u.name)
  have HTG := Lib.hid (fun (w1 : World) (hb : Below w.heap.size w w1) => refTarget_any w1 A k s u.name (hv.keep (free_below hb)) hl)
  have HROW := Lib.hid (fun (w1 : World) (hb : Below w.heap.size w w1) i hi => rsV_row (hv.keep (free_below hb)) i hi)
  have HCF := Lib.hid (fun (hn : Rf.nameOk u.name = true) (w1 : World) i (hi : i < s.length) => refConflict_any w1 (Rf.it s i).name u.name (by rw [← Rf.it_eq s i hi]; exact hnm _ (List.getElem_mem hi)) (by unfold Rf.nameOk at hn; rw [Bool.and_eq_true] at hn; have := hn.1; simp at this; omega))
  have HAN : Hid (∀ i, i < s.length → Rf.conf (Rf.it s i).name u.name = true → s.any (fun x => Rf.conf x.name u.name) = true) := Lib.hid fun i hi h => by
    rw [List.any_eq_true]; exact ⟨s[i], List.getElem_mem hi, by rw [Rf.it_eq s i hi]; exact h⟩
  have HAF : Hid ((∀ i, i < s.length → Rf.conf (Rf.it s i).name u.name = false) → s.any (fun x => Rf.conf x.name u.name) = false) := Lib.hid fun h => by
    rw [List.any_eq_false]; intro x hx
    obtain ⟨i, hi, rfl⟩ := List.mem_iff_getElem.1 hx
    rw [Rf.it_eq s i hi]; simpa using h i hi
  have hb0 := below_alloc2 w (.cells #[.slice A s.length k] 26) (.cells #[strV u.name, .int .i64 u.old, .int .i64 u.new] 28)
  have bs0 := (Blk.new w 26 #[.slice A s.length k]).alloc (.cells #[strV u.name, .int .i64 u.old, .int .i64 u.new] 28)
  have bu0 := blk_new1 w (.cells #[.slice A s.length k] 26) 28 #[strV u.name, .int .i64 u.old, .int .i64 u.new]
  clear hv hnm
  obtain ⟨un, uo, uw⟩ := u
  simp only at *
  go_enter Tryd.func20, Tryd.ntmps20
  go_wp2_with fail
  go_at_call 17
  refine (HNA.out _).mono ?_
  rintro e w2 ⟨rfl, hb2'⟩
  have hb2 := hb0.trans (hb2'.mono hb0.size)
  have bs := bs0.below hb2' bs0.lt
  have bu := bu0.below hb2' bu0.lt
  clear HNA hb2' bs0 bu0 hb0
  have a0 : w2.cell? ⟨w.heap.size, 0, none⟩ = some (.slice A s.length k) := (bs.cell 0).trans rfl
  have c0 : w2.cell? ⟨w.heap.size + 1, 0, none⟩ = some (strV un) := (bu.cell 0).trans rfl
  have c1 : w2.cell? ⟨w.heap.size + 1, 1, none⟩ = some (.int .i64 uo) := (bu.cell 1).trans rfl
  have c2 : w2.cell? ⟨w.heap.size + 1, 2, none⟩ = some (.int .i64 uw) := (bu.cell 2).trans rfl
  have l0 := bs.lt
  have l1 := bu.lt
  cases hn : Rf.nameOk un with
  | false =>
    have HR := Lib.hid (show uc = 12 from by rw [hUC.out, if_pos hn])
    clear hUC hn
    go_wp2_with fail
    go_ret
    exact ⟨by rw [HR.out]; rfl, hb2⟩
  | true =>
    have HU1 := Lib.hid (hUC.out.trans (if_neg (by rw [hn]; simp)))
    have HCF2 := Lib.hid (HCF.out hn)
    have HDO := Lib.hid (fun w1 => isDigest46_any w1 uo)
    have HDW := Lib.hid (fun w1 => isDigest46_any w1 uw)
    clear hUC hn HCF
    by_cases ho : uo = -1
    · subst ho
      have ho : (-1 : Int) = -1 := rfl
      have ho1 : ((-1 : Int) != -1) = false := by simp
      have ho2 : ((-1 : Int) == -1) = true := by simp
      by_cases hw : uw = -1
      · have hw1 : (uw != -1) = false := by simp [hw]
        have hw2 : (uw == -1) = true := by simp [hw]
        have HU2 := Lib.hid (HU1.out.trans (if_neg (by
          rintro (⟨h1, h2⟩ | ⟨h1, h2⟩)
          · exact h1 ho
          · exact h1 hw)))
        clear HU1
        have HR := Lib.hid (show uc = 5 from by rw [HU2.out, if_pos ⟨ho, hw⟩])
        clear ho hw HU2
        go_wp2_with (first | (go_at_call 46; with_reducible refine (HDO.out _).mono ?_; rintro e w9 ⟨rfl, hw9⟩; have hw9' := hw9.symm; subst hw9') | (go_at_call 46; with_reducible refine (HDW.out _).mono ?_; rintro e w9 ⟨rfl, hw9⟩; have hw9' := hw9.symm; subst hw9'))
        go_ret
        exact ⟨by rw [HR.out]; rfl, hb2⟩
      · have hw1 : (uw != -1) = true := by simpa using hw
        have hw2 : (uw == -1) = false := by simpa using hw
        cases hwd : Rf.dgOk uw with
        | true =>
          rw [hwd] at HDW
          have HU2 := Lib.hid (HU1.out.trans (if_neg (by
            rintro (⟨h1, h2⟩ | ⟨h1, h2⟩)
            · exact h1 ho
            · rw [hwd] at h2; cases h2)))
          clear HU1 hwd
          have HU3 := Lib.hid (HU2.out.trans (if_neg (fun h => hw h.2)))
          clear HU2
          go_wp2_with (first | (go_at_call 46; with_reducible refine (HDO.out _).mono ?_; rintro e w9 ⟨rfl, hw9⟩; have hw9' := hw9.symm; subst hw9') | (go_at_call 46; with_reducible refine (HDW.out _).mono ?_; rintro e w9 ⟨rfl, hw9⟩; have hw9' := hw9.symm; subst hw9'))
          have hk0 : Below w2.heap.size w2 w2.drew := below_drew' (Below.refl _ _)
          have HK : Hid (∀ w6 : World, Below w2.heap.size w2 w6 → w6.cell? ⟨w.heap.size, 0, none⟩ = some (.slice A s.length k) ∧ w6.cell? ⟨w.heap.size + 1, 0, none⟩ = some (strV un) ∧ w6.cell? ⟨w.heap.size + 1, 1, none⟩ = some (.int .i64 (-1))) := Lib.hid fun w6 h6 => ⟨(h6.cell (p := ⟨_, _, none⟩) l0).trans a0, (h6.cell (p := ⟨_, _, none⟩) l1).trans c0, (h6.cell (p := ⟨_, _, none⟩) l1).trans c1⟩
          go_region_held3 (fun w6 => w6.cell? ⟨w.heap.size, 0, none⟩ = some (.slice A s.length k) ∧ w6.cell? ⟨w.heap.size + 1, 0, none⟩ = some (strV un) ∧ w6.cell? ⟨w.heap.size + 1, 1, none⟩ = some (.int .i64 (-1)))
            (first | exact HK.out _ hk0 | exact HK.out _ hk1)
            (first | (go_at_call 30; (with_reducible refine (HTG.out _ (hb2.trans (hk0.mono hb2.size))).mono ?_); rintro e w3 ⟨rfl, hb3⟩; have hk1 : Below w2.heap.size w2 w3 := hk0.trans (hb3.mono hk0.size)))
          have hbw := hb2.trans (hk1.mono hb2.size)
          have bs3 := bs.below hk1 l0
          have bu3 := bu.below hk1 l1
          clear a0 c0 c1 c2 l0 l1 hk0 hk1 HK hb3 bs bu hb2
          have a0 : w3.cell? ⟨w.heap.size, 0, none⟩ = some (.slice A s.length k) := (bs3.cell 0).trans rfl
          have c0 : w3.cell? ⟨w.heap.size + 1, 0, none⟩ = some (strV un) := (bu3.cell 0).trans rfl
          have c1 : w3.cell? ⟨w.heap.size + 1, 1, none⟩ = some (.int .i64 (-1)) := (bu3.cell 1).trans rfl
          have l0 := bs3.lt
          have l1 := bu3.lt
          by_cases ht : Rf.tgtOf s un = (-1)
          · have ht1 : (Rf.tgtOf s un != (-1)) = false := by simpa using ht
            have HU4 := Lib.hid (HU3.out.trans (if_neg (fun h => h ht)))
            clear HU3 ht
            generalize Rf.tgtOf s un = tg at *
            have HU5 := Lib.hid (HU4.out.trans (if_neg (fun h => h rfl)))
            clear HU4 ho
            go_wp2_with fail
            try rw [ht1]
            go_loopw [5] (fun iv wr => ∃ i : Nat, i ≤ s.length ∧ iv = .int .i64 i ∧ Hid (∀ j, j < i → Rf.conf (Rf.it s j).name un = false) ∧ Below w3.heap.size w3 wr) (fun iv _ => s.length - (intOf iv).toNat)
            case atStart => exact ⟨0, Nat.zero_le _, rfl, Lib.hid (fun j hj => by omega), Below.refl _ _⟩
            case round =>
              obtain ⟨i, hi, rfl, H, hb4⟩ := hrel
              obtain ⟨w4, rfl⟩ : ∃ w4 : World, w4 = wr := ⟨_, rfl⟩
              have hbw4 := hbw.trans (hb4.mono hbw.size)
              have bs4 := bs3.below hb4 bs3.lt
              have bu4 := bu3.below hb4 bu3.lt
              clear a0 c0 c1 l0 l1
              have a0 : w4.cell? ⟨w.heap.size, 0, none⟩ = some (.slice A s.length k) := (bs4.cell 0).trans rfl
              have c0 : w4.cell? ⟨w.heap.size + 1, 0, none⟩ = some (strV un) := (bu4.cell 0).trans rfl
              have l0 := bs4.lt
              have l1 := bu4.lt
              by_cases hlt : i < s.length
              · have hlt' : (i : Int) < s.length := by omega
                obtain ⟨b, off, e, hbb, _, d0, d1⟩ := HROW.out _ hbw4 i hlt
                subst e
                have HF := Lib.hid (fun w1 => HCF2.out w1 i hlt)
                have HN1 : Hid (Rf.conf (Rf.it s i).name un = false → ∀ j, j < i + 1 → Rf.conf (Rf.it s j).name un = false) := Lib.hid fun h j hj => by
                  by_cases e : j = i
                  · rw [e]; exact h
                  · exact H.out j (by omega)
                have HB1 : Hid (Rf.conf (Rf.it s i).name un = true → uc = 19) := Lib.hid fun h => by rw [HU5.out, if_pos (HAN.out i hlt h)]
                clear H
                generalize Rf.it s i = x at *
                have hk0 : Below w4.heap.size w4 w4.drew := below_drew' (Below.refl _ _)
                have HK : Hid (∀ w6 : World, Below w4.heap.size w4 w6 → w6.cell? ⟨w.heap.size, 0, none⟩ = some (.slice (some ⟨b, off, none⟩) s.length k) ∧ w6.cell? ⟨b, off + i * 2, none⟩ = some (strV x.name) ∧ w6.cell? ⟨w.heap.size + 1, 0, none⟩ = some (strV un)) := Lib.hid fun w6 h6 => ⟨(h6.cell (p := ⟨_, _, none⟩) l0).trans a0, (h6.cell (p := ⟨_, _, none⟩) hbb).trans d0, (h6.cell (p := ⟨_, _, none⟩) l1).trans c0⟩
                cases hcf : Rf.conf x.name un with
                | true =>
                  rw [hcf] at HF
                  have HR := Lib.hid (HB1.out hcf)
                  clear hcf HB1 HN1
                  go_wp2_with fail
                  go_region_held3 (fun w6 => w6.cell? ⟨w.heap.size, 0, none⟩ = some (.slice (some ⟨b, off, none⟩) s.length k) ∧ w6.cell? ⟨b, off + i * 2, none⟩ = some (strV x.name) ∧ w6.cell? ⟨w.heap.size + 1, 0, none⟩ = some (strV un))
                    (first | exact HK.out _ hk0 | exact HK.out _ hk1)
                    (first | (go_at_call 24; (with_reducible refine (HF.out _).mono ?_); rintro e w5 ⟨rfl, hv⟩; have hk1 : Below w4.heap.size w4 w5 := hk0.trans (hv.mono hk0.size)))
                  go_wp2_with fail
                  go_ret
                  exact ⟨by rw [HR.out]; rfl, (hbw4.trans (hk1.mono hbw4.size))⟩
                | false =>
                  rw [hcf] at HF
                  have HR := Lib.hid (HN1.out hcf)
                  clear hcf HB1 HN1
                  go_wp2_with fail
                  go_region_held3 (fun w6 => w6.cell? ⟨w.heap.size, 0, none⟩ = some (.slice (some ⟨b, off, none⟩) s.length k) ∧ w6.cell? ⟨b, off + i * 2, none⟩ = some (strV x.name) ∧ w6.cell? ⟨w.heap.size + 1, 0, none⟩ = some (strV un))
                    (first | exact HK.out _ hk0 | exact HK.out _ hk1)
                    (first | (go_at_call 24; (with_reducible refine (HF.out _).mono ?_); rintro e w5 ⟨rfl, hv⟩; have hk1 : Below w4.heap.size w4 w5 := hk0.trans (hv.mono hk0.size)))
                  go_wp2_with fail
                  go_roundw
                  case rel =>
                    first
                    | exact ⟨i + 1, by omega, by go_num, HR, hb4.trans (hk1.mono hb4.size)⟩
                    | (repeat apply Exists.intro; refine ⟨⟨i + 1, by omega, by go_num, HR, hb4.trans (hk1.mono hb4.size)⟩, rfl⟩)
                    | (repeat apply Exists.intro; refine ⟨?_, rfl⟩; exact ⟨i + 1, by omega, by go_num, HR, hb4.trans (hk1.mono hb4.size)⟩)
                  case measure => simp [intOf]; omega
              · obtain rfl : i = s.length := by omega
                have HU6 := Lib.hid (HU5.out.trans (if_neg (by rw [HAF.out H.out]; simp)))
                clear H
                by_cases h30 : 30 ≤ s.length
                · have h30' : (30 : Int) ≤ s.length := by omega
                  have h30d : decide ((30 : Int) ≤ s.length) = true := by simp; omega
                  have HR := Lib.hid (HU6.out.trans (if_pos h30))
                  clear h30
                  go_wp2_with fail
                  go_ret
                  exact ⟨by rw [HR.out]; rfl, hbw4⟩
                · have h30' : ¬ (30 : Int) ≤ s.length := by omega
                  have h30d : decide ((30 : Int) ≤ s.length) = false := by simp; omega
                  have HR := Lib.hid (HU6.out.trans (if_neg h30))
                  clear h30
                  go_wp2_with fail
                  go_ret
                  exact ⟨by rw [HR.out]; rfl, hbw4⟩
          · have ht1 : (Rf.tgtOf s un != (-1)) = true := by simpa using ht
            have HR := Lib.hid (HU3.out.trans (if_pos ht))
            clear ht HU3
            generalize Rf.tgtOf s un = tg at *
            go_wp2_with fail
            go_ret
            exact ⟨by rw [HR.out]; rfl, hbw⟩
        | false =>
          rw [hwd] at HDW
          have HR := Lib.hid (HU1.out.trans (if_pos (.inr ⟨hw, hwd⟩)))
          clear hw hwd HU1
          go_wp2_with (first | (go_at_call 46; with_reducible refine (HDO.out _).mono ?_; rintro e w9 ⟨rfl, hw9⟩; have hw9' := hw9.symm; subst hw9') | (go_at_call 46; with_reducible refine (HDW.out _).mono ?_; rintro e w9 ⟨rfl, hw9⟩; have hw9' := hw9.symm; subst hw9'))
          go_ret
          exact ⟨by rw [HR.out]; rfl, hb2⟩
    · have ho1 : (uo != -1) = true := by simpa using ho
      have ho2 : (uo == -1) = false := by simpa using ho
      cases hod : Rf.dgOk uo with
      | true =>
        rw [hod] at HDO
        by_cases hw : uw = -1
        · have hw1 : (uw != -1) = false := by simp [hw]
          have hw2 : (uw == -1) = true := by simp [hw]
          have HU2 := Lib.hid (HU1.out.trans (if_neg (by
            rintro (⟨h1, h2⟩ | ⟨h1, h2⟩)
            · rw [hod] at h2; cases h2
            · exact h1 hw)))
          clear HU1
          have HU3 := Lib.hid (HU2.out.trans (if_neg (fun h => ho h.1)))
          clear HU2
          go_wp2_with (first | (go_at_call 46; with_reducible refine (HDO.out _).mono ?_; rintro e w9 ⟨rfl, hw9⟩; have hw9' := hw9.symm; subst hw9') | (go_at_call 46; with_reducible refine (HDW.out _).mono ?_; rintro e w9 ⟨rfl, hw9⟩; have hw9' := hw9.symm; subst hw9'))
          have hk0 : Below w2.heap.size w2 w2.drew := below_drew' (Below.refl _ _)
          have HK : Hid (∀ w6 : World, Below w2.heap.size w2 w6 → w6.cell? ⟨w.heap.size, 0, none⟩ = some (.slice A s.length k) ∧ w6.cell? ⟨w.heap.size + 1, 0, none⟩ = some (strV un) ∧ w6.cell? ⟨w.heap.size + 1, 1, none⟩ = some (.int .i64 uo)) := Lib.hid fun w6 h6 => ⟨(h6.cell (p := ⟨_, _, none⟩) l0).trans a0, (h6.cell (p := ⟨_, _, none⟩) l1).trans c0, (h6.cell (p := ⟨_, _, none⟩) l1).trans c1⟩
          go_region_held3 (fun w6 => w6.cell? ⟨w.heap.size, 0, none⟩ = some (.slice A s.length k) ∧ w6.cell? ⟨w.heap.size + 1, 0, none⟩ = some (strV un) ∧ w6.cell? ⟨w.heap.size + 1, 1, none⟩ = some (.int .i64 uo))
            (first | exact HK.out _ hk0 | exact HK.out _ hk1)
            (first | (go_at_call 30; (with_reducible refine (HTG.out _ (hb2.trans (hk0.mono hb2.size))).mono ?_); rintro e w3 ⟨rfl, hb3⟩; have hk1 : Below w2.heap.size w2 w3 := hk0.trans (hb3.mono hk0.size)))
          have hbw := hb2.trans (hk1.mono hb2.size)
          have bs3 := bs.below hk1 l0
          have bu3 := bu.below hk1 l1
          clear a0 c0 c1 c2 l0 l1 hk0 hk1 HK hb3 bs bu hb2
          have a0 : w3.cell? ⟨w.heap.size, 0, none⟩ = some (.slice A s.length k) := (bs3.cell 0).trans rfl
          have c0 : w3.cell? ⟨w.heap.size + 1, 0, none⟩ = some (strV un) := (bu3.cell 0).trans rfl
          have c1 : w3.cell? ⟨w.heap.size + 1, 1, none⟩ = some (.int .i64 uo) := (bu3.cell 1).trans rfl
          have l0 := bs3.lt
          have l1 := bu3.lt
          by_cases ht : Rf.tgtOf s un = uo
          · have ht1 : (Rf.tgtOf s un != uo) = false := by simpa using ht
            have HU4 := Lib.hid (HU3.out.trans (if_neg (fun h => h ht)))
            clear HU3 ht
            generalize Rf.tgtOf s un = tg at *
            have HR := Lib.hid (HU4.out.trans (if_pos ho))
            clear ho HU4
            go_wp2_with fail
            go_ret
            exact ⟨by rw [HR.out]; rfl, hbw⟩
          · have ht1 : (Rf.tgtOf s un != uo) = true := by simpa using ht
            have HR := Lib.hid (HU3.out.trans (if_pos ht))
            clear ht HU3
            generalize Rf.tgtOf s un = tg at *
            go_wp2_with fail
            go_ret
            exact ⟨by rw [HR.out]; rfl, hbw⟩
        · have hw1 : (uw != -1) = true := by simpa using hw
          have hw2 : (uw == -1) = false := by simpa using hw
          cases hwd : Rf.dgOk uw with
          | true =>
            rw [hwd] at HDW
            have HU2 := Lib.hid (HU1.out.trans (if_neg (by
              rintro (⟨h1, h2⟩ | ⟨h1, h2⟩)
              · rw [hod] at h2; cases h2
              · rw [hwd] at h2; cases h2)))
            clear HU1 hwd
            have HU3 := Lib.hid (HU2.out.trans (if_neg (fun h => hw h.2)))
            clear HU2
            go_wp2_with (first | (go_at_call 46; with_reducible refine (HDO.out _).mono ?_; rintro e w9 ⟨rfl, hw9⟩; have hw9' := hw9.symm; subst hw9') | (go_at_call 46; with_reducible refine (HDW.out _).mono ?_; rintro e w9 ⟨rfl, hw9⟩; have hw9' := hw9.symm; subst hw9'))
            have hk0 : Below w2.heap.size w2 w2.drew := below_drew' (Below.refl _ _)
            have HK : Hid (∀ w6 : World, Below w2.heap.size w2 w6 → w6.cell? ⟨w.heap.size, 0, none⟩ = some (.slice A s.length k) ∧ w6.cell? ⟨w.heap.size + 1, 0, none⟩ = some (strV un) ∧ w6.cell? ⟨w.heap.size + 1, 1, none⟩ = some (.int .i64 uo)) := Lib.hid fun w6 h6 => ⟨(h6.cell (p := ⟨_, _, none⟩) l0).trans a0, (h6.cell (p := ⟨_, _, none⟩) l1).trans c0, (h6.cell (p := ⟨_, _, none⟩) l1).trans c1⟩
            go_region_held3 (fun w6 => w6.cell? ⟨w.heap.size, 0, none⟩ = some (.slice A s.length k) ∧ w6.cell? ⟨w.heap.size + 1, 0, none⟩ = some (strV un) ∧ w6.cell? ⟨w.heap.size + 1, 1, none⟩ = some (.int .i64 uo))
              (first | exact HK.out _ hk0 | exact HK.out _ hk1)
              (first | (go_at_call 30; (with_reducible refine (HTG.out _ (hb2.trans (hk0.mono hb2.size))).mono ?_); rintro e w3 ⟨rfl, hb3⟩; have hk1 : Below w2.heap.size w2 w3 := hk0.trans (hb3.mono hk0.size)))
            have hbw := hb2.trans (hk1.mono hb2.size)
            have bs3 := bs.below hk1 l0
            have bu3 := bu.below hk1 l1
            clear a0 c0 c1 c2 l0 l1 hk0 hk1 HK hb3 bs bu hb2
            have a0 : w3.cell? ⟨w.heap.size, 0, none⟩ = some (.slice A s.length k) := (bs3.cell 0).trans rfl
            have c0 : w3.cell? ⟨w.heap.size + 1, 0, none⟩ = some (strV un) := (bu3.cell 0).trans rfl
            have c1 : w3.cell? ⟨w.heap.size + 1, 1, none⟩ = some (.int .i64 uo) := (bu3.cell 1).trans rfl
            have l0 := bs3.lt
            have l1 := bu3.lt
            by_cases ht : Rf.tgtOf s un = uo
            · have ht1 : (Rf.tgtOf s un != uo) = false := by simpa using ht
              have HU4 := Lib.hid (HU3.out.trans (if_neg (fun h => h ht)))
              clear HU3 ht
              generalize Rf.tgtOf s un = tg at *
              have HR := Lib.hid (HU4.out.trans (if_pos ho))
              clear ho HU4
              go_wp2_with fail
              go_ret
              exact ⟨by rw [HR.out]; rfl, hbw⟩
            · have ht1 : (Rf.tgtOf s un != uo) = true := by simpa using ht
              have HR := Lib.hid (HU3.out.trans (if_pos ht))
              clear ht HU3
              generalize Rf.tgtOf s un = tg at *
              go_wp2_with fail
              go_ret
              exact ⟨by rw [HR.out]; rfl, hbw⟩
          | false =>
            rw [hwd] at HDW
            have HR := Lib.hid (HU1.out.trans (if_pos (.inr ⟨hw, hwd⟩)))
            clear hw hwd HU1
            go_wp2_with (first | (go_at_call 46; with_reducible refine (HDO.out _).mono ?_; rintro e w9 ⟨rfl, hw9⟩; have hw9' := hw9.symm; subst hw9') | (go_at_call 46; with_reducible refine (HDW.out _).mono ?_; rintro e w9 ⟨rfl, hw9⟩; have hw9' := hw9.symm; subst hw9'))
            go_ret
            exact ⟨by rw [HR.out]; rfl, hb2⟩
      | false =>
        rw [hod] at HDO
        have HR := Lib.hid (HU1.out.trans (if_pos (.inl ⟨ho, hod⟩)))
        clear ho hod HU1
        go_wp2_with (first | (go_at_call 46; with_reducible refine (HDO.out _).mono ?_; rintro e w9 ⟨rfl, hw9⟩; have hw9' := hw9.symm; subst hw9') | (go_at_call 46; with_reducible refine (HDW.out _).mono ?_; rintro e w9 ⟨rfl, hw9⟩; have hw9' := hw9.symm; subst hw9'))
        go_ret
        exact ⟨by rw [HR.out]; rfl, hb2⟩
end Go.Proofs.YtfbbgnhelannjaaDoor
