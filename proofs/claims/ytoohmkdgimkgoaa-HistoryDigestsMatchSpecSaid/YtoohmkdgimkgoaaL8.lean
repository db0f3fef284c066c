/-
  HistoryHeadsReachAll: the law's walk.
-/
import Derived.Test.YtoohmkdgimkgoaaW14
import Derived.Test.YtoohmkdgimkgoaaPure5
namespace Go.Proofs.Ytoohmkdgimkgoaa
open Go.RowKit Go.V
set_option linter.unusedVariables false

structure TabBRel (w wr : World) (n : Nat) (f : Nat → Bool) : Prop where
  blk : Blk wr w.heap.size 4 (boolsA (tab n f))
  bel : Below w.heap.size w wr
theorem TabBRel.alloc {w wr : World} {n : Nat} {f : Nat → Bool} (h : TabBRel w wr n f) (o : Obj) : TabBRel w (wr.alloc o) n f := ⟨h.blk.alloc o, h.bel.alloc h.bel.size o⟩
theorem TabBRel.set_ {w wr : World} {n : Nat} {f f' : Nat → Bool} (h : TabBRel w wr n f) (i : Nat) (x : Bool) (hf : ∀ j, j < n → f' j = if j = i then x else f j) : TabBRel w (wr.setCell ⟨w.heap.size, i, none⟩ (.bool x)) n f' :=
  ⟨blk_tabB_set h.blk i x hf, h.bel.setCell (by simp) _⟩
theorem TabBRel.below {w wr w' : World} {n : Nat} {f : Nat → Bool} (h : TabBRel w wr n f) (hb : Below wr.heap.size wr w') : TabBRel w w' n f := ⟨h.blk.below hb h.blk.lt, h.bel.trans (hb.mono h.bel.size)⟩
theorem TabBRel.congr {w wr : World} {n : Nat} {f f' : Nat → Bool} (h : TabBRel w wr n f) (hf : ∀ j, j < n → f' j = f j) : TabBRel w wr n f' :=
  ⟨by have := h.blk; rw [← tab_congr (f := f') (g := f) hf] at this; exact this, h.bel⟩

set_option maxRecDepth 100000 in
set_option maxHeartbeats 4000000 in
theorem law8_any (w : World) (A : Option Addr) (k : Nat) (l : List Hs.Cm) (hv : CV w A l) (hl : l.length ≤ 9223372036854775807) :
    Calls Try.prog 8 #[.slice A l.length k] w fun e w' => e = .returned (.bool true) ∧ Below w.heap.size w w' := by
  have HA := Lib.hid (fun (w1 : World) h => heads_any w1 A k l h hl)
  have HCa := Lib.hid (listRes_cases l (Hs.ints (Hs.heads l)))
  go_enter Try.func8, Try.ntmps8
  go_wp2_with fail
  go_at_call 17
  refine (example_any _).mono ?_
  rintro e w1 ⟨rfl, hb1⟩
  have hsz1 := hb1.size
  go_wp2_with fail
  go_at_call 29
  refine (HA.out _ (hv.below hb1)).mono ?_
  generalize listRes l (Hs.ints (Hs.heads l)) = ra at *
  obtain ⟨xa, ca, ia⟩ := ra
  rintro e w2 ⟨A2, c2, rfl, hc2, hv2, hb2'⟩
  have hb2 := hb1.trans (hb2'.mono hsz1)
  have hsz2 := hb2.size
  have hb3 := hb2.alloc hsz2 (.cells #[.int .i64 ca, .int .i64 ia] 26)
  have hv3 := hv2.alloc (.cells #[.int .i64 ca, .int .i64 ia] 26)
  clear hb2' hb1 hsz1 HA hv2
  simp only at hc2 hv3
  rcases HCa.out with ⟨ha1, ha2, _⟩ | ⟨hok, hra⟩
  · have ha1' : xa = [] := ha1
    have ha2 : ca ≠ 0 := ha2
    subst ha1'
    have ha3 : (ca == 0) = false := by simpa using ha2
    have ha4 : (ca != 0) = true := by simpa using ha2
    clear ha2 HCa
    go_wp2_with fail
    go_ret
    exact ⟨rfl, hb3⟩
  · injection hra with e1 e2
    injection e2 with e2 e3
    subst e1 e2 e3
    have h60 := hok.len
    have hhl := Hs.heads_len l
    have hmk := run_make_row' (P := Try.prog) 24 4 (.bool false) 1 Try.underlying24 info4 rfl .i64 .i64 l.length (by omega) (by omega)
    have HO := Lib.hid (fun (i : Nat) (hi : i < (Hs.heads l).length) (wr : World) hbel => nat_at (wr := wr) hv3 hbel i hi)
    have HLT := Lib.hid (Hs.heads_lt l)
    have HOT := Lib.hid hok.head_other
    have HSE := Lib.hid (Hs.seenIn_succ l)
    have HALL := Lib.hid hok.seen_all
    have HAF := Lib.hid (fun (w1 : World) (n : Nat) h hn => ancestors_fresh w1 A k l n h hok hn)
    have HS0 := Lib.hid (show ∀ j, Hs.seenAt l 0 j = false from fun j => by simp [Hs.seenAt])
    simp only [Hs.ints_length] at hc2 ⊢
    clear HCa hv3
    have hsz3 := hb3.size
    go_wp2_with fail
    have hz : w2.heap.size + 1 = (w2.alloc (.cells #[.int .i64 0, .int .i64 0] 26)).heap.size := by simp
    rw [hz]
    clear hz
    generalize hwB : w2.alloc (.cells #[.int .i64 0, .int .i64 0] 26) = wB at *
    clear hwB
    go_loopw [6] (fun v wr => ∃ i : Nat, i ≤ (Hs.heads l).length ∧ v = .int .i64 i ∧ TabBRel wB wr l.length (Hs.seenAt l i)) (fun v _ => (Hs.heads l).length - (intOf v).toNat)
    case atStart =>
      have : TabBRel wB (wB.alloc (.cells (madeCells #[.bool false] l.length) 4)) l.length (Hs.seenAt l 0) :=
        TabBRel.congr (f := fun _ => false) ⟨blk_made_bool wB 4 l.length, below_alloc1 _ _⟩ fun j _ => HS0.out j
      exact ⟨0, Nat.zero_le _, rfl, this⟩
    case round =>
      obtain ⟨i, hi, rfl, st⟩ := hrel
      obtain ⟨w4, rfl⟩ : ∃ w4 : World, w4 = wr := ⟨_, rfl⟩
      by_cases hil : i < (Hs.heads l).length
      · have hil' : (i : Int) < (Hs.heads l).length := by omega
        have hlt4 := st.blk.lt
        have hb4 := hb3.trans (st.bel.mono hsz3)
        have hsz4 := hb4.size
        obtain ⟨b, off, e, hb, hc⟩ := HO.out i hil w4 st.bel
        subst e
        have hxl := HLT.out _ (List.getElem_mem hil)
        have HOTi := Lib.hid (fun kk => HOT.out i kk hil)
        have HSEi := Lib.hid (fun kk kx => HSE.out i kk kx hil)
        generalize (Hs.heads l)[i] = x at *
        go_wp2_with fail
        go_at_call 18
        refine (HAF.out _ x (hv.below hb4) hxl).mono ?_
        rintro e w5 ⟨g5, rfl, hg5, hin5, hb5⟩
        have st5 := (st.below hb5).alloc (.cells #[.int .i64 0, .int .i64 0] 26)
        have hin6 := hin5.alloc (.cells #[.int .i64 0, .int .i64 0] 26)
        have hlt5 := hin5.lt
        clear st hb5 hin5
        go_wp2_with fail
        have hz5 : ∀ o, ∃ w6 : World, w5.alloc o = w6 := fun o => ⟨_, rfl⟩
        obtain ⟨w6, hw6⟩ := hz5 (.cells #[.int .i64 0, .int .i64 0] 26)
        rw [hw6] at st5 hin6 ⊢
        clear hz5 hw6
        go_loop [9] (fun v => ∃ kk : Nat, kk ≤ (Hs.heads l).length ∧ v = .int .i64 kk) (fun v => (Hs.heads l).length - (intOf v).toNat)
        case atStart => exact ⟨0, Nat.zero_le _, rfl⟩
        case round =>
          obtain ⟨kk, hk, rfl⟩ := hrel
          by_cases hkl : kk < (Hs.heads l).length
          · have hkl' : (kk : Int) < (Hs.heads l).length := by omega
            obtain ⟨b', off', e', hb', hc'⟩ := HO.out kk hkl w6 st5.bel
            injection e' with e'
            injection e' with e1 e2
            subst e1 e2
            have hyl := HLT.out _ (List.getElem_mem hkl)
            by_cases hik : i = kk
            · subst hik
              generalize (Hs.heads l)[i] = y at *
              have hyn : (y : Int) < l.length := by omega
              go_wp2_with (go_at_call 21; refine (in_yes _ _ _ _ (by omega)).mono ?_; rintro e w' ⟨rfl, rfl⟩)
              go_round
              case rel => exact ⟨i + 1, by omega, by go_num⟩
              case measure => simp [intOf]; omega
            · have hno := HOTi.out kk hkl hik
              generalize (Hs.heads l)[kk] = y at *
              have hiy := blk_tabB hin6 y hyl
              rw [hno] at hiy
              have hyn : (y : Int) < l.length := by omega
              have hne1 : ((kk : Int) != (i : Int)) = true := by simp; omega
              have hne2 : (kk != i) = true := by simp; omega
              have hne3 : (kk == i) = false := by simp; omega
              clear hno hik
              go_wp2_with (go_at_call 21; refine (in_yes _ _ _ _ (by omega)).mono ?_; rintro e w' ⟨rfl, rfl⟩)
              go_round
              case rel => exact ⟨kk + 1, by omega, by go_num⟩
              case measure => simp [intOf]; omega
          · obtain rfl : kk = (Hs.heads l).length := by omega
            have st6 : TabBRel wB w6 l.length (Hs.seenIn l i 0) := st5.congr fun j _ => by unfold Hs.seenIn; rw [if_neg (by omega)]
            clear st5
            go_wp2_with fail
            go_loopw [10] (fun v wr => ∃ kk : Nat, kk ≤ l.length ∧ v = .int .i64 kk ∧ TabBRel wB wr l.length (Hs.seenIn l i kk) ∧ Blk wr g5 4 (boolsA (tab l.length (Hs.reach l x)))) (fun v _ => l.length - (intOf v).toNat)
            case atStart => exact ⟨0, Nat.zero_le _, rfl, st6, hin6⟩
            case round =>
              obtain ⟨kk2, hk2, rfl, st7, hin7⟩ := hrel
              obtain ⟨w7, rfl⟩ : ∃ w7 : World, w7 = wr := ⟨_, rfl⟩
              clear st6 hin6
              by_cases hkl2 : kk2 < l.length
              · have hkl2' : (kk2 : Int) < l.length := by omega
                have hs := blk_tabB st7.blk kk2 hkl2
                have hf := st7.blk.frozen kk2
                have hi2 := blk_tabB hin7 kk2 hkl2
                have hst := st7.set_ (f' := Hs.seenIn l i (kk2 + 1)) kk2 (Hs.seenIn l i kk2 kk2 || Hs.reach l x kk2) (fun j _ => HSEi.out kk2 j)
                have hfar := fun u => hin7.far (p := ⟨wB.heap.size, kk2, none⟩) (by simp; omega) u
                have HFAR := Lib.hid hfar
                clear hfar
                generalize Hs.seenIn l i kk2 kk2 = v1 at *
                generalize Hs.reach l x kk2 = v2 at *
                cases v1
                · simp only [Bool.false_or] at hst
                  go_wp2_with fail
                  go_roundw
                  case rel => exact ⟨kk2 + 1, by omega, by go_num, hst, HFAR.out _⟩
                  case measure => simp [intOf]; omega
                · simp only [Bool.true_or] at hst
                  go_wp2_with fail
                  go_roundw
                  case rel => exact ⟨kk2 + 1, by omega, by go_num, hst, HFAR.out _⟩
                  case measure => simp [intOf]; omega
              · obtain rfl : kk2 = l.length := by omega
                have st8 : TabBRel wB w7 l.length (Hs.seenAt l (i + 1)) := st7.congr fun j hj => by unfold Hs.seenIn; rw [if_pos hj]
                go_wp2_with fail
                go_roundw
                case rel => exact ⟨i + 1, by omega, by go_num, st8⟩
                case measure => simp [intOf]; omega
      · obtain rfl : i = (Hs.heads l).length := by omega
        have hfin : TabBRel wB w4 l.length (fun _ => true) := st.congr fun j hj => (HALL.out j hj).symm
        have hb4 := hb3.trans (st.bel.mono hsz3)
        clear st
        go_wp2_with fail
        go_loop [11] (fun v => ∃ kk : Nat, kk ≤ l.length ∧ v = .int .i64 kk) (fun v => l.length - (intOf v).toNat)
        case atStart => exact ⟨0, Nat.zero_le _, rfl⟩
        case round =>
          obtain ⟨kk, hk, rfl⟩ := hrel
          by_cases hkl : kk < l.length
          · have hkl' : (kk : Int) < l.length := by omega
            have hs := blk_tabB hfin.blk kk hkl
            go_wp2_with fail
            go_round
            case rel => exact ⟨kk + 1, by omega, by go_num⟩
            case measure => simp [intOf]; omega
          · obtain rfl : kk = l.length := by omega
            go_wp2_with fail
            go_ret
            exact ⟨rfl, hb4⟩
end Go.Proofs.Ytoohmkdgimkgoaa
