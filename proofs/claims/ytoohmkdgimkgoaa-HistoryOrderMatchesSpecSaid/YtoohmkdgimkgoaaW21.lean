/-
  Histories: walk of the reference's 'GenerationsOf'.
-/
import Derived.Test.YtoohmkdgimkgoaaW20
import Derived.Test.YtoohmkdgimkgoaaW19
import Derived.Deep.LoopGhost
namespace Go.Proofs.Ytoohmkdgimkgoaa
open Go.RowKit Go.V
set_option linter.unusedVariables false

theorem TabRel.cong {w wr : World} {n : Nat} {f f' : Nat → Int} (h : TabRel w wr n f) (hf : ∀ j, j < n → f' j = f j) : TabRel w wr n f' :=
  ⟨by have := h.blk; rw [← tab_congr (f := f') (g := f) hf] at this; exact this, h.bel⟩

set_option maxRecDepth 100000 in
set_option maxHeartbeats 8000000 in
theorem gensOf_any (w : World) (A : Option Addr) (k : Nat) (l : List Hs.Cm) (hv : CV w A l) (hok : Hs.Ok l) :
    Calls Try.prog 36 #[.slice A l.length k] w (BoPost w (tab l.length (Hs.gen l))) := by
  have hl := hok.len
  have hmk := run_make_row' (P := Try.prog) 37 3 (.int .i64 0) 8 Try.underlying37 info3 rfl .i64 .i64 l.length (by omega) (by omega)
  go_enter Try.func36, Try.ntmps36
  go_wp2_with fail
  go_loopg [4] 2 (fun g v wr => (g = 2 ∧ v = .bool true ∧ TabRel w wr l.length (fun _ => 0)) ∨ (g = 1 ∧ v = .bool true ∧ TabRel w wr l.length (Hs.gen l)) ∨ (g = 0 ∧ v = .bool false ∧ TabRel w wr l.length (Hs.gen l)))
  case atStart => exact .inl ⟨rfl, rfl, ⟨blk_made_int _ _ _, below_alloc1 _ _⟩⟩
  case round =>
    obtain ⟨wo, rfl⟩ : ∃ wo : World, wo = wr := ⟨_, rfl⟩
    rcases hrel with ⟨rfl, rfl, st⟩ | ⟨rfl, rfl, st⟩ | ⟨rfl, rfl, st⟩
    · go_wp2_with fail
      go_loopw [4, 5] (fun bv iv wr => ∃ i : Nat, i ≤ l.length ∧ bv = .bool (decide (0 < i)) ∧ iv = .int .i64 i ∧ TabRel w wr l.length (Hs.mixT l i)) (fun _ iv _ => l.length - (intOf iv).toNat)
      case atStart => exact ⟨0, Nat.zero_le _, rfl, rfl, st.cong fun j _ => by simp [Hs.mixT]⟩
      case round =>
        obtain ⟨i, hi, rfl, rfl, st2⟩ := hrel
        obtain ⟨w2, rfl⟩ : ∃ w2 : World, w2 = wr := ⟨_, rfl⟩
        clear st
        by_cases hlt : i < l.length
        · have hlt' : (i : Int) < l.length := by omega
          obtain ⟨b, off, Ap, kp, e, hb, c0, c1, c2, c3, c4, hok', hip⟩ := hv.rowIn st2.bel i hlt
          subst e
          have HP := Lib.hid (hok.par_nat i · hlt)
          have HB := Lib.hid (fun kk hk => Hs.genF_bd l (Hs.gen l) i l.length (by omega) (Hs.genT_bd l l.length) kk hk)
          have HB2 := Lib.hid (Hs.genT_bd l l.length)
          have hpl := hok.par_len i hlt
          have HPL := Lib.hid (Hs.pars_length l i hlt)
          have HS := Lib.hid (Hs.genF_succ l (Hs.gen l) i)
          have HFIX := Lib.hid (show Hs.genF l (Hs.gen l) i l[i].par.length = Hs.gen l i from by rw [← Hs.pars_length l i hlt]; exact hok.gen_fix i hlt (Hs.gen l) fun _ _ => rfl)
          have hpos := hok.gen_pos i hlt
          have HCELL := Lib.hid (fun p hp => blk_tab st2.blk p hp)
          have hci := blk_tab st2.blk i hlt
          have hfi := st2.blk.frozen i
          generalize l[i] = c at *
          obtain ⟨p1, p2, p3, p4, p5, p6⟩ := hok'
          clear p2 p3 p4 p5 p6
          go_wp2_with fail
          go_loop [6, 7] (fun nv kv => ∃ j : Nat, j ≤ c.par.length ∧ nv = .int .i64 (Hs.genF l (Hs.gen l) i j) ∧ kv = .int .i64 j) (fun _ kv => c.par.length - (intOf kv).toNat)
          case atStart => exact ⟨0, Nat.zero_le _, by rw [Hs.genF_zero], rfl⟩
          case round =>
            obtain ⟨j, hj, rfl, rfl⟩ := hrel
            by_cases hjl : j < c.par.length
            · have hjl' : (j : Int) < c.par.length := by omega
              obtain ⟨b', off', e', hb', hc'⟩ := hip.atIn st2.bel j hjl
              subst e'
              obtain ⟨p, hp, hpi, hj', hpe⟩ := HP.out j hjl
              rw [hp] at hc'
              have hcp := HCELL.out p (by omega)
              have hs := HS.out j hj'
              rw [hpe] at hs
              have hb1 := HB.out j (by rw [HPL.out]; omega)
              have hb2 := HB2.out p
              have hpn : (p : Int) < l.length := by omega
              have e1 : Hs.mixT l i p = Hs.gen l p := by unfold Hs.mixT; rw [if_pos hpi]
              rw [e1] at hcp
              have hb2' : 0 ≤ Hs.gen l p ∧ Hs.gen l p ≤ l.length := hb2
              clear hp hpe hb2
              generalize Hs.genF l (Hs.gen l) i j = v1 at *
              generalize Hs.gen l p = v2 at *
              by_cases hmx : v1 < 1 + v2
              · have HSS := Lib.hid (show Hs.genF l (Hs.gen l) i (j + 1) = 1 + v2 from by rw [hs]; omega)
                clear hs
                go_wp2_with fail
                go_round
                case rel => exact ⟨j + 1, by omega, by rw [HSS.out], by go_num⟩
                case measure => simp [intOf]; omega
              · have HSS := Lib.hid (show Hs.genF l (Hs.gen l) i (j + 1) = v1 from by rw [hs]; omega)
                clear hs
                go_wp2_with fail
                go_round
                case rel => exact ⟨j + 1, by omega, by rw [HSS.out], by go_num⟩
                case measure => simp [intOf]; omega
            · obtain rfl : j = c.par.length := by omega
              rw [HFIX.out]
              have e2 : Hs.mixT l i i = 0 := by unfold Hs.mixT; rw [if_neg (by omega)]
              rw [e2] at hci
              have st3 := st2.set_ (f' := Hs.mixT l (i + 1)) i (Hs.gen l i) (fun q _ => by
                unfold Hs.mixT
                by_cases e : q = i
                · subst e; rw [if_pos (by omega), if_pos rfl]
                · have : q < i + 1 ↔ q < i := by omega
                  rw [if_neg e]; simp only [this])
              have g1 : (Hs.gen l i != 0) = true := by simp; omega
              have hgs : decide (0 < i + 1) = true := by simp
              have HGS := Lib.hid hgs
              clear e2 hgs HS HB HB2 HCELL HFIX st2
              generalize Hs.gen l i = v at *
              go_wp2_with fail
              go_roundw
              case rel => exact ⟨i + 1, by omega, by rw [HGS.out], by go_num, st3⟩
              case measure => simp [intOf]; omega
        · obtain rfl : i = l.length := by omega
          have st3 : TabRel w w2 l.length (Hs.gen l) := st2.cong fun j hj => by unfold Hs.mixT; rw [if_pos hj]
          go_wp2_with fail
          by_cases h0 : l.length = 0
          · have h1 : decide (0 < l.length) = false := by simp [h0]
            rw [h1]
            go_roundg 0
            case rel => exact .inr (.inr ⟨rfl, rfl, st3⟩)
            case measure => omega
          · have h1 : decide (0 < l.length) = true := by simp; omega
            rw [h1]
            go_roundg 1
            case rel => exact .inr (.inl ⟨rfl, rfl, st3⟩)
            case measure => omega
    · go_wp2_with fail
      go_loopw [4, 5] (fun bv iv wr => ∃ i : Nat, i ≤ l.length ∧ bv = .bool false ∧ iv = .int .i64 i ∧ TabRel w wr l.length (Hs.gen l)) (fun _ iv _ => l.length - (intOf iv).toNat)
      case atStart => exact ⟨0, Nat.zero_le _, rfl, rfl, st⟩
      case round =>
        obtain ⟨i, hi, rfl, rfl, st2⟩ := hrel
        obtain ⟨w2, rfl⟩ : ∃ w2 : World, w2 = wr := ⟨_, rfl⟩
        clear st
        by_cases hlt : i < l.length
        · have hlt' : (i : Int) < l.length := by omega
          obtain ⟨b, off, Ap, kp, e, hb, c0, c1, c2, c3, c4, hok', hip⟩ := hv.rowIn st2.bel i hlt
          subst e
          have HP := Lib.hid (hok.par_nat i · hlt)
          have HB := Lib.hid (fun kk hk => Hs.genF_bd l (Hs.gen l) i l.length (by omega) (Hs.genT_bd l l.length) kk hk)
          have HB2 := Lib.hid (Hs.genT_bd l l.length)
          have hpl := hok.par_len i hlt
          have HPL := Lib.hid (Hs.pars_length l i hlt)
          have HS := Lib.hid (Hs.genF_succ l (Hs.gen l) i)
          have HFIX := Lib.hid (show Hs.genF l (Hs.gen l) i l[i].par.length = Hs.gen l i from by rw [← Hs.pars_length l i hlt]; exact hok.gen_fix i hlt (Hs.gen l) fun _ _ => rfl)
          have hpos := hok.gen_pos i hlt
          have HCELL := Lib.hid (fun p hp => blk_tab st2.blk p hp)
          have hci := blk_tab st2.blk i hlt
          have hfi := st2.blk.frozen i
          generalize l[i] = c at *
          obtain ⟨p1, p2, p3, p4, p5, p6⟩ := hok'
          clear p2 p3 p4 p5 p6
          go_wp2_with fail
          go_loop [6, 7] (fun nv kv => ∃ j : Nat, j ≤ c.par.length ∧ nv = .int .i64 (Hs.genF l (Hs.gen l) i j) ∧ kv = .int .i64 j) (fun _ kv => c.par.length - (intOf kv).toNat)
          case atStart => exact ⟨0, Nat.zero_le _, by rw [Hs.genF_zero], rfl⟩
          case round =>
            obtain ⟨j, hj, rfl, rfl⟩ := hrel
            by_cases hjl : j < c.par.length
            · have hjl' : (j : Int) < c.par.length := by omega
              obtain ⟨b', off', e', hb', hc'⟩ := hip.atIn st2.bel j hjl
              subst e'
              obtain ⟨p, hp, hpi, hj', hpe⟩ := HP.out j hjl
              rw [hp] at hc'
              have hcp := HCELL.out p (by omega)
              have hs := HS.out j hj'
              rw [hpe] at hs
              have hb1 := HB.out j (by rw [HPL.out]; omega)
              have hb2 := HB2.out p
              have hpn : (p : Int) < l.length := by omega
              have e1 : Hs.gen l p = Hs.gen l p := by rfl
              clear e1
              have hb2' : 0 ≤ Hs.gen l p ∧ Hs.gen l p ≤ l.length := hb2
              clear hp hpe hb2
              generalize Hs.genF l (Hs.gen l) i j = v1 at *
              generalize Hs.gen l p = v2 at *
              by_cases hmx : v1 < 1 + v2
              · have HSS := Lib.hid (show Hs.genF l (Hs.gen l) i (j + 1) = 1 + v2 from by rw [hs]; omega)
                clear hs
                go_wp2_with fail
                go_round
                case rel => exact ⟨j + 1, by omega, by rw [HSS.out], by go_num⟩
                case measure => simp [intOf]; omega
              · have HSS := Lib.hid (show Hs.genF l (Hs.gen l) i (j + 1) = v1 from by rw [hs]; omega)
                clear hs
                go_wp2_with fail
                go_round
                case rel => exact ⟨j + 1, by omega, by rw [HSS.out], by go_num⟩
                case measure => simp [intOf]; omega
            · obtain rfl : j = c.par.length := by omega
              rw [HFIX.out]
              clear HS HB HB2 HCELL HFIX
              generalize Hs.gen l i = v at *
              have g1 : (v != v) = false := by simp
              go_wp2_with fail
              go_roundw
              case rel => exact ⟨i + 1, by omega, rfl, by go_num, st2⟩
              case measure => simp [intOf]; omega
        · obtain rfl : i = l.length := by omega
          go_wp2_with fail
          go_roundg 0
          case rel => exact .inr (.inr ⟨rfl, rfl, st2⟩)
          case measure => omega
    · go_wp2_with fail
      go_ret
      exact ⟨_, _, by rw [tab_length]; rfl, by rw [tab_length]; exact Nat.le_refl _, SV.of_ints st.blk, st.bel⟩
end Go.Proofs.Ytoohmkdgimkgoaa
