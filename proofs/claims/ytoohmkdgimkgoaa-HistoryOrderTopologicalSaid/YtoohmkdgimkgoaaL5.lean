/-
  HistoryOrderTopological: the law's walk.
-/
import Derived.Test.YtoohmkdgimkgoaaW13
import Derived.Test.YtoohmkdgimkgoaaPure4
namespace Go.Proofs.Ytoohmkdgimkgoaa
open Go.RowKit Go.V
set_option linter.unusedVariables false

theorem TabRel.congr {w wr : World} {n : Nat} {f f' : Nat → Int} (h : TabRel w wr n f) (hf : ∀ j, j < n → f' j = f j) : TabRel w wr n f' :=
  ⟨by have := h.blk; rw [← tab_congr (f := f') (g := f) hf] at this; exact this, h.bel⟩

set_option maxRecDepth 100000 in
set_option maxHeartbeats 4000000 in
theorem law5_any (w : World) (A : Option Addr) (k : Nat) (l : List Hs.Cm) (hv : CV w A l) (hl : l.length ≤ 9223372036854775807) :
    Calls Try.prog 5 #[.slice A l.length k] w fun e w' => e = .returned (.bool true) ∧ Below w.heap.size w w' := by
  have HA := Lib.hid (fun (w1 : World) h => order_any w1 A k l h hl)
  have HCa := Lib.hid (listRes_cases l (Hs.ints (Hs.order l)))
  go_enter Try.func5, Try.ntmps5
  go_wp2_with fail
  go_at_call 17
  refine (example_any _).mono ?_
  rintro e w1 ⟨rfl, hb1⟩
  have hsz1 := hb1.size
  go_wp2_with fail
  go_at_call 25
  refine (HA.out _ (hv.below hb1)).mono ?_
  generalize listRes l (Hs.ints (Hs.order l)) = ra at *
  obtain ⟨xa, ca, ia⟩ := ra
  rintro e w2 ⟨A2, c2, rfl, hc2, hv2, hb2'⟩
  have hb2 := hb1.trans (hb2'.mono hsz1)
  have hsz2 := hb2.size
  have hb3 := hb2.alloc hsz2 (.cells #[.int .i64 ca, .int .i64 ia] 26)
  have hv3 := hv2.alloc (.cells #[.int .i64 ca, .int .i64 ia] 26)
  clear hb2' hb1 hsz1 HA hv2
  simp only at hc2 hv3
  rcases HCa.out with ⟨ha1, ha2, _⟩ | ⟨hok, hra⟩
  · have ha1' : xa = [] := ha1
    have ha2 : ca ≠ 0 := ha2
    subst ha1'
    have ha3 : (ca == 0) = false := by simpa using ha2
    have ha4 : (ca != 0) = true := by simpa using ha2
    clear ha2 HCa
    go_wp2_with fail
    go_ret
    exact ⟨rfl, hb3⟩
  · injection hra with e1 e2
    injection e2 with e2 e3
    subst e1 e2 e3
    have h60 := hok.len
    have hlen : (Hs.order l).length = l.length := by simp [Hs.order]
    have hmk := run_make_row' (P := Try.prog) 37 3 (.int .i64 0) 8 Try.underlying37 info3 rfl .i64 .i64 l.length (by omega) (by omega)
    have HO := Lib.hid (fun (i : Nat) (hi : i < (Hs.order l).length) (wr : World) hbel => nat_at (wr := wr) hv3 hbel i hi)
    have HLT := Lib.hid hok.order_lt
    simp only [Hs.ints_length] at hc2 ⊢
    rw [hlen] at hc2 ⊢
    have HLEN := Lib.hid hlen
    clear hlen HCa hv3
    have hsz3 := hb3.size
    go_wp2_with fail
    have hz : w2.heap.size + 1 = (w2.alloc (.cells #[.int .i64 0, .int .i64 0] 26)).heap.size := by simp
    rw [hz]
    clear hz
    generalize hwB : w2.alloc (.cells #[.int .i64 0, .int .i64 0] 26) = wB at *
    clear hwB
    go_loopw [6] (fun v wr => ∃ i : Nat, i ≤ l.length ∧ v = .int .i64 i ∧ TabRel wB wr l.length (fun j => if j < i then -1 else 0)) (fun v _ => l.length - (intOf v).toNat)
    case atStart => exact ⟨0, Nat.zero_le _, rfl, by simpa using (⟨blk_made_int wB 3 l.length, below_alloc1 _ _⟩ : TabRel wB (wB.alloc (.cells (madeCells #[.int .i64 0] l.length) 3)) l.length fun _ => 0)⟩
    case round =>
      obtain ⟨i, hi, rfl, st⟩ := hrel
      obtain ⟨w4, rfl⟩ : ∃ w4 : World, w4 = wr := ⟨_, rfl⟩
      by_cases hil : i < l.length
      · have hil' : (i : Int) < l.length := by omega
        have hci := blk_tab st.blk i hil
        have hfi := st.blk.frozen i
        have hst := st.set_ (f' := fun j => if j < i + 1 then -1 else 0) i (-1) (fun j _ => by
          by_cases e : j = i
          · subst e; simp
          · have : (j < i + 1) ↔ j < i := by omega
            simp [e, this])
        go_wp2_with fail
        go_roundw
        case rel => exact ⟨i + 1, by omega, by go_num, hst⟩
        case measure => simp [intOf]; omega
      · obtain rfl : i = l.length := by omega
        have st0 : TabRel wB w4 l.length (Hs.posAt l 0) := st.congr fun j hj => by rw [if_pos hj]; rfl
        clear st
        go_wp2_with fail
        go_loopw [7] (fun v wr => ∃ i : Nat, i ≤ l.length ∧ v = .int .i64 i ∧ TabRel wB wr l.length (Hs.posAt l i)) (fun v _ => l.length - (intOf v).toNat)
        case atStart => exact ⟨0, Nat.zero_le _, rfl, st0⟩
        case round =>
          obtain ⟨i, hi, rfl, st⟩ := hrel
          obtain ⟨w5, rfl⟩ : ∃ w5 : World, w5 = wr := ⟨_, rfl⟩
          clear st0
          by_cases hil : i < l.length
          · have hil' : (i : Int) < l.length := by omega
            have hio : i < (Hs.order l).length := by rw [HLEN.out]; exact hil
            obtain ⟨b, off, e, hb, hc⟩ := HO.out i hio w5 st.bel
            subst e
            have hxl := HLT.out _ (List.getElem_mem hio)
            have hfr := hok.posAt_fresh i hio
            have HSU := Lib.hid (fun k => Hs.posAt_succ l i k hio)
            generalize (Hs.order l)[i] = x at *
            have hcx := blk_tab st.blk x hxl
            have hfx := st.blk.frozen x
            rw [hfr] at hcx
            have hxi : (x : Int) < l.length := by omega
            have hst := st.set_ (f' := Hs.posAt l (i + 1)) x i (fun j _ => HSU.out j)
            clear hfr
            go_wp2_with (go_at_call 21; refine (in_yes _ _ _ _ (by omega)).mono ?_; rintro e w' ⟨rfl, rfl⟩)
            go_roundw
            case rel => exact ⟨i + 1, by omega, by go_num, hst⟩
            case measure => simp [intOf]; omega
          · obtain rfl : i = l.length := by omega
            go_wp2_with fail
            go_loopw [8] (fun v wr => ∃ i n : Nat, i ≤ l.length ∧ v = .int .i64 i ∧ wr = w5.drewN n) (fun v _ => l.length - (intOf v).toNat)
            case atStart => exact ⟨0, 0, Nat.zero_le _, rfl, rfl⟩
            case round =>
              obtain ⟨i, n, hi, rfl, rfl⟩ := hrel
              have hbel5 := hb3.trans (st.bel.mono hsz3)
              by_cases hil : i < l.length
              · have hil' : (i : Int) < l.length := by omega
                have hci := blk_tab st.blk i hil
                obtain ⟨b, off, Ap, kp, e, hb, c0, _, _, _, _, _, hip⟩ := hv.rowIn hbel5 i hil
                subst e
                have HP := Lib.hid (hok.par_nat i · hil)
                have HPO := Lib.hid (hok.pos_lt i)
                have hpl := hok.par_len i hil
                have hbdi := Hs.posAt_bd l l.length i
                generalize l[i] = c at *
                go_wp2_with fail
                go_loopw [9] (fun v wr => ∃ j n : Nat, j ≤ c.par.length ∧ v = .int .i64 j ∧ wr = w5.drewN n) (fun v _ => c.par.length - (intOf v).toNat)
                case atStart => exact ⟨0, n, Nat.zero_le _, rfl, rfl⟩
                case round =>
                  obtain ⟨j, n, hj, rfl, rfl⟩ := hrel
                  by_cases hjl : j < c.par.length
                  · obtain ⟨b', off', e', hb', hc'⟩ := hip.atIn hbel5 j hjl
                    subst e'
                    obtain ⟨p, hp, hpi, hj', hpe⟩ := HP.out j hjl
                    rw [hp] at hc'
                    have hcp := blk_tab st.blk p (by omega)
                    have hlt := HPO.out p (by rw [← hpe]; exact List.getElem_mem hj')
                    have hpn : (p : Int) < l.length := by omega
                    have hjl' : (j : Int) < c.par.length := by omega
                    have hle : decide (Hs.posAt l l.length p ≤ Hs.posAt l l.length i) = false := by simp; omega
                    clear hp hpe
                    generalize Hs.posAt l l.length p = v1 at *
                    generalize Hs.posAt l l.length i = v2 at *
                    go_wp2_with fail
                    go_quiet (fail)
                    go_wp2_with fail
                    go_roundw
                    case rel => exact ⟨j + 1, _, by omega, by go_num, rfl⟩
                    case measure => simp [intOf]; omega
                  · obtain rfl : j = c.par.length := by omega
                    go_wp2_with fail
                    go_roundw
                    case rel => exact ⟨i + 1, _, by omega, by go_num, rfl⟩
                    case measure => simp [intOf]; omega
              · obtain rfl : i = l.length := by omega
                go_wp2_with fail
                go_ret
                exact ⟨rfl, below_drewN hbel5 _⟩
end Go.Proofs.Ytoohmkdgimkgoaa
