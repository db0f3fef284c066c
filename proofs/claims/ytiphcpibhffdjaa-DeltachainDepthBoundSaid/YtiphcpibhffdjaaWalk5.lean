/-
  Walks of the delta chain: the reference's 'ApplyDelta'.
-/
import Derived.Test.YtiphcpibhffdjaaWalk4
namespace Go.Proofs.Ytiphcpibhffdjaa
open Go.RowKit Go.V
set_option linter.unusedVariables false

/-- What lies in the rounds of the reference's loop. -/
structure RefSt (w wr : World) (A : Option Addr) (c : Nat) (out : List UInt8) : Prop where
  own : wr.ownsRow w.heap.size 5 1 (.slice A out.length c) out.length (bytesV out)
  blk : Blk wr w.heap.size 26 #[.int .i64 0, .int .i64 0]
  bel : Below w.heap.size w wr
theorem RefSt.alloc {w wr : World} {A : Option Addr} {c : Nat} {out : List UInt8} (h : RefSt w wr A c out) (o : Obj) : RefSt w (wr.alloc o) A c out :=
  ⟨h.own.alloc o, h.blk.alloc o, h.bel.alloc h.bel.size o⟩
theorem RefSt.app {w wr w' : World} {A A' : Option Addr} {c c' n : Nat} {out : List UInt8} {x : UInt8} (h : RefSt w wr A c out) (o : Obj) (hg : (wr.alloc o).grownBy w' (Value.slice A out.length c).ownBlock)
    (hn : n = (out ++ [x]).length) (hown : w'.ownsRow w.heap.size 5 1 (.slice A' n c') n (bytesV out ++ [.int .u8 x.toNat])) : RefSt w w' A' c' (out ++ [x]) := by
  obtain ⟨k1, k2, k3⟩ := app_keep h.own o hg h.bel.size
  subst hn
  exact ⟨by simpa [bytesV] using hown, k1 _ _ _ (by decide) h.blk, k2 _ _ (Nat.le_refl _) h.bel⟩

section
variable (w : World) (A1 A2 : Option Addr) (c1 c2 : Nat) (base : List UInt8) (ops : List Dc.Op) (vs : List Value)

theorem take_snoc (l : List UInt8) (k : Nat) (h : k < l.length) : l.take (k + 1) = l.take k ++ [l[k]] := by
  rw [List.take_succ_eq_append_getElem h]

set_option maxRecDepth 100000 in
set_option maxHeartbeats 8000000 in
theorem applyDelta_any (h1 : SV w w.heap.size A1 (bytesV base)) (hc1 : base.length ≤ c1) (hr : RowsR (OpR w w.heap.size) ops vs) (h2 : SV w w.heap.size A2 vs)
    (hb : base.length ≤ 9223372036854775807) (ho : ops.length ≤ 9223372036854775807) :
    Calls Try.prog 16 #[.slice A1 base.length c1, .slice A2 ops.length c2] w (ApplyPost w (Dc.apply base ops)) := by
  obtain ⟨i0, hi0, hz0, hz1, hz2⟩ := info_parts info5
  by_cases hb1 : 1000 < base.length
  · have H := Lib.hid (show Dc.apply base ops = ([], (10, -1)) from by unfold Dc.apply; rw [if_pos hb1])
    go_enter Try.func16, Try.ntmps16
    go_wp2_with (go_at_call 12; refine (fault_any _ _ _).mono ?_; rintro e w' ⟨rfl, rfl⟩)
    refine bodyPost_ret (v := .tuple #[.slice none 0 0, .agg #[.int .i64 10, .int .i64 (-1)]]) (by simp [results, Try.results16, go_sem]) rfl (ApplyPost.fail_ H ?_)
    exact ((Below.refl _ _).alloc (Nat.le_refl _) _).alloc (by simp) _
  · by_cases ho1 : 1000 < ops.length
    · have H := Lib.hid (show Dc.apply base ops = ([], (2, -1)) from by unfold Dc.apply; rw [if_neg hb1, if_pos ho1])
      go_enter Try.func16, Try.ntmps16
      go_wp2_with (go_at_call 12; refine (fault_any _ _ _).mono ?_; rintro e w' ⟨rfl, rfl⟩)
      refine bodyPost_ret (v := .tuple #[.slice none 0 0, .agg #[.int .i64 2, .int .i64 (-1)]]) (by simp [results, Try.results16, go_sem]) rfl (ApplyPost.fail_ H ?_)
      exact ((Below.refl _ _).alloc (Nat.le_refl _) _).alloc (by simp) _
    · have H := Lib.hid (show Dc.apply base ops = Dc.applyGo base 0 [] (ops.drop 0) from by unfold Dc.apply; rw [if_neg hb1, if_neg ho1]; rfl)
      have hb2 : base.length ≤ 1000 := by omega
      have ho2 : ops.length ≤ 1000 := by omega
      clear hb ho
      go_enter Try.func16, Try.ntmps16
      go_wp2_with fail
      go_loopw [6, 7] (fun v k wr => ∃ (i : Nat) (out : List UInt8) (A : Option Addr) (c : Nat), i ≤ ops.length ∧ k = .int .i64 i ∧ v = .slice A out.length c ∧ out.length ≤ 1000 ∧
          RefSt w wr A c out ∧ Hid (Dc.applyGo base 0 [] (ops.drop 0) = Dc.applyGo base i out (ops.drop i))) (fun _ k _ => ops.length - (intOf k).toNat)
      case atStart => exact ⟨0, [], none, 0, Nat.zero_le _, rfl, rfl, by simp, ⟨World.ownsRow_nil _ _ _ _, Blk.new _ _ _, (Below.refl _ _).alloc (Nat.le_refl _) _⟩, rfl⟩
      case round =>
        obtain ⟨i, out, A, c, hi, rfl, rfl, hol, st, hgo⟩ := hrel
        obtain ⟨wo, rfl⟩ : ∃ wo : World, wo = wr := ⟨_, rfl⟩
        have hsz := st.bel.size
        have hlt0 := st.blk.lt
        by_cases hlt : i < ops.length
        · obtain ⟨b, off', cs, rfl, hbb, ⟨A3, c3, rfl, hd3, hd4, hoff, hlen, hsv⟩, hcell⟩ := SV.row OpR.len (by omega) h2 hr i hlt
          have g0 : wo.cell? ⟨b, off' + i * 3, none⟩ = _ := (st.bel.cell (p := ⟨b, off' + i * 3 + 0, none⟩) hbb).trans (hcell 0 _ rfl)
          have g1 := (st.bel.cell (p := ⟨b, off' + i * 3 + 1, none⟩) (by exact hbb)).trans (hcell 1 _ rfl)
          have g2 := (st.bel.cell (p := ⟨b, off' + i * 3 + 2, none⟩) (by exact hbb)).trans (hcell 2 _ rfl)
          clear hcell
          have HG := Lib.hid (applyGo_drop base ops i out hlt)
          generalize ops[i] = o at *
          obtain ⟨off, len, data⟩ := o
          simp only at g0 g1 g2 hd3 hd4 hoff hlen hsv
          unfold I64 at hoff hlen
          have hc0 := st.blk.cell 0
          have hc1' := st.blk.cell 1
          have hf0 := st.blk.frozen 0
          have hf1 := st.blk.frozen 1
          simp only [List.getElem?_toArray, List.getElem?_cons_zero, List.getElem?_cons_succ] at hc0 hc1'
          by_cases hbad : len < 0 ∨ 0 < len ∧ (off < 0 ∨ (base.length : Int) < off ∨ (base.length : Int) - off < len)
          · have e3 : Dc.run base out ⟨off, len, data⟩ = ([], 3) := by unfold Dc.run; rw [if_pos hbad]
            have HF := Lib.hid (H.out.trans (hgo.out.trans (HG.out.trans (by rw [if_neg (by rw [e3]; decide), e3] : _ = (([] : List UInt8), ((3 : Int), (i : Int)))))))
            clear e3
            rcases hbad with hbad | ⟨hp, hbad⟩
            · have y0 : decide (len < 0) = true := by simpa using hbad
              go_wp2_with (first | (go_at_call 12; refine (fault_any _ _ _).mono ?_; rintro e w' ⟨rfl, rfl⟩) | (go_at_call 18; refine (in_any _ _ _ _).mono ?_; rintro e w' ⟨rfl, rfl⟩))
              refine bodyPost_ret (results_tc rfl _ _ w.heap.size (.int .i64 3) (.int .i64 i) rfl (((blk_put2 st.blk _ _).alloc _).alloc _)) rfl (ApplyPost.fail_ HF ?_)
              exact (((st.bel.setCell (by simp) _).setCell (by simp) _).alloc (by simp; omega) _).alloc (by simp; omega) _
            · have y0 : decide (len < 0) = false := by simp; omega
              by_cases hx0 : off < 0
              · have y1 : decide (0 ≤ off) = false := by simpa using hx0
                go_wp2_with (first | (go_at_call 12; refine (fault_any _ _ _).mono ?_; rintro e w' ⟨rfl, rfl⟩) | (go_at_call 18; refine (in_any _ _ _ _).mono ?_; rintro e w' ⟨rfl, rfl⟩))
                refine bodyPost_ret (results_tc rfl _ _ w.heap.size (.int .i64 3) (.int .i64 i) rfl (((blk_put2 st.blk _ _).alloc _).alloc _)) rfl (ApplyPost.fail_ HF ?_)
                exact (((st.bel.setCell (by simp) _).setCell (by simp) _).alloc (by simp; omega) _).alloc (by simp; omega) _
              · have y1 : decide (0 ≤ off) = true := by simpa using hx0
                by_cases hx1 : (base.length : Int) < off
                · have y2 : decide (off ≤ (base.length : Int)) = false := by simpa using hx1
                  go_wp2_with (first | (go_at_call 12; refine (fault_any _ _ _).mono ?_; rintro e w' ⟨rfl, rfl⟩) | (go_at_call 18; refine (in_any _ _ _ _).mono ?_; rintro e w' ⟨rfl, rfl⟩))
                  refine bodyPost_ret (results_tc rfl _ _ w.heap.size (.int .i64 3) (.int .i64 i) rfl (((blk_put2 st.blk _ _).alloc _).alloc _)) rfl (ApplyPost.fail_ HF ?_)
                  exact (((st.bel.setCell (by simp) _).setCell (by simp) _).alloc (by simp; omega) _).alloc (by simp; omega) _
                · have y2 : decide (off ≤ (base.length : Int)) = true := by simpa using hx1
                  have y3 : (base.length : Int) - off < len := by omega
                  go_wp2_with (first | (go_at_call 12; refine (fault_any _ _ _).mono ?_; rintro e w' ⟨rfl, rfl⟩) | (go_at_call 18; refine (in_any _ _ _ _).mono ?_; rintro e w' ⟨rfl, rfl⟩))
                  refine bodyPost_ret (results_tc rfl _ _ w.heap.size (.int .i64 3) (.int .i64 i) rfl (((blk_put2 st.blk _ _).alloc _).alloc _)) rfl (ApplyPost.fail_ HF ?_)
                  exact (((st.bel.setCell (by simp) _).setCell (by simp) _).alloc (by simp; omega) _).alloc (by simp; omega) _
          · by_cases hbad2 : 0 < len ∧ 0 < data.length ∨ ¬ 0 < len ∧ (off ≠ 0 ∨ data.length = 0)
            · have e3 : Dc.run base out ⟨off, len, data⟩ = ([], 5) := by unfold Dc.run; rw [if_neg hbad, if_pos hbad2]
              have HF := Lib.hid (H.out.trans (hgo.out.trans (HG.out.trans (by rw [if_neg (by rw [e3]; decide), e3] : _ = (([] : List UInt8), ((5 : Int), (i : Int)))))))
              clear e3
              have y0 : decide (len < 0) = false := by simp; omega
              rcases hbad2 with ⟨hp, hda⟩ | ⟨hp, hda⟩
              · have y1 : decide (0 ≤ off) = true := by simp; omega
                have y2 : decide (off ≤ (base.length : Int)) = true := by simp; omega
                have y3 : decide ((base.length : Int) - off < len) = false := by simp; omega
                have y4 : (0 : Int) < data.length := by omega
                go_wp2_with (first | (go_at_call 12; refine (fault_any _ _ _).mono ?_; rintro e w' ⟨rfl, rfl⟩) | (go_at_call 18; refine (in_any _ _ _ _).mono ?_; rintro e w' ⟨rfl, rfl⟩))
                refine bodyPost_ret (results_tc rfl _ _ w.heap.size (.int .i64 5) (.int .i64 i) rfl (((blk_put2 st.blk _ _).alloc _).alloc _)) rfl (ApplyPost.fail_ HF ?_)
                exact (((st.bel.setCell (by simp) _).setCell (by simp) _).alloc (by simp; omega) _).alloc (by simp; omega) _
              · obtain rfl : len = 0 := by omega
                by_cases hd0 : data.length = 0
                · obtain rfl : data = [] := List.eq_nil_of_length_eq_zero hd0
                  go_wp2_with (first | (go_at_call 12; refine (fault_any _ _ _).mono ?_; rintro e w' ⟨rfl, rfl⟩) | (go_at_call 18; refine (in_any _ _ _ _).mono ?_; rintro e w' ⟨rfl, rfl⟩))
                  refine bodyPost_ret (results_tc rfl _ _ w.heap.size (.int .i64 5) (.int .i64 i) rfl (((blk_put2 st.blk _ _).alloc _).alloc _)) rfl (ApplyPost.fail_ HF ?_)
                  exact (((st.bel.setCell (by simp) _).setCell (by simp) _).alloc (by simp; omega) _).alloc (by simp; omega) _
                · have y4 : (0 : Int) < data.length := by omega
                  have y5 : (off != 0) = true := by simp; omega
                  clear hda
                  go_wp2_with (first | (go_at_call 12; refine (fault_any _ _ _).mono ?_; rintro e w' ⟨rfl, rfl⟩) | (go_at_call 18; refine (in_any _ _ _ _).mono ?_; rintro e w' ⟨rfl, rfl⟩))
                  refine bodyPost_ret (results_tc rfl _ _ w.heap.size (.int .i64 5) (.int .i64 i) rfl (((blk_put2 st.blk _ _).alloc _).alloc _)) rfl (ApplyPost.fail_ HF ?_)
                  exact (((st.bel.setCell (by simp) _).setCell (by simp) _).alloc (by simp; omega) _).alloc (by simp; omega) _
            · -- valid: the two loops
              obtain ⟨m, rfl⟩ := Int.eq_ofNat_of_zero_le (show 0 ≤ len by omega)
              have hsplit : (0 < m ∧ 0 ≤ off ∧ off + m ≤ base.length ∧ data.length = 0) ∨ (m = 0 ∧ off = 0 ∧ 0 < data.length) := by omega
              have hrange : 0 < m → ∃ f : Nat, off = f ∧ f + m ≤ base.length := fun hp => ⟨off.toNat, by omega, by omega⟩
              have hcopy : ∃ cp : List UInt8, cp.length = m ∧ (Dc.run base out ⟨off, m, data⟩ = if (1000 : Int) < out.length + m + data.length then ([], 10) else (out ++ cp ++ data, 0)) ∧
                  ∀ j, (hj : j < cp.length) → ∃ b1 o1, A1 = some ⟨b1, o1, none⟩ ∧ b1 < w.heap.size ∧ ∃ f : Nat, off = f ∧ w.cell? ⟨b1, o1 + (f + j), none⟩ = some (.int .u8 cp[j].toNat) ∧ f + j < base.length := by
                by_cases hp : 0 < m
                · obtain ⟨f, rfl, hfm⟩ := hrange hp
                  have hd0 : data = [] := List.eq_nil_of_length_eq_zero (by omega)
                  refine ⟨(base.drop f).take m, by simp; omega, ?_, fun j hj => ?_⟩
                  · unfold Dc.run
                    rw [if_neg hbad, if_neg hbad2, if_pos (show (0 : Int) < (m : Int) by omega)]
                    simp [hd0]
                  · simp at hj
                    obtain ⟨b1, o1, e1, hb1, hc1⟩ := h1.byte (f + j) (by omega)
                    exact ⟨b1, o1, e1, hb1, f, rfl, by simpa using hc1, by omega⟩
                · obtain rfl : m = 0 := by omega
                  refine ⟨[], rfl, ?_, fun j hj => by simp at hj⟩
                  unfold Dc.run
                  rw [if_neg hbad, if_neg hbad2, if_neg (show ¬ (0 : Int) < ((0 : Nat) : Int) by omega)]
                  simp
              obtain ⟨cp, hcp, hrun, hcells⟩ := hcopy
              have hrun' : ((1000 : Int) < out.length + m + data.length ∧ Dc.run base out ⟨off, m, data⟩ = ([], 10)) ∨ (¬ (1000 : Int) < out.length + m + data.length ∧ Dc.run base out ⟨off, m, data⟩ = (out ++ cp ++ data, 0)) := by
                rw [hrun]; split <;> simp_all
              have HR := Lib.hid hrun'
              clear hrun hrun'
              have y0 : decide ((m : Int) < 0) = false := by simp
              clear hbad hbad2 hrange hc0 hc1' hf0 hf1
              have hA1 : ∀ j, (hj : j < cp.length) → ∃ b1 o1, A1 = some ⟨b1, o1, none⟩ ∧ b1 < w.heap.size ∧ ∃ f : Nat, off = f ∧ w.cell? ⟨b1, o1 + (f + j), none⟩ = some (.int .u8 cp[j].toNat) ∧ f + j < base.length := hcells
              have HC := Lib.hid hA1
              clear hcells hA1
              have key : ∀ oj : List UInt8, oj = out ++ cp ++ data → (oj.length ≤ 1000 → Hid (Dc.applyGo base 0 [] (ops.drop 0) = Dc.applyGo base (i + 1) oj (ops.drop (i + 1)))) ∧ (1000 < oj.length → Hid (Dc.apply base ops = ([], (10, (i : Int))))) := by
                intro oj hoj
                have hlen : oj.length = out.length + m + data.length := by rw [hoj]; simp [hcp]; omega
                rcases HR.out with ⟨hbig, hr10⟩ | ⟨hbig, hr0⟩
                · refine ⟨fun h => by omega, fun _ => H.out.trans (hgo.out.trans (HG.out.trans ?_))⟩
                  rw [if_neg (by rw [hr10]; decide), hr10]
                · refine ⟨fun _ => hgo.out.trans (HG.out.trans ?_), fun h => by omega⟩
                  rw [if_pos (by rw [hr0]), hr0, hoj]
              have KEY := Lib.hid key
              clear key
              have hol2 : cp.length ≤ 1000 := by omega
              have HCP := Lib.hid hcp
              clear hcp
              rcases hsplit with ⟨hp, hz, hx1, hd0⟩ | ⟨rfl, rfl, hd0⟩
              · obtain rfl : data = [] := List.eq_nil_of_length_eq_zero hd0
                have y1 : decide (0 ≤ off) = true := by simpa using hz
                have y2 : decide (off ≤ (base.length : Int)) = true := by simp; omega
                have y3 : decide ((base.length : Int) - off < (m : Int)) = false := by simp; omega
                have y4 : (0 : Int) < (m : Int) := by omega
                have y5 : (m : Int) ≤ 1000 := by omega
                go_wp2_with (first | (go_at_call 12; refine (fault_any _ _ _).mono ?_; rintro e w' ⟨rfl, rfl⟩) | (go_at_call 18; refine (in_any _ _ _ _).mono ?_; rintro e w' ⟨rfl, rfl⟩))
                go_loopw [6, 9] (fun v k wx => ∃ (j : Nat) (oj : List UInt8) (A : Option Addr) (c : Nat), j ≤ cp.length ∧ k = .int .i64 j ∧ v = .slice A oj.length c ∧ RefSt w wx A c oj ∧ Blk wx wo.heap.size 37 #[.int .i64 off, .int .i64 m, .slice A3 0 c3] ∧ Hid (oj = out ++ cp.take j)) (fun _ k _ => cp.length - (intOf k).toNat)
                case atStart => exact ⟨0, out, A, c, Nat.zero_le _, rfl, rfl, st.alloc _, Blk.new _ _ _, by simp [Hid]⟩
                case round =>
                  obtain ⟨j, oj, A', c', hj, rfl, rfl, st1, hbx, HJ⟩ := hrel
                  obtain ⟨w1, rfl⟩ : ∃ w1 : World, w1 = wr := ⟨_, rfl⟩
                  have hsz1 := st1.bel.size
                  have hx0 := hbx.cell 0
                  have hx1 := hbx.cell 1
                  have hx2 := hbx.cell 2
                  simp only [List.getElem?_toArray, List.getElem?_cons_zero, List.getElem?_cons_succ] at hx0 hx1 hx2
                  have hmm : (cp.length : Int) = m := by rw [HCP.out]
                  by_cases hjl : j < cp.length
                  · obtain ⟨b1, o1, e1, hb1, f, e2, hcell, hfj⟩ := HC.out j hjl
                    subst e1 e2
                    have hcell1 := (st1.bel.cell (p := ⟨b1, o1 + (f + j), none⟩) hb1).trans hcell
                    have hjm : (j : Int) < (m : Int) := by omega
                    have hfj' : (f : Int) + j < base.length := by omega
                    have hojl : oj.length ≤ 2000 := by rw [HJ.out]; simp; omega
                    clear hcell hmm
                    go_wp2_with (first | (at_builtin; refine wpList_app1 _ rfl (.tmp 83) (.tmp 91) 22 rfl w.heap.size 5 i0 (.int .u8 0) 1 Try.underlying22 hi0 hz0 hz1 hz2 rfl A' _ c' (bytesV oj) rfl (st1.own.alloc _) _ _ (.int .u8 cp[j].toNat) rfl ?ha rfl ?hc ?hd ?he ?_))
                    case ha => simp [World.cell?_alloc_new]
                    case hc => simp [maxLen]; omega
                    case hd => omega
                    case he => simp; omega
                    intro A'' c'' w2 hown2 hg2 _
                    have st2 := st1.app (x := cp[j]) _ hg2 (by simp) hown2
                    have hbx2 := (app_keep st1.own _ hg2 hsz1).1 _ _ _ (by decide) hbx
                    clear hown2 hg2 hx0 hx1 hx2
                    go_wp2_with fail
                    go_roundw
                    case rel => exact ⟨j + 1, oj ++ [cp[j]], A'', c'', by omega, by go_num, by simp, st2, hbx2, by rw [Hid, take_snoc _ _ hjl, HJ.out, List.append_assoc]⟩
                    case measure => simp [intOf]; omega
                  · obtain rfl : j = cp.length := by omega
                    have hfin : oj = out ++ cp ++ [] := by rw [HJ.out]; simp
                    have hjm : (m : Int) ≤ (cp.length : Int) := by omega
                    clear hmm hjl hj
                    go_wp2_with fail
                    refine wp_loop_rounds 1 ?_
                    rw [rounds_succ]
                    by_cases hbig : 1000 < oj.length
                    · have HF := (KEY.out oj hfin).2 hbig
                      have hbig' : (1000 : Int) < oj.length := by omega
                      have hc0 := st1.blk.cell 0
                      have hc1' := st1.blk.cell 1
                      have hf0 := st1.blk.frozen 0
                      have hf1 := st1.blk.frozen 1
                      have hlt1 := st1.blk.lt
                      simp only [List.getElem?_toArray, List.getElem?_cons_zero, List.getElem?_cons_succ] at hc0 hc1'
                      clear hbig hfin
                      go_wp2_with (first | (go_at_call 12; refine (fault_any _ _ _).mono ?_; rintro e w' ⟨rfl, rfl⟩) | (go_at_call 18; refine (in_any _ _ _ _).mono ?_; rintro e w' ⟨rfl, rfl⟩))
                      refine bodyPost_ret (results_tc rfl _ _ w.heap.size (.int .i64 10) (.int .i64 i) rfl ((blk_put2 st1.blk _ _).alloc _)) rfl (ApplyPost.fail_ HF ?_)
                      exact (((st1.bel.setCell (by simp) _).setCell (by simp) _).alloc (by simp; omega) _)
                    · have HK := (KEY.out oj hfin).1 (by omega)
                      have hbig' : (oj.length : Int) ≤ 1000 := by omega
                      have hlk : oj.length ≤ 1000 := by omega
                      clear hbig hfin
                      go_wp2_with fail
                      go_roundw
                      case rel => exact ⟨i + 1, oj, A', c', by omega, by go_num, rfl, hlk, st1, HK⟩
                      case measure => simp [intOf]; omega
              · obtain rfl : cp = [] := List.eq_nil_of_length_eq_zero HCP.out
                have y4 : (0 : Int) < data.length := by omega
                go_wp2_with (first | (go_at_call 12; refine (fault_any _ _ _).mono ?_; rintro e w' ⟨rfl, rfl⟩) | (go_at_call 18; refine (in_any _ _ _ _).mono ?_; rintro e w' ⟨rfl, rfl⟩))
                refine wp_loop_rounds 1 ?_
                rw [rounds_succ]
                go_wp2_with fail
                go_loopw [6, 10] (fun v k wx => ∃ (j : Nat) (oj : List UInt8) (A : Option Addr) (c : Nat), j ≤ data.length ∧ k = .int .i64 j ∧ v = .slice A oj.length c ∧ oj.length ≤ 140737488352300 ∧ RefSt w wx A c oj ∧ Blk wx wo.heap.size 37 #[.int .i64 0, .int .i64 0, .slice A3 data.length c3] ∧ Hid (oj = out ++ data.take j)) (fun _ k _ => data.length - (intOf k).toNat)
                case atStart => exact ⟨0, out, A, c, Nat.zero_le _, rfl, rfl, by omega, st.alloc _, Blk.new _ _ _, by simp [Hid]⟩
                case round =>
                  obtain ⟨j, oj, A', c', hj, rfl, rfl, _, st1, hbx, HJ⟩ := hrel
                  obtain ⟨w1, rfl⟩ : ∃ w1 : World, w1 = wr := ⟨_, rfl⟩
                  have hsz1 := st1.bel.size
                  have hx0 := hbx.cell 0
                  have hx1 := hbx.cell 1
                  have hx2 := hbx.cell 2
                  simp only [List.getElem?_toArray, List.getElem?_cons_zero, List.getElem?_cons_succ] at hx0 hx1 hx2
                  by_cases hjl : j < data.length
                  · obtain ⟨b1, o1, e1, hb1, hcell⟩ := hsv.byte j hjl
                    subst e1
                    have hcell1 := (st1.bel.cell (p := ⟨b1, o1 + j, none⟩) hb1).trans hcell
                    have hojl : oj.length ≤ 1000 + j := by rw [HJ.out]; simp; omega
                    clear hcell
                    go_wp2_with (first | (at_builtin; refine wpList_app1 _ rfl (.tmp 100) (.tmp 106) 22 rfl w.heap.size 5 i0 (.int .u8 0) 1 Try.underlying22 hi0 hz0 hz1 hz2 rfl A' _ c' (bytesV oj) rfl (st1.own.alloc _) _ _ (.int .u8 data[j].toNat) rfl ?hia rfl ?hic ?hid ?hie ?_))
                    case hia => simp [World.cell?_alloc_new]
                    case hic => simp [maxLen]; omega
                    case hid => omega
                    case hie => simp; omega
                    intro A'' c'' w2 hown2 hg2 _
                    have st2 := st1.app (x := data[j]) _ hg2 (by simp) hown2
                    have hbx2 := (app_keep st1.own _ hg2 hsz1).1 _ _ _ (by decide) hbx
                    clear hown2 hg2 hx0 hx1 hx2
                    go_wp2_with fail
                    go_roundw
                    case rel => exact ⟨j + 1, oj ++ [data[j]], A'', c'', by omega, by go_num, by simp, by simp; omega, st2, hbx2, by rw [Hid, take_snoc _ _ hjl, HJ.out, List.append_assoc]⟩
                    case measure => simp [intOf]; omega
                  · obtain rfl : j = data.length := by omega
                    have hfin : oj = out ++ [] ++ data := by rw [HJ.out]; simp
                    clear hjl hj
                    by_cases hbig : 1000 < oj.length
                    · have HF := (KEY.out oj hfin).2 hbig
                      have hbig' : (1000 : Int) < oj.length := by omega
                      have hc0 := st1.blk.cell 0
                      have hc1' := st1.blk.cell 1
                      have hf0 := st1.blk.frozen 0
                      have hf1 := st1.blk.frozen 1
                      have hlt1 := st1.blk.lt
                      simp only [List.getElem?_toArray, List.getElem?_cons_zero, List.getElem?_cons_succ] at hc0 hc1'
                      clear hbig hfin
                      go_wp2_with (first | (go_at_call 12; refine (fault_any _ _ _).mono ?_; rintro e w' ⟨rfl, rfl⟩) | (go_at_call 18; refine (in_any _ _ _ _).mono ?_; rintro e w' ⟨rfl, rfl⟩))
                      refine bodyPost_ret (results_tc rfl _ _ w.heap.size (.int .i64 10) (.int .i64 i) rfl ((blk_put2 st1.blk _ _).alloc _)) rfl (ApplyPost.fail_ HF ?_)
                      exact (((st1.bel.setCell (by simp) _).setCell (by simp) _).alloc (by simp; omega) _)
                    · have HK := (KEY.out oj hfin).1 (by omega)
                      have hbig' : (oj.length : Int) ≤ 1000 := by omega
                      have hlk : oj.length ≤ 1000 := by omega
                      clear hbig hfin
                      go_wp2_with fail
                      go_roundw
                      case rel => exact ⟨i + 1, oj, A', c', by omega, by go_num, rfl, hlk, st1, HK⟩
                      case measure => simp [intOf]; omega
        · obtain rfl : i = ops.length := by omega
          have hc0 := st.blk.cell 0
          have hc1' := st.blk.cell 1
          have hf0 := st.blk.frozen 0
          have hf1 := st.blk.frozen 1
          simp only [List.getElem?_toArray, List.getElem?_cons_zero, List.getElem?_cons_succ] at hc0 hc1'
          go_wp2_with fail
          refine bodyPost_ret (results_tc rfl _ _ w.heap.size (.int .i64 0) (.int .i64 0) rfl (blk_put2 st.blk _ _)) rfl ?_
          · have e : Dc.apply base ops = (out, (0, 0)) := by
              rw [H.out, hgo.out, List.drop_length]; rfl
            rw [e]
            have hne : some w.heap.size ≠ (Value.slice A out.length c).ownBlock := own_blk_ne st.own st.blk (by decide)
            exact ⟨_, rfl, own_setCell (own_setCell st.own hne _) hne _, (st.bel.setCell (by simp) _).setCell (by simp) _⟩
end
end Go.Proofs.Ytiphcpibhffdjaa
