/-
  Histories: walk of the reference's 'BestOf'.
-/
import Derived.Test.YtoohmkdgimkgoaaL8
import Derived.Test.YtoohmkdgimkgoaaW11
import Derived.Test.YtoohmkdgimkgoaaW15
import Derived.Test.YtoohmkdgimkgoaaPure6
namespace Hs
def comAt (l : List Cm) (list : List Nat) (i k : Nat) : Bool := (list.take k).all fun n => reach l n i
theorem comAt_succ (l : List Cm) (list : List Nat) (i k : Nat) (h : k < list.length) : comAt l list i (k + 1) = (comAt l list i k && reach l list[k] i) := by
  unfold comAt; rw [List.take_succ_eq_append_getElem h, List.all_append]; simp
theorem comAt_all (l : List Cm) (list : List Nat) (i : Nat) : comAt l list i list.length = common l list i := by unfold comAt common; rw [List.take_length]
def comTo (l : List Cm) (list : List Nat) (i j : Nat) : Bool := if j < i then common l list j else false
def comIn (l : List Cm) (list : List Nat) (i k j : Nat) : Bool := if j = i then comAt l list i k else comTo l list i j
theorem comIn_zero (l : List Cm) (list : List Nat) (i j : Nat) : comIn l list i 0 j = if j = i then true else comTo l list i j := by
  unfold comIn comAt; simp
theorem comIn_succ (l : List Cm) (list : List Nat) (i k j : Nat) (h : k < list.length) : comIn l list i (k + 1) j = if j = i then (comAt l list i k && reach l list[k] i) else comIn l list i k j := by
  unfold comIn
  by_cases e : j = i
  · rw [if_pos e, if_pos e, comAt_succ l list i k h]
  · rw [if_neg e, if_neg e, if_neg e]
theorem comIn_all (l : List Cm) (list : List Nat) (i j : Nat) : comIn l list i list.length j = comTo l list (i + 1) j := by
  unfold comIn comTo
  by_cases e : j = i
  · subst e; rw [if_pos rfl, if_pos (by omega), comAt_all]
  · have : j < i + 1 ↔ j < i := by omega
    rw [if_neg e]; simp only [this]
def bestAt (l : List Cm) (com : Nat → Bool) (i k : Nat) : Bool := com i && (List.range k).all fun k => !(k != i && com k && reach l k i)
theorem bestAt_zero (l : List Cm) (com : Nat → Bool) (i : Nat) : bestAt l com i 0 = com i := by simp [bestAt]
theorem bestAt_succ (l : List Cm) (com : Nat → Bool) (i k : Nat) : bestAt l com i (k + 1) = (bestAt l com i k && !(k != i && com k && reach l k i)) := by
  unfold bestAt; rw [List.range_succ, List.all_append]; simp [Bool.and_assoc]
theorem bestAt_all (l : List Cm) (com : Nat → Bool) (i : Nat) : bestAt l com i l.length = isBest l com i := rfl
def bestTo (l : List Cm) (com : Nat → Bool) (i : Nat) : List Nat := (List.range i).filter (isBest l com)
theorem bestTo_yes (l : List Cm) (com : Nat → Bool) (i : Nat) (h : isBest l com i = true) : bestTo l com (i + 1) = bestTo l com i ++ [i] := by
  unfold bestTo; rw [List.range_succ, List.filter_append]; simp [h]
theorem bestTo_no (l : List Cm) (com : Nat → Bool) (i : Nat) (h : isBest l com i = false) : bestTo l com (i + 1) = bestTo l com i := by
  unfold bestTo; rw [List.range_succ, List.filter_append]; simp [h]
theorem bestTo_len (l : List Cm) (com : Nat → Bool) (i : Nat) : (bestTo l com i).length ≤ i := by
  have := List.length_filter_le (isBest l com) (List.range i)
  simpa [bestTo] using this
end Hs
namespace Go.Proofs.Ytoohmkdgimkgoaa
open Go.RowKit Go.V
set_option linter.unusedVariables false

theorem mv_cell {w wr : World} {At : Option Addr} {l : List Hs.Cm} (h : MV w At (reachM l l.length)) (hb : Below w.heap.size w wr) (x i : Nat) (hx : x < l.length) (hi : i < l.length) :
    ∃ b off b2 off2 c', At = some ⟨b, off, none⟩ ∧ wr.cell? ⟨b, off + x, none⟩ = some (.slice (some ⟨b2, off2, none⟩) l.length c') ∧ wr.cell? ⟨b2, off2 + i, none⟩ = some (.bool (Hs.reach l x i)) := by
  obtain ⟨b, off, A', c', e, _, hc, hbv⟩ := (h.below hb).at_ x (by simpa using hx)
  rw [reachM_get] at hc hbv
  obtain ⟨b2, off2, e2, _, hc2⟩ := anc_at hbv i hi
  subst e2
  rw [ancL_length] at hc
  exact ⟨b, off, b2, off2, c', e, hc, hc2⟩
structure BoSt (w1 wr : World) (l : List Hs.Cm) (com : Nat → Bool) (out : List Nat) (Ao : Option Addr) (co : Nat) : Prop where
  tab : TabBRel w1 wr l.length com
  own : wr.ownsRow (w1.heap.size + 1) 3 1 (.slice Ao out.length co) out.length (intsV (Hs.ints out))
theorem BoSt.app {w1 wr w' : World} {l : List Hs.Cm} {com : Nat → Bool} {out : List Nat} {i c' : Nat} {Ao A' : Option Addr} {co : Nat} (h : BoSt w1 wr l com out Ao co) (o : Obj)
    (hg : (wr.alloc o).grownBy w' (Value.slice Ao out.length co).ownBlock) (hown : w'.ownsRow (w1.heap.size + 1) 3 1 (.slice A' (out.length + 1) c') (out.length + 1) (intsV (Hs.ints out) ++ [.int .i64 i])) : BoSt w1 w' l com (out ++ [i]) A' c' := by
  have hlt := h.tab.blk.lt
  refine ⟨⟨blk_app h.own o hg h.tab.blk (by omega), below_append (h.tab.bel.alloc h.tab.bel.size o) (h.own.alloc o) hg (by omega) (by simp; omega)⟩, ?_⟩
  rw [Hs.ints_append, intsV_append, List.length_append]
  exact hown
def BoPost (w : World) (xs : List Int) (e : Ending) (w' : World) : Prop := ∃ A c, e = .returned (.slice A xs.length c) ∧ xs.length ≤ c ∧ IV w' A xs ∧ Below w.heap.size w w'

set_option maxRecDepth 100000 in
set_option maxHeartbeats 8000000 in
theorem bestOf_any (w : World) (A A2 : Option Addr) (k c2 : Nat) (l : List Hs.Cm) (list : List Nat) (hv : CV w A l) (hok : Hs.Ok l) (h2 : IV w A2 (Hs.ints list)) (hin : ∀ x ∈ list, x < l.length) (hlen : list.length ≤ 60) :
    Calls Try.prog 32 #[.slice A l.length k, .slice A2 list.length c2] w (BoPost w (Hs.ints (Hs.best l list))) := by
  obtain ⟨i0, hi0, hz0, hz1, hz2⟩ := info_parts info3
  have hl := hok.len
  have hmk2 := run_make_row' (P := Try.prog) 24 4 (.bool false) 1 Try.underlying24 info4 rfl .i64 .i64 l.length (by omega) (by omega)
  have HIN := Lib.hid hin
  have HR := Lib.hid (reach_any w A k l hv hok)
  clear hin
  go_enter Try.func32, Try.ntmps32
  go_wp2_with fail
  go_at_call 24
  refine HR.out.mono ?_
  rintro e w1 ⟨At, ct, rfl, hm, hb1⟩
  have HM := Lib.hid (fun (wr : World) hb x i hx hi => mv_cell (wr := wr) hm hb x i hx hi)
  have HL := Lib.hid (fun (i : Nat) (hi : i < list.length) (wr : World) hbel => nat_at (wr := wr) (h2.below hb1) hbel i hi)
  clear HR hm
  go_wp2_with fail
  go_loopw [7] (fun v wr => ∃ i : Nat, i ≤ l.length ∧ v = .int .i64 i ∧ TabBRel w1 wr l.length (Hs.comTo l list i)) (fun v _ => l.length - (intOf v).toNat)
  case atStart => exact ⟨0, Nat.zero_le _, rfl, TabBRel.congr (f := fun _ => false) ⟨blk_made_bool w1 4 l.length, below_alloc1 _ _⟩ fun j _ => by simp [Hs.comTo]⟩
  case round =>
    obtain ⟨i, hi, rfl, st⟩ := hrel
    obtain ⟨wo, rfl⟩ : ∃ wo : World, wo = wr := ⟨_, rfl⟩
    by_cases hil : i < l.length
    · have hil' : (i : Int) < l.length := by omega
      have hci := blk_tabB st.blk i hil
      have hfi := st.blk.frozen i
      have st1 := st.set_ (f' := Hs.comIn l list i 0) i true (fun j _ => Hs.comIn_zero l list i j)
      clear st
      go_wp2_with fail
      go_loopw [8] (fun v wr => ∃ kk : Nat, kk ≤ list.length ∧ v = .int .i64 kk ∧ TabBRel w1 wr l.length (Hs.comIn l list i kk)) (fun v _ => list.length - (intOf v).toNat)
      case atStart => exact ⟨0, Nat.zero_le _, rfl, st1⟩
      case round =>
        obtain ⟨kk, hk, rfl, st2⟩ := hrel
        obtain ⟨w2, rfl⟩ : ∃ w2 : World, w2 = wr := ⟨_, rfl⟩
        clear st1 hci hfi
        by_cases hkl : kk < list.length
        · have hkl' : (kk : Int) < list.length := by omega
          obtain ⟨b, off, e, hb, hc⟩ := HL.out kk hkl w2 st2.bel
          subst e
          have hxl := HIN.out _ (List.getElem_mem hkl)
          obtain ⟨b2, off2, b3, off3, c3, e2, hc2, hc3⟩ := HM.out w2 st2.bel list[kk] i hxl hil
          subst e2
          have hxl' : ((list[kk] : Nat) : Int) < l.length := by omega
          have hck := blk_tabB st2.blk i hil
          have hfk := st2.blk.frozen i
          have hst := st2.set_ (f' := Hs.comIn l list i (kk + 1)) i (Hs.comAt l list i kk && Hs.reach l list[kk] i) (fun j _ => Hs.comIn_succ l list i kk j hkl)
          have e5 : Hs.comIn l list i kk i = Hs.comAt l list i kk := by unfold Hs.comIn; rw [if_pos rfl]
          rw [e5] at hck
          clear e5 st2
          generalize Hs.comAt l list i kk = v1 at *
          generalize list[kk] = x at *
          generalize Hs.reach l x i = v2 at *
          cases v1
          · simp only [Bool.false_and] at hst
            go_wp2_with fail
            go_roundw
            case rel => exact ⟨kk + 1, by omega, by go_num, hst⟩
            case measure => simp [intOf]; omega
          · simp only [Bool.true_and] at hst
            go_wp2_with fail
            go_roundw
            case rel => exact ⟨kk + 1, by omega, by go_num, hst⟩
            case measure => simp [intOf]; omega
        · obtain rfl : kk = list.length := by omega
          have st3 : TabBRel w1 w2 l.length (Hs.comTo l list (i + 1)) := st2.congr fun j _ => (Hs.comIn_all l list i j).symm
          clear st2
          go_wp2_with fail
          go_roundw
          case rel => exact ⟨i + 1, by omega, by go_num, st3⟩
          case measure => simp [intOf]; omega
    · obtain rfl : i = l.length := by omega
      have st0 : BoSt w1 wo l (Hs.common l list) (Hs.bestTo l (Hs.common l list) 0) none 0 := ⟨st.congr fun j hj => by unfold Hs.comTo; rw [if_pos hj], World.ownsRow_nil _ _ _ _⟩
      have HPOST := Lib.hid (show Hs.best l list = Hs.bestTo l (Hs.common l list) l.length from rfl)
      clear st HL hil hi
      generalize Hs.common l list = com at *
      go_wp2_with fail
      go_loopw [9, 10] (fun ov iv wr => ∃ (i : Nat) (Ao : Option Addr) (co : Nat), i ≤ l.length ∧ ov = .slice Ao (Hs.bestTo l com i).length co ∧ iv = .int .i64 i ∧ BoSt w1 wr l com (Hs.bestTo l com i) Ao co) (fun _ iv _ => l.length - (intOf iv).toNat)
      case atStart => exact ⟨0, none, 0, Nat.zero_le _, rfl, rfl, st0⟩
      case round =>
        obtain ⟨i, Ao, co, hi, rfl, rfl, st⟩ := hrel
        obtain ⟨w4, rfl⟩ : ∃ w4 : World, w4 = wr := ⟨_, rfl⟩
        clear st0
        by_cases hil : i < l.length
        · have hil' : (i : Int) < l.length := by omega
          have hci := blk_tabB st.tab.blk i hil
          have hbl := Hs.bestTo_len l com i
          have hlt4 := st.tab.blk.lt
          rw [← Hs.bestAt_zero l com i] at hci
          have HCELL := Lib.hid (fun kk hk => blk_tabB st.tab.blk kk hk)
          have HMM := Lib.hid (fun kk hk => HM.out w4 st.tab.bel kk i hk hil)
          have HSUC := Lib.hid (Hs.bestAt_succ l com i)
          go_wp2_with fail
          go_loop [11, 12] (fun bv kv => ∃ kk : Nat, kk ≤ l.length ∧ bv = .bool (Hs.bestAt l com i kk) ∧ kv = .int .i64 kk) (fun _ kv => l.length - (intOf kv).toNat)
          case atStart => exact ⟨0, Nat.zero_le _, rfl, rfl⟩
          case round =>
            obtain ⟨kk, hk, rfl, rfl⟩ := hrel
            clear hci
            by_cases hkl : kk < l.length
            · have hkl' : (kk : Int) < l.length := by omega
              have hck := HCELL.out kk hkl
              obtain ⟨b2, off2, b3, off3, c3, e2, hc2, hc3⟩ := HMM.out kk hkl
              subst e2
              have hs := HSUC.out kk
              generalize Hs.bestAt l com i kk = v1 at *
              generalize hgc : com kk = v2 at *
              generalize hgr : Hs.reach l kk i = v3 at *
              clear hgc hgr
              by_cases hki : kk = i
              · have g1 : ((kk : Int) != (i : Int)) = false := by simp; omega
                have g2 : (kk != i) = false := by simpa using hki
                have HS := Lib.hid (show Hs.bestAt l com i (kk + 1) = v1 from by rw [hs, g2]; simp)
                clear hs
                go_wp2_with fail
                go_round
                case rel => exact ⟨kk + 1, by omega, by rw [HS.out], by go_num⟩
                case measure => simp [intOf]; omega
              · have g1 : ((kk : Int) != (i : Int)) = true := by simp; omega
                have g2 : (kk != i) = true := by simpa using hki
                cases v2
                · have HS := Lib.hid (show Hs.bestAt l com i (kk + 1) = v1 from by rw [hs]; simp)
                  clear hs
                  go_wp2_with fail
                  go_round
                  case rel => exact ⟨kk + 1, by omega, by rw [HS.out], by go_num⟩
                  case measure => simp [intOf]; omega
                · cases v3
                  · have HS := Lib.hid (show Hs.bestAt l com i (kk + 1) = v1 from by rw [hs]; simp)
                    clear hs
                    go_wp2_with fail
                    go_round
                    case rel => exact ⟨kk + 1, by omega, by rw [HS.out], by go_num⟩
                    case measure => simp [intOf]; omega
                  · have HS := Lib.hid (show Hs.bestAt l com i (kk + 1) = false from by rw [hs, g2]; simp)
                    clear hs
                    go_wp2_with fail
                    go_round
                    case rel => exact ⟨kk + 1, by omega, by rw [HS.out], by go_num⟩
                    case measure => simp [intOf]; omega
            · obtain rfl : kk = l.length := by omega
              rw [Hs.bestAt_all]
              cases hbst : Hs.isBest l com i with
              | true =>
                have HY := Lib.hid (Hs.bestTo_yes l com i hbst)
                clear hbst
                go_wp2_with (first | (at_builtin; refine wpList_app1 _ rfl (.tmp 87) (.tmp 89) 37 rfl (w1.heap.size + 1) 3 i0 (.int .i64 0) 8 Try.underlying37 hi0 hz0 hz1 hz2 rfl Ao _ co _ rfl (st.own.alloc _) w4.heap.size _ (.int .i64 i) rfl (by simp [World.cell?_alloc_new]) rfl ?ha ?hb ?hc ?_))
                case ha => simp [maxLen]; omega
                case hb => omega
                case hc => omega
                intro A' c' w5 hown5 hg5 _
                have st5 := st.app _ hg5 hown5
                rw [← HY.out] at st5
                have hle := Lib.hid (show (Hs.bestTo l com (i + 1)).length = (Hs.bestTo l com i).length + 1 by rw [HY.out]; simp)
                clear hown5 hg5
                go_wp2_with fail
                go_roundw
                case rel => exact ⟨i + 1, _, _, by omega, by rw [hle.out], by go_num, st5⟩
                case measure => simp [intOf]; omega
              | false =>
                have HN := Lib.hid (Hs.bestTo_no l com i hbst)
                clear hbst
                go_wp2_with fail
                go_roundw
                case rel => exact ⟨i + 1, Ao, co, by omega, by rw [HN.out], by go_num, by rw [HN.out]; exact st⟩
                case measure => simp [intOf]; omega
        · obtain rfl : i = l.length := by omega
          go_wp2_with fail
          go_ret
          rw [HPOST.out]
          refine ⟨Ao, co, by rw [Hs.ints_length]; rfl, ?_, SV.of_own st.own, hb1.trans (st.tab.bel.mono hb1.size)⟩
          obtain ⟨A', c', e, hc', _⟩ := own_form st.own
          cases e
          rw [Hs.ints_length]; exact hc'
end Go.Proofs.Ytoohmkdgimkgoaa
