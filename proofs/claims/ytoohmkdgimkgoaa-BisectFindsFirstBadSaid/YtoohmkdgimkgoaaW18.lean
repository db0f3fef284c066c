/-
  Histories: walk of 'Octopus'.
-/
import Derived.Test.YtoohmkdgimkgoaaW16
namespace Go.Proofs.Ytoohmkdgimkgoaa
open Go.RowKit Go.V
set_option linter.unusedVariables false

def octFrom (l : List Hs.Cm) (list : List Int) (i : Nat) : Int × Int :=
  if h : i < list.length then if 0 ≤ list[i] ∧ list[i] < l.length then octFrom l list (i + 1) else (6, (i : Int)) else (0, 0)
termination_by list.length - i
theorem octFrom_end (l : List Hs.Cm) (list : List Int) (i : Nat) (h : list.length ≤ i) : octFrom l list i = (0, 0) := by
  unfold octFrom; rw [dif_neg (by omega)]
theorem octFrom_bad (l : List Hs.Cm) (list : List Int) (i : Nat) (h : i < list.length) (hc : ¬ (0 ≤ list[i] ∧ list[i] < l.length)) : octFrom l list i = (6, (i : Int)) := by
  unfold octFrom; rw [dif_pos h, if_neg hc]
theorem octFrom_next (l : List Hs.Cm) (list : List Int) (i : Nat) (h : i < list.length) (hc : 0 ≤ list[i] ∧ list[i] < l.length) : octFrom l list i = octFrom l list (i + 1) := by
  conv => lhs; unfold octFrom
  rw [dif_pos h, if_pos hc]
theorem octFrom_all (l : List Hs.Cm) (list : List Int) : ∀ n i, list.length - i ≤ n → (octFrom l list i = (0, 0) ∧ ∀ j (h : j < list.length), i ≤ j → 0 ≤ list[j] ∧ list[j] < l.length) ∨ ((octFrom l list i).1 = 6 ∧ ∃ j, ∃ h : j < list.length, ¬ (0 ≤ list[j] ∧ list[j] < l.length))
  | 0, i, h => .inl ⟨octFrom_end l list i (by omega), fun j hj hij => by omega⟩
  | n + 1, i, h => by
    by_cases hi : i < list.length
    · by_cases hc : 0 ≤ list[i] ∧ list[i] < l.length
      · rw [octFrom_next l list i hi hc]
        rcases octFrom_all l list n (i + 1) (by omega) with ⟨h1, h2⟩ | h1
        · refine .inl ⟨h1, fun j hj hij => ?_⟩
          by_cases e : j = i
          · subst e; exact hc
          · exact h2 j hj (by omega)
        · exact .inr h1
      · rw [octFrom_bad l list i hi hc]
        exact .inr ⟨rfl, i, hi, hc⟩
    · exact .inl ⟨octFrom_end l list i (by omega), fun j hj hij => by omega⟩
def octCheck (l : List Hs.Cm) (list : List Int) : Int × Int :=
  if (Hs.validate l).1 ≠ 0 then Hs.validate l else if list.length = 0 ∨ 60 < list.length then (9, -1) else octFrom l list 0
def octRes (l : List Hs.Cm) (list : List Int) : List Int × (Int × Int) := if (octCheck l list).1 ≠ 0 then ([], octCheck l list) else (Hs.ints (Hs.best l (Hs.nats list)), (0, 0))
theorem nats_ints (list : List Int) (n : Nat) (h : ∀ j (h : j < list.length), 0 ≤ list[j] ∧ list[j] < n) : list = Hs.ints (Hs.nats list) ∧ ∀ x ∈ Hs.nats list, x < n := by
  constructor
  · apply List.ext_getElem
    · simp [Hs.ints, Hs.nats]
    · intro i h1 h2
      have := h i h1
      simp [Hs.ints, Hs.nats]; omega
  · intro x hx
    obtain ⟨y, hy, rfl⟩ := List.mem_map.1 hx
    obtain ⟨j, hj, rfl⟩ := List.mem_iff_getElem.1 hy
    have := h j hj
    omega

set_option maxRecDepth 100000 in
set_option maxHeartbeats 4000000 in
theorem octopus_ok (w : World) (A A2 : Option Addr) (k k2 : Nat) (l : List Hs.Cm) (list : List Int) (hv : CV w A l) (hok : Hs.Ok l) (hv2 : IV w A2 list) (hi64 : ∀ (j : Nat) (h : j < list.length), I64 list[j]) (hl2 : list.length ≤ 9223372036854775807) :
    Calls Try.prog 30 #[.slice A l.length k, .slice A2 list.length k2] w (IRes w (octRes l list)) := by
  have hl := hok.len
  have HC := Lib.hid (fun w1 h => validate_any w1 A k l h (by omega))
  have HV := Lib.hid (Hs.validate_of_ok hok)
  have HCH := Lib.hid (show octCheck l list = if list.length = 0 ∨ 60 < list.length then (9, -1) else octFrom l list 0 from by unfold octCheck; rw [Hs.validate_of_ok hok, if_neg (by simp)])
  have HRES := Lib.hid (show octRes l list = if (octCheck l list).1 ≠ 0 then ([], octCheck l list) else (Hs.ints (Hs.best l (Hs.nats list)), (0, 0)) from rfl)
  go_enter Try.func30, Try.ntmps30
  go_wp2_with fail
  go_at_call 20
  refine (HC.out _ (hv.alloc _)).mono ?_
  rw [HV.out]
  rintro e w1 ⟨rfl, hb1⟩
  have hblk := (Blk.new w 26 #[.int .i64 0, .int .i64 0]).below hb1 (by simp)
  have hbel := (below_alloc1 w (.cells #[.int .i64 0, .int .i64 0] 26)).trans (hb1.mono (by simp))
  have hsz := hbel.size
  have hlt := hblk.lt
  have hc0 := hblk.cell 0
  have hc1 := hblk.cell 1
  have hf0 := hblk.frozen 0
  have hf1 := hblk.frozen 1
  simp only [List.getElem?_toArray, List.getElem?_cons_zero, List.getElem?_cons_succ] at hc0 hc1
  clear hb1 HC HV
  by_cases hlen : list.length = 0 ∨ 60 < list.length
  · have H := Lib.hid (show octRes l list = ([], (9, -1)) from by rw [HRES.out, HCH.out, if_pos hlen]; simp)
    have fin : ∀ w', Below w.heap.size w w' → IRes w (octRes l list) (.returned (.tuple #[.slice none 0 0, .agg #[.int .i64 9, .int .i64 (-1)]])) w' := fun w' hb => by
      rw [H.out]; exact IRes.of_none ⟨rfl, hb⟩
    have FIN := Lib.hid fin
    clear HRES HCH fin
    rcases hlen with h0 | h60
    · have h0' : ((list.length : Int) == 0) = true := by simp; exact List.eq_nil_of_length_eq_zero h0
      have h0'' : (list.length == 0) = true := by simpa using List.eq_nil_of_length_eq_zero h0
      obtain rfl : list = [] := List.eq_nil_of_length_eq_zero h0
      clear h0 h0' h0''
      simp only [List.length_nil]
      go_wp2_with fail
      refine bodyPost_ret (results_tc rfl _ _ w.heap.size (.int .i64 9) (.int .i64 (-1)) rfl ((blk_put26 hblk _ _).alloc _)) rfl ?_
      exact FIN.out _ (((hbel.setCell (by simp) _).setCell (by simp) _).alloc (by simp; omega) _)
    · have h0' : ((list.length : Int) == 0) = false := by simp; intro h; subst h; simp at h60
      have h0'' : (list.length == 0) = false := by simp; intro h; subst h; simp at h60
      have h61 : (60 : Int) < list.length := by omega
      go_wp2_with fail
      refine bodyPost_ret (results_tc rfl _ _ w.heap.size (.int .i64 9) (.int .i64 (-1)) rfl ((blk_put26 hblk _ _).alloc _)) rfl ?_
      exact FIN.out _ (((hbel.setCell (by simp) _).setCell (by simp) _).alloc (by simp; omega) _)
  · have HCH2 := Lib.hid (show octCheck l list = octFrom l list 0 from by rw [HCH.out, if_neg hlen])
    have h0' : ((list.length : Int) == 0) = false := by simp; intro h; subst h; simp at hlen
    have h0'' : (list.length == 0) = false := by simp; intro h; subst h; simp at hlen
    have h61 : (list.length : Int) ≤ 60 := by omega
    have h62 : list.length ≤ 60 := by omega
    have hbel1 := hbel.alloc hsz (.cells #[.int .i64 0, .int .i64 0] 26)
    have HAT := Lib.hid (fun (i : Nat) (hi : i < list.length) => hv2.atIn hbel1 i hi)
    have HALL := Lib.hid (octFrom_all l list list.length 0 (by omega))
    clear HCH hlen
    go_wp2_with fail
    go_loop [26] (fun v => ∃ i : Nat, i ≤ list.length ∧ v = .int .i64 i ∧ Hid (octFrom l list 0 = octFrom l list i)) (fun v => list.length - (intOf v).toNat)
    case atStart => exact ⟨0, Nat.zero_le _, rfl, rfl⟩
    case round =>
      obtain ⟨i, hi, rfl, HJ⟩ := hrel
      by_cases hil : i < list.length
      · obtain ⟨b, off, e, hb, hc⟩ := HAT.out i hil
        subst e
        have hxi := hi64 i hil
        unfold I64 at hxi
        by_cases hr : 0 ≤ list[i] ∧ list[i] < l.length
        · have HJ2 := Lib.hid (HJ.out.trans (octFrom_next l list i hil hr))
          have HN := Lib.hid (show (decide (0 ≤ list[i]) && decide (list[i] < (l.length : Int))) = true from by rw [decide_eq_true hr.1, decide_eq_true hr.2]; rfl)
          clear hr
          generalize list[i] = x at *
          go_wp2_with (go_at_call 49; refine (is_any _ _ _ _ _ (by omega)).mono ?_; rintro e w' ⟨rfl, rfl⟩; rw [HN.out])
          go_round
          case rel => exact ⟨i + 1, by omega, by go_num, HJ2⟩
          case measure => simp [intOf]; omega
        · have H := Lib.hid (show octRes l list = ([], (6, (i : Int))) from by rw [HRES.out, HCH2.out, HJ.out, octFrom_bad l list i hil hr]; simp)
          have HN := Lib.hid (show (decide (0 ≤ list[i]) && decide (list[i] < (l.length : Int))) = false from by
            rw [Bool.and_eq_false_iff]; simp only [decide_eq_false_iff_not]; omega)
          clear hr
          generalize list[i] = x at *
          go_wp2_with (go_at_call 49; refine (is_any _ _ _ _ _ (by omega)).mono ?_; rintro e w' ⟨rfl, rfl⟩; rw [HN.out])
          refine bodyPost_ret (results_tc rfl _ _ w.heap.size (.int .i64 6) (.int .i64 (i : Int)) rfl ((blk_put26 hblk _ _).alloc _)) rfl ?_
          rw [H.out]
          exact IRes.of_none ⟨rfl, ((hbel.setCell (by simp) _).setCell (by simp) _).alloc (by simp; omega) _⟩
      · obtain rfl : i = list.length := by omega
        have hz := HJ.out.trans (octFrom_end l list _ (Nat.le_refl _))
        have hall : ∀ j (h : j < list.length), 0 ≤ list[j] ∧ list[j] < l.length := by
          rcases HALL.out with ⟨_, h2⟩ | ⟨h1, _⟩
          · exact fun j hj => h2 j hj (Nat.zero_le _)
          · rw [hz] at h1; simp at h1
        obtain ⟨hni, hlt3⟩ := nats_ints list l.length hall
        have H := Lib.hid (show octRes l list = (Hs.ints (Hs.best l (Hs.nats list)), (0, 0)) from by rw [HRES.out, HCH2.out, hz]; simp)
        have hlen3 : (Hs.nats list).length = list.length := by simp [Hs.nats]
        have hiv : IV (w1.alloc (.cells #[.int .i64 0, .int .i64 0] 26)) A2 (Hs.ints (Hs.nats list)) := by rw [← hni]; exact hv2.below hbel1
        have hb0 := best_any (w1.alloc (.cells #[.int .i64 0, .int .i64 0] 26)) A A2 k k2 l (Hs.nats list) (hv.below hbel1) hok hiv hlt3 (by omega)
        rw [hlen3] at hb0
        have HCALL := Lib.hid hb0
        clear hb0 hz hall hni hlt3 hlen3 hiv HALL HAT
        go_wp2_with fail
        go_at_call 55
        refine HCALL.out.mono ?_
        generalize Hs.ints (Hs.best l (Hs.nats list)) = xs at *
        rintro e w2 ⟨A4, c4, rfl, hc4, hv4, hfr2, hb2⟩
        have hbel2 := hbel1.trans (hb2.mono hbel1.size)
        have hblk2 := (hblk.alloc (.cells #[.int .i64 0, .int .i64 0] 26)).below hb2 (by simp; omega)
        have d0 := hblk2.cell 0
        have d1 := hblk2.cell 1
        have e0 := hblk2.frozen 0
        have e1 := hblk2.frozen 1
        have hlt2 := hblk2.lt
        simp only [List.getElem?_toArray, List.getElem?_cons_zero, List.getElem?_cons_succ] at d0 d1
        have HFR := Lib.hid hfr2
        clear hbel1 hb2 HCALL hfr2
        go_wp2_with fail
        refine bodyPost_ret (results_tc rfl _ _ w.heap.size (.int .i64 0) (.int .i64 0) rfl (blk_put26 hblk2 _ _)) rfl ?_
        rw [H.out]
        exact ⟨A4, c4, rfl, hc4, (hv4.setLow HFR.out (by simp; omega) _).setLow HFR.out (by simp; omega) _, (hbel2.setCell (by simp) _).setCell (by simp) _⟩
theorem octopus_any (w : World) (A A2 : Option Addr) (k k2 : Nat) (l : List Hs.Cm) (list : List Int) (hv : CV w A l) (hl : l.length ≤ 9223372036854775807) (hv2 : IV w A2 list) (hi64 : ∀ (j : Nat) (h : j < list.length), I64 list[j]) (hl2 : list.length ≤ 9223372036854775807) :
    Calls Try.prog 30 #[.slice A l.length k, .slice A2 list.length k2] w (IRes w (octRes l list)) := by
  by_cases h : (Hs.validate l).1 = 0
  · exact octopus_ok w A A2 k k2 l list hv (Hs.validate_ok l h).2 hv2 hi64 hl2
  · have e : octRes l list = ([], Hs.validate l) := by unfold octRes octCheck; rw [if_pos h, if_pos h]
    rw [e]
    exact (octopus_bad w A k l A2 list.length k2 hv hl h).mono fun e w' h => .of_none h
end Go.Proofs.Ytoohmkdgimkgoaa
