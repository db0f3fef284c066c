/-
  HistoryAncestorsTransitive: the law's walk.
-/
import Derived.Test.YtoohmkdgimkgoaaW13
namespace Go.Proofs.Ytoohmkdgimkgoaa
open Go.RowKit Go.V
set_option linter.unusedVariables false

set_option maxRecDepth 100000 in
set_option maxHeartbeats 4000000 in
theorem law4_any (w : World) (A : Option Addr) (k : Nat) (l : List Hs.Cm) (a b : Int) (hv : CV w A l) (hl : l.length ≤ 9223372036854775807) :
    Calls Try.prog 4 #[.slice A l.length k, .int .i64 a, .int .i64 b] w fun e w' => e = .returned (.bool true) ∧ Below w.heap.size w w' := by
  have HA := Lib.hid (fun (w1 : World) (n : Int) h => ancestors_any w1 A k l n h hl)
  have HCa := Lib.hid (ancRes_cases l a)
  have HCb := Lib.hid (ancRes_cases l b)
  go_enter Try.func4, Try.ntmps4
  go_wp2_with fail
  go_at_call 17
  refine (example_any _).mono ?_
  rintro e w1 ⟨rfl, hb1⟩
  have hsz1 := hb1.size
  go_wp2_with fail
  go_at_call 18
  refine (HA.out _ a (hv.below hb1)).mono ?_
  generalize ancRes l a = ra at *
  obtain ⟨xa, ca, ia⟩ := ra
  rintro e w2 ⟨A2, c2, rfl, hc2, hv2, hb2'⟩
  have hb2 := hb1.trans (hb2'.mono hsz1)
  have hsz2 := hb2.size
  have hb3 := hb2.alloc hsz2 (.cells #[.int .i64 ca, .int .i64 ia] 26)
  clear hb2' hb1 hsz1
  simp only at hc2 hv2
  go_wp2_with fail
  go_at_call 18
  refine (HA.out _ b (hv.below hb3)).mono ?_
  generalize ancRes l b = rb at *
  obtain ⟨xb, cb, ib⟩ := rb
  rintro e w4 ⟨A4, c4, rfl, hc4, hv4, hb4'⟩
  have hb4 := hb3.trans (hb4'.mono hb3.size)
  have hv2' := ((hv2.alloc (.cells #[.int .i64 ca, .int .i64 ia] 26)).below hb4').alloc (.cells #[.int .i64 cb, .int .i64 ib] 26)
  have hv4' := hv4.alloc (.cells #[.int .i64 cb, .int .i64 ib] 26)
  have hblk := ((Blk.new w2 26 #[.int .i64 ca, .int .i64 ia]).below hb4' (by simp))
  have hsz4 := hb4.size
  have hb5 := hb4.alloc hsz4 (.cells #[.int .i64 cb, .int .i64 ib] 26)
  have q0 := hblk.cell 0
  simp only [List.getElem?_toArray, List.getElem?_cons_zero] at q0
  have hlt := hblk.lt
  clear hb4' hb3 hb2 HA hv2 hv4 hblk
  simp only at hc4 hv4'
  rcases HCa.out with ⟨ha1, ha2⟩ | ⟨hok, m, rfl, hm, hra⟩
  · have ha1' : xa = [] := ha1
    have ha2 : ca ≠ 0 := ha2
    subst ha1'
    have ha3 : (ca == 0) = false := by simpa using ha2
    have ha4 : (ca != 0) = true := by simpa using ha2
    clear ha2 HCa HCb
    go_wp2_with fail
    go_ret
    exact ⟨rfl, hb5⟩
  · injection hra with e1 e2
    injection e2 with e2 e3
    subst e1 e2 e3
    rcases HCb.out with ⟨ha1, ha2⟩ | ⟨_, n, rfl, hn, hrb⟩
    · have ha1' : xb = [] := ha1
      have ha2 : cb ≠ 0 := ha2
      subst ha1'
      have ha3 : (cb == 0) = false := by simpa using ha2
      have ha4 : (cb != 0) = true := by simpa using ha2
      clear ha2 HCa HCb
      go_wp2_with fail
      go_ret
      exact ⟨rfl, hb5⟩
    · injection hrb with e1 e2
      injection e2 with e2 e3
      subst e1 e2 e3
      have h60 := hok.len
      rw [ancL_length] at hc2 hc4
      have HT := Lib.hid (fun i => hok.reach_trans m n i)
      have HM := Lib.hid (fun (i : Nat) (hi : i < l.length) => anc_at hv2' i hi)
      have HN := Lib.hid (fun (i : Nat) (hi : i < l.length) => anc_at hv4' i hi)
      have hself := Hs.reach_refl l m
      have hm' : (m : Int) < l.length := by omega
      have hn' : (n : Int) < l.length := by omega
      obtain ⟨bm, om, em, hbm, hcm⟩ := HM.out m hm
      subst em
      rw [hself] at hcm
      obtain ⟨bn, on, en, hbn, hcn⟩ := HM.out n hn
      injection en with en
      injection en with en1 en2
      subst en1 en2
      clear HCa HCb hself
      simp only [ancL_length]
      go_wp2_with (go_at_call 21; refine (in_yes _ _ _ _ (by omega)).mono ?_; rintro e w' ⟨rfl, rfl⟩)
      go_loop [11] (fun v => ∃ i : Nat, i ≤ l.length ∧ v = .int .i64 i) (fun v => l.length - (intOf v).toNat)
      case atStart => exact ⟨0, Nat.zero_le _, rfl⟩
      case round =>
        obtain ⟨i, hi, rfl⟩ := hrel
        by_cases hil : i < l.length
        · have hil' : (i : Int) < l.length := by omega
          obtain ⟨bx, ox, ex, hbx, hcx⟩ := HM.out i hil
          injection ex with ex
          injection ex with ex1 ex2
          subst ex1 ex2
          obtain ⟨by_, oy, ey, hby, hcy⟩ := HN.out i hil
          subst ey
          have HTi := Lib.hid (HT.out i)
          generalize Hs.reach l m n = v1 at *
          generalize Hs.reach l m i = v2 at *
          generalize Hs.reach l n i = v3 at *
          have hno : ¬ (v1 = true ∧ v3 = true ∧ v2 = false) := fun h => by
            have := HTi.out h.1 h.2.1
            rw [h.2.2] at this; cases this
          have HNO := Lib.hid hno
          clear hno HTi
          cases v1 <;> cases v3 <;> cases v2
          all_goals first | exact absurd ⟨rfl, rfl, rfl⟩ HNO.out | skip
          all_goals
            go_wp2_with fail
            go_round
            case rel => exact ⟨i + 1, by omega, by go_num⟩
            case measure => simp [intOf]; omega
        · obtain rfl : i = l.length := by omega
          go_wp2_with fail
          go_ret
          exact ⟨rfl, hb5⟩
end Go.Proofs.Ytoohmkdgimkgoaa
