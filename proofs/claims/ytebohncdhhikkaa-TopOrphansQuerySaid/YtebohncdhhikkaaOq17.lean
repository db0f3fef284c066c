/-
  Markers: walks of 'isChange', 'Increasing', 'MarkerLess'.
-/
import Derived.Test.YtebohncdhhikkaaOq2
import Derived.BigQuiet
namespace Go.Proofs.Ytebohncdhhikkaa
open Go.RowKit Go.V
set_option linter.unusedVariables false
/-- The call tells a bool. -/
def IsB (e : Ending) : Prop := ∃ r : Bool, e = .returned (.bool r)
theorem isChange_any (w : World) (n : Int) : Calls Try.prog 20 #[.int .i64 n] w fun e w' => e = .returned (.bool (decide (0 ≤ n) && decide (n ≤ 59))) ∧ w' = w := by
  have HI := Lib.hid (in_any w n 0 59)
  generalize (decide (0 ≤ n) && decide (n ≤ 59)) = q at *
  go_enter Try.func20, Try.ntmps20
  go_wp2_with (first | (go_at_call 24; with_reducible refine HI.out.mono ?_; rintro e w' ⟨rfl, rfl⟩))
  go_ret
  exact ⟨rfl, rfl⟩
set_option maxHeartbeats 4000000 in
theorem increasing_any (w : World) (A : Option Addr) (k : Nat) (l : List Int) (hv : IV w A l) (hl : l.length ≤ 9223372036854775807) :
    Calls Try.prog 21 #[.slice A l.length k] w fun e w' => IsB e ∧ Below w.heap.size w w' := by
  have HV := Lib.hid (fun (i : Nat) (hi : i < l.length) => hv.at_ i hi)
  clear hv
  go_enter Try.func21, Try.ntmps21
  go_wp2_with fail
  go_loopw [3] (fun iv wr => ∃ i : Nat, 1 ≤ i ∧ (i = 1 ∨ i ≤ l.length) ∧ iv = .int .i64 i ∧ ∃ n, wr = w.drewN n) (fun iv _ => l.length + 1 - (intOf iv).toNat)
  case atStart => exact ⟨1, Nat.le_refl _, Or.inl rfl, rfl, 0, rfl⟩
  case round =>
    obtain ⟨i, h1, hi, rfl, n, rfl⟩ := hrel
    by_cases hlt : i < l.length
    · have hlt' : (i : Int) < l.length := by omega
      obtain ⟨b, off, e, hbs, hc⟩ := HV.out i hlt
      obtain ⟨b2, off2, e2, hbs2, hc2⟩ := HV.out (i - 1) (by omega)
      subst e
      injection e2 with e2
      injection e2 with e3 e4 _
      subst e3
      subst e4
      have hsub : IntKind.i64.wrap ((i : Int) - 1) = ((i - 1 : Nat) : Int) := by rw [IntWalk.i64_in _ (by omega)]; omega
      have hlt2 : ((i - 1 : Nat) : Int) < l.length := by omega
      generalize l[i] = x at *
      generalize l[i - 1] = y at *
      generalize hm : i - 1 = m at *
      by_cases hxy : x ≤ y
      · go_wp2_with fail
        go_quiet (fail)
        go_wp2_with fail
        go_ret
        exact ⟨⟨_, rfl⟩, below_drewN (below_drewN (Below.refl _ _) _) _⟩
      · go_wp2_with fail
        go_quiet (fail)
        go_wp2_with fail
        go_roundw
        case rel => exact ⟨i + 1, by omega, by omega, by go_num, _, rfl⟩
        case measure => simp [intOf]; omega
    · have hlt' : ¬ (i : Int) < l.length := by omega
      go_wp2_with fail
      go_ret
      exact ⟨⟨_, rfl⟩, below_drewN (Below.refl _ _) _⟩
set_option maxRecDepth 100000 in
set_option maxHeartbeats 8000000 in
theorem less_any (w : World) (a b : Oq.Mk) (A1 A2 : Option Addr) (k1 k2 : Nat) (h1 : IV w A1 a.new) (h2 : IV w A2 b.new) (hl1 : a.new.length ≤ 9223372036854775807) (hl2 : b.new.length ≤ 9223372036854775807) :
    Calls Try.prog 22 #[.agg #[.int .i64 a.old, .slice A1 a.new.length k1], .agg #[.int .i64 b.old, .slice A2 b.new.length k2]] w fun e w' => IsB e ∧ Below w.heap.size w w' := by
  obtain ⟨ao, an⟩ := a
  obtain ⟨bo, bn⟩ := b
  simp only at *
  have HV1 := Lib.hid (fun (wr : World) (hb : Below w.heap.size w wr) (i : Nat) (hi : i < an.length) => h1.atIn hb i hi)
  have HV2 := Lib.hid (fun (wr : World) (hb : Below w.heap.size w wr) (i : Nat) (hi : i < bn.length) => h2.atIn hb i hi)
  have b1 : Blk ((w.alloc (.cells #[.int .i64 ao, .slice A1 an.length k1] 57)).alloc (.cells #[.int .i64 bo, .slice A2 bn.length k2] 57)) w.heap.size 57 #[.int .i64 ao, .slice A1 an.length k1] := (Blk.new _ _ _).alloc _
  have b2 := blk_new1 w (.cells #[.int .i64 ao, .slice A1 an.length k1] 57) 57 #[.int .i64 bo, .slice A2 bn.length k2]
  have hb0 := below_alloc2 w (.cells #[.int .i64 ao, .slice A1 an.length k1] 57) (.cells #[.int .i64 bo, .slice A2 bn.length k2] 57)
  clear h1 h2
  by_cases hne : ao = bo
  · subst hne
    have hx : (ao != ao) = false := by simp
    go_enter Try.func22, Try.ntmps22
    go_wp2_with fail
    generalize ((w.alloc (.cells #[.int .i64 ao, .slice A1 an.length k1] 57)).alloc (.cells #[.int .i64 ao, .slice A2 bn.length k2] 57)) = wq at *
    go_loopw [5] (fun iv wr => ∃ i : Nat, i ≤ an.length ∧ iv = .int .i64 i ∧ Blk wr w.heap.size 57 #[.int .i64 ao, .slice A1 an.length k1] ∧ Blk wr (w.heap.size + 1) 57 #[.int .i64 ao, .slice A2 bn.length k2] ∧ Below w.heap.size w wr) (fun iv _ => an.length - (intOf iv).toNat)
    case atStart => exact ⟨0, Nat.zero_le _, rfl, b1, b2, hb0⟩
    case round =>
      clear b1 b2 hb0
      obtain ⟨i, hi, rfl, b1, b2, hb⟩ := hrel
      obtain ⟨wo, rfl⟩ : ∃ wo : World, wo = wr := ⟨_, rfl⟩
      have q0 := (b1.cell 0).trans rfl
      have q1 := (b1.cell 1).trans rfl
      have r0 := (b2.cell 0).trans rfl
      have r1 := (b2.cell 1).trans rfl
      have l1 := b1.lt
      have l2 := b2.lt
      by_cases hlt : i < an.length
      · have hlt' : (i : Int) < an.length := by omega
        by_cases hlu : i < bn.length
        · have hlu' : (i : Int) < bn.length := by omega
          obtain ⟨p1, o1, e1, hp1, c1⟩ := HV1.out _ hb i hlt
          obtain ⟨p2, o2, e2, hp2, c2⟩ := HV2.out _ hb i hlu
          subst e1
          subst e2
          generalize an[i] = x at *
          generalize bn[i] = y at *
          by_cases hxy : x = y
          · have hx2 : (x != y) = false := by simp [hxy]
            clear hxy
            go_wp2_with fail
            go_quiet (fail)
            go_wp2_with fail
            go_roundw
            case rel => exact ⟨i + 1, by omega, by go_num, b1.drewN _, b2.drewN _, below_drewN hb _⟩
            case measure => simp [intOf]; omega
          · have hx2 : (x != y) = true := by simp [hxy]
            go_wp2_with fail
            go_quiet (fail)
            go_wp2_with fail
            go_quiet (fail)
            go_wp2_with fail
            go_ret
            exact ⟨⟨_, rfl⟩, below_drewN (below_drewN hb _) _⟩
        · have hlu' : ¬ (i : Int) < bn.length := by omega
          go_wp2_with fail
          go_ret
          exact ⟨⟨_, rfl⟩, hb⟩
      · have hlt' : ¬ (i : Int) < an.length := by omega
        go_wp2_with fail
        go_ret
        exact ⟨⟨_, rfl⟩, hb⟩
  · have hx : (ao != bo) = true := by simp [hne]
    go_enter Try.func22, Try.ntmps22
    go_wp2_with fail
    go_ret
    exact ⟨⟨_, rfl⟩, hb0⟩
end Go.Proofs.Ytebohncdhhikkaa
