/-
  Markers: what a slice of markers reads as; walks of 'compare' and 'check'.
-/
import Derived.Test.YtebohncdhhikkaaOq1
namespace Oq
structure Mk where
  old : Int
  new : List Int
deriving Inhabited
end Oq
namespace Go.Proofs.Ytebohncdhhikkaa
open Go.RowKit Go.V
set_option linter.unusedVariables false

/-- One marker as two cells. -/
def MkR (w : World) (B : Nat) (c : Oq.Mk) (cs : List Value) : Prop := ∃ A k, cs = [.int .i64 c.old, .slice A c.new.length k] ∧ c.new.length ≤ 9223372036854775807 ∧ SV w B A (intsV c.new)
theorem MkR.len {w : World} {B : Nat} (c : Oq.Mk) (cs : List Value) (h : MkR w B c cs) : cs.length = 2 := by obtain ⟨A, k, rfl, _⟩ := h; rfl
theorem MkR.keep {w w' : World} {B B' : Nat} (hk : ∀ p : Addr, p.block < B → w'.cell? p = w.cell? p) (hB : B ≤ B') (c : Oq.Mk) (cs : List Value) (h : MkR w B c cs) : MkR w' B' c cs := by
  obtain ⟨A, k, e, h1, h2⟩ := h
  exact ⟨A, k, e, h1, (h2.keep hk).more hB⟩
/-- The slice at A holds the markers l. -/
def MV (w : World) (A : Option Addr) (l : List Oq.Mk) : Prop := ∃ vs, SV w w.heap.size A vs ∧ RowsR (MkR w w.heap.size) l vs
section
variable {w w' : World} {A : Option Addr}
theorem MV.below {l : List Oq.Mk} (h : MV w A l) (hb : Below w.heap.size w w') : MV w' A l := by
  obtain ⟨vs, h1, h2⟩ := h
  exact ⟨vs, (h1.below hb (Nat.le_refl _)).more hb.size, h2.mono fun c cs hh => MkR.keep (fun p hp => hb.cell hp) hb.size c cs hh⟩
theorem MV.row {l : List Oq.Mk} (h : MV w A l) (i : Nat) (hi : i < l.length) : ∃ b off Ap k, A = some ⟨b, off, none⟩ ∧ b < w.heap.size ∧
    w.cell? ⟨b, off + i * 2, none⟩ = some (.int .i64 l[i].old) ∧ w.cell? ⟨b, off + i * 2 + 1, none⟩ = some (.slice Ap l[i].new.length k) ∧ l[i].new.length ≤ 9223372036854775807 ∧ IV w Ap l[i].new := by
  obtain ⟨vs, h1, h2⟩ := h
  obtain ⟨b, off, cs, e, hb, ⟨Ap, k, rfl, hok, hsv⟩, hc⟩ := SV.row MkR.len (by omega) h1 h2 i hi
  exact ⟨b, off, Ap, k, e, hb, hc 0 _ rfl, hc 1 _ rfl, hok, hsv⟩
end
theorem below_drew' {B : Nat} {a w : World} (h : Below B a w) : Below B a w.drew := below_drewN h 1
theorem blk_new1 (w : World) (o : Obj) (t : TypeId) (cs : Array Value) : Blk ((w.alloc o).alloc (.cells cs t)) (w.heap.size + 1) t cs := by
  have := Blk.new (w.alloc o) t cs; rwa [World.size_alloc] at this
theorem below_alloc2 (w : World) (o o' : Obj) : Below w.heap.size w ((w.alloc o).alloc o') := (below_alloc1 w o).alloc (by simp) _
theorem below_alloc3 (w : World) (o o' o'' : Obj) : Below w.heap.size w (((w.alloc o).alloc o').alloc o'') := (below_alloc2 w o o').alloc (by simp; omega) _
theorem iv_two (w : World) (x y : Int) : IV (w.alloc (.cells #[.int .i64 x, .int .i64 y] 3)) (some ⟨w.heap.size, 0, none⟩) [x, y] := SV.of_blk (Blk.new w 3 #[.int .i64 x, .int .i64 y])
set_option maxRecDepth 100000 in
set_option maxHeartbeats 8000000 in
theorem compare_any (w : World) (a b : Oq.Mk) (A1 A2 : Option Addr) (k1 k2 : Nat) (h1 : IV w A1 a.new) (h2 : IV w A2 b.new) (hl1 : a.new.length ≤ 9223372036854775807) (hl2 : b.new.length ≤ 9223372036854775807) :
    Calls Try.prog 33 #[.agg #[.int .i64 a.old, .slice A1 a.new.length k1], .agg #[.int .i64 b.old, .slice A2 b.new.length k2]] w fun e w' => (∃ r : Int, e = .returned (.int .i64 r)) ∧ Below w.heap.size w w' := by
  have HS := Lib.hid (fun (w1 : World) (hb : Below w.heap.size w w1) => slCompare_any w1 A1 A2 k1 k2 a.new b.new (h1.below hb) (h2.below hb) hl1 hl2)
  have HC := Lib.hid (fun (w1 : World) => cmp_any w1 a.old b.old)
  have HO := Lib.hid (fun (w1 : World) (Ax : Option Addr) (x y : Int) (hv : IV w1 Ax [x, y]) => (show Calls Try.prog 46 #[.slice Ax 2 2] w1 fun e w' => e = .returned (.int .i64 (Oq.orI [x, y])) ∧ w' = w1 from or_any w1 Ax 2 [x, y] hv (by simp)))
  clear h1 h2
  obtain ⟨ao, an⟩ := a
  obtain ⟨bo, bn⟩ := b
  simp only at *
  generalize Oq.slC an bn = y at *
  generalize Oq.cmpI ao bo = x at *
  generalize hoo : Oq.orI [x, y] = z at *
  have HOO := Lib.hid hoo
  clear hoo
  have b1 : Blk ((w.alloc (.cells #[.int .i64 ao, .slice A1 an.length k1] 57)).alloc (.cells #[.int .i64 bo, .slice A2 bn.length k2] 57)) w.heap.size 57 #[.int .i64 ao, .slice A1 an.length k1] := (Blk.new _ _ _).alloc _
  have b2 := blk_new1 w (.cells #[.int .i64 ao, .slice A1 an.length k1] 57) 57 #[.int .i64 bo, .slice A2 bn.length k2]
  have hb0 := below_alloc2 w (.cells #[.int .i64 ao, .slice A1 an.length k1] 57) (.cells #[.int .i64 bo, .slice A2 bn.length k2] 57)
  go_enter Try.func33, Try.ntmps33
  go_wp2_with fail
  generalize hwq : ((w.alloc (.cells #[.int .i64 ao, .slice A1 an.length k1] 57)).alloc (.cells #[.int .i64 bo, .slice A2 bn.length k2] 57)) = wq at *
  clear hwq
  have HK := Lib.hid (fun (w6 : World) (h6 : Below wq.heap.size wq w6) => show w6.cell? ⟨w.heap.size, 0, none⟩ = some (.int .i64 ao) ∧ w6.cell? ⟨w.heap.size, 1, none⟩ = some (.slice A1 an.length k1) ∧ w6.cell? ⟨w.heap.size + 1, 0, none⟩ = some (.int .i64 bo) ∧ w6.cell? ⟨w.heap.size + 1, 1, none⟩ = some (.slice A2 bn.length k2) from
    ⟨((b1.below h6 b1.lt).cell 0).trans rfl, ((b1.below h6 b1.lt).cell 1).trans rfl, ((b2.below h6 b2.lt).cell 0).trans rfl, ((b2.below h6 b2.lt).cell 1).trans rfl⟩)
  have HS2 := Lib.hid (fun (w1 : World) (hb : Below wq.heap.size wq w1) => HS.out w1 (hb0.trans (hb.mono hb0.size)))
  refine wp_region_noPanic ?_
  refine wp_region_held_drew (S := (fun w6 : World => w6.cell? ⟨w.heap.size, 0, none⟩ = some (.int .i64 ao) ∧ w6.cell? ⟨w.heap.size, 1, none⟩ = some (.slice A1 an.length k1) ∧ w6.cell? ⟨w.heap.size + 1, 0, none⟩ = some (.int .i64 bo) ∧ w6.cell? ⟨w.heap.size + 1, 1, none⟩ = some (.slice A2 bn.length k2))) (by kernel_rfl) ?_ (fun hSQ => ?_)
  · exact HK.out _ (below_drew' (Below.refl _ _))
  have hq : Below wq.heap.size wq wq.drew := below_drew' (Below.refl _ _)
  have hszb : wq.heap.size ≤ wq.drew.heap.size := Nat.le_refl _
  generalize hWg : wq.drew = WQ at *
  clear hWg
  refine wpAnyH_take (i := 0) (v := .pointer (some ⟨w.heap.size, 0, none⟩)) rfl (by kernel_rfl) (by kernel_rfl) (by kernel_rfl) (fun _ _ _ h => h) (Or.inl ⟨by kernel_rfl, ?qQ1⟩) (by assumption) ?rqQ1
  case qQ1 => (intro w hSw; (try dsimp only at hSw); go_simp)
  try simp only [Act.put, List.setIfInBounds_toArray]
  refine wpAnyH_take (i := 1) (v := .int .i64 ao) rfl (by kernel_rfl) (by kernel_rfl) (by kernel_rfl) (fun _ _ _ h => h) (Or.inl ⟨by kernel_rfl, ?qQ2⟩) (by assumption) ?rqQ2
  case qQ2 => (intro w hSw; (try dsimp only at hSw); go_simp)
  try simp only [Act.put, List.setIfInBounds_toArray]
  refine wpAnyH_take (i := 2) (v := .pointer (some ⟨w.heap.size + 1, 0, none⟩)) rfl (by kernel_rfl) (by kernel_rfl) (by kernel_rfl) (fun _ _ _ h => h) (Or.inl ⟨by kernel_rfl, ?qQ3⟩) (by assumption) ?rqQ3
  case qQ3 => (intro w hSw; (try dsimp only at hSw); go_simp)
  try simp only [Act.put, List.setIfInBounds_toArray]
  refine wpAnyH_take (i := 3) (v := .int .i64 bo) rfl (by kernel_rfl) (by kernel_rfl) (by kernel_rfl) (fun _ _ _ h => h) (Or.inl ⟨by kernel_rfl, ?qQ4⟩) (by assumption) ?rqQ4
  case qQ4 => (intro w hSw; (try dsimp only at hSw); go_simp)
  try simp only [Act.put, List.setIfInBounds_toArray]
  refine wpAnyH_take (i := 5) (v := .pointer (some ⟨w.heap.size, 1, none⟩)) rfl (by kernel_rfl) (by kernel_rfl) (by kernel_rfl) (fun _ _ _ h => h) (Or.inl ⟨by kernel_rfl, ?qQ5⟩) (by assumption) ?rqQ5
  case qQ5 => (intro w hSw; (try dsimp only at hSw); go_simp)
  try simp only [Act.put, List.setIfInBounds_toArray]
  refine wpAnyH_take (i := 6) (v := .slice A1 an.length k1) rfl (by kernel_rfl) (by kernel_rfl) (by kernel_rfl) (fun _ _ _ h => h) (Or.inl ⟨by kernel_rfl, ?qQ6⟩) (by assumption) ?rqQ6
  case qQ6 => (intro w hSw; (try dsimp only at hSw); go_simp)
  try simp only [Act.put, List.setIfInBounds_toArray]
  refine wpAnyH_take (i := 7) (v := .pointer (some ⟨w.heap.size + 1, 1, none⟩)) rfl (by kernel_rfl) (by kernel_rfl) (by kernel_rfl) (fun _ _ _ h => h) (Or.inl ⟨by kernel_rfl, ?qQ7⟩) (by assumption) ?rqQ7
  case qQ7 => (intro w hSw; (try dsimp only at hSw); go_simp)
  try simp only [Act.put, List.setIfInBounds_toArray]
  refine wpAnyH_take (i := 8) (v := .slice A2 bn.length k2) rfl (by kernel_rfl) (by kernel_rfl) (by kernel_rfl) (fun _ _ _ h => h) (Or.inl ⟨by kernel_rfl, ?qQ8⟩) (by assumption) ?rqQ8
  case qQ8 => (intro w hSw; (try dsimp only at hSw); go_simp)
  try simp only [Act.put, List.setIfInBounds_toArray]
  refine wpAnyH_ready (rs := [4]) (by kernel_rfl) (by simp) ?_
  refine AllReadyH.cons rfl (fun K hK => ?nQ9) (AllReadyH.nil)
  go_simp
  go_at_call 47
  with_reducible refine (HC.out _).mono ?_
  rintro e w9 ⟨rfl, hw9⟩
  replace hw9 := hw9.symm
  subst hw9
  try go_wp2_with fail
  refine hK.out _ _ ?_ (fun hSQ10 => ?_)
  · exact HK.out _ (hq)
  clear hK K
  try simp only [Act.put, List.setIfInBounds_toArray]
  refine wpAnyH_ready (rs := [9]) (by kernel_rfl) (by simp) ?_
  refine AllReadyH.cons rfl (fun K hK => ?nQ11) (AllReadyH.nil)
  go_simp
  go_at_call 48
  with_reducible refine (HS2.out _ hq).mono ?_
  rintro e w9 ⟨rfl, hw9⟩
  replace hw9 := hw9.symm
  subst hw9
  try go_wp2_with fail
  refine hK.out _ _ ?_ (fun hSQ12 => ?_)
  · exact HK.out _ (hq)
  clear hK K
  try simp only [Act.put, List.setIfInBounds_toArray]
  refine wpAnyH_ready (rs := [10]) (by kernel_rfl) (by simp) ?_
  refine AllReadyH.cons rfl (fun K hK => ?nQ13) (AllReadyH.nil)
  go_simp
  refine hK.out _ _ ?_ (fun hSQ15 => ?_)
  · exact HK.out _ (hq.alloc hq.size (.cells #[.int .i64 x, .int .i64 y] 3))
  clear hK K
  try simp only [Act.put, List.setIfInBounds_toArray]
  replace hq := hq.alloc hq.size (.cells #[.int .i64 x, .int .i64 y] 3)
  have hvo := iv_two WQ x y
  have HO2 := Lib.hid (HO.out _ _ x y hvo)
  rw [HOO.out] at HO2
  clear hvo
  generalize hgb : WQ.heap.size = gb at *
  generalize WQ.alloc (.cells #[.int .i64 x, .int .i64 y] 3) = WQ14 at *
  refine wpAnyH_ready (rs := [11]) (by kernel_rfl) (by simp) ?_
  refine AllReadyH.cons rfl (fun K hK => ?nQ16) (AllReadyH.nil)
  go_simp
  go_at_call 46
  with_reducible refine (HO2.out).mono ?_
  rintro e w9 ⟨rfl, hw9⟩
  replace hw9 := hw9.symm
  subst hw9
  try go_wp2_with fail
  refine hK.out _ _ ?_ (fun hSQ17 => ?_)
  · exact HK.out _ (hq)
  clear hK K
  try simp only [Act.put, List.setIfInBounds_toArray]
  refine wpAnyH_ready (rs := [12]) (by kernel_rfl) (by simp) ?_
  refine AllReadyH.cons rfl (fun K hK => ?nQ18) (AllReadyH.nil)
  go_simp
  refine hK.out _ _ ?_ (fun hSQ19 => ?_)
  · exact HK.out _ (hq)
  clear hK K
  try simp only [Act.put, List.setIfInBounds_toArray]
  refine wpAnyH_done (by kernel_rfl) ?_ _
  refine NoPanic.normal ?_
  go_wp2_with fail
  go_ret
  exact ⟨⟨_, rfl⟩, hb0.trans (hq.mono hb0.size)⟩
/-- A marker whose numbers are in the range. -/
def MkOk (m : Oq.Mk) : Prop := (0 ≤ m.old ∧ m.old ≤ 59) ∧ AllIn m.new
set_option maxRecDepth 100000 in
set_option maxHeartbeats 8000000 in
theorem mcheck_any (w : World) (m : Oq.Mk) (A : Option Addr) (k : Nat) (hv : IV w A m.new) (hl : m.new.length ≤ 9223372036854775807) :
    Calls Try.prog 32 #[.agg #[.int .i64 m.old, .slice A m.new.length k]] w fun e w' => (∃ c : Int, e = .returned (.int .i64 c) ∧ (c = 0 → MkOk m)) ∧ Below w.heap.size w w' := by
  have HI := Lib.hid (fun (w1 : World) => inRange_any w1 m.old)
  have HCF := Lib.hid (fun (w1 : World) (hb : Below w.heap.size w w1) fv hfv => containsFunc_any w1 A k m.new fv hfv (hv.below hb) hl)
  have HV := Lib.hid (fun (w1 : World) (hb : Below w.heap.size w w1) => hv.below hb)
  have HM := Lib.hid (show ((decide (0 ≤ m.old) && decide (m.old ≤ 59)) = true ∧ AllIn m.new) → MkOk m from fun h => ⟨by simpa using h.1, h.2⟩)
  clear hv
  obtain ⟨old, new⟩ := m
  simp only at *
  generalize MkOk ⟨old, new⟩ = PM at *
  generalize (decide (0 ≤ old) && decide (old ≤ 59)) = q at *
  have b0 := Blk.new w 57 #[.int .i64 old, .slice A new.length k]
  have hb0 := below_alloc1 w (.cells #[.int .i64 old, .slice A new.length k] 57)
  have HCF2 := Lib.hid (HCF.out _ hb0 _ rfl)
  have HI2 := Lib.hid (HI.out (w.alloc (.cells #[.int .i64 old, .slice A new.length k] 57)))
  clear HCF HI
  cases q with
  | false =>
    go_enter Try.func32, Try.ntmps32
    go_wp2_with (first | (go_at_call 43; with_reducible refine HI2.out.mono ?_; rintro e w' ⟨rfl, rfl⟩))
    go_ret
    exact ⟨⟨_, rfl, fun h => by first | omega | (simp at h)⟩, hb0⟩
  | true =>
    go_enter Try.func32, Try.ntmps32
    go_wp2_with (first | (go_at_call 43; with_reducible refine HI2.out.mono ?_; rintro e w' ⟨rfl, rfl⟩))
    go_at_call 44
    with_reducible refine HCF2.out.mono ?_
    rintro e w' ⟨⟨b, rfl, hb⟩, rfl⟩
    cases b with
    | true =>
      go_wp2_with fail
      go_ret
      exact ⟨⟨_, rfl, fun h => by first | omega | (simp at h)⟩, hb0⟩
    | false =>
      have HP := Lib.hid (HM.out ⟨(by first | exact rfl | trivial), hb rfl⟩)
      clear HM hb HI2 HCF2
      have p1 := (b0.cell 1).trans rfl
      have pl := b0.lt
      have HV2 := HV.out _ hb0
      go_wp2_with fail
      go_loopw [17] (fun iv wr => ∃ i n : Nat, i ≤ new.length ∧ iv = .int .i64 i ∧ wr = (w.alloc (.cells #[.int .i64 old, .slice A new.length k] 57)).drewN n) (fun iv _ => new.length - (intOf iv).toNat)
      case atStart => exact ⟨0, 0, Nat.zero_le _, (by first | exact rfl | trivial), (by first | exact rfl | trivial)⟩
      case round =>
        obtain ⟨i, n, hi, rfl, rfl⟩ := hrel
        by_cases hlt : i < new.length
        · have hlt' : (i : Int) < new.length := by omega
          obtain ⟨b, off, e, hb, d0⟩ := HV2.at_ i hlt
          subst e
          by_cases hi0 : 0 < i
          · have hi0' : (0 : Int) < i := by omega
            have hg1 : decide ((0 : Int) < i) = true := by simp; omega
            have hg2 : decide (0 < i) = true := by simp; omega
            have hsub : IntKind.i64.wrap ((i : Int) - 1) = ((i - 1 : Nat) : Int) := by rw [IntWalk.i64_in _ (by omega)]; omega
            have hj : ((i - 1 : Nat) : Int) < new.length := by omega
            obtain ⟨b', off', e', hb', d1⟩ := HV2.at_ (i - 1) (by omega)
            injection e' with e'
            injection e' with e1 e2 _
            subst e1
            subst e2
            generalize new[i] = x at *
            generalize new[i - 1] = y at *
            by_cases hle : x ≤ y
            · generalize i - 1 = j at *
              go_wp2_with fail
              try go_quiet (fail)
              try go_wp2_with fail
              go_ret
              exact ⟨⟨_, rfl, fun h => by omega⟩, (by first | exact below_drewN hb0 _ | exact below_drewN (below_drewN hb0 _) _)⟩
            · generalize hjj : i - 1 = j at *
              go_wp2_with fail
              try go_quiet (fail)
              try go_wp2_with fail
              go_roundw
              case rel => exact ⟨i + 1, _, by omega, by go_num, (by first | exact rfl | trivial | exact World.drewN_drewN _ _ _)⟩
              case measure => simp [intOf]; omega
          · have hi0' : ¬ (0 : Int) < i := by omega
            have hg1 : decide ((0 : Int) < i) = false := by simp; omega
            have hg2 : decide (0 < i) = false := by simp; omega
            generalize new[i] = x at *
            go_wp2_with fail
            try go_quiet (fail)
            try go_wp2_with fail
            go_roundw
            case rel => exact ⟨i + 1, _, by omega, by go_num, (by first | exact rfl | trivial | exact World.drewN_drewN _ _ _)⟩
            case measure => simp [intOf]; omega
        · obtain rfl : i = new.length := by omega
          go_wp2_with fail
          go_ret
          exact ⟨⟨_, rfl, fun _ => HP.out⟩, below_drewN hb0 _⟩
end Go.Proofs.Ytebohncdhhikkaa
