/-
  DeltachainReadMatchesSpec: the law's walk.
-/
import Derived.Test.YtiphcpibhffdjaaWalk14
import Derived.Test.YtiphcpibhffdjaaLawE
import Derived.Test.YtiphcpibhffdjaaLaw3
namespace Go.Proofs.Ytiphcpibhffdjaa
open Go.RowKit Go.V
set_option linter.unusedVariables false

set_option maxRecDepth 100000 in
set_option maxHeartbeats 16000000 in
theorem law8_any (w : World) (A : Option Addr) (k : Nat) (c : List Dc.En) (i : Int) (hv : ChV w Free A c) (hl64 : c.length ≤ 9223372036854775807) (hi : I64 i) :
    Calls Try.prog 8 #[.slice A c.length k, .int .i64 i] w fun e w' => e = .returned (.bool true) ∧ Below w.heap.size w w' := by
  have HV := Lib.hid (fun (w' : World) (hb : Below w.heap.size w w') => hv.keep (free_below hb))
  have HC19 := Lib.hid (fun (w1 : World) (hb : Below w.heap.size w w1) => read_any w1 A k c i (HV.out _ hb) hl64 hi)
  have HC20 := Lib.hid (fun (w1 : World) (hb : Below w.heap.size w w1) => depths_any w1 A k c (HV.out _ hb) hl64)
  have HC21 := Lib.hid (fun (w1 : World) (hb : Below w.heap.size w w1) => chainFault_any w1 A k c (HV.out _ hb) hl64)
  unfold I64 at hi
  clear hv
  go_enter Try.func8, Try.ntmps8
  go_wp2_with fail
  go_at_call 10
  refine (example_any _).mono ?_
  rintro e w1 ⟨rfl, hb1⟩
  go_wp2_with fail
  go_at_call 19
  refine (HC19.out _ hb1).mono ?_
  rintro e w2 ⟨hb2', hres2⟩
  have hb2 := hb1.trans (hb2'.mono hb1.size)
  have hbb := hres2
  rcases hres2 with ⟨hne, rfl⟩ | ⟨hz, hin, rfl⟩ | ⟨hz, n, rfl, hn, A2, c2, rfl, hc2, hs2⟩
  · have hbad1 : ((Dc.chFault c).1 == 0) = false := by simpa using hne
    have hbad2 : ((Dc.chFault c).1 != 0) = true := by simpa using hne
    have hbx := hb2.alloc hb2.size (.cells #[.int .i64 (Dc.chFault c).1, .int .i64 (Dc.chFault c).2] 26)
    have k6 := Blk.new w2 26 #[.int .i64 (Dc.chFault c).1, .int .i64 (Dc.chFault c).2]
    clear hbb hb2'
    go_wp2_with fail
    go_at_call 20
    refine (HC20.out _ hbx).mono ?_
    rintro e w3 ⟨hb3', hres3⟩
    rcases hres3 with ⟨_, rfl⟩ | ⟨hz, _⟩
    rotate_left
    · rw [hz] at hne; exact absurd rfl hne
    have hb3 := hbx.trans (hb3'.mono hbx.size)
    have k63 := k6.below hb3' k6.lt
    have hby := hb3.alloc hb3.size (.cells #[.int .i64 (Dc.chFault c).1, .int .i64 (Dc.chFault c).2] 26)
    have k64 := k63.alloc (.cells #[.int .i64 (Dc.chFault c).1, .int .i64 (Dc.chFault c).2] 26)
    have k8 := Blk.new w3 26 #[.int .i64 (Dc.chFault c).1, .int .i64 (Dc.chFault c).2]
    go_wp2_with fail
    go_at_call 21
    refine (HC21.out _ hby).mono ?_
    rintro e w4 ⟨rfl, hb4'⟩
    have hb4 := hby.trans (hb4'.mono hby.size)
    have k65 := (k64.below hb4' k64.lt)
    have k85 := (k8.below hb4' k8.lt)
    have hsz := hb4.size
    clear hb3' hb4' HC19 HC20 HC21 HV hbx hby hb2 hb3 k6 k63 k64 k8
    generalize Dc.chFault c = r at *
    obtain ⟨cd, ix⟩ := r
    simp only at *
    have p0 := k65.cell 0
    have p1 := k65.cell 1
    have q0 := k85.cell 0
    have q1 := k85.cell 1
    have l1 := k65.lt
    have l2 := k85.lt
    simp only [List.getElem?_toArray, List.getElem?_cons_zero, List.getElem?_cons_succ] at p0 p1 q0 q1
    go_wp2_with fail
    go_ret
    exact ⟨rfl, hb4.alloc hsz _⟩
  · have hbx := hb2.alloc hb2.size (.cells #[.int .i64 (6), .int .i64 (-1)] 26)
    have k6 := Blk.new w2 26 #[.int .i64 (6), .int .i64 (-1)]
    clear hbb hb2'
    go_wp2_with fail
    go_at_call 20
    refine (HC20.out _ hbx).mono ?_
    rintro e w3 ⟨hb3', hres3⟩
    rcases hres3 with ⟨hne, _⟩ | ⟨_, A3, c3, rfl, hc3, hD⟩
    · rw [hz] at hne; exact absurd rfl hne
    have hb3 := hbx.trans (hb3'.mono hbx.size)
    have k63 := k6.below hb3' k6.lt
    have hby := hb3.alloc hb3.size (.cells #[.int .i64 0, .int .i64 0] 26)
    have k64 := k63.alloc (.cells #[.int .i64 0, .int .i64 0] 26)
    have k8 := Blk.new w3 26 #[.int .i64 0, .int .i64 0]
    go_wp2_with fail
    go_at_call 21
    refine (HC21.out _ hby).mono ?_
    rintro e w4 ⟨rfl, hb4'⟩
    rw [hz]
    have hb4 := hby.trans (hb4'.mono hby.size)
    have k65 := (k64.below hb4' k64.lt).alloc (.cells #[.int .i64 0, .int .i64 0] 26)
    have k85 := (k8.below hb4' k8.lt).alloc (.cells #[.int .i64 0, .int .i64 0] 26)
    have k95 := Blk.new w4 26 #[.int .i64 0, .int .i64 0]
    have hbB := hb4.alloc hb4.size (.cells #[.int .i64 0, .int .i64 0] 26)
    have hDB : SA _ Free A3 (intsV (depsI c c.length)) := ((hD.keep (Keeps.alloc _ _ (.cells #[.int .i64 0, .int .i64 0] 26))).keep (free_below hb4')).keep (Keeps.alloc _ _ (.cells #[.int .i64 0, .int .i64 0] 26))

    have hcok : Dc.COk c := (Dc.chFault_ok c (by rw [hz])).2
    have p0 := k65.cell 0
    have p1 := k65.cell 1
    have q0 := k85.cell 0
    have q1 := k85.cell 1
    have r0 := k95.cell 0
    have l1 := k65.lt
    simp only [List.getElem?_toArray, List.getElem?_cons_zero, List.getElem?_cons_succ] at p0 p1 q0 q1 r0
    have hnl : ((c.length : Int) != c.length) = false := by simp
    clear hbx hby k6 k63 k64 k8
    go_wp2_with fail
    obtain ⟨wB, hwB⟩ : ∃ wB : World, w4.alloc (.cells #[.int .i64 0, .int .i64 0] 26) = wB := ⟨_, rfl⟩
    rw [hwB] at hbB hDB p0 p1 q0 q1 r0 l1  ⊢
    have hszB := hbB.size
    have HVB := Lib.hid (fun (w' : World) (hb : Below wB.heap.size wB w') => HV.out _ (hbB.trans (hb.mono hszB)))
    have HALL := Lib.hid hcok.all
    have hl20 := hcok.len
    have HK : Hid (∀ w6 : World, Below wB.heap.size wB w6 → w6.cell? ⟨w2.heap.size, 0, none⟩ = some (.int .i64 6) ∧ w6.cell? ⟨w2.heap.size, 1, none⟩ = some (.int .i64 (-1))) := Lib.hid fun w6 hb => ⟨(hb.cell (p := ⟨w2.heap.size, 0, none⟩) l1).trans p0, (hb.cell (p := ⟨w2.heap.size, 1, none⟩) l1).trans p1⟩
    clear hD hb3' hb4' HC19 HC20 HC21 HV hb2 hb3 hb4 hwB k65 k85 k95 hz hcok
    go_loopw [10] (fun v wr => ∃ j n : Nat, j ≤ c.length ∧ v = .int .i64 j ∧ wr = wB.drewN n) (fun v _ => c.length - (intOf v).toNat)
    case atStart => exact ⟨0, 0, Nat.zero_le _, rfl, rfl⟩
    case round =>
      obtain ⟨j, m, hj, rfl, rfl⟩ := hrel
      by_cases hjl : j < c.length
      · have hjl' : (j : Int) < c.length := by omega
        obtain ⟨b, off, e, hb, hc⟩ := hDB.sv.int j (by simpa using hjl)
        subst e
        have hg := Dc.deps_get c j c.length hjl
        rw [List.getElem?_eq_getElem (by simpa using hjl)] at hg
        injection hg with hg
        have hdj : (depsI c c.length)[j]'(by simpa using hjl) = ((Dc.dep c j : Nat) : Int) := by simp [depsI, hg]
        rw [hdj] at hc
        have HC22 := Lib.hid (fun q => chainDepth_any (wB.drewN q) A k c j (HVB.out _ (below_drewN (Below.refl _ _) q)) hl20 hjl (fun a ha => HALL.out a (by omega)))
        have hne : (((Dc.dep c j : Nat) : Int) != ((Dc.dep c j : Nat) : Int)) = false := by simp
        clear hdj hg
        generalize Dc.dep c j = dj at *
        go_wp2_with fail
        go_quiet ((go_at_call 22; exact (HC22.out _).mono fun e w2 h => ⟨h.1, _, h.2.symm⟩))
        go_wp2_with fail
        go_roundw
        case rel => exact ⟨j + 1, _, by omega, by go_num, rfl⟩
        case measure => simp [intOf]; omega
      · obtain rfl : j = c.length := by omega
        clear hj hjl
        have hwr : IntKind.i64.wrap ((c.length : Int) - 1) = (c.length : Int) - 1 := IntWalk.i64_in _ (by omega)
        have hbm : Below wB.heap.size wB (wB.drewN m).drew := below_drew' (below_drewN (Below.refl _ _) m)
        have HN := Lib.hid (show (decide (0 ≤ i) && decide (i ≤ (c.length : Int) - 1)) = false from by
          rw [Bool.and_eq_false_iff]; simp only [decide_eq_false_iff_not]; omega)
        have hb7 : Below wB.heap.size wB ((wB.drewN m).drew.alloc (.cells #[.int .i64 6, .int .i64 (-1)] 26)) := hbm.alloc hbm.size _
        clear HVB HALL hin
        go_wp2_with (first | (go_at_call 18; refine (in_any _ _ _ _).mono ?_; rintro e w' ⟨rfl, rfl⟩; rw [HN.out]))
        go_region_held3 (fun w6 => w6.cell? ⟨w2.heap.size, 0, none⟩ = some (.int .i64 6) ∧ w6.cell? ⟨w2.heap.size, 1, none⟩ = some (.int .i64 (-1)))
          (first | exact HK.out _ hbm | exact HK.out _ hb7)
          (first | (go_at_call 12; refine (fault_any _ _ _).mono ?_; rintro e w' ⟨rfl, rfl⟩))
        have hb8 := hbB.trans (hb7.mono hszB)
        go_wp2_with fail
        go_ret
        exact ⟨rfl, hb8⟩
  · have hbx := hb2.alloc hb2.size (.cells #[.int .i64 (0), .int .i64 (0)] 26)
    have k6 := Blk.new w2 26 #[.int .i64 (0), .int .i64 (0)]
    clear hbb hb2'
    go_wp2_with fail
    go_at_call 20
    refine (HC20.out _ hbx).mono ?_
    rintro e w3 ⟨hb3', hres3⟩
    rcases hres3 with ⟨hne, _⟩ | ⟨_, A3, c3, rfl, hc3, hD⟩
    · rw [hz] at hne; exact absurd rfl hne
    have hb3 := hbx.trans (hb3'.mono hbx.size)
    have k63 := k6.below hb3' k6.lt
    have hby := hb3.alloc hb3.size (.cells #[.int .i64 0, .int .i64 0] 26)
    have k64 := k63.alloc (.cells #[.int .i64 0, .int .i64 0] 26)
    have k8 := Blk.new w3 26 #[.int .i64 0, .int .i64 0]
    go_wp2_with fail
    go_at_call 21
    refine (HC21.out _ hby).mono ?_
    rintro e w4 ⟨rfl, hb4'⟩
    rw [hz]
    have hb4 := hby.trans (hb4'.mono hby.size)
    have k65 := (k64.below hb4' k64.lt).alloc (.cells #[.int .i64 0, .int .i64 0] 26)
    have k85 := (k8.below hb4' k8.lt).alloc (.cells #[.int .i64 0, .int .i64 0] 26)
    have k95 := Blk.new w4 26 #[.int .i64 0, .int .i64 0]
    have hbB := hb4.alloc hb4.size (.cells #[.int .i64 0, .int .i64 0] 26)
    have hDB : SA _ Free A3 (intsV (depsI c c.length)) := ((hD.keep (Keeps.alloc _ _ (.cells #[.int .i64 0, .int .i64 0] 26))).keep (free_below hb4')).keep (Keeps.alloc _ _ (.cells #[.int .i64 0, .int .i64 0] 26))
    have hs2B : SA _ Free A2 (bytesV (Dc.ver c n)) := ((((hs2.keep (Keeps.alloc _ _ (.cells #[.int .i64 0, .int .i64 0] 26))).keep (free_below hb3')).keep (Keeps.alloc _ _ (.cells #[.int .i64 0, .int .i64 0] 26))).keep (free_below hb4')).keep (Keeps.alloc _ _ (.cells #[.int .i64 0, .int .i64 0] 26))
    have hcok : Dc.COk c := (Dc.chFault_ok c (by rw [hz])).2
    have p0 := k65.cell 0
    have p1 := k65.cell 1
    have q0 := k85.cell 0
    have q1 := k85.cell 1
    have r0 := k95.cell 0
    have l1 := k65.lt
    simp only [List.getElem?_toArray, List.getElem?_cons_zero, List.getElem?_cons_succ] at p0 p1 q0 q1 r0
    have hnl : ((c.length : Int) != c.length) = false := by simp
    clear hbx hby k6 k63 k64 k8
    go_wp2_with fail
    obtain ⟨wB, hwB⟩ : ∃ wB : World, w4.alloc (.cells #[.int .i64 0, .int .i64 0] 26) = wB := ⟨_, rfl⟩
    rw [hwB] at hbB hDB p0 p1 q0 q1 r0 l1 hs2B ⊢
    have hszB := hbB.size
    have HVB := Lib.hid (fun (w' : World) (hb : Below wB.heap.size wB w') => HV.out _ (hbB.trans (hb.mono hszB)))
    have HALL := Lib.hid hcok.all
    have hl20 := hcok.len
    have HK : Hid (∀ w6 : World, Below wB.heap.size wB w6 → w6.cell? ⟨w2.heap.size, 0, none⟩ = some (.int .i64 0) ∧ (convert 22 9 (.slice A2 (Dc.ver c n).length c2)).run Try.prog w6 = .ok (.string ⟨(Dc.ver c n).toArray⟩) w6) := Lib.hid fun w6 hb => ⟨(hb.cell (p := ⟨w2.heap.size, 0, none⟩) l1).trans p0, run_conv_str (P := Try.prog) 22 9 5 c2 Try.underlying22 Try.underlying5 Try.underlying9 (hs2B.keep (free_below hb)).sv⟩
    clear hD hb3' hb4' HC19 HC20 HC21 HV hb2 hb3 hb4 hwB k65 k85 k95 hz hcok hs2
    go_loopw [10] (fun v wr => ∃ j n : Nat, j ≤ c.length ∧ v = .int .i64 j ∧ wr = wB.drewN n) (fun v _ => c.length - (intOf v).toNat)
    case atStart => exact ⟨0, 0, Nat.zero_le _, rfl, rfl⟩
    case round =>
      obtain ⟨j, m, hj, rfl, rfl⟩ := hrel
      by_cases hjl : j < c.length
      · have hjl' : (j : Int) < c.length := by omega
        obtain ⟨b, off, e, hb, hc⟩ := hDB.sv.int j (by simpa using hjl)
        subst e
        have hg := Dc.deps_get c j c.length hjl
        rw [List.getElem?_eq_getElem (by simpa using hjl)] at hg
        injection hg with hg
        have hdj : (depsI c c.length)[j]'(by simpa using hjl) = ((Dc.dep c j : Nat) : Int) := by simp [depsI, hg]
        rw [hdj] at hc
        have HC22 := Lib.hid (fun q => chainDepth_any (wB.drewN q) A k c j (HVB.out _ (below_drewN (Below.refl _ _) q)) hl20 hjl (fun a ha => HALL.out a (by omega)))
        have hne : (((Dc.dep c j : Nat) : Int) != ((Dc.dep c j : Nat) : Int)) = false := by simp
        clear hdj hg
        generalize Dc.dep c j = dj at *
        go_wp2_with fail
        go_quiet ((go_at_call 22; exact (HC22.out _).mono fun e w2 h => ⟨h.1, _, h.2.symm⟩))
        go_wp2_with fail
        go_roundw
        case rel => exact ⟨j + 1, _, by omega, by go_num, rfl⟩
        case measure => simp [intOf]; omega
      · obtain rfl : j = c.length := by omega
        clear hj hjl
        have hwr : IntKind.i64.wrap ((c.length : Int) - 1) = (c.length : Int) - 1 := IntWalk.i64_in _ (by omega)
        have hbm : Below wB.heap.size wB (wB.drewN m).drew := below_drew' (below_drewN (Below.refl _ _) m)
        have HN := Lib.hid (show (decide (0 ≤ (n : Int)) && decide ((n : Int) ≤ (c.length : Int) - 1)) = true from by
          rw [decide_eq_true (by omega), decide_eq_true (by omega)]; rfl)
        have HC23 := Lib.hid (fun (w1 : World) (hb1 : Below wB.heap.size wB w1) => chainVersion_any A k c hl20 (n + 1) n w1 (Nat.lt_succ_self _) (HVB.out _ hb1) hn (fun j hj => HALL.out j (by omega)))
        have hbm2 : Below wB.heap.size wB (wB.drewN (m + 1)) := below_drewN (Below.refl _ _) _
        clear HVB HALL
        generalize Dc.ver c n = ve at *
        go_wp2_with (first | (go_at_call 18; refine (in_any _ _ _ _).mono ?_; rintro e w' ⟨rfl, rfl⟩; rw [HN.out]))
        have e1 : ∀ q, (convert 22 9 (.slice A2 ve.length c2)).run Try.prog (wB.drewN q) = .ok (.string ⟨ve.toArray⟩) (wB.drewN q) := fun q => (HK.out _ (below_drewN (Below.refl _ _) q)).2
        go_region_with ((go_at_call 23; (with_reducible refine (HC23.out _ hbm2).mono ?_); rintro e w6 ⟨A6, c6, rfl, hc6, hs6, hb6⟩; have hb7 : Below wB.heap.size wB w6 := hbm2.trans (hb6.mono hbm2.size); have ec6 := run_conv_str (P := Try.prog) 22 9 5 c6 Try.underlying22 Try.underlying5 Try.underlying9 hs6.sv; have e16 := (HK.out _ hb7).2))
        all_goals
          go_wp2_with fail
          go_ret
          exact ⟨rfl, hbB.trans (hb7.mono hszB)⟩
end Go.Proofs.Ytiphcpibhffdjaa
