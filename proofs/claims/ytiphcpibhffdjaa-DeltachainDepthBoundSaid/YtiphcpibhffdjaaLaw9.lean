/-
  DeltachainDepthBound: the law's walk.
-/
import Derived.Test.YtiphcpibhffdjaaLaw7
import Derived.Test.YtiphcpibhffdjaaWalk14
namespace Go.Proofs.Ytiphcpibhffdjaa
open Go.RowKit Go.V
set_option linter.unusedVariables false

set_option maxRecDepth 100000 in
set_option maxHeartbeats 16000000 in
theorem law9_any (w : World) (A : Option Addr) (k : Nat) (vs : List (List UInt8)) (d : Int) (hv : VsV w Free A vs) (hl : vs.length ≤ 9223372036854775807) (hd : I64 d) :
    Calls Try.prog 9 #[.slice A vs.length k, .int .i64 d] w fun e w' => e = .returned (.bool true) ∧ Below w.heap.size w w' := by
  have HP0 := fun (w1 : World) h => pack_any w1 A k vs d h hl hd
  rcases Dc.packFault_cases vs d with hbad | ⟨hz, dn, rfl, hp⟩
  · rw [packRes_bad hbad] at HP0
    have HP := Lib.hid HP0
    have hbad1 : ((Dc.packFault vs d).1 == 0) = false := by simpa using hbad
    have hbad2 : ((Dc.packFault vs d).1 != 0) = true := by simpa using hbad
    clear HP0 hbad
    go_enter Try.func9, Try.ntmps9
    go_wp2_with fail
    go_at_call 10
    refine (example_any _).mono ?_
    rintro e w1 ⟨rfl, hb1⟩
    go_wp2_with fail
    go_at_call 17
    refine (HP.out _ (hv.keep (Keeps.below hb1 (fun _ _ h => h)))).mono ?_
    rintro e w2 ⟨A2, c2, rfl, _, _, hb2'⟩
    have hb2 := hb1.trans (hb2'.mono hb1.size)
    have hsz2 := hb2.size
    clear hb1 hb2' HP
    simp only [List.length_nil]
    generalize Dc.packFault vs d = r at *
    obtain ⟨cd, ix⟩ := r
    simp only at hbad1 hbad2
    go_wp2_with fail
    go_ret
    exact ⟨rfl, hb2.alloc hsz2 _⟩
  · rw [packRes_ok hz] at HP0
    have HP := Lib.hid HP0
    have hlen := hp.len
    have hd20 := hp.d
    have hcok := Dc.pack_ok hp
    have HBK := Lib.hid (fun i hi => Dc.pack_back hp (i + 1) i (Nat.lt_succ_self _) hi)
    have HALL := Lib.hid hp.all
    have HROW := Lib.hid (fun (wr : World) (hb : Below w.heap.size w wr) i hi => (hv.keep (Keeps.below hb (fun _ _ h => h))).row (w := wr) i hi)
    clear HP0 hp
    go_enter Try.func9, Try.ntmps9
    go_wp2_with fail
    go_at_call 10
    refine (example_any _).mono ?_
    rintro e w1 ⟨rfl, hb1⟩
    go_wp2_with fail
    go_at_call 17
    refine (HP.out _ (hv.keep (Keeps.below hb1 (fun _ _ h => h)))).mono ?_
    rintro e w2 ⟨A2, c2, rfl, hcc2, hch, hb2'⟩
    have hb2 := hb1.trans (hb2'.mono hb1.size)
    have hsz2 := hb2.size
    have hb3 := hb2.alloc hsz2 (.cells #[.int .i64 0, .int .i64 0] 26)
    have hch3 : ChV _ Free A2 (Dc.packL vs dn vs.length) := (hch.keep ((Keeps.refl w2 (Under w1.heap.size)).into (X'' := Free) (fun _ h => h.elim))).keep (Keeps.alloc _ _ (.cells #[.int .i64 0, .int .i64 0] 26))
    clear hb1 hb2' HP hch
    simp only [Dc.packL_length] at hcc2 ⊢
    have hfz := hcok.fault
    have hpl := Dc.packL_length vs dn vs.length
    have HC20 := Lib.hid (depths_any _ A2 c2 _ hch3 (by rw [hpl]; omega))
    have HC19 := Lib.hid (fun (w' : World) (i : Nat) (hb : Below (w2.alloc (.cells #[.int .i64 0, .int .i64 0] 26)).heap.size (w2.alloc (.cells #[.int .i64 0, .int .i64 0] 26)) w') (hi : i < vs.length) => read_any w' A2 c2 _ i (hch3.keep (free_below hb)) (by rw [hpl]; omega) (by unfold I64; omega))
    rw [hpl] at HC20 HC19
    have HDI : Hid (depsI (Dc.packL vs dn vs.length) (Dc.packL vs dn vs.length).length = (List.range vs.length).map fun i : Nat => ((i % (dn + 1) : Nat) : Int)) := Lib.hid (by
      refine List.ext_getElem (by simp) fun i h1 h2 => ?_
      have hi : i < vs.length := by simpa using h1
      have hg := Dc.deps_get (Dc.packL vs dn vs.length) i vs.length hi
      simp only [depsI, List.getElem_map, List.getElem_range, hpl]
      rw [List.getElem?_eq_getElem (by simpa using hi)] at hg
      injection hg with hg
      rw [hg, (HBK.out i hi).2.2])
    go_wp2_with fail
    go_at_call 20
    refine HC20.out.mono ?_
    rintro e w3 ⟨hb3', hres⟩
    rcases hres with ⟨hne, _⟩ | ⟨_, A3, c3, rfl, hc3, hD⟩
    · rw [hfz] at hne; exact absurd rfl hne
    rw [hpl] at hc3
    rw [HDI.out] at hD
    simp only [hpl]
    have hbB := (Below.refl w3.heap.size w3).alloc (Nat.le_refl _) (.cells #[.int .i64 0, .int .i64 0] 26)
    have hb4 := (hb3'.trans (hbB.mono hb3'.size))
    have hD4 := hD.keep (Keeps.alloc _ _ (.cells #[.int .i64 0, .int .i64 0] 26))
    have hnl : ((vs.length : Int) != vs.length) = false := by simp
    go_wp2_with fail
    obtain ⟨wB, hwB⟩ : ∃ wB : World, w3.alloc (.cells #[.int .i64 0, .int .i64 0] 26) = wB := ⟨_, rfl⟩
    rw [hwB] at hb4 hD4 ⊢
    have HB5 := Lib.hid (fun (w' : World) (hb : Below wB.heap.size wB w') => (hb4.trans (hb.mono hb4.size)))
    have HB6 := Lib.hid (fun (w' : World) (hb : Below wB.heap.size wB w') => (hb3.trans ((HB5.out w' hb).mono hb3.size)))
    clear hwB hbB hb3' hD hfz HC20
    go_loopw [9] (fun v wr => ∃ i : Nat, i ≤ vs.length ∧ v = .int .i64 i ∧ Below wB.heap.size wB wr) (fun v _ => vs.length - (intOf v).toNat)
    case atStart => exact ⟨0, Nat.zero_le _, rfl, Below.refl _ _⟩
    case round =>
      obtain ⟨i, hi, rfl, hbr⟩ := hrel
      obtain ⟨wo, rfl⟩ : ∃ wo : World, wo = wr := ⟨_, rfl⟩
      by_cases hil : i < vs.length
      · have hil' : (i : Int) < vs.length := by omega
        obtain ⟨h1, h2, h3⟩ := HBK.out i hil
        rw [List.getElem?_eq_getElem hil] at h2
        simp only [Option.getD_some] at h2
        have hmod : ((i % (dn + 1) : Nat) : Int) ≤ dn := by have := Nat.mod_lt i (show 0 < dn + 1 by omega); omega
        go_wp2_with fail
        go_at_call 19
        refine (HC19.out _ i (HB5.out _ hbr) hil).mono ?_
        rintro e w5 ⟨hb5', hres⟩
        rcases hres with ⟨hne, _⟩ | ⟨_, hni, _⟩ | ⟨_, n, hin, _, A5, c5, rfl, hc5, hs5⟩
        · rw [hcok.fault] at hne; exact absurd rfl hne
        · exact absurd ⟨by omega, by rw [hpl]; omega⟩ hni
        obtain rfl : n = i := by omega
        rw [h2] at hc5 hs5 ⊢
        have hb5 := hbr.trans (hb5'.mono hbr.size)
        have hb6 := hb5.alloc hb5.size (.cells #[.int .i64 0, .int .i64 0] 26)
        obtain ⟨b, off, e, hb, hc⟩ := (hD4.keep (free_below hb6)).sv.int n (by simpa using hil)
        subst e
        simp only [List.getElem_map, List.getElem_range] at hc
        obtain ⟨b2, off2, Ad, kd, e2, hbb, _, hcv, hk1, hk2, hsa⟩ := HROW.out _ (HB6.out _ hb6) n hil
        subst e2
        have hs6 := hs5.keep (Keeps.alloc _ _ (.cells #[.int .i64 0, .int .i64 0] 26))
        generalize vs[n] = x at *
        have e1 : ∀ q, (convert 22 9 (.slice A5 x.length c5)).run Try.prog ((w5.alloc (.cells #[.int .i64 0, .int .i64 0] 26)).drewN q) = .ok (.string ⟨x.toArray⟩) ((w5.alloc (.cells #[.int .i64 0, .int .i64 0] 26)).drewN q) := fun q => run_conv_str (P := Try.prog) 22 9 5 c5 Try.underlying22 Try.underlying5 Try.underlying9 (SV.drewN hs6.sv q)
        have e2 : ∀ q, (convert 22 9 (.slice Ad x.length kd)).run Try.prog ((w5.alloc (.cells #[.int .i64 0, .int .i64 0] 26)).drewN q) = .ok (.string ⟨x.toArray⟩) ((w5.alloc (.cells #[.int .i64 0, .int .i64 0] 26)).drewN q) := fun q => run_conv_str (P := Try.prog) 22 9 5 kd Try.underlying22 Try.underlying5 Try.underlying9 (SV.drewN hsa.sv q)
        generalize ((n % (dn + 1) : Nat) : Int) = m at *
        go_wp2_with fail
        go_quiet (fail)
        go_wp2_with fail
        go_roundw
        case rel => exact ⟨n + 1, by omega, by go_num, below_drewN hb6 _⟩
        case measure => simp [intOf]; omega
      · obtain rfl : i = vs.length := by omega
        go_wp2_with fail
        go_ret
        exact ⟨rfl, HB6.out _ hbr⟩
end Go.Proofs.Ytiphcpibhffdjaa
