/-
  References: walk of the reference's 'RefName'.
-/
import Derived.Test.YtfbbgnhelannjaaDoorRf8
namespace Go.Proofs.YtfbbgnhelannjaaDoor
open Go.RowKit Go.V Go.Shelf Go.Lib
set_option linter.unusedVariables false

theorem suffix5 (x : List UInt8) (h : 5 ≤ x.length) : Lib.hasSuffix x [46, 108, 111, 99, 107] = decide (x.drop (x.length - 5) = [46, 108, 111, 99, 107]) := by
  unfold Lib.hasSuffix
  rw [Bool.eq_iff_iff, decide_eq_true_iff, List.isSuffixOf_iff_suffix]
  constructor
  · rintro ⟨t, rfl⟩; simp
  · intro h2; exact ⟨x.take (x.length - 5), by rw [← h2, List.take_append_drop]⟩
theorem suffix5_no (x : List UInt8) (h : x.length < 5) : Lib.hasSuffix x [46, 108, 111, 99, 107] = false := by
  unfold Lib.hasSuffix
  rw [Bool.eq_false_iff]
  intro h2
  rw [List.isSuffixOf_iff_suffix] at h2
  have := h2.length_le
  simp at this; omega
theorem chk_at (x : List UInt8) (k : Nat) (h : k < x.length) : Rf.chk x k = (Rf.letters.contains x[k] && !(decide (0 < k) && x[k] == 46 && x[k - 1]?.getD 0 == 46)) := by
  unfold Rf.chk; rw [List.getElem?_eq_getElem h]; rfl
theorem comp_false {x : List UInt8} {k : Nat} (h : k < x.length) (hc : Rf.chk x k = false) : Rf.comp x = false := by
  rw [Bool.eq_false_iff]; intro h2
  have := ((Rf.comp_chk x).1 h2).2.2.2 k h
  rw [hc] at this; cases this
set_option maxRecDepth 100000 in
set_option maxHeartbeats 16000000 in
theorem refName_any (w : World) (l : List UInt8) : Calls Tryd.prog 17 #[strV l] w fun e w' => e = .returned (.bool (Rf.nameOk l)) ∧ Below w.heap.size w w' := by
  have hszl : (⟨l.toArray⟩ : ByteArray).size = l.length := by simp [ByteArray.size]
  by_cases hlen : l.length ≤ 60
  · have HQ := Lib.hid (show Rf.nameOk l = (Rf.comps l).all Rf.comp from by unfold Rf.nameOk; rw [decide_eq_true hlen]; rfl)
    have hl' : ¬ (60 : Int) < l.length := by omega
    have HC := Lib.hid (components_any w l (by omega))
    have hcl : (Rf.comps l).length ≤ 61 := by have := Rf.comps_len l; omega
    generalize Rf.nameOk l = q at *
    have HX : Hid (∀ x ∈ Rf.comps l, x.length ≤ 60) := Lib.hid fun x hx => by have := Rf.comps_mem l x hx; omega
    generalize Rf.comps l = cs at *
    clear hlen
    go_enter Tryd.func17, Tryd.ntmps17
    go_wp2_with fail
    go_at_call 43
    refine HC.out.mono ?_
    rintro e w1 ⟨A, c, rfl, hc, hs, hb⟩
    have hv := hs.mono (X' := Free) (fun b hb => hb.elim)
    have HV := Lib.hid (fun i (hi : i < cs.length) => ssV_row hv i hi)
    clear hs hv HC
    go_wp2_with fail
    go_loopw [4] (fun iv wr => ∃ i : Nat, i ≤ cs.length ∧ iv = .int .i64 i ∧ Hid ((cs.take i).all Rf.comp = true) ∧ wr = w1) (fun iv _ => cs.length - (intOf iv).toNat)
    case atStart => exact ⟨0, Nat.zero_le _, rfl, Lib.hid (by simp), rfl⟩
    case round =>
      obtain ⟨i, hi, rfl, H, rfl⟩ := hrel
      obtain ⟨w1, rfl⟩ : ∃ w1 : World, w1 = wr := ⟨_, rfl⟩
      by_cases hlt : i < cs.length
      · have hlt' : (i : Int) < cs.length := by omega
        obtain ⟨b, off, e, hb', _, c0⟩ := HV.out i hlt
        subst e
        have hx60 := HX.out _ (List.getElem_mem hlt)
        have HN : Hid (Rf.comp cs[i] = false → q = false) := Lib.hid fun h => by
          rw [HQ.out, List.all_eq_false]; exact ⟨cs[i], List.getElem_mem hlt, by simp [h]⟩
        have HY : Hid (Rf.comp cs[i] = true → (cs.take (i + 1)).all Rf.comp = true) := Lib.hid fun h => by
          rw [List.take_succ_eq_append_getElem hlt, List.all_append, H.out]; simp [h]
        clear H
        generalize cs[i] = x at *
        by_cases hxe : x = []
        · subst hxe
          have hq := Lib.hid (HN.out rfl)
          clear HN HY
          go_wp2_with fail
          go_ret
          exact ⟨by rw [hq.out]; rfl, hb⟩
        · have hx0 : 0 < x.length := List.length_pos_iff.2 hxe
          have hxe' : (x == ([] : List UInt8)) = false := by simpa using hxe
          obtain ⟨x0, hx0e⟩ : ∃ a, a = x[0] := ⟨_, rfl⟩
          have hg0 : ∀ h, (⟨x.toArray⟩ : ByteArray)[0]'h = x0 := fun h => hx0e.symm ▸ rfl
          by_cases h46 : x0 = 46
          · have hq := Lib.hid (HN.out (by
              rw [Bool.eq_false_iff]; intro h
              have := ((Rf.comp_chk x).1 h).2.1
              rw [List.getElem?_eq_getElem hx0, ← hx0e, h46] at this
              exact this rfl))
            have h46' : ((x0.toNat : Int) == 46) = true := by rw [h46]; rfl
            have hszx : (⟨x.toArray⟩ : ByteArray).size = x.length := by simp [ByteArray.size]
            clear HN HY h46 hx0e hxe
            by_cases h5 : (5 : Int) ≤ x.length
            all_goals
              go_wp2_with fail
              go_ret
              exact ⟨by rw [hq.out]; rfl, hb⟩
          · have h46' : ((x0.toNat : Int) == 46) = false := by
              have : x0.toNat ≠ 46 := fun e => h46 (by rw [← UInt8.toNat_inj]; exact e)
              simp; omega
            have hdot : x[0]?.getD 0 ≠ 46 := by rw [List.getElem?_eq_getElem hx0, ← hx0e]; exact h46
            clear h46
            by_cases h5 : x.length < 5
            · have HSF := Lib.hid (suffix5_no x h5)
              have hszx : (⟨x.toArray⟩ : ByteArray).size = x.length := by simp [ByteArray.size]
              have h5' : ¬ (5 : Int) ≤ x.length := by omega
              have h5d : decide ((5 : Int) ≤ x.length) = false := by simp; omega
              clear hx0e h5
              go_wp2_with fail
              go_loopw [6] (fun kv wr => ∃ k : Nat, k ≤ x.length ∧ kv = .int .i64 k ∧ Hid (∀ j, j < k → Rf.chk x j = true) ∧ wr = w1) (fun kv _ => x.length - (intOf kv).toNat)
              case atStart => exact ⟨0, Nat.zero_le _, rfl, Lib.hid (fun j hj => by omega), rfl⟩
              case round =>
                obtain ⟨k, hk, rfl, HK, rfl⟩ := hrel
                by_cases hkl : k < x.length
                · have hkx : k < x.length := by omega
                  have hki : (k : Int) < x.length := by omega
                  have HCH := Lib.hid (chk_at x k hkx)
                  have HCF := Lib.hid (fun h => HN.out (comp_false (k := k) hkx h))
                  have HKN : Hid (Rf.chk x k = true → ∀ j, j < k + 1 → Rf.chk x j = true) := Lib.hid fun h j hj => by
                    by_cases e : j = k
                    · rw [e]; exact h
                    · exact HK.out j (by omega)
                  obtain ⟨u, hu⟩ : ∃ u, u = x[k] := ⟨_, rfl⟩
                  have hg : ∀ h, (⟨x.toArray⟩ : ByteArray)[k]'h = u := fun h => hu.symm ▸ rfl
                  rw [← hu] at HCH
                  have HL := Lib.hid (Rf.letters_ok u)
                  obtain ⟨n, hn⟩ : ∃ n, n = u.toNat := ⟨_, rfl⟩
                  have hn' := hn.symm
                  have hn255 : n ≤ 255 := by have := u.toNat_lt; omega
                  have HU : Hid (u = 46 ↔ n = 46) := Lib.hid ⟨fun e => by rw [hn, e]; rfl, fun e => by rw [← UInt8.toNat_inj, ← hn, e]; rfl⟩
                  clear hu hn
                  have hcase : (0 ≤ n ∧ n ≤ 44) ∨ n = 45 ∨ n = 46 ∨ n = 47 ∨ (48 ≤ n ∧ n ≤ 57) ∨ (58 ≤ n ∧ n ≤ 94) ∨ n = 95 ∨ n = 96 ∨ (97 ≤ n ∧ n ≤ 122) ∨ (123 ≤ n ∧ n ≤ 255) := by omega
                  rcases hcase with ⟨h1, h2⟩ | h1 | h1 | h1 | ⟨h1, h2⟩ | ⟨h1, h2⟩ | h1 | h1 | ⟨h1, h2⟩ | ⟨h1, h2⟩
                  · have hlt2 : Rf.letters.contains u = false := by rw [HL.out, hn']; unfold Rf.badR; simp <;> omega
                    have hu46 : (u == 46) = false := by rw [beq_eq_false_iff_ne]; intro e; have := HU.out.1 e; omega
                    have f0 : ¬ (97 : Int) ≤ n := by omega
                    have d0 : decide ((97 : Int) ≤ n) = false := by simp; omega
                    have f1 : (n : Int) ≤ 122 := by omega
                    have d1 : decide ((n : Int) ≤ 122) = true := by simp; omega
                    have f2 : ¬ (48 : Int) ≤ n := by omega
                    have d2 : decide ((48 : Int) ≤ n) = false := by simp; omega
                    have f3 : (n : Int) ≤ 57 := by omega
                    have d3 : decide ((n : Int) ≤ 57) = true := by simp; omega
                    have g45 : ((n : Int) == 45) = false := by simp; omega
                    have g95 : ((n : Int) == 95) = false := by simp; omega
                    have g46 : ((n : Int) == 46) = false := by simp; omega
                    have hq := Lib.hid (HCF.out (by rw [HCH.out, hlt2]; rfl))
                    clear HCF HCH HKN HK HN HY HL HU hlt2 hu46 h1 h2
                    go_wp2_with fail
                    go_ret
                    exact ⟨by rw [hq.out]; rfl, hb⟩
                  · have hlt2 : Rf.letters.contains u = true := by rw [HL.out, hn']; unfold Rf.badR; simp <;> omega
                    have hu46 : (u == 46) = false := by rw [beq_eq_false_iff_ne]; intro e; have := HU.out.1 e; omega
                    have f0 : ¬ (97 : Int) ≤ n := by omega
                    have d0 : decide ((97 : Int) ≤ n) = false := by simp; omega
                    have f1 : (n : Int) ≤ 122 := by omega
                    have d1 : decide ((n : Int) ≤ 122) = true := by simp; omega
                    have f2 : ¬ (48 : Int) ≤ n := by omega
                    have d2 : decide ((48 : Int) ≤ n) = false := by simp; omega
                    have f3 : (n : Int) ≤ 57 := by omega
                    have d3 : decide ((n : Int) ≤ 57) = true := by simp; omega
                    have g45 : ((n : Int) == 45) = true := by simp; omega
                    have g95 : ((n : Int) == 95) = false := by simp; omega
                    have g46 : ((n : Int) == 46) = false := by simp; omega
                    have HKN2 := Lib.hid (HKN.out (by rw [HCH.out, hlt2, hu46]; simp))
                    clear HCF HCH HKN HK HL HU hlt2 hu46 h1
                    go_wp2_with fail
                    all_goals
                      go_roundw
                      case rel => exact ⟨k + 1, by omega, by go_num, HKN2, by first | rfl | trivial⟩
                      case measure => simp [intOf]; omega
                  · have hlt2 : Rf.letters.contains u = true := by rw [HL.out, hn']; unfold Rf.badR; simp <;> omega
                    have f0 : ¬ (97 : Int) ≤ n := by omega
                    have d0 : decide ((97 : Int) ≤ n) = false := by simp; omega
                    have f1 : (n : Int) ≤ 122 := by omega
                    have d1 : decide ((n : Int) ≤ 122) = true := by simp; omega
                    have f2 : ¬ (48 : Int) ≤ n := by omega
                    have d2 : decide ((48 : Int) ≤ n) = false := by simp; omega
                    have f3 : (n : Int) ≤ 57 := by omega
                    have d3 : decide ((n : Int) ≤ 57) = true := by simp; omega
                    have g45 : ((n : Int) == 45) = false := by simp; omega
                    have g95 : ((n : Int) == 95) = false := by simp; omega
                    have g46 : ((n : Int) == 46) = true := by simp; omega
                    have hue : (u == 46) = true := by rw [HU.out.2 h1]; rfl
                    by_cases hk0 : k = 0
                    · have HKN2 := Lib.hid (HKN.out (by rw [HCH.out, hlt2, hk0]; rfl))
                      clear HCF HCH HKN HK HL HU hlt2 hue h1
                      have hz1 : decide ((0 : Int) < (k : Int)) = false := by simp <;> omega
                      have hz2 : decide (0 < k) = false := by simp <;> omega
                      have hz3 : ¬ (0 : Int) < k := by omega
                      clear hk0
                      go_wp2_with fail
                      go_roundw
                      case rel => exact ⟨k + 1, by omega, by go_num, HKN2, by first | rfl | trivial⟩
                      case measure => simp [intOf]; omega
                    · obtain ⟨j, rfl⟩ : ∃ j, k = j + 1 := ⟨k - 1, by omega⟩
                      obtain ⟨u2, hu2⟩ : ∃ u2, u2 = x[j] := ⟨_, rfl⟩
                      have hg2 : ∀ h, (⟨x.toArray⟩ : ByteArray)[j]'h = u2 := fun h => hu2.symm ▸ rfl
                      have HCH2 : Hid (Rf.chk x (j + 1) = !(u2 == 46)) := Lib.hid (by
                        rw [HCH.out, hlt2, hue, Nat.add_sub_cancel, List.getElem?_eq_getElem (by omega : j < x.length), ← hu2]; simp)
                      have hz1 : decide ((0 : Int) < (j : Int) + 1) = true := by simp <;> omega
                      have hz2 : (0 : Int) < (j : Int) + 1 := by omega
                      clear HCH hlt2 hue hu2
                      by_cases hp : u2 = 46
                      · have hq := Lib.hid (HCF.out (by rw [HCH2.out, hp]; rfl))
                        have hp' : ((u2.toNat : Int) == 46) = true := by rw [hp]; rfl
                        clear HCF HCH2 HKN HK HN HY HL HU hp h1
                        go_wp2_with fail
                        go_ret
                        exact ⟨by rw [hq.out]; rfl, hb⟩
                      · have HKN2 := Lib.hid (HKN.out (by rw [HCH2.out]; simpa using hp))
                        have hp' : ((u2.toNat : Int) == 46) = false := by
                          have : u2.toNat ≠ 46 := fun e => hp (by rw [← UInt8.toNat_inj]; exact e)
                          simp; omega
                        clear HCF HCH2 HKN HK HL HU hp h1
                        go_wp2_with fail
                        go_roundw
                        case rel => exact ⟨j + 1 + 1, by omega, by go_num, HKN2, by first | rfl | trivial⟩
                        case measure => simp [intOf]; omega
                  · have hlt2 : Rf.letters.contains u = false := by rw [HL.out, hn']; unfold Rf.badR; simp <;> omega
                    have hu46 : (u == 46) = false := by rw [beq_eq_false_iff_ne]; intro e; have := HU.out.1 e; omega
                    have f0 : ¬ (97 : Int) ≤ n := by omega
                    have d0 : decide ((97 : Int) ≤ n) = false := by simp; omega
                    have f1 : (n : Int) ≤ 122 := by omega
                    have d1 : decide ((n : Int) ≤ 122) = true := by simp; omega
                    have f2 : ¬ (48 : Int) ≤ n := by omega
                    have d2 : decide ((48 : Int) ≤ n) = false := by simp; omega
                    have f3 : (n : Int) ≤ 57 := by omega
                    have d3 : decide ((n : Int) ≤ 57) = true := by simp; omega
                    have g45 : ((n : Int) == 45) = false := by simp; omega
                    have g95 : ((n : Int) == 95) = false := by simp; omega
                    have g46 : ((n : Int) == 46) = false := by simp; omega
                    have hq := Lib.hid (HCF.out (by rw [HCH.out, hlt2]; rfl))
                    clear HCF HCH HKN HK HN HY HL HU hlt2 hu46 h1
                    go_wp2_with fail
                    go_ret
                    exact ⟨by rw [hq.out]; rfl, hb⟩
                  · have hlt2 : Rf.letters.contains u = true := by rw [HL.out, hn']; unfold Rf.badR; simp <;> omega
                    have hu46 : (u == 46) = false := by rw [beq_eq_false_iff_ne]; intro e; have := HU.out.1 e; omega
                    have f0 : ¬ (97 : Int) ≤ n := by omega
                    have d0 : decide ((97 : Int) ≤ n) = false := by simp; omega
                    have f1 : (n : Int) ≤ 122 := by omega
                    have d1 : decide ((n : Int) ≤ 122) = true := by simp; omega
                    have f2 : (48 : Int) ≤ n := by omega
                    have d2 : decide ((48 : Int) ≤ n) = true := by simp; omega
                    have f3 : (n : Int) ≤ 57 := by omega
                    have d3 : decide ((n : Int) ≤ 57) = true := by simp; omega
                    have g45 : ((n : Int) == 45) = false := by simp; omega
                    have g95 : ((n : Int) == 95) = false := by simp; omega
                    have g46 : ((n : Int) == 46) = false := by simp; omega
                    have HKN2 := Lib.hid (HKN.out (by rw [HCH.out, hlt2, hu46]; simp))
                    clear HCF HCH HKN HK HL HU hlt2 hu46 h1 h2
                    go_wp2_with fail
                    all_goals
                      go_roundw
                      case rel => exact ⟨k + 1, by omega, by go_num, HKN2, by first | rfl | trivial⟩
                      case measure => simp [intOf]; omega
                  · have hlt2 : Rf.letters.contains u = false := by rw [HL.out, hn']; unfold Rf.badR; simp <;> omega
                    have hu46 : (u == 46) = false := by rw [beq_eq_false_iff_ne]; intro e; have := HU.out.1 e; omega
                    have f0 : ¬ (97 : Int) ≤ n := by omega
                    have d0 : decide ((97 : Int) ≤ n) = false := by simp; omega
                    have f1 : (n : Int) ≤ 122 := by omega
                    have d1 : decide ((n : Int) ≤ 122) = true := by simp; omega
                    have f2 : (48 : Int) ≤ n := by omega
                    have d2 : decide ((48 : Int) ≤ n) = true := by simp; omega
                    have f3 : ¬ (n : Int) ≤ 57 := by omega
                    have d3 : decide ((n : Int) ≤ 57) = false := by simp; omega
                    have g45 : ((n : Int) == 45) = false := by simp; omega
                    have g95 : ((n : Int) == 95) = false := by simp; omega
                    have g46 : ((n : Int) == 46) = false := by simp; omega
                    have hq := Lib.hid (HCF.out (by rw [HCH.out, hlt2]; rfl))
                    clear HCF HCH HKN HK HN HY HL HU hlt2 hu46 h1 h2
                    go_wp2_with fail
                    go_ret
                    exact ⟨by rw [hq.out]; rfl, hb⟩
                  · have hlt2 : Rf.letters.contains u = true := by rw [HL.out, hn']; unfold Rf.badR; simp <;> omega
                    have hu46 : (u == 46) = false := by rw [beq_eq_false_iff_ne]; intro e; have := HU.out.1 e; omega
                    have f0 : ¬ (97 : Int) ≤ n := by omega
                    have d0 : decide ((97 : Int) ≤ n) = false := by simp; omega
                    have f1 : (n : Int) ≤ 122 := by omega
                    have d1 : decide ((n : Int) ≤ 122) = true := by simp; omega
                    have f2 : (48 : Int) ≤ n := by omega
                    have d2 : decide ((48 : Int) ≤ n) = true := by simp; omega
                    have f3 : ¬ (n : Int) ≤ 57 := by omega
                    have d3 : decide ((n : Int) ≤ 57) = false := by simp; omega
                    have g45 : ((n : Int) == 45) = false := by simp; omega
                    have g95 : ((n : Int) == 95) = true := by simp; omega
                    have g46 : ((n : Int) == 46) = false := by simp; omega
                    have HKN2 := Lib.hid (HKN.out (by rw [HCH.out, hlt2, hu46]; simp))
                    clear HCF HCH HKN HK HL HU hlt2 hu46 h1
                    go_wp2_with fail
                    all_goals
                      go_roundw
                      case rel => exact ⟨k + 1, by omega, by go_num, HKN2, by first | rfl | trivial⟩
                      case measure => simp [intOf]; omega
                  · have hlt2 : Rf.letters.contains u = false := by rw [HL.out, hn']; unfold Rf.badR; simp <;> omega
                    have hu46 : (u == 46) = false := by rw [beq_eq_false_iff_ne]; intro e; have := HU.out.1 e; omega
                    have f0 : ¬ (97 : Int) ≤ n := by omega
                    have d0 : decide ((97 : Int) ≤ n) = false := by simp; omega
                    have f1 : (n : Int) ≤ 122 := by omega
                    have d1 : decide ((n : Int) ≤ 122) = true := by simp; omega
                    have f2 : (48 : Int) ≤ n := by omega
                    have d2 : decide ((48 : Int) ≤ n) = true := by simp; omega
                    have f3 : ¬ (n : Int) ≤ 57 := by omega
                    have d3 : decide ((n : Int) ≤ 57) = false := by simp; omega
                    have g45 : ((n : Int) == 45) = false := by simp; omega
                    have g95 : ((n : Int) == 95) = false := by simp; omega
                    have g46 : ((n : Int) == 46) = false := by simp; omega
                    have hq := Lib.hid (HCF.out (by rw [HCH.out, hlt2]; rfl))
                    clear HCF HCH HKN HK HN HY HL HU hlt2 hu46 h1
                    go_wp2_with fail
                    go_ret
                    exact ⟨by rw [hq.out]; rfl, hb⟩
                  · have hlt2 : Rf.letters.contains u = true := by rw [HL.out, hn']; unfold Rf.badR; simp <;> omega
                    have hu46 : (u == 46) = false := by rw [beq_eq_false_iff_ne]; intro e; have := HU.out.1 e; omega
                    have f0 : (97 : Int) ≤ n := by omega
                    have d0 : decide ((97 : Int) ≤ n) = true := by simp; omega
                    have f1 : (n : Int) ≤ 122 := by omega
                    have d1 : decide ((n : Int) ≤ 122) = true := by simp; omega
                    have f2 : (48 : Int) ≤ n := by omega
                    have d2 : decide ((48 : Int) ≤ n) = true := by simp; omega
                    have f3 : ¬ (n : Int) ≤ 57 := by omega
                    have d3 : decide ((n : Int) ≤ 57) = false := by simp; omega
                    have g45 : ((n : Int) == 45) = false := by simp; omega
                    have g95 : ((n : Int) == 95) = false := by simp; omega
                    have g46 : ((n : Int) == 46) = false := by simp; omega
                    have HKN2 := Lib.hid (HKN.out (by rw [HCH.out, hlt2, hu46]; simp))
                    clear HCF HCH HKN HK HL HU hlt2 hu46 h1 h2
                    go_wp2_with fail
                    all_goals
                      go_roundw
                      case rel => exact ⟨k + 1, by omega, by go_num, HKN2, by first | rfl | trivial⟩
                      case measure => simp [intOf]; omega
                  · have hlt2 : Rf.letters.contains u = false := by rw [HL.out, hn']; unfold Rf.badR; simp <;> omega
                    have hu46 : (u == 46) = false := by rw [beq_eq_false_iff_ne]; intro e; have := HU.out.1 e; omega
                    have f0 : (97 : Int) ≤ n := by omega
                    have d0 : decide ((97 : Int) ≤ n) = true := by simp; omega
                    have f1 : ¬ (n : Int) ≤ 122 := by omega
                    have d1 : decide ((n : Int) ≤ 122) = false := by simp; omega
                    have f2 : (48 : Int) ≤ n := by omega
                    have d2 : decide ((48 : Int) ≤ n) = true := by simp; omega
                    have f3 : ¬ (n : Int) ≤ 57 := by omega
                    have d3 : decide ((n : Int) ≤ 57) = false := by simp; omega
                    have g45 : ((n : Int) == 45) = false := by simp; omega
                    have g95 : ((n : Int) == 95) = false := by simp; omega
                    have g46 : ((n : Int) == 46) = false := by simp; omega
                    have hq := Lib.hid (HCF.out (by rw [HCH.out, hlt2]; rfl))
                    clear HCF HCH HKN HK HN HY HL HU hlt2 hu46 h1 h2
                    go_wp2_with fail
                    go_ret
                    exact ⟨by rw [hq.out]; rfl, hb⟩
                · obtain rfl : k = x.length := by omega
                  have HY2 := Lib.hid (HY.out ((Rf.comp_chk x).2 ⟨hxe, hdot, HSF.out, fun j hj => HK.out j (by omega)⟩))
                  clear HK HN HY HSF hdot hxe
                  go_wp2_with fail
                  go_roundw
                  case rel => exact ⟨i + 1, by omega, by go_num, HY2, by first | rfl | trivial⟩
                  case measure => simp [intOf]; omega
            · obtain ⟨m, hm⟩ : ∃ m, x.length = m + 5 := ⟨x.length - 5, by omega⟩
              have hszx : (⟨x.toArray⟩ : ByteArray).size = m + 5 := by rw [← hm]; simp [ByteArray.size]
              have HSX := Lib.hid (suffix5 x (by omega))
              have hext := extract_drop x m (m + 5) (by omega)
              have h5' : (5 : Int) ≤ (m : Int) + 5 := by omega
              have h5d : decide ((5 : Int) ≤ (m : Int) + 5) = true := by simp; omega
              have hm55 : m ≤ 55 := by omega
              have HM := Lib.hid hm
              clear hx0e h5
              cases hsf : (x.drop m == [46, 108, 111, 99, 107]) with
              | true =>
                have hq := Lib.hid (HN.out (by
                  rw [Bool.eq_false_iff]; intro h
                  have := ((Rf.comp_chk x).1 h).2.2.1
                  rw [HSX.out, hm, Nat.add_sub_cancel, decide_eq_true (by simpa using hsf)] at this
                  cases this))
                clear HN HY HSX hm
                go_wp2_with fail
                go_ret
                exact ⟨by rw [hq.out]; rfl, hb⟩
              | false =>
                have HSF := Lib.hid (show Lib.hasSuffix x [46, 108, 111, 99, 107] = false from by
                  rw [HSX.out, hm, Nat.add_sub_cancel]; exact decide_eq_false (by simpa using hsf))
                clear HSX hm
                go_wp2_with fail
                go_loopw [6] (fun kv wr => ∃ k : Nat, k ≤ (m + 5) ∧ kv = .int .i64 k ∧ Hid (∀ j, j < k → Rf.chk x j = true) ∧ wr = w1) (fun kv _ => (m + 5) - (intOf kv).toNat)
                case atStart => exact ⟨0, Nat.zero_le _, rfl, Lib.hid (fun j hj => by omega), rfl⟩
                case round =>
                  obtain ⟨k, hk, rfl, HK, rfl⟩ := hrel
                  by_cases hkl : k < (m + 5)
                  · have hkx : k < x.length := by have := HM.out; omega
                    have hki : (k : Int) < (m : Int) + 5 := by omega
                    have HCH := Lib.hid (chk_at x k hkx)
                    have HCF := Lib.hid (fun h => HN.out (comp_false (k := k) hkx h))
                    have HKN : Hid (Rf.chk x k = true → ∀ j, j < k + 1 → Rf.chk x j = true) := Lib.hid fun h j hj => by
                      by_cases e : j = k
                      · rw [e]; exact h
                      · exact HK.out j (by omega)
                    obtain ⟨u, hu⟩ : ∃ u, u = x[k] := ⟨_, rfl⟩
                    have hg : ∀ h, (⟨x.toArray⟩ : ByteArray)[k]'h = u := fun h => hu.symm ▸ rfl
                    rw [← hu] at HCH
                    have HL := Lib.hid (Rf.letters_ok u)
                    obtain ⟨n, hn⟩ : ∃ n, n = u.toNat := ⟨_, rfl⟩
                    have hn' := hn.symm
                    have hn255 : n ≤ 255 := by have := u.toNat_lt; omega
                    have HU : Hid (u = 46 ↔ n = 46) := Lib.hid ⟨fun e => by rw [hn, e]; rfl, fun e => by rw [← UInt8.toNat_inj, ← hn, e]; rfl⟩
                    clear hu hn
                    have hcase : (0 ≤ n ∧ n ≤ 44) ∨ n = 45 ∨ n = 46 ∨ n = 47 ∨ (48 ≤ n ∧ n ≤ 57) ∨ (58 ≤ n ∧ n ≤ 94) ∨ n = 95 ∨ n = 96 ∨ (97 ≤ n ∧ n ≤ 122) ∨ (123 ≤ n ∧ n ≤ 255) := by omega
                    rcases hcase with ⟨h1, h2⟩ | h1 | h1 | h1 | ⟨h1, h2⟩ | ⟨h1, h2⟩ | h1 | h1 | ⟨h1, h2⟩ | ⟨h1, h2⟩
                    · have hlt2 : Rf.letters.contains u = false := by rw [HL.out, hn']; unfold Rf.badR; simp <;> omega
                      have hu46 : (u == 46) = false := by rw [beq_eq_false_iff_ne]; intro e; have := HU.out.1 e; omega
                      have f0 : ¬ (97 : Int) ≤ n := by omega
                      have d0 : decide ((97 : Int) ≤ n) = false := by simp; omega
                      have f1 : (n : Int) ≤ 122 := by omega
                      have d1 : decide ((n : Int) ≤ 122) = true := by simp; omega
                      have f2 : ¬ (48 : Int) ≤ n := by omega
                      have d2 : decide ((48 : Int) ≤ n) = false := by simp; omega
                      have f3 : (n : Int) ≤ 57 := by omega
                      have d3 : decide ((n : Int) ≤ 57) = true := by simp; omega
                      have g45 : ((n : Int) == 45) = false := by simp; omega
                      have g95 : ((n : Int) == 95) = false := by simp; omega
                      have g46 : ((n : Int) == 46) = false := by simp; omega
                      have hq := Lib.hid (HCF.out (by rw [HCH.out, hlt2]; rfl))
                      clear HCF HCH HKN HK HN HY HL HU hlt2 hu46 h1 h2
                      go_wp2_with fail
                      go_ret
                      exact ⟨by rw [hq.out]; rfl, hb⟩
                    · have hlt2 : Rf.letters.contains u = true := by rw [HL.out, hn']; unfold Rf.badR; simp <;> omega
                      have hu46 : (u == 46) = false := by rw [beq_eq_false_iff_ne]; intro e; have := HU.out.1 e; omega
                      have f0 : ¬ (97 : Int) ≤ n := by omega
                      have d0 : decide ((97 : Int) ≤ n) = false := by simp; omega
                      have f1 : (n : Int) ≤ 122 := by omega
                      have d1 : decide ((n : Int) ≤ 122) = true := by simp; omega
                      have f2 : ¬ (48 : Int) ≤ n := by omega
                      have d2 : decide ((48 : Int) ≤ n) = false := by simp; omega
                      have f3 : (n : Int) ≤ 57 := by omega
                      have d3 : decide ((n : Int) ≤ 57) = true := by simp; omega
                      have g45 : ((n : Int) == 45) = true := by simp; omega
                      have g95 : ((n : Int) == 95) = false := by simp; omega
                      have g46 : ((n : Int) == 46) = false := by simp; omega
                      have HKN2 := Lib.hid (HKN.out (by rw [HCH.out, hlt2, hu46]; simp))
                      clear HCF HCH HKN HK HL HU hlt2 hu46 h1
                      go_wp2_with fail
                      all_goals
                        go_roundw
                        case rel => exact ⟨k + 1, by omega, by go_num, HKN2, by first | rfl | trivial⟩
                        case measure => simp [intOf]; omega
                    · have hlt2 : Rf.letters.contains u = true := by rw [HL.out, hn']; unfold Rf.badR; simp <;> omega
                      have f0 : ¬ (97 : Int) ≤ n := by omega
                      have d0 : decide ((97 : Int) ≤ n) = false := by simp; omega
                      have f1 : (n : Int) ≤ 122 := by omega
                      have d1 : decide ((n : Int) ≤ 122) = true := by simp; omega
                      have f2 : ¬ (48 : Int) ≤ n := by omega
                      have d2 : decide ((48 : Int) ≤ n) = false := by simp; omega
                      have f3 : (n : Int) ≤ 57 := by omega
                      have d3 : decide ((n : Int) ≤ 57) = true := by simp; omega
                      have g45 : ((n : Int) == 45) = false := by simp; omega
                      have g95 : ((n : Int) == 95) = false := by simp; omega
                      have g46 : ((n : Int) == 46) = true := by simp; omega
                      have hue : (u == 46) = true := by rw [HU.out.2 h1]; rfl
                      by_cases hk0 : k = 0
                      · have HKN2 := Lib.hid (HKN.out (by rw [HCH.out, hlt2, hk0]; rfl))
                        clear HCF HCH HKN HK HL HU hlt2 hue h1
                        have hz1 : decide ((0 : Int) < (k : Int)) = false := by simp <;> omega
                        have hz2 : decide (0 < k) = false := by simp <;> omega
                        have hz3 : ¬ (0 : Int) < k := by omega
                        clear hk0
                        go_wp2_with fail
                        go_roundw
                        case rel => exact ⟨k + 1, by omega, by go_num, HKN2, by first | rfl | trivial⟩
                        case measure => simp [intOf]; omega
                      · obtain ⟨j, rfl⟩ : ∃ j, k = j + 1 := ⟨k - 1, by omega⟩
                        obtain ⟨u2, hu2⟩ : ∃ u2, u2 = x[j] := ⟨_, rfl⟩
                        have hg2 : ∀ h, (⟨x.toArray⟩ : ByteArray)[j]'h = u2 := fun h => hu2.symm ▸ rfl
                        have HCH2 : Hid (Rf.chk x (j + 1) = !(u2 == 46)) := Lib.hid (by
                          rw [HCH.out, hlt2, hue, Nat.add_sub_cancel, List.getElem?_eq_getElem (by omega : j < x.length), ← hu2]; simp)
                        have hz1 : decide ((0 : Int) < (j : Int) + 1) = true := by simp <;> omega
                        have hz2 : (0 : Int) < (j : Int) + 1 := by omega
                        clear HCH hlt2 hue hu2
                        by_cases hp : u2 = 46
                        · have hq := Lib.hid (HCF.out (by rw [HCH2.out, hp]; rfl))
                          have hp' : ((u2.toNat : Int) == 46) = true := by rw [hp]; rfl
                          clear HCF HCH2 HKN HK HN HY HL HU hp h1
                          go_wp2_with fail
                          go_ret
                          exact ⟨by rw [hq.out]; rfl, hb⟩
                        · have HKN2 := Lib.hid (HKN.out (by rw [HCH2.out]; simpa using hp))
                          have hp' : ((u2.toNat : Int) == 46) = false := by
                            have : u2.toNat ≠ 46 := fun e => hp (by rw [← UInt8.toNat_inj]; exact e)
                            simp; omega
                          clear HCF HCH2 HKN HK HL HU hp h1
                          go_wp2_with fail
                          go_roundw
                          case rel => exact ⟨j + 1 + 1, by omega, by go_num, HKN2, by first | rfl | trivial⟩
                          case measure => simp [intOf]; omega
                    · have hlt2 : Rf.letters.contains u = false := by rw [HL.out, hn']; unfold Rf.badR; simp <;> omega
                      have hu46 : (u == 46) = false := by rw [beq_eq_false_iff_ne]; intro e; have := HU.out.1 e; omega
                      have f0 : ¬ (97 : Int) ≤ n := by omega
                      have d0 : decide ((97 : Int) ≤ n) = false := by simp; omega
                      have f1 : (n : Int) ≤ 122 := by omega
                      have d1 : decide ((n : Int) ≤ 122) = true := by simp; omega
                      have f2 : ¬ (48 : Int) ≤ n := by omega
                      have d2 : decide ((48 : Int) ≤ n) = false := by simp; omega
                      have f3 : (n : Int) ≤ 57 := by omega
                      have d3 : decide ((n : Int) ≤ 57) = true := by simp; omega
                      have g45 : ((n : Int) == 45) = false := by simp; omega
                      have g95 : ((n : Int) == 95) = false := by simp; omega
                      have g46 : ((n : Int) == 46) = false := by simp; omega
                      have hq := Lib.hid (HCF.out (by rw [HCH.out, hlt2]; rfl))
                      clear HCF HCH HKN HK HN HY HL HU hlt2 hu46 h1
                      go_wp2_with fail
                      go_ret
                      exact ⟨by rw [hq.out]; rfl, hb⟩
                    · have hlt2 : Rf.letters.contains u = true := by rw [HL.out, hn']; unfold Rf.badR; simp <;> omega
                      have hu46 : (u == 46) = false := by rw [beq_eq_false_iff_ne]; intro e; have := HU.out.1 e; omega
                      have f0 : ¬ (97 : Int) ≤ n := by omega
                      have d0 : decide ((97 : Int) ≤ n) = false := by simp; omega
                      have f1 : (n : Int) ≤ 122 := by omega
                      have d1 : decide ((n : Int) ≤ 122) = true := by simp; omega
                      have f2 : (48 : Int) ≤ n := by omega
                      have d2 : decide ((48 : Int) ≤ n) = true := by simp; omega
                      have f3 : (n : Int) ≤ 57 := by omega
                      have d3 : decide ((n : Int) ≤ 57) = true := by simp; omega
                      have g45 : ((n : Int) == 45) = false := by simp; omega
                      have g95 : ((n : Int) == 95) = false := by simp; omega
                      have g46 : ((n : Int) == 46) = false := by simp; omega
                      have HKN2 := Lib.hid (HKN.out (by rw [HCH.out, hlt2, hu46]; simp))
                      clear HCF HCH HKN HK HL HU hlt2 hu46 h1 h2
                      go_wp2_with fail
                      all_goals
                        go_roundw
                        case rel => exact ⟨k + 1, by omega, by go_num, HKN2, by first | rfl | trivial⟩
                        case measure => simp [intOf]; omega
                    · have hlt2 : Rf.letters.contains u = false := by rw [HL.out, hn']; unfold Rf.badR; simp <;> omega
                      have hu46 : (u == 46) = false := by rw [beq_eq_false_iff_ne]; intro e; have := HU.out.1 e; omega
                      have f0 : ¬ (97 : Int) ≤ n := by omega
                      have d0 : decide ((97 : Int) ≤ n) = false := by simp; omega
                      have f1 : (n : Int) ≤ 122 := by omega
                      have d1 : decide ((n : Int) ≤ 122) = true := by simp; omega
                      have f2 : (48 : Int) ≤ n := by omega
                      have d2 : decide ((48 : Int) ≤ n) = true := by simp; omega
                      have f3 : ¬ (n : Int) ≤ 57 := by omega
                      have d3 : decide ((n : Int) ≤ 57) = false := by simp; omega
                      have g45 : ((n : Int) == 45) = false := by simp; omega
                      have g95 : ((n : Int) == 95) = false := by simp; omega
                      have g46 : ((n : Int) == 46) = false := by simp; omega
                      have hq := Lib.hid (HCF.out (by rw [HCH.out, hlt2]; rfl))
                      clear HCF HCH HKN HK HN HY HL HU hlt2 hu46 h1 h2
                      go_wp2_with fail
                      go_ret
                      exact ⟨by rw [hq.out]; rfl, hb⟩
                    · have hlt2 : Rf.letters.contains u = true := by rw [HL.out, hn']; unfold Rf.badR; simp <;> omega
                      have hu46 : (u == 46) = false := by rw [beq_eq_false_iff_ne]; intro e; have := HU.out.1 e; omega
                      have f0 : ¬ (97 : Int) ≤ n := by omega
                      have d0 : decide ((97 : Int) ≤ n) = false := by simp; omega
                      have f1 : (n : Int) ≤ 122 := by omega
                      have d1 : decide ((n : Int) ≤ 122) = true := by simp; omega
                      have f2 : (48 : Int) ≤ n := by omega
                      have d2 : decide ((48 : Int) ≤ n) = true := by simp; omega
                      have f3 : ¬ (n : Int) ≤ 57 := by omega
                      have d3 : decide ((n : Int) ≤ 57) = false := by simp; omega
                      have g45 : ((n : Int) == 45) = false := by simp; omega
                      have g95 : ((n : Int) == 95) = true := by simp; omega
                      have g46 : ((n : Int) == 46) = false := by simp; omega
                      have HKN2 := Lib.hid (HKN.out (by rw [HCH.out, hlt2, hu46]; simp))
                      clear HCF HCH HKN HK HL HU hlt2 hu46 h1
                      go_wp2_with fail
                      all_goals
                        go_roundw
                        case rel => exact ⟨k + 1, by omega, by go_num, HKN2, by first | rfl | trivial⟩
                        case measure => simp [intOf]; omega
                    · have hlt2 : Rf.letters.contains u = false := by rw [HL.out, hn']; unfold Rf.badR; simp <;> omega
                      have hu46 : (u == 46) = false := by rw [beq_eq_false_iff_ne]; intro e; have := HU.out.1 e; omega
                      have f0 : ¬ (97 : Int) ≤ n := by omega
                      have d0 : decide ((97 : Int) ≤ n) = false := by simp; omega
                      have f1 : (n : Int) ≤ 122 := by omega
                      have d1 : decide ((n : Int) ≤ 122) = true := by simp; omega
                      have f2 : (48 : Int) ≤ n := by omega
                      have d2 : decide ((48 : Int) ≤ n) = true := by simp; omega
                      have f3 : ¬ (n : Int) ≤ 57 := by omega
                      have d3 : decide ((n : Int) ≤ 57) = false := by simp; omega
                      have g45 : ((n : Int) == 45) = false := by simp; omega
                      have g95 : ((n : Int) == 95) = false := by simp; omega
                      have g46 : ((n : Int) == 46) = false := by simp; omega
                      have hq := Lib.hid (HCF.out (by rw [HCH.out, hlt2]; rfl))
                      clear HCF HCH HKN HK HN HY HL HU hlt2 hu46 h1
                      go_wp2_with fail
                      go_ret
                      exact ⟨by rw [hq.out]; rfl, hb⟩
                    · have hlt2 : Rf.letters.contains u = true := by rw [HL.out, hn']; unfold Rf.badR; simp <;> omega
                      have hu46 : (u == 46) = false := by rw [beq_eq_false_iff_ne]; intro e; have := HU.out.1 e; omega
                      have f0 : (97 : Int) ≤ n := by omega
                      have d0 : decide ((97 : Int) ≤ n) = true := by simp; omega
                      have f1 : (n : Int) ≤ 122 := by omega
                      have d1 : decide ((n : Int) ≤ 122) = true := by simp; omega
                      have f2 : (48 : Int) ≤ n := by omega
                      have d2 : decide ((48 : Int) ≤ n) = true := by simp; omega
                      have f3 : ¬ (n : Int) ≤ 57 := by omega
                      have d3 : decide ((n : Int) ≤ 57) = false := by simp; omega
                      have g45 : ((n : Int) == 45) = false := by simp; omega
                      have g95 : ((n : Int) == 95) = false := by simp; omega
                      have g46 : ((n : Int) == 46) = false := by simp; omega
                      have HKN2 := Lib.hid (HKN.out (by rw [HCH.out, hlt2, hu46]; simp))
                      clear HCF HCH HKN HK HL HU hlt2 hu46 h1 h2
                      go_wp2_with fail
                      all_goals
                        go_roundw
                        case rel => exact ⟨k + 1, by omega, by go_num, HKN2, by first | rfl | trivial⟩
                        case measure => simp [intOf]; omega
                    · have hlt2 : Rf.letters.contains u = false := by rw [HL.out, hn']; unfold Rf.badR; simp <;> omega
                      have hu46 : (u == 46) = false := by rw [beq_eq_false_iff_ne]; intro e; have := HU.out.1 e; omega
                      have f0 : (97 : Int) ≤ n := by omega
                      have d0 : decide ((97 : Int) ≤ n) = true := by simp; omega
                      have f1 : ¬ (n : Int) ≤ 122 := by omega
                      have d1 : decide ((n : Int) ≤ 122) = false := by simp; omega
                      have f2 : (48 : Int) ≤ n := by omega
                      have d2 : decide ((48 : Int) ≤ n) = true := by simp; omega
                      have f3 : ¬ (n : Int) ≤ 57 := by omega
                      have d3 : decide ((n : Int) ≤ 57) = false := by simp; omega
                      have g45 : ((n : Int) == 45) = false := by simp; omega
                      have g95 : ((n : Int) == 95) = false := by simp; omega
                      have g46 : ((n : Int) == 46) = false := by simp; omega
                      have hq := Lib.hid (HCF.out (by rw [HCH.out, hlt2]; rfl))
                      clear HCF HCH HKN HK HN HY HL HU hlt2 hu46 h1 h2
                      go_wp2_with fail
                      go_ret
                      exact ⟨by rw [hq.out]; rfl, hb⟩
                  · obtain rfl : k = (m + 5) := by omega
                    have HY2 := Lib.hid (HY.out ((Rf.comp_chk x).2 ⟨hxe, hdot, HSF.out, fun j hj => HK.out j (by have := HM.out; omega)⟩))
                    clear HK HN HY HSF hdot hxe
                    go_wp2_with fail
                    go_roundw
                    case rel => exact ⟨i + 1, by omega, by go_num, HY2, by first | rfl | trivial⟩
                    case measure => simp [intOf]; omega
      · obtain rfl : i = cs.length := by omega
        have hq := Lib.hid (show q = true from by rw [HQ.out]; have := H.out; rwa [List.take_length] at this)
        go_wp2_with fail
        go_ret
        exact ⟨by rw [hq.out]; rfl, hb⟩
  · have HQ : Hid (Rf.nameOk l = false) := Lib.hid (by unfold Rf.nameOk; rw [decide_eq_false hlen]; rfl)
    have hl' : (60 : Int) < l.length := by omega
    generalize Rf.nameOk l = q at *
    clear hlen
    go_enter Tryd.func17, Tryd.ntmps17
    go_wp2
    go_ret
    exact ⟨by rw [HQ.out]; rfl, Below.refl _ _⟩
end Go.Proofs.YtfbbgnhelannjaaDoor
