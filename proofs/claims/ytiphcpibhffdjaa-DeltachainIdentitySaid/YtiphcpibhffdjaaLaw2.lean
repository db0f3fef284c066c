/-
  DeltachainRoundTrip and DeltachainIdentity: the walks.
-/
import Derived.Test.YtiphcpibhffdjaaLaw1
namespace Go.Proofs.Ytiphcpibhffdjaa
open Go.RowKit Go.V
set_option linter.unusedVariables false

section
variable (w : World) (A1 A2 : Option Addr) (c1 c2 : Nat) (a b : List UInt8)

set_option maxRecDepth 100000 in
set_option maxHeartbeats 4000000 in
theorem roundTrip_any (h1 : SV w w.heap.size A1 (bytesV a)) (hc1 : a.length ≤ c1) (h2 : SV w w.heap.size A2 (bytesV b)) (hc2 : b.length ≤ c2) (ha : a.length ≤ 9223372036854775807) (hb : b.length ≤ 9223372036854775807) :
    Calls Try.prog 5 #[.slice A1 a.length c1, .slice A2 b.length c2] w fun e w' => e = .returned (.bool true) ∧ Below w.heap.size w w' := by
  go_enter Try.func5, Try.ntmps5
  go_wp2_with fail
  refine (example_any _).mono ?_
  rintro e w1 ⟨rfl, hbel1⟩
  have h1a := h1.below hbel1 (Nat.le_refl _)
  have h2a := h2.below hbel1 (Nat.le_refl _)
  have hsz1 := hbel1.size
  go_wp2_with fail
  refine (encode_any _ A1 A2 c1 c2 a b (h1a.more hsz1) (h2a.more hsz1) hc2 ha hb).mono ?_
  rintro e w2 ⟨v, rfl, ⟨A, c, vs, rfl, hc, hsv, hr⟩, hbel2⟩
  have hbel12 := hbel1.trans (hbel2.mono hsz1)
  have hsz2 := hbel2.size
  by_cases hbig : 1000 < a.length ∨ 1000 < b.length
  · obtain ⟨i, hE⟩ : ∃ i : Int, encF a b = ([], (10, i)) := by
      unfold encF
      split
      · exact ⟨0, rfl⟩
      · split
        · exact ⟨1, rfl⟩
        · omega
    rw [hE] at hc ⊢
    clear hE
    go_wp2_with fail
    go_ret
    exact ⟨rfl, hbel12.alloc (by omega) _⟩
  · have hE : encF a b = (Dc.encode a b, (0, 0)) := by
      unfold encF
      rw [if_neg (by omega), if_neg (by omega)]
    rw [hE] at hr hc ⊢
    clear hE
    have hRT := Dc.round_trip a b (by omega) (by omega)
    have hlen := (Dc.encode_good a b).length_le
    have h1b := (h1.below hbel12 (Nat.le_refl _)).more (show _ ≤ w2.heap.size by omega)
    have h2b := (h2.below hbel12 (Nat.le_refl _)).more (show _ ≤ w2.heap.size by omega)
    have hr' : RowsR (OpR (w2.alloc (.cells #[.int .i64 0, .int .i64 0] 26)) (w2.heap.size + 1)) (Dc.encode a b) vs := hr.mono fun o cs h => OpR.keep (w := w2) (B := w2.heap.size) (B' := w2.heap.size + 1) (fun p hp => World.cell?_alloc_lt w2 _ p hp) (Nat.le_succ _) o cs h
    have hap := apply_any (w2.alloc (.cells #[.int .i64 0, .int .i64 0] 26)) A1 A c1 c a (Dc.encode a b) vs ((h1b.alloc (Nat.le_refl _) _).more (by simp)) hc1 (by simpa using hr') ((hsv.alloc (Nat.le_refl _) _).more (by simp)) ha (by omega)
    rw [hRT] at hap
    have HP := Lib.hid hap
    clear hap hr' hr hRT
    go_wp2_with fail
    refine HP.out.mono ?_
    rintro e w3 ⟨v2, rfl, hown2, hbel3⟩
    clear HP
    obtain ⟨A3, c3, rfl, hc3, _⟩ := own_form hown2
    have hbel23 : Below w2.heap.size w2 w3 := ((Below.refl w2.heap.size w2).alloc (Nat.le_refl _) _).trans (hbel3.mono (by simp))
    have hsz3 := hbel23.size
    have hs1 : (convert 22 9 (.slice A3 b.length c3)).run Try.prog (w3.alloc (.cells #[.int .i64 0, .int .i64 0] 26)) = .ok (.string ⟨b.toArray⟩) (w3.alloc (.cells #[.int .i64 0, .int .i64 0] 26)) := run_conv_str (P := Try.prog) 22 9 5 c3 Try.underlying22 Try.underlying5 Try.underlying9 ((SV.of_own hown2).alloc (Nat.le_refl _) _)
    have hs2 : (convert 22 9 (.slice A2 b.length c2)).run Try.prog (w3.alloc (.cells #[.int .i64 0, .int .i64 0] 26)) = .ok (.string ⟨b.toArray⟩) (w3.alloc (.cells #[.int .i64 0, .int .i64 0] 26)) := run_conv_str (P := Try.prog) 22 9 5 c2 Try.underlying22 Try.underlying5 Try.underlying9 ((h2b.below hbel23 (Nat.le_refl _)).alloc hsz3 _)
    clear hown2
    go_wp2_with fail
    go_ret
    exact ⟨rfl, (hbel12.trans (hbel23.mono (by omega))).alloc (by omega) _⟩

set_option maxRecDepth 100000 in
set_option maxHeartbeats 4000000 in
theorem identity_any (h1 : SV w w.heap.size A1 (bytesV a)) (hc1 : a.length ≤ c1) (ha : a.length ≤ 9223372036854775807) :
    Calls Try.prog 6 #[.slice A1 a.length c1] w fun e w' => e = .returned (.bool true) ∧ Below w.heap.size w w' := by
  go_enter Try.func6, Try.ntmps6
  go_wp2_with fail
  refine (example_any _).mono ?_
  rintro e w1 ⟨rfl, hbel1⟩
  have h1a := h1.below hbel1 (Nat.le_refl _)
  have hsz1 := hbel1.size
  go_wp2_with fail
  refine (encode_any _ A1 A1 c1 c1 a a (h1a.more hsz1) (h1a.more hsz1) hc1 ha ha).mono ?_
  rintro e w2 ⟨v, rfl, ⟨A, c, vs, rfl, hc, hsv, hr⟩, hbel2⟩
  have hbel12 := hbel1.trans (hbel2.mono hsz1)
  have hsz2 := hbel2.size
  by_cases hbig : 1000 < a.length
  · have hE : encF a a = ([], (10, 0)) := by unfold encF; rw [if_pos hbig]
    rw [hE] at hc ⊢
    clear hE
    go_wp2_with fail
    go_ret
    exact ⟨rfl, hbel12.alloc (by omega) _⟩
  · by_cases hsmall : a.length < 4
    · have hE : (encF a a).2 = (0, 0) := by unfold encF; rw [if_neg (by omega), if_neg (by omega)]
      rw [hE]
      clear hE
      generalize (encF a a).1 = ops at *
      have hlt : (a.length : Int) < 4 := by omega
      go_wp2_with fail
      go_ret
      exact ⟨rfl, hbel12.alloc (by omega) _⟩
    · have hE : encF a a = ([⟨0, a.length, []⟩], (0, 0)) := by
        unfold encF
        rw [if_neg (by omega), if_neg (by omega), Dc.encode_self a (by omega)]
      rw [hE] at hr hc ⊢
      clear hE
      obtain ⟨cs1, r1, rfl, ⟨A0, c0, rfl, _, _, _, _, _⟩, hr3⟩ := hr
      simp only [RowsR] at hr3
      subst hr3
      obtain ⟨bd, od, rfl, hbd, hcell⟩ := hsv.at_ (by simp)
      have d0 : w2.cell? ⟨bd, od, none⟩ = _ := hcell 0 _ rfl
      have d1 := hcell 1 _ rfl
      clear hcell hsv
      have hge : (4 : Int) ≤ a.length := by omega
      go_wp2_with fail
      go_ret
      exact ⟨rfl, hbel12.alloc (by omega) _⟩
end
end Go.Proofs.Ytiphcpibhffdjaa
