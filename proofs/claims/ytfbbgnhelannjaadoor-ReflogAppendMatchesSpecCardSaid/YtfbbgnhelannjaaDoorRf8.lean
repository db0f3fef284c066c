/-
  References: walk of the reference's 'RefConflict'.
-/
import Derived.Test.YtfbbgnhelannjaaDoorRf7
namespace Go.Proofs.YtfbbgnhelannjaaDoor
open Go.RowKit Go.V Go.Shelf Go.Lib
set_option linter.unusedVariables false

set_option maxRecDepth 100000 in
set_option maxHeartbeats 8000000 in
theorem refConflict_any (w : World) (a b : List UInt8) (ha : a.length ≤ 1000000000) (hb : b.length ≤ 1000000000) :
    Calls Tryd.prog 24 #[strV a, strV b] w fun e w' => e = .returned (.bool (Rf.conf a b)) ∧ Below w.heap.size w w' := by
  have H1 := Lib.hid (components_any w a ha)
  have H2 := Lib.hid (fun w1 => components_any w1 b hb)
  have HQ := Lib.hid (Rf.conf_eq a b)
  have HD := Lib.hid (show Rf.confR a b = (decide ((Rf.comps a).length ≠ (Rf.comps b).length) && decide ((Rf.comps a).take (min (Rf.comps a).length (Rf.comps b).length) = (Rf.comps b).take (min (Rf.comps a).length (Rf.comps b).length))) from rfl)
  have hla : (Rf.comps a).length ≤ 1000000001 := Rf.comps_len a |> fun h => by omega
  have hlb : (Rf.comps b).length ≤ 1000000001 := Rf.comps_len b |> fun h => by omega
  have hnx : 0 < (Rf.comps a).length := List.length_pos_iff.2 (Rf.comps_ne a)
  have hny : 0 < (Rf.comps b).length := List.length_pos_iff.2 (Rf.comps_ne b)
  generalize Rf.conf a b = q at *
  generalize Rf.confR a b = q2 at *
  generalize Rf.comps a = x at *
  generalize Rf.comps b = y at *
  go_enter Tryd.func24, Tryd.ntmps24
  go_wp2_with fail
  go_at_call 43
  refine H1.out.mono ?_
  rintro e w1 ⟨A1, c1, rfl, hc1, s1, hb1⟩
  go_wp2_with fail
  go_at_call 43
  refine (H2.out w1).mono ?_
  rintro e w2 ⟨A2, c2, rfl, hc2, s2, hb2⟩
  obtain ⟨g1, o1, rfl, _⟩ := s1.at_ (by rw [Fl.len sC_len]; omega)
  obtain ⟨g2, o2, rfl, _⟩ := s2.at_ (by rw [Fl.len sC_len]; omega)
  have s1' := (s1.mono (X' := Free) (fun b hb => hb.elim)).keep (free_below hb2)
  have s2' := s2.mono (X' := Free) (fun b hb => hb.elim)
  have hbel := hb1.trans (hb2.mono hb1.size)
  clear H1 H2 s1 s2 hb1 hb2
  have HS := Lib.hid (fun (n : Nat) (hx : n ≤ x.length) (hy : n ≤ y.length) (w6 : World) (h6 : Below w2.heap.size w2 w6) => by
    have := strings_any w6 (some ⟨g1, o1, none⟩) (some ⟨g2, o2, none⟩) c1 c2 (x.take n) (y.take n) (by have := (s1'.keep (free_below h6)).take (n * 1); rw [← Fl.take sC_len] at this; exact this) (by have := (s2'.keep (free_below h6)).take (n * 1); rw [← Fl.take sC_len] at this; exact this) (by simp; omega) (by simp; omega)
    rw [List.length_take, List.length_take, Nat.min_eq_left hx, Nat.min_eq_left hy] at this
    exact this)
  clear s1' s2'
  by_cases hl : x.length = y.length
  · have HN : Hid (q = false) := Lib.hid (by rw [HQ.out, HD.out]; simp [hl])
    have hl' : ((x.length : Int) == (y.length : Int)) = true := by simp [hl]
    clear hl
    go_wp2_with fail
    go_ret
    exact ⟨by rw [HN.out]; rfl, hbel⟩
  · have hl' : ((x.length : Int) == (y.length : Int)) = false := by simp; omega
    by_cases hlt : x.length < y.length
    · have HM := Lib.hid (fun d => HS.out x.length (Nat.le_refl _) (by omega) (w2.drewN d) (below_drewN' (Below.refl _ _) d))
      have HY : Hid (q = decide (x.take x.length = y.take x.length)) := Lib.hid (by rw [HQ.out, HD.out, decide_eq_true hl, Nat.min_eq_left (by omega)]; rfl)
      have hm : min (x.length : Int) (y.length : Int) = (x.length : Int) := by omega
      have hi1 : (x.length : Int) ≤ c1 := by omega
      have hi2 : (x.length : Int) ≤ c2 := by omega
      clear hl HQ HD HS
      generalize decide (x.take x.length = y.take x.length) = q3 at *
      go_wp2_with fail
      go_quiet ((go_at_call 47; (with_reducible refine (HM.out _).mono ?_); exact fun e w3 h => ⟨h.1, h.2.elim fun n' hn => ⟨_, hn.trans (World.drewN_drewN _ _ _)⟩⟩))
      go_wp2_with fail
      go_ret
      exact ⟨by rw [HY.out]; rfl, below_drewN' hbel nq⟩
    · have HM := Lib.hid (fun d => HS.out y.length (by omega) (Nat.le_refl _) (w2.drewN d) (below_drewN' (Below.refl _ _) d))
      have HY : Hid (q = decide (x.take y.length = y.take y.length)) := Lib.hid (by rw [HQ.out, HD.out, decide_eq_true hl, Nat.min_eq_right (by omega)]; rfl)
      have hm : min (x.length : Int) (y.length : Int) = (y.length : Int) := by omega
      have hi1 : (y.length : Int) ≤ c1 := by omega
      have hi2 : (y.length : Int) ≤ c2 := by omega
      clear hl HQ HD HS
      generalize decide (x.take y.length = y.take y.length) = q3 at *
      go_wp2_with fail
      go_quiet ((go_at_call 47; (with_reducible refine (HM.out _).mono ?_); exact fun e w3 h => ⟨h.1, h.2.elim fun n' hn => ⟨_, hn.trans (World.drewN_drewN _ _ _)⟩⟩))
      go_wp2_with fail
      go_ret
      exact ⟨by rw [HY.out]; rfl, below_drewN' hbel nq⟩
end Go.Proofs.YtfbbgnhelannjaaDoor
