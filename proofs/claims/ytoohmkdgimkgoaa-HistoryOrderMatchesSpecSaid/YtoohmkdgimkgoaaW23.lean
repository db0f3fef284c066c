/-
  Histories: walk of the reference's 'OrderOf'.
-/
import Derived.Test.YtoohmkdgimkgoaaW22
import Derived.Test.YtoohmkdgimkgoaaW7
import Derived.Test.YtoohmkdgimkgoaaPure4
namespace Hs
/-- May commit i be listed, as far as the first k commits say? -/
def rdy (l : List Cm) (out : List Nat) (i k : Nat) : Bool := !decide (i ∈ out) && (List.range k).all fun m => !(decide (i ∈ pars l m) && !decide (m ∈ out))
theorem rdy_zero (l : List Cm) (out : List Nat) (i : Nat) : rdy l out i 0 = !decide (i ∈ out) := by simp [rdy]
theorem rdy_succ (l : List Cm) (out : List Nat) (i k : Nat) : rdy l out i (k + 1) = (rdy l out i k && !(decide (i ∈ pars l k) && !decide (k ∈ out))) := by
  unfold rdy; rw [List.range_succ, List.all_append]; simp [Bool.and_assoc]
theorem Ok.rdy_all {l : List Cm} (h : Ok l) (m i : Nat) (hm : m ≤ l.length) (hi : i < l.length) : rdy l (ordOut l m) i l.length = true ↔ ordL l m i = 0 := by
  rw [h.ready m i hm hi]
  unfold rdy
  simp only [Bool.and_eq_true, Bool.not_eq_true', decide_eq_false_iff_not, List.all_eq_true, List.mem_range, Bool.and_eq_false_imp, decide_eq_true_eq, Bool.not_eq_false']
theorem mem_ints (out : List Nat) (i : Nat) : decide ((i : Int) ∈ ints out) = decide (i ∈ out) := by
  refine decide_eq_decide.2 ?_
  unfold ints
  rw [List.mem_map]
  constructor
  · rintro ⟨x, hx, e⟩
    have : x = i := by omega
    rw [← this]; exact hx
  · intro hx; exact ⟨i, hx, rfl⟩
end Hs
namespace Go.Proofs.Ytoohmkdgimkgoaa
open Go.RowKit Go.V
set_option linter.unusedVariables false

def lenOf : Value → Nat
  | .slice _ n _ => n
  | _ => 0
@[simp] theorem ordOut_length (l : List Hs.Cm) (m : Nat) : (Hs.ordOut l m).length = m := by simp [Hs.ordOut]

set_option maxRecDepth 100000 in
set_option maxHeartbeats 8000000 in
theorem orderOf_any (w : World) (A : Option Addr) (k : Nat) (l : List Hs.Cm) (hv : CV w A l) (hok : Hs.Ok l) :
    Calls Try.prog 35 #[.slice A l.length k] w (BoPost w (Hs.ints (Hs.order l))) := by
  obtain ⟨i0, hi0, hz0, hz1, hz2⟩ := info_parts info3
  have hl := hok.len
  go_enter Try.func35, Try.ntmps35
  go_wp2_with fail
  go_loopw [3] (fun ov wr => ∃ (m : Nat) (Ao : Option Addr) (co : Nat), m ≤ l.length ∧ ov = .slice Ao m co ∧ HoSt w wr (Hs.ordOut l m) Ao co) (fun ov _ => l.length - lenOf ov)
  case atStart => exact ⟨0, none, 0, Nat.zero_le _, rfl, World.ownsRow_nil _ _ _ _, Below.refl _ _⟩
  case round =>
    obtain ⟨m, Ao, co, hm, rfl, st⟩ := hrel
    obtain ⟨wo, rfl⟩ : ∃ wo : World, wo = wr := ⟨_, rfl⟩
    have hol := ordOut_length l m
    by_cases hml : m < l.length
    · have hml' : (m : Int) < l.length := by omega
      have HOWN := Lib.hid st.own
      go_wp2_with fail
      go_loopw [4, 5] (fun bv iv wr => ∃ (i n : Nat) (b : Int), i ≤ l.length ∧ iv = .int .i64 i ∧ bv = .int .i64 b ∧ -1 ≤ b ∧ b < i ∧ Hid (Hs.pick l (Hs.ordL l m) i = b) ∧ wr = wo.drewN n) (fun _ iv _ => l.length - (intOf iv).toNat)
      case atStart => exact ⟨0, 0, -1, Nat.zero_le _, rfl, rfl, by omega, by omega, rfl, rfl⟩
      case round =>
        obtain ⟨i, n, b, hi, rfl, rfl, hb1, hb2, HB, rfl⟩ := hrel
        by_cases hil : i < l.length
        · have hil' : (i : Int) < l.length := by omega
          have hbl := hok.ordL_bd m i hm hil
          have hiv : IV (wo.drewN n) Ao (Hs.ints (Hs.ordOut l m)) := SV.of_own (st.drewN n).own
          have HHAS := Lib.hid (show ∀ q : Nat, Calls Try.prog 45 #[.slice Ao m co, .int .i64 q] (wo.drewN n) fun e w' => e = .returned (.bool (decide (q ∈ Hs.ordOut l m))) ∧ wo.drewN n = w' from fun q => by
            have := has_any (wo.drewN n) Ao co (Hs.ints (Hs.ordOut l m)) (q : Int) hiv (by rw [Hs.ints_length, ordOut_length]; omega)
            rw [Hs.ints_length, ordOut_length, Hs.mem_ints] at this
            exact this)
          have HROW := Lib.hid (fun kk hk => (hv.below (st.drewN n).bel).row kk hk)
          have HMEM := Lib.hid (hok.par_mem i)
          have HSUC := Lib.hid (Hs.rdy_succ l (Hs.ordOut l m) i)
          have HALL := Lib.hid (hok.rdy_all m i hm hil)
          have HZ := Lib.hid (Hs.rdy_zero l (Hs.ordOut l m) i)
          clear hiv
          go_wp2_with fail
          go_at_call 45
          refine (HHAS.out i).mono ?_
          rintro e w' ⟨rfl, rfl⟩
          go_wp2_with fail
          go_loop [6, 7] (fun rv kv => ∃ kk : Nat, kk ≤ l.length ∧ rv = .bool (Hs.rdy l (Hs.ordOut l m) i kk) ∧ kv = .int .i64 kk) (fun _ kv => l.length - (intOf kv).toNat)
          case atStart => exact ⟨0, Nat.zero_le _, by rw [HZ.out], rfl⟩
          case round =>
            obtain ⟨kk, hk, rfl, rfl⟩ := hrel
            by_cases hkl : kk < l.length
            · have hkl' : (kk : Int) < l.length := by omega
              obtain ⟨b2, off2, Ap, kp, e, hb2', c0, c1, c2, c3, c4, hok', hip⟩ := HROW.out kk hkl
              subst e
              have hs := HSUC.out kk
              have hm1 := HMEM.out kk hkl
              have hpl := hok.par_len kk hkl
              have hha := has_any (wo.drewN n) Ap kp l[kk].par (i : Int) hip (by omega)
              rw [hm1] at hha
              have HHA := Lib.hid hha
              have HH2 := Lib.hid (HHAS.out kk)
              generalize Hs.rdy l (Hs.ordOut l m) i kk = v1 at *
              generalize l[kk] = c at *
              clear hm1 hha c1 c2 c3 c4
              generalize decide (i ∈ Hs.pars l kk) = v2 at *
              generalize decide (kk ∈ Hs.ordOut l m) = v3 at *
              cases v2
              · have HS := Lib.hid (show Hs.rdy l (Hs.ordOut l m) i (kk + 1) = v1 from by rw [hs]; simp)
                clear hs
                go_wp2_with (go_at_call 45; refine HHA.out.mono ?_; rintro e w' ⟨rfl, rfl⟩)
                go_round
                case rel => exact ⟨kk + 1, by omega, by rw [HS.out], by go_num⟩
                case measure => simp [intOf]; omega
              · cases v3
                · have HS := Lib.hid (show Hs.rdy l (Hs.ordOut l m) i (kk + 1) = false from by rw [hs]; simp)
                  clear hs
                  go_wp2_with fail
                  go_at_call 45
                  refine HHA.out.mono ?_
                  rintro e w' ⟨rfl, rfl⟩
                  go_wp2_with fail
                  go_at_call 45
                  refine HH2.out.mono ?_
                  rintro e w' ⟨rfl, rfl⟩
                  go_wp2_with fail
                  go_round
                  case rel => exact ⟨kk + 1, by omega, by rw [HS.out], by go_num⟩
                  case measure => simp [intOf]; omega
                · have HS := Lib.hid (show Hs.rdy l (Hs.ordOut l m) i (kk + 1) = v1 from by rw [hs]; simp)
                  clear hs
                  go_wp2_with fail
                  go_at_call 45
                  refine HHA.out.mono ?_
                  rintro e w' ⟨rfl, rfl⟩
                  go_wp2_with fail
                  go_at_call 45
                  refine HH2.out.mono ?_
                  rintro e w' ⟨rfl, rfl⟩
                  go_wp2_with fail
                  go_round
                  case rel => exact ⟨kk + 1, by omega, by rw [HS.out], by go_num⟩
                  case measure => simp [intOf]; omega
            · obtain rfl : kk = l.length := by omega
              have hall := HALL.out
              clear HHAS HMEM HSUC HALL HZ
              generalize Hs.rdy l (Hs.ordOut l m) i l.length = rd at *
              obtain ⟨b1, off, Ap, kp, e, hb, c0, c1, c2, c3, c4, hok', hip⟩ := hv.rowIn st.bel i hil
              subst e
              have HT := Lib.hid (Hs.tmOf_eq l i hil)
              clear c0 c1 c3 c4 hok' hip
              cases rd
              · have h0 : Hs.ordL l m i ≠ 0 := fun h => by have := hall.2 h; cases this
                have H2 := Lib.hid ((Hs.pick_no l _ i h0).trans HB.out)
                clear h0 hall
                go_wp2_with fail
                go_quiet (fail)
                go_wp2_with fail
                go_roundw
                case rel => exact ⟨i + 1, _, b, by omega, by go_num, rfl, by omega, by omega, H2, rfl⟩
                case measure => simp [intOf]; omega
              · have H0 := Lib.hid (hall.1 rfl)
                clear hall
                by_cases hbn : b < 0
                · have H2 := Lib.hid (Hs.pick_first l _ i H0.out (by rw [HB.out]; exact hbn))
                  have hbn' : decide (b < 0) = true := by simpa using hbn
                  go_wp2_with fail
                  go_quiet (fail)
                  go_wp2_with fail
                  go_roundw
                  case rel => exact ⟨i + 1, _, i, by omega, by go_num, rfl, by omega, by omega, H2, rfl⟩
                  case measure => simp [intOf]; omega
                · obtain ⟨bn, rfl⟩ : ∃ bn : Nat, b = bn := ⟨b.toNat, by omega⟩
                  have hbn' : decide ((bn : Int) < 0) = false := by simp
                  obtain ⟨b1', off', Ap', kp', e', hb', d0, d1, d2, d3, d4, _, _⟩ := hv.rowIn st.bel bn (by omega)
                  injection e' with e'
                  injection e' with e1 e2
                  subst e1 e2
                  have HT2 := Lib.hid (Hs.tmOf_eq l bn (by omega))
                  have hbnl : (bn : Int) < l.length := by omega
                  have t1 := (hok.data i hil)
                  have t2 := (hok.data bn (by omega))
                  clear d0 d1 d3 d4
                  rw [← HT.out] at c2
                  rw [← HT2.out] at d2
                  by_cases ht : Hs.tmOf l bn ≤ Hs.tmOf l i
                  · have H2 := Lib.hid (Hs.pick_new l _ i H0.out bn HB.out ht)
                    have ht' : decide (Hs.tmOf l bn ≤ Hs.tmOf l i) = true := by simpa using ht
                    clear ht
                    go_wp2_with fail
                    go_quiet (fail)
                    go_wp2_with fail
                    go_roundw
                    case rel => exact ⟨i + 1, _, i, by omega, by go_num, rfl, by omega, by omega, H2, rfl⟩
                    case measure => simp [intOf]; omega
                  · have H2 := Lib.hid (Hs.pick_old l _ i bn HB.out (by omega))
                    have ht' : decide (Hs.tmOf l bn ≤ Hs.tmOf l i) = false := by simpa using ht
                    clear ht
                    go_wp2_with fail
                    go_quiet (fail)
                    go_wp2_with fail
                    go_roundw
                    case rel => exact ⟨i + 1, _, bn, by omega, by go_num, rfl, by omega, by omega, H2, rfl⟩
                    case measure => simp [intOf]; omega
        · obtain rfl : i = l.length := by omega
          obtain ⟨bn, hbn, hbl⟩ := hok.pick_nat m hml
          obtain rfl : b = bn := HB.out.symm.trans hbn
          have HY := Lib.hid (Hs.ordOut_succ' l m bn hbn)
          have stn := st.drewN n
          have hsz := st.bel.size
          have hown : (wo.drewN n).ownsRow w.heap.size 3 1 (.slice Ao m co) m (intsV (Hs.ints (Hs.ordOut l m))) := by
            have := stn.own
            rwa [hol] at this
          have hszn := stn.bel.size
          clear hbn HB hb1 hb2 st HOWN
          generalize wo.drewN n = wq at *
          go_wp2_with (first | (at_builtin; refine wpList_app1 _ rfl (.tmp 61) (.tmp 63) 37 rfl w.heap.size 3 i0 (.int .i64 0) 8 Try.underlying37 hi0 hz0 hz1 hz2 rfl Ao _ co _ rfl (hown.alloc _) wq.heap.size _ (.int .i64 bn) rfl (by simp [World.cell?_alloc_new]) rfl ?ha ?hb ?hc ?_))
          case ha => simp [maxLen]; omega
          case hb => omega
          case hc => simp; omega
          intro A' c' w4 hown4 hg4 _
          have st4 : HoSt w w4 (Hs.ordOut l (m + 1)) A' c' := by
            rw [HY.out]
            exact stn.app (i := bn) _ (by rw [hol]; exact hg4) (by rw [hol]; exact hown4)
          clear hown4 hg4 hown stn
          go_wp2_with fail
          go_roundw
          case rel => exact ⟨m + 1, _, _, by omega, rfl, st4⟩
          case measure => simp [lenOf]; omega
    · obtain rfl : m = l.length := by omega
      have hp := st.post
      go_wp2_with fail
      go_ret
      rw [hol] at hp
      exact hp
end Go.Proofs.Ytoohmkdgimkgoaa
