/-
  Queries: walks of 'minus', 'descendants', 'one'.
-/
import Derived.Test.YtebohncdhhikkaaOq7
import Derived.Test.YtebohncdhhikkaaOq5
import Derived.Test.YtebohncdhhikkaaW9
namespace Oq
theorem selN_mem (f : Nat → Bool) (n x : Nat) : x ∈ selN f n ↔ x < n ∧ f x = true := by unfold selN; simp
theorem selN_has (f : Nat → Bool) (n : Nat) : (fun x => (selN f n).contains x) = fun x => decide (x < n) && f x := by
  funext x
  by_cases h : x ∈ selN f n
  · obtain ⟨h1, h2⟩ := (selN_mem f n x).1 h
    rw [List.contains_iff_mem.2 h, decide_eq_true h1, h2]; rfl
  · have h' := fun e => h ((selN_mem f n x).2 e)
    have e1 : (selN f n).contains x = false := by
      cases hc : (selN f n).contains x with
      | false => rfl
      | true => exact absurd (List.contains_iff_mem.1 hc) h
    rw [e1]
    by_cases h1 : x < n
    · cases h2 : f x with
      | false => simp
      | true => exact absurd ⟨h1, h2⟩ h'
    · simp [h1]
end Oq
namespace Go.Proofs.Ytebohncdhhikkaa
open Go.RowKit Go.V
set_option linter.unusedVariables false

/-- A row of bools that the call has made. -/
def OwnB (w : World) (n : Nat) (f : Nat → Bool) (e : Ending) (w' : World) : Prop :=
  ∃ A c, e = .returned (.slice A n c) ∧ w'.ownsRow w.heap.size 4 1 (.slice A n c) n (boolsV (tab n f)) ∧ Below w.heap.size w w'
theorem boolsA_toList (l : List Bool) : (boolsA l).toList = boolsV l := by simp [boolsA, boolsV]
theorem TabBPost.own {w : World} {n : Nat} {f : Nat → Bool} {e : Ending} {w' : World} (h : TabBPost w n f e w') (hn : n ≤ maxLen) : OwnB w n f e w' := by
  obtain ⟨g, rfl, hg, hb, hbel⟩ := h
  refine ⟨_, _, rfl, own_of_blk hb hg (Nat.le_refl _) hn (by rw [boolsA_size, Nat.mul_one]) ?_, hbel⟩
  rw [boolsA_toList, List.take_of_length_le (by simp)]
theorem own_boolAt {w : World} {base g n c : Nat} {f : Nat → Bool} (h : w.ownsRow base 4 1 (.slice (some ⟨g, 0, none⟩) n c) n (boolsV (tab n f))) (i : Nat) (hi : i < n) : w.cell? ⟨g, i, none⟩ = some (.bool (f i)) := by
  rw [h.cellAt i (by omega)]
  simp [boolsV, tab, hi]
theorem own_boolSet {w : World} {base g n c : Nat} {f f' : Nat → Bool} (h : w.ownsRow base 4 1 (.slice (some ⟨g, 0, none⟩) n c) n (boolsV (tab n f))) (i : Nat) (x : Bool) (hf : ∀ j, j < n → f' j = if j = i then x else f j) :
    (w.setCell ⟨g, i, none⟩ (.bool x)).ownsRow base 4 1 (.slice (some ⟨g, 0, none⟩) n c) n (boolsV (tab n f')) := by
  have := (h.stored i (.bool x)).1
  have e : (boolsV (tab n f)).set i (.bool x) = boolsV (tab n f') := by
    unfold boolsV
    rw [← List.map_set, tab_set, tab_congr hf]
  rwa [e] at this
set_option maxRecDepth 100000 in
set_option maxHeartbeats 8000000 in
theorem minus_any (w : World) (A1 A2 : Option Addr) (k1 k2 n : Nat) (f g : Nat → Bool) (h1 : BV w A1 (tab n f)) (h2 : BV w A2 (tab n g)) (hn : n ≤ 60) : Calls Try.prog 31 #[.slice A1 n k1, .slice A2 n k2] w (TabBPost w n fun i => f i && !g i) := by
  have HV1 := Lib.hid (fun (w1 : World) (hb : Below w.heap.size w w1) (i : Nat) (hi : i < n) => h1.atIn hb i (by simpa using hi))
  have HV2 := Lib.hid (fun (w1 : World) (hb : Below w.heap.size w w1) (i : Nat) (hi : i < n) => h2.atIn hb i (by simpa using hi))
  have HG := Lib.hid (fun (F : Nat → Bool) (i : Nat) (hi : i < n) => tab_get n F i (by simpa using hi))
  clear h1 h2
  have hmk := run_make_row' (P := Try.prog) 46 4 (.bool false) 1 Try.underlying46 info4 rfl .i64 .i64 n (by omega) (by omega)
  have b0 := blk_made_bool w 4 n
  rw [tab_congr (f := fun _ => false) (g := fun j => decide (j < 0) && (f j && !g j)) (fun _ _ => by simp)] at b0
  have hb0 := below_alloc1 w (.cells (madeCells #[.bool false] n) 4)
  go_enter Try.func31, Try.ntmps31
  go_wp2_with fail
  go_loopw [12] (fun iv wr => ∃ i : Nat, i ≤ n ∧ iv = .int .i64 i ∧ Blk wr w.heap.size 4 (boolsA (tab n fun j => decide (j < i) && (f j && !g j))) ∧ Below w.heap.size w wr) (fun iv _ => n - (intOf iv).toNat)
  case atStart => exact ⟨0, Nat.zero_le _, rfl, b0, hb0⟩
  case round =>
    clear b0 hb0
    obtain ⟨i, hi, rfl, hb, hbel⟩ := hrel
    obtain ⟨wo, rfl⟩ : ∃ wo : World, wo = wr := ⟨_, rfl⟩
    by_cases hlt : i < n
    · have hlt' : (i : Int) < n := by omega
      obtain ⟨b, off, e, hbs, hc⟩ := HV1.out _ hbel i hlt
      obtain ⟨b', off', e', hbs', hc'⟩ := HV2.out _ hbel i hlt
      subst e
      subst e'
      rw [HG.out f i hlt] at hc
      rw [HG.out g i hlt] at hc'
      have q0 := blk_tabB hb i hlt
      have qf := hb.frozen i
      have l1 := hb.lt
      have hset := blk_tabB_set (g' := fun j => decide (j < i + 1) && (f j && !g j)) hb i (f i && !g i) (fun j _ => by
        by_cases e : j = i
        · subst e; simp
        · have : decide (j < i + 1) = decide (j < i) := by congr 1; exact propext ⟨fun _ => by omega, fun _ => by omega⟩
          rw [this, if_neg e])
      have hbel2 := hbel.setCell (p := ⟨w.heap.size, i, none⟩) (Nat.le_refl _) (.bool (f i && !g i))
      clear hb hbel
      generalize f i = v1 at *
      generalize g i = v2 at *
      cases v1 with
      | false =>
        simp only [Bool.false_and] at hset hbel2
        go_wp2_with fail
        go_roundw
        case rel => exact ⟨i + 1, by omega, by go_num, hset, hbel2⟩
        case measure => simp [intOf]; omega
      | true =>
        simp only [Bool.true_and] at hset hbel2
        go_wp2_with fail
        go_roundw
        case rel => exact ⟨i + 1, by omega, by go_num, hset, hbel2⟩
        case measure => simp [intOf]; omega
    · obtain rfl : i = n := by omega
      have HF := Lib.hid (show TabBPost w i (fun j => f j && !g j) (.returned (.slice (some ⟨w.heap.size, 0, none⟩) i i)) wo from ⟨w.heap.size, rfl, Nat.le_refl _, by
        rw [tab_congr (f := fun j => f j && !g j) (g := fun j => decide (j < i) && (f j && !g j)) (fun j hj => by simp [hj])]; exact hb, hbel⟩)
      go_wp2_with fail
      go_ret
      exact HF.out
set_option maxRecDepth 100000 in
set_option maxHeartbeats 16000000 in
theorem desc_any (w : World) (A A2 : Option Addr) (k k2 : Nat) (l : List Hs.Cm) (f : Nat → Bool) (hv : CV w A l) (hok : Hs.Ok l) (h2 : BV w A2 (tab l.length f)) :
    Calls Try.prog 41 #[.slice A l.length k, .slice A2 l.length k2] w (OwnB w l.length (Oq.dAt l f l.length)) := by
  have HV0 := Lib.hid hv
  have HSO := Lib.hid hok
  have hl60 := hok.len
  have HS2 := Lib.hid (show SV w w.heap.size A2 (boolsV (tab l.length f)) from h2)
  have HPN := Lib.hid (fun i j hi hj => HSO.out.par_nat i j hi hj)
  have HPL := Lib.hid (fun i hi => Hs.pars_length l i hi)
  have h3l := Lib.hid (fun i hi => HSO.out.par_len i hi)
  have HONE := Lib.hid (boolsV_one (tab l.length f))
  have HLEN := Lib.hid (show (boolsV (tab l.length f)).length = l.length * 1 by simp)
  obtain ⟨i0, hi0, hz0, hz1, hz2⟩ := info_parts info4
  have h63 : 0 + l.length ≤ maxLen := by unfold maxLen; omega
  have hby : (0 + l.length) * 1 ≤ 140737488355328 := by omega
  clear hv hok h2
  go_enter Try.func41, Try.ntmps41
  go_wp2_with (first | (at_builtin; refine wpList_appN _ rfl (.const (.slice none 0 0)) (.tmp 10) 46 rfl w.heap.size 4 i0 (.bool false) 1 1 Try.underlying46 hi0 hz0 hz1 hz2 rfl (by decide) none 0 0 [] rfl (World.ownsRow_nil _ _ _ _) w.heap.size A2 l.length k2 (boolsV (tab l.length f)) rfl HLEN.out HS2.out HONE.out h63 hby (Nat.le_refl _) ?_))
  intro A' c' w1 hown1 hg1 hc1
  have hb1 : Below w.heap.size w w1 := (Below.refl _ _).grown hg1 (Nat.le_refl _) (fun g e => by cases e)
  try simp only [Nat.zero_add, List.nil_append] at hown1
  try simp only [Nat.zero_add]
  clear hg1 hc1 HONE HLEN HS2 h63 hby
  go_wp2_with fail
  go_loopw [14] (fun iv wr => ∃ i : Nat, i ≤ l.length ∧ iv = .int .i64 i ∧ Below w.heap.size w wr ∧ wr.ownsRow w.heap.size 4 1 (.slice A' l.length c') l.length (boolsV (tab l.length (Oq.dAt l f i)))) (fun iv _ => l.length - (intOf iv).toNat)
  case atStart => exact ⟨0, Nat.zero_le _, rfl, hb1, hown1⟩
  case round =>
    clear hb1 hown1
    obtain ⟨i, hi, rfl, hbel, hown⟩ := hrel
    obtain ⟨wo, rfl⟩ : ∃ wo : World, wo = wr := ⟨_, rfl⟩
    have hsz := hbel.size
    by_cases hlt : i < l.length
    · have hlt' : (i : Int) < l.length := by omega
      obtain ⟨g, cap, hform, hg1, hg2⟩ := hown.form (by omega)
      injection hform with e1 e2 e3
      subst e1
      subst e3
      obtain ⟨b, off, Ap, kp, e, hb, d0, d1, d2, d3, d4, hco, hip⟩ := HV0.out.row i hlt
      subst e
      replace d0 := (hbel.cell (p := ⟨b, off + i * 5, none⟩) hb).trans d0
      replace d1 := (hbel.cell (p := ⟨b, off + i * 5 + 1, none⟩) hb).trans d1
      replace d2 := (hbel.cell (p := ⟨b, off + i * 5 + 2, none⟩) hb).trans d2
      replace d3 := (hbel.cell (p := ⟨b, off + i * 5 + 3, none⟩) hb).trans d3
      replace d4 := (hbel.cell (p := ⟨b, off + i * 5 + 4, none⟩) hb).trans d4
      have hbo : b < wo.heap.size := Nat.lt_of_lt_of_le hb hsz
      have HP := Lib.hid (fun j hj => HPN.out i j hlt hj)
      have hpl := HPL.out i hlt
      have h3 := h3l.out i hlt
      generalize l[i] = cm at *
      obtain ⟨par, au, tm, tr, msg⟩ := cm
      simp only at *
      have HIP := Lib.hid hip
      have hbel1 := hbel.alloc hsz (.cells #[.slice Ap par.length kp, .int .i64 au, .int .i64 tm, .int .i64 tr, .string msg] 45)
      have hown1 := hown.alloc (.cells #[.slice Ap par.length kp, .int .i64 au, .int .i64 tm, .int .i64 tr, .string msg] 45)
      rw [← Oq.dIn_zero l f i] at hown1
      have HAL := Lib.hid (Oq.dIn_all l f i par.length (by omega))
      clear hown hco hip hbel
      go_wp2_with fail
      go_loopw [22] (fun jv wr => ∃ j : Nat, j ≤ par.length ∧ jv = .int .i64 j ∧ Below w.heap.size w wr ∧ wr.ownsRow w.heap.size 4 1 (.slice (some ⟨g, 0, none⟩) l.length c') l.length (boolsV (tab l.length (Oq.dIn l f i j)))) (fun jv _ => par.length - (intOf jv).toNat)
      case atStart => exact ⟨0, Nat.zero_le _, rfl, hbel1, hown1⟩
      case round =>
        clear hbel1 hown1 d0 d1 d2 d3 d4
        obtain ⟨j, hj, rfl, hbel, hown⟩ := hrel
        obtain ⟨wi, rfl⟩ : ∃ wi : World, wi = wr := ⟨_, rfl⟩
        by_cases hjl : j < par.length
        · have hjl' : (j : Int) < par.length := by omega
          obtain ⟨b', off', e', hb', hc'⟩ := HIP.out.atIn hbel j hjl
          subst e'
          obtain ⟨p, hp, hpi, hj', hpe⟩ := HP.out j hjl
          rw [hp] at hc'
          have hpn : p < l.length := by omega
          have hpn' : (p : Int) < l.length := by omega
          have q1 := own_boolAt hown i hlt
          have q2 := own_boolAt hown p hpn
          have qf := hown.frozenAt i
          have hst := own_boolSet (f' := Oq.dIn l f i (j + 1)) hown i (Oq.dIn l f i j i || Oq.dIn l f i j p) (fun q _ => Oq.dIn_succ l f i j q p hj' hpe hpi)
          have hbel2 := hbel.setCell (p := ⟨g, i, none⟩) hg1 (.bool (Oq.dIn l f i j i || Oq.dIn l f i j p))
          clear hp hpe hown hbel
          generalize Oq.dIn l f i j i = v1 at *
          generalize Oq.dIn l f i j p = v2 at *
          cases v1 with
          | true =>
            simp only [Bool.true_or] at hst hbel2
            go_wp2_with fail
            go_roundw
            case rel => exact ⟨j + 1, by omega, by go_num, hbel2, hst⟩
            case measure => simp [intOf]; omega
          | false =>
            simp only [Bool.false_or] at hst hbel2
            go_wp2_with fail
            go_roundw
            case rel => exact ⟨j + 1, by omega, by go_num, hbel2, hst⟩
            case measure => simp [intOf]; omega
        · obtain rfl : j = par.length := by omega
          rw [HAL.out] at hown
          clear HAL
          go_wp2_with fail
          go_roundw
          case rel => exact ⟨i + 1, by omega, by go_num, hbel, hown⟩
          case measure => simp [intOf]; omega
    · obtain rfl : i = l.length := by omega
      have HF := Lib.hid (show OwnB w l.length (Oq.dAt l f l.length) (.returned (.slice A' l.length c')) wo from ⟨A', c', rfl, hown, hbel⟩)
      clear hown
      go_wp2_with fail
      go_ret
      exact HF.out
end Go.Proofs.Ytebohncdhhikkaa
