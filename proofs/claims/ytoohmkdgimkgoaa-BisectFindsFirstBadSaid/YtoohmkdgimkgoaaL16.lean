/-
  BisectFindsFirstBad: the law's walk.
-/
import Derived.Test.YtoohmkdgimkgoaaL13
import Derived.Test.YtoohmkdgimkgoaaL8
namespace Go.Proofs.Ytoohmkdgimkgoaa
open Go.RowKit Go.V
set_option linter.unusedVariables false

/-- Is commit i defective because of cause c? -/
def causeB (l : List Hs.Cm) (i : Nat) (c : Int) : Bool := decide (0 ≤ c ∧ c < l.length) && Hs.reach l i c.toNat
def brokF (l : List Hs.Cm) (cs : List Int) (i : Nat) : Bool := cs.any (causeB l i)
def brokAt (l : List Hs.Cm) (cs : List Int) (i k : Nat) : Bool := (cs.take k).any (causeB l i)
theorem brokAt_succ (l : List Hs.Cm) (cs : List Int) (i k : Nat) (h : k < cs.length) : brokAt l cs i (k + 1) = (brokAt l cs i k || causeB l i cs[k]) := by
  unfold brokAt; rw [List.take_succ_eq_append_getElem h, List.any_append]; simp
theorem brokAt_all (l : List Hs.Cm) (cs : List Int) (i : Nat) : brokAt l cs i cs.length = brokF l cs i := by unfold brokAt brokF; rw [List.take_length]
def brokTo (l : List Hs.Cm) (cs : List Int) (i j : Nat) : Bool := if j < i then brokF l cs j else false
def brokIn (l : List Hs.Cm) (cs : List Int) (i k j : Nat) : Bool := if j = i then brokAt l cs i k else brokTo l cs i j
theorem brokIn_zero (l : List Hs.Cm) (cs : List Int) (i j : Nat) : brokIn l cs i 0 j = brokTo l cs i j := by
  unfold brokIn brokAt brokTo
  by_cases h : j = i
  · subst h; rw [if_pos rfl, if_neg (by omega)]; simp
  · rw [if_neg h]
theorem brokIn_succ (l : List Hs.Cm) (cs : List Int) (i k j : Nat) (h : k < cs.length) : brokIn l cs i (k + 1) j = if j = i then (brokAt l cs i k || causeB l i cs[k]) else brokIn l cs i k j := by
  unfold brokIn
  by_cases e : j = i
  · rw [if_pos e, if_pos e, brokAt_succ l cs i k h]
  · rw [if_neg e, if_neg e, if_neg e]
theorem brokIn_all (l : List Hs.Cm) (cs : List Int) (i j : Nat) : brokIn l cs i cs.length j = brokTo l cs (i + 1) j := by
  unfold brokIn brokTo
  by_cases h : j = i
  · subst h; rw [if_pos rfl, if_pos (by omega), brokAt_all]
  · rw [if_neg h]
    have : j < i + 1 ↔ j < i := by omega
    simp only [this]
theorem brokF_up {l : List Hs.Cm} (hok : Hs.Ok l) (cs : List Int) (i k : Nat) (hr : Hs.reach l i k = true) (hb : brokF l cs k = true) : brokF l cs i = true := by
  unfold brokF at *
  rw [List.any_eq_true] at *
  obtain ⟨c, hc, h⟩ := hb
  refine ⟨c, hc, ?_⟩
  unfold causeB at *
  rw [Bool.and_eq_true] at *
  exact ⟨h.1, hok.reach_trans _ _ _ hr h.2⟩
def brokL (l : List Hs.Cm) (cs : List Int) : List Bool := tab l.length (brokF l cs)
theorem brk_brokL (l : List Hs.Cm) (cs : List Int) (i : Nat) (h : i < l.length) : brk (brokL l cs) i = brokF l cs i := by
  unfold brk brokL; rw [tab_get? _ _ _ h]; rfl
def fineAt (l : List Hs.Cm) (cs : List Int) (gs : List Nat) (b i : Nat) : Bool := brokF l cs b && (gs.take i).all fun g => !brokF l cs g
theorem fineAt_succ (l : List Hs.Cm) (cs : List Int) (gs : List Nat) (b i : Nat) (h : i < gs.length) : fineAt l cs gs b (i + 1) = (fineAt l cs gs b i && !brokF l cs gs[i]) := by
  unfold fineAt; rw [List.take_succ_eq_append_getElem h, List.all_append]; simp [Bool.and_assoc]
theorem fineAt_all {l : List Hs.Cm} {cs : List Int} {gs : List Nat} {b : Nat} (h : fineAt l cs gs b gs.length = true) : brokF l cs b = true ∧ ∀ g ∈ gs, brokF l cs g = false := by
  unfold fineAt at h
  rw [List.take_length, Bool.and_eq_true, List.all_eq_true] at h
  exact ⟨h.1, fun g hg => by simpa using h.2 g hg⟩
/-- What is found. -/
theorem first16 {l : List Hs.Cm} {gs : List Nat} {b : Nat} {cs : List Int} (hs : Hs.Srch l gs b) (hf : fineAt l cs gs b gs.length = true) :
    (Hs.find l (brk (brokL l cs)) gs b).1 < l.length ∧ (Hs.find l (brk (brokL l cs)) gs b).2.length ≤ l.length ∧ brokF l cs (Hs.find l (brk (brokL l cs)) gs b).1 = true ∧
    ∀ p ∈ Hs.pars l (Hs.find l (brk (brokL l cs)) gs b).1, p < l.length ∧ brokF l cs p = false := by
  obtain ⟨h1, h2⟩ := fineAt_all hf
  have h3 := hs.find_len (brk (brokL l cs))
  have hcl := Hs.cand_len l gs b
  obtain ⟨h4, h5⟩ := hs.find_first (brk (brokL l cs)) (fun i k hi hr hk => by
    have hkl := hs.ok.reach_lt hi hr
    rw [brk_brokL l cs k hkl] at hk
    rw [brk_brokL l cs i hi]
    exact brokF_up hs.ok cs i k hr hk) (by rw [brk_brokL l cs b hs.hbad]; exact h1) (fun g hg => by rw [brk_brokL l cs g (hs.hgood g hg)]; exact h2 g hg)
  refine ⟨h3.2.1, by omega, by rw [brk_brokL l cs _ h3.2.1] at h4; exact h4, fun p hp => ?_⟩
  have := hs.ok.pars_lt _ p hp
  have hpl : p < l.length := by omega
  have h6 := h5 p hp
  rw [brk_brokL l cs p hpl] at h6
  exact ⟨hpl, h6⟩

set_option maxRecDepth 100000 in
set_option maxHeartbeats 4000000 in
theorem law16_bad (w : World) (A A2 A3 : Option Addr) (k k2 k3 : Nat) (l : List Hs.Cm) (good : List Int) (bad : Int) (cs : List Int) (hv : CV w A l) (hl : l.length ≤ 9223372036854775807) (hv2 : IV w A2 good) (hi64 : ∀ (j : Nat) (h : j < good.length), I64 good[j]) (hl2 : good.length ≤ 9223372036854775807)
    (hbad : (bcheck l good bad).1 ≠ 0) :
    Calls Try.prog 16 #[.slice A l.length k, .slice A2 good.length k2, .int .i64 bad, .slice A3 cs.length k3] w fun e w' => e = .returned (.bool true) ∧ Below w.heap.size w w' := by
  have HF := Lib.hid (fun (w1 : World) h h2 => bisectFault_any w1 A A2 k k2 l good bad h hl h2 hi64 hl2)
  generalize bcheck l good bad = r at *
  obtain ⟨c, i⟩ := r
  simp only at hbad
  have hc1 : (c == 0) = false := by simpa using hbad
  have hc2 : (c != 0) = true := by simpa using hbad
  clear hbad
  have hfld : ∀ (x y : Value) W, (Instr.field 26 (.agg #[x, y]) 0).run Try.prog W = .ok x W := fun _ _ _ => by kernel_rfl
  go_enter Try.func16, Try.ntmps16
  go_wp2_with fail
  go_at_call 37
  refine (bexample_any _).mono ?_
  rintro e w1 ⟨rfl, hb1⟩
  go_wp2_with fail
  go_at_call 41
  refine (HF.out _ (hv.below hb1) (hv2.below hb1)).mono ?_
  rintro e w8 ⟨rfl, hb8'⟩
  have hb8 := hb1.trans (hb8'.mono hb1.size)
  simp only
  go_wp2_with fail
  go_ret
  exact ⟨rfl, hb8⟩

set_option maxRecDepth 100000 in
set_option maxHeartbeats 16000000 in
theorem law16_ok (w : World) (A A2 A3 : Option Addr) (k k2 k3 : Nat) (l : List Hs.Cm) (gs : List Nat) (b : Nat) (cs : List Int) (hv : CV w A l) (hv2 : IV w A2 (Hs.ints gs)) (hl2 : gs.length ≤ 60) (hs : Hs.Srch l gs b)
    (hv3 : IV w A3 cs) (hl3 : cs.length ≤ 9223372036854775807) (hc64 : ∀ (j : Nat) (h : j < cs.length), I64 cs[j]) :
    Calls Try.prog 16 #[.slice A l.length k, .slice A2 gs.length k2, .int .i64 (b : Int), .slice A3 cs.length k3] w fun e w' => e = .returned (.bool true) ∧ Below w.heap.size w w' := by
  have hok := hs.ok
  have hl60 := hok.len
  have hl : l.length ≤ 9223372036854775807 := by omega
  have hgl : (Hs.ints gs).length = gs.length := Hs.ints_length gs
  have HF0 := fun (w1 : World) h h2 => bcheck_srch hs hl2 ▸ bisectFault_any w1 A A2 k k2 l (Hs.ints gs) b h hl h2 (ints_i64 hok hs.hgood) (by rw [hgl]; omega)
  have HI0 := fun (w1 : World) A3 k3 h h2 h3 => (ok12 (bcheck_srch hs hl2) (brokL l cs)).2.2.2 (by simp [brokL]) ▸ find_any w1 A A2 A3 k k2 k3 l (Hs.ints gs) b (brokL l cs) h hl h2 (ints_i64 hok hs.hgood) (by rw [hgl]; omega) h3 (by simp [brokL]; omega)
  rw [hgl] at HF0 HI0
  have HF := Lib.hid HF0
  have HI := Lib.hid HI0
  have HAF := Lib.hid (fun (w1 : World) (n : Nat) h hn => ancestors_fresh w1 A k l n h hok hn)
  have HAT := Lib.hid (fun (i : Nat) (hi : i < cs.length) (wr : World) hbel => hv3.atIn (wr := wr) hbel i hi)
  have HGAT := Lib.hid (fun (i : Nat) (hi : i < gs.length) (wr : World) hbel => nat_at (wr := wr) hv2 hbel i hi)
  have HGL := Lib.hid hs.hgood
  have H16 := Lib.hid (fun h => first16 (cs := cs) hs h)
  have HIZ := Lib.hid (brokIn_zero l cs)
  have HIS := Lib.hid (brokIn_succ l cs)
  have HIA := Lib.hid (brokIn_all l cs)
  have HBL := Lib.hid (show (brokL l cs).length = l.length by simp [brokL])
  have HT0 := Lib.hid (show ∀ j, brokTo l cs 0 j = false from fun j => by unfold brokTo; rw [if_neg (by omega)])
  have hbl := hs.hbad
  have hmk := run_make_row' (P := Try.prog) 24 4 (.bool false) 1 Try.underlying24 info4 rfl .i64 .i64 l.length (by omega) (by omega)
  clear HF0 HI0 hgl
  have hfld : ∀ (x y : Value) W, (Instr.field 26 (.agg #[x, y]) 0).run Try.prog W = .ok x W := fun _ _ _ => by kernel_rfl
  go_enter Try.func16, Try.ntmps16
  go_wp2_with fail
  go_at_call 37
  refine (bexample_any _).mono ?_
  rintro e w1 ⟨rfl, hb1⟩
  go_wp2_with fail
  go_at_call 41
  refine (HF.out _ (hv.below hb1) (hv2.below hb1)).mono ?_
  rintro e wB ⟨rfl, hb2'⟩
  have hbB := hb1.trans (hb2'.mono hb1.size)
  have hszB := hbB.size
  clear hb1 hb2' HF
  simp only
  go_wp2_with fail
  go_loopw [10] (fun v wr => ∃ i : Nat, i ≤ l.length ∧ v = .int .i64 i ∧ TabBRel wB wr l.length (brokTo l cs i)) (fun v _ => l.length - (intOf v).toNat)
  case atStart =>
    have : TabBRel wB (wB.alloc (.cells (madeCells #[.bool false] l.length) 4)) l.length (brokTo l cs 0) :=
      TabBRel.congr (f := fun _ => false) ⟨blk_made_bool wB 4 l.length, below_alloc1 _ _⟩ fun j _ => HT0.out j
    exact ⟨0, Nat.zero_le _, rfl, this⟩
  case round =>
    obtain ⟨i, hi, rfl, st⟩ := hrel
    obtain ⟨w4, rfl⟩ : ∃ w4 : World, w4 = wr := ⟨_, rfl⟩
    have hlt4 := st.blk.lt
    have hb4 := hbB.trans (st.bel.mono hszB)
    have hsz4 := hb4.size
    by_cases hil : i < l.length
    · have hil' : (i : Int) < l.length := by omega
      go_wp2_with fail
      go_at_call 18
      refine (HAF.out _ i (hv.below hb4) hil).mono ?_
      rintro e w5 ⟨g5, rfl, hg5, hin5, hb5⟩
      have st5 := ((st.below hb5).alloc (.cells #[.int .i64 0, .int .i64 0] 26)).congr (f' := brokIn l cs i 0) fun j _ => HIZ.out i j
      have hin6 := hin5.alloc (.cells #[.int .i64 0, .int .i64 0] 26)
      have hne : wB.heap.size ≠ g5 := by omega
      clear st hb5 hin5
      go_wp2_with fail
      go_loopw [13] (fun v wr => ∃ kk : Nat, kk ≤ cs.length ∧ v = .int .i64 kk ∧ TabBRel wB wr l.length (brokIn l cs i kk) ∧ Blk wr g5 4 (boolsA (tab l.length (Hs.reach l i)))) (fun v _ => cs.length - (intOf v).toNat)
      case atStart => exact ⟨0, Nat.zero_le _, rfl, st5, hin6⟩
      case round =>
        obtain ⟨kk, hk, rfl, st6, hin7⟩ := hrel
        obtain ⟨w6, rfl⟩ : ∃ w6 : World, w6 = wr := ⟨_, rfl⟩
        clear st5 hin6
        by_cases hkl : kk < cs.length
        · have hkl' : (kk : Int) < cs.length := by omega
          obtain ⟨b1, off1, e1, hb1, hc1⟩ := HAT.out kk hkl w6 (hbB.trans (st6.bel.mono hszB))
          subst e1
          have hx64 := hc64 kk hkl
          unfold I64 at hx64
          have hci := blk_tabB st6.blk i hil
          have hfi := st6.blk.frozen i
          have hst := fun (x : Bool) (hx : x = (brokAt l cs i kk || causeB l i cs[kk])) => st6.set_ (f' := brokIn l cs i (kk + 1)) i x (fun j _ => by rw [HIS.out i kk j hkl, hx])
          have e5 : brokIn l cs i kk i = brokAt l cs i kk := by unfold brokIn; rw [if_pos rfl]
          rw [e5] at hci
          clear e5
          have HST := Lib.hid hst
          have HFAR := Lib.hid (fun u => hin7.far (p := ⟨wB.heap.size, i, none⟩) (by simp; omega) u)
          clear hst
          have HCB := Lib.hid (show causeB l i cs[kk] = (decide (0 ≤ cs[kk] ∧ cs[kk] < l.length) && Hs.reach l i cs[kk].toNat) from rfl)
          generalize cs[kk] = x at *
          generalize brokAt l cs i kk = v1 at *
          cases v1
          · by_cases hr : 0 ≤ x ∧ x < l.length
            · obtain ⟨xn, rfl⟩ := Int.eq_ofNat_of_zero_le hr.1
              have hxn : xn < l.length := by omega
              have hxn' : (xn : Int) < l.length := by omega
              have hrx := blk_tabB hin7 xn hxn
              have HC2 := Lib.hid (show causeB l i xn = Hs.reach l i xn from by rw [HCB.out, decide_eq_true hr]; simp)
              have HR := Lib.hid (show 0 ≤ (xn : Int) ∧ (xn : Int) ≤ (l.length : Int) - 1 from by omega)
              clear hr HCB
              generalize Hs.reach l i xn = v2 at *
              have hst2 := HST.out v2 (by rw [HC2.out]; simp)
              go_wp2_with (go_at_call 21; refine (in_yes _ _ _ _ HR.out).mono ?_; rintro e w' ⟨rfl, rfl⟩)
              go_roundw
              case rel => exact ⟨kk + 1, by omega, by go_num, hst2, HFAR.out _⟩
              case measure => simp [intOf]; omega
            · have hst2 := HST.out false (by rw [HCB.out, decide_eq_false hr]; simp)
              have HR := Lib.hid (show ¬ (0 ≤ x ∧ x ≤ (l.length : Int) - 1) from by omega)
              clear hr HCB
              go_wp2_with (go_at_call 21; refine (in_no _ _ _ _ HR.out).mono ?_; rintro e w' ⟨rfl, rfl⟩)
              go_roundw
              case rel => exact ⟨kk + 1, by omega, by go_num, hst2, HFAR.out _⟩
              case measure => simp [intOf]; omega
          · have hst2 := HST.out true (by simp)
            clear HCB
            go_wp2_with fail
            go_roundw
            case rel => exact ⟨kk + 1, by omega, by go_num, hst2, HFAR.out _⟩
            case measure => simp [intOf]; omega
        · obtain rfl : kk = cs.length := by omega
          have st7 : TabBRel wB w6 l.length (brokTo l cs (i + 1)) := st6.congr fun j _ => (HIA.out i j).symm
          go_wp2_with fail
          go_roundw
          case rel => exact ⟨i + 1, by omega, by go_num, st7⟩
          case measure => simp [intOf]; omega
    · obtain rfl : i = l.length := by omega
      have st2 : TabBRel wB w4 l.length (brokF l cs) := st.congr fun j hj => by unfold brokTo; rw [if_pos hj]
      have hbv : BV w4 (some ⟨wB.heap.size, 0, none⟩) (brokL l cs) := SV.of_bools st2.blk
      have hcb := blk_tabB st2.blk b hbl
      have hbl' : (b : Int) < l.length := by omega
      have HCL := Lib.hid (fun (j : Nat) (hj : j < l.length) => blk_tabB st2.blk j hj)
      have HFS := Lib.hid (fineAt_succ l cs gs b)
      have HF0 := Lib.hid (show fineAt l cs gs b 0 = brokF l cs b from by simp [fineAt])
      clear st HIZ HIS HIA HT0 HAF HAT hi hil st2
      go_wp2_with fail
      go_loop [14, 15] (fun fv iv => ∃ j : Nat, j ≤ gs.length ∧ fv = .bool (fineAt l cs gs b j) ∧ iv = .int .i64 j) (fun _ iv => gs.length - (intOf iv).toNat)
      case atStart => exact ⟨0, Nat.zero_le _, by rw [HF0.out], rfl⟩
      case round =>
        obtain ⟨j, hj, rfl, rfl⟩ := hrel
        by_cases hjl : j < gs.length
        · have hjl' : (j : Int) < gs.length := by omega
          obtain ⟨b1, off1, e1, hb1, hc1⟩ := HGAT.out j hjl w4 hb4
          subst e1
          have hgl := HGL.out _ (List.getElem_mem hjl)
          have HFJ := Lib.hid (HFS.out j hjl)
          generalize gs[j] = g at *
          have hgl' : (g : Int) < l.length := by omega
          have hcg := HCL.out g hgl
          generalize fineAt l cs gs b j = v1 at *
          generalize brokF l cs g = v2 at *
          cases v1
          · go_wp2_with fail
            go_round
            case rel => exact ⟨j + 1, by omega, by rw [HFJ.out]; rfl, by go_num⟩
            case measure => simp [intOf]; omega
          · go_wp2_with fail
            go_round
            case rel => exact ⟨j + 1, by omega, by rw [HFJ.out, Bool.true_and], by go_num⟩
            case measure => simp [intOf]; omega
        · obtain rfl : j = gs.length := by omega
          generalize fineAt l cs gs b gs.length = v at *
          cases v
          · go_wp2_with fail
            go_ret
            exact ⟨rfl, hb4⟩
          · obtain ⟨f1, f2, f3, f4⟩ := H16.out rfl
            have HCC := Lib.hid (HI.out w4 (some ⟨wB.heap.size, 0, none⟩) l.length (hv.below hb4) (hv2.below hb4) hbv)
            rw [HBL.out] at HCC
            have HFP := Lib.hid f4
            clear H16 HI HFS HF0 HGAT HGL f4 hcb
            generalize Hs.find l (brk (brokL l cs)) gs b = r at *
            obtain ⟨fst, ts⟩ := r
            simp only at f1 f2 f3
            have f1' : (fst : Int) < l.length := by omega
            have f1'' : (fst : Int) ≤ (l.length : Int) - 1 := by omega
            have f2' : (ts.length : Int) ≤ l.length := by omega
            have hbvf := hbv
            go_wp2_with fail
            go_at_call 40
            refine HCC.out.mono ?_
            rintro e w8 ⟨A8, c8, rfl, hc8, hv8, hb8'⟩
            have hb8 := hb4.trans (hb8'.mono hb4.size)
            have hb9 := hb8.alloc hb8.size (.cells #[.int .i64 0, .int .i64 0] 26)
            have HBV := Lib.hid (fun (j : Nat) (hj : j < (brokL l cs).length) => hbv.atIn (hb8'.alloc hb8'.size (.cells #[.int .i64 0, .int .i64 0] 26)) j hj)
            have HB2 := Lib.hid (show ∀ j, (hj : j < l.length) → (w8.alloc (.cells #[.int .i64 0, .int .i64 0] 26)).cell? ⟨wB.heap.size, j, none⟩ = some (.bool (brokF l cs j)) from fun j hj => by
              obtain ⟨b2, o2, e2, _, h2⟩ := HBV.out j (by rw [HBL.out]; exact hj)
              injection e2 with e2
              injection e2 with e2 e3
              subst e2 e3
              rw [brk_eq, brk_brokL l cs j hj] at h2
              simpa using h2)
            have hcf := HB2.out fst f1
            rw [f3] at hcf
            obtain ⟨b2, off2, Ap, kp, e2, hb2, d0, d1, d2, d3, d4, dok, dip⟩ := hv.rowIn hb9 fst f1
            subst e2
            have HPN := Lib.hid (hok.par_nat fst · f1)
            have HPM := Lib.hid (Hs.pars_eq (l := l) fst f1)
            have hpl := hok.par_len fst f1
            have HIP := Lib.hid (fun j hj => dip.atIn hb9 j hj)
            clear hbv hbvf HBV HCC hb8' hb8 hv8 hc8 d1 d2 d3 d4 dok dip f3
            simp only [Hs.ints_length]
            generalize l[fst] = c at *
            go_wp2_with (go_at_call 21; refine (in_yes _ _ _ _ (by omega)).mono ?_; rintro e w' ⟨rfl, rfl⟩)
            go_loop [19] (fun iv => ∃ j : Nat, j ≤ c.par.length ∧ iv = .int .i64 j) (fun iv => c.par.length - (intOf iv).toNat)
            case atStart => exact ⟨0, Nat.zero_le _, rfl⟩
            case round =>
              obtain ⟨j, hj, rfl⟩ := hrel
              by_cases hjl : j < c.par.length
              · have hjl' : (j : Int) < c.par.length := by omega
                obtain ⟨b3, off3, e3, hb3, hc3⟩ := HIP.out j hjl
                subst e3
                obtain ⟨p, hp, hpi, hj', hpe⟩ := HPN.out j hjl
                rw [hp] at hc3
                have hpm : p ∈ Hs.pars l fst := by rw [← hpe]; exact List.getElem_mem hj'
                obtain ⟨hpl2, hpb⟩ := HFP.out p hpm
                have hcp := HB2.out p hpl2
                rw [hpb] at hcp
                have hpl3 : (p : Int) < l.length := by omega
                clear hp hpe hpm hpb
                go_wp2_with fail
                go_round
                case rel => exact ⟨j + 1, by omega, by go_num⟩
                case measure => simp [intOf]; omega
              · obtain rfl : j = c.par.length := by omega
                go_wp2_with fail
                go_ret
                exact ⟨rfl, hb9⟩
theorem law16_any (w : World) (A A2 A3 : Option Addr) (k k2 k3 : Nat) (l : List Hs.Cm) (good : List Int) (bad : Int) (cs : List Int) (hv : CV w A l) (hl : l.length ≤ 9223372036854775807) (hv2 : IV w A2 good) (hi64 : ∀ (j : Nat) (h : j < good.length), I64 good[j]) (hl2 : good.length ≤ 9223372036854775807)
    (hv3 : IV w A3 cs) (hc64 : ∀ (j : Nat) (h : j < cs.length), I64 cs[j]) (hl3 : cs.length ≤ 9223372036854775807) :
    Calls Try.prog 16 #[.slice A l.length k, .slice A2 good.length k2, .int .i64 bad, .slice A3 cs.length k3] w fun e w' => e = .returned (.bool true) ∧ Below w.heap.size w w' := by
  rcases bcheck_cases l good bad with h | ⟨he, gs, b, rfl, rfl, hs, hgl⟩
  · exact law16_bad w A A2 A3 k k2 k3 l good bad cs hv hl hv2 hi64 hl2 h
  · rw [Hs.ints_length]
    exact law16_ok w A A2 A3 k k2 k3 l gs b cs hv hv2 hgl hs hv3 hl3 hc64
end Go.Proofs.Ytoohmkdgimkgoaa
