/-
  BisectLogarithmic: the law's walk.
-/
import Derived.Test.YtoohmkdgimkgoaaL13
namespace Go.Proofs.Ytoohmkdgimkgoaa
open Go.RowKit Go.V
set_option linter.unusedVariables false

def brkL (F n : Nat) : List Bool := (List.range n).map fun i => decide (F ≤ i)
@[simp] theorem brkL_length (F n : Nat) : (brkL F n).length = n := by simp [brkL]
theorem brkL_succ (F n : Nat) : brkL F (n + 1) = brkL F n ++ [decide (F ≤ n)] := by simp [brkL, List.range_succ]
theorem brk_brkL (F n i : Nat) (h : i < n) : brk (brkL F n) i = decide (F ≤ i) := by unfold brk brkL; simp [h]
theorem srchLine (n : Nat) (h2 : 2 ≤ n) (hn : n ≤ 60) : Hs.Srch (Hs.lineL n) [0] (n - 1) :=
  ⟨Hs.lineOk n hn, by simp; omega, fun g hg => by simp at hg; subst hg; simp; omega, fun g hg => by
    simp at hg; subst hg
    rw [Hs.lineLin n hn 0 (n - 1) (by simp; omega)]
    simp; omega⟩
theorem candLine (n : Nat) (h2 : 2 ≤ n) : (Hs.cand (Hs.lineL n) [0] (n - 1)).length < n := by
  have h : (Hs.cand (Hs.lineL n) [0] (n - 1)).length < (List.range (Hs.lineL n).length).length := by
    unfold Hs.cand
    rw [List.length_filter_lt_length_iff_exists]
    refine ⟨0, by simp; omega, ?_⟩
    simp [Hs.isCand, Hs.reach_refl]
  simpa using h
theorem find_line (n F : Nat) (h2 : 2 ≤ n) (hn : n ≤ 60) (hF1 : 1 ≤ F) (hF2 : F ≤ n - 1) : ∃ ts : List Nat, findRes (Hs.lineL n) [0] ((n : Int) - 1) (brkL F n) = ((F : Int), (Hs.ints ts, (0, 0))) ∧ (ts.length = 0 ∨ 2 ^ (ts.length - 1) < n - 1) ∧ ts.length ≤ 60 := by
  have hs := srchLine n h2 hn
  have hlin := Hs.lineLin n hn
  have hok := Hs.lineOk n hn
  have hlen : (Hs.lineL n).length = n := Hs.lineL_length n
  refine ⟨(Hs.find (Hs.lineL n) (brk (brkL F n)) [0] (n - 1)).2, ?_, ?_, ?_⟩
  · obtain ⟨h3, h4⟩ := hs.find_first (brk (brkL F n)) (fun i k hi hr hk => by
      rw [hlen] at hi
      rw [hlin i k (by rw [hlen]; exact hi)] at hr
      have hki : k ≤ i := by simpa using hr
      rw [brk_brkL F n k (by omega)] at hk
      rw [brk_brkL F n i hi]
      simp at hk ⊢; omega) (by rw [brk_brkL F n _ (by omega)]; simpa using hF2) (fun g hg => by
      simp at hg; subst hg; rw [brk_brkL F n 0 (by omega)]; simp; omega)
    have h5 := (hs.find_len (brk (brkL F n))).2.1
    have e : (Hs.find (Hs.lineL n) (brk (brkL F n)) [0] (n - 1)).1 = F := by
      generalize Hs.find (Hs.lineL n) (brk (brkL F n)) [0] (n - 1) = r at *
      rw [hlen] at h5
      rw [brk_brkL F n _ h5] at h3
      have h6 : F ≤ r.1 := by simpa using h3
      rw [Hs.linePars n _ h5, if_neg (by omega)] at h4
      have h7 := h4 (r.1 - 1) (by simp)
      rw [brk_brkL F n _ (by omega)] at h7
      simp at h7; omega
    unfold findRes
    have e2 : ((n : Int) - 1).toNat = n - 1 := by omega
    rw [bcheck_line n h2 hn, if_neg (by simp), if_neg (by simp), e2]
    have e3 : Hs.nats [0] = [0] := rfl
    rw [e3, e]
  · rcases hs.find_log hlin (brk (brkL F n)) with h | h
    · exact .inl h
    · have := candLine n h2; exact .inr (by omega)
  · have := (hs.find_len (brk (brkL F n))).1
    have := candLine n h2
    omega
structure BrkSt (w1 wr : World) (F i : Nat) (Ao : Option Addr) (co : Nat) : Prop where
  own : wr.ownsRow w1.heap.size 4 1 (.slice Ao i co) i (boolsV (brkL F i))
  bel : Below w1.heap.size w1 wr

set_option maxRecDepth 100000 in
set_option maxHeartbeats 8000000 in
theorem law14_ok (w : World) (n F : Nat) (h2 : 2 ≤ n) (hn : n ≤ 60) (hF1 : 1 ≤ F) (hF2 : F ≤ n - 1) :
    Calls Try.prog 14 #[.int .i64 (n : Int), .int .i64 (F : Int)] w fun e w' => e = .returned (.bool true) ∧ Below w.heap.size w w' := by
  obtain ⟨i0, hi0, hz0, hz1, hz2⟩ := info_parts info4
  obtain ⟨ts, hfind, hlog, htl⟩ := find_line n F h2 hn hF1 hF2
  have HLOG := Lib.hid hlog
  have HF : Hid (∀ (w1 : World) A k A2 A3 k3, CV w1 A (Hs.lineL n) → IV w1 A2 [0] → BV w1 A3 (brkL F n) → Calls Try.prog 40 #[.slice A n k, .slice A2 1 1, .int .i64 ((n : Int) - 1), .slice A3 n k3] w1 (FRes w1 ((F : Int), (Hs.ints ts, (0, 0))))) := Lib.hid fun w1 A k A2 A3 k3 h h2 h3 => by
    have := find_any w1 A A2 A3 k 1 k3 (Hs.lineL n) [0] ((n : Int) - 1) (brkL F n) h (by simp; omega) h2 i64s_0 (by simp) h3 (by simp; omega)
    rw [hfind, Hs.lineL_length, brkL_length] at this; exact this
  clear hfind hlog
  have hF2' : (F : Int) ≤ (n : Int) - 1 := by omega
  have hB0 : Hid (brkL F 0 = []) := Lib.hid rfl
  go_enter Try.func14, Try.ntmps14
  go_wp2_with fail
  go_at_call 37
  refine (bexample_any _).mono ?_
  rintro e w1 ⟨rfl, hb1⟩
  go_wp2_with (first | (go_at_call 21; refine (in_yes _ _ _ _ (by omega)).mono ?_; rintro e w' ⟨rfl, rfl⟩))
  go_loopw [5, 6] (fun ov iv wr => ∃ (i : Nat) (Ao : Option Addr) (co : Nat), i ≤ n ∧ ov = .slice Ao i co ∧ iv = .int .i64 i ∧ BrkSt w1 wr F i Ao co) (fun _ iv _ => n - (intOf iv).toNat)
  case atStart => exact ⟨0, none, 0, Nat.zero_le _, rfl, rfl, ⟨World.ownsRow_nil _ _ _ _, Below.refl _ _⟩⟩
  case round =>
    obtain ⟨i, Ao, co, hi, rfl, rfl, st⟩ := hrel
    obtain ⟨wo, rfl⟩ : ∃ wo : World, wo = wr := ⟨_, rfl⟩
    have hsz := st.bel.size
    by_cases hil : i < n
    · have hil' : (i : Int) < n := by omega
      have HS := Lib.hid (brkL_succ F i)
      go_wp2_with (first | (at_builtin; refine wpList_app1 _ rfl (.tmp 29) (.tmp 33) 24 rfl w1.heap.size 4 i0 (.bool false) 1 Try.underlying24 hi0 hz0 hz1 hz2 rfl Ao i co _ rfl (st.own.alloc _) wo.heap.size _ (.bool (decide (F ≤ i))) rfl (by simp [World.cell?_alloc_new]) rfl ?ha ?hb ?hc ?_))
      case ha => simp [maxLen]; omega
      case hb => omega
      case hc => simp; omega
      intro A' c' w4 hown4 hg4 _
      have st4 : BrkSt w1 w4 F (i + 1) A' c' := ⟨by rw [HS.out, boolsV_append]; exact hown4, below_append (st.bel.alloc hsz _) (st.own.alloc _) hg4 (Nat.le_refl _) (by simp; omega)⟩
      clear hown4 hg4 st
      go_wp2_with fail
      go_roundw
      case rel => exact ⟨i + 1, _, _, by omega, rfl, by go_num, st4⟩
      case measure => simp [intOf]; omega
    · obtain rfl : i = n := by omega
      have hbv : BV wo Ao (brkL F i) := SV.of_own st.own
      have hb2 := hb1.trans (st.bel.mono hb1.size)
      clear st hb1 hil hi
      go_wp2_with fail
      go_at_call 46
      refine (line_any wo i hn).mono ?_
      rintro e w5 ⟨A5, c5, rfl, hc5, hv5, hb5'⟩
      have hb5 := hb2.trans (hb5'.mono hb2.size)
      have hbv5 := (hbv.below hb5').alloc (.cells #[.int .i64 0] 3)
      have HCC := Lib.hid (HF.out _ A5 c5 _ Ao co (hv5.alloc _) (lit_ints w5 [0] 3 _ rfl) hbv5)
      have hb6 := hb5.alloc hb5.size (.cells #[.int .i64 0] 3)
      clear hb5' hb2 hbv hbv5 hv5 hc5 HF
      simp only [Hs.lineL_length]
      go_wp2_with fail
      go_at_call 40
      refine HCC.out.mono ?_
      rintro e w7 ⟨A7, c7, rfl, hc7, hv7, hb7'⟩
      have hb7 := hb6.trans (hb7'.mono hb6.size)
      have hb8 := hb7.alloc hb7.size (.cells #[.int .i64 0, .int .i64 0] 26)
      have hFF : ((F : Int) != F) = false := by simp
      clear hb7' hb6 hv7 hc7 HCC
      simp only [Hs.ints_length]
      go_wp2_with fail
      have HP0 : Hid (((2 ^ 0 : Nat) : Int) = 1) := Lib.hid (by simp)
      have HPS := Lib.hid (fun q => Nat.pow_succ (n := 2) (m := q))
      have HPL := Lib.hid (fun (q : Nat) (h : q ≤ ts.length - 1) => Nat.pow_le_pow_right (n := 2) (by omega) h)
      go_loop [10, 11] (fun lv iv => ∃ q : Nat, q ≤ ts.length - 1 ∧ lv = .int .i64 ((2 ^ q : Nat) : Int) ∧ iv = .int .i64 ((q : Int) + 1)) (fun _ iv => ts.length + 1 - (intOf iv).toNat)
      case atStart => exact ⟨0, Nat.zero_le _, by rw [HP0.out], by simp⟩
      case round =>
        obtain ⟨q, hq, rfl, rfl⟩ := hrel
        by_cases hT : ts.length = 0
        · have hq0 : q = 0 := by omega
          subst hq0
          rw [HP0.out]
          rw [hT]
          clear HP0 HPS HPL HLOG hq
          go_wp2_with fail
          go_ret
          exact ⟨rfl, hb8⟩
        · have hlog : 2 ^ (ts.length - 1) < i - 1 := by have := HLOG.out; omega
          have hpl := HPL.out q hq
          have HPQ := Lib.hid (HPS.out q)
          by_cases hqT : q + 1 < ts.length
          · have hqT' : (q : Int) + 1 < ts.length := by omega
            generalize 2 ^ (ts.length - 1) = m at *
            generalize 2 ^ q = p at *
            have hp60 : (p : Int) ≤ 60 := by omega
            clear hlog hpl
            go_wp2_with fail
            go_round
            case rel => exact ⟨q + 1, by omega, by rw [HPQ.out]; exact congrArg (fun z => Value.int .i64 z) (by omega), by go_num⟩
            case measure => simp [intOf]; omega
          · have hqT' : ¬ (q : Int) + 1 < ts.length := by omega
            obtain rfl : q = ts.length - 1 := by omega
            have e1 : ((ts.length - 1 : Nat) : Int) + 1 = ts.length := by omega
            rw [e1]
            clear e1 hqT' hpl
            generalize 2 ^ (ts.length - 1) = m at *
            have hml : (m : Int) < (i : Int) - 1 := by omega
            have hT1 : ((ts.length : Int) == 0) = false := by simp; intro h; subst h; simp at hT
            have hT2 : (ts.length == 0) = false := by simp; intro h; subst h; simp at hT
            clear hlog
            go_wp2_with fail
            go_ret
            exact ⟨rfl, hb8⟩
theorem law14_out (w : World) (n F : Int) (h : ¬ (2 ≤ n ∧ n ≤ 60 ∧ 1 ≤ F ∧ F ≤ n - 1)) (hn : I64 n) (hF : I64 F) :
    Calls Try.prog 14 #[.int .i64 n, .int .i64 F] w fun e w' => e = .returned (.bool true) ∧ Below w.heap.size w w' := by
  by_cases h1 : 2 ≤ n ∧ n ≤ 60
  · have h2 : ¬ (1 ≤ F ∧ F ≤ n - 1) := by omega
    have H2 := Lib.hid h2
    clear h h2
    go_enter Try.func14, Try.ntmps14
    go_wp2_with fail
    go_at_call 37
    refine (bexample_any _).mono ?_
    rintro e w1 ⟨rfl, hb1⟩
    go_wp2_with fail
    go_at_call 21
    refine (in_yes _ _ _ _ h1).mono ?_
    rintro e w' ⟨rfl, rfl⟩
    go_wp2_with fail
    go_at_call 21
    refine (in_no _ _ _ _ H2.out).mono ?_
    rintro e w' ⟨rfl, rfl⟩
    go_wp2_with fail
    go_ret
    exact ⟨rfl, hb1⟩
  · have H1 := Lib.hid h1
    clear h h1
    go_enter Try.func14, Try.ntmps14
    go_wp2_with fail
    go_at_call 37
    refine (bexample_any _).mono ?_
    rintro e w1 ⟨rfl, hb1⟩
    go_wp2_with fail
    go_at_call 21
    refine (in_no _ _ _ _ H1.out).mono ?_
    rintro e w' ⟨rfl, rfl⟩
    go_wp2_with fail
    go_ret
    exact ⟨rfl, hb1⟩
theorem law14_any (w : World) (n F : Int) (hn : I64 n) (hF : I64 F) :
    Calls Try.prog 14 #[.int .i64 n, .int .i64 F] w fun e w' => e = .returned (.bool true) ∧ Below w.heap.size w w' := by
  by_cases h : 2 ≤ n ∧ n ≤ 60 ∧ 1 ≤ F ∧ F ≤ n - 1
  · obtain ⟨n', rfl⟩ := Int.eq_ofNat_of_zero_le (show 0 ≤ n by omega)
    obtain ⟨F', rfl⟩ := Int.eq_ofNat_of_zero_le (show 0 ≤ F by omega)
    exact law14_ok w n' F' (by omega) (by omega) (by omega) (by omega)
  · exact law14_out w n F h hn hF
end Go.Proofs.Ytoohmkdgimkgoaa
