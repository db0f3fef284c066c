/-
  Packs: walk of 'Build'.
  Packs: walk of the reference's 'PackBytes'.
  PackBuildMatchesSpec: the example and the law's walk.
-/
import Derived.Test.YtiilhnfdlpgllaaPk9
import Derived.Test.YtiilhnfdlpgllaaView3
import Derived.Test.YtiilhnfdlpgllaaView12
import Derived.Test.YtiilhnfdlpgllaaPk7
namespace Go.Proofs.Ytiilhnfdlpgllaa
open Go.RowKit Go.V
set_option linter.unusedVariables false

/-- What 'Build' answers. -/
def BdPost (w : World) (s : List Ob.S) (e : Ending) (w' : World) : Prop :=
  Below w.heap.size w w' ∧ (((Ob.stF s).1 ≠ 0 ∧ e = .returned (.tuple #[.slice none 0 0, .agg #[.int .i64 (Ob.stF s).1, .int .i64 (Ob.stF s).2]])) ∨
    (Ob.StOk s ∧ 4096 < (packB s).length ∧ e = .returned (.tuple #[.slice none 0 0, .agg #[.int .i64 10, .int .i64 (-1)]])) ∨
    (Ob.StOk s ∧ (packB s).length ≤ 4096 ∧ ∃ A c, e = .returned (.tuple #[.slice A (packB s).length c, .agg #[.int .i64 0, .int .i64 0]]) ∧ (packB s).length ≤ c ∧ SA w' (Under w.heap.size) A (bytesV (packB s))))
set_option maxRecDepth 100000 in
set_option maxHeartbeats 8000000 in
theorem build_all (w : World) (A : Option Addr) (k : Nat) (s : List Ob.S) (hv : StV w Free A s) (hl64 : s.length ≤ 9223372036854775807) :
    Calls Try.prog 15 #[stV A s.length k] w (BdPost w s) := by
  have HC := Lib.hid (fun (w1 : World) (hb : Below w.heap.size w w1) => validate_any w1 A k s (hv.keep (free_below hb)) hl64)
  have HBU := Lib.hid (fun (w1 : World) (hb : Below w.heap.size w w1) (h : Ob.StOk s) => build_any w1 A k s (hv.keep (free_below hb)) (by have := h.len; omega) h.ok)
  clear hv
  go_enter Try.func15, Try.ntmps15
  go_wp2_with fail
  go_at_call 32
  refine (HC.out _ (below_alloc2 _ _ _)).mono ?_
  rintro e w1 ⟨rfl, hb1⟩
  have hblk := (blk_new1 w (.cells #[.slice A s.length k] 24) 28 #[.int .i64 0, .int .i64 0]).below hb1 (by simp)
  have hbox := ((Blk.new w 24 #[.slice A s.length k]).alloc (.cells #[.int .i64 0, .int .i64 0] 28)).below hb1 (by simp; omega)
  have hbw := (below_alloc2 w (.cells #[.slice A s.length k] 24) (.cells #[.int .i64 0, .int .i64 0] 28)).trans (hb1.mono (by simp; omega))
  have hsz := hbw.size
  have hlt := hblk.lt
  have hltb : w.heap.size < w1.heap.size := Nat.lt_of_succ_lt hlt
  have hc0 := hblk.cell 0
  have hc1 := hblk.cell 1
  have hf0 := hblk.frozen 0
  have hf1 := hblk.frozen 1
  have p0 := hbox.cell 0
  simp only [List.getElem?_toArray, List.getElem?_cons_zero, List.getElem?_cons_succ] at hc0 hc1 p0
  clear hb1 HC
  by_cases hbad : (Ob.stF s).1 ≠ 0
  · have H : Hid (∀ w' : World, Below w.heap.size w w' → BdPost w s (.returned (.tuple #[.slice none 0 0, .agg #[.int .i64 (Ob.stF s).1, .int .i64 (Ob.stF s).2]])) w') := Lib.hid fun w' hb => ⟨hb, .inl ⟨hbad, rfl⟩⟩
    have hb1 : ((Ob.stF s).1 == 0) = false := by simpa using hbad
    have hb2 : ((Ob.stF s).1 != 0) = true := by simpa using hbad
    clear hbad HBU
    generalize BdPost w s = R at *
    generalize Ob.stF s = r at *
    obtain ⟨cd, ix⟩ := r
    simp only at hb1 hb2
    go_wp2_with fail
    go_region
    all_goals
      go_wp2_with fail
      refine bodyPost_ret (results_tc rfl _ _ (w.heap.size + 1) (.int .i64 cd) (.int .i64 ix) rfl (((blk_put2 hblk _ _).alloc _).drewN 1)) rfl ?_
      refine H.out _ ?_
      exact below_drewN (((hbw.setCell (by simp) _).setCell (by simp) _).alloc (by simp; omega) _) 1
  · obtain ⟨hz, hok⟩ := Ob.stF_ok (by simpa using hbad)
    have H1 : Hid (∀ w' : World, Below w.heap.size w w' → 4096 < (packB s).length → BdPost w s (.returned (.tuple #[.slice none 0 0, .agg #[.int .i64 10, .int .i64 (-1)]])) w') := Lib.hid fun w' hb h => ⟨hb, .inr (.inl ⟨hok, h, rfl⟩)⟩
    have H2 : Hid (∀ (w' : World) A c, Below w.heap.size w w' → (packB s).length ≤ 4096 → (packB s).length ≤ c → SA w' (Under w.heap.size) A (bytesV (packB s)) → BdPost w s (.returned (.tuple #[.slice A (packB s).length c, .agg #[.int .i64 0, .int .i64 0]])) w') := Lib.hid fun w' A c hb h hc hs => ⟨hb, .inr (.inr ⟨hok, h, A, c, rfl, hc, hs⟩)⟩
    rw [hz]
    have hbw2 := hbw.alloc hsz (.cells #[.int .i64 0, .int .i64 0] 28)
    have hblk2 := hblk.alloc (.cells #[.int .i64 0, .int .i64 0] 28)
    have HBU2 := Lib.hid (HBU.out _ hbw2 hok)
    clear HBU hz hbad
    generalize BdPost w s = R at *
    go_wp2_with fail
    go_at_call 39
    refine HBU2.out.mono ?_
    rintro e w2 ⟨A2, n, c2, rfl, hb2, hrow⟩
    have hbw3 := hbw2.trans (hb2.mono hbw2.size)
    have hblk3 := hblk2.below hb2 hblk2.lt
    have hlt3 := hblk3.lt
    have hf03 := hblk3.frozen 0
    have hf13 := hblk3.frozen 1
    have hc03 := hblk3.cell 0
    have hc13 := hblk3.cell 1
    simp only [List.getElem?_toArray, List.getElem?_cons_zero, List.getElem?_cons_succ] at hc03 hc13
    by_cases h96 : (packB s).length ≤ 4096
    · obtain ⟨hn, hnc, hown⟩ := hrow (by have := packB_length s; omega)
      rw [decide_eq_true h96]
      subst hn
      clear hrow HBU2
      go_wp2_with fail
      refine bodyPost_ret (results_tc rfl _ _ (w.heap.size + 1) (.int .i64 0) (.int .i64 0) rfl (blk_put2 hblk3 _ _)) rfl ?_
      refine H2.out _ _ _ ?_ h96 hnc ?_
      · exact (hbw3.setCell (by simp) _).setCell (by simp) _
      have hz2 := hb2.size
      refine (((SA.of_own (X := Under (w.heap.size + 2)) hown ?_).keep (Keeps.setCell _ _ _ _ (by simp [Under]))).keep (Keeps.setCell _ _ _ _ (by simp [Under]))).mono ?_
      · intro b hb; simp only [Under] at hb; simp; omega
      · intro b hb; simp only [Under] at hb ⊢; omega
    · rw [decide_eq_false h96]
      clear hrow HBU2
      go_wp2_with fail
      refine bodyPost_ret (results_tc rfl _ _ (w.heap.size + 1) (.int .i64 10) (.int .i64 (-1)) rfl (blk_put2 hblk3 _ _)) rfl ?_
      refine H1.out _ ?_ (by omega)
      exact (hbw3.setCell (by simp) _).setCell (by simp) _
end Go.Proofs.Ytiilhnfdlpgllaa
namespace Go.Proofs.Ytiilhnfdlpgllaa
open Go.RowKit Go.V
set_option linter.unusedVariables false

/-- A string of bytes. -/
abbrev strV (l : List UInt8) : Value := .string ⟨l.toArray⟩
theorem str_app (a b : List UInt8) : (⟨a.toArray⟩ : ByteArray) ++ ⟨b.toArray⟩ = ⟨(a ++ b).toArray⟩ := by
  apply ByteArray.ext; simp
theorem ent_parts (o : Ob.O) : Ob.ent o = hd4 o ++ Ob.lnB o.links o.links.length ++ o.data := rfl
/-- The state of the loops of 'PackBytes'. -/
structure PbSt (w wr : World) (A : Option Addr) (n k : Nat) : Prop where
  box : Blk wr w.heap.size 24 #[.slice A n k]
  bel : Below w.heap.size w wr
theorem PbSt.below {w wr w' : World} {A : Option Addr} {n k : Nat} (h : PbSt w wr A n k) (hb : Below wr.heap.size wr w') : PbSt w w' A n k := ⟨h.box.below hb h.box.lt, h.bel.trans (hb.mono h.bel.size)⟩
set_option maxRecDepth 100000 in
set_option maxHeartbeats 8000000 in
theorem packBytes_any (w : World) (A : Option Addr) (k : Nat) (s : List Ob.S) (hv : StV w Free A s) (hl : s.length ≤ 255) (hok : ∀ i, i < s.length → Ob.Ok (Ob.it s i).ob) :
    Calls Try.prog 17 #[stV A s.length k] w (BvPost w (packB s)) := by
  obtain ⟨i0, hi0, hz0, hz1, hz2⟩ := info_parts info5
  have hl' : (s.length : Int) ≤ 255 := by omega
  have hlm : (s.length : Int) % 256 = s.length := by omega
  have HROW := Lib.hid (fun (w' : World) (hb : Below w.heap.size w w') i hi => (hv.keep (free_below hb)).row (w := w') i hi)
  have HOK := Lib.hid hok
  have hu : ((UInt8.ofNat s.length).toNat : Int) = s.length := by rw [u8_int]; exact hlm
  have sv1 : SV ((w.alloc (.cells #[.slice A s.length k] 24)).alloc (.cells #[.int .u8 (s.length : Int)] 5)) (w.heap.size + 2) (some ⟨w.heap.size + 1, 0, none⟩) (bytesV [UInt8.ofNat s.length]) := by
    have := SV.lit (w.alloc (.cells #[.slice A s.length k] 24)) #[.int .u8 (s.length : Int)] 5
    simp only [bytesV, List.map_cons, List.map_nil, hu]
    simpa using this
  have e1 : (convert 26 9 (.slice (some ⟨w.heap.size + 1, 0, none⟩) 1 1)).run Try.prog ((w.alloc (.cells #[.slice A s.length k] 24)).alloc (.cells #[.int .u8 (s.length : Int)] 5)) = .ok (strV [UInt8.ofNat s.length]) ((w.alloc (.cells #[.slice A s.length k] 24)).alloc (.cells #[.int .u8 (s.length : Int)] 5)) := run_conv_str (P := Try.prog) 26 9 5 1 Try.underlying26 Try.underlying5 Try.underlying9 sv1
  go_enter Try.func17, Try.ntmps17
  go_wp2_with fail
  go_loopw [3, 4] (fun tv iv wr => ∃ i : Nat, i ≤ s.length ∧ tv = strV (hd3 s.length ++ ents s i) ∧ iv = .int .i64 i ∧ PbSt w wr A s.length k) (fun _ iv _ => s.length - (intOf iv).toNat)
  case atStart => exact ⟨0, Nat.zero_le _, by rw [ents_zero, List.append_nil]; exact congrArg Value.string (str_app [80, 75] [UInt8.ofNat s.length]), rfl, ⟨(Blk.new _ _ _).alloc _, below_alloc2 _ _ _⟩⟩
  case round =>
    obtain ⟨i, hi, rfl, rfl, st⟩ := hrel
    obtain ⟨wo, rfl⟩ : ∃ wo : World, wo = wr := ⟨_, rfl⟩
    have hsz := st.bel.size
    have hbl := st.box.lt
    have bx := st.box.cell 0
    simp only [List.getElem?_toArray, List.getElem?_cons_zero] at bx
    by_cases hlt : i < s.length
    · have hlt' : (i : Int) < s.length := by omega
      obtain ⟨b, off, Al, kl, Ad, kd, e, hb, _, d0, d1, d2, d3, hx, hob⟩ := HROW.out _ st.bel i hlt
      subst e
      have hoki := HOK.out i hlt
      have HE := Lib.hid (show ents s (i + 1) = ents s i ++ (hd4 (Ob.it s i).ob ++ Ob.lnB (Ob.it s i).ob.links (Ob.it s i).ob.links.length ++ (Ob.it s i).ob.data) from ents_succ s i hlt)
      have h1 := hoki.lo
      have h2 := hoki.hi
      have h3 := hoki.ln
      have h4 := hoki.dn
      have h3' : ((Ob.it s i).ob.links.length : Int) ≤ 30 := by omega
      have h4' : ((Ob.it s i).ob.data.length : Int) ≤ 1000 := by omega
      have HH := hd4_cells hoki
      have HALL := Lib.hid hoki.all
      have HL := Lib.hid (fun (w' : World) (hb : Below wo.heap.size wo w') => (hob.ls.keep (free_below hb)).sv)
      have HD := Lib.hid (fun (w' : World) (hb : Below wo.heap.size wo w') => (hob.ds.keep (free_below hb)).sv)
      have HLN := Lib.hid (fun j hj => Ob.lnB_succ (Ob.it s i).ob.links j hj)
      have hplb : (hd3 s.length ++ ents s i).length ≤ 317223 := by
        have h1 := ents_le s hok i hi
        have : i * 1244 ≤ 255 * 1244 := Nat.mul_le_mul_right _ (by omega)
        simp only [List.length_append, hd3, List.length_cons, List.length_nil]; omega
      generalize hpre : hd3 s.length ++ ents s i = pre at *
      have HE2 := Lib.hid (show hd3 s.length ++ ents s (i + 1) = pre ++ hd4 (Ob.it s i).ob ++ Ob.lnB (Ob.it s i).ob.links (Ob.it s i).ob.links.length ++ (Ob.it s i).ob.data from by
        rw [HE.out, ← hpre]; simp only [List.append_assoc])
      clear hoki hob HE hpre hx
      generalize hh4 : hd4 (Ob.it s i).ob = h4l at *
      generalize Ob.it s i = x at *
      obtain ⟨xd, kk, ls, da⟩ := x
      simp only at *
      have hl4 : h4l.length = 4 := by rw [← hh4]; rfl
      clear hh4
      have hkm : kk % 256 = kk := by omega
      have hq1 : (da.length : Int) / 256 % 256 = (da.length : Int) / 256 := by omega
      have sv4 : SV ((wo.alloc (.cells #[.int .i64 kk, .slice Al ls.length kl, .slice Ad da.length kd] 44)).alloc (.cells #[.int .u8 kk, .int .u8 (ls.length : Int), .int .u8 ((da.length : Int) / 256), .int .u8 ((da.length : Int) % 256)] 5)) (wo.heap.size + 2) (some ⟨wo.heap.size + 1, 0, none⟩) (bytesV h4l) := by
        have := SV.lit (wo.alloc (.cells #[.int .i64 kk, .slice Al ls.length kl, .slice Ad da.length kd] 44)) #[.int .u8 kk, .int .u8 (ls.length : Int), .int .u8 ((da.length : Int) / 256), .int .u8 ((da.length : Int) % 256)] 5
        rw [HH]
        simpa using this
      have e4 := run_conv_str (P := Try.prog) 26 9 5 4 Try.underlying26 Try.underlying5 Try.underlying9 sv4
      rw [hl4] at e4
      have stA : PbSt w ((wo.alloc (.cells #[.int .i64 kk, .slice Al ls.length kl, .slice Ad da.length kd] 44)).alloc (.cells #[.int .u8 kk, .int .u8 (ls.length : Int), .int .u8 ((da.length : Int) / 256), .int .u8 ((da.length : Int) % 256)] 5)) (some ⟨b, off, none⟩) s.length k := st.below (below_alloc2 _ _ _)
      have bxA := (Blk.new wo 44 #[.int .i64 kk, .slice Al ls.length kl, .slice Ad da.length kd]).alloc (.cells #[.int .u8 kk, .int .u8 (ls.length : Int), .int .u8 ((da.length : Int) / 256), .int .u8 ((da.length : Int) % 256)] 5)
      have bbA := below_alloc2 wo (.cells #[.int .i64 kk, .slice Al ls.length kl, .slice Ad da.length kd] 44) (.cells #[.int .u8 kk, .int .u8 (ls.length : Int), .int .u8 ((da.length : Int) / 256), .int .u8 ((da.length : Int) % 256)] 5)
      clear st HH sv4
      have hcap4 : pre.length + 4 ≤ 9223372036854775807 := by omega
      go_wp2_with fail
      go_loopw [3, 6] (fun tv jv wr => ∃ j : Nat, j ≤ ls.length ∧ tv = strV (pre ++ h4l ++ Ob.lnB ls j) ∧ jv = .int .i64 j ∧ PbSt w wr (some ⟨b, off, none⟩) s.length k ∧ Blk wr wo.heap.size 44 #[.int .i64 kk, .slice Al ls.length kl, .slice Ad da.length kd] ∧ Below wo.heap.size wo wr) (fun _ jv _ => ls.length - (intOf jv).toNat)
      case atStart => exact ⟨0, Nat.zero_le _, by rw [Ob.lnB_zero, List.append_nil]; exact congrArg Value.string (str_app pre h4l), rfl, stA, bxA, bbA⟩
      case round =>
        obtain ⟨j, hj, rfl, rfl, st, box, bb⟩ := hrel
        obtain ⟨wi, rfl⟩ : ∃ wi : World, wi = wr := ⟨_, rfl⟩
        have hszi := st.bel.size
        have hxl := box.lt
        have bx1 := box.cell 1
        have bx2 := box.cell 2
        simp only [List.getElem?_toArray, List.getElem?_cons_zero, List.getElem?_cons_succ] at bx1 bx2
        have hll := Ob.lnB_length ls j hj
        have hT : (pre ++ h4l ++ Ob.lnB ls j).length ≤ 318000 := by simp only [List.length_append]; omega
        by_cases hjl : j < ls.length
        · have hjl' : (j : Int) < ls.length := by omega
          obtain ⟨bl, ol, e, hbl', hc⟩ := (HL.out _ bb).int j hjl
          subst e
          obtain ⟨hr0, hr1⟩ := HALL.out j hjl
          obtain ⟨m, hm⟩ := Int.eq_ofNat_of_zero_le hr0
          have hs := HLN.out j hjl
          rw [hm] at hc
          rw [hm, Int.toNat_natCast] at hs
          have hmb : m < 2305843009213693951 := by omega
          have HS := Lib.hid (show pre ++ h4l ++ Ob.lnB ls (j + 1) = (pre ++ h4l ++ Ob.lnB ls j) ++ Ob.wide m from by rw [hs]; simp only [List.append_assoc])
          clear hm hs hr0 hr1 hll
          generalize pre ++ h4l ++ Ob.lnB ls j = T at *
          go_wp2_with fail
          go_at_call 40
          refine (wide_any _ m hmb).mono ?_
          rintro e w4 ⟨A4, c4, rfl, hc4, hsa4, hb4⟩
          have e5 := run_conv_str (P := Try.prog) 26 9 5 c4 Try.underlying26 Try.underlying5 Try.underlying9 hsa4.sv
          have st4 := st.below hb4
          have box4 := box.below hb4 hxl
          have bb4 := bb.trans (hb4.mono bb.size)
          have hcap5 : T.length + 8 ≤ 9223372036854775807 := by omega
          rw [Ob.wide_length] at e5 ⊢
          have hw8 := Ob.wide_length m
          clear hsa4 hb4 st box bb
          generalize Ob.wide m = wm at *
          go_wp2_with fail
          go_roundw
          case rel => exact ⟨j + 1, by omega, by rw [HS.out]; exact congrArg Value.string (str_app T wm), by go_num, st4, box4, bb4⟩
          case measure => simp [intOf]; omega
        · obtain rfl : j = ls.length := by omega
          have HT := Lib.hid (show hd3 s.length ++ ents s (i + 1) = (pre ++ h4l ++ Ob.lnB ls ls.length) ++ da from HE2.out)
          generalize pre ++ h4l ++ Ob.lnB ls ls.length = T at *
          have e6 := run_conv_str (P := Try.prog) 26 9 5 kd Try.underlying26 Try.underlying5 Try.underlying9 (HD.out _ bb)
          have hcap6 : T.length + da.length ≤ 9223372036854775807 := by omega
          go_wp2_with fail
          go_roundw
          case rel => exact ⟨i + 1, by omega, by rw [HT.out]; exact congrArg Value.string (str_app T da), by go_num, st⟩
          case measure => simp [intOf]; omega
    · obtain rfl : i = s.length := by omega
      have hbel := st.bel
      have HPB := Lib.hid (show packB s = (hd3 s.length ++ ents s s.length) ++ Ob.wide (Dg.ofL (hd3 s.length ++ ents s s.length)) from rfl)
      have hble : (hd3 s.length ++ ents s s.length).length ≤ 317223 := by
        have h1 := ents_le s hok s.length (Nat.le_refl _)
        have : s.length * 1244 ≤ 255 * 1244 := Nat.mul_le_mul_right _ hl
        simp only [List.length_append, hd3, List.length_cons, List.length_nil]; omega
      clear st
      generalize hd3 s.length ++ ents s s.length = bd at *
      obtain ⟨W1, q1, kc1, came1, hb1, hl1⟩ := conv_came (P := Try.prog) wo 9 26 5 bd Try.underlying9 Try.underlying26 Try.underlying5
      obtain ⟨W2, q2, kc2, came2, hb2, hl2⟩ := conv_came (P := Try.prog) W1 9 26 5 bd Try.underlying9 Try.underlying26 Try.underlying5
      have came12 := came_below came1 hb2 hl1
      have hl12 : wo.heap.size < W2.heap.size := Nat.lt_trans hl1 hl2
      have hbw := hbel.trans ((hb1.trans (hb2.mono hb1.size)).mono hsz)
      have sv2 := came_sv came2 hl2
      have HO := digestOf_any W2 _ q2 bd sv2 (by omega)
      clear came1 came2 sv2
      go_wp2_with fail
      go_at_call 41
      refine HO.mono ?_
      rintro e w3 ⟨rfl, n3, rfl⟩
      have hb3 : Below W2.heap.size W2 (W2.drewN n3) := below_drewN (Below.refl _ _) _
      go_wp2_with fail
      go_at_call 40
      refine (wide_any _ _ (Dg.ofTo_lt _ _ (Nat.le_refl _))).mono ?_
      rintro e w4 ⟨A4, c4, rfl, hc4, hsa4, hb4⟩
      have came4 := came_below (came_below came12 hb3 hl12) hb4 (by simpa using hl12)
      have hb5 := hbw.trans ((hb3.trans (hb4.mono hb3.size)).mono hbw.size)
      obtain ⟨b4, o4, e4, _, _, hcells⟩ := hsa4.at_ (by simp)
      subst e4
      have hl4 : wo.heap.size < w4.heap.size := Nat.lt_of_lt_of_le hl12 (hb3.trans (hb4.mono hb3.size)).size
      have hls4 : w.heap.size ≤ w4.heap.size := hb5.size
      have hdof : Dg.ofTo bd bd.length = Dg.ofL bd := rfl
      rw [hdof] at hcells hc4 ⊢
      rw [Ob.wide_length] at hc4 ⊢
      clear hb1 hb2 hb3 hb4 hsa4 came12 HO kc1 kc2 hbw
      go_wp2_with (first | (at_builtin; refine wpList_app_upon _ rfl (.tmp 70) (.tmp 74) 26 rfl w.heap.size 5 i0 _ 1 1 Try.underlying26 hi0 hz0 hz1 hz2 came4 hsz hl4 (bytesV_one _) hls4 rfl ⟨b4, o4, none⟩ 8 c4 (bytesV (Ob.wide (Dg.ofL bd))) rfl (by simp) ?hcs (bytesV_one _) ?ha ?hb ?_))
      case hcs =>
        intro j u hu
        rw [show (⟨b4, o4, none⟩ : Addr).add j = ⟨b4, o4 + j, none⟩ from by unfold Addr.add; split <;> simp_all]
        exact hcells j u hu
      case ha => simp [maxLen]; omega
      case hb => omega
      intro g o' c' w' hc' hsv hb' hg
      have hpl : (packB s).length = bd.length + 8 := by rw [HPB.out, List.length_append, Ob.wide_length]
      rw [← bytesV_app, ← HPB.out] at hsv
      have hfin := hb5.trans hb'
      go_wp2_with fail
      go_ret
      refine ⟨some ⟨g, o', none⟩, c', ret_eq (by rw [hpl]; rfl), by rw [hpl]; exact hc', SA.of_high (lo := w.heap.size) hsv (fun ad e => by injection e with e; subst e; exact hg) (fun b hb => hb), hfin⟩
end Go.Proofs.Ytiilhnfdlpgllaa
namespace Go.Proofs.Ytiilhnfdlpgllaa
open Go.RowKit Go.V
set_option linter.unusedVariables false

theorem stV_nil (w : World) (X : Nat → Prop) : StV w X none [] := ⟨[], SA.nil, rfl⟩
set_option maxRecDepth 100000 in
set_option maxHeartbeats 8000000 in
theorem example_any (w : World) : Calls Try.prog 14 #[] w fun e w' => e = .returned (.bool true) ∧ Below w.heap.size w w' := by
  have HB := Lib.hid (build_all w none 0 [] (stV_nil w Free) (by simp))
  go_enter Try.func14, Try.ntmps14
  go_wp2_with fail
  go_at_call 15
  refine HB.out.mono ?_
  rintro e w1 ⟨hb1, hres⟩
  have hz : Ob.stF [] = (0, 0) := by unfold Ob.stF; rw [if_neg (by simp)]; exact Ob.stFrom_end [] 0 (Nat.le_refl _)
  have hp : packB [] = [80, 75, 0] ++ Ob.wide (Dg.ofL (body [])) := rfl
  have hpl : (packB []).length = 11 := by rw [hp]; simp
  rcases hres with ⟨hne, _⟩ | ⟨_, hbig, _⟩ | ⟨_, _, A, c, rfl, hc, hs⟩
  · rw [hz] at hne; exact absurd rfl hne
  · rw [hpl] at hbig; omega
  have hs2 := hs.keep (Keeps.alloc _ _ (.cells #[.int .i64 0, .int .i64 0] 28))
  obtain ⟨b, off, e, hb, _, hcells⟩ := hs2.at_ (by simp [hpl])
  subst e
  have q0 := hcells 0 (.int .u8 80) (by rw [hp]; rfl)
  have q1 := hcells 1 (.int .u8 75) (by rw [hp]; rfl)
  have q2 := hcells 2 (.int .u8 0) (by rw [hp]; rfl)
  rw [Nat.add_zero] at q0
  rw [hpl] at hc ⊢
  clear hs hs2 hcells
  go_wp2_with fail
  go_ret
  exact ⟨rfl, hb1.alloc hb1.size _⟩
end Go.Proofs.Ytiilhnfdlpgllaa
