/-
  PackIndexCovers: the law's walk.
-/
import Derived.Test.YtiilhnfdlpgllaaPk12
import Derived.Test.YtiilhnfdlpgllaaPk21
import Derived.Deep.RegionHeld3
namespace Go.Proofs.Ytiilhnfdlpgllaa
open Go.RowKit Go.V
set_option linter.unusedVariables false

/-- One entry of an index as three cells. -/
def PeR (e : PE) (cs : List Value) : Prop := cs = [.int .i64 e.dig, .int .i64 e.off, .int .i64 e.len]
theorem PeR.len (e : PE) (cs : List Value) (h : PeR e cs) : cs.length = 3 := by rw [h]; rfl
theorem ix_rows : ∀ ix : List PE, RowsR PeR ix (ixV ix)
  | [] => rfl
  | e :: l => ⟨[.int .i64 e.dig, .int .i64 e.off, .int .i64 e.len], ixV l, rfl, rfl, ix_rows l⟩
theorem ixL_length (s : List Ob.S) (i : Nat) : (ixL s i).length = i := by simp [ixL]
theorem ixL_row {w : World} {X : Nat → Prop} {A : Option Addr} {s : List Ob.S} (h : SA w X A (ixV (ixL s s.length))) (i : Nat) (hi : i < s.length) : ∃ b off, A = some ⟨b, off, none⟩ ∧ b < w.heap.size ∧
    w.cell? ⟨b, off + i * 3, none⟩ = some (.int .i64 ((Ob.dig (Ob.it s i).ob : Nat) : Int)) ∧ w.cell? ⟨b, off + i * 3 + 1, none⟩ = some (.int .i64 ((3 + (ents s i).length : Nat) : Int)) ∧ w.cell? ⟨b, off + i * 3 + 2, none⟩ = some (.int .i64 (((Ob.ent (Ob.it s i).ob).length : Nat) : Int)) := by
  obtain ⟨b, off, cs, e, hb, _, hr, hc⟩ := SA.row PeR.len (by omega) h (ix_rows _) i (by rw [ixL_length]; exact hi)
  have hg : (ixL s s.length)[i]'(by rw [ixL_length]; exact hi) = ⟨Ob.dig (Ob.it s i).ob, 3 + (ents s i).length, (Ob.ent (Ob.it s i).ob).length⟩ := by simp [ixL]
  rw [hg] at hr
  unfold PeR at hr
  subst hr
  exact ⟨b, off, e, hb, hc 0 _ rfl, hc 1 _ rfl, hc 2 _ rfl⟩
set_option maxRecDepth 100000 in
set_option maxHeartbeats 4000000 in
theorem law5_any (w : World) (A : Option Addr) (k : Nat) (s : List Ob.S) (hv : StV w Free A s) (hl64 : s.length ≤ 9223372036854775807) :
    Calls Try.prog 5 #[stV A s.length k] w fun e w' => e = .returned (.bool true) ∧ Below w.heap.size w w' := by
  have HC15 := Lib.hid (fun (w1 : World) (hb : Below w.heap.size w w1) => build_all w1 A k s (hv.keep (free_below hb)) hl64)
  have HV := Lib.hid (fun (w1 : World) (hb : Below w.heap.size w w1) => hv.keep (free_below hb))
  have hb0 : Below w.heap.size w w := Below.refl _ _
  clear hv
  go_enter Try.func5, Try.ntmps5
  have bx := Blk.new w 24 #[.slice A s.length k]
  have wB0a0 := hb0.alloc hb0.size (.cells #[.slice A s.length k] 24)
  go_wp2_with fail
  go_at_call 14
  refine (example_any _).mono ?_
  rintro e w1 ⟨rfl, hb1'⟩
  have wB1 := wB0a0.trans (hb1'.mono wB0a0.size)
  replace bx := bx.below hb1' bx.lt
  have bx_l : w.heap.size < w1.heap.size := bx.lt
  have bx_l2 : w.heap.size < w1.heap.size + 1 + 1 := Nat.lt_succ_of_lt (Nat.lt_succ_of_lt bx_l)
  have bx_0 : w1.cell? ⟨w.heap.size, 0, none⟩ = some (.slice A s.length k) := (bx.cell 0).trans rfl
  clear hb1'
  go_wp2_with fail
  go_at_call 15
  refine (HC15.out _ wB1).mono ?_
  rintro e w2 ⟨hb2', hres⟩
  have wB2 := wB1.trans (hb2'.mono wB1.size)
  replace bx := bx.below hb2' bx.lt
  clear bx_0 bx_l bx_l2
  have bx_l : w.heap.size < w2.heap.size := bx.lt
  have bx_l2 : w.heap.size < w2.heap.size + 1 + 1 := Nat.lt_succ_of_lt (Nat.lt_succ_of_lt bx_l)
  have bx_0 : w2.cell? ⟨w.heap.size, 0, none⟩ = some (.slice A s.length k) := (bx.cell 0).trans rfl
  clear hb2'
  rcases hres with ⟨hne, rfl⟩ | ⟨hok, hbig, rfl⟩ | ⟨hok, hsm, A2, c2, rfl, hc2, hs2⟩
  · have hx1 : ((Ob.stF s).1 == 0) = false := by simpa using hne
    have hx2 : ((Ob.stF s).1 != 0) = true := by simpa using hne
    clear HC15 hne
    generalize Ob.stF s = r at *
    obtain ⟨cd, ix⟩ := r
    simp only at hx1 hx2 ⊢
    replace bx := bx.alloc (.cells #[.int .i64 cd, .int .i64 ix] 28)
    have f := Blk.new w2 28 #[.int .i64 cd, .int .i64 ix]
    have wB2a0 := wB2.alloc wB2.size (.cells #[.int .i64 cd, .int .i64 ix] 28)
    go_wp2_with fail
    go_ret
    exact ⟨by simp, wB2a0⟩
  · clear HC15 hok hbig
    replace bx := bx.alloc (.cells #[.int .i64 10, .int .i64 (-1)] 28)
    have f := Blk.new w2 28 #[.int .i64 10, .int .i64 (-1)]
    have wB2a0 := wB2.alloc wB2.size (.cells #[.int .i64 10, .int .i64 (-1)] 28)
    go_wp2_with fail
    go_ret
    exact ⟨by simp, wB2a0⟩
  · have HRF := readF_pack hok hsm
    have H21 : Hid (∀ w1 : World, SA w1 Free A2 (bytesV (packB s)) → Calls Try.prog 21 #[.slice A2 (packB s).length c2] w1 fun e w' => ∃ A3 c3, e = .returned (.tuple #[.slice A3 s.length c3, .agg #[.int .i64 0, .int .i64 0]]) ∧ s.length ≤ s.length ∧ SA w' Free A3 (ixV (ixL s s.length)) ∧ Below w1.heap.size w1 w') := Lib.hid fun w1 h => (Index_any w1 A2 _ c2 (packB s) h rfl hc2).mono fun e w' h2 => by
      unfold IxPost at h2
      rw [HRF] at h2
      obtain ⟨A3, c3, e1, h3, h4⟩ := h2
      rw [ixL_length] at e1
      exact ⟨A3, c3, e1, Nat.le_refl _, h3.keep ((Keeps.refl _ _).into fun _ h => h.elim), h4⟩
    have HS := Lib.hid (hs2.mono (X' := Free) (fun _ h => h.elim))
    have hsl := hok.len
    have HEQ := Lib.hid hok.eq
    have HOK := Lib.hid hok.ok
    have HPL := Lib.hid (show (packB s).length = 3 + (ents s s.length).length + 8 by rw [packB_length]; unfold body hd3; simp; omega)
    have HEL := Lib.hid (ents_le s hok.ok)
    have HES := Lib.hid (fun i hi => by have h := congrArg List.length (ents_succ s i hi); rwa [List.length_append] at h)
    clear HC15 hok hs2 HRF
    generalize packB s = pb at *
    have q0 : Below (w2).heap.size (w2) (w2) := Below.refl _ _
    replace bx := bx.alloc (.cells #[.int .i64 0, .int .i64 0] 28)
    have f := Blk.new w2 28 #[.int .i64 0, .int .i64 0]
    have wB2a0 := wB2.alloc wB2.size (.cells #[.int .i64 0, .int .i64 0] 28)
    have q0B2a0 := q0.alloc q0.size (.cells #[.int .i64 0, .int .i64 0] 28)
    go_wp2_with fail
    go_at_call 21
    refine (H21.out _ (HS.out.keep (free_below q0B2a0))).mono ?_
    rintro e w3 ⟨A3, c3, rfl, _, hst, hb3'⟩
    have HST := Lib.hid hst
    clear hst
    have wB3 := wB2a0.trans (hb3'.mono wB2a0.size)
    have q0B3 := q0B2a0.trans (hb3'.mono q0B2a0.size)
    replace bx := bx.below hb3' bx.lt
    replace f := f.below hb3' f.lt
    clear bx_0 bx_l bx_l2
    have bx_l : w.heap.size < w3.heap.size := bx.lt
    have bx_l2 : w.heap.size < w3.heap.size + 1 + 1 := Nat.lt_succ_of_lt (Nat.lt_succ_of_lt bx_l)
    have bx_0 : w3.cell? ⟨w.heap.size, 0, none⟩ = some (.slice A s.length k) := (bx.cell 0).trans rfl
    have f_l : w2.heap.size < w3.heap.size := f.lt
    have f_l2 : w2.heap.size < w3.heap.size + 1 + 1 := Nat.lt_succ_of_lt (Nat.lt_succ_of_lt f_l)
    have f_0 : w3.cell? ⟨w2.heap.size, 0, none⟩ = some (.int .i64 0) := (f.cell 0).trans rfl
    have f_1 : w3.cell? ⟨w2.heap.size, 1, none⟩ = some (.int .i64 0) := (f.cell 1).trans rfl
    clear hb3'
    have HB0 := Lib.hid (wB3.alloc wB3.size (.cells #[.int .i64 0, .int .i64 0] 28))
    have hbx := bx.alloc (.cells #[.int .i64 0, .int .i64 0] 28)
    have HSI := Lib.hid (HST.out.keep (free_below (below_alloc1 w3 (.cells #[.int .i64 0, .int .i64 0] 28))))
    have hbx0 := (hbx.cell 0).trans (rfl : _ = some (Value.slice A s.length k))
    have hbxl := hbx.lt
    have HBX := Lib.hid hbx
    clear bx_0 bx_l bx_l2 f_0 f_1 f_l f_l2 f H21 HST bx hbx
    go_wp2_with fail
    generalize hww : w3.alloc (.cells #[.int .i64 0, .int .i64 0] 28) = wl at *
    clear hww
    go_loopw [7, 8] (fun av iv wr => ∃ i : Nat, i ≤ s.length ∧ iv = .int .i64 i ∧ av = .int .i64 ((3 + (ents s i).length : Nat) : Int) ∧ Below wl.heap.size wl wr) (fun _ iv _ => s.length - (intOf iv).toNat)
    case atStart => exact ⟨0, Nat.zero_le _, rfl, rfl, Below.refl _ _⟩
    case round =>
      obtain ⟨i, hi, rfl, rfl, hbr⟩ := hrel
      obtain ⟨wo, rfl⟩ : ∃ wo : World, wo = wr := ⟨_, rfl⟩
      have bx := HBX.out.below hbr HBX.out.lt
      have b0 := HB0.out.trans (hbr.mono HB0.out.size)
      have hlen := HEL.out i hi
      have hlen2 : i * 1244 ≤ 40 * 1244 := Nat.mul_le_mul_right _ (by omega)
      by_cases hlt : i < s.length
      · have hlt' : (i : Int) < s.length := by omega
        obtain ⟨ba, off, Al, kl, Ad, kd, e, hb, _, d0, d1, d2, d3, hx, hob⟩ := (HV.out _ b0).row i hlt
        subst e
        obtain ⟨bi, oi, e, hbi, i0, i1, i2⟩ := ixL_row (HSI.out.keep (free_below hbr)) i hlt
        subst e
        have heq := HEQ.out i hlt
        have hok := HOK.out i hlt
        have hln := hok.ln
        have hdn := hok.dn
        have HNX := Lib.hid (HES.out i hlt)
        have hel := Ob.ent_length (Ob.it s i).ob
        rw [← heq] at i0
        rw [hel] at i2 HNX
        clear hok heq hel hob HEQ HOK HES HEL HSI HV HS
        generalize Ob.it s i = x at *
        obtain ⟨xd, kk, ls, da⟩ := x
        simp only at *
        obtain ⟨at_, hat⟩ : ∃ at_, at_ = (ents s i).length := ⟨_, rfl⟩
        rw [← hat] at i1 HNX hlen ⊢
        clear hat
        generalize hll : ls.length = ln at *
        generalize hdd : da.length = dn at *
        clear hll hdd
        have e1 : ((4 + 8 * ln + dn : Nat) : Int) = 4 + 8 * (ln : Int) + dn := by omega
        have e2 : ((3 + at_ : Nat) : Int) = 3 + (at_ : Int) := by omega
        rw [e1] at i2
        rw [e2] at i1 ⊢
        have HA : Hid ((3 + (at_ : Int)) + (4 + 8 * (ln : Int) + dn) = ((3 + (ents s (i + 1)).length : Nat) : Int)) := Lib.hid (by rw [HNX.out]; omega)
        clear e1 e2 HNX
        have q1 := (bx.cell 0).trans (rfl : _ = some (Value.slice (some ⟨ba, off, none⟩) s.length k))
        have q2 := bx.lt
        have hp0 : (0 : Int) ≤ i := by omega
        go_wp2_with fail
        go_quiet (fail)
        go_wp2_with fail
        go_roundw
        case rel => exact ⟨i + 1, by omega, by go_num, by rw [← HA.out], below_drewN (hbr.alloc hbr.size _) _⟩
        case measure => simp [intOf]; omega
      · obtain rfl : i = s.length := by omega
        have hge : ¬ (s.length : Int) < s.length := by omega
        obtain ⟨n, hn⟩ : ∃ n, n = pb.length := ⟨_, rfl⟩
        have HP := HPL.out
        rw [← hn] at HP ⊢
        generalize (ents s s.length).length = q at *
        have hpe : (((3 + q : Nat) : Int) + 8 == (n : Int)) = true := by simp; omega
        have hpe2 : ((3 + q : Nat) : Int) = 3 + (q : Int) := by omega
        rw [hpe2] at hpe ⊢
        clear hpe2 hn HP
        go_wp2_with fail
        go_ret
        exact ⟨rfl, b0⟩
end Go.Proofs.Ytiilhnfdlpgllaa
