/-
  Text patches: walks of 'End', 'hunk'.
-/
import Derived.Test.YtjfckjonfpkphaaDoorTqV
namespace Go.Proofs.YtjfckjonfpkphaaDoor
open Go.RowKit Go.V Go.Shelf
set_option linter.unusedVariables false

theorem end_any (w : World) (h : Tp.H) (A1 : Option Addr) (k1 : Nat) (A2 : Option Addr) (k2 : Nat) (h0 : 0 ≤ h.pos) (h1 : h.pos ≤ 120) (hl : h.old.length ≤ 120) :
    Calls Tryd.prog 26 #[hkV h A1 k1 A2 k2] w fun e w' => e = .returned (.int .i64 (Tp.en h)) ∧ w.alloc (.cells #[.int .i64 h.pos, .slice A1 h.old.length k1, .slice A2 h.new.length k2] 49) = w' := by
  have hw : IntKind.i64.wrap (h.pos + h.old.length) = h.pos + h.old.length := IntWalk.i64_in _ (by omega)
  have HE := Lib.hid (show Tp.en h = h.pos + h.old.length from rfl)
  obtain ⟨pos, old, new⟩ := h
  simp only at *
  generalize Tp.en _ = q at *
  go_enter Tryd.func26, Tryd.ntmps26
  go_wp2_with fail
  go_ret
  exact ⟨by rw [HE.out]; rfl, rfl⟩
theorem hk_lo {h : Tp.H} {e : Int} (h1 : h.pos < 0 ∨ 120 < h.pos) : Tp.hkC h e = 3 := if_pos h1
/-- What is left behind the range check; behind the check of the old lines; of both. -/
def hk3 (h : Tp.H) (e : Int) : Int := if h.old.length + h.new.length = 0 ∨ h.pos ≤ e then 5 else if 120 < h.pos + h.old.length then 3 else 0
def hk2 (h : Tp.H) (e : Int) : Int := if (Tr.lnF h.new).1 ≠ 0 then (Tr.lnF h.new).1 else hk3 h e
def hk1 (h : Tp.H) (e : Int) : Int := if (Tr.lnF h.old).1 ≠ 0 then (Tr.lnF h.old).1 else hk2 h e
theorem hk_in {h : Tp.H} {e : Int} (h1 : ¬ (h.pos < 0 ∨ 120 < h.pos)) : Tp.hkC h e = hk1 h e := if_neg h1
set_option maxHeartbeats 8000000 in
theorem hunk_any (w : World) (h : Tp.H) (e0 : Int) (A1 : Option Addr) (k1 : Nat) (A2 : Option Addr) (k2 : Nat) (hv : HkA w Free h A1 k1 A2 k2) :
    Calls Tryd.prog 25 #[hkV h A1 k1 A2 k2, .int .i64 e0] w fun e w' => e = .returned (.int .i64 (Tp.hkC h e0)) ∧ Below w.heap.size w w' := by
  have HO := Lib.hid (fun (w1 : World) (hb : Below w.heap.size w w1) => lnValidate_any w1 A1 k1 h.old (hv.o.ls.keep (free_below hb)) (by have := hv.o.ll; omega))
  have HN := Lib.hid (fun (w1 : World) (hb : Below w.heap.size w w1) => lnValidate_any w1 A2 k2 h.new (hv.n.ls.keep (free_below hb)) (by have := hv.n.ll; omega))
  have HE := Lib.hid (fun (w1 : World) h0 h1 hl => end_any w1 h A1 k1 A2 k2 h0 h1 hl)
  have HL := Lib.hid (fun h1 => hk_lo (h := h) (e := e0) h1)
  have HI := Lib.hid (fun h1 => hk_in (h := h) (e := e0) h1)
  have H1 := Lib.hid (hk1.eq_1 h e0)
  have H2 := Lib.hid (hk2.eq_1 h e0)
  have H3 := Lib.hid (hk3.eq_1 h e0)
  have HZO := Lib.hid (fun (hz : (Tr.lnF h.old).1 = 0) => Tr.lnF_ok hz)
  have HZN := Lib.hid (fun (hz : (Tr.lnF h.new).1 = 0) => Tr.lnF_ok hz)
  generalize Tp.hkC h e0 = r at *
  generalize hk1 h e0 = r1 at *
  generalize hk2 h e0 = r2 at *
  generalize hk3 h e0 = r3 at *
  clear hv
  obtain ⟨pos, old, new⟩ := h
  simp only at *
  have HEN := Lib.hid (show Tp.en ⟨pos, old, new⟩ = pos + old.length from rfl)
  have b0 := Blk.new w 49 #[.int .i64 pos, .slice A1 old.length k1, .slice A2 new.length k2]
  have hb0 := below_alloc1 w (.cells #[.int .i64 pos, .slice A1 old.length k1, .slice A2 new.length k2] 49)
  by_cases hn : pos < 0
  · have H := Lib.hid (HL.out (.inl hn))
    clear HL HI H1 H2 H3 HO HN HE HZO HZN HEN
    go_enter Tryd.func25, Tryd.ntmps25
    go_wp2_with fail
    go_ret
    exact ⟨by rw [H.out]; rfl, hb0⟩
  by_cases hg : 120 < pos
  · have H := Lib.hid (HL.out (.inr hg))
    clear HL HI H1 H2 H3 HO HN HE HZO HZN HEN
    go_enter Tryd.func25, Tryd.ntmps25
    go_wp2_with fail
    go_ret
    exact ⟨by rw [H.out]; rfl, hb0⟩
  have H := Lib.hid (HI.out (by omega))
  clear HL HI
  have ix0 : ∀ W, (Instr.index 77 (.agg #[.slice A1 old.length k1, .slice A2 new.length k2]) (.int .i64 0)).run Tryd.prog W = .ok (.slice A1 old.length k1) W := fun _ => by kernel_rfl
  have ix1 : ∀ W, (Instr.index 77 (.agg #[.slice A1 old.length k1, .slice A2 new.length k2]) (.int .i64 1)).run Tryd.prog W = .ok (.slice A2 new.length k2) W := fun _ => by kernel_rfl
  go_enter Tryd.func25, Tryd.ntmps25
  go_wp2_with fail
  go_loopw [21] (fun iv wr => (iv = .int .i64 0 ∧ wr = w.alloc (.cells #[.int .i64 pos, .slice A1 old.length k1, .slice A2 new.length k2] 49) ∨ iv = .int .i64 1 ∧ Hid (r = r2 ∧ Tr.LnOk old) ∨ iv = .int .i64 2 ∧ Hid (r = r3 ∧ Tr.LnOk old ∧ Tr.LnOk new)) ∧ Blk wr w.heap.size 49 #[.int .i64 pos, .slice A1 old.length k1, .slice A2 new.length k2] ∧ Below w.heap.size w wr) (fun iv _ => 2 - (intOf iv).toNat)
  case atStart => exact ⟨.inl ⟨rfl, rfl⟩, b0, hb0⟩
  case round =>
    obtain ⟨hc, br, hbw⟩ := hrel
    rcases hc with ⟨rfl, hwr⟩ | ⟨rfl, HC⟩ | ⟨rfl, HC⟩
    · clear hwr
      obtain ⟨wo, rfl⟩ : ∃ wo : World, wo = wr := ⟨_, rfl⟩
      go_wp2_with fail
      go_at_call 24
      refine (HO.out _ hbw).mono ?_
      rintro e w1 ⟨rfl, hb1⟩
      have br1 := br.below hb1 br.lt
      have hbw1 := hbw.trans (hb1.mono hbw.size)
      clear br hbw hb1
      by_cases hbad : (Tr.lnF old).1 ≠ 0
      · have HQ := Lib.hid (H.out.trans (H1.out.trans (if_pos hbad)))
        have hx1 : ((Tr.lnF old).1 == 0) = false := by simpa using hbad
        have hx2 : ((Tr.lnF old).1 != 0) = true := by simpa using hbad
        clear hbad HZO H H1 H2 H3 HO HN HE HZN HEN
        generalize Tr.lnF old = q at *
        obtain ⟨cd, ix⟩ := q
        simp only at *
        go_wp2_with fail
        go_ret
        exact ⟨by rw [HQ.out]; rfl, hbw1.alloc hbw1.size _⟩
      · have hz := Classical.not_not.1 hbad
        have HQ := Lib.hid (And.intro (H.out.trans (H1.out.trans (if_neg hbad))) (HZO.out hz).2)
        rw [(HZO.out hz).1]
        have br2 := br1.alloc (.cells #[.int .i64 0, .int .i64 0] 29)
        have hbw2 := hbw1.alloc hbw1.size (.cells #[.int .i64 0, .int .i64 0] 29)
        clear hbad HZO H H1 hz br1 hbw1
        go_wp2_with fail
        go_roundw
        case rel => exact ⟨.inr (.inl ⟨rfl, HQ⟩), br2, hbw2⟩
        case measure => simp [intOf]
    · obtain ⟨wo, rfl⟩ : ∃ wo : World, wo = wr := ⟨_, rfl⟩
      go_wp2_with fail
      go_at_call 24
      refine (HN.out _ hbw).mono ?_
      rintro e w1 ⟨rfl, hb1⟩
      have br1 := br.below hb1 br.lt
      have hbw1 := hbw.trans (hb1.mono hbw.size)
      clear br hbw hb1
      by_cases hbad : (Tr.lnF new).1 ≠ 0
      · have HQ := Lib.hid (HC.out.1.trans (H2.out.trans (if_pos hbad)))
        have hx1 : ((Tr.lnF new).1 == 0) = false := by simpa using hbad
        have hx2 : ((Tr.lnF new).1 != 0) = true := by simpa using hbad
        clear hbad HZO H H1 H2 H3 HO HN HE HZN HEN HC
        generalize Tr.lnF new = q at *
        obtain ⟨cd, ix⟩ := q
        simp only at *
        go_wp2_with fail
        go_ret
        exact ⟨by rw [HQ.out]; rfl, hbw1.alloc hbw1.size _⟩
      · have hz := Classical.not_not.1 hbad
        have HQ := Lib.hid (And.intro (HC.out.1.trans (H2.out.trans (if_neg hbad))) (And.intro HC.out.2 (HZN.out hz).2))
        rw [(HZN.out hz).1]
        have br2 := br1.alloc (.cells #[.int .i64 0, .int .i64 0] 29)
        have hbw2 := hbw1.alloc hbw1.size (.cells #[.int .i64 0, .int .i64 0] 29)
        clear hbad HZO H H1 H2 hz br1 hbw1 HC
        go_wp2_with fail
        go_roundw
        case rel => exact ⟨.inr (.inr ⟨rfl, HQ⟩), br2, hbw2⟩
        case measure => simp [intOf]
    · obtain ⟨wo, rfl⟩ : ∃ wo : World, wo = wr := ⟨_, rfl⟩
      have q0 := (br.cell 0).trans rfl
      have q1 := (br.cell 1).trans rfl
      have q2 := (br.cell 2).trans rfl
      have ql := br.lt
      have lo := HC.out.2.1.len
      have ln := HC.out.2.2.len
      have hsum : IntKind.i64.wrap ((old.length : Int) + new.length) = ((old.length + new.length : Nat) : Int) := by rw [IntWalk.i64_in _ (by omega)]; omega
      clear H H1 H2 HO HN HZO HZN
      by_cases hs : old.length + new.length = 0
      · have HQ := Lib.hid (HC.out.1.trans (H3.out.trans (if_pos (.inl hs))))
        have hs1 : (((old.length + new.length : Nat) : Int) == 0) = true := by simp; omega
        clear HC H3 HE
        generalize old.length + new.length = nn at *
        go_wp2_with fail
        go_ret
        exact ⟨by rw [HQ.out]; rfl, hbw⟩
      have hs1 : (((old.length + new.length : Nat) : Int) == 0) = false := by simp; omega
      by_cases hle : pos ≤ e0
      · have HQ := Lib.hid (HC.out.1.trans (H3.out.trans (if_pos (.inr hle))))
        clear HC H3 HE
        generalize old.length + new.length = nn at *
        go_wp2_with fail
        go_ret
        exact ⟨by rw [HQ.out]; rfl, hbw⟩
      have HEE := Lib.hid (HE.out wo (by omega) (by omega) lo)
      have HQ0 := Lib.hid (HC.out.1.trans (H3.out.trans (if_neg (by omega))))
      rw [HEN.out] at HEE
      by_cases htop : 120 < pos + old.length
      · have HQ := Lib.hid (HQ0.out.trans (if_pos htop))
        clear HC H3 HE HQ0
        generalize old.length + new.length = nn at *
        generalize pos + (old.length : Int) = mm at *
        go_wp2_with fail
        go_at_call 26
        refine HEE.out.mono ?_
        rintro e w1 ⟨rfl, rfl⟩
        go_wp2_with fail
        go_ret
        exact ⟨by rw [HQ.out]; rfl, hbw.alloc hbw.size _⟩
      · have HQ := Lib.hid (HQ0.out.trans (if_neg htop))
        clear HC H3 HE HQ0
        generalize old.length + new.length = nn at *
        generalize pos + (old.length : Int) = mm at *
        go_wp2_with fail
        go_at_call 26
        refine HEE.out.mono ?_
        rintro e w1 ⟨rfl, rfl⟩
        go_wp2_with fail
        go_ret
        exact ⟨by rw [HQ.out]; rfl, hbw.alloc hbw.size _⟩
end Go.Proofs.YtjfckjonfpkphaaDoor
