/-
  Histories: walk of 'children'.
-/
import Derived.Test.YtoohmkdgimkgoaaW4
namespace Go.Proofs.Ytoohmkdgimkgoaa
open Go.RowKit Go.V
set_option linter.unusedVariables false

/-- A slice of numbers that the call has made, as a function of the index. -/
def TabPost (w : World) (n : Nat) (f : Nat → Int) (e : Ending) (w' : World) : Prop :=
  ∃ g, e = .returned (.slice (some ⟨g, 0, none⟩) n n) ∧ w.heap.size ≤ g ∧ Blk w' g 3 (intsA (tab n f)) ∧ Below w.heap.size w w'
structure TabRel (w wr : World) (n : Nat) (f : Nat → Int) : Prop where
  blk : Blk wr w.heap.size 3 (intsA (tab n f))
  bel : Below w.heap.size w wr
theorem TabRel.alloc {w wr : World} {n : Nat} {f : Nat → Int} (h : TabRel w wr n f) (o : Obj) : TabRel w (wr.alloc o) n f := ⟨h.blk.alloc o, h.bel.alloc h.bel.size o⟩
theorem TabRel.set_ {w wr : World} {n : Nat} {f f' : Nat → Int} (h : TabRel w wr n f) (i : Nat) (x : Int) (hf : ∀ j, j < n → f' j = if j = i then x else f j) : TabRel w (wr.setCell ⟨w.heap.size, i, none⟩ (.int .i64 x)) n f' :=
  ⟨blk_tab_set h.blk i x hf, h.bel.setCell (by simp) _⟩

set_option maxRecDepth 100000 in
set_option maxHeartbeats 4000000 in
theorem children_any (w : World) (A : Option Addr) (k : Nat) (l : List Hs.Cm) (hv : CV w A l) (hok : Hs.Ok l) :
    Calls Try.prog 53 #[.slice A l.length k] w (TabPost w l.length (Hs.cnt l l.length)) := by
  have hl := hok.len
  have hmk := run_make_row' (P := Try.prog) 37 3 (.int .i64 0) 8 Try.underlying37 info3 rfl .i64 .i64 l.length (by omega) (by omega)
  go_enter Try.func53, Try.ntmps53
  go_wp2_with fail
  go_loopw [13] (fun v wr => ∃ i : Nat, i ≤ l.length ∧ v = .int .i64 i ∧ TabRel w wr l.length (Hs.cnt l i)) (fun v _ => l.length - (intOf v).toNat)
  case atStart => exact ⟨0, Nat.zero_le _, rfl, blk_made_int _ _ _, below_alloc1 _ _⟩
  case round =>
    obtain ⟨i, hi, rfl, st⟩ := hrel
    obtain ⟨wo, rfl⟩ : ∃ wo : World, wo = wr := ⟨_, rfl⟩
    have hsz := st.bel.size
    have hlt0 := st.blk.lt
    by_cases hlt : i < l.length
    · obtain ⟨b, off, Ap, kp, e, hb, c0, c1, c2, c3, c4, hok', hip⟩ := hv.rowIn st.bel i hlt
      subst e
      have HP := Lib.hid (hok.par_nat i · hlt)
      have HB := Lib.hid (hok.cntIn_le · i · hlt)
      have hpl := hok.par_len i hlt
      have HE := Lib.hid (Hs.cntIn_all l i l[i].par.length (by rw [Hs.pars_length l i hlt]; omega))
      have HS := Lib.hid (Hs.cntIn_succ l i)
      generalize l[i] = c at *
      obtain ⟨p1, p2, p3, p4, p5, p6⟩ := hok'
      have st1 := st.alloc (.cells #[.slice Ap c.par.length kp, .int .i64 c.au, .int .i64 c.tm, .int .i64 c.tr, .string c.msg] 41)
      have hp3 : c.par.length ≤ 9223372036854775807 := p1
      clear p2 p3 p4 p5 p6 p1
      go_wp2_with fail
      go_loopw [20] (fun v wr => ∃ j : Nat, j ≤ c.par.length ∧ v = .int .i64 j ∧ TabRel w wr l.length (Hs.cntIn l i j) ∧ wo.heap.size + 1 ≤ wr.heap.size) (fun v _ => c.par.length - (intOf v).toNat)
      case atStart => exact ⟨0, Nat.zero_le _, rfl, by rw [Hs.cntIn_zero]; exact st1, by simp⟩
      case round =>
        obtain ⟨j, hj, rfl, st2, hsz2⟩ := hrel
        obtain ⟨w2, rfl⟩ : ∃ w2 : World, w2 = wr := ⟨_, rfl⟩
        clear st1
        by_cases hjl : j < c.par.length
        · obtain ⟨b', off', e', hb', hc'⟩ := hip.atIn st2.bel j hjl
          subst e'
          obtain ⟨p, hp, hpi, hj', hpe⟩ := HP.out j hjl
          rw [hp] at hc'
          have hcp := blk_tab st2.blk p (by omega)
          have hfp := st2.blk.frozen p
          have hbd := HB.out p j
          have hpn : (p : Int) < l.length := by omega
          have hst := st2.set_ (f' := Hs.cntIn l i (j + 1)) p (Hs.cntIn l i j p + 1) (fun q hq => by
            rw [HS.out j q hj', hpe]
            by_cases e : q = p
            · subst e; simp
            · simp [e])
          clear hp hpe HP HS
          generalize Hs.cntIn l i j p = cv at *
          go_wp2_with fail
          go_roundw
          case rel => exact ⟨j + 1, by omega, by go_num, hst, by simp; omega⟩
          case measure => simp [intOf]; omega
        · obtain rfl : j = c.par.length := by omega
          rw [HE.out] at st2
          go_wp2_with fail
          go_roundw
          case rel => exact ⟨i + 1, by omega, by go_num, st2⟩
          case measure => simp [intOf]; omega
    · obtain rfl : i = l.length := by omega
      go_wp2_with fail
      go_ret
      exact ⟨_, rfl, Nat.le_refl _, st.blk, st.bel⟩
end Go.Proofs.Ytoohmkdgimkgoaa
