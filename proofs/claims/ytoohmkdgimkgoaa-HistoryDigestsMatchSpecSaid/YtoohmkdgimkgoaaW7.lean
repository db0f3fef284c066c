/-
  Histories: walk of 'Order', where the history is valid.
-/
import Derived.Test.YtoohmkdgimkgoaaW6
import Derived.Test.YtoohmkdgimkgoaaView6
namespace Go.Proofs.Ytoohmkdgimkgoaa
open Go.RowKit Go.V
set_option linter.unusedVariables false

/-- A row below the appended one is kept. -/
theorem blk_app {wr w' : World} {base : Nat} {e t : TypeId} {size n g : Nat} {v : Value} {xs : List Value} {cs : Array Value} (hown : wr.ownsRow base e size v n xs) (o : Obj) (hg : (wr.alloc o).grownBy w' v.ownBlock) (hb : Blk wr g t cs) (hgb : g < base) : Blk w' g t cs :=
  (hb.alloc o).grown hg (fun e => by have := (hown.lt g e.symm).1; omega)
/-- Numbers and no fault. -/
def IntsPost (w : World) (xs : List Int) (e : Ending) (w' : World) : Prop := ∃ A c, e = .returned (.tuple #[.slice A xs.length c, .agg #[.int .i64 0, .int .i64 0]]) ∧ xs.length ≤ c ∧ IV w' A xs ∧ Below w.heap.size w w'

/-- Between the rounds of Order. -/
structure OrdSt (w wr : World) (l : List Hs.Cm) (base g m : Nat) (Ao : Option Addr) (co : Nat) : Prop where
  own : wr.ownsRow base 3 1 (.slice Ao m co) m (intsV (Hs.ints (Hs.ordOut l m)))
  left : Blk wr g 3 (intsA (tab l.length (Hs.ordL l m)))
  res : Blk wr w.heap.size 26 #[.int .i64 0, .int .i64 0]
  lt : g < base
  lo : w.heap.size < g
  hi : base ≤ wr.heap.size
  bel : Below w.heap.size w wr
/-- Within a round: the best one is known. -/
structure OrdMid (w wr : World) (l : List Hs.Cm) (base g m b j : Nat) (Ao : Option Addr) (co : Nat) : Prop where
  own : wr.ownsRow base 3 1 (.slice Ao m co) m (intsV (Hs.ints (Hs.ordOut l m)))
  left : Blk wr g 3 (intsA (tab l.length (Hs.decdIn l (Hs.ordL l m) b j)))
  res : Blk wr w.heap.size 26 #[.int .i64 0, .int .i64 0]
  lt : g < base
  lo : w.heap.size < g
  hi : base ≤ wr.heap.size
  bel : Below w.heap.size w wr
theorem OrdSt.drewN {w wr : World} {l : List Hs.Cm} {base g m : Nat} {Ao : Option Addr} {co : Nat} (h : OrdSt w wr l base g m Ao co) (n : Nat) : OrdSt w (wr.drewN n) l base g m Ao co :=
  ⟨h.own, h.left, h.res, h.lt, h.lo, h.hi, below_drewN h.bel n⟩
theorem own_far {w : World} {base : Nat} {e : TypeId} {size n : Nat} {v : Value} {xs : List Value} (h : w.ownsRow base e size v n xs) {p : Addr} (hp : p.block < base) (u : Value) : (w.setCell p u).ownsRow base e size v n xs :=
  own_setCell h (fun e => by have := (h.lt p.block e.symm).1; omega) u
theorem OrdSt.mid {w wr : World} {l : List Hs.Cm} {base g m b : Nat} {Ao : Option Addr} {co : Nat} (h : OrdSt w wr l base g m Ao co) :
    OrdMid w (wr.setCell ⟨g, b, none⟩ (.int .i64 (-1))) l base g m b 0 Ao co :=
  ⟨own_far h.own h.lt _, blk_tab_set h.left b (-1) (fun j _ => by rw [Hs.decdIn_zero]), h.res.far (by have := h.lo; simp; omega) _, h.lt, h.lo, by simpa [World.setCell] using h.hi, h.bel.setCell (by have := h.lo; simp; omega) _⟩
theorem OrdMid.step {w wr : World} {l : List Hs.Cm} {base g m b j p : Nat} {x : Int} {Ao : Option Addr} {co : Nat} (h : OrdMid w wr l base g m b j Ao co) (hj : j < (Hs.pars l b).length) (hp : (Hs.pars l b)[j] = p) (hx : x = Hs.decdIn l (Hs.ordL l m) b j p - 1) :
    OrdMid w (wr.setCell ⟨g, p, none⟩ (.int .i64 x)) l base g m b (j + 1) Ao co :=
  ⟨own_far h.own h.lt _, blk_tab_set h.left p x (fun q _ => by
    rw [Hs.decdIn_succ l _ b j q hj, hp, hx]
    by_cases e : q = p
    · subst e; simp
    · simp [e]), h.res.far (by have := h.lo; simp; omega) _, h.lt, h.lo, by simpa [World.setCell] using h.hi, h.bel.setCell (by have := h.lo; simp; omega) _⟩
theorem OrdMid.done {w wr w' : World} {l : List Hs.Cm} {base g m b j c' : Nat} {Ao A' : Option Addr} {co : Nat} (h : OrdMid w wr l base g m b j Ao co) (hj : (Hs.pars l b).length ≤ j) (hb : Hs.pick l (Hs.ordL l m) l.length = b) (o : Obj)
    (hg : (wr.alloc o).grownBy w' (Value.slice Ao m co).ownBlock) (hown : w'.ownsRow base 3 1 (.slice A' (m + 1) c') (m + 1) (intsV (Hs.ints (Hs.ordOut l m)) ++ [.int .i64 b])) : OrdSt w w' l base g (m + 1) A' c' := by
  have hsz := hg.size
  refine ⟨?_, ?_, blk_app h.own o hg h.res (by have := h.lt; have := h.lo; omega), h.lt, h.lo, by have := h.hi; simp at hsz; omega, below_append (h.bel.alloc h.bel.size o) (h.own.alloc o) hg (by have := h.lt; have := h.lo; omega) (by have := h.hi; simp; omega)⟩
  · rw [Hs.ordOut_succ' l m b hb, Hs.ints_append, intsV_append]
    exact hown
  · rw [Hs.ordL_succ l m b hb, ← Hs.decdIn_all l _ b j hj]
    exact blk_app h.own o hg h.left h.lt

set_option maxRecDepth 100000 in
set_option maxHeartbeats 8000000 in
theorem order_ok (w : World) (A : Option Addr) (k : Nat) (l : List Hs.Cm) (hv : CV w A l) (hok : Hs.Ok l) :
    Calls Try.prog 25 #[.slice A l.length k] w (IntsPost w (Hs.ints (Hs.order l))) := by
  obtain ⟨i0, hi0, hz0, hz1, hz2⟩ := info_parts info3
  have hl := hok.len
  have HC := Lib.hid (fun w1 h => validate_any w1 A k l h (by omega))
  have HC2 := Lib.hid (fun w1 h => children_any w1 A k l h hok)
  have HV := Lib.hid (Hs.validate_of_ok hok)
  go_enter Try.func25, Try.ntmps25
  go_wp2_with fail
  go_at_call 20
  refine (HC.out _ (hv.alloc _)).mono ?_
  rw [HV.out]
  rintro e w1 ⟨rfl, hb1⟩
  have hblk := (Blk.new w 26 #[.int .i64 0, .int .i64 0]).below hb1 (by simp)
  have hbel := (below_alloc1 w (.cells #[.int .i64 0, .int .i64 0] 26)).trans (hb1.mono (by simp))
  have hsz := hbel.size
  have hlt := hblk.lt
  clear hb1 HC HV
  go_wp2_with fail
  go_at_call 53
  have hbel1 := hbel.alloc hsz (.cells #[.int .i64 0, .int .i64 0] 26)
  refine (HC2.out _ (hv.below hbel1)).mono ?_
  rintro e w2 ⟨g, rfl, hg1, hleft, hb2⟩
  have hbel2 := hbel1.trans (hb2.mono hbel1.size)
  have hblk2 := (hblk.alloc (.cells #[.int .i64 0, .int .i64 0] 26)).below hb2 (by simp; omega)
  have st0 : OrdSt w w2 l w2.heap.size g 0 none 0 := ⟨World.ownsRow_nil _ _ _ _, hleft, hblk2, hleft.lt, by simp at hg1; omega, Nat.le_refl _, hbel2⟩
  clear hbel hsz hlt hbel1 hg1 hleft hb2 hbel2 hblk2 HC2 hblk
  go_wp2_with fail
  go_loopw [6, 22] (fun ov mv wr => ∃ (m : Nat) (Ao : Option Addr) (co : Nat), m ≤ l.length ∧ ov = .slice Ao m co ∧ mv = .int .i64 m ∧ OrdSt w wr l w2.heap.size g m Ao co) (fun _ mv _ => l.length - (intOf mv).toNat)
  case atStart => exact ⟨0, none, 0, Nat.zero_le _, rfl, rfl, st0⟩
  case round =>
    obtain ⟨m, Ao, co, hm, rfl, rfl, st⟩ := hrel
    obtain ⟨wo, rfl⟩ : ∃ wo : World, wo = wr := ⟨_, rfl⟩
    clear st0
    by_cases hml : m < l.length
    · have hml' : (m : Int) < l.length := by omega
      go_wp2_with fail
      go_loopw [7, 26] (fun bv iv wr => ∃ (i n : Nat) (b : Int), i ≤ l.length ∧ iv = .int .i64 i ∧ bv = .int .i64 b ∧ -1 ≤ b ∧ b < i ∧ Hid (Hs.pick l (Hs.ordL l m) i = b) ∧ wr = wo.drewN n) (fun _ iv _ => l.length - (intOf iv).toNat)
      case atStart => exact ⟨0, 0, -1, Nat.zero_le _, rfl, rfl, by omega, by omega, rfl, rfl⟩
      case round =>
        obtain ⟨i, n, b, hi, rfl, rfl, hb1, hb2, HB, rfl⟩ := hrel
        by_cases hil : i < l.length
        · have hil' : (i : Int) < l.length := by omega
          have hcl := blk_tab st.left i hil
          have hbl := hok.ordL_bd m i hm hil
          obtain ⟨b1, off, Ap, kp, e, hb, c0, c1, c2, c3, c4, hok', hip⟩ := hv.rowIn st.bel i hil
          subst e
          have HT := Lib.hid (Hs.tmOf_eq l i hil)
          clear c0 c1 c3 c4 hok' hip
          by_cases h0 : Hs.ordL l m i = 0
          · have H0 := Lib.hid h0
            have h0' : (Hs.ordL l m i == 0) = true := by simpa using h0
            by_cases hbn : b < 0
            · have H2 := Lib.hid (Hs.pick_first l _ i H0.out (by rw [HB.out]; exact hbn))
              have hbn' : decide (b < 0) = true := by simpa using hbn
              rw [h0] at hcl
              clear h0 h0'
              go_wp2_with fail
              go_quiet (fail)
              go_wp2_with fail
              go_roundw
              case rel => exact ⟨i + 1, _, i, by omega, by go_num, rfl, by omega, by omega, H2, rfl⟩
              case measure => simp [intOf]; omega
            · obtain ⟨bn, rfl⟩ : ∃ bn : Nat, b = bn := ⟨b.toNat, by omega⟩
              have hbn' : decide ((bn : Int) < 0) = false := by simp
              obtain ⟨b1', off', Ap', kp', e', hb', d0, d1, d2, d3, d4, _, _⟩ := hv.rowIn st.bel bn (by omega)
              injection e' with e'
              injection e' with e1 e2
              subst e1 e2
              have HT2 := Lib.hid (Hs.tmOf_eq l bn (by omega))
              have hbnl : (bn : Int) < l.length := by omega
              have t1 := (hok.data i hil)
              have t2 := (hok.data bn (by omega))
              clear d0 d1 d3 d4
              rw [← HT.out] at c2
              rw [← HT2.out] at d2
              rw [h0] at hcl
              clear h0 h0'
              by_cases ht : Hs.tmOf l bn ≤ Hs.tmOf l i
              · have H2 := Lib.hid (Hs.pick_new l _ i H0.out bn HB.out ht)
                have ht' : decide (Hs.tmOf l bn ≤ Hs.tmOf l i) = true := by simpa using ht
                clear ht
                go_wp2_with fail
                go_quiet (fail)
                go_wp2_with fail
                go_roundw
                case rel => exact ⟨i + 1, _, i, by omega, by go_num, rfl, by omega, by omega, H2, rfl⟩
                case measure => simp [intOf]; omega
              · have H2 := Lib.hid (Hs.pick_old l _ i bn HB.out (by omega))
                have ht' : decide (Hs.tmOf l bn ≤ Hs.tmOf l i) = false := by simpa using ht
                clear ht
                go_wp2_with fail
                go_quiet (fail)
                go_wp2_with fail
                go_roundw
                case rel => exact ⟨i + 1, _, bn, by omega, by go_num, rfl, by omega, by omega, H2, rfl⟩
                case measure => simp [intOf]; omega
          · have H2 := Lib.hid ((Hs.pick_no l _ i h0).trans HB.out)
            have h0' : (Hs.ordL l m i == 0) = false := by simpa using h0
            clear h0
            generalize Hs.ordL l m i = lv at *
            go_wp2_with fail
            go_quiet (fail)
            go_wp2_with fail
            go_roundw
            case rel => exact ⟨i + 1, _, b, by omega, by go_num, rfl, by omega, by omega, H2, rfl⟩
            case measure => simp [intOf]; omega
        · obtain rfl : i = l.length := by omega
          obtain ⟨bn, hbn, hbl⟩ := hok.pick_nat m hml
          obtain rfl : b = bn := HB.out.symm.trans hbn
          have HBN := Lib.hid hbn
          clear hbn HB hb1 hb2
          have hbl' : (bn : Int) < l.length := by omega
          have stn := (st.drewN n)
          have stm := stn.mid (b := bn)
          have hcb := blk_tab st.left bn hbl
          have hfb := st.left.frozen bn
          obtain ⟨b1, off, Ap, kp, e, hb, c0, c1, c2, c3, c4, hok', hip⟩ := hv.rowIn stm.bel bn hbl
          subst e
          have HP := Lib.hid (hok.par_nat bn · hbl)
          have HPL := Lib.hid (Hs.pars_length l bn hbl)
          have hpl := hok.par_len bn hbl
          clear c1 c2 c3 c4 hok'
          generalize l[bn] = c at *
          go_wp2_with fail
          go_loopw [61] (fun v wr => ∃ j : Nat, j ≤ c.par.length ∧ v = .int .i64 j ∧ OrdMid w wr l w2.heap.size g m bn j Ao co) (fun v _ => c.par.length - (intOf v).toNat)
          case atStart => exact ⟨0, Nat.zero_le _, rfl, stm⟩
          case round =>
            obtain ⟨j, hj, rfl, st2⟩ := hrel
            obtain ⟨w3, rfl⟩ : ∃ w3 : World, w3 = wr := ⟨_, rfl⟩
            clear stm stn
            by_cases hjl : j < c.par.length
            · obtain ⟨b', off', e', hb', hc'⟩ := hip.atIn st2.bel j hjl
              subst e'
              obtain ⟨p, hp, hpi, hj', hpe⟩ := HP.out j hjl
              rw [hp] at hc'
              have hcp := blk_tab st2.left p (by omega)
              have hfp := st2.left.frozen p
              have hbd := hok.decdIn_bd m bn j p hm (by omega) hbl
              have hpn : (p : Int) < l.length := by omega
              have hst := st2.step (x := Hs.decdIn l (Hs.ordL l m) bn j p - 1) hj' hpe rfl
              clear hp hpe
              generalize Hs.decdIn l (Hs.ordL l m) bn j p = cv at *
              go_wp2_with fail
              go_roundw
              case rel => exact ⟨j + 1, by omega, by go_num, hst⟩
              case measure => simp [intOf]; omega
            · obtain rfl : j = c.par.length := by omega
              have hsz3 := st2.bel.size
              have hhi := st2.hi
              go_wp2_with (first | (at_builtin; refine wpList_app1 _ rfl (.tmp 72) (.tmp 74) 37 rfl w2.heap.size 3 i0 (.int .i64 0) 8 Try.underlying37 hi0 hz0 hz1 hz2 rfl Ao m co _ rfl (st2.own.alloc _) w3.heap.size _ (.int .i64 bn) rfl (by simp [World.cell?_alloc_new]) rfl ?ha ?hb ?hc ?_))
              case ha => simp [maxLen]; omega
              case hb => omega
              case hc => simp; omega
              intro A' c' w4 hown4 hg4 _
              have st4 := st2.done (by rw [HPL.out]; exact Nat.le_refl _) HBN.out _ hg4 hown4
              clear hown4 hg4
              go_wp2_with fail
              go_roundw
              case rel => exact ⟨m + 1, _, _, by omega, rfl, by go_num, st4⟩
              case measure => simp [intOf]; omega
    · obtain rfl : m = l.length := by omega
      have hc0 := st.res.cell 0
      have hc1 := st.res.cell 1
      have hf0 := st.res.frozen 0
      have hf1 := st.res.frozen 1
      have hlt := st.res.lt
      simp only [List.getElem?_toArray, List.getElem?_cons_zero, List.getElem?_cons_succ] at hc0 hc1
      go_wp2_with fail
      refine bodyPost_ret (results_tc rfl _ _ w.heap.size (.int .i64 0) (.int .i64 0) rfl (blk_put26 st.res _ _)) rfl ?_
      obtain ⟨A', c', e1, hcc, _⟩ := own_form st.own
      injection e1 with _ _ e3
      subst e3
      have hlen : (Hs.ints (Hs.order l)).length = l.length := by simp [Hs.order]
      refine ⟨Ao, co, by rw [hlen]; rfl, by rw [hlen]; exact hcc, ?_, (st.bel.setCell (by simp) _).setCell (by simp) _⟩
      have h1 := st.lt
      have h2 := st.lo
      have := SV.of_own (own_far (own_far st.own (p := ⟨w.heap.size, 0, none⟩) (by simp; omega) (.int .i64 0)) (p := ⟨w.heap.size, 1, none⟩) (by simp; omega) (.int .i64 0))
      exact this
end Go.Proofs.Ytoohmkdgimkgoaa
