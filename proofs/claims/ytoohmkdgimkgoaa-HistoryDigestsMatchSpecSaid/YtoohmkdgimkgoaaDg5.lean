/-
  Histories: walk of 'Digests'.
-/
import Derived.Test.YtoohmkdgimkgoaaDg4
namespace Go.Proofs.Ytoohmkdgimkgoaa
open Go.RowKit Go.V
set_option linter.unusedVariables false

/-- The bytes of a string, as '[]byte(s)' lays them. -/
theorem sv_bytesRow (w : World) (s : ByteArray) (cap : Nat) (e : TypeId) (fz : Nat × Nat) (g : Nat) (hg : w.heap.size = g) : SV (w.alloc (.cells (bytesRow s cap) e fz)) (w.alloc (.cells (bytesRow s cap) e fz)).heap.size (some ⟨g, 0, none⟩) (bytesV s.data.toList) := by
  subst hg
  refine .inr ⟨w.heap.size, 0, rfl, by simp, fun j u hu => ?_⟩
  rw [Nat.zero_add]
  have h1 : (w.alloc (.cells (bytesRow s cap) e fz)).heap[w.heap.size]? = some (.cells (bytesRow s cap) e fz) := heap_alloc_new w _
  rw [cell_of_row _ _ _ _ _ _ h1]
  unfold bytesV at hu
  have hj : j < s.data.size := by
    have := (List.getElem?_eq_some_iff.1 hu).1
    simpa using this
  unfold bytesRow
  rw [Array.getElem?_append_left (by simpa using hj), Array.getElem?_map]
  rw [List.getElem?_map] at hu
  simpa using hu

structure DigSt (w wr : World) (l : List Hs.Cm) (base i : Nat) (Ao : Option Addr) (co : Nat) : Prop where
  own : wr.ownsRow base 3 1 (.slice Ao i co) i (intsV (Hs.ints (Hs.digL l i)))
  res : Blk wr w.heap.size 26 #[.int .i64 0, .int .i64 0]
  lo : w.heap.size < base
  hi : base ≤ wr.heap.size
  bel : Below w.heap.size w wr
theorem DigSt.below {w wr w' : World} {l : List Hs.Cm} {base i : Nat} {Ao : Option Addr} {co : Nat} (h : DigSt w wr l base i Ao co) (hb : Below wr.heap.size wr w') : DigSt w w' l base i Ao co :=
  ⟨own_below (B := 0) h.own hb, h.res.below hb h.res.lt, h.lo, Nat.le_trans h.hi hb.size, h.bel.trans (hb.mono h.bel.size)⟩
theorem DigSt.app {w wr w' : World} {l : List Hs.Cm} {base i c' : Nat} {Ao A' : Option Addr} {co : Nat} (h : DigSt w wr l base i Ao co) (o : Obj)
    (hg : (wr.alloc o).grownBy w' (Value.slice Ao i co).ownBlock) (hown : w'.ownsRow base 3 1 (.slice A' (i + 1) c') (i + 1) (intsV (Hs.ints (Hs.digL l i)) ++ [.int .i64 ((Hs.digAt l (Hs.digL l i) i : Nat) : Int)])) : DigSt w w' l base (i + 1) A' c' := by
  have hsz := hg.size
  have hlo := h.lo
  have hhi := h.hi
  refine ⟨?_, blk_app h.own o hg h.res hlo, hlo, by simp at hsz; omega, below_append (h.bel.alloc h.bel.size o) (h.own.alloc o) hg (by omega) (by simp; omega)⟩
  have : intsV (Hs.ints (Hs.digL l (i + 1))) = intsV (Hs.ints (Hs.digL l i)) ++ [.int .i64 ((Hs.digAt l (Hs.digL l i) i : Nat) : Int)] := by
    simp only [Hs.digL]; rw [Hs.ints_append, intsV_append]; rfl
  rw [this]
  exact hown

set_option maxRecDepth 100000 in
set_option maxHeartbeats 8000000 in
theorem digests_ok (w : World) (A : Option Addr) (k : Nat) (l : List Hs.Cm) (hv : CV w A l) (hok : Hs.Ok l) :
    Calls Try.prog 47 #[.slice A l.length k] w (IntsPost w (Hs.ints (Hs.digL l l.length))) := by
  obtain ⟨i0, hi0, hz0, hz1, hz2⟩ := info_parts info3
  have hl := hok.len
  have HC := Lib.hid (fun w1 h => validate_any w1 A k l h (by omega))
  have HV := Lib.hid (Hs.validate_of_ok hok)
  have kc := fun (w : World) (s : ByteArray) => run_bytes_of_string (P := Try.prog) w 9 74 5 s Try.underlying9 Try.underlying74 Try.underlying5
  go_enter Try.func47, Try.ntmps47
  go_wp2_with fail
  go_at_call 20
  refine (HC.out _ (hv.alloc _)).mono ?_
  rw [HV.out]
  rintro e w1 ⟨rfl, hb1⟩
  have hblk := (Blk.new w 26 #[.int .i64 0, .int .i64 0]).below hb1 (by simp)
  have hbel := (below_alloc1 w (.cells #[.int .i64 0, .int .i64 0] 26)).trans (hb1.mono (by simp))
  have hsz := hbel.size
  have hlt := hblk.lt
  clear hb1 HC HV
  have st0 : DigSt w (w1.alloc (.cells #[.int .i64 0, .int .i64 0] 26)) l (w1.heap.size + 1) 0 none 0 :=
    ⟨World.ownsRow_nil _ _ _ _, hblk.alloc _, by omega, by simp, hbel.alloc hsz _⟩
  clear hblk hbel
  go_wp2_with fail
  go_loopw [5, 23] (fun ov iv wr => ∃ (i : Nat) (Ao : Option Addr) (co : Nat), i ≤ l.length ∧ ov = .slice Ao i co ∧ iv = .int .i64 i ∧ DigSt w wr l (w1.heap.size + 1) i Ao co) (fun _ iv _ => l.length - (intOf iv).toNat)
  case atStart => exact ⟨0, none, 0, Nat.zero_le _, rfl, rfl, st0⟩
  case round =>
    obtain ⟨i, Ao, co, hi, rfl, rfl, st⟩ := hrel
    obtain ⟨wo, rfl⟩ : ∃ wo : World, wo = wr := ⟨_, rfl⟩
    clear st0
    by_cases hil : i < l.length
    · have hil' : (i : Int) < l.length := by omega
      obtain ⟨b, off, Ap, kp, e, hb, c0, c1, c2, c3, c4, hok', hip⟩ := hv.rowIn st.bel i hil
      subst e
      have hsz3 := st.bel.size
      have hpl := hok.par_len i hil
      have hdat := hok.data i hil
      have HP := Lib.hid (hok.par_nat i · hil)
      have HPL := Lib.hid (Hs.pars_length l i hil)
      have HMSG : Hid (Hs.digMsg l i = Dg.ofL l[i].msg.data.toList) := Lib.hid (by unfold Hs.digMsg; rw [List.getElem?_eq_getElem hil]; rfl)
      have HN0 : Hid (Hs.ints (Hs.digNums l (Hs.digL l i) i 0) = [l[i].au, l[i].tm, l[i].tr]) := Lib.hid (by
        unfold Hs.digNums; rw [List.getElem?_eq_getElem hil]
        simp [Hs.ints]; omega)
      have HNS := Lib.hid (Hs.digNums_succ l (Hs.digL l i) i)
      have HNL := Lib.hid (hok.digNums_lt i (Hs.pars l i).length hil)
      have HNLEN := Lib.hid (Hs.digNums_len l (Hs.digL l i) i (Hs.pars l i).length (Nat.le_refl _))
      generalize l[i] = c at *
      obtain ⟨q1, q2, q3, q4, q5, q6⟩ := hok'
      have HOF : Hid (∀ (w1 : World) (g q : Nat), SV w1 w1.heap.size (some ⟨g, 0, none⟩) (bytesV c.msg.data.toList) → Calls Try.prog 59 #[.slice (some ⟨g, 0, none⟩) c.msg.size q] w1 fun e w' => e = .returned (.tuple #[.int .i64 ((Hs.digMsg l i : Nat) : Int), .agg #[.int .i64 0, .int .i64 0]]) ∧ Below w1.heap.size w1 w') := Lib.hid (fun w1 g q h => by
        have := of_bytes w1 (some ⟨g, 0, none⟩) q c.msg.data.toList h (by simp; omega)
        rw [← HMSG.out] at this
        simpa using this)
      have hk0 := Blk.new wo 41 #[.slice Ap c.par.length kp, .int .i64 c.au, .int .i64 c.tm, .int .i64 c.tr, .string c.msg]
      have hst1 := st.below (below_alloc1 wo (.cells #[.slice Ap c.par.length kp, .int .i64 c.au, .int .i64 c.tm, .int .i64 c.tr, .string c.msg] 41))
      clear q1 q2 q3 q4 q5 q6
      go_wp2_with fail
      generalize grownCap _ _ 0 5 = q
      go_at_call 59
      have hsv := sv_bytesRow (wo.alloc (.cells #[.slice Ap c.par.length kp, .int .i64 c.au, .int .i64 c.tm, .int .i64 c.tr, .string c.msg] 41)) c.msg q 5 ((bytesRow c.msg q).size, (bytesRow c.msg q).size + 1) (wo.heap.size + 1) (by simp)
      refine (HOF.out _ _ _ (by exact hsv)).mono ?_
      rintro e w2 ⟨rfl, hb2⟩
      have hst2 := ((hst1.below (below_alloc1 _ (.cells (bytesRow c.msg q) 5 ((bytesRow c.msg q).size, (bytesRow c.msg q).size + 1)))).below (below_drewN (Below.refl _ _) 1)).below hb2
      have hk2 := (hk0.alloc (.cells (bytesRow c.msg q) 5 ((bytesRow c.msg q).size, (bytesRow c.msg q).size + 1))).drewN 1 |>.below hb2 (by simp; omega)
      have hlt2 := hk2.lt
      have t0 := hk2.cell 0
      have t1 := hk2.cell 1
      have t2 := hk2.cell 2
      have t3 := hk2.cell 3
      simp only [List.getElem?_toArray, List.getElem?_cons_zero, List.getElem?_cons_succ] at t0 t1 t2 t3
      clear hsv hb2 hst1 hk0 HOF hk2 st
      have hstX := hst2.below (below_alloc1 w2 (.cells #[.int .i64 0, .int .i64 0] 26))
      go_wp2_with fail
      have hszX : w2.heap.size + 1 = (w2.alloc (.cells #[.int .i64 0, .int .i64 0] 26)).heap.size := by simp
      rw [hszX]
      generalize hwX : w2.alloc (.cells #[.int .i64 0, .int .i64 0] 26) = wX at *
      have hlist0 : (wX.alloc (.cells #[.int .i64 c.au, .int .i64 c.tm, .int .i64 c.tr] 3)).ownsRow wX.heap.size 3 1 (.slice (some ⟨wX.heap.size, 0, none⟩) 3 3) 3 (intsV (Hs.ints (Hs.digNums l (Hs.digL l i) i 0))) := by
        rw [HN0.out]
        exact World.ownsRow_lit wX #[.int .i64 c.au, .int .i64 c.tm, .int .i64 c.tr] 3 (Nat.le_refl _) (by simp [maxLen]) rfl
      have HD := Lib.hid (fun (p : Nat) (hp : p < i) (wr : World) hbel => nat_at (wr := wr) (w := wX) (A := Ao) (o := Hs.digL l i) (SV.of_own hstX.own) hbel p (by simpa using hp))
      have hbX := hstX.bel.size
      have hhX := hstX.hi
      clear hwX hszX hst2
      go_loopw [10, 44] (fun lv jv wr => ∃ (j : Nat) (Al : Option Addr) (cl : Nat), j ≤ c.par.length ∧ lv = .slice Al (j + 3) cl ∧ jv = .int .i64 j ∧ wr.ownsRow wX.heap.size 3 1 (.slice Al (j + 3) cl) (j + 3) (intsV (Hs.ints (Hs.digNums l (Hs.digL l i) i j))) ∧ Below wX.heap.size wX wr) (fun _ jv _ => c.par.length - (intOf jv).toNat)
      case atStart => exact ⟨0, _, 3, Nat.zero_le _, rfl, rfl, hlist0, below_alloc1 _ _⟩
      case round =>
        obtain ⟨j, Al, cl, hj, rfl, rfl, hown, hbr⟩ := hrel
        obtain ⟨w5, rfl⟩ : ∃ w5 : World, w5 = wr := ⟨_, rfl⟩
        clear hlist0
        have hsz5 := hbr.size
        by_cases hjl : j < c.par.length
        · have hjl' : (j : Int) < c.par.length := by omega
          obtain ⟨b', off', e', hb', hc'⟩ := hip.atIn (hstX.bel.trans (hbr.mono hbX)) j hjl
          subst e'
          obtain ⟨p, hp, hpi, hj', hpe⟩ := HP.out j hjl
          rw [hp] at hc'
          obtain ⟨b6, off6, e6, hb6, hc6⟩ := HD.out p hpi w5 hbr
          subst e6
          have HS := Lib.hid (HNS.out j hj' p hpe (by simpa using hpi))
          have hpn : (p : Int) < i := by omega
          have hpd : p < (Hs.digL l i).length := by simpa using hpi
          generalize (Hs.digL l i)[p]'hpd = dp at *
          clear hp hpe
          go_wp2_with (first | (at_builtin; refine wpList_app1 _ rfl (.tmp 48) (.tmp 53) 37 rfl wX.heap.size 3 i0 (.int .i64 0) 8 Try.underlying37 hi0 hz0 hz1 hz2 rfl Al _ cl _ rfl (hown.alloc _) w5.heap.size _ (.int .i64 (dp : Int)) rfl (by simp [World.cell?_alloc_new]) rfl ?ha ?hb ?hc ?_))
          case ha => simp [maxLen]; omega
          case hb => omega
          case hc => simp; omega
          intro A' c' w7 hown7 hg7 _
          have hb7 := below_append (hbr.alloc hsz5 _) (hown.alloc _) hg7 (Nat.le_refl _) (by simp; omega)
          have hown8 : w7.ownsRow wX.heap.size 3 1 (.slice A' (j + 1 + 3) c') (j + 1 + 3) (intsV (Hs.ints (Hs.digNums l (Hs.digL l i) i (j + 1)))) := by
            rw [HS.out, Hs.ints_append, intsV_append]
            have e : j + 1 + 3 = j + 3 + 1 := by omega
            rw [e]
            exact hown7
          clear hown7 hg7
          go_wp2_with fail
          go_roundw
          case rel => exact ⟨j + 1, _, _, by omega, by congr 1, by go_num, hown8, hb7⟩
          case measure => simp [intOf]; omega
        · obtain rfl : j = c.par.length := by omega
          have hst5 := hstX.below (wr := wX) hbr
          have hlv : IV w5 Al (Hs.ints (Hs.digNums l (Hs.digL l i) i c.par.length)) := SV.of_own hown
          rw [← HPL.out] at hlv
          have hnl : (Hs.digNums l (Hs.digL l i) i (Hs.pars l i).length).length = c.par.length + 3 := HNLEN.out.trans (by rw [HPL.out])
          have HNA := Lib.hid (fun (q : Nat) (hq : q < (Hs.digNums l (Hs.digL l i) i (Hs.pars l i).length).length) (wr : World) hbel => nat_at (wr := wr) hlv hbel q hq)
          have HF0 := Lib.hid (Hs.digFold_zero l (Hs.digL l i) i)
          have HFS := Lib.hid (Hs.digFold_succ l (Hs.digL l i) i)
          have HFA := Lib.hid (Hs.digFold_all l (Hs.digL l i) i)
          have HFL := Lib.hid (Hs.digFold_lt l (Hs.digL l i) i)
          clear HD HNS HP HN0 hown hlv hstX
          generalize Hs.digNums l (Hs.digL l i) i (Hs.pars l i).length = nums at *
          have HAT := Lib.hid (show Hs.digFold l (Hs.digL l i) i nums.length = Hs.digAt l (Hs.digL l i) i from HFA.out)
          clear HFA HNLEN
          have hszn := hst5.bel.size
          go_wp2_with fail
          go_loopw [8, 58] (fun hv qv wr => ∃ q : Nat, q ≤ c.par.length + 3 ∧ hv = .int .i64 ((Hs.digFold l (Hs.digL l i) i q : Nat) : Int) ∧ qv = .int .i64 q ∧ Below w5.heap.size w5 wr) (fun _ qv _ => c.par.length + 3 - (intOf qv).toNat)
          case atStart => exact ⟨0, Nat.zero_le _, by rw [HF0.out], rfl, Below.refl _ _⟩
          case round =>
            obtain ⟨q', hq, rfl, rfl, hb7⟩ := hrel
            obtain ⟨w7, rfl⟩ : ∃ w7 : World, w7 = wr := ⟨_, rfl⟩
            by_cases hql : q' < c.par.length + 3
            · have hql' : (q' : Int) < (c.par.length : Int) + 3 := by omega
              have hqn : q' < nums.length := by omega
              obtain ⟨b8, off8, e8, hb8, hc8⟩ := HNA.out q' hqn w7 hb7
              subst e8
              have hnx := HNL.out _ (List.getElem_mem hqn)
              have hfs := HFS.out q' hqn
              have HPR := Lib.hid (fun w1 => pairf_any w1 (Hs.digFold l (Hs.digL l i) i q') (nums[q']'hqn) (HFL.out q') hnx)
              rw [← hfs] at HPR
              clear hfs
              generalize nums[q']'hqn = x at *
              generalize hfn : Hs.digFold l (Hs.digL l i) i (q' + 1) = h2 at *
              have HFN := Lib.hid hfn
              clear hfn
              generalize Hs.digFold l (Hs.digL l i) i q' = h1 at *
              go_wp2_with fail
              go_at_call 60
              refine (HPR.out _).mono ?_
              rintro e w9 ⟨rfl, hb9⟩
              have hb10 := hb7.trans (hb9.mono hb7.size)
              go_wp2_with fail
              go_roundw
              case rel => exact ⟨q' + 1, by omega, by rw [HFN.out], by go_num, hb10⟩
              case measure => simp [intOf]; omega
            · obtain rfl : q' = c.par.length + 3 := by omega
              have hst7 := hst5.below hb7
              rw [hnl] at HAT
              have hszs := hst7.bel.size
              have hsh := hst7.hi
              have happ := fun w' A' c' o hg hown => hst7.app (w' := w') (A' := A') (c' := c') o hg hown
              rw [HAT.out]
              generalize Hs.digAt l (Hs.digL l i) i = dv at *
              go_wp2_with (first | (at_builtin; refine wpList_app1 _ rfl (.tmp 69) (.tmp 71) 37 rfl (w1.heap.size + 1) 3 i0 (.int .i64 0) 8 Try.underlying37 hi0 hz0 hz1 hz2 rfl Ao _ co _ rfl (hst7.own.alloc _) w7.heap.size _ (.int .i64 (dv : Int)) rfl (by simp [World.cell?_alloc_new]) rfl ?ha ?hb ?hc ?_))
              case ha => simp [maxLen]; omega
              case hb => omega
              case hc => simp; omega
              intro A' c' w10 hown10 hg10 _
              have st11 := happ _ _ _ _ hg10 hown10
              clear hown10 hg10 happ
              go_wp2_with fail
              go_roundw
              case rel => exact ⟨i + 1, _, _, by omega, rfl, by go_num, st11⟩
              case measure => simp [intOf]; omega
    · obtain rfl : i = l.length := by omega
      have d0 := st.res.cell 0
      have d1 := st.res.cell 1
      have e0 := st.res.frozen 0
      have e1 := st.res.frozen 1
      have hlr := st.res.lt
      have hlo := st.lo
      simp only [List.getElem?_toArray, List.getElem?_cons_zero, List.getElem?_cons_succ] at d0 d1
      go_wp2_with fail
      refine bodyPost_ret (results_tc rfl _ _ w.heap.size (.int .i64 0) (.int .i64 0) rfl (blk_put26 st.res _ _)) rfl ?_
      obtain ⟨A', c', e', hc', _⟩ := own_form st.own
      cases e'
      refine ⟨Ao, co, by rw [Hs.ints_length, Hs.digL_length]; rfl, by rw [Hs.ints_length, Hs.digL_length]; exact hc', ?_, (st.bel.setCell (by simp) _).setCell (by simp) _⟩
      exact SV.of_own (own_far (own_far st.own (by simp; omega) _) (by simp; omega) _)
end Go.Proofs.Ytoohmkdgimkgoaa
