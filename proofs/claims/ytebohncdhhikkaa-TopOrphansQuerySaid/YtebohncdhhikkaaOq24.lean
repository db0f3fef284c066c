/-
  Markers: walk of 'reach'.
-/
import Derived.Test.YtebohncdhhikkaaOq23
import Derived.Great.Walk
import Derived.BigRegion
namespace Go.Proofs.Ytebohncdhhikkaa
open Go.RowKit Go.V
set_option linter.unusedVariables false
theorem zero82a : (Try.prog.info? 82).bind (·.zero) = some (.agg (boolsA (tab 3600 fun _ => false))) := by kernel_rfl
/-- The state of 'reach'. -/
structure ReSt (w wr : World) : Prop where
  res : Blk wr w.heap.size 82 (boolsA (tab 3600 fun _ => false))
  tbl : ∃ F : Nat → Bool, Blk wr (w.heap.size + 1) 82 (boolsA (tab 3600 F))
  bel : Below w.heap.size w wr
theorem ReSt.set_ {w wr : World} (h : ReSt w wr) (i : Nat) (x : Bool) : ReSt w (wr.setCell ⟨w.heap.size + 1, i, none⟩ (.bool x)) := by
  obtain ⟨F, hF⟩ := h.tbl
  exact ⟨h.res.far (by simp) _, ⟨_, blk_tabB_set (g' := fun j => if j = i then x else F j) hF i x (fun j _ => rfl)⟩, h.bel.setCell (by simp) _⟩
theorem ReSt.below {w wr wr' : World} (h : ReSt w wr) (hb : Below wr.heap.size wr wr') : ReSt w wr' := by
  obtain ⟨F, hF⟩ := h.tbl
  exact ⟨h.res.below hb h.res.lt, ⟨F, hF.below hb hF.lt⟩, h.bel.trans (hb.mono h.bel.size)⟩
set_option maxRecDepth 100000 in
set_option maxHeartbeats 16000000 in
theorem reach_any (w : World) (A : Option Addr) (k : Nat) (l : List Oq.Mk) (hv : MV w A l) (hl : l.length ≤ 40) (hok : ∀ i (h : i < l.length), MkOk l[i]) :
    Calls Try.prog 49 #[.slice A l.length k] w (RePost w) := by
  have HV := Lib.hid (fun (w1 : World) (hb : Below w.heap.size w w1) (i : Nat) (hi : i < l.length) => (hv.below hb).row i hi)
  have HOK := Lib.hid hok
  have st0 : ReSt w ((w.alloc (.cells (boolsA (tab 3600 fun _ => false)) 82)).alloc (.cells (boolsA (tab 3600 fun _ => false)) 82)) := ⟨(Blk.new _ _ _).alloc _, ⟨_, blk_new1 _ _ _ _⟩, below_alloc2 _ _ _⟩
  clear hv hok
  generalize hZ : boolsA (tab 3600 fun _ => false) = Z at *
  have hzv : ∀ W : World, (zeroValue 82).run Try.prog W = .ok (.agg Z) W := by
    obtain ⟨i5, h5, h6⟩ := Option.bind_eq_some_iff.1 zero82a
    rw [hZ] at h6
    exact fun W => by simp [zeroValue, typeInfo, h5, h6]
  go_enter Try.func49, Try.ntmps49
  go_wp2_with fail
  subst hZ
  clear hzv
  go_loopw [13] (fun iv wr => ∃ i : Nat, i ≤ l.length ∧ iv = .int .i64 i ∧ ReSt w wr) (fun iv _ => l.length - (intOf iv).toNat)
  case atStart => exact ⟨0, Nat.zero_le _, rfl, st0⟩
  case round =>
    clear st0
    obtain ⟨i, hi2, rfl, st⟩ := hrel
    obtain ⟨wq, rfl⟩ : ∃ wo : World, wo = wr := ⟨_, rfl⟩
    by_cases hlt : i < l.length
    · have hlt' : (i : Int) < l.length := by omega
      obtain ⟨b, off, Ap, kp, e, hb, d0, d1, hnl, hiv⟩ := HV.out w (Below.refl _ _) i hlt
      replace d0 := (st.bel.cell (p := ⟨b, off + i * 2, none⟩) hb).trans d0
      replace d1 := (st.bel.cell (p := ⟨b, off + i * 2 + 1, none⟩) hb).trans d1
      have hbq : b < wq.heap.size := Nat.lt_of_lt_of_le hb st.bel.size
      obtain ⟨⟨ok1, ok2⟩, ok3⟩ := HOK.out i hlt
      subst e
      generalize l[i] = x at *
      obtain ⟨mo, mn⟩ := x
      simp only at ok1 ok2 ok3 d0 d1 hnl hiv
      obtain ⟨o, rfl⟩ := Int.eq_ofNat_of_zero_le ok1
      have ho : o < 60 := by omega
      have ho' : (o : Int) < 60 := by omega
      have HN := Lib.hid (fun (wr : World) (hb : Below w.heap.size w wr) (j : Nat) (hj : j < mn.length) => hiv.atIn hb j hj)
      have HO3 := Lib.hid ok3
      have bM := Blk.new wq 57 #[.int .i64 (o : Int), .slice Ap mn.length kp]
      have hal := below_alloc1 wq (.cells #[.int .i64 (o : Int), .slice Ap mn.length kp] 57)
      have st1 := st.below hal
      have hlw : w.heap.size + 1 < wq.heap.size := by obtain ⟨F, hF⟩ := st.tbl; exact hF.lt
      clear st ok1 ok2 ok3 hiv
      go_wp2_with fail
      go_loopw [20] (fun jv wr => ∃ j : Nat, j ≤ mn.length ∧ jv = .int .i64 j ∧ ReSt w wr ∧ Blk wr wq.heap.size 57 #[.int .i64 (o : Int), .slice Ap mn.length kp]) (fun jv _ => mn.length - (intOf jv).toNat)
      case atStart => exact ⟨0, Nat.zero_le _, rfl, st1, bM⟩
      case round =>
        clear st1 bM d0 d1 hal
        obtain ⟨j, hj, rfl, st, bM⟩ := hrel
        obtain ⟨wi, rfl⟩ : ∃ wo : World, wo = wr := ⟨_, rfl⟩
        by_cases hjl : j < mn.length
        · have hjl' : (j : Int) < mn.length := by omega
          obtain ⟨b2, o2, e2, hb2, c2⟩ := HN.out _ st.bel j hjl
          obtain ⟨n1, n2⟩ := HO3.out j hjl
          subst e2
          generalize mn[j] = y at *
          obtain ⟨z, rfl⟩ := Int.eq_ofNat_of_zero_le n1
          have hz : z < 60 := by omega
          have hz' : (z : Int) < 60 := by omega
          obtain ⟨F, hF⟩ := st.tbl
          have q0 := blk_tabB hF (o * 60 + z) (by omega)
          have qf := hF.frozen (o * 60 + z)
          have ql := hF.lt
          have m0 := (bM.cell 0).trans rfl
          have lM := bM.lt
          have st2 := st.set_ (o * 60 + z) true
          have bM2 := bM.far (p := ⟨w.heap.size + 1, o * 60 + z, none⟩) (by simp; omega) (.bool true)
          clear st hF bM
          go_wp2_with fail
          go_roundw
          case rel => exact ⟨j + 1, by omega, by go_num, st2, bM2⟩
          case measure => simp [intOf]; omega
        · obtain rfl : j = mn.length := by omega
          go_wp2_with fail
          go_roundw
          case rel => exact ⟨i + 1, by omega, by go_num, st⟩
          case measure => simp [intOf]; omega
    · obtain rfl : i = l.length := by omega
      go_wp2_with fail
      go_loopw [31] (fun iv wr => ∃ x : Nat, x ≤ 60 ∧ iv = .int .i64 x ∧ ReSt w wr) (fun iv _ => 60 - (intOf iv).toNat)
      case atStart => exact ⟨0, Nat.zero_le _, rfl, st⟩
      case round =>
        clear st
        obtain ⟨x, hx, rfl, st⟩ := hrel
        obtain ⟨wx, rfl⟩ : ∃ wo : World, wo = wr := ⟨_, rfl⟩
        by_cases hx6 : x < 60
        · have hx' : (x : Int) < 60 := by omega
          go_wp2_with fail
          go_loopw [34] (fun iv wr => ∃ y : Nat, y ≤ 60 ∧ iv = .int .i64 y ∧ ReSt w wr) (fun iv _ => 60 - (intOf iv).toNat)
          case atStart => exact ⟨0, Nat.zero_le _, rfl, st⟩
          case round =>
            clear st
            obtain ⟨y, hy, rfl, st⟩ := hrel
            obtain ⟨wy, rfl⟩ : ∃ wo : World, wo = wr := ⟨_, rfl⟩
            by_cases hy6 : y < 60
            · have hy' : (y : Int) < 60 := by omega
              go_wp2_with fail
              go_loopw [37] (fun iv wr => ∃ z : Nat, z ≤ 60 ∧ iv = .int .i64 z ∧ ReSt w wr) (fun iv _ => 60 - (intOf iv).toNat)
              case atStart => exact ⟨0, Nat.zero_le _, rfl, st⟩
              case round =>
                clear st
                obtain ⟨z, hz, rfl, st⟩ := hrel
                obtain ⟨wz, rfl⟩ : ∃ wo : World, wo = wr := ⟨_, rfl⟩
                by_cases hz6 : z < 60
                · have hz' : (z : Int) < 60 := by omega
                  obtain ⟨F, hF⟩ := st.tbl
                  have q0 := blk_tabB hF (y * 60 + z) (by omega)
                  have q1 := blk_tabB hF (y * 60 + x) (by omega)
                  have q2 := blk_tabB hF (x * 60 + z) (by omega)
                  have qf := hF.frozen (y * 60 + z)
                  have ql := hF.lt
                  have st2 := Lib.hid ((st.set_ (y * 60 + z) (F (y * 60 + z) || F (y * 60 + x) && F (x * 60 + z))).below (below_drew' (Below.refl _ _)))
                  clear st hF
                  generalize F (y * 60 + z) = v0 at *
                  generalize F (y * 60 + x) = v1 at *
                  generalize F (x * 60 + z) = v2 at *
                  cases v0 with
                  | true =>
                    simp only [Bool.true_or] at st2
                    go_wp2_with fail
                    go_region
                    all_goals
                      go_wp2_with fail
                      go_roundw
                      case rel => first | exact ⟨z + 1, by omega, by go_num, st2.out⟩ | skip
                      case measure => simp [intOf]; omega
                  | false =>
                    cases v1 with
                    | true =>
                      simp only [Bool.false_or, Bool.true_and] at st2
                      go_wp2_with fail
                      go_region
                      all_goals
                        go_wp2_with fail
                        go_roundw
                        case rel => first | exact ⟨z + 1, by omega, by go_num, st2.out⟩ | skip
                        case measure => simp [intOf]; omega
                    | false =>
                      simp only [Bool.false_or, Bool.false_and] at st2
                      go_wp2_with fail
                      go_region
                      all_goals
                        go_wp2_with fail
                        go_roundw
                        case rel => first | exact ⟨z + 1, by omega, by go_num, st2.out⟩ | skip
                        case measure => simp [intOf]; omega
                · obtain rfl : z = 60 := by omega
                  go_wp2_with fail
                  go_roundw
                  case rel => exact ⟨y + 1, by omega, by go_num, st⟩
                  case measure => simp [intOf]; omega
            · obtain rfl : y = 60 := by omega
              go_wp2_with fail
              go_roundw
              case rel => exact ⟨x + 1, by omega, by go_num, st⟩
              case measure => simp [intOf]; omega
        · obtain rfl : x = 60 := by omega
          obtain ⟨F, hF⟩ := st.tbl
          have hbel := st.bel
          have hres := st.res
          have l0 := hres.lt
          have l1 := hF.lt
          have hrng : wx.rangeAt (w.heap.size + 1) 0 (boolsA (tab 3600 F)).toList := fun j v hv => by rw [Nat.zero_add, hF.cell j, ← Array.getElem?_toList]; exact hv
          have hsz : (Try.prog.info? 82).map (·.size) = some (boolsA (tab 3600 F)).toList.length := by rw [Array.length_toList, boolsA_size]; kernel_rfl
          have hsz2 : (Try.prog.info? 82).map (·.size) = some (boolsA (tab 3600 F)).size := by rw [boolsA_size]; kernel_rfl
          have hsz3 : (boolsA (tab 3600 fun _ => false)).size = (boolsA (tab 3600 F)).size := by rw [boolsA_size, boolsA_size]
          have hone := boolsA_one (tab 3600 F)
          have res2 : Blk (wx.setRow w.heap.size (boolsA (tab 3600 F))) w.heap.size 82 (boolsA (tab 3600 F)) := setRow_heap wx _ _ _ _ _ hres
          have bel2 := below_setRow hbel (Nat.le_refl w.heap.size) (boolsA (tab 3600 F))
          have HG := Lib.hid (fun (W : World) (hb : Below w.heap.size w W) => (show RePost w (.returned (.agg (boolsA (tab 3600 F)))) W from ⟨⟨F, rfl⟩, hb⟩))
          clear st hF
          generalize boolsA (tab 3600 F) = CS at *
          generalize boolsA (tab 3600 fun _ => false) = Z at *
          go_wp2_with (first | (refine wpList_load_mid rfl 82 (.tmp 3) rfl (w.heap.size + 1) 0 rfl CS.toList _ hrng Try.underlying82 rfl hsz ?_; rw [Array.toArray_toList]) | (refine wpList_store_row rfl 82 (.tmp 2) (.tmp 66) rfl w.heap.size CS rfl rfl 82 _ hres hsz2 hsz3 hone ?_))
          refine bodyPost_ret (results_arr rfl Try.underlying82 _ _ w.heap.size CS rfl res2 hsz2) rfl ?_
          exact HG.out _ bel2
end Go.Proofs.Ytebohncdhhikkaa
