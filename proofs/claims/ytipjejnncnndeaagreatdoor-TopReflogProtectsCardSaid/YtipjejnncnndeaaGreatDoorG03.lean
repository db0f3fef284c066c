/-
  Objects: walk of 'Validate'.
  Objects: walk of 'Find'.
  What can be reached in a store of objects, and what is kept of it: the plain law. No program in sight.
  A set of numbers in a map of the call's own: what it reads as; its look-up, its store, its range.
-/
import Derived.Test.YtipjejnncnndeaaGreatDoorG02
import Derived.Maps.RangeWalk
import Derived.Maps.Ext
namespace Go.Proofs.YtipjejnncnndeaaGreatDoor
open Go.RowKit Go.V
set_option linter.unusedVariables false

/-- The value of a store. -/
abbrev stV (A : Option Addr) (n k : Nat) : Value := .agg #[.slice A n k]
/-- The state of the loops over a store: the parameter's copy and the result's cells. -/
structure VaSt (w wr : World) (A : Option Addr) (n k : Nat) : Prop where
  box : Blk wr w.heap.size 24 #[.slice A n k]
  res : Blk wr (w.heap.size + 1) 33 #[.int .i64 0, .int .i64 0]
  bel : Below w.heap.size w wr
theorem VaSt.below {w wr w' : World} {A : Option Addr} {n k : Nat} (h : VaSt w wr A n k) (hb : Below wr.heap.size wr w') : VaSt w w' A n k :=
  ⟨h.box.below hb h.box.lt, h.res.below hb h.res.lt, h.bel.trans (hb.mono h.bel.size)⟩
theorem VaSt.alloc {w wr : World} {A : Option Addr} {n k : Nat} (h : VaSt w wr A n k) (o : Obj) : VaSt w (wr.alloc o) A n k := h.below (below_alloc1 _ _)
theorem VaSt.drewN {w wr : World} {A : Option Addr} {n k : Nat} (h : VaSt w wr A n k) (q : Nat) : VaSt w (wr.drewN q) A n k := h.below (Go.V.below_drewN (Below.refl _ _) _)
set_option maxRecDepth 100000 in
set_option maxHeartbeats 16000000 in
theorem validate_any (w : World) (A : Option Addr) (k : Nat) (s : List Ob.S) (hv : StV w Free A s) (hl64 : s.length ≤ 9223372036854775807) :
    Calls Tryz.prog 11 #[stV A s.length k] w (FaultPost w (Ob.stF s)) := by
  by_cases hl : 40 < s.length
  · have H := Lib.hid (show Ob.stF s = (2, 0) from by unfold Ob.stF; rw [if_pos hl])
    have hl' : (40 : Int) < s.length := by omega
    clear hv
    go_enter Tryz.func11, Tryz.ntmps11
    go_wp2_with fail
    refine bodyPost_ret (results_c rfl _ _ (w.heap.size + 1) (.int .i64 2) (.int .i64 0) rfl (blk_new1 _ _ _ _)) rfl (FaultPost.mk_ H.out ?_)
    exact below_alloc2 _ _ _
  · have hl' : (s.length : Int) ≤ 40 := by omega
    have H := Lib.hid (show Ob.stF s = Ob.stFrom s 0 from by unfold Ob.stF; rw [if_neg hl])
    have HROW := Lib.hid (fun (w' : World) (hb : Below w.heap.size w w') i hi => (hv.keep (free_below hb)).row (w := w') i hi)
    clear hv hl
    go_enter Tryz.func11, Tryz.ntmps11
    go_wp2_with fail
    go_loopw [15] (fun v wr => ∃ i : Nat, i ≤ s.length ∧ v = .int .i64 i ∧ VaSt w wr A s.length k ∧ Hid (Ob.stFrom s 0 = Ob.stFrom s i)) (fun v _ => s.length - (intOf v).toNat)
    case atStart => exact ⟨0, Nat.zero_le _, rfl, ⟨(Blk.new _ _ _).alloc _, blk_new1 _ _ _ _, below_alloc2 _ _ _⟩, Lib.hid rfl⟩
    case round =>
      obtain ⟨i, hi, rfl, st, HJ⟩ := hrel
      obtain ⟨wo, rfl⟩ : ∃ wo : World, wo = wr := ⟨_, rfl⟩
      have hsz := st.bel.size
      have hlt0 := st.res.lt
      by_cases hlt : i < s.length
      · have hlt' : (i : Int) < s.length := by omega
        obtain ⟨b, off, Al, kl, Ad, kd, e, hb, _, d0, d1, d2, d3, hx, hob⟩ := HROW.out _ st.bel i hlt
        subst e
        have HC1 := Lib.hid (Ob.stFrom_next s i hlt)
        have HC2 := Lib.hid (Ob.stFrom_bad s i hlt)
        have HCO := Lib.hid (Ob.code.eq_1 s i)
        have HBAD := Lib.hid (fun (h : Ob.code s i ≠ 0) => show Ob.stF s = (Ob.code s i, (i : Int)) from by rw [H.out, HJ.out, HC2.out h])
        unfold I64 at hx
        by_cases hf : (Ob.obF (Ob.it s i).ob).1 ≠ 0
        · have HD := Lib.hid (fun (w' : World) (hb : Below wo.heap.size wo w') => digest_bad w' (Ob.it s i).ob Al kl Ad kd (hob.keep (free_below hb)) hf)
          have hcc : Ob.code s i = (Ob.obF (Ob.it s i).ob).1 := by rw [HCO.out, if_pos hf]
          have HB := Lib.hid (show Ob.stF s = ((Ob.obF (Ob.it s i).ob).1, (i : Int)) from by rw [HBAD.out (by rw [hcc]; exact hf), hcc])
          have hf1 : ((Ob.obF (Ob.it s i).ob).1 == 0) = false := by simpa using hf
          have hf2 : ((Ob.obF (Ob.it s i).ob).1 != 0) = true := by simpa using hf
          clear HC1 HC2 HCO HBAD hcc hob hf
          generalize Ob.it s i = x at *
          generalize Ob.obF x.ob = r at *
          obtain ⟨cd, ix⟩ := r
          obtain ⟨xd, kk, ls, da⟩ := x
          simp only at *
          go_wp2_with fail
          go_at_call 18
          refine (HD.out _ (below_alloc1 _ _)).mono ?_
          rintro e w2 ⟨rfl, hb2'⟩
          have hb2 : Below wo.heap.size wo w2 := (below_alloc1 wo (.cells #[.int .i64 xd, .int .i64 kk, .slice Al ls.length kl, .slice Ad da.length kd] 65)).trans (hb2'.mono (by simp))
          have st2 := st.below hb2
          have hlt2 := st2.res.lt
          have hf0 := st2.res.frozen 0
          have hf1' := st2.res.frozen 1
          have hc0 := st2.res.cell 0
          have hc1 := st2.res.cell 1
          simp only [List.getElem?_toArray, List.getElem?_cons_zero, List.getElem?_cons_succ] at hc0 hc1
          have hsz2 := st2.bel.size
          clear hb2 hb2' st HD
          go_wp2_with fail
          refine bodyPost_ret (results_c rfl _ _ (w.heap.size + 1) (.int .i64 cd) (.int .i64 i) rfl ((blk_put2 st2.res _ _).alloc _)) rfl (FaultPost.mk_ HB.out ?_)
          exact (((st2.bel.setCell (by simp) _).setCell (by simp) _).alloc (by simp; omega) _)
        · have hok : Ob.Ok (Ob.it s i).ob := (Ob.obF_ok (by simpa using hf)).2
          have HD := Lib.hid (fun (w' : World) (hb : Below wo.heap.size wo w') => digest_ok w' (Ob.it s i).ob Al kl Ad kd (hob.keep (free_below hb)) hok)
          have hcp := Lib.hid (HCO.out.trans (if_neg hf))
          clear HCO hob hok hf
          by_cases hd : ((Ob.dig (Ob.it s i).ob : Nat) : Int) ≠ (Ob.it s i).dig
          · have hcc : Ob.code s i = 18 := by rw [hcp.out, if_pos hd]
            have HB := Lib.hid (show Ob.stF s = (18, (i : Int)) from by rw [HBAD.out (by rw [hcc]; decide), hcc])
            have hd1 : (((Ob.dig (Ob.it s i).ob : Nat) : Int) == (Ob.it s i).dig) = false := by simpa using hd
            have hd2 : (((Ob.dig (Ob.it s i).ob : Nat) : Int) != (Ob.it s i).dig) = true := bne_iff_ne.2 hd
            clear HC1 HC2 HBAD hcp hcc hd
            generalize Ob.it s i = x at *
            generalize Ob.dig x.ob = dg at *
            obtain ⟨xd, kk, ls, da⟩ := x
            simp only at *
            go_wp2_with fail
            go_at_call 18
            refine (HD.out _ (below_alloc1 _ _)).mono ?_
            rintro e w2 ⟨rfl, hb2'⟩
            have hb2 : Below wo.heap.size wo w2 := (below_alloc1 wo (.cells #[.int .i64 xd, .int .i64 kk, .slice Al ls.length kl, .slice Ad da.length kd] 65)).trans (hb2'.mono (by simp))
            have hBx := ((Blk.new wo 65 #[.int .i64 xd, .int .i64 kk, .slice Al ls.length kl, .slice Ad da.length kd]).below hb2' (by simp))
            have hcx := hBx.cell 0
            have hlx := hBx.lt
            have st2 := st.below hb2
            have hlt2 := st2.res.lt
            have hf0 := st2.res.frozen 0
            have hf1' := st2.res.frozen 1
            have hc0 := st2.res.cell 0
            have hc1 := st2.res.cell 1
            have hbx0 := st2.box.cell 0
            simp only [List.getElem?_toArray, List.getElem?_cons_zero, List.getElem?_cons_succ] at hc0 hc1 hbx0 hcx
            have hsz2 := st2.bel.size
            have hlbx := st2.box.lt
            clear hb2 hb2' st HD
            go_wp2_with fail
            refine bodyPost_ret (results_c rfl _ _ (w.heap.size + 1) (.int .i64 18) (.int .i64 i) rfl ((blk_put2 st2.res _ _).alloc _)) rfl (FaultPost.mk_ HB.out ?_)
            exact (((st2.bel.setCell (by simp) _).setCell (by simp) _).alloc (by simp; omega) _)
          · have hcq := Lib.hid (hcp.out.trans (if_neg hd))
            have hde : ((Ob.dig (Ob.it s i).ob : Nat) : Int) = (Ob.it s i).dig := by omega
            by_cases hi0 : i = 0
            · have hcc : Ob.code s i = 0 := by rw [hcq.out, if_neg (by omega)]
              have HJ2 := Lib.hid (HJ.out.trans (HC1.out hcc))
              have hz1 : decide ((0 : Int) < (i : Int)) = false := by simp; omega
              have hz2 : decide (0 < i) = false := by simp; omega
              clear HC1 HC2 HBAD hcp hcq hcc hd hi0
              generalize Ob.it s i = x at *
              generalize Ob.dig x.ob = dg at *
              obtain ⟨xd, kk, ls, da⟩ := x
              simp only at *
              subst hde
              have hd1 : ((dg : Int) == (dg : Int)) = true := by simp
              have hd2 : ((dg : Int) != (dg : Int)) = false := by simp
              go_wp2_with fail
              go_at_call 18
              refine (HD.out _ (below_alloc1 _ _)).mono ?_
              rintro e w2 ⟨rfl, hb2'⟩
              have hb2 : Below wo.heap.size wo w2 := (below_alloc1 wo (.cells #[.int .i64 dg, .int .i64 kk, .slice Al ls.length kl, .slice Ad da.length kd] 65)).trans (hb2'.mono (by simp))
              have hBx := ((Blk.new wo 65 #[.int .i64 dg, .int .i64 kk, .slice Al ls.length kl, .slice Ad da.length kd]).below hb2' (by simp))
              have hcx := hBx.cell 0
              have hlx := hBx.lt
              have st2 := st.below hb2
              have hlt2 := st2.res.lt
              have hf0 := st2.res.frozen 0
              have hf1' := st2.res.frozen 1
              have hc0 := st2.res.cell 0
              have hc1 := st2.res.cell 1
              have hbx0 := st2.box.cell 0
              simp only [List.getElem?_toArray, List.getElem?_cons_zero, List.getElem?_cons_succ] at hc0 hc1 hbx0 hcx
              have hsz2 := st2.bel.size
              have hlbx := st2.box.lt
              clear hb2 hb2' st HD
              go_wp2_with fail
              go_roundw
              case rel => exact ⟨i + 1, by omega, by go_num, st2.alloc _, HJ2⟩
              case measure => simp [intOf]; omega
            · have hz1 : decide ((0 : Int) < (i : Int)) = true := by simp; omega
              have hz2 : decide (0 < i) = true := by simp; omega
              have hz3 : (0 : Int) ≤ (i : Int) - 1 := by omega
              have hz4 : (i : Int) - 1 < s.length := by omega
              obtain ⟨b', off', Al', kl', Ad', kd', e', hb', _, d0', _, _, _, hx', _⟩ := HROW.out _ st.bel (i - 1) (by omega)
              cases e'
              by_cases hle : (Ob.it s i).dig ≤ (Ob.it s (i - 1)).dig
              · have hcc : Ob.code s i = 5 := by rw [hcq.out, if_pos ⟨by omega, hle⟩]
                have HB := Lib.hid (show Ob.stF s = (5, (i : Int)) from by rw [HBAD.out (by rw [hcc]; decide), hcc])
                have hle' : decide ((Ob.it s i).dig ≤ (Ob.it s (i - 1)).dig) = true := by simpa using hle
                clear HC1 HC2 HBAD hcp hcq hcc hd hi0 hle
                generalize (Ob.it s (i - 1)).dig = pd at *
                generalize Ob.it s i = x at *
                generalize Ob.dig x.ob = dg at *
                obtain ⟨xd, kk, ls, da⟩ := x
                simp only at *
                subst hde
                have hd1 : ((dg : Int) == (dg : Int)) = true := by simp
                have hd2 : ((dg : Int) != (dg : Int)) = false := by simp
                go_wp2_with fail
                go_at_call 18
                refine (HD.out _ (below_alloc1 _ _)).mono ?_
                rintro e w2 ⟨rfl, hb2'⟩
                have hb2 : Below wo.heap.size wo w2 := (below_alloc1 wo (.cells #[.int .i64 dg, .int .i64 kk, .slice Al ls.length kl, .slice Ad da.length kd] 65)).trans (hb2'.mono (by simp))
                have hBx := ((Blk.new wo 65 #[.int .i64 dg, .int .i64 kk, .slice Al ls.length kl, .slice Ad da.length kd]).below hb2' (by simp))
                have hcx := hBx.cell 0
                have hlx := hBx.lt
                have hpd := (hb2.cell (p := ⟨b, off + (i - 1) * 4, none⟩) hb).trans d0'
                have hbb : b < w2.heap.size := Nat.lt_of_lt_of_le hb hb2.size
                have st2 := st.below hb2
                have hlt2 := st2.res.lt
                have hf0 := st2.res.frozen 0
                have hf1' := st2.res.frozen 1
                have hc0 := st2.res.cell 0
                have hc1 := st2.res.cell 1
                have hbx0 := st2.box.cell 0
                simp only [List.getElem?_toArray, List.getElem?_cons_zero, List.getElem?_cons_succ] at hc0 hc1 hbx0 hcx
                have hsz2 := st2.bel.size
                have hlbx := st2.box.lt
                clear hb2 hb2' st HD
                go_wp2_with fail
                refine bodyPost_ret (results_c rfl _ _ (w.heap.size + 1) (.int .i64 5) (.int .i64 i) rfl ((blk_put2 st2.res _ _).alloc _)) rfl (FaultPost.mk_ HB.out ?_)
                exact (((st2.bel.setCell (by simp) _).setCell (by simp) _).alloc (by simp; omega) _)
              · have hcc : Ob.code s i = 0 := by rw [hcq.out, if_neg (by rintro ⟨_, h⟩; exact hle h)]
                have HJ2 := Lib.hid (HJ.out.trans (HC1.out hcc))
                have hle' : decide ((Ob.it s i).dig ≤ (Ob.it s (i - 1)).dig) = false := by simpa using hle
                clear HC1 HC2 HBAD hcp hcq hcc hd hi0 hle
                generalize (Ob.it s (i - 1)).dig = pd at *
                generalize Ob.it s i = x at *
                generalize Ob.dig x.ob = dg at *
                obtain ⟨xd, kk, ls, da⟩ := x
                simp only at *
                subst hde
                have hd1 : ((dg : Int) == (dg : Int)) = true := by simp
                have hd2 : ((dg : Int) != (dg : Int)) = false := by simp
                go_wp2_with fail
                go_at_call 18
                refine (HD.out _ (below_alloc1 _ _)).mono ?_
                rintro e w2 ⟨rfl, hb2'⟩
                have hb2 : Below wo.heap.size wo w2 := (below_alloc1 wo (.cells #[.int .i64 dg, .int .i64 kk, .slice Al ls.length kl, .slice Ad da.length kd] 65)).trans (hb2'.mono (by simp))
                have hBx := ((Blk.new wo 65 #[.int .i64 dg, .int .i64 kk, .slice Al ls.length kl, .slice Ad da.length kd]).below hb2' (by simp))
                have hcx := hBx.cell 0
                have hlx := hBx.lt
                have hpd := (hb2.cell (p := ⟨b, off + (i - 1) * 4, none⟩) hb).trans d0'
                have hbb : b < w2.heap.size := Nat.lt_of_lt_of_le hb hb2.size
                have st2 := st.below hb2
                have hlt2 := st2.res.lt
                have hf0 := st2.res.frozen 0
                have hf1' := st2.res.frozen 1
                have hc0 := st2.res.cell 0
                have hc1 := st2.res.cell 1
                have hbx0 := st2.box.cell 0
                simp only [List.getElem?_toArray, List.getElem?_cons_zero, List.getElem?_cons_succ] at hc0 hc1 hbx0 hcx
                have hsz2 := st2.bel.size
                have hlbx := st2.box.lt
                clear hb2 hb2' st HD
                go_wp2_with fail
                go_roundw
                case rel => exact ⟨i + 1, by omega, by go_num, st2.alloc _, HJ2⟩
                case measure => simp [intOf]; omega
      · obtain rfl : i = s.length := by omega
        have hf0 := st.res.frozen 0
        have hf1' := st.res.frozen 1
        have hc0 := st.res.cell 0
        have hc1 := st.res.cell 1
        simp only [List.getElem?_toArray, List.getElem?_cons_zero, List.getElem?_cons_succ] at hc0 hc1
        go_wp2_with fail
        refine bodyPost_ret (results_c rfl _ _ (w.heap.size + 1) (.int .i64 0) (.int .i64 0) rfl (blk_put2 st.res _ _)) rfl (FaultPost.mk_ ?_ ?_)
        · rw [H.out, HJ.out, Ob.stFrom_end s _ (Nat.le_refl _)]
        · exact (st.bel.setCell (by simp) _).setCell (by simp) _
end Go.Proofs.YtipjejnncnndeaaGreatDoor
namespace Ob
/-- The number of stored objects whose digest is less than d. -/
def lb (s : List S) (d : Int) : Nat := (s.filter fun x => decide (x.dig < d)).length
def fnd (s : List S) (d : Int) : Bool := decide (lb s d < s.length) && decide ((it s (lb s d)).dig = d)
theorem lb_le (s : List S) (d : Int) : lb s d ≤ s.length := List.length_filter_le _ _
theorem lb_eq (s : List S) (d : Int) (i : Nat) (hi : i ≤ s.length) (h1 : ∀ k, k < i → (it s k).dig < d) (h2 : ∀ k, i ≤ k → k < s.length → d ≤ (it s k).dig) : lb s d = i := by
  unfold lb
  rw [← List.take_append_drop i s, List.filter_append]
  have e1 : (s.take i).filter (fun x => decide (x.dig < d)) = s.take i := by
    rw [List.filter_eq_self]
    intro a ha
    obtain ⟨k, hk, rfl⟩ := List.mem_iff_getElem.1 ha
    simp at hk
    have := h1 k (by omega)
    rw [← it_eq s k (by omega)] at this
    simpa using this
  have e2 : (s.drop i).filter (fun x => decide (x.dig < d)) = [] := by
    rw [List.filter_eq_nil_iff]
    intro a ha
    obtain ⟨k, hk, rfl⟩ := List.mem_iff_getElem.1 ha
    simp at hk
    have := h2 (i + k) (by omega) (by omega)
    rw [← it_eq s (i + k) (by omega)] at this
    simp; omega
  rw [e1, e2]
  simp; omega
/-- A store whose digests grow. -/
def Sorted (s : List S) : Prop := ∀ i, i + 1 < s.length → (it s i).dig < (it s (i + 1)).dig
theorem Sorted.mono_ {s : List S} (h : Sorted s) : ∀ d i, i + d < s.length → 0 < d → (it s i).dig < (it s (i + d)).dig
  | 0, _, _, hd => by omega
  | 1, i, hi, _ => h i hi
  | d + 2, i, hi, _ => Int.lt_trans (h.mono_ (d + 1) i (by omega) (by omega)) (h (i + (d + 1)) hi)
theorem Sorted.mono {s : List S} (h : Sorted s) {i j : Nat} (hij : i < j) (hj : j < s.length) : (it s i).dig < (it s j).dig := by
  have := h.mono_ (j - i) i (by omega) (by omega)
  rwa [show i + (j - i) = j by omega] at this
theorem Sorted.le {s : List S} (h : Sorted s) {i j : Nat} (hij : i ≤ j) (hj : j < s.length) : (it s i).dig ≤ (it s j).dig := by
  rcases Nat.lt_or_eq_of_le hij with h1 | h1
  · exact Int.le_of_lt (h.mono h1 hj)
  · subst h1; exact Int.le_refl _
theorem lb_lt {s : List S} (h : Sorted s) (d : Int) (k : Nat) (hk : k < lb s d) : (it s k).dig < d := by
  rcases Nat.lt_or_ge k (lb s d) with _ | hh
  · apply Decidable.byContradiction
    intro hn
    have hle : lb s d ≤ k := by
      have h2 : ∀ j, k ≤ j → j < s.length → d ≤ (it s j).dig := fun j hj hjl => by
        have := h.le hj hjl; omega
      -- the number of smaller ones is at most k
      unfold lb
      have hks : k ≤ s.length := by have := lb_le s d; omega
      rw [← List.take_append_drop k s, List.filter_append]
      have e2 : (s.drop k).filter (fun x => decide (x.dig < d)) = [] := by
        rw [List.filter_eq_nil_iff]
        intro a ha
        obtain ⟨j, hj, rfl⟩ := List.mem_iff_getElem.1 ha
        simp at hj
        have := h2 (k + j) (by omega) (by omega)
        rw [← it_eq s (k + j) (by omega)] at this
        simp; omega
      rw [e2, List.append_nil]
      have := List.length_filter_le (fun x => decide (x.dig < d)) (s.take k)
      simp at this
      omega
    omega
  · omega
theorem lb_ge {s : List S} (h : Sorted s) (d : Int) (k : Nat) (hk : lb s d ≤ k) (hl : k < s.length) : d ≤ (it s k).dig := by
  apply Decidable.byContradiction
  intro hn
  -- then all up to k are smaller
  have h1 : ∀ j, j < k + 1 → (it s j).dig < d := fun j hj => by
    have := h.le (i := j) (j := k) (by omega) hl; omega
  have : k + 1 ≤ lb s d := by
    unfold lb
    rw [← List.take_append_drop (k + 1) s, List.filter_append]
    have e1 : (s.take (k + 1)).filter (fun x => decide (x.dig < d)) = s.take (k + 1) := by
      rw [List.filter_eq_self]
      intro a ha
      obtain ⟨j, hj, rfl⟩ := List.mem_iff_getElem.1 ha
      simp at hj
      have := h1 j (by omega)
      rw [← it_eq s j (by omega)] at this
      simpa using this
    rw [e1]
    simp; omega
  omega
theorem StOk.sorted {s : List S} (h : StOk s) : Sorted s := h.lt
end Ob
namespace Go.Proofs.YtipjejnncnndeaaGreatDoor
open Go.RowKit Go.V
set_option linter.unusedVariables false

/-- What the comparison answers. -/
def cmpD (x d : Int) : Int := if x < d then -1 else if d < x then 1 else 0
theorem cmp_any (w : World) (x k d : Int) (Al : Option Addr) (nl kl : Nat) (Ad : Option Addr) (nd kd : Nat) :
    Calls Tryz.prog 40 #[.agg #[.int .i64 x, .int .i64 k, .slice Al nl kl, .slice Ad nd kd], .int .i64 d] w fun e w' => e = .returned (.int .i64 (cmpD x d)) ∧ Below w.heap.size w w' := by
  by_cases h1 : x < d
  · have H : Hid (cmpD x d = -1) := Lib.hid (if_pos h1)
    go_enter Tryz.func40, Tryz.ntmps40
    go_wp2_with fail
    go_ret
    exact ⟨by rw [H.out]; rfl, below_alloc1 _ _⟩
  · by_cases h2 : d < x
    · have H : Hid (cmpD x d = 1) := Lib.hid (by unfold cmpD; rw [if_neg h1, if_pos h2])
      go_enter Tryz.func40, Tryz.ntmps40
      go_wp2_with fail
      go_ret
      exact ⟨by rw [H.out]; rfl, below_alloc1 _ _⟩
    · have H : Hid (cmpD x d = 0) := Lib.hid (by unfold cmpD; rw [if_neg h1, if_neg h2])
      go_enter Tryz.func40, Tryz.ntmps40
      go_wp2_with fail
      go_ret
      exact ⟨by rw [H.out]; rfl, below_alloc1 _ _⟩

set_option maxRecDepth 100000 in
set_option maxHeartbeats 8000000 in
theorem bsearch_any (w : World) (A : Option Addr) (k : Nat) (s : List Ob.S) (d : Int) (fv : Value) (hfv : fv = .func (.func 40) #[] #[]) (hv : StV w Free A s) (hl : s.length ≤ 1000000) (hs : Ob.Sorted s) :
    Calls Tryz.prog 39 #[.slice A s.length k, .int .i64 d, fv] w fun e w' => e = .returned (.tuple #[.int .i64 (Ob.lb s d : Nat), .bool (Ob.fnd s d)]) ∧ Below w.heap.size w w' := by
  have HROW := Lib.hid (fun (w' : World) (hb : Below w.heap.size w w') i hi => (hv.keep (free_below hb)).row (w := w') i hi)
  have HS := Lib.hid hs
  clear hv hs
  subst hfv
  go_enter Tryz.func39, Tryz.ntmps39
  go_wp2_with fail
  go_loopw [9, 10] (fun iv jv wr => ∃ i j : Nat, i ≤ j ∧ j ≤ s.length ∧ iv = .int .i64 i ∧ jv = .int .i64 j ∧ Hid (i ≤ Ob.lb s d ∧ Ob.lb s d ≤ j) ∧ Below w.heap.size w wr) (fun iv jv _ => (intOf jv).toNat - (intOf iv).toNat)
  case atStart => exact ⟨0, s.length, Nat.zero_le _, Nat.le_refl _, rfl, rfl, Lib.hid ⟨Nat.zero_le _, Ob.lb_le _ _⟩, Below.refl _ _⟩
  case round =>
    obtain ⟨i, j, hij, hj, rfl, rfl, HB, hbw⟩ := hrel
    obtain ⟨wo, rfl⟩ : ∃ wo : World, wo = wr := ⟨_, rfl⟩
    by_cases hlt : i < j
    · have hlt' : (i : Int) < j := by omega
      obtain ⟨m, hm1, hm2, hm⟩ : ∃ m : Nat, i ≤ m ∧ m < j ∧ ((i : Int) + j) / 2 = (m : Int) := ⟨(i + j) / 2, by omega, by omega, by omega⟩
      have hmi : (m : Int) < s.length := by omega
      obtain ⟨b, off, Al, kl, Ad, kd, e, hb, _, d0, d1, d2, d3, hx, hob⟩ := HROW.out _ hbw m (by omega)
      subst e
      have HLT := Lib.hid (fun h => Ob.lb_ge (d := d) HS.out m h (by omega))
      have HGE := Lib.hid (fun h => Ob.lb_lt (d := d) HS.out m h)
      clear hob hx
      by_cases hc : (Ob.it s m).dig < d
      · have HB' : Hid (m + 1 ≤ Ob.lb s d ∧ Ob.lb s d ≤ j) := Lib.hid ⟨by
          apply Decidable.byContradiction; intro hn; have := HLT.out (by omega); omega, HB.out.2⟩
        have hcd : Hid (cmpD (Ob.it s m).dig d = -1) := Lib.hid (if_pos hc)
        clear hc
        generalize Ob.it s m = x at *
        go_wp2_with fail
        go_at_call 40
        refine (cmp_any _ _ _ _ _ _ _ _ _ _).mono ?_
        rintro e w2 ⟨rfl, hb2⟩
        rw [hcd.out]
        have hbw2 := hbw.trans (hb2.mono hbw.size)
        clear hb2
        go_wp2_with fail
        go_roundw
        case rel => exact ⟨m + 1, j, by omega, hj, by go_num, rfl, HB', hbw2⟩
        case measure => simp [intOf]; omega
      · have HB' : Hid (i ≤ Ob.lb s d ∧ Ob.lb s d ≤ m) := Lib.hid ⟨HB.out.1, by
          apply Decidable.byContradiction; intro hn; have := HGE.out (by omega); omega⟩
        have hcd : 0 ≤ cmpD (Ob.it s m).dig d := by unfold cmpD; rw [if_neg hc]; split <;> omega
        clear hc
        generalize Ob.it s m = x at *
        generalize hcc : cmpD x.dig d = cd at *
        have HCC := Lib.hid hcc
        clear hcc
        go_wp2_with fail
        go_at_call 40
        refine (cmp_any _ _ _ _ _ _ _ _ _ _).mono ?_
        rintro e w2 ⟨rfl, hb2⟩
        rw [HCC.out]
        have hbw2 := hbw.trans (hb2.mono hbw.size)
        clear hb2
        go_wp2_with fail
        go_roundw
        case rel => exact ⟨i, m, hm1, by omega, rfl, rfl, HB', hbw2⟩
        case measure => simp [intOf]; omega
    · obtain rfl : i = j := by omega
      have hi : Ob.lb s d = i := by have := HB.out; omega
      have HI := Lib.hid hi
      clear hi HB
      by_cases hil : i < s.length
      · have hil' : (i : Int) < s.length := by omega
        obtain ⟨b, off, Al, kl, Ad, kd, e, hb, _, d0, d1, d2, d3, hx, hob⟩ := HROW.out _ hbw i hil
        subst e
        clear hob hx
        have HF : Hid (Ob.fnd s d = (cmpD (Ob.it s i).dig d == 0)) := Lib.hid (by
          unfold Ob.fnd
          rw [HI.out, decide_eq_true hil, Bool.true_and, Bool.eq_iff_iff]
          simp only [decide_eq_true_eq, beq_iff_eq]
          unfold cmpD
          split
          · omega
          · split <;> omega)
        generalize Ob.it s i = x at *
        generalize hcc : cmpD x.dig d = cd at *
        have HCC := Lib.hid hcc
        clear hcc
        go_wp2_with fail
        go_at_call 40
        refine (cmp_any _ _ _ _ _ _ _ _ _ _).mono ?_
        rintro e w2 ⟨rfl, hb2⟩
        rw [HCC.out]
        have hbw2 := hbw.trans (hb2.mono hbw.size)
        clear hb2
        go_wp2_with fail
        go_ret2
        exact ⟨by rw [HI.out, HF.out]; rfl, hbw2⟩
      · have hil' : ¬ (i : Int) < s.length := by omega
        have hil2 : decide (i < s.length) = false := decide_eq_false hil
        have HF : Hid (Ob.fnd s d = false) := Lib.hid (by unfold Ob.fnd; rw [HI.out, decide_eq_false hil]; rfl)
        clear hil
        go_wp2_with fail
        go_ret2
        exact ⟨by rw [HI.out, HF.out]; rfl, hbw⟩
theorem find_any (w : World) (A : Option Addr) (k : Nat) (s : List Ob.S) (d : Int) (hv : StV w Free A s) (hl : s.length ≤ 1000000) (hs : Ob.Sorted s) :
    Calls Tryz.prog 23 #[stV A s.length k, .int .i64 d] w fun e w' => e = .returned (.tuple #[.int .i64 (Ob.lb s d : Nat), .bool (Ob.fnd s d)]) ∧ Below w.heap.size w w' := by
  have HB := Lib.hid (fun fv hfv => bsearch_any (w.alloc (.cells #[.slice A s.length k] 24)) A k s d fv hfv (hv.keep (Keeps.alloc _ _ _)) hl hs)
  clear hv hs
  go_enter Tryz.func23, Tryz.ntmps23
  go_wp2_with fail
  go_at_call 39
  refine (HB.out _ rfl).mono ?_
  rintro e w1 ⟨rfl, hb1⟩
  go_wp2_with fail
  go_ret2
  exact ⟨rfl, (below_alloc1 _ _).trans (hb1.mono (by simp))⟩
end Go.Proofs.YtipjejnncnndeaaGreatDoor
namespace Ob
theorem mem_it {s : List S} {x : S} : x ∈ s ↔ ∃ i, i < s.length ∧ it s i = x := by
  constructor
  · intro h
    obtain ⟨i, hi, e⟩ := List.mem_iff_getElem.1 h
    exact ⟨i, hi, by rw [← it_eq s i hi, e]⟩
  · rintro ⟨i, hi, rfl⟩
    rw [← it_eq s i hi]; exact List.getElem_mem hi
theorem it_mem {s : List S} {i : Nat} (hi : i < s.length) : it s i ∈ s := mem_it.2 ⟨i, hi, rfl⟩
theorem sorted_pw {s : List S} : Sorted s ↔ s.Pairwise (fun x y => x.dig < y.dig) := by
  rw [List.pairwise_iff_getElem]
  constructor
  · intro h i j hi hj hij
    rw [it_eq s i hi, it_eq s j hj]; exact h.mono hij hj
  · intro h i hi
    have := h i (i + 1) (by omega) hi (by omega)
    rwa [it_eq s i (by omega), it_eq s (i + 1) hi] at this
theorem Sorted.uniq {s : List S} (h : Sorted s) {x y : S} (hx : x ∈ s) (hy : y ∈ s) (e : x.dig = y.dig) : x = y := by
  obtain ⟨i, hi, rfl⟩ := mem_it.1 hx
  obtain ⟨j, hj, rfl⟩ := mem_it.1 hy
  rcases Nat.lt_trichotomy i j with h1 | h1 | h1
  · have := h.mono h1 hj; omega
  · rw [h1]
  · have := h.mono h1 hi; omega
theorem fnd_iff {s : List S} (h : Sorted s) (d : Int) : fnd s d = true ↔ ∃ x ∈ s, x.dig = d := by
  constructor
  · intro hf
    have h1 : lb s d < s.length ∧ (it s (lb s d)).dig = d := by unfold fnd at hf; rw [Bool.and_eq_true] at hf; simpa using hf
    exact ⟨_, it_mem h1.1, h1.2⟩
  · rintro ⟨x, hx, e⟩
    obtain ⟨k, hk, rfl⟩ := mem_it.1 hx
    have hlb : lb s d = k := lb_eq s d k (by omega) (fun j hj => by have := h.mono hj hk; omega) (fun j hj hjl => by have := h.le hj hjl; omega)
    unfold fnd
    rw [hlb, decide_eq_true hk, decide_eq_true e]; rfl
theorem fnd_at {s : List S} {d : Int} (hf : fnd s d = true) : lb s d < s.length ∧ (it s (lb s d)).dig = d := by
  unfold fnd at hf; rw [Bool.and_eq_true] at hf; simpa using hf
theorem StOk.mem {s : List S} : StOk s ↔ s.length ≤ 40 ∧ (∀ x ∈ s, Ok x.ob ∧ x.dig = ((dig x.ob : Nat) : Int)) ∧ Sorted s := by
  constructor
  · intro h
    refine ⟨h.len, fun x hx => ?_, h.sorted⟩
    obtain ⟨i, hi, rfl⟩ := mem_it.1 hx
    exact ⟨h.ok i hi, h.eq i hi⟩
  · rintro ⟨h1, h2, h3⟩
    exact ⟨h1, fun i hi => (h2 _ (it_mem hi)).1, fun i hi => (h2 _ (it_mem hi)).2, h3⟩
/-- Some objects of a valid store are a valid store. -/
theorem StOk.filter {s : List S} (h : StOk s) (p : S → Bool) : StOk (s.filter p) := by
  obtain ⟨h1, h2, h3⟩ := StOk.mem.1 h
  refine StOk.mem.2 ⟨Nat.le_trans (List.length_filter_le _ _) h1, fun x hx => h2 x (List.mem_filter.1 hx).1, ?_⟩
  rw [sorted_pw] at h3 ⊢
  exact h3.filter p
end Ob
namespace Gc
open Ob
/-- The links of the object with a digest. -/
def lk (s : List S) (d : Int) : List Int := (it s (lb s d)).ob.links
theorem lk_of {s : List S} (h : Sorted s) {x : S} (hx : x ∈ s) : lk s x.dig = x.ob.links := by
  have hf := (fnd_iff h x.dig).2 ⟨x, hx, rfl⟩
  obtain ⟨h1, h2⟩ := fnd_at hf
  unfold lk
  rw [h.uniq (it_mem h1) hx h2]
/-- What can be reached by n links. -/
def RcN (s : List S) (rs : List Int) : Nat → Int → Prop
  | 0, d => d ∈ rs ∧ fnd s d = true
  | n + 1, e => fnd s e = true ∧ ∃ d, RcN s rs n d ∧ e ∈ lk s d
/-- What can be reached. -/
def Rc (s : List S) (rs : List Int) (d : Int) : Prop := ∃ n, RcN s rs n d
theorem Rc.root {s : List S} {rs : List Int} {d : Int} (h1 : d ∈ rs) (h2 : fnd s d = true) : Rc s rs d := ⟨0, h1, h2⟩
theorem Rc.link {s : List S} {rs : List Int} {d e : Int} (h : Rc s rs d) (h1 : e ∈ lk s d) (h2 : fnd s e = true) : Rc s rs e := by
  obtain ⟨n, hn⟩ := h
  exact ⟨n + 1, h2, d, hn, h1⟩
theorem RcN.ind {s : List S} {rs : List Int} {P : Int → Prop} (h0 : ∀ d, d ∈ rs → fnd s d = true → P d) (h1 : ∀ d e, Rc s rs d → e ∈ lk s d → fnd s e = true → P d → P e) : ∀ (n : Nat) (d : Int), RcN s rs n d → P d
  | 0, d, h => h0 d h.1 h.2
  | n + 1, e, h => by
    obtain ⟨h2, d, hn, hl⟩ := h
    exact h1 d e ⟨n, hn⟩ hl h2 (RcN.ind h0 h1 n d hn)
theorem Rc.ind {s : List S} {rs : List Int} {P : Int → Prop} (h0 : ∀ d, d ∈ rs → fnd s d = true → P d) (h1 : ∀ d e, Rc s rs d → e ∈ lk s d → fnd s e = true → P d → P e) {d : Int} (h : Rc s rs d) : P d := by
  obtain ⟨n, hn⟩ := h
  exact RcN.ind h0 h1 n d hn
theorem Rc.has {s : List S} {rs : List Int} {d : Int} (h : Rc s rs d) : fnd s d = true := h.ind (fun _ _ h => h) (fun _ _ _ _ h _ => h)
theorem Rc.more {s : List S} {rs qs : List Int} (hq : ∀ d ∈ rs, d ∈ qs) {d : Int} (h : Rc s rs d) : Rc s qs d :=
  h.ind (fun _ h1 h2 => .root (hq _ h1) h2) (fun _ _ _ h2 h3 ih => ih.link h2 h3)
/-- The state of the loop: what is marked and what is left to do. -/
structure MS (s : List S) (rs : List Int) (m : Int → Bool) (td : List Int) : Prop where
  mkd : ∀ d, m d = true → Rc s rs d
  tk : ∀ d, d ∈ td → fnd s d = true → Rc s rs d
  root : ∀ d, d ∈ rs → fnd s d = true → m d = true ∨ d ∈ td
  link : ∀ d, m d = true → ∀ e, e ∈ lk s d → fnd s e = true → m e = true ∨ e ∈ td
theorem MS.start (s : List S) (rs : List Int) : MS s rs (fun _ => false) rs :=
  ⟨fun _ h => (by cases h), fun _ h1 h2 => .root h1 h2, fun _ h _ => .inr h, fun _ h => (by cases h)⟩
theorem MS.skip {s : List S} {rs : List Int} {m : Int → Bool} {td : List Int} {d : Int} (h : MS s rs m (td ++ [d])) (hd : fnd s d = false ∨ m d = true) : MS s rs m td := by
  have key : ∀ e, fnd s e = true → m e = true ∨ e ∈ td ++ [d] → m e = true ∨ e ∈ td := by
    rintro e hf (h1 | h1)
    · exact .inl h1
    · rcases List.mem_append.1 h1 with h1 | h1
      · exact .inr h1
      · rw [List.mem_singleton] at h1
        subst h1
        rcases hd with h2 | h2
        · rw [h2] at hf; cases hf
        · exact .inl h2
  exact ⟨h.mkd, fun e he => h.tk e (List.mem_append_left _ he), fun e he hf => key e hf (h.root e he hf), fun e he g hg hf => key g hf (h.link e he g hg hf)⟩
/-- The set with one more member. -/
def ins (m : Int → Bool) (d : Int) : Int → Bool := fun x => m x || decide (x = d)
theorem ins_iff {m : Int → Bool} {d x : Int} : ins m d x = true ↔ m x = true ∨ x = d := by simp [ins]
theorem MS.add {s : List S} {rs : List Int} {m : Int → Bool} {td : List Int} {d : Int} (h : MS s rs m (td ++ [d])) (hf : fnd s d = true) : MS s rs (ins m d) (td ++ lk s d) := by
  have hd : Rc s rs d := h.tk d (by simp) hf
  have key : ∀ e, m e = true ∨ e ∈ td ++ [d] → ins m d e = true ∨ e ∈ td ++ lk s d := by
    rintro e (h1 | h1)
    · exact .inl (ins_iff.2 (.inl h1))
    · rcases List.mem_append.1 h1 with h1 | h1
      · exact .inr (List.mem_append_left _ h1)
      · exact .inl (ins_iff.2 (.inr (List.mem_singleton.1 h1)))
  refine ⟨fun e he => ?_, fun e he hef => ?_, fun e he hef => key e (h.root e he hef), fun e he g hg hgf => ?_⟩
  · rcases ins_iff.1 he with h1 | rfl
    · exact h.mkd e h1
    · exact hd
  · rcases List.mem_append.1 he with h1 | h1
    · exact h.tk e (List.mem_append_left _ h1) hef
    · exact .link hd h1 hef
  · rcases ins_iff.1 he with h1 | rfl
    · exact key g (h.link e h1 g hg hgf)
    · exact .inr (List.mem_append_right _ hg)
theorem MS.done {s : List S} {rs : List Int} {m : Int → Bool} (h : MS s rs m []) (d : Int) : m d = true ↔ Rc s rs d := by
  refine ⟨h.mkd d, fun hr => hr.ind (P := fun d => m d = true) (fun x h1 h2 => ?_) (fun x y _ h2 h3 ih => ?_)⟩
  · rcases h.root _ h1 h2 with h3 | h3
    · exact h3
    · cases h3
  · rcases h.link _ ih _ h2 h3 with h4 | h4
    · exact h4
    · cases h4
/-- How many objects are not marked. -/
def un (s : List S) (m : Int → Bool) : Nat := (s.filter fun x => !m x.dig).length
theorem un_le (s : List S) (m : Int → Bool) : un s m ≤ s.length := List.length_filter_le _ _
theorem un_start (s : List S) : un s (fun _ => false) = s.length := by simp [un]
theorem un_ins_ (m : Int → Bool) (d : Int) : ∀ s : List S, un s (ins m d) ≤ un s m
  | [] => Nat.le_refl _
  | x :: s => by
    have h := un_ins_ m d s
    unfold un ins at h ⊢
    by_cases h1 : m x.dig = true
    · simpa [h1] using h
    · by_cases h2 : x.dig = d
      · have h1' : m d = false := by rw [← h2]; simpa using h1
        simp [h2, h1'] at h ⊢; omega
      · simp [h1, h2] at h ⊢; omega
theorem un_ins (m : Int → Bool) (d : Int) (hm : m d = false) : ∀ s : List S, (∃ x ∈ s, x.dig = d) → un s (ins m d) + 1 ≤ un s m
  | [], h => by obtain ⟨x, hx, _⟩ := h; cases hx
  | x :: s, h => by
    by_cases h2 : x.dig = d
    · have h3 := un_ins_ m d s
      unfold un ins at h3 ⊢
      simp [h2, hm] at h3 ⊢; omega
    · have h3 := un_ins m d hm s (by
        obtain ⟨y, hy, e⟩ := h
        rcases List.mem_cons.1 hy with rfl | hy
        · exact absurd e h2
        · exact ⟨y, hy, e⟩)
      unfold un ins at h3 ⊢
      by_cases h1 : m x.dig = true
      · simp [h1] at h3 ⊢; omega
      · simp [h1, h2] at h3 ⊢; omega
/-- The measure of the loop. -/
def ms (s : List S) (m : Int → Bool) (n : Nat) : Nat := un s m * 31 + n
theorem lk_len {s : List S} (h : StOk s) {d : Int} (hf : fnd s d = true) : (lk s d).length ≤ 30 := (h.ok _ (fnd_at hf).1).ln
theorem ms_add {s : List S} (h : StOk s) {m : Int → Bool} {d : Int} (hm : m d = false) (hf : fnd s d = true) (n : Nat) : ms s (ins m d) (n + (lk s d).length) < ms s m (n + 1) := by
  have h1 := un_ins m d hm s ((fnd_iff h.sorted d).1 hf)
  have h2 := lk_len h hf
  unfold ms; omega
/-! ### what is kept -/
/-- The objects that are kept. -/
def keep (s : List S) (m : Int → Bool) : List S := s.filter fun x => m x.dig
def gone (s : List S) (m : Int → Bool) : List Int := (s.filter fun x => !m x.dig).map S.dig
theorem keep_ok {s : List S} (h : StOk s) (m : Int → Bool) : StOk (keep s m) := h.filter _
theorem keep_fnd {s : List S} (h : StOk s) {m : Int → Bool} {d : Int} : fnd (keep s m) d = true ↔ fnd s d = true ∧ m d = true := by
  rw [fnd_iff (keep_ok h m).sorted, fnd_iff h.sorted]
  constructor
  · rintro ⟨x, hx, rfl⟩
    obtain ⟨h1, h2⟩ := List.mem_filter.1 hx
    exact ⟨⟨x, h1, rfl⟩, h2⟩
  · rintro ⟨⟨x, hx, rfl⟩, h2⟩
    exact ⟨x, List.mem_filter.2 ⟨hx, h2⟩, rfl⟩
theorem keep_lk {s : List S} (h : StOk s) {m : Int → Bool} {d : Int} (hf : fnd (keep s m) d = true) : lk (keep s m) d = lk s d := by
  obtain ⟨x, hx, rfl⟩ := (fnd_iff (keep_ok h m).sorted d).1 hf
  rw [lk_of (keep_ok h m).sorted hx, lk_of h.sorted (List.mem_filter.1 hx).1]
/-- What is reached from a root of the collection stays reached, and nothing else. -/
theorem keep_rc {s : List S} (h : StOk s) {rs : List Int} {m : Int → Bool} (hm : ∀ d, m d = true ↔ Rc s rs d) {qs : List Int} (hq : ∀ d ∈ qs, d ∈ rs) (d : Int) : Rc s qs d ↔ Rc (keep s m) qs d := by
  constructor
  · intro hr
    refine hr.ind (P := fun d => Rc (keep s m) qs d) (fun x h1 h2 => .root h1 ((keep_fnd h).2 ⟨h2, (hm _).2 (.root (hq _ h1) h2)⟩)) (fun x y h1 h2 h3 ih => ih.link ?_ ((keep_fnd h).2 ⟨h3, (hm _).2 ((h1.more hq).link h2 h3)⟩))
    rw [keep_lk h ih.has]; exact h2
  · intro hr
    refine hr.ind (P := fun d => Rc s qs d) (fun x h1 h2 => .root h1 ((keep_fnd h).1 h2).1) (fun x y h1 h2 h3 ih => ih.link ?_ ((keep_fnd h).1 h3).1)
    rw [← keep_lk h h1.has]; exact h2
/-- What 'Mark' answers: the digests that are reached, growing. -/
structure Mk (s : List S) (rs : List Int) (L : List Int) : Prop where
  up : L.Pairwise (· < ·)
  mem : ∀ d, d ∈ L ↔ Rc s rs d
theorem up_ext : ∀ {u v : List Int}, u.Pairwise (· < ·) → v.Pairwise (· < ·) → (∀ x, x ∈ u ↔ x ∈ v) → u = v
  | [], [], _, _, _ => rfl
  | [], b :: v, _, _, h => by have := (h b).2 (by simp); cases this
  | a :: u, [], _, _, h => by have := (h a).1 (by simp); cases this
  | a :: u, b :: v, hu, hv, h => by
    rw [List.pairwise_cons] at hu hv
    have e : a = b := by
      rcases List.mem_cons.1 ((h a).1 (by simp)) with e | h1
      · exact e
      · rcases List.mem_cons.1 ((h b).2 (by simp)) with e | h2
        · exact e.symm
        · have := hv.1 a h1
          have := hu.1 b h2
          omega
    subst e
    congr 1
    refine up_ext hu.2 hv.2 (fun x => ?_)
    constructor
    · intro hx
      rcases List.mem_cons.1 ((h x).1 (List.mem_cons_of_mem _ hx)) with e | h1
      · subst e; have := hu.1 x hx; omega
      · exact h1
    · intro hx
      rcases List.mem_cons.1 ((h x).2 (List.mem_cons_of_mem _ hx)) with e | h1
      · subst e; have := hv.1 x hx; omega
      · exact h1
/-- The law: both marks answer alike. -/
theorem Mk.same {s : List S} (h : StOk s) {rs : List Int} {m : Int → Bool} (hm : ∀ d, m d = true ↔ Rc s rs d) {qs a b : List Int} (hq : ∀ d ∈ qs, d ∈ rs) (ha : Mk s qs a) (hb : Mk (keep s m) qs b) : a = b :=
  up_ext ha.up hb.up fun x => (ha.mem x).trans ((keep_rc h hm hq x).trans (hb.mem x).symm)
/-- A collected list that is sorted is what 'Mark' answers. -/
theorem Mk.of_sorted {s : List S} {rs : List Int} {m : Int → Bool} (hm : ∀ d, m d = true ↔ Rc s rs d) {c L : List Int} (hc : c.Nodup) (hcm : ∀ d, d ∈ c ↔ m d = true) (hp : L.Perm c) (hs : L.Pairwise (· ≤ ·)) : Mk s rs L := by
  refine ⟨?_, fun d => hp.mem_iff.trans ((hcm d).trans (hm d))⟩
  have hn : L.Nodup := hp.nodup_iff.2 hc
  refine (hs.and hn).imp ?_
  rintro a b ⟨h1, h2⟩
  omega
end Gc
namespace Go.Proofs.YtipjejnncnndeaaGreatDoor
open Go.RowKit Go.V
open Go.Maps (Keyed)
set_option linter.unusedVariables false

theorem key3 : Keyed Tryz.prog 3 := Maps.int_keyed Tryz.underlying3
theorem zero4 (w : World) : (zeroValue 4).run Tryz.prog w = .ok (.bool false) w := by kernel_rfl
theorem plainElem_bool_inv {H : Type} {P : Program} {e : TypeId} (he : P.underlying e = some .bool) {v : Value} {z : DataW H × List MemPlace} (h : plainElem P e v = some z) : ∃ a, v = .bool a ∧ z = (.lit (.bool a), []) := by
  unfold plainElem at h
  rw [he] at h
  cases v <;> simp at h
  subst h
  exact ⟨_, rfl, rfl⟩
theorem i64_wf {x : Int} (hx : I64 x) : (Lit.int .i64 x).wf = true := by
  exact WalkArith.wf_i64 hx
theorem key_of {x : Int} (hx : I64 x) : keyOf Tryz.prog 3 (.int .i64 x) = some (.int .i64 x) := Maps.keyOf_int_mk Tryz.underlying3 (i64_wf hx)
/-- The datum is the set m. -/
structure SetD (D : DataW Unit) (m : Int → Bool) : Prop where
  map : Maps.IsMap D
  has : ∀ x : Int, Maps.has D (.int .i64 x) = m x
  at_ : ∀ x : Int, D.atKey (.int .i64 x) (.lit (.bool false)) = .lit (.bool (m x))
theorem SetD.empty : SetD (.map []) (fun _ => false) := ⟨Maps.isMap_empty, fun _ => rfl, fun _ => rfl⟩
theorem lit_ne {x y : Int} (h : x ≠ y) : (Lit.int .i64 x) ≠ Lit.int .i64 y := fun e => h (by injection e)
theorem SetD.put {D : DataW Unit} {m : Int → Bool} (h : SetD D m) {d : Int} (hd : I64 d) : SetD (D.put (.int .i64 d) (.lit (.bool true))) (Gc.ins m d) := by
  have hk : WideAt.IsKeyLit (Lit.int .i64 d) := key3.key (key_of hd)
  refine ⟨h.map.put _ _, fun x => ?_, fun x => ?_⟩
  · by_cases e : x = d
    · subst e; rw [Maps.has_put_same h.map hk]; simp [Gc.ins]
    · rw [Maps.has_put_other (lit_ne e), h.has]; simp [Gc.ins, e]
  · by_cases e : x = d
    · subst e; rw [Maps.atKey_put_same h.map hk]; simp [Gc.ins]
    · rw [Maps.atKey_put_other (lit_ne e), h.at_]; simp [Gc.ins, e]
/-- Block b is the set m: at most n members have been laid into it. -/
def SetV (w : World) (b n : Nat) (m : Int → Bool) : Prop := ∃ D : DataW Unit, w.ownsMap Tryz.prog 3 (plainElem Tryz.prog 4) b n D ∧ SetD D m
section
variable {w w' : World} {b n : Nat} {m : Int → Bool}
theorem SetV.made (w : World) : SetV (w.alloc (.map #[] 0)) w.heap.size 0 (fun _ => false) := ⟨_, World.ownsMap_made w _ _ _, SetD.empty⟩
theorem SetV.lt (h : SetV w b n m) : b < w.heap.size := by obtain ⟨D, h1, _⟩ := h; exact h1.lt
theorem SetV.kept {row : Option Nat} (h : SetV w b n m) (hg : w.grownBy w' row) (hne : some b ≠ row) : SetV w' b n m := by obtain ⟨D, h1, h2⟩ := h; exact ⟨D, h1.kept hg hne, h2⟩
theorem SetV.below (h : SetV w b n m) (hb : Below w.heap.size w w') : SetV w' b n m := h.kept (only_of_below hb none) (by simp)
theorem SetV.alloc (h : SetV w b n m) (o : Obj) : SetV (w.alloc o) b n m := by obtain ⟨D, h1, h2⟩ := h; exact ⟨D, h1.alloc o, h2⟩
theorem SetV.drewN (h : SetV w b n m) (k : Nat) : SetV (w.drewN k) b n m := h.below (w' := w.drewN k) (Go.V.below_drewN (Below.refl w.heap.size w) k)
theorem SetV.setCell (h : SetV w b n m) {a : Addr} (ha : b ≠ a.block) (u : Value) : SetV (w.setCell a u) b n m := by obtain ⟨D, h1, h2⟩ := h; exact ⟨D, h1.setCell ha u, h2⟩
theorem SetV.look (h : SetV w b n m) {x : Int} (hx : I64 x) : (Instr.lookup 53 (.map (some b)) (.int .i64 x) false).run Tryz.prog w = .ok (.bool (m x)) w := by
  obtain ⟨D, h1, h2⟩ := h
  obtain ⟨v, ps, hrun, hv⟩ := h1.lookup key3 Tryz.underlying53 (zero4 w) (plainElem_bool (H := Unit) Tryz.underlying4 false) (key_of hx)
  obtain ⟨c, rfl, hc⟩ := plainElem_bool_inv Tryz.underlying4 hv
  simp only [Prod.mk.injEq] at hc
  rw [h2.at_ x] at hc
  have e : m x = c := by simpa using hc.1
  rw [e]; exact hrun
theorem SetV.put (h : SetV w b n m) (hn : n < maxLen) {x : Int} (hx : I64 x) : ∃ w', (Instr.mapUpdate 53 (.map (some b)) (.int .i64 x) (.bool true)).run Tryz.prog w = .ok () w' ∧ SetV w' b (n + 1) (Gc.ins m x) ∧ w.grownBy w' (some b) := by
  obtain ⟨D, h1, h2⟩ := h
  obtain ⟨w', hrun, k1, k2⟩ := h1.update key3 Tryz.underlying53 hn (key_of hx) (plainElem_bool (H := Unit) Tryz.underlying4 true)
  exact ⟨w', hrun, ⟨_, k1, h2.put hx⟩, k2⟩
end
/-- The members that a range has met so far. -/
structure Got (m : Int → Bool) (left : Lit → Bool) (c : List Int) : Prop where
  nd : c.Nodup
  mem : ∀ d, d ∈ c ↔ m d = true ∧ left (.int .i64 d) = false
  all : ∀ d ∈ c, I64 d
theorem Got.start {D : DataW Unit} {m : Int → Bool} (h : SetD D m) : Got m (Maps.has D) [] :=
  ⟨List.nodup_nil, fun d => ⟨fun hd => by simp at hd, fun ⟨h1, h2⟩ => by rw [h.has, h1] at h2; cases h2⟩, fun d hd => by simp at hd⟩
theorem Got.step {D : DataW Unit} {m : Int → Bool} {left : Lit → Bool} {c : List Int} (hD : SetD D m) (h : Got m left c) {x : Int} (hx : I64 x) (hl : left (.int .i64 x) = true) {y : DataW Unit} (hat : ∀ zd, D.atKey (.int .i64 x) zd = y) :
    Got m (fun z => left z && !z.sameKey (.int .i64 x)) (c ++ [x]) := by
  have hm : m x = true := by rw [← hD.has]; exact Maps.has_true_of_atKey hat
  have hnot : x ∉ c := fun e => by have := ((h.mem x).1 e).2; rw [hl] at this; cases this
  have hk : WideAt.IsKeyLit (Lit.int .i64 x) := key3.key (key_of hx)
  refine ⟨?_, fun d => ?_, fun d hd => ?_⟩
  · rw [List.nodup_append]
    refine ⟨h.nd, by simp, fun a ha b hb => ?_⟩
    rw [List.mem_singleton] at hb
    subst hb
    exact fun e => hnot (e ▸ ha)
  · rw [List.mem_append, List.mem_singleton, h.mem]
    by_cases e : d = x
    · subst e
      rw [hm, WideAt.sameKey_self hk]; simp
    · rw [Maps.sameKey_ne (lit_ne e)]; simp [e]
  · rcases List.mem_append.1 hd with h1 | h1
    · exact h.all d h1
    · rw [List.mem_singleton] at h1; subst h1; exact hx
theorem Got.done {m : Int → Bool} {left : Lit → Bool} {c : List Int} (h : Got m left c) (hl : ∀ kl, left kl = false) (d : Int) : d ∈ c ↔ m d = true := by rw [h.mem, hl]; simp
/-- The step of a range over a set. -/
theorem wpList_next_set (w : World) {ops : Array Oper} {rest : List Oper} {o : Oper} {a : Act} {Q : Exit → Act → World → Prop} (hg : o.guard = none) (it : Operand) (hop : o.op = Op.next it false) (b r n : Nat) (D : DataW Unit) (left : Lit → Bool) (cnt : Nat)
    (hit : a.eval it = .pointer (some ⟨r, 0, none⟩)) (h : w.ranges Tryz.prog 3 (plainElem Tryz.prog 4) b r n D left cnt)
    (hDone : (∀ kl, left kl = false) → wpList Tryz.prog ops Q rest (a.put o.dst (.tuple #[.bool false])) w)
    (hMore : ∀ (x : Int) (v : Value) (y : DataW Unit) (w' : World) (cnt' : Nat), I64 x → left (.int .i64 x) = true → (∀ zd, D.atKey (.int .i64 x) zd = y) → w'.ranges Tryz.prog 3 (plainElem Tryz.prog 4) b r n D (fun z => left z && !z.sameKey (.int .i64 x)) cnt' → cnt' < cnt →
      w.grownBy w' (some r) → w'.heap.size = w.heap.size → (Instr.entry (.pointer (some ⟨r, 0, none⟩))).run Tryz.prog w' = .ok (.tuple #[.int .i64 x, v]) w' → wpList Tryz.prog ops Q rest (a.put o.dst (.tuple #[.bool true, .int .i64 x, v])) w') :
    wpList Tryz.prog ops Q (o :: rest) a w :=
  wpList_next_ranges w hg it hop 3 key3 (plainElem Tryz.prog 4) (Value.int .i64) (id : Value → Value) (fun key kl hkey => by obtain ⟨x, rfl, _⟩ := Maps.keyOf_int_inv Tryz.underlying3 hkey; exact ⟨x, rfl⟩) (fun v y hv => ⟨v, rfl⟩)
    b r n D left cnt hit h (fun _ hl => hDone hl) (fun x v kl y w' cnt' hkey hlk hv hat hrg hlt hgr hsz hen => by
      obtain ⟨x', ex, rfl, hwx⟩ := Maps.keyOf_int_inv Tryz.underlying3 hkey
      cases ex
      refine hMore x v y.1 w' cnt' ?_ hlk hat hrg hlt hgr hsz hen
      unfold I64
      simp only [Lit.wf, decide_eq_true_eq, Bool.and_eq_true] at hwx
      first | exact hwx | (simp [IntKind.min, IntKind.max] at hwx; omega))
end Go.Proofs.YtipjejnncnndeaaGreatDoor
