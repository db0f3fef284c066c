/-
  Objects: walk of 'Validate'.
  Objects: walk of 'CopyObject'.
  Views, fourteenth part: an append at a step of a region that draws its order, and which block the row then owns.
  Objects: walk of 'Copy'.
  Views, fifteenth part: 'copy' into a block that is known whole; 'append(s[:i], make(S, k)...)' that grows.
  Views, fourth part: opening slices of structs; what the reach says of lengths.
  Views, seventh part: a []int and a []bool that came in.
-/
import Derived.Test.YtjljknocnebnaaaGreatDoorG02
import Derived.Test.YtjljknocnebnaaaGreatDoorG01
import Derived.Laws.CopyRow
import Derived.Laws.Externs
import Derived.Lib.Overlaps
import Derived.Lib.AppendZerosOnto
import Derived.Deep.Slices
import Derived.Deep.Fields
import Derived.ChangeSame
import Derived.Deep.Grids
namespace Go.Proofs.YtjljknocnebnaaaGreatDoor
open Go.RowKit Go.V
set_option linter.unusedVariables false

/-- The value of a store. -/
abbrev stV (A : Option Addr) (n k : Nat) : Value := .agg #[.slice A n k]
/-- The state of the loops over a store: the parameter's copy and the result's cells. -/
structure VaSt (w wr : World) (A : Option Addr) (n k : Nat) : Prop where
  box : Blk wr w.heap.size 24 #[.slice A n k]
  res : Blk wr (w.heap.size + 1) 28 #[.int .i64 0, .int .i64 0]
  bel : Below w.heap.size w wr
theorem VaSt.below {w wr w' : World} {A : Option Addr} {n k : Nat} (h : VaSt w wr A n k) (hb : Below wr.heap.size wr w') : VaSt w w' A n k :=
  ⟨h.box.below hb h.box.lt, h.res.below hb h.res.lt, h.bel.trans (hb.mono h.bel.size)⟩
theorem VaSt.alloc {w wr : World} {A : Option Addr} {n k : Nat} (h : VaSt w wr A n k) (o : Obj) : VaSt w (wr.alloc o) A n k := h.below (below_alloc1 _ _)
theorem VaSt.drewN {w wr : World} {A : Option Addr} {n k : Nat} (h : VaSt w wr A n k) (q : Nat) : VaSt w (wr.drewN q) A n k := h.below (below_drewN (Below.refl _ _) _)
set_option maxRecDepth 100000 in
set_option maxHeartbeats 16000000 in
theorem validate_any (w : World) (A : Option Addr) (k : Nat) (s : List Ob.S) (hv : StV w Free A s) (hl64 : s.length ≤ 9223372036854775807) :
    Calls Tryz.prog 21 #[stV A s.length k] w (FaultPost w (Ob.stF s)) := by
  by_cases hl : 40 < s.length
  · have H := Lib.hid (show Ob.stF s = (2, 0) from by unfold Ob.stF; rw [if_pos hl])
    have hl' : (40 : Int) < s.length := by omega
    clear hv
    go_enter Tryz.func21, Tryz.ntmps21
    go_wp2_with fail
    refine bodyPost_ret (results_c rfl _ _ (w.heap.size + 1) (.int .i64 2) (.int .i64 0) rfl (blk_new1 _ _ _ _)) rfl (FaultPost.mk_ H.out ?_)
    exact below_alloc2 _ _ _
  · have hl' : (s.length : Int) ≤ 40 := by omega
    have H := Lib.hid (show Ob.stF s = Ob.stFrom s 0 from by unfold Ob.stF; rw [if_neg hl])
    have HROW := Lib.hid (fun (w' : World) (hb : Below w.heap.size w w') i hi => (hv.keep (free_below hb)).row (w := w') i hi)
    clear hv hl
    go_enter Tryz.func21, Tryz.ntmps21
    go_wp2_with fail
    go_loopw [15] (fun v wr => ∃ i : Nat, i ≤ s.length ∧ v = .int .i64 i ∧ VaSt w wr A s.length k ∧ Hid (Ob.stFrom s 0 = Ob.stFrom s i)) (fun v _ => s.length - (intOf v).toNat)
    case atStart => exact ⟨0, Nat.zero_le _, rfl, ⟨(Blk.new _ _ _).alloc _, blk_new1 _ _ _ _, below_alloc2 _ _ _⟩, Lib.hid rfl⟩
    case round =>
      obtain ⟨i, hi, rfl, st, HJ⟩ := hrel
      obtain ⟨wo, rfl⟩ : ∃ wo : World, wo = wr := ⟨_, rfl⟩
      have hsz := st.bel.size
      have hlt0 := st.res.lt
      by_cases hlt : i < s.length
      · have hlt' : (i : Int) < s.length := by omega
        obtain ⟨b, off, Al, kl, Ad, kd, e, hb, _, d0, d1, d2, d3, hx, hob⟩ := HROW.out _ st.bel i hlt
        subst e
        have HC1 := Lib.hid (Ob.stFrom_next s i hlt)
        have HC2 := Lib.hid (Ob.stFrom_bad s i hlt)
        have HCO := Lib.hid (Ob.code.eq_1 s i)
        have HBAD := Lib.hid (fun (h : Ob.code s i ≠ 0) => show Ob.stF s = (Ob.code s i, (i : Int)) from by rw [H.out, HJ.out, HC2.out h])
        unfold I64 at hx
        by_cases hf : (Ob.obF (Ob.it s i).ob).1 ≠ 0
        · have HD := Lib.hid (fun (w' : World) (hb : Below wo.heap.size wo w') => digest_bad w' (Ob.it s i).ob Al kl Ad kd (hob.keep (free_below hb)) hf)
          have hcc : Ob.code s i = (Ob.obF (Ob.it s i).ob).1 := by rw [HCO.out, if_pos hf]
          have HB := Lib.hid (show Ob.stF s = ((Ob.obF (Ob.it s i).ob).1, (i : Int)) from by rw [HBAD.out (by rw [hcc]; exact hf), hcc])
          have hf1 : ((Ob.obF (Ob.it s i).ob).1 == 0) = false := by simpa using hf
          have hf2 : ((Ob.obF (Ob.it s i).ob).1 != 0) = true := by simpa using hf
          clear HC1 HC2 HCO HBAD hcc hob hf
          generalize Ob.it s i = x at *
          generalize Ob.obF x.ob = r at *
          obtain ⟨cd, ix⟩ := r
          obtain ⟨xd, kk, ls, da⟩ := x
          simp only at *
          go_wp2_with fail
          go_at_call 36
          refine (HD.out _ (below_alloc1 _ _)).mono ?_
          rintro e w2 ⟨rfl, hb2'⟩
          have hb2 : Below wo.heap.size wo w2 := (below_alloc1 wo (.cells #[.int .i64 xd, .int .i64 kk, .slice Al ls.length kl, .slice Ad da.length kd] 58)).trans (hb2'.mono (by simp))
          have st2 := st.below hb2
          have hlt2 := st2.res.lt
          have hf0 := st2.res.frozen 0
          have hf1' := st2.res.frozen 1
          have hc0 := st2.res.cell 0
          have hc1 := st2.res.cell 1
          simp only [List.getElem?_toArray, List.getElem?_cons_zero, List.getElem?_cons_succ] at hc0 hc1
          have hsz2 := st2.bel.size
          clear hb2 hb2' st HD
          go_wp2_with fail
          refine bodyPost_ret (results_c rfl _ _ (w.heap.size + 1) (.int .i64 cd) (.int .i64 i) rfl ((blk_put2 st2.res _ _).alloc _)) rfl (FaultPost.mk_ HB.out ?_)
          exact (((st2.bel.setCell (by simp) _).setCell (by simp) _).alloc (by simp; omega) _)
        · have hok : Ob.Ok (Ob.it s i).ob := (Ob.obF_ok (by simpa using hf)).2
          have HD := Lib.hid (fun (w' : World) (hb : Below wo.heap.size wo w') => digest_ok w' (Ob.it s i).ob Al kl Ad kd (hob.keep (free_below hb)) hok)
          have hcp := Lib.hid (HCO.out.trans (if_neg hf))
          clear HCO hob hok hf
          by_cases hd : ((Ob.dig (Ob.it s i).ob : Nat) : Int) ≠ (Ob.it s i).dig
          · have hcc : Ob.code s i = 18 := by rw [hcp.out, if_pos hd]
            have HB := Lib.hid (show Ob.stF s = (18, (i : Int)) from by rw [HBAD.out (by rw [hcc]; decide), hcc])
            have hd1 : (((Ob.dig (Ob.it s i).ob : Nat) : Int) == (Ob.it s i).dig) = false := by simpa using hd
            have hd2 : (((Ob.dig (Ob.it s i).ob : Nat) : Int) != (Ob.it s i).dig) = true := bne_iff_ne.2 hd
            clear HC1 HC2 HBAD hcp hcc hd
            generalize Ob.it s i = x at *
            generalize Ob.dig x.ob = dg at *
            obtain ⟨xd, kk, ls, da⟩ := x
            simp only at *
            go_wp2_with fail
            go_at_call 36
            refine (HD.out _ (below_alloc1 _ _)).mono ?_
            rintro e w2 ⟨rfl, hb2'⟩
            have hb2 : Below wo.heap.size wo w2 := (below_alloc1 wo (.cells #[.int .i64 xd, .int .i64 kk, .slice Al ls.length kl, .slice Ad da.length kd] 58)).trans (hb2'.mono (by simp))
            have hBx := ((Blk.new wo 58 #[.int .i64 xd, .int .i64 kk, .slice Al ls.length kl, .slice Ad da.length kd]).below hb2' (by simp))
            have hcx := hBx.cell 0
            have hlx := hBx.lt
            have st2 := st.below hb2
            have hlt2 := st2.res.lt
            have hf0 := st2.res.frozen 0
            have hf1' := st2.res.frozen 1
            have hc0 := st2.res.cell 0
            have hc1 := st2.res.cell 1
            have hbx0 := st2.box.cell 0
            simp only [List.getElem?_toArray, List.getElem?_cons_zero, List.getElem?_cons_succ] at hc0 hc1 hbx0 hcx
            have hsz2 := st2.bel.size
            have hlbx := st2.box.lt
            clear hb2 hb2' st HD
            go_wp2_with fail
            refine bodyPost_ret (results_c rfl _ _ (w.heap.size + 1) (.int .i64 18) (.int .i64 i) rfl ((blk_put2 st2.res _ _).alloc _)) rfl (FaultPost.mk_ HB.out ?_)
            exact (((st2.bel.setCell (by simp) _).setCell (by simp) _).alloc (by simp; omega) _)
          · have hcq := Lib.hid (hcp.out.trans (if_neg hd))
            have hde : ((Ob.dig (Ob.it s i).ob : Nat) : Int) = (Ob.it s i).dig := by omega
            by_cases hi0 : i = 0
            · have hcc : Ob.code s i = 0 := by rw [hcq.out, if_neg (by omega)]
              have HJ2 := Lib.hid (HJ.out.trans (HC1.out hcc))
              have hz1 : decide ((0 : Int) < (i : Int)) = false := by simp; omega
              have hz2 : decide (0 < i) = false := by simp; omega
              clear HC1 HC2 HBAD hcp hcq hcc hd hi0
              generalize Ob.it s i = x at *
              generalize Ob.dig x.ob = dg at *
              obtain ⟨xd, kk, ls, da⟩ := x
              simp only at *
              subst hde
              have hd1 : ((dg : Int) == (dg : Int)) = true := by simp
              have hd2 : ((dg : Int) != (dg : Int)) = false := by simp
              go_wp2_with fail
              go_at_call 36
              refine (HD.out _ (below_alloc1 _ _)).mono ?_
              rintro e w2 ⟨rfl, hb2'⟩
              have hb2 : Below wo.heap.size wo w2 := (below_alloc1 wo (.cells #[.int .i64 dg, .int .i64 kk, .slice Al ls.length kl, .slice Ad da.length kd] 58)).trans (hb2'.mono (by simp))
              have hBx := ((Blk.new wo 58 #[.int .i64 dg, .int .i64 kk, .slice Al ls.length kl, .slice Ad da.length kd]).below hb2' (by simp))
              have hcx := hBx.cell 0
              have hlx := hBx.lt
              have st2 := st.below hb2
              have hlt2 := st2.res.lt
              have hf0 := st2.res.frozen 0
              have hf1' := st2.res.frozen 1
              have hc0 := st2.res.cell 0
              have hc1 := st2.res.cell 1
              have hbx0 := st2.box.cell 0
              simp only [List.getElem?_toArray, List.getElem?_cons_zero, List.getElem?_cons_succ] at hc0 hc1 hbx0 hcx
              have hsz2 := st2.bel.size
              have hlbx := st2.box.lt
              clear hb2 hb2' st HD
              go_wp2_with fail
              go_roundw
              case rel => exact ⟨i + 1, by omega, by go_num, st2.alloc _, HJ2⟩
              case measure => simp [intOf]; omega
            · have hz1 : decide ((0 : Int) < (i : Int)) = true := by simp; omega
              have hz2 : decide (0 < i) = true := by simp; omega
              have hz3 : (0 : Int) ≤ (i : Int) - 1 := by omega
              have hz4 : (i : Int) - 1 < s.length := by omega
              obtain ⟨b', off', Al', kl', Ad', kd', e', hb', _, d0', _, _, _, hx', _⟩ := HROW.out _ st.bel (i - 1) (by omega)
              cases e'
              by_cases hle : (Ob.it s i).dig ≤ (Ob.it s (i - 1)).dig
              · have hcc : Ob.code s i = 5 := by rw [hcq.out, if_pos ⟨by omega, hle⟩]
                have HB := Lib.hid (show Ob.stF s = (5, (i : Int)) from by rw [HBAD.out (by rw [hcc]; decide), hcc])
                have hle' : decide ((Ob.it s i).dig ≤ (Ob.it s (i - 1)).dig) = true := by simpa using hle
                clear HC1 HC2 HBAD hcp hcq hcc hd hi0 hle
                generalize (Ob.it s (i - 1)).dig = pd at *
                generalize Ob.it s i = x at *
                generalize Ob.dig x.ob = dg at *
                obtain ⟨xd, kk, ls, da⟩ := x
                simp only at *
                subst hde
                have hd1 : ((dg : Int) == (dg : Int)) = true := by simp
                have hd2 : ((dg : Int) != (dg : Int)) = false := by simp
                go_wp2_with fail
                go_at_call 36
                refine (HD.out _ (below_alloc1 _ _)).mono ?_
                rintro e w2 ⟨rfl, hb2'⟩
                have hb2 : Below wo.heap.size wo w2 := (below_alloc1 wo (.cells #[.int .i64 dg, .int .i64 kk, .slice Al ls.length kl, .slice Ad da.length kd] 58)).trans (hb2'.mono (by simp))
                have hBx := ((Blk.new wo 58 #[.int .i64 dg, .int .i64 kk, .slice Al ls.length kl, .slice Ad da.length kd]).below hb2' (by simp))
                have hcx := hBx.cell 0
                have hlx := hBx.lt
                have hpd := (hb2.cell (p := ⟨b, off + (i - 1) * 4, none⟩) hb).trans d0'
                have hbb : b < w2.heap.size := Nat.lt_of_lt_of_le hb hb2.size
                have st2 := st.below hb2
                have hlt2 := st2.res.lt
                have hf0 := st2.res.frozen 0
                have hf1' := st2.res.frozen 1
                have hc0 := st2.res.cell 0
                have hc1 := st2.res.cell 1
                have hbx0 := st2.box.cell 0
                simp only [List.getElem?_toArray, List.getElem?_cons_zero, List.getElem?_cons_succ] at hc0 hc1 hbx0 hcx
                have hsz2 := st2.bel.size
                have hlbx := st2.box.lt
                clear hb2 hb2' st HD
                go_wp2_with fail
                refine bodyPost_ret (results_c rfl _ _ (w.heap.size + 1) (.int .i64 5) (.int .i64 i) rfl ((blk_put2 st2.res _ _).alloc _)) rfl (FaultPost.mk_ HB.out ?_)
                exact (((st2.bel.setCell (by simp) _).setCell (by simp) _).alloc (by simp; omega) _)
              · have hcc : Ob.code s i = 0 := by rw [hcq.out, if_neg (by rintro ⟨_, h⟩; exact hle h)]
                have HJ2 := Lib.hid (HJ.out.trans (HC1.out hcc))
                have hle' : decide ((Ob.it s i).dig ≤ (Ob.it s (i - 1)).dig) = false := by simpa using hle
                clear HC1 HC2 HBAD hcp hcq hcc hd hi0 hle
                generalize (Ob.it s (i - 1)).dig = pd at *
                generalize Ob.it s i = x at *
                generalize Ob.dig x.ob = dg at *
                obtain ⟨xd, kk, ls, da⟩ := x
                simp only at *
                subst hde
                have hd1 : ((dg : Int) == (dg : Int)) = true := by simp
                have hd2 : ((dg : Int) != (dg : Int)) = false := by simp
                go_wp2_with fail
                go_at_call 36
                refine (HD.out _ (below_alloc1 _ _)).mono ?_
                rintro e w2 ⟨rfl, hb2'⟩
                have hb2 : Below wo.heap.size wo w2 := (below_alloc1 wo (.cells #[.int .i64 dg, .int .i64 kk, .slice Al ls.length kl, .slice Ad da.length kd] 58)).trans (hb2'.mono (by simp))
                have hBx := ((Blk.new wo 58 #[.int .i64 dg, .int .i64 kk, .slice Al ls.length kl, .slice Ad da.length kd]).below hb2' (by simp))
                have hcx := hBx.cell 0
                have hlx := hBx.lt
                have hpd := (hb2.cell (p := ⟨b, off + (i - 1) * 4, none⟩) hb).trans d0'
                have hbb : b < w2.heap.size := Nat.lt_of_lt_of_le hb hb2.size
                have st2 := st.below hb2
                have hlt2 := st2.res.lt
                have hf0 := st2.res.frozen 0
                have hf1' := st2.res.frozen 1
                have hc0 := st2.res.cell 0
                have hc1 := st2.res.cell 1
                have hbx0 := st2.box.cell 0
                simp only [List.getElem?_toArray, List.getElem?_cons_zero, List.getElem?_cons_succ] at hc0 hc1 hbx0 hcx
                have hsz2 := st2.bel.size
                have hlbx := st2.box.lt
                clear hb2 hb2' st HD
                go_wp2_with fail
                go_roundw
                case rel => exact ⟨i + 1, by omega, by go_num, st2.alloc _, HJ2⟩
                case measure => simp [intOf]; omega
      · obtain rfl : i = s.length := by omega
        have hf0 := st.res.frozen 0
        have hf1' := st.res.frozen 1
        have hc0 := st.res.cell 0
        have hc1 := st.res.cell 1
        simp only [List.getElem?_toArray, List.getElem?_cons_zero, List.getElem?_cons_succ] at hc0 hc1
        go_wp2_with fail
        refine bodyPost_ret (results_c rfl _ _ (w.heap.size + 1) (.int .i64 0) (.int .i64 0) rfl (blk_put2 st.res _ _)) rfl (FaultPost.mk_ ?_ ?_)
        · rw [H.out, HJ.out, Ob.stFrom_end s _ (Nat.le_refl _)]
        · exact (st.bel.setCell (by simp) _).setCell (by simp) _
end Go.Proofs.YtjljknocnebnaaaGreatDoor
namespace Go.Proofs.YtjljknocnebnaaaGreatDoor
open Go.RowKit Go.V
set_option linter.unusedVariables false

theorem results_c44 {fn : Func} {a : Tmp} (h : fn.results = #[.cell a 56]) (tmps : Array Value) (w : World) (g : Nat) (x y z : Value) (ha : tmps.getD a undef = .pointer (some ⟨g, 0, none⟩)) (hb : Blk w g 56 #[x, y, z]) :
    (results fn tmps).run Tryz.prog w = .ok (.agg #[x, y, z]) w := by
  have h0 := hb.cell 0
  have h1 := hb.cell 1
  have h2 := hb.cell 2
  simp only [List.getElem?_toArray, List.getElem?_cons_zero, List.getElem?_cons_succ] at h0 h1 h2
  have ha' : tmps[a]?.getD undef = .pointer (some ⟨g, 0, none⟩) := by simpa using ha
  simp [results, h, go_sem, ha', h0, h1, h2]
theorem results_c24 {fn : Func} {a : Tmp} (h : fn.results = #[.cell a 24]) (tmps : Array Value) (w : World) (g : Nat) (x : Value) (ha : tmps.getD a undef = .pointer (some ⟨g, 0, none⟩)) (hb : Blk w g 24 #[x]) :
    (results fn tmps).run Tryz.prog w = .ok (.agg #[x]) w := by
  have h0 := hb.cell 0
  simp only [List.getElem?_toArray, List.getElem?_cons_zero] at h0
  have ha' : tmps[a]?.getD undef = .pointer (some ⟨g, 0, none⟩) := by simpa using ha
  simp [results, h, go_sem, ha', h0]
theorem blk_put3 {w : World} {g : Nat} {t : TypeId} {a b c : Value} (h : Blk w g t #[a, b, c]) (x y z : Value) : Blk (((w.setCell ⟨g, 0, none⟩ x).setCell ⟨g, 1, none⟩ y).setCell ⟨g, 2, none⟩ z) g t #[x, y, z] := by
  have := ((h.set_ 0 x).set_ 1 y).set_ 2 z
  simpa using this
/-- What 'CopyObject' answers. -/
def CoPost (w : World) (o : Ob.O) (e : Ending) (w' : World) : Prop := ∃ A1 k1 A2 k2, e = .returned (obV o A1 k1 A2 k2) ∧ ObA w' (Under w.heap.size) o A1 k1 A2 k2 ∧ Below w.heap.size w w'
set_option maxRecDepth 100000 in
set_option maxHeartbeats 8000000 in
theorem copyObject_any (w : World) (o : Ob.O) (Al : Option Addr) (kl : Nat) (Ad : Option Addr) (kd : Nat) (h : ObA w Free o Al kl Ad kd) (hl : o.links.length * 8 ≤ 140737488351232) :
    Calls Tryz.prog 42 #[obV o Al kl Ad kd] w (CoPost w o) := by
  have HC61 := Lib.hid (fun (w' : World) (hb : Below w.heap.size w w') => clone61_any w' Al kl o.links (h.ls.keep (free_below hb)).sv hl)
  have HC62 := Lib.hid (fun (w' : World) (hb : Below w.heap.size w w') => clone62_any w' Ad kd o.data (h.ds.keep (free_below hb)).sv (by have := h.dl; omega))
  have HF : Hid (∀ (w' : World) A1 k1 A2 k2, o.links.length ≤ k1 → o.data.length ≤ k2 → SA w' (Under w.heap.size) A1 (intsV o.links) → SA w' (Under w.heap.size) A2 (bytesV o.data) → Below w.heap.size w w' → CoPost w o (.returned (obV o A1 k1 A2 k2)) w') :=
    Lib.hid fun w' A1 k1 A2 k2 g1 g2 s1 s2 hb => ⟨A1, k1, A2, k2, rfl, ⟨h.kind, h.all, g1, g2, h.ll, h.dl, s1, s2⟩, hb⟩
  clear h
  obtain ⟨kk, ls, da⟩ := o
  simp only at HC61 HC62 HF hl ⊢
  generalize CoPost w _ = R at *
  have hbw : Below w.heap.size w ((w.alloc (.cells #[.int .i64 kk, .slice Al ls.length kl, .slice Ad da.length kd] 56)).alloc (.cells #[.int .i64 0, .slice none 0 0, .slice none 0 0] 56)) := below_alloc2 _ _ _
  have hbox := (Blk.new w 56 #[.int .i64 kk, .slice Al ls.length kl, .slice Ad da.length kd]).alloc (.cells #[.int .i64 0, .slice none 0 0, .slice none 0 0] 56)
  have hres := blk_new1 w (.cells #[.int .i64 kk, .slice Al ls.length kl, .slice Ad da.length kd] 56) 56 #[.int .i64 0, .slice none 0 0, .slice none 0 0]
  go_enter Tryz.func42, Tryz.ntmps42
  go_wp2_with fail
  generalize hwo : (w.alloc (.cells #[.int .i64 kk, .slice Al ls.length kl, .slice Ad da.length kd] 56)).alloc (.cells #[.int .i64 0, .slice none 0 0, .slice none 0 0] 56) = wo at *
  have hsz : wo.heap.size = w.heap.size + 2 := by rw [← hwo]; simp
  have HSZ := Lib.hid hsz
  clear hwo hsz
  have HK : Hid (∀ w6 : World, Below wo.heap.size wo w6 → w6.cell? ⟨w.heap.size, 0, none⟩ = some (.int .i64 kk) ∧ w6.cell? ⟨w.heap.size, 1, none⟩ = some (.slice Al ls.length kl) ∧ w6.cell? ⟨w.heap.size, 2, none⟩ = some (.slice Ad da.length kd)) := Lib.hid fun w6 h6 =>
    ⟨((hbox.below h6 hbox.lt).cell 0).trans rfl, ((hbox.below h6 hbox.lt).cell 1).trans rfl, ((hbox.below h6 hbox.lt).cell 2).trans rfl⟩
  have hk0 : Below wo.heap.size wo wo.drew := below_drew' (Below.refl _ _)
  have HR : Hid (∀ w6 : World, Below wo.heap.size wo w6 → w6.cell? ⟨w.heap.size + 1, 0, none⟩ = some (.int .i64 0) ∧ w6.cell? ⟨w.heap.size + 1, 1, none⟩ = some (.slice none 0 0) ∧ w6.cell? ⟨w.heap.size + 1, 2, none⟩ = some (.slice none 0 0) ∧
      w6.frozen? ⟨w.heap.size + 1, 0, none⟩ = false ∧ w6.frozen? ⟨w.heap.size + 1, 1, none⟩ = false ∧ w6.frozen? ⟨w.heap.size + 1, 2, none⟩ = false) := Lib.hid fun w6 h6 =>
    have hr := hres.below h6 hres.lt
    ⟨(hr.cell 0).trans rfl, (hr.cell 1).trans rfl, (hr.cell 2).trans rfl, hr.frozen 0, hr.frozen 1, hr.frozen 2⟩
  have HBX := Lib.hid (fun (w6 : World) (h6 : Below wo.heap.size wo w6) => hbox.below h6 hbox.lt)
  clear hbox
  go_region_held3 (fun w6 => w6.cell? ⟨w.heap.size, 0, none⟩ = some (.int .i64 kk) ∧ w6.cell? ⟨w.heap.size, 1, none⟩ = some (.slice Al ls.length kl) ∧ w6.cell? ⟨w.heap.size, 2, none⟩ = some (.slice Ad da.length kd))
    (first | exact HK.out _ hk0 | exact HK.out _ hk7 | exact HK.out _ hk8 | (have hbb := (((HBX.out _ hk8).far (p := ⟨w.heap.size + 1, 0, none⟩) (by simp) (.int .i64 kk)).far (p := ⟨w.heap.size + 1, 1, none⟩) (by simp) (.slice A1 ls.length c1)).far (p := ⟨w.heap.size + 1, 2, none⟩) (by simp) (.slice A2 da.length c2); exact ⟨(hbb.cell 0).trans rfl, (hbb.cell 1).trans rfl, (hbb.cell 2).trans rfl⟩))
    (first
      | (go_at_call 68; first
          | ((with_reducible refine (HC61.out _ (hbw.trans (hk0.mono hbw.size))).mono ?_); rintro e w3 ⟨A1, c1, rfl, hc1, hs1, hb3⟩; have hk7 : Below wo.heap.size wo w3 := hk0.trans (hb3.mono hk0.size))
          | ((with_reducible refine (HC61.out _ (hbw.trans (hk7.mono hbw.size))).mono ?_); rintro e w4 ⟨A1, c1, rfl, hc1, hs1, hb4⟩; have hk8 : Below wo.heap.size wo w4 := hk7.trans (hb4.mono hk7.size); obtain ⟨p0, p1, p2, f0, f1, f2⟩ := HR.out _ hk8))
      | (go_at_call 69; first
          | ((with_reducible refine (HC62.out _ (hbw.trans (hk0.mono hbw.size))).mono ?_); rintro e w3 ⟨A2, c2, rfl, hc2, hs2, hb3⟩; have hk7 : Below wo.heap.size wo w3 := hk0.trans (hb3.mono hk0.size))
          | ((with_reducible refine (HC62.out _ (hbw.trans (hk7.mono hbw.size))).mono ?_); rintro e w4 ⟨A2, c2, rfl, hc2, hs2, hb4⟩; have hk8 : Below wo.heap.size wo w4 := hk7.trans (hb4.mono hk7.size); obtain ⟨p0, p1, p2, f0, f1, f2⟩ := HR.out _ hk8)))
  all_goals
    go_wp2_with fail
    have hz3 := hk7.size
    have hz4 := hb4.size
    have hu : Under (w.heap.size + 2) (w.heap.size + 1) := by unfold Under; omega
    have HU := HSZ.out
    have hle1 : w.heap.size + 2 ≤ wo.drew.heap.size := by show _ ≤ wo.heap.size; omega
    have hle2 : w.heap.size + 2 ≤ w3.heap.size := by have : wo.heap.size ≤ w3.heap.size := hz3; omega
    have hr4 := hres.below hk8 hres.lt
    have hkp : Keeps w4 (Under (w.heap.size + 2)) _ (Under (w.heap.size + 2)) := ((Keeps.setCell w4 _ ⟨w.heap.size + 1, 0, none⟩ (.int .i64 kk) hu).trans (Keeps.setCell _ _ ⟨w.heap.size + 1, 1, none⟩ (.slice A1 ls.length c1) hu)).trans (Keeps.setCell _ _ ⟨w.heap.size + 1, 2, none⟩ (.slice A2 da.length c2) hu)
    refine bodyPost_ret (results_c44 rfl _ _ (w.heap.size + 1) (.int .i64 kk) (.slice A1 ls.length c1) (.slice A2 da.length c2) rfl (blk_put3 hr4 _ _ _)) rfl ?_
    refine HF.out _ _ _ _ _ hc1 hc2 ?_ ?_ ?_
    · first
        | exact (((hs1.mono (X' := Under (w.heap.size + 2)) (fun b hb => Nat.lt_of_lt_of_le hb (by first | exact hle1 | exact hle2))).keep (Keeps.below hb4 (fun _ _ h => h))).keep hkp).mono (fun b hb => Nat.lt_of_lt_of_le hb (Nat.le_add_right _ _))
        | exact ((hs1.mono (X' := Under (w.heap.size + 2)) (fun b hb => Nat.lt_of_lt_of_le hb (by first | exact hle1 | exact hle2))).keep hkp).mono (fun b hb => Nat.lt_of_lt_of_le hb (Nat.le_add_right _ _))
    · first
        | exact (((hs2.mono (X' := Under (w.heap.size + 2)) (fun b hb => Nat.lt_of_lt_of_le hb (by first | exact hle1 | exact hle2))).keep (Keeps.below hb4 (fun _ _ h => h))).keep hkp).mono (fun b hb => Nat.lt_of_lt_of_le hb (Nat.le_add_right _ _))
        | exact ((hs2.mono (X' := Under (w.heap.size + 2)) (fun b hb => Nat.lt_of_lt_of_le hb (by first | exact hle1 | exact hle2))).keep hkp).mono (fun b hb => Nat.lt_of_lt_of_le hb (Nat.le_add_right _ _))
    · exact (((hbw.trans (hk8.mono hbw.size)).setCell (by simp) _).setCell (by simp) _).setCell (by simp) _
end Go.Proofs.YtjljknocnebnaaaGreatDoor
namespace Go.V
open Go.RowKit

section
variable {P : Program} (w : World)
theorem step_appNo {ops : Array Oper} {o : Oper} {a : Act} {K : Act → World → Prop} {Q : Exit → Act → World → Prop} {E : Prop} (hgd : o.guard = none) (s x : Operand) (t : TypeId)
    (ho : o.op = .call { callee := .builtin .append, args := #[s, x], argTypes := #[t, t] })
    (base : Nat) (e : TypeId) (i : TypeInfo) (z : Value) (size bytes : Nat) (ht : P.underlying t = some (.slice e)) (hi : P.info? e = some i) (hz : i.zero = some z)
    (hsize : i.size = size) (hby : i.bytes = bytes) (hzs : z.cells.size = size) (hsz : 0 < size)
    (A : Option Addr) (n c : Nat) (xs : List Value) (hs : a.eval s = .slice A n c) (hown : w.ownsRow base e size (.slice A n c) n xs)
    (g : Nat) (cx : Nat) (news : List Value) (hx : a.eval x = .slice (some ⟨g, 0, none⟩) 1 cx) (hl : news.length = size) (hu : ∀ (j : Nat) v, news[j]? = some v → w.cell? ⟨g, j, none⟩ = some v) (h1 : ∀ u ∈ news, u.oneCell' = true)
    (h63 : n + 1 ≤ maxLen) (hbytes : (n + 1) * bytes ≤ 140737488355328) (hbase : base ≤ w.heap.size)
    (h : ∀ gd c' w', w'.ownsRow base e size (.slice (some ⟨gd, 0, none⟩) (n + 1) c') (n + 1) (xs ++ news) → w.grownBy w' (Value.slice A n c).ownBlock →
      ((Value.slice (some ⟨gd, 0, none⟩) (n + 1) c').ownBlock = (Value.slice A n c).ownBlock ∨ (Value.slice (some ⟨gd, 0, none⟩) (n + 1) c').ownBlock = some w.heap.size) → K (a.put o.dst (.slice (some ⟨gd, 0, none⟩) (n + 1) c')) w') :
    if Region.wanted o (yielded ops a.tmps) = true then Oper.wp P o a w K Q else E := by
  refine step_append_lies w hgd s x t ho base e i z size bytes ht hi hz hsize hby hzs hsz (.slice A n c) n xs hs hown ⟨g, 0, none⟩ 1 cx news hx (by simpa using hl) ?_ h1 (by omega) h63 hbytes hbase w.heap.size rfl ?_
  · intro j v hj
    have := hu j v hj
    by_cases h0 : j = 0
    · subst h0; simpa [Addr.add] using this
    · simpa [Addr.add, h0] using this
  · intro gd cap w' h2 h3 h4 _
    refine h gd cap w' h2 h3 ?_
    rcases h4 with h4 | h4
    · exact .inl h4.symm
    · exact .inr (by rw [h4]; rfl)
end
/-- Cells of a block just made, as a list. -/
theorem cells_new (w : World) (cs : Array Value) (t : TypeId) (j : Nat) (v : Value) (h : cs.toList[j]? = some v) : (w.alloc (.cells cs t)).cell? ⟨w.heap.size, j, none⟩ = some v := by
  rw [(Blk.new w t cs).cell j, ← Array.getElem?_toList]; exact h
end Go.V
namespace Go.Proofs.YtjljknocnebnaaaGreatDoor
open Go.RowKit Go.V
set_option linter.unusedVariables false

theorem info46 : (Tryz.prog.info? 58).map (fun i => (i.zero, i.size, i.bytes)) = some (some (.agg #[.int .i64 0, .int .i64 0, .slice none 0 0, .slice none 0 0]), 4, 64) := by kernel_rfl
theorem ObA.mono_ {w : World} {X X' : Nat → Prop} {o : Ob.O} {Al : Option Addr} {kl : Nat} {Ad : Option Addr} {kd : Nat} (h : ObA w X o Al kl Ad kd) (hX : ∀ b, X' b → X b) : ObA w X' o Al kl Ad kd := h.keep ((Keeps.refl w X).into hX)
theorem size_alloc_le (w : World) (o : Obj) : w.heap.size ≤ (w.alloc o).heap.size := by simp
theorem st_one (d k : Int) (A1 : Option Addr) (n1 k1 : Nat) (A2 : Option Addr) (n2 k2 : Nat) : ∀ u ∈ [Value.int .i64 d, .int .i64 k, .slice A1 n1 k1, .slice A2 n2 k2], u.oneCell' = true := by
  intro u hu; simp at hu; rcases hu with rfl | rfl | rfl | rfl <;> rfl
/-- A store of the call's own: nothing of it lies in a block that X names. -/
structure OwnSt (w : World) (base : Nat) (X : Nat → Prop) (A : Option Addr) (c : Nat) (s : List Ob.S) (xs : List Value) : Prop where
  own : w.ownsRow base 58 4 (.slice A s.length c) s.length xs
  rows : RowsR (StR w (Or1 X (.slice A s.length c))) s xs
/-- The state of the loop of 'Copy'. -/
structure CySt (w wr : World) (A : Option Addr) (n k : Nat) (s : List Ob.S) (i : Nat) (Ao : Option Addr) (co : Nat) (xs : List Value) : Prop where
  res : Blk wr (w.heap.size + 1) 24 #[.slice none 0 0]
  out : Blk wr (w.heap.size + 2) 24 #[.slice Ao i co]
  own : wr.ownsRow (w.heap.size + 3) 58 4 (.slice Ao i co) i xs
  rows : RowsR (StR wr (Or1 (Under (w.heap.size + 3)) (.slice Ao i co))) (s.take i) xs
  bel : Below w.heap.size w wr
  hi : w.heap.size + 3 ≤ wr.heap.size
theorem CySt.below {w wr w' : World} {A : Option Addr} {n k : Nat} {s : List Ob.S} {i : Nat} {Ao : Option Addr} {co : Nat} {xs : List Value} (h : CySt w wr A n k s i Ao co xs) (hb : Below wr.heap.size wr w') : CySt w w' A n k s i Ao co xs :=
  ⟨h.res.below hb h.res.lt, h.out.below hb h.out.lt, h.own.kept (only_of_below hb none) (by cases hv : (Value.slice Ao i co).ownBlock <;> simp), h.rows.mono (StR.keep (Keeps.below hb (fun _ _ h => h))), h.bel.trans (hb.mono h.bel.size), Nat.le_trans h.hi hb.size⟩
theorem CySt.app {w w3 w4 : World} {A : Option Addr} {n k : Nat} {s : List Ob.S} {i : Nat} {Ao : Option Addr} {co : Nat} {xs : List Value} (st : CySt w w3 A n k s i Ao co xs) {x : Int} {o : Ob.O} {A1 A2 : Option Addr} {k1 k2 : Nat} {o0 : Obj} {gd c' : Nat}
    (hk : I64 o.kind) (hx : I64 x) (hob : ObA w3 (Or1 (Under (w.heap.size + 3)) (.slice Ao i co)) o A1 k1 A2 k2) (hs : s.take (i + 1) = s.take i ++ [⟨x, o⟩]) (own3 : (w3.alloc o0).ownsRow (w.heap.size + 3) 58 4 (.slice Ao i co) i xs)
    (hg : (w3.alloc o0).grownBy w4 (Value.slice Ao i co).ownBlock)
    (hown : w4.ownsRow (w.heap.size + 3) 58 4 (.slice (some ⟨gd, 0, none⟩) (i + 1) c') (i + 1) (xs ++ [.int .i64 x, .int .i64 o.kind, .slice A1 o.links.length k1, .slice A2 o.data.length k2]))
    (hb : (Value.slice (some ⟨gd, 0, none⟩) (i + 1) c').ownBlock = (Value.slice Ao i co).ownBlock ∨ (Value.slice (some ⟨gd, 0, none⟩) (i + 1) c').ownBlock = some (w3.alloc o0).heap.size) :
    CySt w (w4.setCell ⟨w.heap.size + 2, 0, none⟩ (.slice (some ⟨gd, 0, none⟩) (i + 1) c')) A n k s (i + 1) (some ⟨gd, 0, none⟩) c' (xs ++ [.int .i64 x, .int .i64 o.kind, .slice A1 o.links.length k1, .slice A2 o.data.length k2]) := by
  have res4 := (st.res.alloc o0).grown hg (own_blk_ne own3 (st.res.alloc o0) (by decide))
  have out4 := (st.out.alloc o0).grown hg (own_blk_ne own3 (st.out.alloc o0) (by decide))
  have hkp := ((Keeps.alloc w3 (Or1 (Under (w.heap.size + 3)) (.slice Ao i co)) o0).trans (Keeps.or1 hg rfl hb)).trans (Keeps.setCell w4 _ ⟨w.heap.size + 2, 0, none⟩ (.slice (some ⟨gd, 0, none⟩) (i + 1) c') (.inl (by show w.heap.size + 2 < w.heap.size + 3; omega)))
  have hsz := hg.size
  have hhi := st.hi
  refine ⟨res4.far (by simp) _, by simpa using out4.set_ 0 (.slice (some ⟨gd, 0, none⟩) (i + 1) c'), own_setCell hown (own_blk_ne hown out4 (by decide)) _, ?_, ?_, ?_⟩
  · rw [hs]
    exact (st.rows.mono (StR.keep hkp)).append (RowsR.one ⟨A1, k1, A2, k2, rfl, hx, hob.keep hkp⟩)
  · refine Below.setCell ?_ (by simp) _
    exact (st.bel.alloc st.bel.size o0).grown hg (by have := st.bel.size; simp; omega) (fun b hb => by have := (own3.lt b hb).1; omega)
  · simp at hsz ⊢; omega
def CyPost (w : World) (s : List Ob.S) (e : Ending) (w' : World) : Prop := ∃ A c xs, e = .returned (stV A s.length c) ∧ OwnSt w' w.heap.size (Under w.heap.size) A c s xs ∧ Below w.heap.size w w'
set_option maxRecDepth 100000 in
set_option maxHeartbeats 16000000 in
theorem copy_any (w : World) (A : Option Addr) (k : Nat) (s : List Ob.S) (hv : StV w Free A s) (hl : s.length ≤ 1000000) (hlk : ∀ i, i < s.length → (Ob.it s i).ob.links.length * 8 ≤ 140737488351232) :
    Calls Tryz.prog 37 #[stV A s.length k] w (CyPost w s) := by
  obtain ⟨i0, hi0, hz0, hz1, hz2⟩ := info_parts info46
  have HROW := Lib.hid (fun (w' : World) (hb : Below w.heap.size w w') i hi => (hv.keep (free_below hb)).row (w := w') i hi)
  have HLK := Lib.hid hlk
  have hl' : (s.length : Int) ≤ 1000000 := by omega
  have st0 : CySt w (((w.alloc (.cells #[.slice A s.length k] 24)).alloc (.cells #[.slice none 0 0] 24)).alloc (.cells #[.slice none 0 0] 24)) A s.length k s 0 none 0 [] :=
    ⟨(blk_new1 _ _ _ _).alloc _, by simpa using Blk.new ((w.alloc (.cells #[.slice A s.length k] 24)).alloc (.cells #[.slice none 0 0] 24)) 24 #[.slice none 0 0], World.ownsRow_nil _ _ _ _, rfl, below_alloc3 _ _ _ _, by simp⟩
  clear hv hlk
  go_enter Tryz.func37, Tryz.ntmps37
  go_wp2_with fail
  go_loopw [9] (fun iv wr => ∃ (i : Nat) (Ao : Option Addr) (co : Nat) (xs : List Value), i ≤ s.length ∧ iv = .int .i64 i ∧ CySt w wr A s.length k s i Ao co xs) (fun iv _ => s.length - (intOf iv).toNat)
  case atStart => exact ⟨0, none, 0, [], Nat.zero_le _, rfl, st0⟩
  case round =>
    obtain ⟨i, Ao, co, xs, hi, rfl, st⟩ := hrel
    obtain ⟨wo, rfl⟩ : ∃ wo : World, wo = wr := ⟨_, rfl⟩
    clear st0
    have hsz := st.bel.size
    have hhi := st.hi
    by_cases hil : i < s.length
    · have hil' : (i : Int) < s.length := by omega
      obtain ⟨b, off, Al, kl, Ad, kd, e, hb, _, d0, d1, d2, d3, hx, hob⟩ := HROW.out _ st.bel i hil
      subst e
      have hlki := HLK.out i hil
      have HTK := Lib.hid (show s.take (i + 1) = s.take i ++ [Ob.it s i] by rw [List.take_succ_eq_append_getElem hil, Ob.it_eq s i hil])
      have hobk := hob.kind
      generalize hxx : Ob.it s i = x at *
      clear hxx
      have HCO := Lib.hid (fun (w' : World) (hb : Below wo.heap.size wo w') => copyObject_any w' x.ob Al kl Ad kd (hob.keep (free_below hb)) hlki)
      clear hob hlki
      obtain ⟨xd, kk, ls, da⟩ := x
      simp only at *
      have hbx := below_alloc1 wo (.cells #[.int .i64 xd, .int .i64 kk, .slice Al ls.length kl, .slice Ad da.length kd] 58)
      have stx := st.below hbx
      have hk0 : Below wo.heap.size wo (wo.alloc (.cells #[.int .i64 xd, .int .i64 kk, .slice Al ls.length kl, .slice Ad da.length kd] 58)).drew := below_drew' hbx
      have q0 := stx.out.cell 0
      have blx := Blk.new wo 58 #[.int .i64 xd, .int .i64 kk, .slice Al ls.length kl, .slice Ad da.length kd]
      simp only [List.getElem?_toArray, List.getElem?_cons_zero] at q0
      have hne46 : (58 : TypeId) ≠ 24 := by decide
      have h63 : i + 1 ≤ maxLen := by unfold maxLen; omega
      have hby : (i + 1) * 64 ≤ 140737488355328 := by omega
      go_wp2_with fail
      go_region_law
        (first
          | (go_simp; go_at_call 42; (with_reducible refine (HCO.out _ hk0).mono ?_); rintro e w3 ⟨A1, k1, A2, k2, rfl, hob3, hb3⟩; have hk3 : Below wo.heap.size wo w3 := hk0.trans (hb3.mono hk0.size); have st3 := st.below hk3; have z3 : w.heap.size + 1 + 1 < w3.heap.size := st3.out.lt; have p0 := (st3.out.cell 0).trans (rfl : _ = some (Value.slice Ao i co)); have x0 := ((blx.drew.below hb3 blx.drew.lt).cell 0).trans (rfl : _ = some (Value.int .i64 xd)); go_wp2_with fail)
          | (refine step_appNo _ rfl (.tmp 14) (.tmp 21) 22 rfl (w.heap.size + 3) 58 i0 _ 4 64 Tryz.underlying22 hi0 hz0 hz1 hz2 rfl (by decide) Ao i co xs rfl (st3.own.alloc _) w3.heap.size 1 [.int .i64 xd, .int .i64 kk, .slice A1 ls.length k1, .slice A2 da.length k2] rfl rfl (fun j v hj => cells_new w3 #[.int .i64 xd, .int .i64 kk, .slice A1 ls.length k1, .slice A2 da.length k2] 58 j v hj) (st_one _ _ _ _ _ _ _ _) h63 hby (Nat.le_trans st3.hi (size_alloc_le _ _)) ?_; intro gd c' w4 hown4 hg4 hob4; have own3 := st3.own.alloc (.cells #[.int .i64 xd, .int .i64 kk, .slice A1 ls.length k1, .slice A2 da.length k2] 58); have out3 := st3.out.alloc (.cells #[.int .i64 xd, .int .i64 kk, .slice A1 ls.length k1, .slice A2 da.length k2] 58); have out4 := out3.grown hg4 (own_blk_ne own3 out3 hne46); have r0 := (out4.cell 0).trans (rfl : _ = some (Value.slice Ao i co)); have r1 := out4.frozen 0))
      all_goals
        have hob5 := hob3.mono_ (X' := Or1 (Under (w.heap.size + 3)) (.slice Ao i co)) (fun b hb => by
          rcases hb with hb | hb
          · unfold Under at *; exact Nat.lt_of_lt_of_le hb (Nat.le_trans hhi hk0.size)
          · exact Nat.lt_of_lt_of_le ((st.own.lt b hb).2) hk0.size)
        have st5 := st3.app hobk hx hob5 HTK.out own3 hg4 hown4 hob4
        clear hob5 hown4 hg4 hob4 own3 out3 out4 st3 st stx hob3 hb3 hk3
        go_wp2_with fail
        go_roundw
        case rel => exact ⟨i + 1, _, _, _, by omega, by go_num, st5⟩
        case measure => simp [intOf]; omega
    · obtain rfl : i = s.length := by omega
      have o0 := st.out.cell 0
      have r0 := st.res.cell 0
      have r1 := st.res.frozen 0
      have l0 := st.out.lt
      simp only [List.getElem?_toArray, List.getElem?_cons_zero] at o0 r0
      go_wp2_with fail
      have hu : (Under (w.heap.size + 3)) (w.heap.size + 1) := by unfold Under; omega
      have hk := Keeps.setCell wo (Or1 (Under (w.heap.size + 3)) (.slice Ao s.length co)) ⟨w.heap.size + 1, 0, none⟩ (.slice Ao s.length co) (.inl hu)
      have hb1 := st.res.set_ 0 (.slice Ao s.length co)
      refine bodyPost_ret (results_c24 rfl _ _ (w.heap.size + 1) (.slice Ao s.length co) rfl (by simpa using hb1)) rfl ?_
      refine ⟨Ao, co, xs, rfl, ⟨own_more (own_setCell st.own (own_blk_ne st.own st.res (by decide)) _) (by omega), ?_⟩, st.bel.setCell (by simp) _⟩
      have hr := st.rows
      rw [List.take_length] at hr
      exact hr.mono (StR.keep (hk.into (X'' := Or1 (Under w.heap.size) (.slice Ao s.length co)) fun b hb => by
        rcases hb with hb | hb
        · exact .inl (by unfold Under at *; omega)
        · exact .inr hb))
end Go.Proofs.YtjljknocnebnaaaGreatDoor
namespace Go.V
set_option linter.unusedVariables false
open Go.RowKit

/-- cs put over the cells from off on. -/
def spl (cur : Array Value) (off : Nat) (cs : List Value) : Array Value := (cur.toList.take off ++ cs ++ cur.toList.drop (off + cs.length)).toArray
section
variable {P : Program} (w : World)
theorem run_copy_into (dT sT ty elem : TypeId) (i : TypeInfo) (size : Nat) (hu : P.underlying dT = some (.slice elem)) (hi : P.info? elem = some i) (hsz : i.size = size)
    (g o dLen dCap : Nat) (ad : Addr) (sLen sCap : Nat) (cur : Array Value) (t : TypeId) (cs : List Value) (hg : Blk w g t cur) (hn : cs.length = Nat.min sLen dLen * size)
    (hsrc : ∀ j v, cs[j]? = some v → w.cell? (ad.add j) = some v) (hfit : o + cs.length ≤ cur.size) (h1 : ∀ v ∈ cs, v.oneCell' = true) :
    ∃ w', (Builtin.copy_ #[dT, sT] ty #[.slice (some ⟨g, o, none⟩) dLen dCap, .slice (some ad) sLen sCap]).run P w = .ok (goInt (Nat.min sLen dLen)) w' ∧
      Blk w' g t (spl cur o cs) ∧ w.grownBy w' (some g) ∧ w'.heap.size = w.heap.size := by
  have hl := run_loadCells_list (P := P) w ad cs hsrc
  have hst := run_storeCells_at P g o t cs 0 cur w hg (by simpa using hfit) h1
  simp only [Nat.add_zero] at hst
  refine ⟨w.setRow g (cur.toList.take o ++ cs ++ cur.toList.drop (o + cs.length)).toArray, ?_, setRow_heap w g cur _ t (0, 0) hg, ⟨rfl, rfl, rfl, by simp, fun k _ hk => setRow_other w g k _ (fun e => hk (by rw [e]))⟩, by simp⟩
  subst hsz
  simp [Builtin.copy_, run_underlying hu, Builtin.lenOf, Builtin.firstCells, sizeOf, typeInfo, hi, ← hn, hl, hst]
theorem wpList_copy_into {ops : Array Oper} {rest : List Oper} {o : Oper} {a : Act} {Q : Exit → Act → World → Prop} (hgd : o.guard = none) (d s : Operand) (dT sT : TypeId)
    (ho : o.op = .call { callee := .builtin .copy, args := #[d, s], argTypes := #[dT, sT] })
    (elem : TypeId) (i : TypeInfo) (size : Nat) (hu : P.underlying dT = some (.slice elem)) (hi : P.info? elem = some i) (hsz : i.size = size)
    (g off dLen dCap : Nat) (hd : a.eval d = .slice (some ⟨g, off, none⟩) dLen dCap) (ad : Addr) (sLen sCap : Nat) (hs : a.eval s = .slice (some ad) sLen sCap) (cur : Array Value) (t : TypeId) (cs : List Value) (hg : Blk w g t cur) (hn : cs.length = Nat.min sLen dLen * size)
    (hsrc : ∀ j v, cs[j]? = some v → w.cell? (ad.add j) = some v) (hfit : off + cs.length ≤ cur.size) (h1 : ∀ v ∈ cs, v.oneCell' = true)
    (h : ∀ w', Blk w' g t (spl cur off cs) → w.grownBy w' (some g) → w'.heap.size = w.heap.size → wpList P ops Q rest (a.put o.dst (goInt (Nat.min sLen dLen))) w') : wpList P ops Q (o :: rest) a w := by
  refine wpList_plain hgd fun K hK => ?_
  obtain ⟨w', hr, h2, h3, h4⟩ := run_copy_into (P := P) w dT sT o.type elem i size hu hi hsz g off dLen dCap ad sLen sCap cur t cs hg hn hsrc hfit h1
  unfold Oper.wp execOp
  simp only [ho, resolve, invoke, builtin, Sem.run_bind, Sem.run_pure, Result.andThen_ok, List.map_toArray, List.map_cons, List.map_nil, hd, hs, hr]
  exact hK _ _ (h w' h2 h3 h4)
theorem step_copy_into {ops : Array Oper} {o : Oper} {a : Act} {K : Act → World → Prop} {Q : Exit → Act → World → Prop} {E : Prop} (hgd : o.guard = none) (d s : Operand) (dT sT : TypeId)
    (ho : o.op = .call { callee := .builtin .copy, args := #[d, s], argTypes := #[dT, sT] })
    (elem : TypeId) (i : TypeInfo) (size : Nat) (hu : P.underlying dT = some (.slice elem)) (hi : P.info? elem = some i) (hsz : i.size = size)
    (g off dLen dCap : Nat) (hd : a.eval d = .slice (some ⟨g, off, none⟩) dLen dCap) (ad : Addr) (sLen sCap : Nat) (hs : a.eval s = .slice (some ad) sLen sCap) (cur : Array Value) (t : TypeId) (cs : List Value) (hg : Blk w g t cur) (hn : cs.length = Nat.min sLen dLen * size)
    (hsrc : ∀ j v, cs[j]? = some v → w.cell? (ad.add j) = some v) (hfit : off + cs.length ≤ cur.size) (h1 : ∀ v ∈ cs, v.oneCell' = true)
    (h : ∀ w', Blk w' g t (spl cur off cs) → w.grownBy w' (some g) → w'.heap.size = w.heap.size → K (a.put o.dst (goInt (Nat.min sLen dLen))) w') :
    if Region.wanted o (yielded ops a.tmps) = true then Oper.wp P o a w K Q else E := by
  have hw : Region.wanted o (yielded ops a.tmps) = true := by simp [Region.wanted, hgd]
  rw [if_pos hw]
  obtain ⟨w', hr, h2, h3, h4⟩ := run_copy_into (P := P) w dT sT o.type elem i size hu hi hsz g off dLen dCap ad sLen sCap cur t cs hg hn hsrc hfit h1
  unfold Oper.wp
  simp [execOp, ho, resolve, invoke, builtin, hd, hs, hr, Result.andThen]
  exact h w' h2 h3 h4
/-- 'append(s[:i], make(S, k)...)' that grows: a new block. -/
theorem wpList_app_zeros {ops : Array Oper} {rest : List Oper} {o : Oper} {a : Act} {Q : Exit → Act → World → Prop} (hgd : o.guard = none) (s x : Operand) (t tn : TypeId)
    (ho : o.op = .call { callee := .builtin .append, args := #[s, x], argTypes := #[t, tn] })
    (e : TypeId) (i : TypeInfo) (z : Value) (kn : IntKind) (size bytes : Nat) (ht : P.underlying t = some (.slice e)) (htn : P.underlying tn = some (.int kn)) (hi : P.info? e = some i) (hz : i.zero = some z) (hsize : i.size = size) (hby : i.bytes = bytes) (hzs : z.cells.size = size) (hsz : 0 < size)
    (ad : Addr) (n c : Nat) (olds : List Value) (hs : a.eval s = .slice (some ad) n c) (hl : olds.length = n * size) (hsrc : ∀ j v, olds[j]? = some v → w.cell? (ad.add j) = some v)
    (kq : IntKind) (k : Nat) (hx : a.eval x = .int kq k) (h0 : 0 < k) (hroom : c < n + k) (hnc : n ≤ c) (h63 : n + k ≤ 9223372036854775807) (hb : (n + k) * bytes ≤ 140737488355328)
    (h : ∀ q cur w', n + k ≤ q → q ≤ 9223372036854775807 → cur.size = q * size → cur.toList.take (n * size) = olds → Blk w' w.heap.size e cur → w.grownBy w' none → w'.heap.size = w.heap.size + 1 → wpList P ops Q rest (a.put o.dst (.slice (some ⟨w.heap.size, 0, none⟩) (n + k) q)) w') : wpList P ops Q (o :: rest) a w := by
  refine wpList_plain hgd fun K hK => ?_
  subst hsize
  subst hby
  have hold : (Builtin.firstCells i.size n (.slice (some ad) n c)).run P w.drew = .ok olds.toArray w.drew := run_firstCells_some w.drew i.size n ad n c olds hl (fun j v hj => hsrc j v hj)
  have hkb : k * i.bytes ≤ (n + k) * i.bytes := Nat.mul_le_mul_right _ (by omega)
  have hr := Lib.run_append_grow_zeros (P := P) w t tn o.type e i z kq kn ht htn hi hz (some ad) n c olds hold k h0 hsz hroom (by omega) (by omega) (growslice_fits hroom hb)
  have hge := grownCap_ge w (n + k) c e
  have hle := grownCap_le_maxLen w (n + k) c e (by unfold maxLen; omega)
  generalize grownCap w (n + k) c e = q at *
  unfold Oper.wp
  simp [execOp, ho, resolve, invoke, builtin, hs, hx, hr, Result.andThen]
  refine hK _ _ (h q _ _ hge (by unfold maxLen at hle; omega) ?_ ?_ (Blk.new w.drew e _) ?_ (by simp))
  · simp only [Array.size_append, List.size_toArray, size_zeroCells, hzs, hl]
    rw [← Nat.add_mul, ← Nat.add_mul]
    congr 1
    omega
  · simp only [Array.toList_append]
    rw [List.take_append_of_le_length (by omega), ← hl, List.take_length]
  · exact ⟨rfl, rfl, rfl, by simp, fun b hb _ => (Below.heap_alloc w.drew _ b hb)⟩
end
/-- Two copies put news in at p. -/
theorem ins_list {cur xs news : List Value} {p : Nat} (hx : cur.take xs.length = xs) (hp : p ≤ xs.length) (hl : xs.length + news.length ≤ cur.length) :
    (((cur.take (p + news.length) ++ xs.drop p ++ cur.drop (p + news.length + (xs.drop p).length)).take p ++ news ++ (cur.take (p + news.length) ++ xs.drop p ++ cur.drop (p + news.length + (xs.drop p).length)).drop (p + news.length)).take (xs.length + news.length)) = xs.take p ++ news ++ xs.drop p := by
  have h1 : (cur.take (p + news.length) ++ xs.drop p ++ cur.drop (p + news.length + (xs.drop p).length)).take p = xs.take p := by
    rw [List.append_assoc, List.take_append_of_le_length (by simp; omega), List.take_take, Nat.min_eq_left (by omega)]
    rw [← hx, List.take_take, Nat.min_eq_left (by omega)]
  have h2 : (cur.take (p + news.length) ++ xs.drop p ++ cur.drop (p + news.length + (xs.drop p).length)).drop (p + news.length) = xs.drop p ++ cur.drop (p + news.length + (xs.drop p).length) := by
    rw [List.append_assoc]
    have hlen : (cur.take (p + news.length)).length = p + news.length := by simp; omega
    exact List.drop_left' hlen
  rw [h1, h2, ← List.append_assoc, List.take_append_of_le_length (by simp; omega), List.take_of_length_le (by simp; omega)]
/-- The other order: first the news, then what follows. -/
theorem ins_list2 {cur xs news : List Value} {p : Nat} (hx : cur.take p = xs.take p) (hp : p ≤ xs.length) (hl : xs.length + news.length ≤ cur.length) :
    (((cur.take p ++ news ++ cur.drop (p + news.length)).take (p + news.length) ++ xs.drop p ++ (cur.take p ++ news ++ cur.drop (p + news.length)).drop (p + news.length + (xs.drop p).length)).take (xs.length + news.length)) = xs.take p ++ news ++ xs.drop p := by
  have h1 : (cur.take p ++ news ++ cur.drop (p + news.length)).take (p + news.length) = xs.take p ++ news := by
    rw [hx]
    have hlen : (xs.take p ++ news).length = p + news.length := by simp; omega
    exact List.take_left' hlen
  rw [h1, List.take_append_of_le_length (by simp; omega), List.take_of_length_le (by simp; omega)]
/-- An owned row out of a block that is known whole. -/
theorem own_of_blk {w : World} {base g : Nat} {e : TypeId} {cur : Array Value} {size n cap : Nat} {xs : List Value} (hb : Blk w g e cur) (hg : base ≤ g) (hn : n ≤ cap) (hm : cap ≤ maxLen) (hs : cur.size = cap * size) (hx : cur.toList.take (n * size) = xs) :
    w.ownsRow base e size (.slice (some ⟨g, 0, none⟩) n cap) n xs := by
  refine ⟨?_, .inr ⟨g, cap, cur, rfl, hg, hb, hn, hm, hs, hx⟩⟩
  rw [← hx, List.length_take, Nat.min_eq_left]
  simp only [Array.length_toList, hs]
  exact Nat.mul_le_mul_right _ hn
/-- The block of an owned row. -/
theorem own_blk {w : World} {base : Nat} {e : TypeId} {size n m cap : Nat} {A : Option Addr} {xs : List Value} (h : w.ownsRow base e size (.slice A m cap) n xs) (h0 : 0 < n) :
    ∃ g cur, A = some ⟨g, 0, none⟩ ∧ m = n ∧ base ≤ g ∧ Blk w g e cur ∧ n ≤ cap ∧ cap ≤ maxLen ∧ cur.size = cap * size ∧ cur.toList.take (n * size) = xs := by
  obtain ⟨_, ⟨_, h1⟩ | ⟨g, cap', cur, e1, h1, h2, h3, h4, h5, h6⟩⟩ := h
  · omega
  · injection e1 with e1 e2 e3
    subst e1 e2 e3
    exact ⟨g, cur, rfl, rfl, h1, h2, h3, h4, h5, h6⟩
end Go.V
namespace Go.V
open Go.RowKit Go.ChangeShapes Go.WideShapes Go.ChangeAt Go.Deep

/-- Rows out of cells. -/
theorem rows_of {α : Type} {R : α → List Value → Prop} (k : Nat) (cells : Nat → Value) : ∀ (n : Nat), (∀ i, i < n → ∃ a : α, R a ((List.range k).map fun j => cells (i * k + j))) →
    ∃ l : List α, l.length = n ∧ RowsR R l ((List.range (n * k)).map cells)
  | 0, _ => ⟨[], rfl, by simp [RowsR]⟩
  | n + 1, h => by
    obtain ⟨l, hl, hr⟩ := rows_of k cells n (fun i hi => h i (by omega))
    obtain ⟨a, ha⟩ := h n (by omega)
    refine ⟨l ++ [a], by simp [hl], ?_⟩
    have e : (List.range ((n + 1) * k)).map cells = (List.range (n * k)).map cells ++ (List.range k).map fun j => cells (n * k + j) := by
      rw [Nat.add_mul, Nat.one_mul, List.range_add, List.map_append, List.map_map]
      rfl
    rw [e]
    exact hr.append (RowsR.one ha)

section
variable {H : Type} {enc : TypeId × Value → H} {P : Program} {w : World} {base : Nat} {spare : Nat → Bool} {held : Bool}
/-- A slice of structs of one-cell fields, field by field. -/
theorem open_slice_fields {t e : TypeId} {fs : Array Field} {fuel : Nat} {cs : List Value} {x : DataW H × List MemPlace} (ht : P.underlying t = some (.slice e)) (he : P.underlying e = some (.struct fs))
    (hone : oneCellFields P fs = true) (hC : P.cellsOf e = fs.size) (h : DataW.trod enc P w base spare held fuel t cs = some x) :
    (cs = [.slice none 0 0] ∧ x = (.nil, [])) ∨
    ∃ (a : Addr) (len cap m : Nat) (D : Nat → DataW H) (Pl : Nat → List MemPlace), cs = [.slice (some a) len cap] ∧ base ≤ a.block ∧ len ≤ cap ∧ cap ≤ maxLen ∧ m = (if spare a.block then cap else len) ∧
      x = (.slice ((List.range len).map D) ((List.range (m - len)).map fun j => D (len + j)), MemPlace.row a (m * fs.size) ++ (List.range m).flatMap Pl) ∧
      ∀ i, i < m → ∃ (ys : List (DataW H × List MemPlace)) (n : Nat), D i = .agg (ys.map (·.1)) ∧ Pl i = ys.flatMap (·.2) ∧ ys.length = fs.size ∧
        ∀ (j : Nat) (f : Field), fs[j]? = some f → ∃ (v : Value) (y : DataW H × List MemPlace), w.cell? (a.add (i * fs.size + j)) = some v ∧ ys[j]? = some y ∧ DataW.trod enc P w base spare held n f.type [v] = some y := by
  rcases open_slice ht h with h0 | ⟨a, len, cap, m, n, D, Pl, hcs, hb, hl, hm, hmm, hx, hi⟩
  · exact .inl h0
  · refine .inr ⟨a, len, cap, m, D, Pl, hcs, hb, hl, hm, hmm, by rw [hC] at hx; exact hx, fun i him => ?_⟩
    obtain ⟨cs', hc, ht'⟩ := hi i him
    rw [hC] at hc
    obtain ⟨ys, n', hn', hy, hlen, hyl, hf⟩ := DataW.trod_struct he ht'
    obtain ⟨_, hcl, hat⟩ := World.cells?_some hc
    simp only [Prod.mk.injEq] at hy
    refine ⟨ys, n', hy.1, hy.2, hyl, fun j f hj => ?_⟩
    obtain ⟨ho, hk⟩ := hone_of hone j f hj
    have hjl : j < fs.size := (Array.getElem?_eq_some_iff.1 hj).1
    have hcell := hat j hjl
    have hv : cs'[j]? = some (cs'[j]'(by omega)) := List.getElem?_eq_getElem (by omega)
    have h1 := hf j f hj
    rw [ho, hk] at h1
    have hone' : (cs'.drop j).take 1 = [cs'[j]'(by omega)] := by
      rw [List.drop_eq_getElem_cons (by omega)]
      rfl
    rw [hone'] at h1
    have hys : ys[j]? = some (ys[j]'(by omega)) := List.getElem?_eq_getElem (by omega)
    refine ⟨_, _, ?_, hys, h1.trans hys⟩
    rw [← Go.Deep.add_add, hcell, hv]

/-- The same as a view: rows of elements that each field's reading makes. -/
theorem open_rows {α : Type} {R : α → List Value → Prop} {t e : TypeId} {fs : Array Field} {fuel : Nat} {cs : List Value} {x : DataW H × List MemPlace} (ht : P.underlying t = some (.slice e)) (he : P.underlying e = some (.struct fs))
    (hone : oneCellFields P fs = true) (hC : P.cellsOf e = fs.size) (h0 : 0 < fs.size) (h : DataW.trod enc P w base spare held fuel t cs = some x)
    (hz : ∀ n ∈ x.1.weights P t, n ≤ reachBytes)
    (hR : ∀ (c : Nat → Value) (ys : List (DataW H × List MemPlace)) (n : Nat), ys.length = fs.size → (∀ (j : Nat) (f : Field), fs[j]? = some f → ∃ y, ys[j]? = some y ∧ DataW.trod enc P w base spare held n f.type [c j] = some y ∧ ∀ k ∈ y.1.weights P f.type, k ≤ reachBytes) →
      ∃ a, R a ((List.range fs.size).map c)) :
    ∃ A c l vs, cs = [.slice A l.length c] ∧ l.length ≤ c ∧ c ≤ maxLen ∧ l.length * P.bytesOf e ≤ reachBytes ∧ SV w w.heap.size A vs ∧ RowsR R l vs := by
  rcases open_slice_fields ht he hone hC h with ⟨rfl, _⟩ | ⟨a, len, cap, m, D, Pl, rfl, hb, hl, hm, hmm, hx, hi⟩
  · exact ⟨none, 0, [], [], rfl, Nat.le_refl _, by simp [maxLen], by simp, .inl rfl, rfl⟩
  · have hlm : len ≤ m := by rw [hmm]; split <;> omega
    have hbytes : len * P.bytesOf e ≤ reachBytes := by
      have := hz ((((List.range len).map D).length + ((List.range (m - len)).map fun j => D (len + j)).length) * P.bytesOf e) (by rw [hx]; simp [DataW.weights, ht])
      refine Nat.le_trans (Nat.mul_le_mul_right _ ?_) this
      simp
    have hzD : ∀ i, i < len → ∀ n ∈ (D i).weights P e, n ≤ reachBytes := fun i hil n hn => by
      refine hz n ?_
      rw [hx]
      simp only [DataW.weights, ht, List.mem_cons, List.mem_append]
      refine .inr (.inl ?_)
      have : ∀ (l : List (DataW H)) (d : DataW H), d ∈ l → n ∈ d.weights P e → n ∈ DataW.weightsAll P e l := by
        intro l
        induction l with
        | nil => intro d hd; simp at hd
        | cons d0 l ih =>
          intro d hd hnd
          simp only [DataW.weightsAll, List.mem_append]
          rcases List.mem_cons.1 hd with rfl | hd
          · exact .inl hnd
          · exact .inr (ih d hd hnd)
      exact this _ (D i) (List.mem_map.2 ⟨i, List.mem_range.2 hil, rfl⟩) hn
    by_cases hl0 : len = 0
    · subst hl0
      exact ⟨some a, cap, [], [], rfl, Nat.zero_le _, hm, by simp, .inl rfl, rfl⟩
    · obtain ⟨b, off, spot⟩ := a
      obtain ⟨ys0, n0, _, _, _, hf0⟩ := hi 0 (by omega)
      obtain ⟨v0, _, hc0, _⟩ := hf0 0 fs[0] (by simp [h0])
      have hspot : spot = none := by simpa [Addr.add] using World.cell?_spot hc0
      subst hspot
      have hadd : ∀ j, (⟨b, off, none⟩ : Addr).add j = ⟨b, off + j, none⟩ := fun j => by
        unfold Addr.add; split
        · rename_i h; subst h; rfl
        · rfl
      let cells : Nat → Value := fun j => (w.cell? ⟨b, off + j, none⟩).getD undef
      have hcells : ∀ i, i < len → ∀ j, j < fs.size → w.cell? ⟨b, off + (i * fs.size + j), none⟩ = some (cells (i * fs.size + j)) := fun i hil j hj => by
        obtain ⟨ys, n, _, _, _, hf⟩ := hi i (by omega)
        obtain ⟨v, y, hc, _⟩ := hf j fs[j] (by simp [hj])
        rw [hadd] at hc
        simp [cells, hc]
      obtain ⟨l, hll, hrows⟩ := rows_of (R := R) fs.size cells len (fun i hil => by
        obtain ⟨ys, n, hD, _, hyl, hf⟩ := hi i (by omega)
        refine hR (fun j => cells (i * fs.size + j)) ys n hyl (fun j f hj => ?_)
        have hjl : j < fs.size := (Array.getElem?_eq_some_iff.1 hj).1
        obtain ⟨v, y, hc, hy, ht⟩ := hf j f hj
        rw [hadd, hcells i hil j hjl] at hc
        injection hc with hc
        subst hc
        refine ⟨y, hy, ht, fun k hk => hzD i hil k ?_⟩
        rw [hD]
        simp only [DataW.weights, he]
        refine DataW.weights_mem_each (j := j) (t := f.type) (d := y.1) ?_ ?_ k hk
        · simp [List.getElem?_map, Array.getElem?_toList, hj]
        · simp [List.getElem?_map, hy])
      subst hll
      refine ⟨some ⟨b, off, none⟩, cap, l, _, rfl, hl, hm, hbytes, .inr ⟨b, off, rfl, ?_, fun j u hu => ?_⟩, hrows⟩
      · have := hcells 0 (by omega) 0 h0
        exact World.block_lt_of_cell? w _ this
      · simp only [List.getElem?_map, Option.map_eq_some_iff, List.getElem?_eq_some_iff] at hu
        obtain ⟨j', ⟨hj1, hj2⟩, rfl⟩ := hu
        simp at hj1 hj2
        subst hj2
        have hdiv : j / fs.size < l.length := (Nat.div_lt_iff_lt_mul h0).2 hj1
        have hmod : j % fs.size < fs.size := Nat.mod_lt _ h0
        have := hcells (j / fs.size) hdiv (j % fs.size) hmod
        have e : j / fs.size * fs.size + j % fs.size = j := by rw [Nat.mul_comm]; exact Nat.div_add_mod j fs.size
        rw [e] at this
        exact this

/-- What the reach says of a []byte. -/
theorem bytes_len {t e : TypeId} {fuel : Nat} {A : Option Addr} {n c : Nat} {x : DataW H × List MemPlace} (ht : P.underlying t = some (.slice e)) (he : P.underlying e = some (.int .u8)) (hce : P.cellsOf e = 1) (hbe : P.bytesOf e = 1)
    (h : DataW.trod enc P w base spare held fuel t [.slice A n c] = some x) (hz : ∀ n ∈ x.1.weights P t, n ≤ reachBytes) : n ≤ reachBytes := by
  rcases open_ints ht he hce h with ⟨hcs, _⟩ | ⟨a, len, cap, zs, hcs, _, hl, hm, hz', hx, hcell, hwz⟩
  · simp at hcs; omega
  · simp at hcs
    obtain ⟨rfl, rfl, rfl⟩ := hcs
    have hlz : n ≤ zs.length := by
      have := hz'
      split at this <;> omega
    have := hz (((lits (H := H) .u8 (zs.take n)).length + (lits (H := H) .u8 (zs.drop n)).length) * P.bytesOf e) (by rw [hx]; simp [DataW.weights, ht])
    rw [hbe] at this
    simp [lits] at this
    omega
end
end Go.V
namespace Go.V
open Go.RowKit Go.ChangeShapes Go.WideShapes Go.ChangeAt Go.Deep

section
variable {H : Type} {enc : TypeId × Value → H} {P : Program} {W : World}
theorem addr_none {a : Addr} {w : World} {v : Value} (h : w.cell? a = some v) : ∃ b off, a = ⟨b, off, none⟩ := by
  obtain ⟨b, off, spot⟩ := a
  have hs : spot = none := by simpa using World.cell?_spot h
  subst hs
  exact ⟨b, off, rfl⟩
theorem add_none (b off i : Nat) : (⟨b, off, none⟩ : Addr).add i = ⟨b, off + i, none⟩ := by
  unfold Addr.add
  split
  · rename_i h; subst h; rfl
  · rfl
theorem open_intl {t e : TypeId} {fuel base : Nat} {spare : Nat → Bool} {held : Bool} {cs : List Value} {x : DataW H × List MemPlace} (ht : P.underlying t = some (.slice e)) (he : P.underlying e = some (.int .i64)) (hce : P.cellsOf e = 1)
    (h : DataW.trod enc P W base spare held fuel t cs = some x) :
    ∃ A c l, cs = [.slice A l.length c] ∧ l.length ≤ c ∧ c ≤ maxLen ∧ SV W W.heap.size A (intsV l) ∧ ∀ (i : Nat) (hi : i < l.length), I64 l[i] := by
  rcases open_ints ht he hce h with ⟨hcs, _⟩ | ⟨a, len, cap, zs, hcs, _, hl, hm, hz, _, hcell, hwz⟩
  · exact ⟨none, 0, [], by simpa using hcs, by simp, by simp [maxLen], .inl rfl, fun i hi => by simp at hi⟩
  · have hlz : len ≤ zs.length := by
      have := hz
      split at this <;> omega
    have hlen : (zs.take len).length = len := by simp; omega
    refine ⟨some a, cap, zs.take len, by rw [hlen]; exact hcs, by omega, hm, ?_, fun i hi => ?_⟩
    · by_cases h0 : len = 0
      · subst h0; exact .inl (by simp [intsV])
      · have hc0 := hcell 0 (by omega)
        have hc00 : W.cell? a = some (.int .i64 (zs.getD 0 0)) := by simpa [Addr.add] using hc0
        obtain ⟨b, off, rfl⟩ := addr_none hc00
        refine .inr ⟨b, off, rfl, World.block_lt_of_cell? W _ hc00, fun j u hu => ?_⟩
        simp only [intsV, List.getElem?_map, Option.map_eq_some_iff, List.getElem?_take] at hu
        obtain ⟨z, hz1, rfl⟩ := hu
        split at hz1
        · obtain ⟨hjl, rfl⟩ := List.getElem?_eq_some_iff.1 hz1
          have := hcell j hjl
          rw [add_none] at this
          rw [this]
          simp [List.getD, hz1]
        · cases hz1
    · have := bounds_i64 (hwz _ (List.mem_of_mem_take (List.getElem_mem hi)))
      exact this
theorem open_booll {t e : TypeId} {fuel base : Nat} {held : Bool} {cs : List Value} {x : DataW H × List MemPlace} (ht : P.underlying t = some (.slice e)) (he : P.underlying e = some .bool) (hce : P.cellsOf e = 1)
    (h : DataW.trod enc P W base (fun _ => true) held fuel t cs = some x) :
    ∃ A c l, cs = [.slice A l.length c] ∧ l.length ≤ c ∧ c ≤ maxLen ∧ SV W W.heap.size A (boolsV l) := by
  rcases open_bools ht he hce h with ⟨hcs, _⟩ | ⟨a, len, cap, B, hcs, _, hl, hm, _, hcell⟩
  · exact ⟨none, 0, [], by simpa using hcs, by simp, by simp [maxLen], .inl rfl⟩
  · have hlen : ((List.range len).map B).length = len := by simp
    refine ⟨some a, cap, (List.range len).map B, by rw [hlen]; exact hcs, by omega, hm, ?_⟩
    by_cases h0 : len = 0
    · subst h0; exact .inl (by simp [boolsV])
    · have hc0 := hcell 0 (by omega)
      have hc00 : W.cell? a = some (.bool (B 0)) := by simpa [Addr.add] using hc0
      obtain ⟨b, off, rfl⟩ := addr_none hc00
      refine .inr ⟨b, off, rfl, World.block_lt_of_cell? W _ hc00, fun j u hu => ?_⟩
      simp only [boolsV, List.getElem?_map, Option.map_eq_some_iff] at hu
      obtain ⟨z, ⟨y, hy, rfl⟩, rfl⟩ := hu
      obtain ⟨hj1, hj2⟩ := List.getElem?_eq_some_iff.1 hy
      simp at hj1 hj2
      subst hj2
      have := hcell j (by omega)
      rw [add_none] at this
      exact this
end
end Go.V
