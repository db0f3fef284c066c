/-
  File trees: walk of the reference's 'TreePaths'.
  File trees: the library's searches and its sort at lists of strings.
  File trees: walk of 'Changed'.
-/
import Derived.Test.YtjljknocnebnaaaGreatDoorG09
import Derived.Test.YtjljknocnebnaaaGreatDoorG08
import Derived.Sort.Grow
import Derived.Sort.EncStr
namespace Go.Proofs.YtjljknocnebnaaaGreatDoor
open Go.RowKit Go.V Go.Shelf
set_option linter.unusedVariables false

theorem VaSt.facts {w wr : World} {A : Option Addr} {n k : Nat} (h : VaSt w wr A n k) : wr.cell? ⟨w.heap.size, 0, none⟩ = some (.slice A n k) ∧ wr.cell? ⟨w.heap.size + 1, 0, none⟩ = some (.int .i64 0) ∧ wr.cell? ⟨w.heap.size + 1, 1, none⟩ = some (.int .i64 0) ∧
    wr.frozen? ⟨w.heap.size + 1, 0, none⟩ = false ∧ wr.frozen? ⟨w.heap.size + 1, 1, none⟩ = false ∧ w.heap.size < wr.heap.size ∧ w.heap.size + 1 < wr.heap.size :=
  ⟨(h.box.cell 0).trans rfl, (h.res.cell 0).trans rfl, (h.res.cell 1).trans rfl, h.res.frozen 0, h.res.frozen 1, h.box.lt, h.res.lt⟩
theorem VaSt.put {w wr : World} {A : Option Addr} {n k : Nat} (h : VaSt w wr A n k) (u v : Value) : Blk ((wr.setCell ⟨w.heap.size + 1, 0, none⟩ u).setCell ⟨w.heap.size + 1, 1, none⟩ v) (w.heap.size + 1) 28 #[u, v] ∧ Below w.heap.size w ((wr.setCell ⟨w.heap.size + 1, 0, none⟩ u).setCell ⟨w.heap.size + 1, 1, none⟩ v) :=
  ⟨blk_put2 h.res u v, (h.bel.setCell (p := ⟨w.heap.size + 1, 0, none⟩) (by simp only; omega) u).setCell (p := ⟨w.heap.size + 1, 1, none⟩) (by simp only; omega) v⟩
/-- What 'TreePaths' tells: the links are those of the store. -/
def TpPost (w : World) (X : Nat → Prop) (q : (List (List UInt8) × List Int) × (Int × Int)) (e : Ending) (w' : World) : Prop :=
  ∃ A c B m, e = .returned (.tuple #[.slice A q.1.1.length c, .slice B q.1.2.length m, .agg #[.int .i64 q.2.1, .int .i64 q.2.2]]) ∧ LnA w' (Under w.heap.size) q.1.1 A c ∧ SA w' X B (intsV q.1.2) ∧ q.1.2.length ≤ m ∧ Below w.heap.size w w'
theorem TpPost.no {w w' : World} {X : Nat → Prop} {q : (List (List UInt8) × List Int) × (Int × Int)} {c i : Int} (h : q = (([], []), (c, i))) (hb : Below w.heap.size w w') : TpPost w X q (.returned (.tuple #[.slice none 0 0, .slice none 0 0, .agg #[.int .i64 c, .int .i64 i]])) w' := by
  subst h; exact ⟨none, 0, none, 0, rfl, ⟨Nat.le_refl _, Nat.zero_le _, SA.nil⟩, SA.nil, Nat.le_refl _, hb⟩
set_option maxRecDepth 100000 in
set_option maxHeartbeats 16000000 in
theorem treePaths_any (w : World) (hm : Mx w) (A : Option Addr) (k : Nat) (s : List Ob.S) (d : Int) (hv : StV w Free A s) (hl64 : s.length ≤ 9223372036854775807) (X : Nat → Prop) (hvX : StV w X A s) :
    Calls Tryz.prog 6 #[stV A s.length k, .int .i64 d] w (TpPost w X (Tr.ptF s d (-1))) := by
  have HV := Lib.hid (fun (w1 : World) (hb : Below w.heap.size w w1) => hv.keep (free_below hb))
  have HVX := Lib.hid (fun (w1 : World) (hb : Below w.heap.size w w1) => (hvX.keep (Keeps.below hb fun _ _ h => h) : StV w1 X A s))
  have HM := Lib.hid (fun (w1 : World) (hb : Below w.heap.size w w1) => hm.below hb)
  have st0 : VaSt w ((w.alloc (.cells #[.slice A s.length k] 24)).alloc (.cells #[.int .i64 0, .int .i64 0] 28)) A s.length k := ⟨(Blk.new _ _ _).alloc _, blk_new1 _ _ _ _, below_alloc2 _ _ _⟩
  have HC := Lib.hid (storeFault_any _ A k s (HV.out _ st0.bel) hl64)
  have HQa := Lib.hid (Tr.ptF_st (s := s) d (-1))
  have HQb := Lib.hid (fun (h : Ob.StOk s) (h2 : Tr.gtO s d = none) => Tr.ptF_none (s := s) (d := d) (-1) h h2)
  have HQc := Lib.hid (fun (h : Ob.StOk s) (o : Ob.O) (h2 : Tr.gtO s d = some o) => And.intro (Tr.ptF_bad (s := s) (d := d) (o := o) (-1) h h2) (Tr.ptF_ok (s := s) (d := d) (o := o) (-1) h h2))
  clear hv hvX hm
  generalize hq : Tr.ptF s d (-1) = q at *
  clear hq
  go_enter Tryz.func6, Tryz.ntmps6
  go_wp2_with fail
  go_at_call 16
  with_reducible refine (HC.out).mono ?_
  rintro e w1 ⟨rfl, hb1⟩
  have st1 := st0.below hb1
  clear hb1 HC st0
  obtain ⟨p0, p1, p2, f1, f2, l0, l1⟩ := st1.facts
  by_cases hbad : (Ob.stF s).1 ≠ 0
  · have H := Lib.hid (HQa.out hbad)
    have hx1 : ((Ob.stF s).1 == 0) = false := by simpa using hbad
    have hx2 : ((Ob.stF s).1 != 0) = true := by simpa using hbad
    clear hbad HQa HQb HQc HV HVX HM
    generalize Ob.stF s = q3 at *
    obtain ⟨cd, ix⟩ := q3
    simp only at hx1 hx2
    have HR : Hid (∀ w', Below w.heap.size w w' → TpPost w X q (.returned (.tuple #[.slice none 0 0, .slice none 0 0, .agg #[.int .i64 cd, .int .i64 ix]])) w') := Lib.hid fun w' hb => TpPost.no H.out hb
    clear H
    generalize TpPost w X q = R at *
    go_wp2_with fail
    go_region
    all_goals
      go_wp2_with fail
      obtain ⟨k1, k2⟩ := st1.put (.int .i64 cd) (.int .i64 ix)
      refine bodyPost_ret (results_tt30 rfl _ _ (w.heap.size + 1) (.int .i64 cd) (.int .i64 ix) rfl (k1.alloc _).drew) rfl ?_
      exact HR.out _ (below_drew' (k2.alloc (by simp [World.setCell]; omega) _))
  · obtain ⟨hz, hok⟩ := Ob.stF_ok (s := s) (by simpa using hbad)
    have hs40 := hok.len
    have HAT := Lib.hid (fun (w1 : World) (hb : Below w.heap.size w w1) => at2_any w1 A k s d (HV.out _ hb) (by omega))
    have HGA := Lib.hid (fun (r : Int) (h : Tr.AtIs s d r) => Tr.gtO_at hok h)
    have HQb := Lib.hid (HQb.out hok)
    have HQc := Lib.hid (HQc.out hok)
    have HOK := Lib.hid (fun i hi => hok.ok i hi)
    rw [hz]
    have st2 := st1.below (below_alloc1 w1 (.cells #[.int .i64 0, .int .i64 0] 28))
    clear hz hbad hok HQa p0 p1 p2 f1 f2
    obtain ⟨p0, p1, p2, f1, f2, m0, m1⟩ := st2.facts
    go_wp2_with fail
    go_at_call 17
    with_reducible refine (HAT.out _ st2.bel).mono ?_
    rintro e w2 ⟨⟨rr, rfl, hat⟩, hb2⟩
    have st3 := st2.below hb2
    clear HAT st1 st2 hb2 p0 p1 p2 f1 f2 m0 m1 l0 l1
    obtain ⟨p0, p1, p2, f1, f2, l0, l1⟩ := st3.facts
    rcases HGA.out rr hat with ⟨rfl, hg⟩ | ⟨i, rfl, hi, hg⟩
    · have H := Lib.hid (HQb.out hg)
      clear HQb HQc HGA hat hg HV HVX HM HOK
      have HR : Hid (∀ w', Below w.heap.size w w' → TpPost w X q (.returned (.tuple #[.slice none 0 0, .slice none 0 0, .agg #[.int .i64 6, .int .i64 (-1)]])) w') := Lib.hid fun w' hb => TpPost.no H.out hb
      clear H
      generalize TpPost w X q = R at *
      go_wp2_with (go_at_call 18; refine (fault_any _ _ _).mono ?_; rintro e w9 ⟨rfl, rfl⟩)
      obtain ⟨k1, k2⟩ := st3.put (.int .i64 6) (.int .i64 (-1))
      refine bodyPost_ret (results_tt30 rfl _ _ (w.heap.size + 1) (.int .i64 6) (.int .i64 (-1)) rfl (k1.alloc _)) rfl ?_
      exact HR.out _ (k2.alloc (by simp [World.setCell]; omega) _)
    · have hi' : (i : Int) < s.length := by omega
      have hi0' : (0 : Int) ≤ i := by omega
      have hix : ¬ ((i : Int) < 0) := by omega
      obtain ⟨HQc1, HQc2⟩ := HQc.out _ hg
      have HQ1 := Lib.hid HQc1
      have HQ2 := Lib.hid HQc2
      clear HQc1 HQc2
      have hdn := (HOK.out i hi).dn
      obtain ⟨b, off, Al, kl, Ad, kd, e, hb, _, d0, d1, d2, d3, hx, hob⟩ := (HV.out _ st3.bel).row i hi
      obtain ⟨b', off', Al', kl', Ad', kd', e', hb', _, d0', d1', d2', d3', hx', hobX⟩ := (HVX.out w (Below.refl _ _)).row i hi
      replace d2' := (st3.bel.cell (p := ⟨b', off' + i * 4 + 1 + 1, none⟩) hb').trans d2'
      replace d3' := (st3.bel.cell (p := ⟨b', off' + i * 4 + 1 + 2, none⟩) hb').trans d3'
      obtain ⟨rfl, rfl⟩ : b = b' ∧ off = off' := by subst e; injection e' with e'; injection e' with e1 e2; exact ⟨e1, e2⟩
      obtain ⟨rfl, rfl⟩ : Al = Al' ∧ kl = kl' := by rw [d2] at d2'; injection d2' with h; injection h with h1 h2 h3; exact ⟨h1, h3⟩
      obtain ⟨rfl, rfl⟩ : Ad = Ad' ∧ kd = kd' := by rw [d3] at d3'; injection d3' with h; injection h with h1 h2 h3; exact ⟨h1, h3⟩
      subst e
      have hw3 := below_alloc1 w2 (.cells #[.int .i64 (Ob.it s i).ob.kind, .slice Al (Ob.it s i).ob.links.length kl, .slice Ad (Ob.it s i).ob.data.length kd] 56)
      have bo := Blk.new w2 56 #[.int .i64 (Ob.it s i).ob.kind, .slice Al (Ob.it s i).ob.links.length kl, .slice Ad (Ob.it s i).ob.data.length kd]
      have st4 := st3.below hw3
      have HLX := Lib.hid (fun (w' : World) (hb : Below w.heap.size w w') => (hobX.ls.keep (Keeps.below hb fun _ _ h => h) : SA w' X Al (intsV (Ob.it s i).ob.links)))
      have hlk := hob.lk
      have hdk := hob.dk
      have HCU := Lib.hid (cut_any _ Ad kd (Ob.it s i).ob.data (hob.ds.keep (Keeps.below hw3 fun _ _ h => h)) hdk (by omega))
      have HPK := Lib.hid (Tr.prF_kind (o := (Ob.it s i).ob))
      have HPM := Lib.hid (Tr.prF_mal (o := (Ob.it s i).ob))
      have HPO := Lib.hid (Tr.prF_ok (o := (Ob.it s i).ob))
      have hcl := Tr.cut_len2 (Ob.it s i).ob.data
      clear hob hobX d0' d1' d2' d3' hb' hx hx' hat hg HQb HQc HGA HV HVX HOK e'
      generalize (Ob.it s i).ob = o at *
      obtain ⟨kk, lo, da⟩ := o
      simp only at *
      by_cases hk : kk = 2
      · subst hk
        have HPM2 := Lib.hid (HPM.out rfl)
        have HPO2 := Lib.hid (HPO.out rfl)
        clear HPK HPM HPO
        go_wp2_with fail
        go_at_call 19
        with_reducible refine (HCU.out).mono ?_
        rintro e w4 ⟨A4, c4, rfl, hc4, hs4, hb4⟩
        have st5 := st4.below hb4
        have bo5 := bo.below hb4 bo.lt
        have hbo5 := Lib.hid (hw3.trans (hb4.mono hw3.size))
        have hsz3 := st4.bel.size
        clear HCU st4 bo hw3 p0 p1 p2 f1 f2 l0 l1 d0 d1 d2 d3
        obtain ⟨p0, p1, p2, f1, f2, l0, l1⟩ := st5.facts
        have hLl : (Tr.cut da).1.length ≤ 1000 := by omega
        have hsvL := hs4
        generalize (Tr.cut da).1 = L at *
        generalize (Tr.cut da).2 = T at *
        generalize hzb : decide (T = []) = zb at *
        have rw0 := RwSt.start w4 41 38 2 (Below.refl w4.heap.size w4)
        have hx3 : Hid (Under (w2.alloc (.cells #[.int .i64 2, .slice Al lo.length kl, .slice Ad da.length kd] 56)).heap.size (w.heap.size + 1)) := Lib.hid (by unfold Under; have := st3.res.lt; simp; omega)
        obtain ⟨i0, hi0, hz0, hz1, hz2⟩ := info_parts info49
        clear hsvL hcl hdk hdn
        go_wp2_with fail
        go_loopw [13] (fun iv wr => ∃ (i : Nat) (B : Option Addr) (c : Nat), i ≤ L.length ∧ iv = .int .i64 i ∧ RwSt w4 wr w4.heap.size 41 38 2 B i c ((L.take i).flatMap fun p => [strV p, .slice none 0 0])) (fun iv _ => L.length - (intOf iv).toNat)
        case atStart => exact ⟨0, none, 0, Nat.zero_le _, rfl, rw0⟩
        case round =>
          obtain ⟨j, B, c, hj, rfl, rs⟩ := hrel
          obtain ⟨wo, rfl⟩ : ∃ wo : World, wo = wr := ⟨_, rfl⟩
          clear rw0
          by_cases hlt : j < L.length
          · have hlt' : (j : Int) < L.length := by omega
            have hj0 : (0 : Int) ≤ j := by omega
            obtain ⟨b1, off1, e0, hb1, _, d1⟩ := ssV_row hs4 j hlt
            subst e0
            have eL : (L.take (j + 1)).flatMap (fun p => [strV p, Value.slice none 0 0]) = (L.take j).flatMap (fun p => [strV p, Value.slice none 0 0]) ++ [strV L[j], .slice none 0 0] := by rw [List.take_succ_eq_append_getElem hlt, List.flatMap_append]; simp
            have eL := Lib.hid eL
            generalize L[j] = x at *
            generalize (L.take j).flatMap (fun p => [strV p, Value.slice none 0 0]) = xs at *
            have HK4 : Hid (∀ w6 : World, Below w4.heap.size w4 w6 → w6.cell? ⟨b1, off1 + j, none⟩ = some (strV x)) := Lib.hid fun w6 h6 => (h6.cell (p := ⟨b1, off1 + j, none⟩) hb1).trans d1
            have HK : Hid (∀ w6 : World, Below wo.heap.size wo w6 → w6.cell? ⟨b1, off1 + j, none⟩ = some (strV x)) := Lib.hid fun w6 h6 => HK4.out _ (rs.bel.trans (h6.mono rs.bel.size))
            have h63 : j + 1 ≤ maxLen := by unfold maxLen; omega
            have hby : (j + 1) * 40 ≤ 140737488355328 := by omega
            have hgs := rs.hg
            clear p0 p1 p2 f1 f2 l0 l1 d1
            go_wp2_with fail
            refine wp_region_noPanic ?_
            refine wp_region_held_drew (S := (fun w6 : World => w6.cell? ⟨b1, off1 + j, none⟩ = some (strV x))) (by kernel_rfl) ?_ (fun hSR => ?_)
            · exact HK.out _ (below_drew' (Below.refl _ _))
            have hq : Below wo.heap.size wo wo.drew := below_drew' (Below.refl _ _)
            have hszb : wo.heap.size ≤ wo.drew.heap.size := Nat.le_refl _
            generalize hWg : wo.drew = WR at *
            clear hWg
            replace rs := rs.below hq
            refine wpAnyH_take (i := 0) (v := .pointer (some ⟨w4.heap.size, 0, none⟩)) rfl (by kernel_rfl) (by kernel_rfl) (by kernel_rfl) (fun _ _ _ h => h) (Or.inl ⟨by kernel_rfl, ?qR1⟩) (by assumption) ?rqR1
            case qR1 => (intro w hSw; (try dsimp only at hSw); go_simp)
            try simp only [Act.put, List.setIfInBounds_toArray]
            refine wpAnyH_take (i := 2) (v := .slice (some ⟨b1, off1, none⟩) L.length c4) rfl (by kernel_rfl) (by kernel_rfl) (by kernel_rfl) (fun _ _ _ h => h) (Or.inl ⟨by kernel_rfl, ?qR2⟩) (by assumption) ?rqR2
            case qR2 => (intro w hSw; (try dsimp only at hSw); go_simp)
            try simp only [Act.put]
            refine wpAnyH_take (i := 3) (v := .int .i64 (j : Int)) rfl (by kernel_rfl) (by kernel_rfl) (by kernel_rfl) (fun _ _ _ h => h) (Or.inl ⟨by kernel_rfl, ?qR3⟩) (by assumption) ?rqR3
            case qR3 => (intro w hSw; (try dsimp only at hSw); go_simp)
            try simp only [Act.put]
            refine wpAnyH_take (i := 4) (v := .pointer (some ⟨b1, off1 + j, none⟩)) rfl (by kernel_rfl) (by kernel_rfl) (by kernel_rfl) (fun _ _ _ h => h) (Or.inl ⟨by kernel_rfl, ?qR4⟩) (by assumption) ?rqR4
            case qR4 => (intro w hSw; (try dsimp only at hSw); go_simp)
            try simp only [Act.put]
            refine wpAnyH_take (i := 5) (v := strV x) rfl (by kernel_rfl) (by kernel_rfl) (by kernel_rfl) (fun _ _ _ h => h) (Or.inl ⟨by kernel_rfl, ?qR5⟩) (by assumption) ?rqR5
            case qR5 => (intro w hSw; (try dsimp only at hSw); go_simp)
            try simp only [Act.put]
            refine wpAnyH_take (i := 6) (v := .agg #[strV x, .slice none 0 0]) rfl (by kernel_rfl) (by kernel_rfl) (by kernel_rfl) (fun _ _ _ h => h) (Or.inl ⟨by kernel_rfl, ?qR6⟩) (by assumption) ?rqR6
            case qR6 => (intro w hSw; (try dsimp only at hSw); go_simp)
            try simp only [Act.put]
            refine wpAnyH_ready (rs := [1, 7]) (by kernel_rfl) (by simp) ?_
            refine AllReadyH.cons rfl (fun K hK => ?nR7) (AllReadyH.cons rfl (fun K hK => ?nR8) (AllReadyH.nil))
            case nR7 =>
              have f1 := (rs.sb.cell 0).trans rfl
              have f1l := rs.sb.lt
              go_simp
              refine hK.out _ _ ?_ (fun hSR9 => ?_)
              · exact HK.out _ (hq)
              clear hK K
              try simp only [Act.put, List.setIfInBounds_toArray]
              refine wpAnyH_ready (rs := [7]) (by kernel_rfl) (by simp) ?_
              refine AllReadyH.cons rfl (fun K hK => ?nR10) (AllReadyH.nil)
              go_simp
              refine hK.out _ _ ?_ (fun hSR12 => ?_)
              · exact HK.out _ (hq.alloc hq.size (.cells #[strV x, .slice none 0 0] 38))
              clear hK K
              try simp only [Act.put, List.setIfInBounds_toArray]
              replace hq := hq.alloc hq.size (.cells #[strV x, .slice none 0 0] 38)
              have bl := Blk.new WR 38 #[strV x, .slice none 0 0]
              replace rs := rs.below (below_alloc1 WR (.cells #[strV x, .slice none 0 0] 38))
              have zR13 : WR.heap.size < (WR.alloc (.cells #[strV x, .slice none 0 0] 38)).heap.size := by simp
              generalize WR.alloc (.cells #[strV x, .slice none 0 0] 38) = WR11 at *
              refine wpAnyH_ready (rs := [8]) (by kernel_rfl) (by simp) ?_
              refine AllReadyH.cons rfl (fun K hK => ?nR14) (AllReadyH.nil)
              refine step_appNo _ rfl (.tmp 50) (.tmp 56) 39 rfl w4.heap.size 38 i0 _ 2 40 Tryz.underlying39 hi0 hz0 hz1 hz2 rfl (by decide) B j c xs rfl rs.own _ 1 [strV x, .slice none 0 0] rfl rfl (fun i' v hi' => by rw [bl.cell i', ← Array.getElem?_toList]; exact hi') (by intro u hu; simp at hu; rcases hu with rfl | rfl <;> rfl) h63 hby (Nat.le_of_lt rs.sb.lt) ?_
              intro g8 c8 WR15 hown8 hg8 hob8
              have rs9 := rs.app (by decide) hg8 hown8
              have bk8 := rs.sb.grown hg8 (own_blk_ne rs.own rs.sb (by decide))
              have f8 := bk8.frozen 0
              have f8l := bk8.lt
              have f8c := (bk8.cell 0).trans rfl
              have bx8 := HK4.out _ (rs.bel.grown hg8 rs.bel.size (fun b hb => by have := (rs.own.lt b hb).1; have := rs.hg; omega))
              refine hK.out _ _ ?_ (fun hSR16 => ?_)
              · exact bx8
              clear hK K
              try simp only [Act.put, List.setIfInBounds_toArray]
              clear hown8 hg8 hob8 bk8
              refine wpAnyH_take (i := 9) (v := .pointer (some ⟨w4.heap.size, 0, none⟩)) rfl (by kernel_rfl) (by kernel_rfl) (by kernel_rfl) (fun _ _ _ h => h) (Or.inl ⟨by kernel_rfl, ?qR17⟩) (by assumption) ?rqR17
              case qR17 => (intro w hSw; (try dsimp only at hSw); go_simp)
              try simp only [Act.put]
              refine wpAnyH_ready (rs := [10]) (by kernel_rfl) (by simp) ?_
              refine AllReadyH.cons rfl (fun K hK => ?nR18) (AllReadyH.nil)
              go_simp
              refine hK.out _ _ ?_ (fun hSR19 => ?_)
              · exact HK4.out _ rs9.bel
              clear hK K
              try simp only [Act.put, List.setIfInBounds_toArray]
              refine wpAnyH_done (by kernel_rfl) ?_ _
              refine NoPanic.normal ?_
              go_wp2_with fail
              go_roundw
              case rel => exact ⟨j + 1, _, _, by omega, by go_num, by rw [eL.out]; exact rs9⟩
              case measure => simp [intOf]; omega
            case nR8 =>
              go_simp
              refine hK.out _ _ ?_ (fun hSR21 => ?_)
              · exact HK.out _ (hq.alloc hq.size (.cells #[strV x, .slice none 0 0] 38))
              clear hK K
              try simp only [Act.put, List.setIfInBounds_toArray]
              replace hq := hq.alloc hq.size (.cells #[strV x, .slice none 0 0] 38)
              have bl := Blk.new WR 38 #[strV x, .slice none 0 0]
              replace rs := rs.below (below_alloc1 WR (.cells #[strV x, .slice none 0 0] 38))
              have zR22 : WR.heap.size < (WR.alloc (.cells #[strV x, .slice none 0 0] 38)).heap.size := by simp
              generalize WR.alloc (.cells #[strV x, .slice none 0 0] 38) = WR20 at *
              refine wpAnyH_ready (rs := [1]) (by kernel_rfl) (by simp) ?_
              refine AllReadyH.cons rfl (fun K hK => ?nR23) (AllReadyH.nil)
              have f1 := (rs.sb.cell 0).trans rfl
              have f1l := rs.sb.lt
              go_simp
              refine hK.out _ _ ?_ (fun hSR24 => ?_)
              · exact HK.out _ (hq)
              clear hK K
              try simp only [Act.put, List.setIfInBounds_toArray]
              refine wpAnyH_ready (rs := [8]) (by kernel_rfl) (by simp) ?_
              refine AllReadyH.cons rfl (fun K hK => ?nR25) (AllReadyH.nil)
              refine step_appNo _ rfl (.tmp 50) (.tmp 56) 39 rfl w4.heap.size 38 i0 _ 2 40 Tryz.underlying39 hi0 hz0 hz1 hz2 rfl (by decide) B j c xs rfl rs.own _ 1 [strV x, .slice none 0 0] rfl rfl (fun i' v hi' => by rw [bl.cell i', ← Array.getElem?_toList]; exact hi') (by intro u hu; simp at hu; rcases hu with rfl | rfl <;> rfl) h63 hby (Nat.le_of_lt rs.sb.lt) ?_
              intro g8 c8 WR26 hown8 hg8 hob8
              have rs9 := rs.app (by decide) hg8 hown8
              have bk8 := rs.sb.grown hg8 (own_blk_ne rs.own rs.sb (by decide))
              have f8 := bk8.frozen 0
              have f8l := bk8.lt
              have f8c := (bk8.cell 0).trans rfl
              have bx8 := HK4.out _ (rs.bel.grown hg8 rs.bel.size (fun b hb => by have := (rs.own.lt b hb).1; have := rs.hg; omega))
              refine hK.out _ _ ?_ (fun hSR27 => ?_)
              · exact bx8
              clear hK K
              try simp only [Act.put, List.setIfInBounds_toArray]
              clear hown8 hg8 hob8 bk8
              refine wpAnyH_take (i := 9) (v := .pointer (some ⟨w4.heap.size, 0, none⟩)) rfl (by kernel_rfl) (by kernel_rfl) (by kernel_rfl) (fun _ _ _ h => h) (Or.inl ⟨by kernel_rfl, ?qR28⟩) (by assumption) ?rqR28
              case qR28 => (intro w hSw; (try dsimp only at hSw); go_simp)
              try simp only [Act.put]
              refine wpAnyH_ready (rs := [10]) (by kernel_rfl) (by simp) ?_
              refine AllReadyH.cons rfl (fun K hK => ?nR29) (AllReadyH.nil)
              go_simp
              refine hK.out _ _ ?_ (fun hSR30 => ?_)
              · exact HK4.out _ rs9.bel
              clear hK K
              try simp only [Act.put, List.setIfInBounds_toArray]
              refine wpAnyH_done (by kernel_rfl) ?_ _
              refine NoPanic.normal ?_
              go_wp2_with fail
              go_roundw
              case rel => exact ⟨j + 1, _, _, by omega, by go_num, by rw [eL.out]; exact rs9⟩
              case measure => simp [intOf]; omega
          · obtain rfl : j = L.length := by omega
            rw [List.take_length] at rs
            obtain ⟨A', c', e, h8, hm8⟩ := own_form rs.own
            injection e with e1 _ e2
            subst e1
            subst e2
            have st6 := st5.below rs.bel
            have bo6 := bo5.below rs.bel bo5.lt
            have hv6 : VfV wo Free B (L.map fun p => (⟨p, []⟩ : Tr.F)) := ⟨_, SA.of_own rs.own (fun b h => False.elim h), rows_files wo L⟩
            have HT := tvalidate_any wo (HM.out _ st6.bel) B c (L.map fun p => (⟨p, []⟩ : Tr.F)) hv6 (by rw [List.length_map]; omega) (by rw [List.length_map]; exact h8)
            rw [List.length_map] at HT
            have HT2 := Lib.hid HT
            have sl6 := hs4.keep (Keeps.below rs.bel fun _ _ h => h)
            have HZ := Lib.hid (fun (h : (Tr.vlF (L.map fun p => (⟨p, []⟩ : Tr.F))).1 = 0) => (Tr.vlF_ok h).1)
            have r0 := (rs.sb.cell 0).trans rfl
            have r1 := rs.sb.lt
            clear p0 p1 p2 f1 f2 l0 l1 hv6 HM bo5 st5 hs4 rs HT
            obtain ⟨p0, p1, p2, f1, f2, l0, l1⟩ := st6.facts
            have o1 := (bo6.cell 1).trans rfl
            have o1l := bo6.lt
            have HR : Hid (∀ P : Tr.prF ⟨2, lo, da⟩ = (([], []), 5), ∀ w', Below w.heap.size w w' → TpPost w X q (.returned (.tuple #[.slice none 0 0, .slice none 0 0, .agg #[.int .i64 5, .int .i64 (-1)]])) w') := Lib.hid fun P w' hb => TpPost.no (by rw [HQ1.out (by rw [P]; decide), P]) hb
            have hfd : ∀ (a b : Int) (W : World), (Instr.field 28 (.agg #[.int .i64 a, .int .i64 b]) 0).run Tryz.prog W = .ok (.int .i64 a) W := fun _ _ _ => by kernel_rfl
            by_cases hz : T = []
            · obtain rfl : zb = true := by rw [← hzb]; exact decide_eq_true hz
              by_cases hn : L.length = lo.length
              · have hn' : ((L.length : Int) != lo.length) = false := by simp [hn]
                by_cases hf : (Tr.vlF (L.map fun p => (⟨p, []⟩ : Tr.F))).1 = 0
                · have HG := Lib.hid (show q = ((L, lo), (0, 0)) from by
                    have h9 := HPO2.out hz hn hf
                    rw [HQ2.out (by rw [h9]), h9])
                  have hHZ := HZ.out hf
                  rw [hHZ] at HT2
                  have HLN := Lib.hid hn
                  clear HR HPM2 HPO2 HQ1 HQ2 HZ hHZ hf hn hz
                  generalize (L.map fun p => (⟨p, []⟩ : Tr.F)) = ft at *
                  go_wp2_with fail
                  go_at_call 20
                  with_reducible refine (HT2.out).mono ?_
                  rintro e w7 ⟨rfl, hb7⟩
                  have st7 := st6.below hb7
                  have bo7 := bo6.below hb7 bo6.lt
                  have sl7 := sl6.keep (Keeps.below hb7 fun _ _ h => h)
                  clear p0 p1 p2 f1 f2 l0 l1 o1 o1l HT2 r0 r1
                  obtain ⟨p0, p1, p2, f1, f2, l0, l1⟩ := st7.facts
                  have o1 := (bo7.cell 1).trans rfl
                  have o1l := bo7.lt
                  go_wp2_with fail
                  go_region
                  all_goals
                    go_wp2_with fail
                    obtain ⟨k1, k2⟩ := st7.put (.int .i64 0) (.int .i64 0)
                    refine bodyPost_ret (results_tt30 rfl _ _ (w.heap.size + 1) (.int .i64 0) (.int .i64 0) rfl k1.drew) rfl ?_
                    rw [HG.out]
                    refine ⟨A4, c4, Al, kl, rfl, ⟨hc4, by show L.length ≤ _; omega, ?_⟩, HLX.out _ (below_drew' k2), hlk, below_drew' k2⟩
                    exact ((sl7.keep ((Keeps.setCell w7 _ ⟨w.heap.size + 1, 0, none⟩ _ hx3.out).trans (Keeps.setCell _ _ ⟨w.heap.size + 1, 1, none⟩ _ hx3.out))).keep (Keeps.drew _ _)).mono fun b hb => Nat.lt_of_lt_of_le hb hsz3
                · have H5 := Lib.hid (HR.out (HPM2.out (.inr (.inr hf))))
                  have hx1 : ((Tr.vlF (L.map fun p => (⟨p, []⟩ : Tr.F))).1 != 0) = true := by simpa using hf
                  clear HR HPM2 HPO2 HQ1 HQ2 HZ hf hn hz
                  generalize (L.map fun p => (⟨p, []⟩ : Tr.F)) = ft at *
                  generalize Tr.vlF ft = f at *
                  obtain ⟨cd, ix⟩ := f
                  simp only at hx1
                  go_wp2_with fail
                  go_at_call 20
                  with_reducible refine (HT2.out).mono ?_
                  rintro e w7 ⟨rfl, hb7⟩
                  have st7 := st6.below hb7
                  clear p0 p1 p2 f1 f2 l0 l1 o1 o1l HT2 r0 r1
                  obtain ⟨p0, p1, p2, f1, f2, l0, l1⟩ := st7.facts
                  go_wp2_with (go_at_call 18; refine (fault_any _ _ _).mono ?_; rintro e w9 ⟨rfl, rfl⟩)
                  obtain ⟨k1, k2⟩ := st7.put (.int .i64 5) (.int .i64 (-1))
                  refine bodyPost_ret (results_tt30 rfl _ _ (w.heap.size + 1) (.int .i64 5) (.int .i64 (-1)) rfl (k1.alloc _)) rfl ?_
                  exact H5.out _ (k2.alloc (by simp [World.setCell]; omega) _)
              · have hn' : ((L.length : Int) != lo.length) = true := by simp; omega
                have H5 := Lib.hid (HR.out (HPM2.out (.inr (.inl hn))))
                clear HR HPM2 HPO2 HQ1 HQ2 HZ hn hz HT2
                go_wp2_with (go_at_call 18; refine (fault_any _ _ _).mono ?_; rintro e w9 ⟨rfl, rfl⟩)
                obtain ⟨k1, k2⟩ := st6.put (.int .i64 5) (.int .i64 (-1))
                refine bodyPost_ret (results_tt30 rfl _ _ (w.heap.size + 1) (.int .i64 5) (.int .i64 (-1)) rfl (k1.alloc _)) rfl ?_
                exact H5.out _ (k2.alloc (by simp [World.setCell]; omega) _)
            · obtain rfl : zb = false := by rw [← hzb]; exact decide_eq_false hz
              have H5 := Lib.hid (HR.out (HPM2.out (.inl hz)))
              clear HR HPM2 HPO2 HQ1 HQ2 HZ hz HT2
              go_wp2_with (go_at_call 18; refine (fault_any _ _ _).mono ?_; rintro e w9 ⟨rfl, rfl⟩)
              obtain ⟨k1, k2⟩ := st6.put (.int .i64 5) (.int .i64 (-1))
              refine bodyPost_ret (results_tt30 rfl _ _ (w.heap.size + 1) (.int .i64 5) (.int .i64 (-1)) rfl (k1.alloc _)) rfl ?_
              exact H5.out _ (k2.alloc (by simp [World.setCell]; omega) _)
      · have hkk : (kk != 2) = true := by simpa using hk
        have H := Lib.hid (show q = (([], []), (8, -1)) from by rw [HQ1.out (by rw [HPK.out hk]; decide), HPK.out hk])
        clear hk HPK HPM HPO HQ1 HQ2 HLX HCU HM
        have HR : Hid (∀ w', Below w.heap.size w w' → TpPost w X q (.returned (.tuple #[.slice none 0 0, .slice none 0 0, .agg #[.int .i64 8, .int .i64 (-1)]])) w') := Lib.hid fun w' hb => TpPost.no H.out hb
        clear H
        generalize TpPost w X q = R at *
        go_wp2_with (go_at_call 18; refine (fault_any _ _ _).mono ?_; rintro e w9 ⟨rfl, rfl⟩)
        obtain ⟨k1, k2⟩ := st3.put (.int .i64 8) (.int .i64 (-1))
        refine bodyPost_ret (results_tt30 rfl _ _ (w.heap.size + 1) (.int .i64 8) (.int .i64 (-1)) rfl ((k1.alloc _).alloc _)) rfl ?_
        exact HR.out _ ((k2.alloc (by simp [World.setCell]; omega) _).alloc (by simp [World.setCell]; omega) _)
end Go.Proofs.YtjljknocnebnaaaGreatDoor
namespace Go.Proofs.YtjljknocnebnaaaGreatDoor
open Go.RowKit Go.V Go.Shelf Go.Sort
set_option linter.unusedVariables false

theorem ba_cells {w : World} {X : Nat → Prop} {b off : Nat} {q : List (List UInt8)} (h : ∀ j u, (ssV q)[j]? = some u → w.cell? ⟨b, off + j, none⟩ = some u) (j : Nat) (hj : j < (q.map Tr.ba).length) : w.cell? ⟨b, off + j, none⟩ = some (.string ((q.map Tr.ba).getD j ByteArray.empty)) := by
  have hj' : j < q.length := by simpa using hj
  rw [Tr.ba_get q j hj']
  have g0 := Fl.get sC_len j q hj' 0 _ rfl
  rw [Nat.mul_one, Nat.add_zero] at g0
  rw [h j _ g0, Tr.at_eq q j hj']
  rfl
theorem index_any (w : World) (A : Option Addr) (c : Nat) (q : List (List UInt8)) (x : List UInt8) (hv : SA w Free A (ssV q)) (hl : q.length ≤ 1000000) :
    Calls Tryz.prog 13 #[.slice A q.length c, strV x] w fun e w' => e = .returned (.int .i64 (Lib.idxOfS ((q.map Tr.ba).take q.length) (Tr.ba x))) ∧ w' = w := by
  by_cases h0 : q = []
  · subst h0
    exact Tryz.slices_Index_string_empty A c (Tr.ba x) w
  · have hp : 0 < (ssV q).length := by rw [ssV_len]; exact List.length_pos_iff.2 h0
    obtain ⟨b, off, rfl, _, _, hc⟩ := hv.at_ hp
    exact Tryz.slices_Index_string b off q.length c (q.map Tr.ba) (Tr.ba x) w (by simp) (by omega) (ba_cells (X := Free) hc)
theorem contains_any (w : World) (A : Option Addr) (c : Nat) (q : List (List UInt8)) (x : List UInt8) (hv : SA w Free A (ssV q)) (hl : q.length ≤ 1000000) :
    Calls Tryz.prog 14 #[.slice A q.length c, strV x] w fun e w' => e = .returned (.bool (decide (x ∈ q))) ∧ w' = w := by
  rw [← Tr.contains_eq q x]
  by_cases h0 : q = []
  · subst h0
    exact Tryz.slices_Contains_string_empty A c (Tr.ba x) w
  · have hp : 0 < (ssV q).length := by rw [ssV_len]; exact List.length_pos_iff.2 h0
    obtain ⟨b, off, rfl, _, _, hc⟩ := hv.at_ hp
    exact Tryz.slices_Contains_string b off q.length c (q.map Tr.ba) (Tr.ba x) w (by simp) (by omega) (ba_cells (X := Free) hc)
theorem sorted_block {w : World} {n g i : Nat} {d : Array (List UInt8)} {os : Array Obj} (hi : i < w.heap.size) (hne : i ≠ g) : (Sort.grow (Sort.putRow encStr (Sort.ahead w n) g 0 d) os).heap[i]? = w.heap[i]? := by
  rw [Sort.heap_grow_old _ _ (by simpa using hi)]
  simp [Sort.putRow, Sort.mapBlock, Array.getElem?_modify, Ne.symm hne]
set_option maxHeartbeats 4000000 in
/-- The sort of a row of the call's own. -/
theorem sort_any (w : World) (base : Nat) (B : Option Addr) (c : Nat) (xs : List (List UInt8)) (hown : w.ownsRow base 9 1 (.slice B xs.length c) xs.length (ssV xs)) (hl : xs.length ≤ 1000000) :
    Calls Tryz.prog 15 #[.slice B xs.length c] w fun e w' => e = .returned (.tuple #[]) ∧ Below base w w' ∧ SA w' (Under base) B (ssV (xs.mergeSort fun a b => decide (a ≤ b))) := by
  by_cases h0 : xs = []
  · subst h0
    refine (Tryz.slices_Sort_string_none B c w).mono fun e w' ⟨h1, h2⟩ => ?_
    subst h2
    exact ⟨h1, Below.refl _ _, by simpa using SA.nil⟩
  · obtain ⟨_, h | ⟨g, cap, cur, e, hg, hh, hn, hm, hs, hx⟩⟩ := hown
    · exact absurd (List.length_eq_zero_iff.1 h.2) h0
    · injection e with e1 _ e2
      subst e1
      subst e2
      have hb : Blk w g 9 cur := hh
      have hc : ∀ j, j < xs.length → w.cell? ⟨g, 0 + j, none⟩ = some (strV (Tr.at_ xs j)) := fun j hj => by
        rw [Nat.zero_add, hb.cell j, ← Array.getElem?_toList]
        have g0 := Fl.get sC_len j xs hj 0 _ rfl
        rw [Nat.mul_one, Nat.add_zero, Tr.at_eq xs j hj] at g0
        have : (cur.toList.take (xs.length * 1))[j]? = some (strV (Tr.at_ xs j)) := by rw [hx]; exact g0
        rw [List.getElem?_take] at this
        split at this
        · exact this
        · cases this
      have hH : Sort.Holds encStr w g 0 xs.toArray := fun j hj => by
        have hj' : j < xs.length := by simpa using hj
        refine ⟨?_, hb.frozen _⟩
        rw [hc j hj', getElem!_pos xs.toArray j hj, List.getElem_toArray, Tr.at_eq xs j hj']
      refine (Tryz.slices_Sort_string g 0 c xs w hH hb.lt (by omega)).mono fun e w' ⟨h1, n, os, h2⟩ => ?_
      have hp := List.mergeSort_perm xs (fun a b => decide (a ≤ b))
      have hpl := hp.length_eq
      generalize (xs.mergeSort fun a b => decide (a ≤ b)) = ys at *
      have hcell : ∀ j, j < ys.length → w'.cell? ⟨g, 0 + j, none⟩ = some (strV (Tr.at_ ys j)) := fun j hj => by
        rw [h2, Sort.cell?_grow _ _ _ (by simpa using hb.lt), Sort.cell?_putRow encStr (Sort.ahead w n) g 0 xs.toArray ys.toArray (Sort.holds_ahead _ _ _ _ _ _ hH) (by simpa using hpl) j (by simpa using hj),
          getElem!_pos ys.toArray j (by simpa using hj), List.getElem_toArray, Tr.at_eq ys j hj]
      have hsz : w.heap.size ≤ w'.heap.size := by rw [h2]; simp
      refine ⟨h1, ⟨by rw [h2]; simp [Sort.grow, Sort.putRow, Sort.mapBlock, Sort.ahead], by rw [h2]; simp [Sort.grow, Sort.putRow, Sort.mapBlock, Sort.ahead], by rw [h2]; simp [Sort.grow, Sort.putRow, Sort.mapBlock, Sort.ahead], hsz, fun i hi => ?_⟩, .inr ⟨g, 0, rfl, Nat.lt_of_lt_of_le hb.lt hsz, fun hU => by unfold Under at hU; omega, fun j u hu => ?_⟩⟩
      · rw [h2]; exact sorted_block (by have := hb.lt; omega) (by omega)
      · have hj : j < ys.length := by have := (List.getElem?_eq_some_iff.1 hu).1; rwa [ssV_len] at this
        rw [hcell j hj]
        have g0 := Fl.get sC_len j ys hj 0 _ rfl
        rw [Nat.mul_one, Nat.add_zero, Tr.at_eq ys j hj] at g0
        rw [← g0]; exact hu
end Go.Proofs.YtjljknocnebnaaaGreatDoor
namespace Go.Proofs.YtjljknocnebnaaaGreatDoor
open Go.RowKit Go.V Go.Shelf
set_option linter.unusedVariables false

theorem PsPost.no {w w' : World} {q : List (List UInt8) × (Int × Int)} {c i : Int} (h : q = ([], (c, i))) (hb : Below w.heap.size w w') : PsPost w q.1 q.2 (.returned (.tuple #[.slice none 0 0, .agg #[.int .i64 c, .int .i64 i]])) w' := by
  subst h; exact ⟨none, 0, rfl, ⟨Nat.le_refl _, Nat.zero_le _, SA.nil⟩, hb⟩
theorem VaSt.far {w wr : World} {A : Option Addr} {n k : Nat} (h : VaSt w wr A n k) {p : Addr} (hp : w.heap.size + 2 ≤ p.block) (u : Value) : VaSt w (wr.setCell p u) A n k :=
  ⟨h.box.far (by omega) _, h.res.far (by omega) _, h.bel.setCell (by omega) _⟩
theorem own_drewN' {w : World} {base : Nat} {e : TypeId} {size n : Nat} {v : Value} {xs : List Value} (h : w.ownsRow base e size v n xs) (m : Nat) : (w.drewN m).ownsRow base e size v n xs := h
set_option maxRecDepth 100000 in
set_option maxHeartbeats 16000000 in
theorem changed_any (w : World) (hm : Mx w) (hm2 : M2 w) (A : Option Addr) (k : Nat) (s : List Ob.S) (a b : Int) (hv : StV w Free A s) (hl64 : s.length ≤ 9223372036854775807) :
    Calls Tryz.prog 5 #[stV A s.length k, .int .i64 a, .int .i64 b] w (PsPost w (Tr.chR s a b).1 (Tr.chR s a b).2) := by
  have HV := Lib.hid (fun (w1 : World) (hb : Below w.heap.size w w1) => hv.keep (free_below hb))
  have HM := Lib.hid (fun (w1 : World) (hb : Below w.heap.size w w1) => And.intro (hm.below hb) (hm2.below hb))
  have st0 : VaSt w ((w.alloc (.cells #[.slice A s.length k] 24)).alloc (.cells #[.int .i64 0, .int .i64 0] 28)) A s.length k := ⟨(Blk.new _ _ _).alloc _, blk_new1 _ _ _ _, below_alloc2 _ _ _⟩
  have HP := Lib.hid (paths_any _ (HM.out _ st0.bel).1 (HM.out _ st0.bel).2 A k s a (-1) (HV.out _ st0.bel) hl64)
  have HP2 := Lib.hid (fun (w1 : World) (hb : Below w.heap.size w w1) => paths_any w1 (HM.out _ hb).1 (HM.out _ hb).2 A k s b (-2) (HV.out _ hb) hl64)
  have HA := Lib.hid (Tr.chR_a (s := s) (a := a) (b := b))
  have HB := Lib.hid (Tr.chR_b (s := s) (a := a) (b := b))
  have HC := Lib.hid (Tr.chR_c (s := s) (a := a) (b := b))
  have HG1 := Lib.hid (fun (h : (Tr.ptF s a (-1)).2.1 = 0) => And.intro (Tr.ptF_good h) (Tr.ptF_srt h))
  have HG2 := Lib.hid (fun (h : (Tr.ptF s b (-2)).2.1 = 0) => And.intro (Tr.ptF_good h) (Tr.ptF_srt h))
  clear hv hm hm2
  generalize Tr.chR s a b = r at *
  generalize Tr.ptF s a (-1) = q1 at *
  generalize Tr.ptF s b (-2) = q2 at *
  obtain ⟨⟨p, x⟩, cd, ix⟩ := q1
  obtain ⟨⟨q, y⟩, cd2, ix2⟩ := q2
  simp only at *
  have hsz0 : Hid (((w.alloc (.cells #[.slice A s.length k] 24)).alloc (.cells #[.int .i64 0, .int .i64 0] 28)).heap.size = w.heap.size + 2) := Lib.hid (by simp)
  go_enter Tryz.func5, Tryz.ntmps5
  go_wp2_with fail
  go_at_call 12
  with_reducible refine (HP.out).mono ?_
  rintro e w1 ⟨A1, c1, B1, m1, rfl, hln, hls, hmm, hb1⟩
  try simp only at hln
  try simp only at hls
  try simp only at hmm
  have hsz1 := hb1.size
  rw [hsz0.out] at hsz1
  have st1 := st0.below hb1
  clear hb1 HP st0
  obtain ⟨p0, p1, p2, f1, f2, l0, l1⟩ := st1.facts
  by_cases hcd : cd = 0
  · obtain ⟨⟨hok, hz, hlen, h24⟩, hsp⟩ := HG1.out hcd
    injection hz with _ hz
    subst hcd
    subst hz
    have HB1 := Lib.hid (HB.out rfl)
    have HC1 := Lib.hid (HC.out rfl)
    clear HB HC
    have HSP := Lib.hid hsp
    have HLX := Lib.hid hlen
    have st1a := st1.below (below_alloc1 w1 (.cells #[.int .i64 0, .int .i64 0] 28))
    have bF := Blk.new w1 28 #[.int .i64 0, .int .i64 0]
    have hka : Keeps w1 (Under ((w.alloc (.cells #[.slice A s.length k] 24)).alloc (.cells #[.int .i64 0, .int .i64 0] 28)).heap.size) (w1.alloc (.cells #[.int .i64 0, .int .i64 0] 28)) (fun b => b = w1.heap.size) := Keeps.below (below_alloc1 _ _) (fun b hb h => by omega)
    have hlna := hln.keep hka
    have hlsa := hls.keep hka
    have HP2 := Lib.hid (HP2.out _ st1a.bel)
    have hsza : (w1.alloc (.cells #[.int .i64 0, .int .i64 0] 28)).heap.size = w1.heap.size + 1 := by simp
    clear hlen HA HG1 hok hln hls hka hsp st1 p0 p1 p2 f1 f2 l0 l1
    obtain ⟨p0, p1, p2, f1, f2, l0, l1⟩ := st1a.facts
    go_wp2_with fail
    go_at_call 12
    with_reducible refine (HP2.out).mono ?_
    rintro e w2 ⟨A2, c2, B2, m2, rfl, hln2, hls2, hmm2, hb2⟩
    try simp only at hln2
    try simp only at hls2
    try simp only at hmm2
    have hszb := hb2.size
    have st2 := st1a.below hb2
    have bF2 := bF.below hb2 bF.lt
    have hlnb := hlna.keep (Keeps.below hb2 fun _ _ h => h)
    have hlsb := hlsa.keep (Keeps.below hb2 fun _ _ h => h)
    generalize hF : w1.heap.size = F at *
    have hUF : Under (w1.alloc (.cells #[.int .i64 0, .int .i64 0] 28)).heap.size F := by unfold Under; omega
    clear HP2 hb2 hlna hlsa bF st1a p0 p1 p2 f1 f2 l0 l1
    obtain ⟨p0, p1, p2, f1, f2, l0, l1⟩ := st2.facts
    have g0 := bF2.frozen 0
    have g1 := bF2.frozen 1
    have g2 := (bF2.cell 0).trans rfl
    have g3 := (bF2.cell 1).trans rfl
    have g4 := bF2.lt
    have st3 : ∀ u v, VaSt w ((w2.setCell ⟨F, 0, none⟩ u).setCell ⟨F, 1, none⟩ v) A s.length k := fun u v => (st2.far (p := ⟨F, 0, none⟩) (by show _ ≤ F; omega) u).far (p := ⟨F, 1, none⟩) (by show _ ≤ F; omega) v
    by_cases hcd2 : cd2 = 0
    · obtain ⟨⟨_, hz, hlen2, h242⟩, hsq⟩ := HG2.out hcd2
      injection hz with _ hz
      subst hcd2
      subst hz
      have HC2 := Lib.hid (HC1.out rfl)
      clear HC1
      have HSQ := Lib.hid hsq
      have HLY := Lib.hid hlen2
      clear hlen2
      have st4 := st3 (.int .i64 0) (.int .i64 0)
      have hk1 : Keeps w2 (fun b => b = F) ((w2.setCell ⟨F, 0, none⟩ (.int .i64 0)).setCell ⟨F, 1, none⟩ (.int .i64 0)) Free := ((Keeps.setCell w2 (fun b => b = F) ⟨F, 0, none⟩ (.int .i64 0) rfl).trans (Keeps.setCell _ (fun b => b = F) ⟨F, 1, none⟩ (.int .i64 0) rfl)).into fun b (h : False) => h.elim
      have hk2 : Keeps w2 (Under (w1.alloc (.cells #[.int .i64 0, .int .i64 0] 28)).heap.size) ((w2.setCell ⟨F, 0, none⟩ (.int .i64 0)).setCell ⟨F, 1, none⟩ (.int .i64 0)) Free := ((Keeps.setCell w2 _ ⟨F, 0, none⟩ (.int .i64 0) hUF).trans (Keeps.setCell _ _ ⟨F, 1, none⟩ (.int .i64 0) hUF)).into fun b (h : False) => h.elim
      have hP := hlnb.keep hk1
      have hX := hlsb.keep hk1
      have hQ := hln2.keep hk2
      have hY := hls2.keep hk2
      clear HB1 HG2 hsq hlnb hlsb hln2 hls2 hk1 hk2 st2 st3
      go_wp2_with fail
      obtain ⟨w3, hw3⟩ : ∃ W : World, W = (w2.setCell ⟨F, 0, none⟩ (.int .i64 0)).setCell ⟨F, 1, none⟩ (.int .i64 0) := ⟨_, rfl⟩
      rw [← hw3] at st4 hP hX hQ hY ⊢
      clear hw3 bF2 g0 g1 g2 g3 g4 p0 p1 p2 f1 f2 l0 l1
      obtain ⟨i0, hi0, hz0, hz1, hz2⟩ := info_parts info9
      have HIX := Lib.hid (fun (W : World) (c : List UInt8) (hb : Below w3.heap.size w3 W) => index_any W A2 c2 q c (hQ.ls.keep (free_below hb)) (by omega))
      have HCN := Lib.hid (fun (W : World) (c : List UInt8) (hb : Below w3.heap.size w3 W) => contains_any W A1 c1 p c (hP.ls.keep (free_below hb)) (by omega))
      go_loopw [13, 43] (fun ov iv wr => ∃ (i : Nat) (B : Option Addr) (c : Nat), i ≤ p.length ∧ iv = .int .i64 i ∧ ov = .slice B (Tr.aL p x q y i).length c ∧ wr.ownsRow w3.heap.size 9 1 (.slice B (Tr.aL p x q y i).length c) (Tr.aL p x q y i).length (ssV (Tr.aL p x q y i)) ∧ Below w3.heap.size w3 wr) (fun _ iv _ => p.length - (intOf iv).toNat)
      case atStart => exact ⟨0, none, 0, Nat.zero_le _, rfl, rfl, World.ownsRow_nil _ _ _ _, Below.refl _ _⟩
      case round =>
        obtain ⟨i, B, c, hi, rfl, rfl, hown, hbw⟩ := hrel
        obtain ⟨wo, rfl⟩ : ∃ wo : World, wo = wr := ⟨_, rfl⟩
        by_cases hlt : i < p.length
        · have hlt' : (i : Int) < p.length := by omega
          have hi0' : (0 : Int) ≤ i := by omega
          have hltx : i < x.length := by have := HLX.out; omega
          have hltx' : (i : Int) < x.length := by omega
          obtain ⟨b1, off1, e1, hb1, _, d1⟩ := ssV_row hP.ls i hlt
          obtain ⟨b2, off2, e2, hb2, _, d2⟩ := hX.get i (by simpa using hltx)
          subst e1
          subst e2
          have d1' : wo.cell? ⟨b1, off1 + i, none⟩ = some (strV (Tr.at_ p i)) := by rw [hbw.cell (p := ⟨b1, off1 + i, none⟩) hb1, d1, Tr.at_eq p i hlt]
          have d2' : wo.cell? ⟨b2, off2 + i, none⟩ = some (.int .i64 (Tr.ln x i)) := by
            rw [hbw.cell (p := ⟨b2, off2 + i, none⟩) hb2, d2]
            unfold Tr.ln; rw [List.getElem?_eq_getElem hltx]; simp [intsV]
          have hal := Tr.aL_len p x q y i
          have h63 : (Tr.aL p x q y i).length + 1 ≤ maxLen := by unfold maxLen; omega
          have hby : ((Tr.aL p x q y i).length + 1) * 16 ≤ 140737488355328 := by omega
          have HSU := Lib.hid (Tr.aL_succ p x q y i)
          have HSB := Lib.hid (Tr.sameB_iff p x q y i)
          have hu : (wo.alloc (.cells #[strV (Tr.at_ p i)] 9)).cell? ⟨wo.heap.size, 0, none⟩ = some (strV (Tr.at_ p i)) := ((Blk.new wo 9 #[strV (Tr.at_ p i)]).cell 0).trans rfl
          have hlb := hbw.size
          clear d1 d2 hal
          by_cases hm : Tr.at_ p i ∈ q
          · obtain ⟨m, hmq, hme⟩ := Tr.at_mem.1 hm
            have hmy : m < y.length := by have := HLY.out; omega
            have hmy' : (m : Int) < y.length := by omega
            have hm0 : (0 : Int) ≤ m := by omega
            have hmn : ¬ ((m : Int) < 0) := by omega
            obtain ⟨b3, off3, e3, hb3, _, d3⟩ := hY.get m (by simpa using hmy)
            subst e3
            have d3' : wo.cell? ⟨b3, off3 + m, none⟩ = some (.int .i64 (Tr.ln y m)) := by
              rw [hbw.cell (p := ⟨b3, off3 + m, none⟩) hb3, d3]
              unfold Tr.ln; rw [List.getElem?_eq_getElem hmy]; simp [intsV]
            have HX1 := HIX.out wo (Tr.at_ p i) hbw
            rw [← hme, Tr.idx_hit HSQ.out hmq, hme] at HX1
            have HX1 := Lib.hid HX1
            have HSE : Hid (Tr.sameB p x q y i = true ↔ Tr.ln x i = Tr.ln y m) := Lib.hid (by
              rw [HSB.out]
              constructor
              · rintro ⟨k', h1, h2, h3⟩
                have : k' = m := Tr.srt_inj HSQ.out h1 hmq (by rw [← h2, hme])
                subst this; exact h3
              · intro h; exact ⟨m, hmq, hme.symm, h⟩)
            clear HSB hm hme d3
            generalize Tr.ln x i = xi at *
            generalize Tr.ln y m = ym at *
            by_cases hxy : xi = ym
            · have hx1 : (xi != ym) = false := by simpa using hxy
              have hsb := HSE.out.2 hxy
              have HSU2 : Hid (Tr.aL p x q y (i + 1) = Tr.aL p x q y i) := Lib.hid (by rw [HSU.out, if_pos hsb, List.append_nil])
              clear HSE HSU hxy hsb
              generalize Tr.at_ p i = pi at *
              go_wp2_with fail
              go_at_call 13
              with_reducible refine (HX1.out).mono ?_
              rintro e w9 ⟨rfl, hw9⟩
              replace hw9 := hw9.symm
              subst hw9
              go_wp2_with fail
              go_quiet (fail)
              go_wp2_with fail
              go_roundw
              case rel => exact ⟨i + 1, B, c, by omega, by go_num, by rw [HSU2.out], by rw [HSU2.out]; exact own_drewN' hown nq, below_drewN hbw nq⟩
              case measure => simp [intOf]; omega
            · have hx1 : (xi != ym) = true := by simpa using hxy
              have hsb : ¬ Tr.sameB p x q y i = true := fun h => hxy (HSE.out.1 h)
              have HSU2 : Hid (Tr.aL p x q y (i + 1) = Tr.aL p x q y i ++ [Tr.at_ p i]) := Lib.hid (by rw [HSU.out, if_neg hsb])
              clear HSE HSU hxy hsb
              generalize Tr.aL p x q y i = al at *
              generalize Tr.at_ p i = pi at *
              go_wp2_with fail
              go_at_call 13
              with_reducible refine (HX1.out).mono ?_
              rintro e w9 ⟨rfl, hw9⟩
              replace hw9 := hw9.symm
              subst hw9
              go_wp2_with fail
              go_quiet (fail)
              have hownW := own_drewN' hown nq
              have hbwW := below_drewN hbw nq
              generalize wo.drewN nq = W at *
              have hu : (W.alloc (.cells #[strV pi] 9)).cell? ⟨W.heap.size, 0, none⟩ = some (strV pi) := ((Blk.new W 9 #[strV pi]).cell 0).trans rfl
              go_wp2_with (first | (at_builtin; refine wpList_app1 _ rfl (.tmp 64) (.tmp 66) 26 rfl w3.heap.size 9 i0 (.string .empty) 16 Tryz.underlying26 hi0 hz0 hz1 hz2 rfl B al.length c (ssV al) rfl (hownW.alloc _) W.heap.size 1 (strV pi) rfl hu rfl h63 hby (Nat.le_trans hbwW.size (by simp)) ?_))
              intro A' c' w' hown' hg' hc'
              have hb' := below_append (hbwW.alloc hbwW.size _) (hownW.alloc _) hg' (Nat.le_refl _) (Nat.le_trans hbwW.size (by simp))
              have hln' : (al ++ [pi]).length = al.length + 1 := by simp
              clear hg' hownW hu hc'
              go_wp2_with fail
              go_roundw
              case rel => exact ⟨i + 1, A', c', by omega, by go_num, by rw [HSU2.out, hln'], by rw [HSU2.out, hln']; simpa [sC] using hown', hb'⟩
              case measure => simp [intOf]; omega
          · have HX1 := HIX.out wo (Tr.at_ p i) hbw
            rw [Tr.idx_miss hm] at HX1
            have HX1 := Lib.hid HX1
            have hsb : ¬ Tr.sameB p x q y i = true := fun h => by obtain ⟨k', h1, h2, _⟩ := HSB.out.1 h; exact hm (Tr.at_mem.2 ⟨k', h1, h2.symm⟩)
            have HSU2 : Hid (Tr.aL p x q y (i + 1) = Tr.aL p x q y i ++ [Tr.at_ p i]) := Lib.hid (by rw [HSU.out, if_neg hsb])
            clear HSB HSU hsb hm
            generalize Tr.aL p x q y i = al at *
            generalize Tr.at_ p i = pi at *
            go_wp2_with fail
            go_at_call 13
            with_reducible refine (HX1.out).mono ?_
            rintro e w9 ⟨rfl, hw9⟩
            replace hw9 := hw9.symm
            subst hw9
            go_wp2_with fail
            go_quiet (fail)
            have hownW := own_drewN' hown nq
            have hbwW := below_drewN hbw nq
            generalize wo.drewN nq = W at *
            have hu : (W.alloc (.cells #[strV pi] 9)).cell? ⟨W.heap.size, 0, none⟩ = some (strV pi) := ((Blk.new W 9 #[strV pi]).cell 0).trans rfl
            go_wp2_with (first | (at_builtin; refine wpList_app1 _ rfl (.tmp 64) (.tmp 66) 26 rfl w3.heap.size 9 i0 (.string .empty) 16 Tryz.underlying26 hi0 hz0 hz1 hz2 rfl B al.length c (ssV al) rfl (hownW.alloc _) W.heap.size 1 (strV pi) rfl hu rfl h63 hby (Nat.le_trans hbwW.size (by simp)) ?_))
            intro A' c' w' hown' hg' hc'
            have hb' := below_append (hbwW.alloc hbwW.size _) (hownW.alloc _) hg' (Nat.le_refl _) (Nat.le_trans hbwW.size (by simp))
            have hln' : (al ++ [pi]).length = al.length + 1 := by simp
            clear hg' hownW hu hc'
            go_wp2_with fail
            go_roundw
            case rel => exact ⟨i + 1, A', c', by omega, by go_num, by rw [HSU2.out, hln'], by rw [HSU2.out, hln']; simpa [sC] using hown', hb'⟩
            case measure => simp [intOf]; omega
        · obtain rfl : i = p.length := by omega
          have hal := Tr.aL_len p x q y p.length
          have HSO := Lib.hid (Tr.sort_oL x y HSP.out HSQ.out)
          have HPL := Lib.hid (Tr.ch_oL p x q y)
          generalize Tr.aL p x q y p.length = al at *
          clear HIX HSP HSQ HLX HLY
          go_wp2_with fail
          go_loopw [13, 71] (fun ov iv wr => ∃ (j : Nat) (B : Option Addr) (c : Nat), j ≤ q.length ∧ iv = .int .i64 j ∧ ov = .slice B (Tr.oL al p q j).length c ∧ wr.ownsRow w3.heap.size 9 1 (.slice B (Tr.oL al p q j).length c) (Tr.oL al p q j).length (ssV (Tr.oL al p q j)) ∧ Below w3.heap.size w3 wr) (fun _ iv _ => q.length - (intOf iv).toNat)
          case atStart => exact ⟨0, B, c, Nat.zero_le _, rfl, by rw [Tr.oL_zero], by rw [Tr.oL_zero]; exact hown, hbw⟩
          case round =>
            clear hown hbw
            obtain ⟨i, B, c, hi, rfl, rfl, hown, hbw⟩ := hrel
            obtain ⟨wo, rfl⟩ : ∃ wo : World, wo = wr := ⟨_, rfl⟩
            by_cases hlt : i < q.length
            · have hlt' : (i : Int) < q.length := by omega
              have hi0' : (0 : Int) ≤ i := by omega
              obtain ⟨b1, off1, e1, hb1, _, d1⟩ := ssV_row hQ.ls i hlt
              subst e1
              have d1' : wo.cell? ⟨b1, off1 + i, none⟩ = some (strV (Tr.at_ q i)) := by rw [hbw.cell (p := ⟨b1, off1 + i, none⟩) hb1, d1, Tr.at_eq q i hlt]
              have hbl := Tr.oL_len al p q i
              have h63 : (Tr.oL al p q i).length + 1 ≤ maxLen := by unfold maxLen; omega
              have hby : ((Tr.oL al p q i).length + 1) * 16 ≤ 140737488355328 := by omega
              have hlb := hbw.size
              have HX1 := HCN.out wo (Tr.at_ q i) hbw
              clear d1 hbl
              by_cases hm : Tr.at_ q i ∈ p
              · rw [decide_eq_true hm] at HX1
                have HX1 := Lib.hid HX1
                have HSU2 : Hid (Tr.oL al p q (i + 1) = Tr.oL al p q i) := Lib.hid (Tr.oL_in hm)
                clear hm
                generalize Tr.at_ q i = pi at *
                go_wp2_with fail
                go_at_call 14
                with_reducible refine (HX1.out).mono ?_
                rintro e w9 ⟨rfl, hw9⟩
                replace hw9 := hw9.symm
                subst hw9
                go_wp2_with fail
                go_roundw
                case rel => exact ⟨i + 1, B, c, by omega, by go_num, by rw [HSU2.out], by rw [HSU2.out]; exact hown, hbw⟩
                case measure => simp [intOf]; omega
              · rw [decide_eq_false hm] at HX1
                have HX1 := Lib.hid HX1
                have HSU2 : Hid (Tr.oL al p q (i + 1) = Tr.oL al p q i ++ [Tr.at_ q i]) := Lib.hid (Tr.oL_out hm)
                clear hm
                generalize hall : Tr.oL al p q i = al3 at *
                clear hall
                generalize Tr.at_ q i = pi at *
                go_wp2_with fail
                go_at_call 14
                with_reducible refine (HX1.out).mono ?_
                rintro e w9 ⟨rfl, hw9⟩
                replace hw9 := hw9.symm
                subst hw9
                obtain ⟨W, hW⟩ : ∃ W : World, W = wo := ⟨_, rfl⟩
                have hownW := hown
                have hbwW := hbw
                rw [← hW] at hownW hbwW ⊢
                clear hW
                have hu : (W.alloc (.cells #[strV pi] 9)).cell? ⟨W.heap.size, 0, none⟩ = some (strV pi) := ((Blk.new W 9 #[strV pi]).cell 0).trans rfl
                go_wp2_with (first | (at_builtin; refine wpList_app1 _ rfl (.tmp 79) (.tmp 81) 26 rfl w3.heap.size 9 i0 (.string .empty) 16 Tryz.underlying26 hi0 hz0 hz1 hz2 rfl B al3.length c (ssV al3) rfl (hownW.alloc _) W.heap.size 1 (strV pi) rfl hu rfl h63 hby (Nat.le_trans hbwW.size (by simp)) ?_))
                intro A' c' w' hown' hg' hc'
                have hb' := below_append (hbwW.alloc hbwW.size _) (hownW.alloc _) hg' (Nat.le_refl _) (Nat.le_trans hbwW.size (by simp))
                have hln' : (al3 ++ [pi]).length = al3.length + 1 := by simp
                clear hg' hownW hu hc'
                go_wp2_with fail
                go_roundw
                case rel => exact ⟨i + 1, A', c', by omega, by go_num, by rw [HSU2.out, hln'], by rw [HSU2.out, hln']; simpa [sC] using hown', hb'⟩
                case measure => simp [intOf]; omega
            · obtain rfl : i = q.length := by omega
              have hbl := Tr.oL_len al p q q.length
              have HS := Lib.hid (sort_any wo w3.heap.size B c _ hown (by omega))
              obtain ⟨_, _, e, h8, _⟩ := own_form hown
              injection e with e0 _ e
              subst e0
              subst e
              have HR : Hid (r = (Tr.chF p x q y, (0, 0))) := HC2
              have hcl : Hid ((Tr.chF p x q y).length = (Tr.oL al p q q.length).length) := Lib.hid HPL.out
              have HSO2 := HSO.out
              have HSO2 := Lib.hid HSO2
              have hll : (Tr.oL al p q q.length).length ≤ 1000 := by omega
              clear HC2 HPL HSO hown hbl hal HCN
              generalize Tr.oL al p q q.length = out at *
              go_wp2_with fail
              go_at_call 15
              with_reducible refine (HS.out).mono ?_
              rintro e w5 ⟨rfl, hb5, hs5⟩
              rw [HSO2.out] at hs5
              have hb35 := hbw.trans hb5
              have st5 := st4.below hb35
              have hw3 := st4.res.lt
              obtain ⟨p0, p1, p2, f1, f2, l0, l1⟩ := st5.facts
              clear HS hb5 HSO2
              go_wp2_with fail
              refine bodyPost_ret (results_t30 rfl _ _ (w.heap.size + 1) (.int .i64 0) (.int .i64 0) rfl (blk_put2 st5.res _ _)) rfl ?_
              rw [HR.out]
              refine ⟨B, c, by rw [hcl.out]; rfl, ⟨by rw [hcl.out]; exact h8, by rw [hcl.out]; omega, ?_⟩, ?_⟩
              · have hU : Under w3.heap.size (w.heap.size + 1) := hw3
                exact (hs5.keep ((Keeps.setCell w5 _ ⟨w.heap.size + 1, 0, none⟩ _ hU).trans (Keeps.setCell _ _ ⟨w.heap.size + 1, 1, none⟩ _ hU))).mono fun b hb => by unfold Under at *; omega
              · exact (st5.bel.setCell (p := ⟨w.heap.size + 1, 0, none⟩) (Nat.le_succ _) _).setCell (p := ⟨w.heap.size + 1, 1, none⟩) (Nat.le_succ _) _
    · have H := Lib.hid (HB1.out hcd2)
      have hx1 : (cd2 == 0) = false := by simpa using hcd2
      have hx2 : (cd2 != 0) = true := by simpa using hcd2
      have HR : Hid (∀ w', Below w.heap.size w w' → PsPost w r.1 r.2 (.returned (.tuple #[.slice none 0 0, .agg #[.int .i64 cd2, .int .i64 ix2]])) w') := Lib.hid fun w' hb => PsPost.no H.out hb
      have st4 := st3 (.int .i64 cd2) (.int .i64 ix2)
      clear hcd2 HB1 HC1 HG2 HV HM H st3 hlnb hlsb hln2 hls2 HSP
      generalize PsPost w r.1 r.2 = R at *
      go_wp2_with fail
      go_region
      all_goals
        go_wp2_with fail
        refine bodyPost_ret (results_t30 rfl _ _ (w.heap.size + 1) (.int .i64 cd2) (.int .i64 ix2) rfl (blk_put2 st4.res _ _).drew) rfl ?_
        exact HR.out _ (below_drew' ((st4.bel.setCell (p := ⟨w.heap.size + 1, 0, none⟩) (Nat.le_succ _) _).setCell (p := ⟨w.heap.size + 1, 1, none⟩) (Nat.le_succ _) _))
  · have H := Lib.hid (HA.out hcd)
    have hx1 : (cd == 0) = false := by simpa using hcd
    have hx2 : (cd != 0) = true := by simpa using hcd
    have HR : Hid (∀ w', Below w.heap.size w w' → PsPost w r.1 r.2 (.returned (.tuple #[.slice none 0 0, .agg #[.int .i64 cd, .int .i64 ix]])) w') := Lib.hid fun w' hb => PsPost.no H.out hb
    clear hcd HA HB HC HG1 HG2 HV HM H hln hls
    generalize PsPost w r.1 r.2 = R at *
    go_wp2_with fail
    go_region
    all_goals
      go_wp2_with fail
      refine bodyPost_ret (results_t30 rfl _ _ (w.heap.size + 1) (.int .i64 cd) (.int .i64 ix) rfl ((blk_put2 st1.res _ _).alloc _).drew) rfl ?_
      refine HR.out _ ?_
      exact below_drew' ((((st1.bel.setCell (p := ⟨w.heap.size + 1, 0, none⟩) (Nat.le_succ _) _).setCell (p := ⟨w.heap.size + 1, 1, none⟩) (Nat.le_succ _) _).alloc (by simp [World.setCell]; omega) _))
end Go.Proofs.YtjljknocnebnaaaGreatDoor
