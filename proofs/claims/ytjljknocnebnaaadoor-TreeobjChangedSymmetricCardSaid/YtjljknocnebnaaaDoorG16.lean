/-
  File trees: walk of the reference's 'ReadTree'.
  File trees: walk of 'Paths'.
  TreeobjWriteMatchesSpec, TreeobjReadMatchesSpec: the laws' walks.
-/
import Derived.Test.YtjljknocnebnaaaDoorG15
import Derived.Test.YtjljknocnebnaaaDoorG10
import Derived.Test.YtjljknocnebnaaaDoorG09
import Derived.Test.YtjljknocnebnaaaDoorG12
namespace Go.Proofs.YtjljknocnebnaaaDoor
open Go.RowKit Go.V Go.Shelf
set_option linter.unusedVariables false

set_option maxRecDepth 100000 in
set_option maxHeartbeats 16000000 in
theorem readTree_any (w : World) (hm : Mx w) (hm2 : M2 w) (A : Option Addr) (k : Nat) (s : List Ob.S) (d : Int) (hv : StV w Free A s) (hl64 : s.length ≤ 9223372036854775807) :
    Calls Tryd.prog 15 #[stV A s.length k, .int .i64 d] w (RdPost w (Tr.rdF s d)) := by
  have HV := Lib.hid (fun (w1 : World) (hb : Below w.heap.size w w1) => hv.keep (free_below hb))
  have HM := Lib.hid (fun (w1 : World) (hb : Below w.heap.size w w1) => And.intro (hm.below hb) (hm2.below hb))
  have st0 : RdB w (((w.alloc (.cells #[.slice A s.length k] 24)).alloc (.cells #[.slice none 0 0] 27)).alloc (.cells #[.int .i64 0, .int .i64 0] 30)) A s.length k :=
    ⟨((Blk.new _ _ _).alloc _).alloc _, (blk_new1 _ _ _ _).alloc _, blk_new2 _ _ _ _ _, below_alloc3 _ _ _ _⟩
  have HP := Lib.hid (treePaths_any _ (HM.out _ st0.bel).1 A k s d (HV.out _ st0.bel) hl64 Free (HV.out _ st0.bel))
  have HNO := Lib.hid (Tr.rdF_no (s := s) (d := d))
  have HGO := Lib.hid (Tr.rdF_go (s := s) (d := d))
  have HG := Lib.hid (fun (h : (Tr.ptF s d (-1)).2.1 = 0) => Tr.ptF_good h)
  clear hv hm hm2
  generalize hq : Tr.rdF s d = q at *
  clear hq
  generalize Tr.ptF s d (-1) = q1 at *
  obtain ⟨⟨L, ls⟩, cd, ix⟩ := q1
  simp only at *
  go_enter Tryd.func15, Tryd.ntmps15
  go_wp2_with fail
  go_at_call 16
  with_reducible refine (HP.out).mono ?_
  rintro e w1 ⟨A1, c1, B1, m1, rfl, hln, hls, hmm, hb1⟩
  try simp only at hln
  try simp only at hls
  try simp only at hmm
  have st1 := st0.below hb1
  clear hb1 HP st0
  obtain ⟨p0, p1, p2, p3, p4, p5, p6, l0, l1, l2⟩ := st1.facts
  by_cases hcd : cd = 0
  · obtain ⟨hok, hz, hlen, h24⟩ := HG.out hcd
    injection hz with _ hz
    subst hcd
    subst hz
    have HQ0 := Lib.hid (HGO.out rfl)
    have hs40 := hok.len
    have HFD := Lib.hid (fun (W : World) (y : Int) (hb : Below w.heap.size w W) => at2_any W A k s y (HV.out _ hb) (by omega))
    have HGA := Lib.hid (fun (y : Int) (r : Int) (h : Tr.AtIs s y r) => Tr.gtO_at hok h)
    have HOD := Lib.hid (fun i hi => (hok.ok i hi).dn)
    have stl := st1.below (below_alloc1 w1 (.cells #[.int .i64 0, .int .i64 0] 30))
    have rs0 := RwSt.start (w1.alloc (.cells #[.int .i64 0, .int .i64 0] 30)) 27 49 2 (Below.refl (w1.alloc (.cells #[.int .i64 0, .int .i64 0] 30)).heap.size _)
    have hgl : w.heap.size + 3 ≤ (w1.alloc (.cells #[.int .i64 0, .int .i64 0] 30)).heap.size := by simp; omega
    have hgs : (w1.alloc (.cells #[.int .i64 0, .int .i64 0] 30)).heap.size = w1.heap.size + 1 := by simp
    have hlnl := hln.keep (Keeps.alloc w1 _ (.cells #[.int .i64 0, .int .i64 0] 30))
    have hlsl := hls.keep (Keeps.alloc w1 _ (.cells #[.int .i64 0, .int .i64 0] 30))
    obtain ⟨i0, hi0, hz0, hz1, hz2⟩ := info_parts info49
    have HLEN := Lib.hid hlen
    clear HNO HG HGO hok hln hls hlen
    go_wp2_with fail
    rw [hgs] at rs0
    obtain ⟨wl, hwl⟩ : ∃ W : World, W = w1.alloc (.cells #[.int .i64 0, .int .i64 0] 30) := ⟨_, rfl⟩
    rw [← hwl] at rs0 hgs hgl hlnl hlsl stl
    have HW : Hid (((w1.alloc (.cells #[.int .i64 0, .int .i64 0] 30)).alloc (.cells #[.slice none 0 0] 27)) = wl.alloc (.cells #[.slice none 0 0] 27)) := Lib.hid (by rw [hwl])
    rw [hgs] at hgl
    generalize hg : w1.heap.size + 1 = g at *
    clear hg hwl st1 p0 p1 p2 p3 p4 p5 p6 l0 l1 l2
    go_loopw [10] (fun iv wr => ∃ (i : Nat) (B : Option Addr) (c : Nat) (fs : List Tr.F) (xs : List Value), i ≤ L.length ∧ iv = .int .i64 i ∧ fs.length = i ∧ RwSt wl wr g 27 49 2 B fs.length c xs ∧ RowsR (FlR wr (Or1 (fun b => b ≤ g) (.slice B fs.length c))) fs xs ∧ Hid (q = Tr.rdFrom s L ls i fs)) (fun iv _ => L.length - (intOf iv).toNat)
    case atStart => exact ⟨0, none, 0, [], [], Nat.zero_le _, rfl, rfl, by rw [HW.out]; exact rs0, rfl, HQ0⟩
    case round =>
      obtain ⟨i, B, c, fs, xs, hi, rfl, hfl, rs, hrows, HQ⟩ := hrel
      obtain ⟨wo, rfl⟩ : ∃ wo : World, wo = wr := ⟨_, rfl⟩
      clear rs0 HW HQ0
      have HFL := Lib.hid hfl
      clear hfl
      have sto := stl.below rs.bel
      obtain ⟨p0, p1, p2, p3, p4, p5, p6, l0, l1, l2⟩ := sto.facts
      by_cases hlt : i < L.length
      · have hlt' : (i : Int) < L.length := by omega
        have hi0' : (0 : Int) ≤ i := by omega
        have hlt2 : i < ls.length := by have := HLEN.out; omega
        have hlt2' : (i : Int) < ls.length := by omega
        obtain ⟨b1, off1, e1, hb1, _, d1⟩ := ssV_row hlnl.ls i hlt
        obtain ⟨b2, off2, e2, hb2, _, d2⟩ := hlsl.get i (by simpa using hlt2)
        subst e1
        subst e2
        have d2 : wl.cell? ⟨b2, off2 + i, none⟩ = some (.int .i64 ls[i]) := by rw [d2]; simp [intsV]
        have HLI : Hid (ls[i]?.getD 0 = ls[i]) := Lib.hid (by rw [List.getElem?_eq_getElem hlt2]; rfl)
        have HPI : Hid (L[i]?.getD [] = L[i]) := Lib.hid (by rw [List.getElem?_eq_getElem hlt]; rfl)
        have HN1 := Lib.hid (fun h => Tr.rdFrom_no (s := s) (ps := L) (ls := ls) (i := i) (out := fs) hlt h)
        have HN2 := Lib.hid (fun o h h2 => Tr.rdFrom_bad (s := s) (ps := L) (ls := ls) (i := i) (out := fs) (o := o) hlt h h2)
        have HN3 := Lib.hid (fun o h h2 => Tr.rdFrom_next (s := s) (ps := L) (ls := ls) (i := i) (out := fs) (o := o) hlt h h2)
        rw [HLI.out] at HN1 HN2 HN3
        rw [HPI.out] at HN2 HN3
        have hbwo := stl.bel.trans (rs.bel.mono stl.bel.size)
        have p11 : wo.cell? ⟨b1, off1 + i, none⟩ = some (strV L[i]) := (rs.bel.cell (p := ⟨b1, off1 + i, none⟩) hb1).trans d1
        have HK : Hid (∀ w6 : World, Below wo.heap.size wo w6 → w6.cell? ⟨w.heap.size, 0, none⟩ = some (.slice A s.length k) ∧ w6.cell? ⟨b2, off2 + i, none⟩ = some (.int .i64 ls[i])) :=
          Lib.hid fun w6 h6 => ⟨((sto.bx.below h6 sto.bx.lt).cell 0).trans rfl, ((rs.bel.trans (h6.mono rs.bel.size)).cell (p := ⟨b2, off2 + i, none⟩) hb2).trans d2⟩
        generalize ls[i] = y at *
        generalize L[i] = p at *
        have HFD2 := Lib.hid (fun (W : World) (hb : Below wo.heap.size wo W) => HFD.out W y (hbwo.trans (hb.mono hbwo.size)))
        clear HLI HPI d2 hbwo HFD
        go_wp2_with fail
        refine wp_region_noPanic ?_
        refine wp_region_held_drew (S := (fun w6 : World => w6.cell? ⟨w.heap.size, 0, none⟩ = some (.slice A s.length k) ∧ w6.cell? ⟨b2, off2 + i, none⟩ = some (.int .i64 y))) (by kernel_rfl) ?_ (fun hSF => ?_)
        · exact HK.out _ (below_drew' (Below.refl _ _))
        have hq : Below wo.heap.size wo wo.drew := below_drew' (Below.refl _ _)
        have hszb : wo.heap.size ≤ wo.drew.heap.size := Nat.le_refl _
        generalize hWg : wo.drew = WD at *
        clear hWg
        refine wpAnyH_take (i := 0) (v := .agg #[.slice A s.length k]) rfl (by kernel_rfl) (by kernel_rfl) (by kernel_rfl) (fun _ _ _ h => h) (Or.inl ⟨by kernel_rfl, ?qF1⟩) (by assumption) ?rqF1
        case qF1 => (intro w hSw; (try dsimp only at hSw); go_simp)
        try simp only [Act.put, List.setIfInBounds_toArray]
        refine wpAnyH_take (i := 1) (v := .slice (some ⟨b2, off2, none⟩) ls.length m1) rfl (by kernel_rfl) (by kernel_rfl) (by kernel_rfl) (fun _ _ _ h => h) (Or.inl ⟨by kernel_rfl, ?qF2⟩) (by assumption) ?rqF2
        case qF2 => (intro w hSw; (try dsimp only at hSw); go_simp)
        try simp only [Act.put]
        refine wpAnyH_take (i := 2) (v := .int .i64 (i : Int)) rfl (by kernel_rfl) (by kernel_rfl) (by kernel_rfl) (fun _ _ _ h => h) (Or.inl ⟨by kernel_rfl, ?qF3⟩) (by assumption) ?rqF3
        case qF3 => (intro w hSw; (try dsimp only at hSw); go_simp)
        try simp only [Act.put]
        refine wpAnyH_take (i := 3) (v := .pointer (some ⟨b2, off2 + i, none⟩)) rfl (by kernel_rfl) (by kernel_rfl) (by kernel_rfl) (fun _ _ _ h => h) (Or.inl ⟨by kernel_rfl, ?qF4⟩) (by assumption) ?rqF4
        case qF4 => (intro w hSw; (try dsimp only at hSw); go_simp)
        try simp only [Act.put]
        refine wpAnyH_take (i := 4) (v := .int .i64 y) rfl (by kernel_rfl) (by kernel_rfl) (by kernel_rfl) (fun _ _ _ h => h) (Or.inl ⟨by kernel_rfl, ?qF5⟩) (by assumption) ?rqF5
        case qF5 => (intro w hSw; (try dsimp only at hSw); go_simp)
        try simp only [Act.put]
        refine wpAnyH_ready (rs := [5]) (by kernel_rfl) (by simp) ?_
        refine AllReadyH.cons rfl (fun K hK => ?nF6) (AllReadyH.nil)
        go_simp
        go_at_call 35
        with_reducible refine (HFD2.out _ hq).mono ?_
        rintro e WF7 ⟨⟨rr, rfl, hat⟩, hb9⟩
        try go_wp2_with fail
        refine hK.out _ _ ?_ (fun hSF8 => ?_)
        · exact HK.out _ (hq.trans (hb9.mono hq.size))
        clear hK K
        try simp only [Act.put, List.setIfInBounds_toArray]
        replace hq := hq.trans (hb9.mono hq.size)
        have zF9 : WD.heap.size ≤ WF7.heap.size := hb9.size
        clear hb9
        refine wpAnyH_take (i := 6) (v := .int .i64 rr) rfl (by kernel_rfl) (by kernel_rfl) (by kernel_rfl) (fun _ _ _ h => h) (Or.inl ⟨by kernel_rfl, ?qF10⟩) (by assumption) ?rqF10
        case qF10 => (intro w hSw; (try dsimp only at hSw); go_simp)
        try simp only [Act.put, List.setIfInBounds_toArray]
        refine wpAnyH_done (by kernel_rfl) ?_ _
        refine NoPanic.normal ?_
        have rs6 := rs.below hq
        have hr6 := rows_keep hrows (Keeps.below hq fun _ _ h => h)
        have st6 := sto.below hq
        have p11' : WF7.cell? ⟨b1, off1 + i, none⟩ = some (strV p) := ((rs.bel.trans (hq.mono rs.bel.size)).cell (p := ⟨b1, off1 + i, none⟩) hb1).trans d1
        have hb1o : b1 < WF7.heap.size := Nat.lt_of_lt_of_le hb1 (Nat.le_trans rs.bel.size hq.size)
        clear d1 HK HFD2 rs hrows sto hq hszb p0 p1 p2 p3 p4 p5 p6 l0 l1 l2 p11
        obtain ⟨p0, p1, p2, p3, p4, p5, p6, l0, l1, l2⟩ := st6.facts
        rcases HGA.out y rr hat with ⟨rfl, hgy⟩ | ⟨m, rfl, hlb, hgy⟩
        · have HR : Hid (∀ w', Below w.heap.size w w' → RdPost w q (.returned (.tuple #[.agg #[.slice none 0 0], .agg #[.int .i64 6, .int .i64 i]])) w') := Lib.hid fun w' hb => RdPost.no (HQ.out.trans (HN1.out hgy)) hb
          clear HN1 HN2 HN3 HQ hat hgy hr6 rs6 HGA HOD HLEN p11' hb1o
          go_wp2_with (go_at_call 25; refine (fault_any _ _ _).mono ?_; rintro e w99 ⟨rfl, rfl⟩)
          obtain ⟨k1, k2, k3⟩ := put12 st6.r1 st6.r2 (by omega) (.slice none 0 0) (.int .i64 6) (.int .i64 i)
          refine bodyPost_ret (results_27_30 rfl _ _ (w.heap.size + 1) (w.heap.size + 2) (.slice none 0 0) (.int .i64 6) (.int .i64 i) rfl rfl (k1.alloc _) (k2.alloc _)) rfl ?_
          exact HR.out _ ((k3 _ _ (by omega) (by omega) st6.bel).alloc (by simp [World.setCell]; omega) _)
        · have hlb' : (m : Int) < s.length := by omega
          have hlb0 : (0 : Int) ≤ m := by omega
          have hlbn : ¬ ((m : Int) < 0) := by omega
          obtain ⟨b3, off3, Al, kl, Ad, kd, e3, hb3, _, q0, q1, q2, q3, hx3, hob⟩ := (HV.out _ st6.bel).row _ hlb
          have hdn := HOD.out _ hlb
          subst e3
          have HN4 := Lib.hid (HN2.out _ hgy)
          have HN5 := Lib.hid (HN3.out _ hgy)
          have hw7 := below_alloc1 WF7 (.cells #[.int .i64 (Ob.it s m).ob.kind, .slice Al (Ob.it s m).ob.links.length kl, .slice Ad (Ob.it s m).ob.data.length kd] 54)
          have HCU := Lib.hid (cut_any _ Ad kd (Ob.it s m).ob.data (hob.ds.keep (Keeps.below hw7 fun _ _ h => h)) hob.dk (by omega))
          have hcl := Tr.cut_len2 (Ob.it s m).ob.data
          have HCK := Lib.hid (Tr.coF_kind (o := (Ob.it s m).ob) (p := p))
          have HCM := Lib.hid (Tr.coF_mal (o := (Ob.it s m).ob) (p := p))
          have HCO := Lib.hid (Tr.coF_ok (o := (Ob.it s m).ob) (p := p))
          clear hgy hat hob HN1 HN2 HN3 HGA HOD
          generalize (Ob.it s m).ob = o at *
          obtain ⟨kk, lo, da⟩ := o
          simp only at *
          by_cases hk : kk = 1
          · subst hk
            have HCM2 := Lib.hid (HCM.out rfl)
            have HCO2 := Lib.hid (HCO.out rfl)
            clear HCK HCM HCO
            go_wp2_with fail
            go_at_call 36
            with_reducible refine (HCU.out).mono ?_
            rintro e w7 ⟨A4, c4, rfl, hc4, hs4, hb7'⟩
            have hb7 := hw7.trans (hb7'.mono hw7.size)
            have hsz7 := hw7.size
            have st7 := st6.below hb7
            have rs7 := rs6.below hb7
            have hr7 := rows_keep hr6 (Keeps.below hb7 fun _ _ h => h)
            have p12 := (hb7.cell (p := ⟨b1, off1 + i, none⟩) hb1o).trans p11'
            have hb1p : b1 < w7.heap.size := Nat.lt_of_lt_of_le hb1o hb7.size
            have hXu : ∀ b, Or1 (fun b => b ≤ g) (.slice B fs.length c) b → b < (WF7.alloc (.cells #[.int .i64 1, .slice Al lo.length kl, .slice Ad da.length kd] 54)).heap.size := fun b hb => by
              have := rs6.sb.lt
              refine Nat.lt_of_lt_of_le (?_ : b < WF7.heap.size) hsz7
              rcases hb with hb | hb
              · have : b ≤ g := hb; omega
              · exact (rs6.own.lt b hb).2
            clear HCU rs6 hr6 st6 hb7 hb7' hw7 hsz7 p0 p1 p2 p3 p4 p5 p6 l0 l1 l2 q0 q1 q2 q3 hx3 p11' hb1o
            obtain ⟨p0, p1, p2, p3, p4, p5, p6, l0, l1, l2⟩ := st7.facts
            have hLl : (Tr.cut da).1.length ≤ 1000 := by omega
            have hln4 : LnA w7 _ (Tr.cut da).1 A4 c4 := ⟨hc4, by omega, hs4⟩
            clear hcl hs4
            generalize (Tr.cut da).1 = ln at *
            generalize (Tr.cut da).2 = TT at *
            generalize hzb : decide (TT = []) = zb at *
            have hb8 := below_alloc2 w7 (.cells #[strV p, .slice A4 ln.length c4] 49) (.cells #[strV p, .slice A4 ln.length c4] 49)
            have bb1 := (Blk.new w7 49 #[strV p, .slice A4 ln.length c4]).alloc (.cells #[strV p, .slice A4 ln.length c4] 49)
            have bb2 := blk_new1 w7 (.cells #[strV p, .slice A4 ln.length c4] 49) 49 #[strV p, .slice A4 ln.length c4]
            have hfd : ∀ (a b : Int) (W : World), (Instr.field 30 (.agg #[.int .i64 a, .int .i64 b]) 0).run Tryd.prog W = .ok (.int .i64 a) W := fun _ _ _ => by kernel_rfl
            by_cases hT : TT = []
            · obtain rfl : zb = true := by rw [← hzb]; exact decide_eq_true hT
              have st8 := st7.below hb8
              have rs8' := rs7.below hb8
              have hr8' := rows_keep hr7 (Keeps.below hb8 fun _ _ h => h)
              have hl8' := hln4.keep (Keeps.below hb8 fun _ _ h => h)
              have HT : Hid (Calls Tryd.prog 24 #[.agg #[.slice (some ⟨w7.heap.size + 1, 0, none⟩) 1 1]] ((w7.alloc (.cells #[strV p, .slice A4 ln.length c4] 49)).alloc (.cells #[strV p, .slice A4 ln.length c4] 49)) (FaultPost ((w7.alloc (.cells #[strV p, .slice A4 ln.length c4] 49)).alloc (.cells #[strV p, .slice A4 ln.length c4] 49)) (Tr.vlF [(⟨p, ln⟩ : Tr.F)]))) :=
                Lib.hid (tvalidate_any _ (HM.out _ st8.bel).1 _ 1 [(⟨p, ln⟩ : Tr.F)] (FlR.one bb2 (hl8'.mono fun b h => h.elim)) (by show 1 ≤ _; omega) (Nat.le_refl _))
              have HZ := Lib.hid (fun (h : (Tr.vlF [(⟨p, ln⟩ : Tr.F)]).1 = 0) => (Tr.vlF_ok h).1)
              have HCM3 := Lib.hid (fun (h : (Tr.vlF [(⟨p, ln⟩ : Tr.F)]).1 ≠ 0) => HCM2.out (.inr h))
              have HCO3 := Lib.hid (fun (h : (Tr.vlF [(⟨p, ln⟩ : Tr.F)]).1 = 0) => HCO2.out hT h)
              clear HCM2 HCO2 hT hzb bb2 st7 rs7 hr7 hln4
              generalize Tr.vlF [(⟨p, ln⟩ : Tr.F)] = f at *
              obtain ⟨vc, vi⟩ := f
              simp only at HCM3 HCO3 HZ
              go_wp2_with fail
              go_at_call 24
              with_reducible refine (HT.out).mono ?_
              rintro e w8 ⟨rfl, hb9⟩
              have st9 := st8.below hb9
              have rsn := rs8'.below hb9
              have hrn := rows_keep hr8' (Keeps.below hb9 fun _ _ h => h)
              have hln := hl8'.keep (Keeps.below hb9 fun _ _ h => h)
              have bbn := bb1.below hb9 bb1.lt
              clear HT st8 rs8' hr8' hl8' bb1 hb9 hb8 p0 p1 p2 p3 p4 p5 p6 l0 l1 l2 p12 hb1p
              obtain ⟨p0, p1, p2, p3, p4, p5, p6, l0, l1, l2⟩ := st9.facts
              by_cases hv0 : vc = 0
              · have hco := HCO3.out hv0
                subst hv0
                have HQN := Lib.hid (HQ.out.trans (HN5.out (by rw [hco])))
                rw [hco] at HQN
                have h63 : fs.length + 1 ≤ maxLen := by have := HFL.out; unfold maxLen; omega
                have hby : (fs.length + 1) * 40 ≤ 140737488355328 := by have := HFL.out; omega
                obtain ⟨t0, t1, t2⟩ := rsn.facts
                have n0 := (bbn.cell 0).trans rfl
                have n1 := (bbn.cell 1).trans rfl
                have n2 := bbn.lt
                have rs8 := rsn.below (below_alloc1 w8 (.cells #[strV p, .slice A4 ln.length c4] 49))
                have hr8 := rows_keep hrn (Keeps.alloc w8 _ (.cells #[strV p, .slice A4 ln.length c4] 49))
                have hl8 := (hln.keep (Keeps.alloc w8 _ (.cells #[strV p, .slice A4 ln.length c4] 49))).mono (X' := Or1 (fun b => b ≤ g) (.slice B fs.length c)) hXu
                have hsv : SV (w8.alloc (.cells #[strV p, .slice A4 ln.length c4] 49)) (w8.heap.size + 1) (some ⟨w8.heap.size, 0, none⟩) [strV p, .slice A4 ln.length c4] := by simpa using SV.lit w8 #[strV p, .slice A4 ln.length c4] 49
                clear HN4 HN5 HQ HCM3 HCO3 HZ hco hln hrn hXu
                go_wp2_with (first | (at_builtin; refine wpList_appNo _ rfl (.tmp 84) (.tmp 86) 25 rfl g 49 i0 _ 2 40 Tryd.underlying25 hi0 hz0 hz1 hz2 rfl (by decide) B fs.length c xs rfl rs8.own _ (some ⟨w8.heap.size, 0, none⟩) 1 1 [strV p, .slice A4 ln.length c4] rfl rfl hsv (by intro u hu; simp at hu; rcases hu with rfl | rfl <;> rfl) h63 hby (Nat.le_of_lt rs8.sb.lt) ?_))
                intro A9 c9 w9 hown9 hg9 hc9 hob9
                have hob9' : (Value.slice A9 (fs.length + 1) c9).ownBlock = (Value.slice B fs.length c).ownBlock ∨ (Value.slice A9 (fs.length + 1) c9).ownBlock = some (w8.alloc (.cells #[strV p, .slice A4 ln.length c4] 49)).heap.size := by simpa using hob9
                have rs9 := rs8.app (by decide) hg9 hown9
                have hk9 := rs8.keepX (u := .slice A9 (fs.length + 1) c9) hg9 hob9'
                have hr9 := (rows_keep hr8 hk9).append (RowsR.one (R := FlR (w9.setCell ⟨g, 0, none⟩ (.slice A9 (fs.length + 1) c9)) (Or1 (fun b => b ≤ g) (.slice A9 (fs.length + 1) c9))) (a := ⟨p, ln⟩) ⟨A4, c4, rfl, hl8.keep hk9⟩)
                have bk9 := rs8.sb.grown hg9 (own_blk_ne rs8.own rs8.sb (by decide))
                have v0 := bk9.frozen 0
                have v1 := bk9.lt
                have v2 := (bk9.cell 0).trans rfl
                have hfl9 : (fs ++ [(⟨p, ln⟩ : Tr.F)]).length = fs.length + 1 := by simp
                clear hown9 hg9 hc9 hob9 hob9' hk9 bk9 rs8 hr8 hl8 hsv rsn t0 t1 t2 n0 n1 n2 bbn st9 p0 p1 p2 p3 p4 p5 p6 l0 l1 l2
                go_wp2_with fail
                go_roundw
                case rel => exact ⟨i + 1, A9, c9, fs ++ [⟨p, ln⟩], _, by omega, by go_num, by rw [hfl9, HFL.out], by rw [hfl9]; exact rs9, by rw [hfl9]; exact hr9, HQN⟩
                case measure => simp [intOf]; omega
              · have hcm := HCM3.out hv0
                have HR : Hid (∀ w', Below w.heap.size w w' → RdPost w q (.returned (.tuple #[.agg #[.slice none 0 0], .agg #[.int .i64 5, .int .i64 i]])) w') := Lib.hid fun w' hb => RdPost.no (HQ.out.trans ((HN4.out (by rw [hcm]; decide)).trans (by rw [hcm]))) hb
                have hx2 : (vc != 0) = true := by simpa using hv0
                clear HN4 HN5 HQ hv0 hrn rsn hln hXu hcm HCM3 HCO3 HZ
                go_wp2_with (go_at_call 25; refine (fault_any _ _ _).mono ?_; rintro e w99 ⟨rfl, rfl⟩)
                obtain ⟨k1, k2, k3⟩ := put12 st9.r1 st9.r2 (by omega) (.slice none 0 0) (.int .i64 5) (.int .i64 i)
                refine bodyPost_ret (results_27_30 rfl _ _ (w.heap.size + 1) (w.heap.size + 2) (.slice none 0 0) (.int .i64 5) (.int .i64 i) rfl rfl (k1.alloc _) (k2.alloc _)) rfl ?_
                exact HR.out _ ((k3 _ _ (by omega) (by omega) st9.bel).alloc (by simp [World.setCell]; omega) _)
            · obtain rfl : zb = false := by rw [← hzb]; exact decide_eq_false hT
              have hcm := HCM2.out (.inl hT)
              have HR : Hid (∀ w', Below w.heap.size w w' → RdPost w q (.returned (.tuple #[.agg #[.slice none 0 0], .agg #[.int .i64 5, .int .i64 i]])) w') := Lib.hid fun w' hb => RdPost.no (HQ.out.trans ((HN4.out (by rw [hcm]; decide)).trans (by rw [hcm]))) hb
              clear HN4 HN5 HQ hT hr7 rs7 hln4 hXu hcm HCM2 HCO2
              go_wp2_with (go_at_call 25; refine (fault_any _ _ _).mono ?_; rintro e w99 ⟨rfl, rfl⟩)
              obtain ⟨k1, k2, k3⟩ := put12 st7.r1 st7.r2 (by omega) (.slice none 0 0) (.int .i64 5) (.int .i64 i)
              refine bodyPost_ret (results_27_30 rfl _ _ (w.heap.size + 1) (w.heap.size + 2) (.slice none 0 0) (.int .i64 5) (.int .i64 i) rfl rfl ((k1.alloc _).alloc _) ((k2.alloc _).alloc _)) rfl ?_
              exact HR.out _ (((k3 _ _ (by omega) (by omega) st7.bel).alloc (by simp [World.setCell]; omega) _).alloc (by simp [World.setCell]; omega) _)
          · have hkk : (kk != 1) = true := by simpa using hk
            have hcm := HCK.out hk
            have HR : Hid (∀ w', Below w.heap.size w w' → RdPost w q (.returned (.tuple #[.agg #[.slice none 0 0], .agg #[.int .i64 8, .int .i64 i]])) w') := Lib.hid fun w' hb => RdPost.no (HQ.out.trans ((HN4.out (by rw [hcm]; decide)).trans (by rw [hcm]))) hb
            clear HN4 HN5 HQ hk hr6 rs6 hcm HCK HCM HCO
            go_wp2_with (go_at_call 25; refine (fault_any _ _ _).mono ?_; rintro e w99 ⟨rfl, rfl⟩)
            obtain ⟨k1, k2, k3⟩ := put12 st6.r1 st6.r2 (by omega) (.slice none 0 0) (.int .i64 8) (.int .i64 i)
            refine bodyPost_ret (results_27_30 rfl _ _ (w.heap.size + 1) (w.heap.size + 2) (.slice none 0 0) (.int .i64 8) (.int .i64 i) rfl rfl ((k1.alloc _).alloc _) ((k2.alloc _).alloc _)) rfl ?_
            exact HR.out _ (((k3 _ _ (by omega) (by omega) st6.bel).alloc (by simp [World.setCell]; omega) _).alloc (by simp [World.setCell]; omega) _)
      · obtain rfl : i = L.length := by omega
        have HE := Lib.hid (HQ.out.trans (Tr.rdFrom_end s L ls L.length fs (Nat.le_refl _)))
        obtain ⟨t0, t1, t2⟩ := rs.facts
        have hfin := Lib.hid (RdPost.yes (w := w) HE.out hgl sto.bel rs hrows)
        obtain ⟨k1, k2, k3⟩ := put12 sto.r1 sto.r2 (by omega) (.slice B fs.length c) (.int .i64 0) (.int .i64 0)
        have k1 := Lib.hid k1
        have k2 := Lib.hid k2
        clear HE HQ rs hrows k3
        go_wp2_with fail
        refine bodyPost_ret (results_27_30 rfl _ _ (w.heap.size + 1) (w.heap.size + 2) (.slice B fs.length c) (.int .i64 0) (.int .i64 0) rfl rfl k1.out k2.out) rfl ?_
        exact hfin.out
  · have H := Lib.hid (HNO.out hcd)
    have hx1 : (cd == 0) = false := by simpa using hcd
    have hx2 : (cd != 0) = true := by simpa using hcd
    clear hcd HNO HGO HG HV HM
    have HR : Hid (∀ w', Below w.heap.size w w' → RdPost w q (.returned (.tuple #[.agg #[.slice none 0 0], .agg #[.int .i64 cd, .int .i64 ix]])) w') := Lib.hid fun w' hb => RdPost.no H.out hb
    clear H
    generalize RdPost w q = R at *
    go_wp2_with fail
    go_region
    all_goals
      go_wp2_with fail
      obtain ⟨k1, k2, k3⟩ := put12 st1.r1 st1.r2 (by omega) (.slice none 0 0) (.int .i64 cd) (.int .i64 ix)
      refine bodyPost_ret (results_27_30 rfl _ _ (w.heap.size + 1) (w.heap.size + 2) (.slice none 0 0) (.int .i64 cd) (.int .i64 ix) rfl rfl (k1.alloc _).drew (k2.alloc _).drew) rfl ?_
      exact HR.out _ (below_drew' ((k3 _ _ (by omega) (by omega) st1.bel).alloc (by simp [World.setCell]; omega) _))
end Go.Proofs.YtjljknocnebnaaaDoor
namespace Go.Proofs.YtjljknocnebnaaaDoor
open Go.RowKit Go.V Go.Shelf
set_option linter.unusedVariables false

/-- What 'Paths' tells. -/
def PsPost (w : World) (l : List (List UInt8)) (f : Int × Int) (e : Ending) (w' : World) : Prop :=
  ∃ A c, e = .returned (.tuple #[.slice A l.length c, .agg #[.int .i64 f.1, .int .i64 f.2]]) ∧ LnA w' (Under w.heap.size) l A c ∧ Below w.heap.size w w'
set_option maxRecDepth 100000 in
set_option maxHeartbeats 4000000 in
theorem Paths_any (w : World) (hm : Mx w) (hm2 : M2 w) (A : Option Addr) (k : Nat) (s : List Ob.S) (d : Int) (hv : StV w Free A s) (hl64 : s.length ≤ 9223372036854775807) :
    Calls Tryd.prog 14 #[stV A s.length k, .int .i64 d] w (PsPost w (Tr.ptF s d (-1)).1.1 (Tr.ptF s d (-1)).2) := by
  have hb0 := below_alloc2 w (.cells #[.slice A s.length k] 24) (.cells #[.int .i64 0, .int .i64 0] 30)
  have rb0 := blk_new1 w (.cells #[.slice A s.length k] 24) 30 #[.int .i64 0, .int .i64 0]
  have HP := Lib.hid (paths_any _ (hm.below hb0) (hm2.below hb0) A k s d (-1) (hv.keep (free_below hb0)) hl64)
  have hsz : Hid (((w.alloc (.cells #[.slice A s.length k] 24)).alloc (.cells #[.int .i64 0, .int .i64 0] 30)).heap.size = w.heap.size + 2) := Lib.hid (by simp)
  clear hv hm hm2
  generalize Tr.ptF s d (-1) = q at *
  obtain ⟨⟨L, ls⟩, c, x⟩ := q
  go_enter Tryd.func14, Tryd.ntmps14
  go_wp2_with fail
  go_at_call 32
  with_reducible refine (HP.out).mono ?_
  rintro e w1 ⟨A', c', B, m, rfl, hln, hls, hmm, hb1⟩
  simp only at *
  have rb1 := rb0.below hb1 rb0.lt
  have hbw := hb0.trans (hb1.mono hb0.size)
  have l0 := rb1.lt
  have f0 := rb1.frozen 0
  have f1 := rb1.frozen 1
  have c0 := (rb1.cell 0).trans rfl
  have c1 := (rb1.cell 1).trans rfl
  have l1 : w.heap.size + 1 < w1.heap.size + 1 := Nat.lt_succ_of_lt l0
  have HL : Hid (∀ w', Keeps w1 (Under ((w.alloc (.cells #[.slice A s.length k] 24)).alloc (.cells #[.int .i64 0, .int .i64 0] 30)).heap.size) w' (Under ((w.alloc (.cells #[.slice A s.length k] 24)).alloc (.cells #[.int .i64 0, .int .i64 0] 30)).heap.size) → LnA w' (Under w.heap.size) L A' c') := Lib.hid fun w' hk => (hln.keep hk).mono fun b h => by unfold Under at *; rw [hsz.out]; omega
  have hx : Hid (Under ((w.alloc (.cells #[.slice A s.length k] 24)).alloc (.cells #[.int .i64 0, .int .i64 0] 30)).heap.size (w.heap.size + 1)) := Lib.hid (by unfold Under; rw [hsz.out]; omega)
  clear HP hb1 hb0 rb0 hln hls hmm
  go_wp2_with fail
  go_region
  all_goals
    go_wp2_with fail
    refine bodyPost_ret (results_t30 rfl _ _ (w.heap.size + 1) (.int .i64 c) (.int .i64 x) rfl (((blk_put2 rb1 _ _).alloc _).drewN 1)) rfl ?_
    refine ⟨A', c', rfl, HL.out _ ?_, ?_⟩
    · exact ((((Keeps.setCell w1 _ ⟨w.heap.size + 1, 0, none⟩ _ hx.out).trans (Keeps.setCell _ _ ⟨w.heap.size + 1, 1, none⟩ _ hx.out)).trans (Keeps.alloc _ _ _)).trans (Keeps.drewN _ _ 1))
    · exact below_drewN ((((hbw.setCell (p := ⟨w.heap.size + 1, 0, none⟩) (Nat.le_succ _) _).setCell (p := ⟨w.heap.size + 1, 1, none⟩) (Nat.le_succ _) _).alloc (by simp [World.setCell]; omega) _)) 1
end Go.Proofs.YtjljknocnebnaaaDoor
namespace Tr
open Ob (O S StOk)
theorem wrF_len (s : List S) (t : List F) : (wrF s t).1.1.length ≤ 40 := by
  rcases wrF_cases s t with ⟨_, h⟩ | ⟨x, h, _, _, hx, _⟩
  · rw [h]; simp
  · rw [h]; exact hx.len
theorem ptF_len (s : List S) (d : Int) : (ptF s d (-1)).1.1.length ≤ 24 := by
  by_cases h : (ptF s d (-1)).2.1 = 0
  · exact (ptF_good h).2.2.2
  · rw [ptF_fault h]; simp
theorem rdFrom_len (s : List S) (ps : List Nm) (ls : List Int) : ∀ n i out, ps.length - i ≤ n → out.length ≤ i → i ≤ ps.length → (rdFrom s ps ls i out).1.length ≤ ps.length
  | n, i, out, hn, ho, hi => by
    by_cases hlt : i < ps.length
    · obtain _ | n := n
      · omega
      · rcases hg : gtO s (ls[i]?.getD 0) with _ | o
        · rw [rdFrom_no hlt hg]; simp
        · by_cases hc : (coF o (ps[i]?.getD [])).2 = 0
          · rw [rdFrom_next hlt hg hc]
            exact rdFrom_len s ps ls n (i + 1) _ (by omega) (by simp; omega) (by omega)
          · rw [rdFrom_bad hlt hg hc]; simp
    · rw [rdFrom_end s ps ls i out (by omega)]; show out.length ≤ _; omega
theorem rdF_len (s : List S) (d : Int) : (rdF s d).1.length ≤ 24 := by
  by_cases h : (ptF s d (-1)).2.1 = 0
  · rw [rdF_go h]
    have := rdFrom_len s (ptF s d (-1)).1.1 (ptF s d (-1)).1.2 _ 0 [] (Nat.le_refl _) (by simp) (Nat.zero_le _)
    have := ptF_len s d
    omega
  · rw [rdF_no h]; simp
end Tr
namespace Go.Proofs.YtjljknocnebnaaaDoor
open Go.RowKit Go.V Go.Shelf Go.Lib
set_option linter.unusedVariables false

set_option maxRecDepth 100000 in
set_option maxHeartbeats 16000000 in
theorem law3_any (w : World) (hm : Mx w) (hm2 : M2 w) (A : Option Addr) (k : Nat) (s : List Ob.S) (hv : StV w Free A s) (hl : s.length * 64 ≤ 140737488351232) (hk : s.length ≤ k)
    (A2 : Option Addr) (k2 : Nat) (t : List Tr.F) (hv2 : VfV w Free A2 t) (hl2 : t.length * 40 ≤ 140737488351232) (hk2 : t.length ≤ k2) :
    Calls Tryd.prog 3 #[.agg #[.slice A s.length k], .agg #[.slice A2 t.length k2]] w fun e w' => e = .returned (.bool true) ∧ Below w.heap.size w w' := by
  have hM := Lib.hid (show MM w from ⟨hm, hm2⟩)
  have V0 := Lib.hid hv
  have V2 := Lib.hid hv2
  have H9 := Lib.hid (fun (w1 : World) (hm : MM w1) (hv : StV w1 Free A s) (hv2 : VfV w1 Free A2 t) => write_any w1 hm.1 A k s hv (by omega) A2 k2 t hv2 (by omega) hk2)
  have H10 := Lib.hid (fun (w1 : World) (hm : MM w1) (hv : StV w1 Free A s) (hv2 : VfV w1 Free A2 t) => writeTree_any w1 hm.1 A k s hv (by omega) A2 k2 t hv2 (by omega) hk2)
  have hql := Tr.wrF_len s t
  clear hm hm2 hv hv2
  generalize Tr.wrF s t = q at *
  obtain ⟨⟨x, d⟩, cd, ix⟩ := q
  simp only at hql
  have HST := Lib.hid (fun (w1 : World) (A1 A3 : Option Addr) (c1 c3 : Nat) (h1 : StV w1 Free A1 x) (h3 : StV w1 Free A3 x) => stores_any w1 A1 A3 c1 c3 x h1 h3 (by omega))
  have hdd : (d == d) = true := by simp
  have hcc : (cd == cd) = true := by simp
  have hii : (ix == ix) = true := by simp
  have HB0 := Lib.hid (Below.refl w.heap.size w)
  go_enter Tryd.func3, Tryd.ntmps3
  have bx := Blk.new w 24 #[.slice A s.length k]
  have HBa1 := Lib.hid (HB0.out.alloc HB0.out.size (.cells #[.slice A s.length k] 24))
  replace hM := Lib.hid (hM.out.below (below_alloc1 w (.cells #[.slice A s.length k] 24)))
  replace V0 := Lib.hid (V0.out.keep (Keeps.alloc w _ (.cells #[.slice A s.length k] 24)))
  replace V2 := Lib.hid (V2.out.keep (Keeps.alloc w _ (.cells #[.slice A s.length k] 24)))
  replace bx := bx.alloc (.cells #[.slice A2 t.length k2] 27)
  have bt : Blk ((w.alloc (.cells #[.slice A s.length k] 24)).alloc (.cells #[.slice A2 t.length k2] 27)) (w.heap.size + 1) 27 #[.slice A2 t.length k2] := by simpa using Blk.new (w.alloc (.cells #[.slice A s.length k] 24)) 27 #[.slice A2 t.length k2]
  have HBa2 := Lib.hid (HBa1.out.alloc HBa1.out.size (.cells #[.slice A2 t.length k2] 27))
  replace hM := Lib.hid (hM.out.below (below_alloc1 (w.alloc (.cells #[.slice A s.length k] 24)) (.cells #[.slice A2 t.length k2] 27)))
  replace V0 := Lib.hid (V0.out.keep (Keeps.alloc (w.alloc (.cells #[.slice A s.length k] 24)) _ (.cells #[.slice A2 t.length k2] 27)))
  replace V2 := Lib.hid (V2.out.keep (Keeps.alloc (w.alloc (.cells #[.slice A s.length k] 24)) _ (.cells #[.slice A2 t.length k2] 27)))
  go_wp2_with fail
  go_at_call 8
  with_reducible refine (texample_any _ hM.out).mono ?_
  rintro e w1 ⟨rfl, hb1'⟩
  have HBm1 := Lib.hid (HBa2.out.trans (hb1'.mono HBa2.out.size))
  replace bx := bx.below hb1' bx.lt
  replace bt := bt.below hb1' bt.lt
  replace hM := Lib.hid (hM.out.below hb1')
  replace V0 := Lib.hid (V0.out.keep (free_below hb1'))
  replace V2 := Lib.hid (V2.out.keep (free_below hb1'))
  have bx_l : w.heap.size < w1.heap.size := bx.lt
  have bx_l1 : w.heap.size < w1.heap.size + 1 := Nat.lt_succ_of_lt bx_l
  have bx_l2 : w.heap.size < w1.heap.size + 1 + 1 := Nat.lt_succ_of_lt bx_l1
  have bx_0 : w1.cell? ⟨w.heap.size, 0, none⟩ = some (.slice A s.length k) := (bx.cell 0).trans rfl
  have bt_l : w.heap.size + 1 < w1.heap.size := bt.lt
  have bt_l1 : w.heap.size + 1 < w1.heap.size + 1 := Nat.lt_succ_of_lt bt_l
  have bt_l2 : w.heap.size + 1 < w1.heap.size + 1 + 1 := Nat.lt_succ_of_lt bt_l1
  have bt_0 : w1.cell? ⟨w.heap.size + 1, 0, none⟩ = some (.slice A2 t.length k2) := (bt.cell 0).trans rfl
  clear hb1'
  go_wp2_with fail
  go_at_call 9
  with_reducible refine (H9.out _ hM.out V0.out V2.out).mono ?_
  rintro e w2 ⟨Ax, cx, rfl, hcx, hsx, hb2'⟩
  have HBm2 := Lib.hid (HBm1.out.trans (hb2'.mono HBm1.out.size))
  replace bx := bx.below hb2' bx.lt
  replace bt := bt.below hb2' bt.lt
  replace hM := Lib.hid (hM.out.below hb2')
  replace V0 := Lib.hid (V0.out.keep (free_below hb2'))
  replace V2 := Lib.hid (V2.out.keep (free_below hb2'))
  clear bx_l bx_l1 bx_l2 bx_0 bt_l bt_l1 bt_l2 bt_0
  have bx_l : w.heap.size < w2.heap.size := bx.lt
  have bx_l1 : w.heap.size < w2.heap.size + 1 := Nat.lt_succ_of_lt bx_l
  have bx_l2 : w.heap.size < w2.heap.size + 1 + 1 := Nat.lt_succ_of_lt bx_l1
  have bx_0 : w2.cell? ⟨w.heap.size, 0, none⟩ = some (.slice A s.length k) := (bx.cell 0).trans rfl
  have bt_l : w.heap.size + 1 < w2.heap.size := bt.lt
  have bt_l1 : w.heap.size + 1 < w2.heap.size + 1 := Nat.lt_succ_of_lt bt_l
  have bt_l2 : w.heap.size + 1 < w2.heap.size + 1 + 1 := Nat.lt_succ_of_lt bt_l1
  have bt_0 : w2.cell? ⟨w.heap.size + 1, 0, none⟩ = some (.slice A2 t.length k2) := (bt.cell 0).trans rfl
  have Vx := Lib.hid (hsx.mono (X' := Free) (fun _ h => h.elim))
  clear hsx
  clear hb2'
  try simp only at hcx
  replace bx := bx.alloc (.cells #[.slice Ax x.length cx] 24)
  replace bt := bt.alloc (.cells #[.slice Ax x.length cx] 24)
  have vx := Blk.new w2 24 #[.slice Ax x.length cx]
  have HBa3 := Lib.hid (HBm2.out.alloc HBm2.out.size (.cells #[.slice Ax x.length cx] 24))
  replace hM := Lib.hid (hM.out.below (below_alloc1 w2 (.cells #[.slice Ax x.length cx] 24)))
  replace V0 := Lib.hid (V0.out.keep (Keeps.alloc w2 _ (.cells #[.slice Ax x.length cx] 24)))
  replace V2 := Lib.hid (V2.out.keep (Keeps.alloc w2 _ (.cells #[.slice Ax x.length cx] 24)))
  replace Vx := Lib.hid (Vx.out.keep (Keeps.alloc w2 _ (.cells #[.slice Ax x.length cx] 24)))
  replace bx := bx.alloc (.cells #[.int .i64 cd, .int .i64 ix] 30)
  replace bt := bt.alloc (.cells #[.int .i64 cd, .int .i64 ix] 30)
  replace vx := vx.alloc (.cells #[.int .i64 cd, .int .i64 ix] 30)
  have vf : Blk ((w2.alloc (.cells #[.slice Ax x.length cx] 24)).alloc (.cells #[.int .i64 cd, .int .i64 ix] 30)) (w2.heap.size + 1) 30 #[.int .i64 cd, .int .i64 ix] := by simpa using Blk.new (w2.alloc (.cells #[.slice Ax x.length cx] 24)) 30 #[.int .i64 cd, .int .i64 ix]
  have HBa4 := Lib.hid (HBa3.out.alloc HBa3.out.size (.cells #[.int .i64 cd, .int .i64 ix] 30))
  replace hM := Lib.hid (hM.out.below (below_alloc1 (w2.alloc (.cells #[.slice Ax x.length cx] 24)) (.cells #[.int .i64 cd, .int .i64 ix] 30)))
  replace V0 := Lib.hid (V0.out.keep (Keeps.alloc (w2.alloc (.cells #[.slice Ax x.length cx] 24)) _ (.cells #[.int .i64 cd, .int .i64 ix] 30)))
  replace V2 := Lib.hid (V2.out.keep (Keeps.alloc (w2.alloc (.cells #[.slice Ax x.length cx] 24)) _ (.cells #[.int .i64 cd, .int .i64 ix] 30)))
  replace Vx := Lib.hid (Vx.out.keep (Keeps.alloc (w2.alloc (.cells #[.slice Ax x.length cx] 24)) _ (.cells #[.int .i64 cd, .int .i64 ix] 30)))
  go_wp2_with fail
  go_at_call 10
  with_reducible refine (H10.out _ hM.out V0.out V2.out).mono ?_
  rintro e w3 ⟨Ay, cy, rfl, hsy, hb3'⟩
  have HBm3 := Lib.hid (HBa4.out.trans (hb3'.mono HBa4.out.size))
  replace bx := bx.below hb3' bx.lt
  replace bt := bt.below hb3' bt.lt
  replace vx := vx.below hb3' vx.lt
  replace vf := vf.below hb3' vf.lt
  replace hM := Lib.hid (hM.out.below hb3')
  replace V0 := Lib.hid (V0.out.keep (free_below hb3'))
  replace V2 := Lib.hid (V2.out.keep (free_below hb3'))
  replace Vx := Lib.hid (Vx.out.keep (free_below hb3'))
  clear bx_l bx_l1 bx_l2 bx_0 bt_l bt_l1 bt_l2 bt_0
  have bx_l : w.heap.size < w3.heap.size := bx.lt
  have bx_l1 : w.heap.size < w3.heap.size + 1 := Nat.lt_succ_of_lt bx_l
  have bx_l2 : w.heap.size < w3.heap.size + 1 + 1 := Nat.lt_succ_of_lt bx_l1
  have bx_0 : w3.cell? ⟨w.heap.size, 0, none⟩ = some (.slice A s.length k) := (bx.cell 0).trans rfl
  have bt_l : w.heap.size + 1 < w3.heap.size := bt.lt
  have bt_l1 : w.heap.size + 1 < w3.heap.size + 1 := Nat.lt_succ_of_lt bt_l
  have bt_l2 : w.heap.size + 1 < w3.heap.size + 1 + 1 := Nat.lt_succ_of_lt bt_l1
  have bt_0 : w3.cell? ⟨w.heap.size + 1, 0, none⟩ = some (.slice A2 t.length k2) := (bt.cell 0).trans rfl
  have vx_l : w2.heap.size < w3.heap.size := vx.lt
  have vx_l1 : w2.heap.size < w3.heap.size + 1 := Nat.lt_succ_of_lt vx_l
  have vx_l2 : w2.heap.size < w3.heap.size + 1 + 1 := Nat.lt_succ_of_lt vx_l1
  have vx_0 : w3.cell? ⟨w2.heap.size, 0, none⟩ = some (.slice Ax x.length cx) := (vx.cell 0).trans rfl
  have vf_l : w2.heap.size + 1 < w3.heap.size := vf.lt
  have vf_l1 : w2.heap.size + 1 < w3.heap.size + 1 := Nat.lt_succ_of_lt vf_l
  have vf_l2 : w2.heap.size + 1 < w3.heap.size + 1 + 1 := Nat.lt_succ_of_lt vf_l1
  have vf_0 : w3.cell? ⟨w2.heap.size + 1, 0, none⟩ = some (.int .i64 cd) := (vf.cell 0).trans rfl
  have vf_1 : w3.cell? ⟨w2.heap.size + 1, 1, none⟩ = some (.int .i64 ix) := (vf.cell 1).trans rfl
  have Vy := Lib.hid (hsy.mono (X' := Free) (fun _ h => h.elim))
  clear hsy
  clear hb3'
  replace bx := bx.alloc (.cells #[.slice Ay x.length cy] 24)
  replace bt := bt.alloc (.cells #[.slice Ay x.length cy] 24)
  replace vx := vx.alloc (.cells #[.slice Ay x.length cy] 24)
  replace vf := vf.alloc (.cells #[.slice Ay x.length cy] 24)
  have vy := Blk.new w3 24 #[.slice Ay x.length cy]
  have HBa5 := Lib.hid (HBm3.out.alloc HBm3.out.size (.cells #[.slice Ay x.length cy] 24))
  replace hM := Lib.hid (hM.out.below (below_alloc1 w3 (.cells #[.slice Ay x.length cy] 24)))
  replace V0 := Lib.hid (V0.out.keep (Keeps.alloc w3 _ (.cells #[.slice Ay x.length cy] 24)))
  replace V2 := Lib.hid (V2.out.keep (Keeps.alloc w3 _ (.cells #[.slice Ay x.length cy] 24)))
  replace Vx := Lib.hid (Vx.out.keep (Keeps.alloc w3 _ (.cells #[.slice Ay x.length cy] 24)))
  replace Vy := Lib.hid (Vy.out.keep (Keeps.alloc w3 _ (.cells #[.slice Ay x.length cy] 24)))
  replace bx := bx.alloc (.cells #[.int .i64 cd, .int .i64 ix] 30)
  replace bt := bt.alloc (.cells #[.int .i64 cd, .int .i64 ix] 30)
  replace vx := vx.alloc (.cells #[.int .i64 cd, .int .i64 ix] 30)
  replace vf := vf.alloc (.cells #[.int .i64 cd, .int .i64 ix] 30)
  replace vy := vy.alloc (.cells #[.int .i64 cd, .int .i64 ix] 30)
  have vg : Blk ((w3.alloc (.cells #[.slice Ay x.length cy] 24)).alloc (.cells #[.int .i64 cd, .int .i64 ix] 30)) (w3.heap.size + 1) 30 #[.int .i64 cd, .int .i64 ix] := by simpa using Blk.new (w3.alloc (.cells #[.slice Ay x.length cy] 24)) 30 #[.int .i64 cd, .int .i64 ix]
  have HBa6 := Lib.hid (HBa5.out.alloc HBa5.out.size (.cells #[.int .i64 cd, .int .i64 ix] 30))
  replace hM := Lib.hid (hM.out.below (below_alloc1 (w3.alloc (.cells #[.slice Ay x.length cy] 24)) (.cells #[.int .i64 cd, .int .i64 ix] 30)))
  replace V0 := Lib.hid (V0.out.keep (Keeps.alloc (w3.alloc (.cells #[.slice Ay x.length cy] 24)) _ (.cells #[.int .i64 cd, .int .i64 ix] 30)))
  replace V2 := Lib.hid (V2.out.keep (Keeps.alloc (w3.alloc (.cells #[.slice Ay x.length cy] 24)) _ (.cells #[.int .i64 cd, .int .i64 ix] 30)))
  replace Vx := Lib.hid (Vx.out.keep (Keeps.alloc (w3.alloc (.cells #[.slice Ay x.length cy] 24)) _ (.cells #[.int .i64 cd, .int .i64 ix] 30)))
  replace Vy := Lib.hid (Vy.out.keep (Keeps.alloc (w3.alloc (.cells #[.slice Ay x.length cy] 24)) _ (.cells #[.int .i64 cd, .int .i64 ix] 30)))
  go_wp2_with fail
  go_at_call 11
  with_reducible refine (HST.out _ _ _ _ _ Vx.out Vy.out).mono ?_
  rintro e w4 ⟨rfl, hb4'⟩
  have HBm4 := Lib.hid (HBa6.out.trans (hb4'.mono HBa6.out.size))
  replace bx := bx.below hb4' bx.lt
  replace bt := bt.below hb4' bt.lt
  replace vx := vx.below hb4' vx.lt
  replace vf := vf.below hb4' vf.lt
  replace vy := vy.below hb4' vy.lt
  replace vg := vg.below hb4' vg.lt
  replace hM := Lib.hid (hM.out.below hb4')
  replace V0 := Lib.hid (V0.out.keep (free_below hb4'))
  replace V2 := Lib.hid (V2.out.keep (free_below hb4'))
  replace Vx := Lib.hid (Vx.out.keep (free_below hb4'))
  replace Vy := Lib.hid (Vy.out.keep (free_below hb4'))
  clear bx_l bx_l1 bx_l2 bx_0 bt_l bt_l1 bt_l2 bt_0 vx_l vx_l1 vx_l2 vx_0 vf_l vf_l1 vf_l2 vf_0 vf_1
  have bx_l : w.heap.size < w4.heap.size := bx.lt
  have bx_l1 : w.heap.size < w4.heap.size + 1 := Nat.lt_succ_of_lt bx_l
  have bx_l2 : w.heap.size < w4.heap.size + 1 + 1 := Nat.lt_succ_of_lt bx_l1
  have bx_0 : w4.cell? ⟨w.heap.size, 0, none⟩ = some (.slice A s.length k) := (bx.cell 0).trans rfl
  have bt_l : w.heap.size + 1 < w4.heap.size := bt.lt
  have bt_l1 : w.heap.size + 1 < w4.heap.size + 1 := Nat.lt_succ_of_lt bt_l
  have bt_l2 : w.heap.size + 1 < w4.heap.size + 1 + 1 := Nat.lt_succ_of_lt bt_l1
  have bt_0 : w4.cell? ⟨w.heap.size + 1, 0, none⟩ = some (.slice A2 t.length k2) := (bt.cell 0).trans rfl
  have vx_l : w2.heap.size < w4.heap.size := vx.lt
  have vx_l1 : w2.heap.size < w4.heap.size + 1 := Nat.lt_succ_of_lt vx_l
  have vx_l2 : w2.heap.size < w4.heap.size + 1 + 1 := Nat.lt_succ_of_lt vx_l1
  have vx_0 : w4.cell? ⟨w2.heap.size, 0, none⟩ = some (.slice Ax x.length cx) := (vx.cell 0).trans rfl
  have vf_l : w2.heap.size + 1 < w4.heap.size := vf.lt
  have vf_l1 : w2.heap.size + 1 < w4.heap.size + 1 := Nat.lt_succ_of_lt vf_l
  have vf_l2 : w2.heap.size + 1 < w4.heap.size + 1 + 1 := Nat.lt_succ_of_lt vf_l1
  have vf_0 : w4.cell? ⟨w2.heap.size + 1, 0, none⟩ = some (.int .i64 cd) := (vf.cell 0).trans rfl
  have vf_1 : w4.cell? ⟨w2.heap.size + 1, 1, none⟩ = some (.int .i64 ix) := (vf.cell 1).trans rfl
  have vy_l : w3.heap.size < w4.heap.size := vy.lt
  have vy_l1 : w3.heap.size < w4.heap.size + 1 := Nat.lt_succ_of_lt vy_l
  have vy_l2 : w3.heap.size < w4.heap.size + 1 + 1 := Nat.lt_succ_of_lt vy_l1
  have vy_0 : w4.cell? ⟨w3.heap.size, 0, none⟩ = some (.slice Ay x.length cy) := (vy.cell 0).trans rfl
  have vg_l : w3.heap.size + 1 < w4.heap.size := vg.lt
  have vg_l1 : w3.heap.size + 1 < w4.heap.size + 1 := Nat.lt_succ_of_lt vg_l
  have vg_l2 : w3.heap.size + 1 < w4.heap.size + 1 + 1 := Nat.lt_succ_of_lt vg_l1
  have vg_0 : w4.cell? ⟨w3.heap.size + 1, 0, none⟩ = some (.int .i64 cd) := (vg.cell 0).trans rfl
  have vg_1 : w4.cell? ⟨w3.heap.size + 1, 1, none⟩ = some (.int .i64 ix) := (vg.cell 1).trans rfl
  clear hb4'
  go_wp2_with fail
  go_ret
  exact ⟨rfl, HBm4.out⟩
set_option maxRecDepth 100000 in
set_option maxHeartbeats 16000000 in
theorem law6_any (w : World) (hm : Mx w) (hm2 : M2 w) (A : Option Addr) (k : Nat) (s : List Ob.S) (hv : StV w Free A s) (hl : s.length * 64 ≤ 140737488351232) (hk : s.length ≤ k) (d : Int) :
    Calls Tryd.prog 6 #[.agg #[.slice A s.length k], .int .i64 d] w fun e w' => e = .returned (.bool true) ∧ Below w.heap.size w w' := by
  have hM := Lib.hid (show MM w from ⟨hm, hm2⟩)
  have V0 := Lib.hid hv
  have H12 := Lib.hid (fun (w1 : World) (hm : MM w1) (hv : StV w1 Free A s) => read_any w1 hm.1 hm.2 A k s d hv (by omega))
  have H14 := Lib.hid (fun (w1 : World) (hm : MM w1) (hv : StV w1 Free A s) => Paths_any w1 hm.1 hm.2 A k s d hv (by omega))
  have H15 := Lib.hid (fun (w1 : World) (hm : MM w1) (hv : StV w1 Free A s) => readTree_any w1 hm.1 hm.2 A k s d hv (by omega))
  have H16 := Lib.hid (fun (w1 : World) (hm : MM w1) (hv : StV w1 Free A s) => treePaths_any w1 hm.1 A k s d hv (by omega) Free hv)
  have hrl := Tr.rdF_len s d
  have hpl := Tr.ptF_len s d
  clear hm hm2 hv
  generalize Tr.rdF s d = r at *
  generalize Tr.ptF s d (-1) = q at *
  obtain ⟨t, fc, fi⟩ := r
  obtain ⟨⟨l, ls⟩, gc, gi⟩ := q
  simp only at *
  have HT := Lib.hid (fun (w1 : World) (A1 A3 : Option Addr) (c1 c3 : Nat) (h1 : VfV w1 Free A1 t) (h3 : VfV w1 Free A3 t) => by
    have := trees_any w1 A1 A3 c1 c3 t t h1 h3 (by omega) (by omega)
    rw [decide_eq_true rfl] at this
    exact this)
  have HS := Lib.hid (fun (w1 : World) (A1 A3 : Option Addr) (c1 c3 : Nat) (h1 : LnA w1 Free l A1 c1) (h3 : LnA w1 Free l A3 c3) => by
    have := strings_any w1 A1 A3 c1 c3 l l h1.ls h3.ls (by omega) (by omega)
    rw [decide_eq_true rfl] at this
    exact this.mono fun e w' ⟨h, n, hn⟩ => (⟨h, by rw [hn]; exact below_drewN (Below.refl _ _) n⟩ : e = Ending.returned (Value.bool true) ∧ Below w1.heap.size w1 w'))
  have h1 : (fc == fc) = true := by simp
  have h2 : (fi == fi) = true := by simp
  have h3 : (gc == gc) = true := by simp
  have h4 : (gi == gi) = true := by simp
  have HB0 := Lib.hid (Below.refl w.heap.size w)
  go_enter Tryd.func6, Tryd.ntmps6
  have bx := Blk.new w 24 #[.slice A s.length k]
  have HBa1 := Lib.hid (HB0.out.alloc HB0.out.size (.cells #[.slice A s.length k] 24))
  replace hM := Lib.hid (hM.out.below (below_alloc1 w (.cells #[.slice A s.length k] 24)))
  replace V0 := Lib.hid (V0.out.keep (Keeps.alloc w _ (.cells #[.slice A s.length k] 24)))
  go_wp2_with fail
  go_at_call 8
  with_reducible refine (texample_any _ hM.out).mono ?_
  rintro e w1 ⟨rfl, hb1'⟩
  have HBm1 := Lib.hid (HBa1.out.trans (hb1'.mono HBa1.out.size))
  replace bx := bx.below hb1' bx.lt
  replace hM := Lib.hid (hM.out.below hb1')
  replace V0 := Lib.hid (V0.out.keep (free_below hb1'))
  have bx_l : w.heap.size < w1.heap.size := bx.lt
  have bx_l1 : w.heap.size < w1.heap.size + 1 := Nat.lt_succ_of_lt bx_l
  have bx_l2 : w.heap.size < w1.heap.size + 1 + 1 := Nat.lt_succ_of_lt bx_l1
  have bx_0 : w1.cell? ⟨w.heap.size, 0, none⟩ = some (.slice A s.length k) := (bx.cell 0).trans rfl
  clear hb1'
  go_wp2_with fail
  go_at_call 12
  with_reducible refine (H12.out _ hM.out V0.out).mono ?_
  rintro e w2 ⟨At, ct, rfl, hct, hst, hb2'⟩
  have HBm2 := Lib.hid (HBm1.out.trans (hb2'.mono HBm1.out.size))
  replace bx := bx.below hb2' bx.lt
  replace hM := Lib.hid (hM.out.below hb2')
  replace V0 := Lib.hid (V0.out.keep (free_below hb2'))
  clear bx_l bx_l1 bx_l2 bx_0
  have bx_l : w.heap.size < w2.heap.size := bx.lt
  have bx_l1 : w.heap.size < w2.heap.size + 1 := Nat.lt_succ_of_lt bx_l
  have bx_l2 : w.heap.size < w2.heap.size + 1 + 1 := Nat.lt_succ_of_lt bx_l1
  have bx_0 : w2.cell? ⟨w.heap.size, 0, none⟩ = some (.slice A s.length k) := (bx.cell 0).trans rfl
  have Vt := Lib.hid (hst.mono (X' := Free) (fun _ h => h.elim))
  clear hst
  clear hb2'
  try simp only at hct
  replace bx := bx.alloc (.cells #[.slice At t.length ct] 27)
  have vt := Blk.new w2 27 #[.slice At t.length ct]
  have HBa2 := Lib.hid (HBm2.out.alloc HBm2.out.size (.cells #[.slice At t.length ct] 27))
  replace hM := Lib.hid (hM.out.below (below_alloc1 w2 (.cells #[.slice At t.length ct] 27)))
  replace V0 := Lib.hid (V0.out.keep (Keeps.alloc w2 _ (.cells #[.slice At t.length ct] 27)))
  replace Vt := Lib.hid (Vt.out.keep (Keeps.alloc w2 _ (.cells #[.slice At t.length ct] 27)))
  replace bx := bx.alloc (.cells #[.int .i64 fc, .int .i64 fi] 30)
  replace vt := vt.alloc (.cells #[.int .i64 fc, .int .i64 fi] 30)
  have vf : Blk ((w2.alloc (.cells #[.slice At t.length ct] 27)).alloc (.cells #[.int .i64 fc, .int .i64 fi] 30)) (w2.heap.size + 1) 30 #[.int .i64 fc, .int .i64 fi] := by simpa using Blk.new (w2.alloc (.cells #[.slice At t.length ct] 27)) 30 #[.int .i64 fc, .int .i64 fi]
  have HBa3 := Lib.hid (HBa2.out.alloc HBa2.out.size (.cells #[.int .i64 fc, .int .i64 fi] 30))
  replace hM := Lib.hid (hM.out.below (below_alloc1 (w2.alloc (.cells #[.slice At t.length ct] 27)) (.cells #[.int .i64 fc, .int .i64 fi] 30)))
  replace V0 := Lib.hid (V0.out.keep (Keeps.alloc (w2.alloc (.cells #[.slice At t.length ct] 27)) _ (.cells #[.int .i64 fc, .int .i64 fi] 30)))
  replace Vt := Lib.hid (Vt.out.keep (Keeps.alloc (w2.alloc (.cells #[.slice At t.length ct] 27)) _ (.cells #[.int .i64 fc, .int .i64 fi] 30)))
  go_wp2_with fail
  go_at_call 14
  with_reducible refine (H14.out _ hM.out V0.out).mono ?_
  rintro e w3 ⟨Al, cl, rfl, hsl, hb3'⟩
  have HBm3 := Lib.hid (HBa3.out.trans (hb3'.mono HBa3.out.size))
  replace bx := bx.below hb3' bx.lt
  replace vt := vt.below hb3' vt.lt
  replace vf := vf.below hb3' vf.lt
  replace hM := Lib.hid (hM.out.below hb3')
  replace V0 := Lib.hid (V0.out.keep (free_below hb3'))
  replace Vt := Lib.hid (Vt.out.keep (free_below hb3'))
  clear bx_l bx_l1 bx_l2 bx_0
  have bx_l : w.heap.size < w3.heap.size := bx.lt
  have bx_l1 : w.heap.size < w3.heap.size + 1 := Nat.lt_succ_of_lt bx_l
  have bx_l2 : w.heap.size < w3.heap.size + 1 + 1 := Nat.lt_succ_of_lt bx_l1
  have bx_0 : w3.cell? ⟨w.heap.size, 0, none⟩ = some (.slice A s.length k) := (bx.cell 0).trans rfl
  have vt_l : w2.heap.size < w3.heap.size := vt.lt
  have vt_l1 : w2.heap.size < w3.heap.size + 1 := Nat.lt_succ_of_lt vt_l
  have vt_l2 : w2.heap.size < w3.heap.size + 1 + 1 := Nat.lt_succ_of_lt vt_l1
  have vt_0 : w3.cell? ⟨w2.heap.size, 0, none⟩ = some (.slice At t.length ct) := (vt.cell 0).trans rfl
  have vf_l : w2.heap.size + 1 < w3.heap.size := vf.lt
  have vf_l1 : w2.heap.size + 1 < w3.heap.size + 1 := Nat.lt_succ_of_lt vf_l
  have vf_l2 : w2.heap.size + 1 < w3.heap.size + 1 + 1 := Nat.lt_succ_of_lt vf_l1
  have vf_0 : w3.cell? ⟨w2.heap.size + 1, 0, none⟩ = some (.int .i64 fc) := (vf.cell 0).trans rfl
  have vf_1 : w3.cell? ⟨w2.heap.size + 1, 1, none⟩ = some (.int .i64 fi) := (vf.cell 1).trans rfl
  have Vl := Lib.hid (hsl.mono (X' := Free) (fun _ h => h.elim))
  clear hsl
  clear hb3'
  replace bx := bx.alloc (.cells #[.int .i64 gc, .int .i64 gi] 30)
  replace vt := vt.alloc (.cells #[.int .i64 gc, .int .i64 gi] 30)
  replace vf := vf.alloc (.cells #[.int .i64 gc, .int .i64 gi] 30)
  have vg := Blk.new w3 30 #[.int .i64 gc, .int .i64 gi]
  have HBa4 := Lib.hid (HBm3.out.alloc HBm3.out.size (.cells #[.int .i64 gc, .int .i64 gi] 30))
  replace hM := Lib.hid (hM.out.below (below_alloc1 w3 (.cells #[.int .i64 gc, .int .i64 gi] 30)))
  replace V0 := Lib.hid (V0.out.keep (Keeps.alloc w3 _ (.cells #[.int .i64 gc, .int .i64 gi] 30)))
  replace Vt := Lib.hid (Vt.out.keep (Keeps.alloc w3 _ (.cells #[.int .i64 gc, .int .i64 gi] 30)))
  replace Vl := Lib.hid (Vl.out.keep (Keeps.alloc w3 _ (.cells #[.int .i64 gc, .int .i64 gi] 30)))
  go_wp2_with fail
  go_at_call 15
  with_reducible refine (H15.out _ hM.out V0.out).mono ?_
  rintro e w4 ⟨Au, cu, rfl, hcu, hsu, hb4'⟩
  have HBm4 := Lib.hid (HBa4.out.trans (hb4'.mono HBa4.out.size))
  replace bx := bx.below hb4' bx.lt
  replace vt := vt.below hb4' vt.lt
  replace vf := vf.below hb4' vf.lt
  replace vg := vg.below hb4' vg.lt
  replace hM := Lib.hid (hM.out.below hb4')
  replace V0 := Lib.hid (V0.out.keep (free_below hb4'))
  replace Vt := Lib.hid (Vt.out.keep (free_below hb4'))
  replace Vl := Lib.hid (Vl.out.keep (free_below hb4'))
  clear bx_l bx_l1 bx_l2 bx_0 vt_l vt_l1 vt_l2 vt_0 vf_l vf_l1 vf_l2 vf_0 vf_1
  have bx_l : w.heap.size < w4.heap.size := bx.lt
  have bx_l1 : w.heap.size < w4.heap.size + 1 := Nat.lt_succ_of_lt bx_l
  have bx_l2 : w.heap.size < w4.heap.size + 1 + 1 := Nat.lt_succ_of_lt bx_l1
  have bx_0 : w4.cell? ⟨w.heap.size, 0, none⟩ = some (.slice A s.length k) := (bx.cell 0).trans rfl
  have vt_l : w2.heap.size < w4.heap.size := vt.lt
  have vt_l1 : w2.heap.size < w4.heap.size + 1 := Nat.lt_succ_of_lt vt_l
  have vt_l2 : w2.heap.size < w4.heap.size + 1 + 1 := Nat.lt_succ_of_lt vt_l1
  have vt_0 : w4.cell? ⟨w2.heap.size, 0, none⟩ = some (.slice At t.length ct) := (vt.cell 0).trans rfl
  have vf_l : w2.heap.size + 1 < w4.heap.size := vf.lt
  have vf_l1 : w2.heap.size + 1 < w4.heap.size + 1 := Nat.lt_succ_of_lt vf_l
  have vf_l2 : w2.heap.size + 1 < w4.heap.size + 1 + 1 := Nat.lt_succ_of_lt vf_l1
  have vf_0 : w4.cell? ⟨w2.heap.size + 1, 0, none⟩ = some (.int .i64 fc) := (vf.cell 0).trans rfl
  have vf_1 : w4.cell? ⟨w2.heap.size + 1, 1, none⟩ = some (.int .i64 fi) := (vf.cell 1).trans rfl
  have vg_l : w3.heap.size < w4.heap.size := vg.lt
  have vg_l1 : w3.heap.size < w4.heap.size + 1 := Nat.lt_succ_of_lt vg_l
  have vg_l2 : w3.heap.size < w4.heap.size + 1 + 1 := Nat.lt_succ_of_lt vg_l1
  have vg_0 : w4.cell? ⟨w3.heap.size, 0, none⟩ = some (.int .i64 gc) := (vg.cell 0).trans rfl
  have vg_1 : w4.cell? ⟨w3.heap.size, 1, none⟩ = some (.int .i64 gi) := (vg.cell 1).trans rfl
  have Vu := Lib.hid (hsu.mono (X' := Free) (fun _ h => h.elim))
  clear hsu
  clear hb4'
  try simp only at hcu
  replace bx := bx.alloc (.cells #[.slice Au t.length cu] 27)
  replace vt := vt.alloc (.cells #[.slice Au t.length cu] 27)
  replace vf := vf.alloc (.cells #[.slice Au t.length cu] 27)
  replace vg := vg.alloc (.cells #[.slice Au t.length cu] 27)
  have vu := Blk.new w4 27 #[.slice Au t.length cu]
  have HBa5 := Lib.hid (HBm4.out.alloc HBm4.out.size (.cells #[.slice Au t.length cu] 27))
  replace hM := Lib.hid (hM.out.below (below_alloc1 w4 (.cells #[.slice Au t.length cu] 27)))
  replace V0 := Lib.hid (V0.out.keep (Keeps.alloc w4 _ (.cells #[.slice Au t.length cu] 27)))
  replace Vt := Lib.hid (Vt.out.keep (Keeps.alloc w4 _ (.cells #[.slice Au t.length cu] 27)))
  replace Vl := Lib.hid (Vl.out.keep (Keeps.alloc w4 _ (.cells #[.slice Au t.length cu] 27)))
  replace Vu := Lib.hid (Vu.out.keep (Keeps.alloc w4 _ (.cells #[.slice Au t.length cu] 27)))
  replace bx := bx.alloc (.cells #[.int .i64 fc, .int .i64 fi] 30)
  replace vt := vt.alloc (.cells #[.int .i64 fc, .int .i64 fi] 30)
  replace vf := vf.alloc (.cells #[.int .i64 fc, .int .i64 fi] 30)
  replace vg := vg.alloc (.cells #[.int .i64 fc, .int .i64 fi] 30)
  replace vu := vu.alloc (.cells #[.int .i64 fc, .int .i64 fi] 30)
  have vw : Blk ((w4.alloc (.cells #[.slice Au t.length cu] 27)).alloc (.cells #[.int .i64 fc, .int .i64 fi] 30)) (w4.heap.size + 1) 30 #[.int .i64 fc, .int .i64 fi] := by simpa using Blk.new (w4.alloc (.cells #[.slice Au t.length cu] 27)) 30 #[.int .i64 fc, .int .i64 fi]
  have HBa6 := Lib.hid (HBa5.out.alloc HBa5.out.size (.cells #[.int .i64 fc, .int .i64 fi] 30))
  replace hM := Lib.hid (hM.out.below (below_alloc1 (w4.alloc (.cells #[.slice Au t.length cu] 27)) (.cells #[.int .i64 fc, .int .i64 fi] 30)))
  replace V0 := Lib.hid (V0.out.keep (Keeps.alloc (w4.alloc (.cells #[.slice Au t.length cu] 27)) _ (.cells #[.int .i64 fc, .int .i64 fi] 30)))
  replace Vt := Lib.hid (Vt.out.keep (Keeps.alloc (w4.alloc (.cells #[.slice Au t.length cu] 27)) _ (.cells #[.int .i64 fc, .int .i64 fi] 30)))
  replace Vl := Lib.hid (Vl.out.keep (Keeps.alloc (w4.alloc (.cells #[.slice Au t.length cu] 27)) _ (.cells #[.int .i64 fc, .int .i64 fi] 30)))
  replace Vu := Lib.hid (Vu.out.keep (Keeps.alloc (w4.alloc (.cells #[.slice Au t.length cu] 27)) _ (.cells #[.int .i64 fc, .int .i64 fi] 30)))
  go_wp2_with fail
  go_at_call 16
  with_reducible refine (H16.out _ hM.out V0.out).mono ?_
  rintro e w5 ⟨Am, cm, Bm, mm, rfl, hsm, hsb, hmm, hb5'⟩
  have HBm5 := Lib.hid (HBa6.out.trans (hb5'.mono HBa6.out.size))
  replace bx := bx.below hb5' bx.lt
  replace vt := vt.below hb5' vt.lt
  replace vf := vf.below hb5' vf.lt
  replace vg := vg.below hb5' vg.lt
  replace vu := vu.below hb5' vu.lt
  replace vw := vw.below hb5' vw.lt
  replace hM := Lib.hid (hM.out.below hb5')
  replace V0 := Lib.hid (V0.out.keep (free_below hb5'))
  replace Vt := Lib.hid (Vt.out.keep (free_below hb5'))
  replace Vl := Lib.hid (Vl.out.keep (free_below hb5'))
  replace Vu := Lib.hid (Vu.out.keep (free_below hb5'))
  clear bx_l bx_l1 bx_l2 bx_0 vt_l vt_l1 vt_l2 vt_0 vf_l vf_l1 vf_l2 vf_0 vf_1 vg_l vg_l1 vg_l2 vg_0 vg_1
  have bx_l : w.heap.size < w5.heap.size := bx.lt
  have bx_l1 : w.heap.size < w5.heap.size + 1 := Nat.lt_succ_of_lt bx_l
  have bx_l2 : w.heap.size < w5.heap.size + 1 + 1 := Nat.lt_succ_of_lt bx_l1
  have bx_0 : w5.cell? ⟨w.heap.size, 0, none⟩ = some (.slice A s.length k) := (bx.cell 0).trans rfl
  have vt_l : w2.heap.size < w5.heap.size := vt.lt
  have vt_l1 : w2.heap.size < w5.heap.size + 1 := Nat.lt_succ_of_lt vt_l
  have vt_l2 : w2.heap.size < w5.heap.size + 1 + 1 := Nat.lt_succ_of_lt vt_l1
  have vt_0 : w5.cell? ⟨w2.heap.size, 0, none⟩ = some (.slice At t.length ct) := (vt.cell 0).trans rfl
  have vf_l : w2.heap.size + 1 < w5.heap.size := vf.lt
  have vf_l1 : w2.heap.size + 1 < w5.heap.size + 1 := Nat.lt_succ_of_lt vf_l
  have vf_l2 : w2.heap.size + 1 < w5.heap.size + 1 + 1 := Nat.lt_succ_of_lt vf_l1
  have vf_0 : w5.cell? ⟨w2.heap.size + 1, 0, none⟩ = some (.int .i64 fc) := (vf.cell 0).trans rfl
  have vf_1 : w5.cell? ⟨w2.heap.size + 1, 1, none⟩ = some (.int .i64 fi) := (vf.cell 1).trans rfl
  have vg_l : w3.heap.size < w5.heap.size := vg.lt
  have vg_l1 : w3.heap.size < w5.heap.size + 1 := Nat.lt_succ_of_lt vg_l
  have vg_l2 : w3.heap.size < w5.heap.size + 1 + 1 := Nat.lt_succ_of_lt vg_l1
  have vg_0 : w5.cell? ⟨w3.heap.size, 0, none⟩ = some (.int .i64 gc) := (vg.cell 0).trans rfl
  have vg_1 : w5.cell? ⟨w3.heap.size, 1, none⟩ = some (.int .i64 gi) := (vg.cell 1).trans rfl
  have vu_l : w4.heap.size < w5.heap.size := vu.lt
  have vu_l1 : w4.heap.size < w5.heap.size + 1 := Nat.lt_succ_of_lt vu_l
  have vu_l2 : w4.heap.size < w5.heap.size + 1 + 1 := Nat.lt_succ_of_lt vu_l1
  have vu_0 : w5.cell? ⟨w4.heap.size, 0, none⟩ = some (.slice Au t.length cu) := (vu.cell 0).trans rfl
  have vw_l : w4.heap.size + 1 < w5.heap.size := vw.lt
  have vw_l1 : w4.heap.size + 1 < w5.heap.size + 1 := Nat.lt_succ_of_lt vw_l
  have vw_l2 : w4.heap.size + 1 < w5.heap.size + 1 + 1 := Nat.lt_succ_of_lt vw_l1
  have vw_0 : w5.cell? ⟨w4.heap.size + 1, 0, none⟩ = some (.int .i64 fc) := (vw.cell 0).trans rfl
  have vw_1 : w5.cell? ⟨w4.heap.size + 1, 1, none⟩ = some (.int .i64 fi) := (vw.cell 1).trans rfl
  have Vm := Lib.hid (hsm.mono (X' := Free) (fun _ h => h.elim))
  clear hsm
  clear hb5'
  clear hsb hmm
  replace bx := bx.alloc (.cells #[.int .i64 gc, .int .i64 gi] 30)
  replace vt := vt.alloc (.cells #[.int .i64 gc, .int .i64 gi] 30)
  replace vf := vf.alloc (.cells #[.int .i64 gc, .int .i64 gi] 30)
  replace vg := vg.alloc (.cells #[.int .i64 gc, .int .i64 gi] 30)
  replace vu := vu.alloc (.cells #[.int .i64 gc, .int .i64 gi] 30)
  replace vw := vw.alloc (.cells #[.int .i64 gc, .int .i64 gi] 30)
  have vv := Blk.new w5 30 #[.int .i64 gc, .int .i64 gi]
  have HBa7 := Lib.hid (HBm5.out.alloc HBm5.out.size (.cells #[.int .i64 gc, .int .i64 gi] 30))
  replace hM := Lib.hid (hM.out.below (below_alloc1 w5 (.cells #[.int .i64 gc, .int .i64 gi] 30)))
  replace V0 := Lib.hid (V0.out.keep (Keeps.alloc w5 _ (.cells #[.int .i64 gc, .int .i64 gi] 30)))
  replace Vt := Lib.hid (Vt.out.keep (Keeps.alloc w5 _ (.cells #[.int .i64 gc, .int .i64 gi] 30)))
  replace Vl := Lib.hid (Vl.out.keep (Keeps.alloc w5 _ (.cells #[.int .i64 gc, .int .i64 gi] 30)))
  replace Vu := Lib.hid (Vu.out.keep (Keeps.alloc w5 _ (.cells #[.int .i64 gc, .int .i64 gi] 30)))
  replace Vm := Lib.hid (Vm.out.keep (Keeps.alloc w5 _ (.cells #[.int .i64 gc, .int .i64 gi] 30)))
  go_wp2_with fail
  go_at_call 13
  with_reducible refine (HT.out _ _ _ _ _ Vt.out Vu.out).mono ?_
  rintro e w6 ⟨rfl, hb6'⟩
  have HBm6 := Lib.hid (HBa7.out.trans (hb6'.mono HBa7.out.size))
  replace bx := bx.below hb6' bx.lt
  replace vt := vt.below hb6' vt.lt
  replace vf := vf.below hb6' vf.lt
  replace vg := vg.below hb6' vg.lt
  replace vu := vu.below hb6' vu.lt
  replace vw := vw.below hb6' vw.lt
  replace vv := vv.below hb6' vv.lt
  replace hM := Lib.hid (hM.out.below hb6')
  replace V0 := Lib.hid (V0.out.keep (free_below hb6'))
  replace Vt := Lib.hid (Vt.out.keep (free_below hb6'))
  replace Vl := Lib.hid (Vl.out.keep (free_below hb6'))
  replace Vu := Lib.hid (Vu.out.keep (free_below hb6'))
  replace Vm := Lib.hid (Vm.out.keep (free_below hb6'))
  clear bx_l bx_l1 bx_l2 bx_0 vt_l vt_l1 vt_l2 vt_0 vf_l vf_l1 vf_l2 vf_0 vf_1 vg_l vg_l1 vg_l2 vg_0 vg_1 vu_l vu_l1 vu_l2 vu_0 vw_l vw_l1 vw_l2 vw_0 vw_1
  have bx_l : w.heap.size < w6.heap.size := bx.lt
  have bx_l1 : w.heap.size < w6.heap.size + 1 := Nat.lt_succ_of_lt bx_l
  have bx_l2 : w.heap.size < w6.heap.size + 1 + 1 := Nat.lt_succ_of_lt bx_l1
  have bx_0 : w6.cell? ⟨w.heap.size, 0, none⟩ = some (.slice A s.length k) := (bx.cell 0).trans rfl
  have vt_l : w2.heap.size < w6.heap.size := vt.lt
  have vt_l1 : w2.heap.size < w6.heap.size + 1 := Nat.lt_succ_of_lt vt_l
  have vt_l2 : w2.heap.size < w6.heap.size + 1 + 1 := Nat.lt_succ_of_lt vt_l1
  have vt_0 : w6.cell? ⟨w2.heap.size, 0, none⟩ = some (.slice At t.length ct) := (vt.cell 0).trans rfl
  have vf_l : w2.heap.size + 1 < w6.heap.size := vf.lt
  have vf_l1 : w2.heap.size + 1 < w6.heap.size + 1 := Nat.lt_succ_of_lt vf_l
  have vf_l2 : w2.heap.size + 1 < w6.heap.size + 1 + 1 := Nat.lt_succ_of_lt vf_l1
  have vf_0 : w6.cell? ⟨w2.heap.size + 1, 0, none⟩ = some (.int .i64 fc) := (vf.cell 0).trans rfl
  have vf_1 : w6.cell? ⟨w2.heap.size + 1, 1, none⟩ = some (.int .i64 fi) := (vf.cell 1).trans rfl
  have vg_l : w3.heap.size < w6.heap.size := vg.lt
  have vg_l1 : w3.heap.size < w6.heap.size + 1 := Nat.lt_succ_of_lt vg_l
  have vg_l2 : w3.heap.size < w6.heap.size + 1 + 1 := Nat.lt_succ_of_lt vg_l1
  have vg_0 : w6.cell? ⟨w3.heap.size, 0, none⟩ = some (.int .i64 gc) := (vg.cell 0).trans rfl
  have vg_1 : w6.cell? ⟨w3.heap.size, 1, none⟩ = some (.int .i64 gi) := (vg.cell 1).trans rfl
  have vu_l : w4.heap.size < w6.heap.size := vu.lt
  have vu_l1 : w4.heap.size < w6.heap.size + 1 := Nat.lt_succ_of_lt vu_l
  have vu_l2 : w4.heap.size < w6.heap.size + 1 + 1 := Nat.lt_succ_of_lt vu_l1
  have vu_0 : w6.cell? ⟨w4.heap.size, 0, none⟩ = some (.slice Au t.length cu) := (vu.cell 0).trans rfl
  have vw_l : w4.heap.size + 1 < w6.heap.size := vw.lt
  have vw_l1 : w4.heap.size + 1 < w6.heap.size + 1 := Nat.lt_succ_of_lt vw_l
  have vw_l2 : w4.heap.size + 1 < w6.heap.size + 1 + 1 := Nat.lt_succ_of_lt vw_l1
  have vw_0 : w6.cell? ⟨w4.heap.size + 1, 0, none⟩ = some (.int .i64 fc) := (vw.cell 0).trans rfl
  have vw_1 : w6.cell? ⟨w4.heap.size + 1, 1, none⟩ = some (.int .i64 fi) := (vw.cell 1).trans rfl
  have vv_l : w5.heap.size < w6.heap.size := vv.lt
  have vv_l1 : w5.heap.size < w6.heap.size + 1 := Nat.lt_succ_of_lt vv_l
  have vv_l2 : w5.heap.size < w6.heap.size + 1 + 1 := Nat.lt_succ_of_lt vv_l1
  have vv_0 : w6.cell? ⟨w5.heap.size, 0, none⟩ = some (.int .i64 gc) := (vv.cell 0).trans rfl
  have vv_1 : w6.cell? ⟨w5.heap.size, 1, none⟩ = some (.int .i64 gi) := (vv.cell 1).trans rfl
  clear hb6'
  go_wp2_with fail
  go_at_call 17
  with_reducible refine (HS.out _ _ _ _ _ Vl.out Vm.out).mono ?_
  rintro e w7 ⟨rfl, hb7'⟩
  have HBm7 := Lib.hid (HBm6.out.trans (hb7'.mono HBm6.out.size))
  replace bx := bx.below hb7' bx.lt
  replace vt := vt.below hb7' vt.lt
  replace vf := vf.below hb7' vf.lt
  replace vg := vg.below hb7' vg.lt
  replace vu := vu.below hb7' vu.lt
  replace vw := vw.below hb7' vw.lt
  replace vv := vv.below hb7' vv.lt
  replace hM := Lib.hid (hM.out.below hb7')
  replace V0 := Lib.hid (V0.out.keep (free_below hb7'))
  replace Vt := Lib.hid (Vt.out.keep (free_below hb7'))
  replace Vl := Lib.hid (Vl.out.keep (free_below hb7'))
  replace Vu := Lib.hid (Vu.out.keep (free_below hb7'))
  replace Vm := Lib.hid (Vm.out.keep (free_below hb7'))
  clear bx_l bx_l1 bx_l2 bx_0 vt_l vt_l1 vt_l2 vt_0 vf_l vf_l1 vf_l2 vf_0 vf_1 vg_l vg_l1 vg_l2 vg_0 vg_1 vu_l vu_l1 vu_l2 vu_0 vw_l vw_l1 vw_l2 vw_0 vw_1 vv_l vv_l1 vv_l2 vv_0 vv_1
  have bx_l : w.heap.size < w7.heap.size := bx.lt
  have bx_l1 : w.heap.size < w7.heap.size + 1 := Nat.lt_succ_of_lt bx_l
  have bx_l2 : w.heap.size < w7.heap.size + 1 + 1 := Nat.lt_succ_of_lt bx_l1
  have bx_0 : w7.cell? ⟨w.heap.size, 0, none⟩ = some (.slice A s.length k) := (bx.cell 0).trans rfl
  have vt_l : w2.heap.size < w7.heap.size := vt.lt
  have vt_l1 : w2.heap.size < w7.heap.size + 1 := Nat.lt_succ_of_lt vt_l
  have vt_l2 : w2.heap.size < w7.heap.size + 1 + 1 := Nat.lt_succ_of_lt vt_l1
  have vt_0 : w7.cell? ⟨w2.heap.size, 0, none⟩ = some (.slice At t.length ct) := (vt.cell 0).trans rfl
  have vf_l : w2.heap.size + 1 < w7.heap.size := vf.lt
  have vf_l1 : w2.heap.size + 1 < w7.heap.size + 1 := Nat.lt_succ_of_lt vf_l
  have vf_l2 : w2.heap.size + 1 < w7.heap.size + 1 + 1 := Nat.lt_succ_of_lt vf_l1
  have vf_0 : w7.cell? ⟨w2.heap.size + 1, 0, none⟩ = some (.int .i64 fc) := (vf.cell 0).trans rfl
  have vf_1 : w7.cell? ⟨w2.heap.size + 1, 1, none⟩ = some (.int .i64 fi) := (vf.cell 1).trans rfl
  have vg_l : w3.heap.size < w7.heap.size := vg.lt
  have vg_l1 : w3.heap.size < w7.heap.size + 1 := Nat.lt_succ_of_lt vg_l
  have vg_l2 : w3.heap.size < w7.heap.size + 1 + 1 := Nat.lt_succ_of_lt vg_l1
  have vg_0 : w7.cell? ⟨w3.heap.size, 0, none⟩ = some (.int .i64 gc) := (vg.cell 0).trans rfl
  have vg_1 : w7.cell? ⟨w3.heap.size, 1, none⟩ = some (.int .i64 gi) := (vg.cell 1).trans rfl
  have vu_l : w4.heap.size < w7.heap.size := vu.lt
  have vu_l1 : w4.heap.size < w7.heap.size + 1 := Nat.lt_succ_of_lt vu_l
  have vu_l2 : w4.heap.size < w7.heap.size + 1 + 1 := Nat.lt_succ_of_lt vu_l1
  have vu_0 : w7.cell? ⟨w4.heap.size, 0, none⟩ = some (.slice Au t.length cu) := (vu.cell 0).trans rfl
  have vw_l : w4.heap.size + 1 < w7.heap.size := vw.lt
  have vw_l1 : w4.heap.size + 1 < w7.heap.size + 1 := Nat.lt_succ_of_lt vw_l
  have vw_l2 : w4.heap.size + 1 < w7.heap.size + 1 + 1 := Nat.lt_succ_of_lt vw_l1
  have vw_0 : w7.cell? ⟨w4.heap.size + 1, 0, none⟩ = some (.int .i64 fc) := (vw.cell 0).trans rfl
  have vw_1 : w7.cell? ⟨w4.heap.size + 1, 1, none⟩ = some (.int .i64 fi) := (vw.cell 1).trans rfl
  have vv_l : w5.heap.size < w7.heap.size := vv.lt
  have vv_l1 : w5.heap.size < w7.heap.size + 1 := Nat.lt_succ_of_lt vv_l
  have vv_l2 : w5.heap.size < w7.heap.size + 1 + 1 := Nat.lt_succ_of_lt vv_l1
  have vv_0 : w7.cell? ⟨w5.heap.size, 0, none⟩ = some (.int .i64 gc) := (vv.cell 0).trans rfl
  have vv_1 : w7.cell? ⟨w5.heap.size, 1, none⟩ = some (.int .i64 gi) := (vv.cell 1).trans rfl
  clear hb7'
  go_wp2_with fail
  go_ret
  exact ⟨rfl, HBm7.out⟩
end Go.Proofs.YtjljknocnebnaaaDoor
