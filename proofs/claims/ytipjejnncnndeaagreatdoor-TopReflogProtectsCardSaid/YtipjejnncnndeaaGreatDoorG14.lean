/-
  TopReflogProtects: the law's walk.
  Views, tenth part: opening a slice of one-cell elements that lead to memory themselves.
-/
import Derived.Test.YtipjejnncnndeaaGreatDoorG10
import Derived.Test.YtipjejnncnndeaaGreatDoorG11
import Derived.Test.YtipjejnncnndeaaGreatDoorG13
import Derived.Deep.DeepCutAuto
import Derived.Test.YtipjejnncnndeaaGreatDoorG09
import Derived.Deep.Slices
namespace Rf
theorem rp_cases (b : List R) (l : List E) : ((rpF b l).2.1 ≠ 0 ∧ (rpF b l).1 = []) ∨ ((rpF b l).2 = (0, 0) ∧ Ok (rpF b l).1) := by
  unfold rpF
  split
  · rename_i h; exact .inl ⟨h, rfl⟩
  · rename_i h
    exact .inr ⟨rfl, (lgF_ok (Classical.not_not.1 h)).2.stOk _⟩
end Rf
namespace Go.Proofs.YtipjejnncnndeaaGreatDoor
open Go.RowKit Go.V
set_option linter.unusedVariables false

theorem Keeps.same {w : World} {g : Nat} {t : TypeId} {cs : Array Value} (h : Blk w g t cs) (i : Nat) (u : Value) (hu : cs.setIfInBounds i u = cs) (X : Nat → Prop) : Keeps w X (w.setCell ⟨g, i, none⟩ u) X := by
  refine ⟨by simp [World.setCell], fun b hb _ => ?_, fun _ _ h => h⟩
  by_cases e : b = g
  · subst e
    have h2 := h.set_ i u
    rw [hu] at h2
    exact h2.trans h.symm
  · exact Below.heap_setCell w ⟨g, i, none⟩ u b e
/-- What a mark leaves in the law's variables. -/
def MkOut (w0 : World) (s : List Ob.S) (rs : List Int) (sv pv : Value) (wx : World) : Prop :=
  ∃ g A c L, sv = .slice A L.length c ∧ pv = .pointer (some ⟨g, 0, none⟩) ∧ Blk wx g 33 #[.int .i64 0, .int .i64 0] ∧ SA wx Free A (intsV L) ∧ Gc.Mk s rs L ∧ L.length ≤ 1000000 ∧ Below w0.heap.size w0 wx
theorem MkOut.mk_ {w0 w : World} {s : List Ob.S} {rs L : List Int} {X : Nat → Prop} {A : Option Addr} {c g : Nat} (hq : Below w0.heap.size w0 w) (hs : SA w X A (intsV L)) (hm : Gc.Mk s rs L) (hl : L.length ≤ 1000000) (hb : Blk w g 33 #[.int .i64 0, .int .i64 0]) (h0 : w0.heap.size ≤ g) :
    MkOut w0 s rs (.slice A L.length c) (.pointer (some ⟨g, 0, none⟩)) ((w.setCell ⟨g, 0, none⟩ (.int .i64 0)).setCell ⟨g, 1, none⟩ (.int .i64 0)) := by
  have hb1 := hb.set_ 0 (.int .i64 0)
  have k1 := (Keeps.same hb 0 (.int .i64 0) rfl X).trans (Keeps.same (w := w.setCell ⟨g, 0, none⟩ (.int .i64 0)) (by simpa using hb1) 1 (.int .i64 0) rfl X)
  exact ⟨g, A, c, L, rfl, rfl, blk_put2 hb _ _, (hs.keep k1).mono (fun b h => h.elim), hm, hl, (hq.setCell (p := ⟨g, 0, none⟩) h0 _).setCell (p := ⟨g, 1, none⟩) h0 _⟩
set_option maxRecDepth 100000 in
set_option maxHeartbeats 32000000 in
theorem law_any (w : World) (hm : RF.Mx w) (A : Option Addr) (k : Nat) (s : List Ob.S) (hv : StV w Free A s) (hl64 : s.length ≤ 9223372036854775807) (A2 : Option Addr) (k2 : Nat) (R : List Rf.R) (hr : SA w Free A2 (RF.rsV R)) (hrl : R.length ≤ 9223372036854775807) (hk2 : R.length ≤ k2)
    (A3 : Option Addr) (k3 : Nat) (l : List Rf.E) (hl : SA w Free A3 (RF.esV l)) :
    Calls Tryz.prog 3 #[stV A s.length k, .agg #[.slice A2 R.length k2], .slice A3 l.length k3] w fun e w' => e = .returned (.bool true) ∧ Below w.heap.size w w' := by
  have HEX := Lib.hid (fun (w1 : World) => example_any w1)
  have HM1 := Lib.hid (fun (w1 : World) (A : Option Addr) (k : Nat) (hv : StV w1 Free A [s1]) (Ar : Option Addr) (kr : Nat) (hr : SA w1 Free Ar (intsV [((Ob.dig o1 : Nat) : Int)])) => mark_any w1 A k [s1] Ar kr [((Ob.dig o1 : Nat) : Int)] hv s1_ok hr (by decide) (by simpa using dig_i64))
  have HML := Lib.hid (fun (L : List Int) (h : Gc.Mk [s1] [((Ob.dig o1 : Nat) : Int)] L) => mk_s1 h)
  have HRP := Lib.hid (fun (w1 : World) (hb : Below w.heap.size w w1) => RF.replay_any w1 (hm.below hb) A2 k2 R (hr.keep (free_below hb)) hrl hk2 A3 k3 l (hl.keep (free_below hb)))
  have HCL := Lib.hid (fun (w1 : World) (hb : Below w.heap.size w w1) => collect_any w1 (hm.below hb) A k s (hv.keep (free_below hb)) hl64)
  have HMS := Lib.hid (fun (hok : Ob.StOk s) (w1 : World) (hb : Below w.heap.size w w1) (Ar : Option Addr) (kr : Nat) (rs : List Int) (hr : SA w1 Free Ar (intsV rs)) (h1 : rs.length ≤ 50) (h2 : ∀ d ∈ rs, I64 d) => mark_any w1 A k s Ar kr rs (hv.keep (free_below hb)) hok hr h1 h2)
  have HRC := Lib.hid (Rf.rp_cases R l)
  have b0 : Blk ((w.alloc (.cells #[.slice A s.length k] 24)).alloc (.cells #[.slice A2 R.length k2] 27)) w.heap.size 24 #[.slice A s.length k] := (Blk.new _ _ _).alloc _
  have b1 := blk_new1 w (.cells #[.slice A s.length k] 24) 27 #[.slice A2 R.length k2]
  have hb0 := below_alloc2 w (.cells #[.slice A s.length k] 24) (.cells #[.slice A2 R.length k2] 27)
  clear hv hr hl hm
  generalize hdd : ((Ob.dig o1 : Nat) : Int) = dd at *
  go_enter Tryz.func3, Tryz.ntmps3
  go_wp2_with fail
  go_at_call 4
  refine (HEX.out _).mono ?_
  rintro e w1 ⟨A1, c1, rfl, hv1, hb1⟩
  rw [hdd]
  have hbx := below_alloc2 w1 (.cells #[.slice A1 1 c1] 24) (.cells #[.int .i64 dd] 3)
  have hsd : SA ((w1.alloc (.cells #[.slice A1 1 c1] 24)).alloc (.cells #[.int .i64 dd] 3)) Free (some ⟨w1.heap.size + 1, 0, none⟩) (intsV [dd]) := SA.of_blk (blk_new1 w1 (.cells #[.slice A1 1 c1] 24) 3 #[.int .i64 dd]) (fun h => h)
  have HMM := Lib.hid (HM1.out _ A1 c1 (StV.keep (X' := Free) hv1 (Keeps.below hbx (fun _ _ h => h.elim))) _ 1 hsd)
  have hb01 := hb0.trans (hb1.mono hb0.size)
  have hb0x := hb01.trans (hbx.mono hb01.size)
  have b01 := (b0.below hb1 b0.lt).below hbx (b0.below hb1 b0.lt).lt
  have b11 := (b1.below hb1 b1.lt).below hbx (b1.below hb1 b1.lt).lt
  clear HM1 HEX hv1 hsd b0 b1 hb0 hb1 hb01
  go_wp2_with fail
  go_at_call 5
  refine HMM.out.mono ?_
  rintro e w2 ⟨Ad, cd, L, rfl, hsa, hmk, hll, hb2⟩
  have eL := HML.out L hmk
  subst eL
  have hb02 := hb0x.trans (hb2.mono hb0x.size)
  have b02 := b01.below hb2 b01.lt
  have b12 := b11.below hb2 b11.lt
  have p0 := (b02.cell 0).trans rfl
  have p1 := (b12.cell 0).trans rfl
  have l0 := b02.lt
  have l1 := b12.lt
  have HRE := Lib.hid (HRP.out (w2.alloc (.cells #[.int .i64 0, .int .i64 0] 33)) (hb02.alloc hb02.size _))
  clear HMM HML HRP hsa hmk hll b01 b11 hb2 hbx hb0x
  go_wp2_with fail
  go_at_call 6
  refine HRE.out.mono ?_
  rintro e w3 ⟨Ar, cr, rfl, hcr, hsr, hb3⟩
  have bf := (Blk.new w2 33 #[.int .i64 0, .int .i64 0]).below hb3 (by simp)
  have hb03 : Below w.heap.size w w3 := (hb02.alloc hb02.size (.cells #[.int .i64 0, .int .i64 0] 33)).trans (hb3.mono (by have := hb02.size; simp; omega))
  have hwf : w.heap.size ≤ w2.heap.size := hb02.size
  have b03 := (b02.alloc (.cells #[.int .i64 0, .int .i64 0] 33)).below hb3 (by simp; omega)
  have qf0 := (bf.cell 0).trans rfl
  have qf1 := (bf.cell 1).trans rfl
  have qf2 := bf.frozen 0
  have qf3 := bf.frozen 1
  have qf4 := bf.lt
  have hne0 : w.heap.size ≠ w2.heap.size := by omega
  clear p0 p1 l0 l1 b02 b12 hb02 HRE hb3
  have p0 := (b03.cell 0).trans rfl
  have l0 := b03.lt
  rcases HRC.out with ⟨hbad, hnil⟩ | ⟨hz, hrok⟩
  · clear HRC hsr hcr HCL HMS b03
    generalize Rf.rpF R l = q at *
    obtain ⟨rs, c0, ix⟩ := q
    simp only at hbad hnil
    subst hnil
    have hx1 : (c0 == 0) = false := by simpa using hbad
    have hx2 : (c0 != 0) = true := by simpa using hbad
    clear hbad
    go_wp2_with fail
    go_ret
    exact ⟨rfl, (((hb03.setCell (p := ⟨w2.heap.size, 0, none⟩) hwf _).setCell (p := ⟨w2.heap.size, 1, none⟩) hwf _).alloc (by have := hb03.size; simp [World.setCell]; omega) _)⟩
  clear HRC
  generalize Rf.rpF R l = q at *
  obtain ⟨rs, c0, ix⟩ := q
  simp only at hz hrok hcr hsr
  obtain ⟨rfl, rfl⟩ : c0 = 0 ∧ ix = 0 := by injection hz with h1 h2; exact ⟨h1, h2⟩
  have hw4 : Below w.heap.size w (((w3.setCell ⟨w2.heap.size, 0, none⟩ (.int .i64 0)).setCell ⟨w2.heap.size, 1, none⟩ (.int .i64 0)).alloc (.cells #[.slice Ar rs.length cr] 27)) := (((hb03.setCell (p := ⟨w2.heap.size, 0, none⟩) hwf _).setCell (p := ⟨w2.heap.size, 1, none⟩) hwf _).alloc (by have := hb03.size; simp [World.setCell]; omega) _)
  have hr4 : SA (((w3.setCell ⟨w2.heap.size, 0, none⟩ (.int .i64 0)).setCell ⟨w2.heap.size, 1, none⟩ (.int .i64 0)).alloc (.cells #[.slice Ar rs.length cr] 27)) Free Ar (RF.rsV rs) :=
    hsr.keep ((((Keeps.same bf 0 (.int .i64 0) rfl _).trans (Keeps.same (w := w3.setCell ⟨w2.heap.size, 0, none⟩ (.int .i64 0)) (by simpa using bf.set_ 0 (.int .i64 0)) 1 (.int .i64 0) rfl _)).trans (Keeps.alloc _ _ _)).into fun _ h => h.elim)
  have hrl2 := hrok.len
  have HCC := Lib.hid (HCL.out _ hw4 Ar cr rs hr4 (by omega) hcr)
  go_wp2_with fail
  go_at_call 7
  refine HCC.out.mono ?_
  rintro e w5 (⟨c0, ix, hbad, rfl, hb5⟩ | ⟨hok, hro, m, At, kt, Ag, ng, kg, hm, rfl, hvt, hb5⟩)
  · have hx1 : (c0 == 0) = false := by simpa using hbad
    have hx2 : (c0 != 0) = true := by simpa using hbad
    have hw5 := hw4.trans (hb5.mono hw4.size)
    clear hbad HMS HCC HCL
    go_wp2_with fail
    go_ret
    exact ⟨rfl, (hw5.alloc hw5.size _).alloc (by have := hw5.size; simp; omega) _⟩
  have hw5 := hw4.trans (hb5.mono hw4.size)
  have hsz45 := hb5.size
  have b05 : Blk w5 w.heap.size 24 #[.slice A s.length k] := by
    have h := (((b03.far (p := ⟨w2.heap.size, 0, none⟩) hne0 (.int .i64 0)).far (p := ⟨w2.heap.size, 1, none⟩) hne0 (.int .i64 0)).alloc (.cells #[.slice Ar rs.length cr] 27))
    exact h.below hb5 h.lt
  have br5 : Blk w5 w3.heap.size 27 #[.slice Ar rs.length cr] := by
    have h := Blk.new ((w3.setCell ⟨w2.heap.size, 0, none⟩ (.int .i64 0)).setCell ⟨w2.heap.size, 1, none⟩ (.int .i64 0)) 27 #[.slice Ar rs.length cr]
    have e : ((w3.setCell ⟨w2.heap.size, 0, none⟩ (.int .i64 0)).setCell ⟨w2.heap.size, 1, none⟩ (.int .i64 0)).heap.size = w3.heap.size := by simp [World.setCell]
    rw [e] at h
    exact h.below hb5 (by simp [World.setCell])
  have hr5 := hr4.keep (free_below hb5)
  have q0 := (b05.cell 0).trans rfl
  have q1 := (br5.cell 0).trans rfl
  have m0 := b05.lt
  have m1 := br5.lt
  have bt6 := (Blk.new w5 24 #[.slice At (Gc.keep s m).length kt]).alloc (.cells #[.int .i64 0, .int .i64 0] 33)
  have b06 := (b05.alloc (.cells #[.slice At (Gc.keep s m).length kt] 24)).alloc (.cells #[.int .i64 0, .int .i64 0] 33)
  have br6 := (br5.alloc (.cells #[.slice At (Gc.keep s m).length kt] 24)).alloc (.cells #[.int .i64 0, .int .i64 0] 33)
  have hb6 := below_alloc2 w5 (.cells #[.slice At (Gc.keep s m).length kt] 24) (.cells #[.int .i64 0, .int .i64 0] 33)
  have hw6 := hw5.trans (hb6.mono hw5.size)
  have hr6 := hr5.keep (free_below hb6)
  have hvt6 : StV ((w5.alloc (.cells #[.slice At (Gc.keep s m).length kt] 24)).alloc (.cells #[.int .i64 0, .int .i64 0] 33)) Free At (Gc.keep s m) := hvt.keep ((Keeps.below (X' := Under _) hb6 (fun _ _ h => h)).into fun _ h => h.elim)
  have HM2 := Lib.hid (HMS.out hok)
  have HSAME := Lib.hid (fun (t : Int) (a b : List Int) (ht : t ∈ rs.map Rf.R.tgt) (ha : Gc.Mk s [t] a) (hb : Gc.Mk (Gc.keep s m) [t] b) => Gc.Mk.same hok hm (qs := [t]) (fun d hd => by rw [List.mem_singleton] at hd; subst hd; exact ht) ha hb)
  have HTG := Lib.hid (fun (x : Rf.R) (hx : x ∈ rs) => (show I64 x.tgt from by
    have := hro.tgt x hx
    unfold Rf.dgOk at this
    simp at this
    unfold I64; omega))
  have hkok := Gc.keep_ok hok m
  have HM3 := Lib.hid (fun (w1 : World) (hb : Below ((w5.alloc (.cells #[.slice At (Gc.keep s m).length kt] 24)).alloc (.cells #[.int .i64 0, .int .i64 0] 33)).heap.size ((w5.alloc (.cells #[.slice At (Gc.keep s m).length kt] 24)).alloc (.cells #[.int .i64 0, .int .i64 0] 33)) w1) (Ar : Option Addr) (kr : Nat) (qs : List Int) (hr : SA w1 Free Ar (intsV qs)) (h1 : qs.length ≤ 50) (h2 : ∀ d ∈ qs, I64 d) => mark_any w1 At kt (Gc.keep s m) Ar kr qs (hvt6.keep (free_below hb)) hkok hr h1 h2)
  clear hkok HMS HCC HCL bf hr4 hr5 hvt b03 p0 l0 qf0 qf1 qf2 qf3 qf4 hw4 hsz45 hb5 hok hm
  generalize Gc.keep s m = ks at *
  go_wp2_with fail
  have z0 := b06.lt
  have z1 := br6.lt
  have z2 := bt6.lt
  clear q0 q1 m0 m1 hvt6 b05 br5 hw5 hb6
  generalize (w5.alloc (.cells #[.slice At ks.length kt] 24)).alloc (.cells #[.int .i64 0, .int .i64 0] 33) = w6 at *
  go_loopw [16] (fun iv wr => ∃ i : Nat, i ≤ rs.length ∧ iv = .int .i64 i ∧ Below w6.heap.size w6 wr) (fun iv _ => rs.length - (intOf iv).toNat)
  case atStart => exact ⟨0, Nat.zero_le _, rfl, Below.refl _ _⟩
  case round =>
    obtain ⟨i, hi, rfl, hbw⟩ := hrel
    obtain ⟨wq, rfl⟩ : ∃ wq : World, wq = wr := ⟨_, rfl⟩
    have hwq := hw6.trans (hbw.mono hw6.size)
    have l0 := Nat.lt_of_lt_of_le z0 hbw.size
    have l1 := Nat.lt_of_lt_of_le z1 hbw.size
    have l2 := Nat.lt_of_lt_of_le z2 hbw.size
    have p0 := ((b06.below hbw z0).cell 0).trans rfl
    have p1 := ((br6.below hbw z1).cell 0).trans rfl
    have p2 := ((bt6.below hbw z2).cell 0).trans rfl
    by_cases hil : i < rs.length
    · have hil' : (i : Int) < rs.length := by omega
      obtain ⟨bb, off, e, hbb, _, d0, d1⟩ := RF.rsV_row (hr6.keep (free_below hbw)) i hil
      subst e
      have hmem : Rf.it rs i ∈ rs := by rw [← Rf.it_eq rs i hil]; exact List.getElem_mem hil
      have htg := HTG.out _ hmem
      have HSM := Lib.hid (fun (a b : List Int) ha hb => HSAME.out (Rf.it rs i).tgt a b (List.mem_map.2 ⟨_, hmem, rfl⟩) ha hb)
      clear hmem d0
      generalize (Rf.it rs i).tgt = tg at *
      have HMK := Lib.hid (fun (w1 : World) (hb : Below wq.heap.size wq w1) (Aq : Option Addr) (kq : Nat) (hq : SA w1 Free Aq (intsV [tg])) => (show Calls Tryz.prog 5 #[stV A s.length k, .slice Aq 1 kq] w1 (MrPost w1 s [tg]) from HM2.out w1 (hwq.trans (hb.mono hwq.size)) Aq kq [tg] hq (by simp) (by simpa using htg)))
      have HML := Lib.hid (fun (w1 : World) (hb : Below w6.heap.size w6 w1) (Aq : Option Addr) (kq : Nat) (hq : SA w1 Free Aq (intsV [tg])) => (show Calls Tryz.prog 5 #[stV At ks.length kt, .slice Aq 1 kq] w1 (MrPost w1 ks [tg]) from HM3.out w1 hb Aq kq [tg] hq (by simp) (by simpa using htg)))
      have hmea : ∀ j : Nat, j = i + 1 → rs.length - (intOf (.int .i64 (j : Int))).toNat < rs.length - (intOf (.int .i64 (i : Int))).toNat := fun j hj => by simp [intOf]; omega
      clear HM2 HM3 HSAME HTG hr6 b06 br6 bt6 htg
      go_wp2_with fail
      have HK := Lib.hid (fun (w6 : World) (h6 : Below wq.heap.size wq w6) => show w6.cell? ⟨w.heap.size, 0, none⟩ = some (.slice A s.length k) ∧ w6.cell? ⟨w3.heap.size, 0, none⟩ = some (.slice (some ⟨bb, off, none⟩) rs.length cr) ∧ w6.cell? ⟨bb, off + i * 2 + 1, none⟩ = some (.int .i64 tg) from
        ⟨(h6.cell (p := ⟨_, _, none⟩) l0).trans p0, (h6.cell (p := ⟨_, _, none⟩) l1).trans p1, (h6.cell (p := ⟨_, _, none⟩) hbb).trans d1⟩)
      go_cut [17, 18] (fun sv pv wx => MkOut wq s [tg] sv pv wx)
      case first =>
        refine wp_region_noPanic ?_
        refine wp_region_held_drew (S := (fun w6 : World => w6.cell? ⟨w.heap.size, 0, none⟩ = some (.slice A s.length k) ∧ w6.cell? ⟨w3.heap.size, 0, none⟩ = some (.slice (some ⟨bb, off, none⟩) rs.length cr) ∧ w6.cell? ⟨bb, off + i * 2 + 1, none⟩ = some (.int .i64 tg))) (by kernel_rfl) ?_ (fun hSR => ?_)
        · exact HK.out _ (below_drew' (Below.refl _ _))
        have hq : Below wq.heap.size wq wq.drew := below_drew' (Below.refl _ _)
        have hszb : wq.heap.size ≤ wq.drew.heap.size := Nat.le_refl _
        generalize hWg : wq.drew = WR at *
        clear hWg
        refine wpAnyH_take (i := 0) (v := .agg #[.slice A s.length k]) rfl (by kernel_rfl) (by kernel_rfl) (by kernel_rfl) (fun _ _ _ h => h) (Or.inl ⟨by kernel_rfl, ?qR1⟩) (by assumption) ?rqR1
        case qR1 => (intro w hSw; (try dsimp only at hSw); go_simp)
        try simp only [Act.put, List.setIfInBounds_toArray, List.getElem_toArray, List.getElem_cons_zero, List.set_cons_succ, List.set_cons_zero]
        refine wpAnyH_take (i := 1) (v := .pointer (some ⟨w3.heap.size, 0, none⟩)) rfl (by kernel_rfl) (by kernel_rfl) (by kernel_rfl) (fun _ _ _ h => h) (Or.inl ⟨by kernel_rfl, ?qR2⟩) (by assumption) ?rqR2
        case qR2 => (intro w hSw; (try dsimp only at hSw); go_simp)
        try simp only [Act.put, List.setIfInBounds_toArray, List.getElem_toArray, List.getElem_cons_succ, List.getElem_cons_zero, List.set_cons_succ, List.set_cons_zero]
        refine wpAnyH_take (i := 2) (v := .slice (some ⟨bb, off, none⟩) rs.length cr) rfl (by kernel_rfl) (by kernel_rfl) (by kernel_rfl) (fun _ _ _ h => h) (Or.inl ⟨by kernel_rfl, ?qR3⟩) (by assumption) ?rqR3
        case qR3 => (intro w hSw; (try dsimp only at hSw); go_simp)
        try simp only [Act.put, List.setIfInBounds_toArray, List.getElem_toArray, List.getElem_cons_succ, List.getElem_cons_zero, List.set_cons_succ, List.set_cons_zero]
        refine wpAnyH_take (i := 3) (v := .int .i64 (i : Int)) rfl (by kernel_rfl) (by kernel_rfl) (by kernel_rfl) (fun _ _ _ h => h) (Or.inl ⟨by kernel_rfl, ?qR4⟩) (by assumption) ?rqR4
        case qR4 => (intro w hSw; (try dsimp only at hSw); go_simp)
        try simp only [Act.put, List.setIfInBounds_toArray, List.getElem_toArray, List.getElem_cons_succ, List.getElem_cons_zero, List.set_cons_succ, List.set_cons_zero]
        refine wpAnyH_take (i := 4) (v := .pointer (some ⟨bb, off + i * 2, none⟩)) rfl (by kernel_rfl) (by kernel_rfl) (by kernel_rfl) (fun _ _ _ h => h) (Or.inl ⟨by kernel_rfl, ?qR5⟩) (by assumption) ?rqR5
        case qR5 => (intro w hSw; (try dsimp only at hSw); go_simp)
        try simp only [Act.put, List.setIfInBounds_toArray, List.getElem_toArray, List.getElem_cons_succ, List.getElem_cons_zero, List.set_cons_succ, List.set_cons_zero]
        refine wpAnyH_take (i := 5) (v := .pointer (some ⟨bb, off + i * 2 + 1, none⟩)) rfl (by kernel_rfl) (by kernel_rfl) (by kernel_rfl) (fun _ _ _ h => h) (Or.inl ⟨by kernel_rfl, ?qR6⟩) (by assumption) ?rqR6
        case qR6 => (intro w hSw; (try dsimp only at hSw); go_simp)
        try simp only [Act.put, List.setIfInBounds_toArray, List.getElem_toArray, List.getElem_cons_succ, List.getElem_cons_zero, List.set_cons_succ, List.set_cons_zero]
        refine wpAnyH_take (i := 6) (v := .int .i64 tg) rfl (by kernel_rfl) (by kernel_rfl) (by kernel_rfl) (fun _ _ _ h => h) (Or.inl ⟨by kernel_rfl, ?qR7⟩) (by assumption) ?rqR7
        case qR7 => (intro w hSw; (try dsimp only at hSw); go_simp)
        try simp only [Act.put, List.setIfInBounds_toArray, List.getElem_toArray, List.getElem_cons_succ, List.getElem_cons_zero, List.set_cons_succ, List.set_cons_zero]
        refine wpAnyH_ready (rs := [7, 12]) (by kernel_rfl) (by simp) ?_
        refine AllReadyH.cons rfl (fun K hK => ?nR8) (AllReadyH.cons rfl (fun K hK => ?nR9) (AllReadyH.nil))
        case nR8 =>
          go_simp
          refine hK.out _ _ ?_ (fun hSR11 => ?_)
          · exact HK.out _ (hq.alloc hq.size (.cells #[.int .i64 tg] 3))
          clear hK K
          try simp only [Act.put, List.setIfInBounds_toArray, List.getElem_toArray, List.getElem_cons_succ, List.getElem_cons_zero, List.set_cons_succ, List.set_cons_zero]
          have g0_bV := hq.size
          replace hq := hq.alloc hq.size (.cells #[.int .i64 tg] 3)
          have bV := Blk.new WR 3 #[.int .i64 tg]
          generalize WR.alloc (.cells #[.int .i64 tg] 3) = WR10 at *
          refine wpAnyH_ready (rs := [8, 12]) (by kernel_rfl) (by simp) ?_
          refine AllReadyH.cons rfl (fun K hK => ?nR12) (AllReadyH.cons rfl (fun K hK => ?nR13) (AllReadyH.nil))
          case nR12 =>
            go_simp
            go_at_call 5
            with_reducible refine (HMK.out _ hq _ 1 (SA.of_blk bV (fun h => h))).mono ?_
            rintro e WR14 ⟨Am, cm, L, rfl, hsm, hmk, hll, hb9⟩
            try go_wp2_with fail
            refine hK.out _ _ ?_ (fun hSR15 => ?_)
            · exact HK.out _ (hq.trans (hb9.mono hq.size))
            clear hK K
            try simp only [Act.put, List.setIfInBounds_toArray, List.getElem_toArray, List.getElem_cons_succ, List.getElem_cons_zero, List.set_cons_succ, List.set_cons_zero]
            replace hq := hq.trans (hb9.mono hq.size)
            have zR16 : WR10.heap.size ≤ WR14.heap.size := hb9.size
            replace bV := bV.below hb9 bV.lt
            clear hb9
            refine wpAnyH_take (i := 9) (v := .tuple #[.slice Am L.length cm, .agg #[.int .i64 0, .int .i64 0]]) rfl (by kernel_rfl) (by kernel_rfl) (by kernel_rfl) (fun _ _ _ h => h) (Or.inl ⟨by kernel_rfl, ?qR17⟩) (by assumption) ?rqR17
            case qR17 => (intro w hSw; (try dsimp only at hSw); go_simp)
            try simp only [Act.put, List.setIfInBounds_toArray, List.getElem_toArray, List.getElem_cons_succ, List.getElem_cons_zero, List.set_cons_succ, List.set_cons_zero]
            refine wpAnyH_take (i := 10) (v := .slice Am L.length cm) rfl (by kernel_rfl) (by kernel_rfl) (by kernel_rfl) (fun _ _ _ h => h) (Or.inl ⟨by kernel_rfl, ?qR18⟩) (by assumption) ?rqR18
            case qR18 => (intro w hSw; (try dsimp only at hSw); go_simp)
            try simp only [Act.put, List.setIfInBounds_toArray, List.getElem_toArray, List.getElem_cons_succ, List.getElem_cons_zero, List.set_cons_succ, List.set_cons_zero]
            refine wpAnyH_take (i := 11) (v := .agg #[.int .i64 0, .int .i64 0]) rfl (by kernel_rfl) (by kernel_rfl) (by kernel_rfl) (fun _ _ _ h => h) (Or.inl ⟨by kernel_rfl, ?qR19⟩) (by assumption) ?rqR19
            case qR19 => (intro w hSw; (try dsimp only at hSw); go_simp)
            try simp only [Act.put, List.setIfInBounds_toArray, List.getElem_toArray, List.getElem_cons_succ, List.getElem_cons_zero, List.set_cons_succ, List.set_cons_zero]
            refine wpAnyH_ready (rs := [12]) (by kernel_rfl) (by simp) ?_
            refine AllReadyH.cons rfl (fun K hK => ?nR20) (AllReadyH.nil)
            go_simp
            refine hK.out _ _ ?_ (fun hSR22 => ?_)
            · exact HK.out _ (hq.alloc hq.size (.cells #[.int .i64 0, .int .i64 0] 33))
            clear hK K
            try simp only [Act.put, List.setIfInBounds_toArray, List.getElem_toArray, List.getElem_cons_succ, List.getElem_cons_zero, List.set_cons_succ, List.set_cons_zero]
            have g0_bF := hq.size
            replace hq := hq.alloc hq.size (.cells #[.int .i64 0, .int .i64 0] 33)
            replace bV := bV.alloc (.cells #[.int .i64 0, .int .i64 0] 33)
            have bF := Blk.new WR14 33 #[.int .i64 0, .int .i64 0]
            replace hsm := hsm.keep (Keeps.alloc WR14 _ (.cells #[.int .i64 0, .int .i64 0] 33))
            generalize WR14.alloc (.cells #[.int .i64 0, .int .i64 0] 33) = WR21 at *
            refine wpAnyH_take (i := 13) (v := .slice Am L.length cm) rfl (by kernel_rfl) (by kernel_rfl) (by kernel_rfl) (fun _ _ _ h => h) (Or.inl ⟨by kernel_rfl, ?qR23⟩) (by assumption) ?rqR23
            case qR23 => (intro w hSw; (try dsimp only at hSw); go_simp)
            try simp only [Act.put, List.setIfInBounds_toArray, List.getElem_toArray, List.getElem_cons_succ, List.getElem_cons_zero, List.set_cons_succ, List.set_cons_zero]
            refine wpAnyH_ready (rs := [14]) (by kernel_rfl) (by simp) ?_
            refine AllReadyH.cons rfl (fun K hK => ?nR24) (AllReadyH.nil)
            have bFl := bF.lt
            have bFf0 := bF.frozen 0
            have bFc0 := (bF.cell 0).trans rfl
            have bFf1 := bF.frozen 1
            have bFc1 := (bF.cell 1).trans rfl
            go_simp
            refine hK.out _ _ ?_ (fun hSR25 => ?_)
            · exact HK.out _ ((hq.setCell g0_bF _).setCell g0_bF _)
            clear hK K
            try simp only [Act.put, List.setIfInBounds_toArray, List.getElem_toArray, List.getElem_cons_succ, List.getElem_cons_zero, List.set_cons_succ, List.set_cons_zero]
            refine wpAnyH_done (by kernel_rfl) ?_ _
            refine NoPanic.normal ?_
            try go_wp2_with fail
            go_meet
            exact MkOut.mk_ hq hsm hmk hll bF g0_bF
          case nR13 =>
            go_simp
            refine hK.out _ _ ?_ (fun hSR27 => ?_)
            · exact HK.out _ (hq.alloc hq.size (.cells #[.int .i64 0, .int .i64 0] 33))
            clear hK K
            try simp only [Act.put, List.setIfInBounds_toArray, List.getElem_toArray, List.getElem_cons_succ, List.getElem_cons_zero, List.set_cons_succ, List.set_cons_zero]
            have g0_bF := hq.size
            replace hq := hq.alloc hq.size (.cells #[.int .i64 0, .int .i64 0] 33)
            replace bV := bV.alloc (.cells #[.int .i64 0, .int .i64 0] 33)
            have bF := Blk.new WR10 33 #[.int .i64 0, .int .i64 0]
            generalize WR10.alloc (.cells #[.int .i64 0, .int .i64 0] 33) = WR26 at *
            refine wpAnyH_ready (rs := [8]) (by kernel_rfl) (by simp) ?_
            refine AllReadyH.cons rfl (fun K hK => ?nR28) (AllReadyH.nil)
            go_simp
            go_at_call 5
            with_reducible refine (HMK.out _ hq _ 1 (SA.of_blk bV (fun h => h))).mono ?_
            rintro e WR29 ⟨Am, cm, L, rfl, hsm, hmk, hll, hb9⟩
            try go_wp2_with fail
            refine hK.out _ _ ?_ (fun hSR30 => ?_)
            · exact HK.out _ (hq.trans (hb9.mono hq.size))
            clear hK K
            try simp only [Act.put, List.setIfInBounds_toArray, List.getElem_toArray, List.getElem_cons_succ, List.getElem_cons_zero, List.set_cons_succ, List.set_cons_zero]
            replace hq := hq.trans (hb9.mono hq.size)
            have zR31 : WR26.heap.size ≤ WR29.heap.size := hb9.size
            replace bV := bV.below hb9 bV.lt
            replace bF := bF.below hb9 bF.lt
            clear hb9
            refine wpAnyH_take (i := 9) (v := .tuple #[.slice Am L.length cm, .agg #[.int .i64 0, .int .i64 0]]) rfl (by kernel_rfl) (by kernel_rfl) (by kernel_rfl) (fun _ _ _ h => h) (Or.inl ⟨by kernel_rfl, ?qR32⟩) (by assumption) ?rqR32
            case qR32 => (intro w hSw; (try dsimp only at hSw); go_simp)
            try simp only [Act.put, List.setIfInBounds_toArray, List.getElem_toArray, List.getElem_cons_succ, List.getElem_cons_zero, List.set_cons_succ, List.set_cons_zero]
            refine wpAnyH_take (i := 10) (v := .slice Am L.length cm) rfl (by kernel_rfl) (by kernel_rfl) (by kernel_rfl) (fun _ _ _ h => h) (Or.inl ⟨by kernel_rfl, ?qR33⟩) (by assumption) ?rqR33
            case qR33 => (intro w hSw; (try dsimp only at hSw); go_simp)
            try simp only [Act.put, List.setIfInBounds_toArray, List.getElem_toArray, List.getElem_cons_succ, List.getElem_cons_zero, List.set_cons_succ, List.set_cons_zero]
            refine wpAnyH_take (i := 11) (v := .agg #[.int .i64 0, .int .i64 0]) rfl (by kernel_rfl) (by kernel_rfl) (by kernel_rfl) (fun _ _ _ h => h) (Or.inl ⟨by kernel_rfl, ?qR34⟩) (by assumption) ?rqR34
            case qR34 => (intro w hSw; (try dsimp only at hSw); go_simp)
            try simp only [Act.put, List.setIfInBounds_toArray, List.getElem_toArray, List.getElem_cons_succ, List.getElem_cons_zero, List.set_cons_succ, List.set_cons_zero]
            refine wpAnyH_take (i := 13) (v := .slice Am L.length cm) rfl (by kernel_rfl) (by kernel_rfl) (by kernel_rfl) (fun _ _ _ h => h) (Or.inl ⟨by kernel_rfl, ?qR35⟩) (by assumption) ?rqR35
            case qR35 => (intro w hSw; (try dsimp only at hSw); go_simp)
            try simp only [Act.put, List.setIfInBounds_toArray, List.getElem_toArray, List.getElem_cons_succ, List.getElem_cons_zero, List.set_cons_succ, List.set_cons_zero]
            refine wpAnyH_ready (rs := [14]) (by kernel_rfl) (by simp) ?_
            refine AllReadyH.cons rfl (fun K hK => ?nR36) (AllReadyH.nil)
            have bFl := bF.lt
            have bFf0 := bF.frozen 0
            have bFc0 := (bF.cell 0).trans rfl
            have bFf1 := bF.frozen 1
            have bFc1 := (bF.cell 1).trans rfl
            go_simp
            refine hK.out _ _ ?_ (fun hSR37 => ?_)
            · exact HK.out _ ((hq.setCell g0_bF _).setCell g0_bF _)
            clear hK K
            try simp only [Act.put, List.setIfInBounds_toArray, List.getElem_toArray, List.getElem_cons_succ, List.getElem_cons_zero, List.set_cons_succ, List.set_cons_zero]
            refine wpAnyH_done (by kernel_rfl) ?_ _
            refine NoPanic.normal ?_
            try go_wp2_with fail
            go_meet
            exact MkOut.mk_ hq hsm hmk hll bF g0_bF
        case nR9 =>
          go_simp
          refine hK.out _ _ ?_ (fun hSR39 => ?_)
          · exact HK.out _ (hq.alloc hq.size (.cells #[.int .i64 0, .int .i64 0] 33))
          clear hK K
          try simp only [Act.put, List.setIfInBounds_toArray, List.getElem_toArray, List.getElem_cons_succ, List.getElem_cons_zero, List.set_cons_succ, List.set_cons_zero]
          have g0_bF := hq.size
          replace hq := hq.alloc hq.size (.cells #[.int .i64 0, .int .i64 0] 33)
          have bF := Blk.new WR 33 #[.int .i64 0, .int .i64 0]
          generalize WR.alloc (.cells #[.int .i64 0, .int .i64 0] 33) = WR38 at *
          refine wpAnyH_ready (rs := [7]) (by kernel_rfl) (by simp) ?_
          refine AllReadyH.cons rfl (fun K hK => ?nR40) (AllReadyH.nil)
          go_simp
          refine hK.out _ _ ?_ (fun hSR42 => ?_)
          · exact HK.out _ (hq.alloc hq.size (.cells #[.int .i64 tg] 3))
          clear hK K
          try simp only [Act.put, List.setIfInBounds_toArray, List.getElem_toArray, List.getElem_cons_succ, List.getElem_cons_zero, List.set_cons_succ, List.set_cons_zero]
          have g0_bV := hq.size
          replace hq := hq.alloc hq.size (.cells #[.int .i64 tg] 3)
          replace bF := bF.alloc (.cells #[.int .i64 tg] 3)
          have bV := Blk.new WR38 3 #[.int .i64 tg]
          generalize WR38.alloc (.cells #[.int .i64 tg] 3) = WR41 at *
          refine wpAnyH_ready (rs := [8]) (by kernel_rfl) (by simp) ?_
          refine AllReadyH.cons rfl (fun K hK => ?nR43) (AllReadyH.nil)
          go_simp
          go_at_call 5
          with_reducible refine (HMK.out _ hq _ 1 (SA.of_blk bV (fun h => h))).mono ?_
          rintro e WR44 ⟨Am, cm, L, rfl, hsm, hmk, hll, hb9⟩
          try go_wp2_with fail
          refine hK.out _ _ ?_ (fun hSR45 => ?_)
          · exact HK.out _ (hq.trans (hb9.mono hq.size))
          clear hK K
          try simp only [Act.put, List.setIfInBounds_toArray, List.getElem_toArray, List.getElem_cons_succ, List.getElem_cons_zero, List.set_cons_succ, List.set_cons_zero]
          replace hq := hq.trans (hb9.mono hq.size)
          have zR46 : WR41.heap.size ≤ WR44.heap.size := hb9.size
          replace bF := bF.below hb9 bF.lt
          replace bV := bV.below hb9 bV.lt
          clear hb9
          refine wpAnyH_take (i := 9) (v := .tuple #[.slice Am L.length cm, .agg #[.int .i64 0, .int .i64 0]]) rfl (by kernel_rfl) (by kernel_rfl) (by kernel_rfl) (fun _ _ _ h => h) (Or.inl ⟨by kernel_rfl, ?qR47⟩) (by assumption) ?rqR47
          case qR47 => (intro w hSw; (try dsimp only at hSw); go_simp)
          try simp only [Act.put, List.setIfInBounds_toArray, List.getElem_toArray, List.getElem_cons_succ, List.getElem_cons_zero, List.set_cons_succ, List.set_cons_zero]
          refine wpAnyH_take (i := 10) (v := .slice Am L.length cm) rfl (by kernel_rfl) (by kernel_rfl) (by kernel_rfl) (fun _ _ _ h => h) (Or.inl ⟨by kernel_rfl, ?qR48⟩) (by assumption) ?rqR48
          case qR48 => (intro w hSw; (try dsimp only at hSw); go_simp)
          try simp only [Act.put, List.setIfInBounds_toArray, List.getElem_toArray, List.getElem_cons_succ, List.getElem_cons_zero, List.set_cons_succ, List.set_cons_zero]
          refine wpAnyH_take (i := 11) (v := .agg #[.int .i64 0, .int .i64 0]) rfl (by kernel_rfl) (by kernel_rfl) (by kernel_rfl) (fun _ _ _ h => h) (Or.inl ⟨by kernel_rfl, ?qR49⟩) (by assumption) ?rqR49
          case qR49 => (intro w hSw; (try dsimp only at hSw); go_simp)
          try simp only [Act.put, List.setIfInBounds_toArray, List.getElem_toArray, List.getElem_cons_succ, List.getElem_cons_zero, List.set_cons_succ, List.set_cons_zero]
          refine wpAnyH_take (i := 13) (v := .slice Am L.length cm) rfl (by kernel_rfl) (by kernel_rfl) (by kernel_rfl) (fun _ _ _ h => h) (Or.inl ⟨by kernel_rfl, ?qR50⟩) (by assumption) ?rqR50
          case qR50 => (intro w hSw; (try dsimp only at hSw); go_simp)
          try simp only [Act.put, List.setIfInBounds_toArray, List.getElem_toArray, List.getElem_cons_succ, List.getElem_cons_zero, List.set_cons_succ, List.set_cons_zero]
          refine wpAnyH_ready (rs := [14]) (by kernel_rfl) (by simp) ?_
          refine AllReadyH.cons rfl (fun K hK => ?nR51) (AllReadyH.nil)
          have bFl := bF.lt
          have bFf0 := bF.frozen 0
          have bFc0 := (bF.cell 0).trans rfl
          have bFf1 := bF.frozen 1
          have bFc1 := (bF.cell 1).trans rfl
          go_simp
          refine hK.out _ _ ?_ (fun hSR52 => ?_)
          · exact HK.out _ ((hq.setCell g0_bF _).setCell g0_bF _)
          clear hK K
          try simp only [Act.put, List.setIfInBounds_toArray, List.getElem_toArray, List.getElem_cons_succ, List.getElem_cons_zero, List.set_cons_succ, List.set_cons_zero]
          refine wpAnyH_done (by kernel_rfl) ?_ _
          refine NoPanic.normal ?_
          try go_wp2_with fail
          go_meet
          exact MkOut.mk_ hq hsm hmk hll bF g0_bF
      case rest =>
        obtain ⟨g8, Aa, ca, La, rfl, rfl, b8, hsa, hma, hla, hbx⟩ := hcut
        obtain ⟨wz, rfl⟩ : ∃ wz : World, wz = wc := ⟨_, rfl⟩
        have hbz := hbw.trans (hbx.mono hbw.size)
        have l1z := Nat.lt_of_lt_of_le l1 hbx.size
        have l2z := Nat.lt_of_lt_of_le l2 hbx.size
        have lbz := Nat.lt_of_lt_of_le hbb hbx.size
        have p1z := (hbx.cell (p := ⟨w3.heap.size, 0, none⟩) l1).trans p1
        have p2z := (hbx.cell (p := ⟨w5.heap.size, 0, none⟩) l2).trans p2
        have d1z := (hbx.cell (p := ⟨bb, off + i * 2 + 1, none⟩) hbb).trans d1
        clear HK HMK p0 p1 p2 d1 l0 l1 l2 hbb hbw hbx hwq
        have HMZ := Lib.hid (fun (w1 : World) (hb : Below wz.heap.size wz w1) (Aq : Option Addr) (kq : Nat) (hq : SA w1 Free Aq (intsV [tg])) => HML.out w1 (hbz.trans (hb.mono hbz.size)) Aq kq hq)
        go_wp2_with fail
        have HK := Lib.hid (fun (w6 : World) (h6 : Below wz.heap.size wz w6) => show w6.cell? ⟨w5.heap.size, 0, none⟩ = some (.slice At ks.length kt) ∧ w6.cell? ⟨w3.heap.size, 0, none⟩ = some (.slice (some ⟨bb, off, none⟩) rs.length cr) ∧ w6.cell? ⟨bb, off + i * 2 + 1, none⟩ = some (.int .i64 tg) from
          ⟨(h6.cell (p := ⟨_, _, none⟩) l2z).trans p2z, (h6.cell (p := ⟨_, _, none⟩) l1z).trans p1z, (h6.cell (p := ⟨_, _, none⟩) lbz).trans d1z⟩)
        go_cut [19, 20] (fun sv pv wx => MkOut wz ks [tg] sv pv wx)
        case first =>
          refine wp_region_noPanic ?_
          refine wp_region_held_drew (S := (fun w6 : World => w6.cell? ⟨w5.heap.size, 0, none⟩ = some (.slice At ks.length kt) ∧ w6.cell? ⟨w3.heap.size, 0, none⟩ = some (.slice (some ⟨bb, off, none⟩) rs.length cr) ∧ w6.cell? ⟨bb, off + i * 2 + 1, none⟩ = some (.int .i64 tg))) (by kernel_rfl) ?_ (fun hSZ => ?_)
          · exact HK.out _ (below_drew' (Below.refl _ _))
          have hq : Below wz.heap.size wz wz.drew := below_drew' (Below.refl _ _)
          have hszb : wz.heap.size ≤ wz.drew.heap.size := Nat.le_refl _
          generalize hWg : wz.drew = WR at *
          clear hWg
          refine wpAnyH_take (i := 0) (v := .agg #[.slice At ks.length kt]) rfl (by kernel_rfl) (by kernel_rfl) (by kernel_rfl) (fun _ _ _ h => h) (Or.inl ⟨by kernel_rfl, ?qZ1⟩) (by assumption) ?rqZ1
          case qZ1 => (intro w hSw; (try dsimp only at hSw); go_simp)
          try simp only [Act.put, List.setIfInBounds_toArray, List.getElem_toArray, List.getElem_cons_zero, List.set_cons_succ, List.set_cons_zero]
          refine wpAnyH_take (i := 1) (v := .pointer (some ⟨w3.heap.size, 0, none⟩)) rfl (by kernel_rfl) (by kernel_rfl) (by kernel_rfl) (fun _ _ _ h => h) (Or.inl ⟨by kernel_rfl, ?qZ2⟩) (by assumption) ?rqZ2
          case qZ2 => (intro w hSw; (try dsimp only at hSw); go_simp)
          try simp only [Act.put, List.setIfInBounds_toArray, List.getElem_toArray, List.getElem_cons_succ, List.getElem_cons_zero, List.set_cons_succ, List.set_cons_zero]
          refine wpAnyH_take (i := 2) (v := .slice (some ⟨bb, off, none⟩) rs.length cr) rfl (by kernel_rfl) (by kernel_rfl) (by kernel_rfl) (fun _ _ _ h => h) (Or.inl ⟨by kernel_rfl, ?qZ3⟩) (by assumption) ?rqZ3
          case qZ3 => (intro w hSw; (try dsimp only at hSw); go_simp)
          try simp only [Act.put, List.setIfInBounds_toArray, List.getElem_toArray, List.getElem_cons_succ, List.getElem_cons_zero, List.set_cons_succ, List.set_cons_zero]
          refine wpAnyH_take (i := 3) (v := .int .i64 (i : Int)) rfl (by kernel_rfl) (by kernel_rfl) (by kernel_rfl) (fun _ _ _ h => h) (Or.inl ⟨by kernel_rfl, ?qZ4⟩) (by assumption) ?rqZ4
          case qZ4 => (intro w hSw; (try dsimp only at hSw); go_simp)
          try simp only [Act.put, List.setIfInBounds_toArray, List.getElem_toArray, List.getElem_cons_succ, List.getElem_cons_zero, List.set_cons_succ, List.set_cons_zero]
          refine wpAnyH_take (i := 4) (v := .pointer (some ⟨bb, off + i * 2, none⟩)) rfl (by kernel_rfl) (by kernel_rfl) (by kernel_rfl) (fun _ _ _ h => h) (Or.inl ⟨by kernel_rfl, ?qZ5⟩) (by assumption) ?rqZ5
          case qZ5 => (intro w hSw; (try dsimp only at hSw); go_simp)
          try simp only [Act.put, List.setIfInBounds_toArray, List.getElem_toArray, List.getElem_cons_succ, List.getElem_cons_zero, List.set_cons_succ, List.set_cons_zero]
          refine wpAnyH_take (i := 5) (v := .pointer (some ⟨bb, off + i * 2 + 1, none⟩)) rfl (by kernel_rfl) (by kernel_rfl) (by kernel_rfl) (fun _ _ _ h => h) (Or.inl ⟨by kernel_rfl, ?qZ6⟩) (by assumption) ?rqZ6
          case qZ6 => (intro w hSw; (try dsimp only at hSw); go_simp)
          try simp only [Act.put, List.setIfInBounds_toArray, List.getElem_toArray, List.getElem_cons_succ, List.getElem_cons_zero, List.set_cons_succ, List.set_cons_zero]
          refine wpAnyH_take (i := 6) (v := .int .i64 tg) rfl (by kernel_rfl) (by kernel_rfl) (by kernel_rfl) (fun _ _ _ h => h) (Or.inl ⟨by kernel_rfl, ?qZ7⟩) (by assumption) ?rqZ7
          case qZ7 => (intro w hSw; (try dsimp only at hSw); go_simp)
          try simp only [Act.put, List.setIfInBounds_toArray, List.getElem_toArray, List.getElem_cons_succ, List.getElem_cons_zero, List.set_cons_succ, List.set_cons_zero]
          refine wpAnyH_ready (rs := [7, 12]) (by kernel_rfl) (by simp) ?_
          refine AllReadyH.cons rfl (fun K hK => ?nZ8) (AllReadyH.cons rfl (fun K hK => ?nZ9) (AllReadyH.nil))
          case nZ8 =>
            go_simp
            refine hK.out _ _ ?_ (fun hSZ11 => ?_)
            · exact HK.out _ (hq.alloc hq.size (.cells #[.int .i64 tg] 3))
            clear hK K
            try simp only [Act.put, List.setIfInBounds_toArray, List.getElem_toArray, List.getElem_cons_succ, List.getElem_cons_zero, List.set_cons_succ, List.set_cons_zero]
            have g0_bV := hq.size
            replace hq := hq.alloc hq.size (.cells #[.int .i64 tg] 3)
            have bV := Blk.new WR 3 #[.int .i64 tg]
            generalize WR.alloc (.cells #[.int .i64 tg] 3) = WZ10 at *
            refine wpAnyH_ready (rs := [8, 12]) (by kernel_rfl) (by simp) ?_
            refine AllReadyH.cons rfl (fun K hK => ?nZ12) (AllReadyH.cons rfl (fun K hK => ?nZ13) (AllReadyH.nil))
            case nZ12 =>
              go_simp
              go_at_call 5
              with_reducible refine (HMZ.out _ hq _ 1 (SA.of_blk bV (fun h => h))).mono ?_
              rintro e WZ14 ⟨Am, cm, L, rfl, hsm, hmk, hll, hb9⟩
              try go_wp2_with fail
              refine hK.out _ _ ?_ (fun hSZ15 => ?_)
              · exact HK.out _ (hq.trans (hb9.mono hq.size))
              clear hK K
              try simp only [Act.put, List.setIfInBounds_toArray, List.getElem_toArray, List.getElem_cons_succ, List.getElem_cons_zero, List.set_cons_succ, List.set_cons_zero]
              replace hq := hq.trans (hb9.mono hq.size)
              have zZ16 : WZ10.heap.size ≤ WZ14.heap.size := hb9.size
              replace bV := bV.below hb9 bV.lt
              clear hb9
              refine wpAnyH_take (i := 9) (v := .tuple #[.slice Am L.length cm, .agg #[.int .i64 0, .int .i64 0]]) rfl (by kernel_rfl) (by kernel_rfl) (by kernel_rfl) (fun _ _ _ h => h) (Or.inl ⟨by kernel_rfl, ?qZ17⟩) (by assumption) ?rqZ17
              case qZ17 => (intro w hSw; (try dsimp only at hSw); go_simp)
              try simp only [Act.put, List.setIfInBounds_toArray, List.getElem_toArray, List.getElem_cons_succ, List.getElem_cons_zero, List.set_cons_succ, List.set_cons_zero]
              refine wpAnyH_take (i := 10) (v := .slice Am L.length cm) rfl (by kernel_rfl) (by kernel_rfl) (by kernel_rfl) (fun _ _ _ h => h) (Or.inl ⟨by kernel_rfl, ?qZ18⟩) (by assumption) ?rqZ18
              case qZ18 => (intro w hSw; (try dsimp only at hSw); go_simp)
              try simp only [Act.put, List.setIfInBounds_toArray, List.getElem_toArray, List.getElem_cons_succ, List.getElem_cons_zero, List.set_cons_succ, List.set_cons_zero]
              refine wpAnyH_take (i := 11) (v := .agg #[.int .i64 0, .int .i64 0]) rfl (by kernel_rfl) (by kernel_rfl) (by kernel_rfl) (fun _ _ _ h => h) (Or.inl ⟨by kernel_rfl, ?qZ19⟩) (by assumption) ?rqZ19
              case qZ19 => (intro w hSw; (try dsimp only at hSw); go_simp)
              try simp only [Act.put, List.setIfInBounds_toArray, List.getElem_toArray, List.getElem_cons_succ, List.getElem_cons_zero, List.set_cons_succ, List.set_cons_zero]
              refine wpAnyH_ready (rs := [12]) (by kernel_rfl) (by simp) ?_
              refine AllReadyH.cons rfl (fun K hK => ?nZ20) (AllReadyH.nil)
              go_simp
              refine hK.out _ _ ?_ (fun hSZ22 => ?_)
              · exact HK.out _ (hq.alloc hq.size (.cells #[.int .i64 0, .int .i64 0] 33))
              clear hK K
              try simp only [Act.put, List.setIfInBounds_toArray, List.getElem_toArray, List.getElem_cons_succ, List.getElem_cons_zero, List.set_cons_succ, List.set_cons_zero]
              have g0_bF := hq.size
              replace hq := hq.alloc hq.size (.cells #[.int .i64 0, .int .i64 0] 33)
              replace bV := bV.alloc (.cells #[.int .i64 0, .int .i64 0] 33)
              have bF := Blk.new WZ14 33 #[.int .i64 0, .int .i64 0]
              replace hsm := hsm.keep (Keeps.alloc WZ14 _ (.cells #[.int .i64 0, .int .i64 0] 33))
              generalize WZ14.alloc (.cells #[.int .i64 0, .int .i64 0] 33) = WZ21 at *
              refine wpAnyH_take (i := 13) (v := .slice Am L.length cm) rfl (by kernel_rfl) (by kernel_rfl) (by kernel_rfl) (fun _ _ _ h => h) (Or.inl ⟨by kernel_rfl, ?qZ23⟩) (by assumption) ?rqZ23
              case qZ23 => (intro w hSw; (try dsimp only at hSw); go_simp)
              try simp only [Act.put, List.setIfInBounds_toArray, List.getElem_toArray, List.getElem_cons_succ, List.getElem_cons_zero, List.set_cons_succ, List.set_cons_zero]
              refine wpAnyH_ready (rs := [14]) (by kernel_rfl) (by simp) ?_
              refine AllReadyH.cons rfl (fun K hK => ?nZ24) (AllReadyH.nil)
              have bFl := bF.lt
              have bFf0 := bF.frozen 0
              have bFc0 := (bF.cell 0).trans rfl
              have bFf1 := bF.frozen 1
              have bFc1 := (bF.cell 1).trans rfl
              go_simp
              refine hK.out _ _ ?_ (fun hSZ25 => ?_)
              · exact HK.out _ ((hq.setCell g0_bF _).setCell g0_bF _)
              clear hK K
              try simp only [Act.put, List.setIfInBounds_toArray, List.getElem_toArray, List.getElem_cons_succ, List.getElem_cons_zero, List.set_cons_succ, List.set_cons_zero]
              refine wpAnyH_done (by kernel_rfl) ?_ _
              refine NoPanic.normal ?_
              try go_wp2_with fail
              go_meet
              exact MkOut.mk_ hq hsm hmk hll bF g0_bF
            case nZ13 =>
              go_simp
              refine hK.out _ _ ?_ (fun hSZ27 => ?_)
              · exact HK.out _ (hq.alloc hq.size (.cells #[.int .i64 0, .int .i64 0] 33))
              clear hK K
              try simp only [Act.put, List.setIfInBounds_toArray, List.getElem_toArray, List.getElem_cons_succ, List.getElem_cons_zero, List.set_cons_succ, List.set_cons_zero]
              have g0_bF := hq.size
              replace hq := hq.alloc hq.size (.cells #[.int .i64 0, .int .i64 0] 33)
              replace bV := bV.alloc (.cells #[.int .i64 0, .int .i64 0] 33)
              have bF := Blk.new WZ10 33 #[.int .i64 0, .int .i64 0]
              generalize WZ10.alloc (.cells #[.int .i64 0, .int .i64 0] 33) = WZ26 at *
              refine wpAnyH_ready (rs := [8]) (by kernel_rfl) (by simp) ?_
              refine AllReadyH.cons rfl (fun K hK => ?nZ28) (AllReadyH.nil)
              go_simp
              go_at_call 5
              with_reducible refine (HMZ.out _ hq _ 1 (SA.of_blk bV (fun h => h))).mono ?_
              rintro e WZ29 ⟨Am, cm, L, rfl, hsm, hmk, hll, hb9⟩
              try go_wp2_with fail
              refine hK.out _ _ ?_ (fun hSZ30 => ?_)
              · exact HK.out _ (hq.trans (hb9.mono hq.size))
              clear hK K
              try simp only [Act.put, List.setIfInBounds_toArray, List.getElem_toArray, List.getElem_cons_succ, List.getElem_cons_zero, List.set_cons_succ, List.set_cons_zero]
              replace hq := hq.trans (hb9.mono hq.size)
              have zZ31 : WZ26.heap.size ≤ WZ29.heap.size := hb9.size
              replace bV := bV.below hb9 bV.lt
              replace bF := bF.below hb9 bF.lt
              clear hb9
              refine wpAnyH_take (i := 9) (v := .tuple #[.slice Am L.length cm, .agg #[.int .i64 0, .int .i64 0]]) rfl (by kernel_rfl) (by kernel_rfl) (by kernel_rfl) (fun _ _ _ h => h) (Or.inl ⟨by kernel_rfl, ?qZ32⟩) (by assumption) ?rqZ32
              case qZ32 => (intro w hSw; (try dsimp only at hSw); go_simp)
              try simp only [Act.put, List.setIfInBounds_toArray, List.getElem_toArray, List.getElem_cons_succ, List.getElem_cons_zero, List.set_cons_succ, List.set_cons_zero]
              refine wpAnyH_take (i := 10) (v := .slice Am L.length cm) rfl (by kernel_rfl) (by kernel_rfl) (by kernel_rfl) (fun _ _ _ h => h) (Or.inl ⟨by kernel_rfl, ?qZ33⟩) (by assumption) ?rqZ33
              case qZ33 => (intro w hSw; (try dsimp only at hSw); go_simp)
              try simp only [Act.put, List.setIfInBounds_toArray, List.getElem_toArray, List.getElem_cons_succ, List.getElem_cons_zero, List.set_cons_succ, List.set_cons_zero]
              refine wpAnyH_take (i := 11) (v := .agg #[.int .i64 0, .int .i64 0]) rfl (by kernel_rfl) (by kernel_rfl) (by kernel_rfl) (fun _ _ _ h => h) (Or.inl ⟨by kernel_rfl, ?qZ34⟩) (by assumption) ?rqZ34
              case qZ34 => (intro w hSw; (try dsimp only at hSw); go_simp)
              try simp only [Act.put, List.setIfInBounds_toArray, List.getElem_toArray, List.getElem_cons_succ, List.getElem_cons_zero, List.set_cons_succ, List.set_cons_zero]
              refine wpAnyH_take (i := 13) (v := .slice Am L.length cm) rfl (by kernel_rfl) (by kernel_rfl) (by kernel_rfl) (fun _ _ _ h => h) (Or.inl ⟨by kernel_rfl, ?qZ35⟩) (by assumption) ?rqZ35
              case qZ35 => (intro w hSw; (try dsimp only at hSw); go_simp)
              try simp only [Act.put, List.setIfInBounds_toArray, List.getElem_toArray, List.getElem_cons_succ, List.getElem_cons_zero, List.set_cons_succ, List.set_cons_zero]
              refine wpAnyH_ready (rs := [14]) (by kernel_rfl) (by simp) ?_
              refine AllReadyH.cons rfl (fun K hK => ?nZ36) (AllReadyH.nil)
              have bFl := bF.lt
              have bFf0 := bF.frozen 0
              have bFc0 := (bF.cell 0).trans rfl
              have bFf1 := bF.frozen 1
              have bFc1 := (bF.cell 1).trans rfl
              go_simp
              refine hK.out _ _ ?_ (fun hSZ37 => ?_)
              · exact HK.out _ ((hq.setCell g0_bF _).setCell g0_bF _)
              clear hK K
              try simp only [Act.put, List.setIfInBounds_toArray, List.getElem_toArray, List.getElem_cons_succ, List.getElem_cons_zero, List.set_cons_succ, List.set_cons_zero]
              refine wpAnyH_done (by kernel_rfl) ?_ _
              refine NoPanic.normal ?_
              try go_wp2_with fail
              go_meet
              exact MkOut.mk_ hq hsm hmk hll bF g0_bF
          case nZ9 =>
            go_simp
            refine hK.out _ _ ?_ (fun hSZ39 => ?_)
            · exact HK.out _ (hq.alloc hq.size (.cells #[.int .i64 0, .int .i64 0] 33))
            clear hK K
            try simp only [Act.put, List.setIfInBounds_toArray, List.getElem_toArray, List.getElem_cons_succ, List.getElem_cons_zero, List.set_cons_succ, List.set_cons_zero]
            have g0_bF := hq.size
            replace hq := hq.alloc hq.size (.cells #[.int .i64 0, .int .i64 0] 33)
            have bF := Blk.new WR 33 #[.int .i64 0, .int .i64 0]
            generalize WR.alloc (.cells #[.int .i64 0, .int .i64 0] 33) = WZ38 at *
            refine wpAnyH_ready (rs := [7]) (by kernel_rfl) (by simp) ?_
            refine AllReadyH.cons rfl (fun K hK => ?nZ40) (AllReadyH.nil)
            go_simp
            refine hK.out _ _ ?_ (fun hSZ42 => ?_)
            · exact HK.out _ (hq.alloc hq.size (.cells #[.int .i64 tg] 3))
            clear hK K
            try simp only [Act.put, List.setIfInBounds_toArray, List.getElem_toArray, List.getElem_cons_succ, List.getElem_cons_zero, List.set_cons_succ, List.set_cons_zero]
            have g0_bV := hq.size
            replace hq := hq.alloc hq.size (.cells #[.int .i64 tg] 3)
            replace bF := bF.alloc (.cells #[.int .i64 tg] 3)
            have bV := Blk.new WZ38 3 #[.int .i64 tg]
            generalize WZ38.alloc (.cells #[.int .i64 tg] 3) = WZ41 at *
            refine wpAnyH_ready (rs := [8]) (by kernel_rfl) (by simp) ?_
            refine AllReadyH.cons rfl (fun K hK => ?nZ43) (AllReadyH.nil)
            go_simp
            go_at_call 5
            with_reducible refine (HMZ.out _ hq _ 1 (SA.of_blk bV (fun h => h))).mono ?_
            rintro e WZ44 ⟨Am, cm, L, rfl, hsm, hmk, hll, hb9⟩
            try go_wp2_with fail
            refine hK.out _ _ ?_ (fun hSZ45 => ?_)
            · exact HK.out _ (hq.trans (hb9.mono hq.size))
            clear hK K
            try simp only [Act.put, List.setIfInBounds_toArray, List.getElem_toArray, List.getElem_cons_succ, List.getElem_cons_zero, List.set_cons_succ, List.set_cons_zero]
            replace hq := hq.trans (hb9.mono hq.size)
            have zZ46 : WZ41.heap.size ≤ WZ44.heap.size := hb9.size
            replace bF := bF.below hb9 bF.lt
            replace bV := bV.below hb9 bV.lt
            clear hb9
            refine wpAnyH_take (i := 9) (v := .tuple #[.slice Am L.length cm, .agg #[.int .i64 0, .int .i64 0]]) rfl (by kernel_rfl) (by kernel_rfl) (by kernel_rfl) (fun _ _ _ h => h) (Or.inl ⟨by kernel_rfl, ?qZ47⟩) (by assumption) ?rqZ47
            case qZ47 => (intro w hSw; (try dsimp only at hSw); go_simp)
            try simp only [Act.put, List.setIfInBounds_toArray, List.getElem_toArray, List.getElem_cons_succ, List.getElem_cons_zero, List.set_cons_succ, List.set_cons_zero]
            refine wpAnyH_take (i := 10) (v := .slice Am L.length cm) rfl (by kernel_rfl) (by kernel_rfl) (by kernel_rfl) (fun _ _ _ h => h) (Or.inl ⟨by kernel_rfl, ?qZ48⟩) (by assumption) ?rqZ48
            case qZ48 => (intro w hSw; (try dsimp only at hSw); go_simp)
            try simp only [Act.put, List.setIfInBounds_toArray, List.getElem_toArray, List.getElem_cons_succ, List.getElem_cons_zero, List.set_cons_succ, List.set_cons_zero]
            refine wpAnyH_take (i := 11) (v := .agg #[.int .i64 0, .int .i64 0]) rfl (by kernel_rfl) (by kernel_rfl) (by kernel_rfl) (fun _ _ _ h => h) (Or.inl ⟨by kernel_rfl, ?qZ49⟩) (by assumption) ?rqZ49
            case qZ49 => (intro w hSw; (try dsimp only at hSw); go_simp)
            try simp only [Act.put, List.setIfInBounds_toArray, List.getElem_toArray, List.getElem_cons_succ, List.getElem_cons_zero, List.set_cons_succ, List.set_cons_zero]
            refine wpAnyH_take (i := 13) (v := .slice Am L.length cm) rfl (by kernel_rfl) (by kernel_rfl) (by kernel_rfl) (fun _ _ _ h => h) (Or.inl ⟨by kernel_rfl, ?qZ50⟩) (by assumption) ?rqZ50
            case qZ50 => (intro w hSw; (try dsimp only at hSw); go_simp)
            try simp only [Act.put, List.setIfInBounds_toArray, List.getElem_toArray, List.getElem_cons_succ, List.getElem_cons_zero, List.set_cons_succ, List.set_cons_zero]
            refine wpAnyH_ready (rs := [14]) (by kernel_rfl) (by simp) ?_
            refine AllReadyH.cons rfl (fun K hK => ?nZ51) (AllReadyH.nil)
            have bFl := bF.lt
            have bFf0 := bF.frozen 0
            have bFc0 := (bF.cell 0).trans rfl
            have bFf1 := bF.frozen 1
            have bFc1 := (bF.cell 1).trans rfl
            go_simp
            refine hK.out _ _ ?_ (fun hSZ52 => ?_)
            · exact HK.out _ ((hq.setCell g0_bF _).setCell g0_bF _)
            clear hK K
            try simp only [Act.put, List.setIfInBounds_toArray, List.getElem_toArray, List.getElem_cons_succ, List.getElem_cons_zero, List.set_cons_succ, List.set_cons_zero]
            refine wpAnyH_done (by kernel_rfl) ?_ _
            refine NoPanic.normal ?_
            try go_wp2_with fail
            go_meet
            exact MkOut.mk_ hq hsm hmk hll bF g0_bF
        case rest =>
          obtain ⟨g9, Ab, cb, Lb, rfl, rfl, b9, hsb, hmb, hlb, hbx⟩ := hcut
          obtain ⟨wy, rfl⟩ : ∃ wy : World, wy = wc := ⟨_, rfl⟩
          have hby := hbz.trans (hbx.mono hbz.size)
          have b8y := b8.below hbx b8.lt
          have hsay := hsa.keep (free_below hbx)
          have heq := HSM.out La Lb hma hmb
          subst heq
          have HIN := Lib.hid (ints44_any wy Aa Ab ca cb La La hsay.sv hsb.sv (by omega) (by omega))
          have m8 := b8y.lt
          have m9 := b9.lt
          have q8 := (b8y.cell 0).trans rfl
          have q9 := (b9.cell 0).trans rfl
          have hdl : decide (La = La) = true := by simp
          clear HK HMZ HML HSM hsa hsb hsay hma hmb b8 b9 b8y hbx hbz p1z p2z d1z l1z l2z lbz
          go_wp2_with (first | (go_at_call 8; with_reducible refine HIN.out.mono ?_; rintro e w9 ⟨rfl, n9, rfl⟩; rw [hdl]))
          exact ⟨⟨i + 1, by omega, by go_num, Go.V.below_drewN hby n9⟩, by simpa using hmea (i + 1) rfl⟩
    · obtain rfl : i = rs.length := by omega
      go_wp2_with fail
      go_ret
      exact ⟨rfl, hwq⟩
end Go.Proofs.YtipjejnncnndeaaGreatDoor
namespace Go.V
open Go.RowKit Go.ChangeShapes Go.WideShapes Go.ChangeAt Go.Deep

section
variable {H : Type} {enc : TypeId × Value → H} {P : Program} {w : World} {base : Nat} {spare : Nat → Bool} {held : Bool}
theorem weights_all (P : Program) (e : TypeId) (n : Nat) : ∀ (l : List (DataW H)) (d : DataW H), d ∈ l → n ∈ d.weights P e → n ∈ DataW.weightsAll P e l := by
  intro l
  induction l with
  | nil => intro d hd; simp at hd
  | cons d0 l ih =>
    intro d hd hnd
    simp only [DataW.weightsAll, List.mem_append]
    rcases List.mem_cons.1 hd with rfl | hd
    · exact .inl hnd
    · exact .inr (ih d hd hnd)
theorem rows_of1 {α : Type} {R : α → List Value → Prop} (V : Nat → Value) : ∀ (n : Nat), (∀ i, i < n → ∃ a : α, R a [V i]) → ∃ l : List α, l.length = n ∧ RowsR R l ((List.range n).map V)
  | 0, _ => ⟨[], rfl, by simp [RowsR]⟩
  | n + 1, h => by
    obtain ⟨l, hl, hr⟩ := rows_of1 V n (fun i hi => h i (by omega))
    obtain ⟨a, ha⟩ := h n (by omega)
    refine ⟨l ++ [a], by simp [hl], ?_⟩
    rw [List.range_succ, List.map_append]
    exact hr.append (RowsR.one ha)
theorem open_rows1 {α : Type} {R : α → List Value → Prop} {t e : TypeId} {fuel : Nat} {cs : List Value} {x : DataW H × List MemPlace} (ht : P.underlying t = some (.slice e)) (hC : P.cellsOf e = 1)
    (h : DataW.trod enc P w base spare held fuel t cs = some x) (hz : ∀ n ∈ x.1.weights P t, n ≤ reachBytes)
    (hR : ∀ (v : Value) (n : Nat) (y : DataW H × List MemPlace), DataW.trod enc P w base spare held n e [v] = some y → (∀ k ∈ y.1.weights P e, k ≤ reachBytes) → ∃ a, R a [v]) :
    ∃ A c l vs, cs = [.slice A l.length c] ∧ l.length ≤ c ∧ c ≤ maxLen ∧ l.length * P.bytesOf e ≤ reachBytes ∧ SV w w.heap.size A vs ∧ RowsR R l vs := by
  rcases open_slice1 ht hC h with ⟨rfl, _⟩ | ⟨a, len, cap, m, n, V, D, Pl, rfl, hb, hl, hm, hmm, hx, hi⟩
  · exact ⟨none, 0, [], [], rfl, Nat.le_refl _, by simp [maxLen], by simp, .inl rfl, rfl⟩
  · have hlm : len ≤ m := by rw [hmm]; split <;> omega
    have hbytes : len * P.bytesOf e ≤ reachBytes := by
      have := hz ((((List.range len).map D).length + ((List.range (m - len)).map fun j => D (len + j)).length) * P.bytesOf e) (by rw [hx]; simp [DataW.weights, ht])
      refine Nat.le_trans (Nat.mul_le_mul_right _ ?_) this
      simp
    have hzD : ∀ i, i < len → ∀ n ∈ (D i).weights P e, n ≤ reachBytes := fun i hil n hn => by
      refine hz n ?_
      rw [hx]
      simp only [DataW.weights, ht, List.mem_cons, List.mem_append]
      exact .inr (.inl (weights_all P e n _ (D i) (List.mem_map.2 ⟨i, List.mem_range.2 hil, rfl⟩) hn))
    by_cases hl0 : len = 0
    · subst hl0
      exact ⟨some a, cap, [], [], rfl, Nat.zero_le _, hm, by simp, .inl rfl, rfl⟩
    · have hc0 := (hi 0 (by omega)).1
      have hc00 : w.cell? a = some (V 0) := by simpa [Addr.add] using hc0
      obtain ⟨b, off, rfl⟩ := addr_none hc00
      obtain ⟨l, hll, hrows⟩ := rows_of1 (R := R) V len (fun i hil => hR (V i) n _ (hi i (by omega)).2 (hzD i hil))
      subst hll
      refine ⟨some ⟨b, off, none⟩, cap, l, _, rfl, hl, hm, hbytes, .inr ⟨b, off, rfl, World.block_lt_of_cell? w _ hc00, fun j u hu => ?_⟩, hrows⟩
      simp only [List.getElem?_map, Option.map_eq_some_iff] at hu
      obtain ⟨z, hz1, rfl⟩ := hu
      obtain ⟨hj1, hj2⟩ := List.getElem?_eq_some_iff.1 hz1
      simp at hj1 hj2
      subst hj2
      have := (hi j (by omega)).1
      rw [add_none] at this
      exact this
end
end Go.V
