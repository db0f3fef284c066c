/-
  Objects: walk of 'Merge'.
-/
import Derived.Test.YtiilhnfdlpgllaaOb9
import Derived.Test.YtiilhnfdlpgllaaObU
namespace Go.Proofs.Ytiilhnfdlpgllaa
open Go.RowKit Go.V
set_option linter.unusedVariables false

theorem results_24_28 {fn : Func} {a b : Tmp} (h : fn.results = #[.cell a 24, .cell b 28]) (tmps : Array Value) (w : World) (g g' : Nat) (x c i : Value) (ha : tmps.getD a undef = .pointer (some ⟨g, 0, none⟩)) (hb' : tmps.getD b undef = .pointer (some ⟨g', 0, none⟩))
    (hb : Blk w g 24 #[x]) (hc : Blk w g' 28 #[c, i]) : (results fn tmps).run Try.prog w = .ok (.tuple #[.agg #[x], .agg #[c, i]]) w := by
  have h0 := hb.cell 0
  have k0 := hc.cell 0
  have k1 := hc.cell 1
  simp only [List.getElem?_toArray, List.getElem?_cons_zero, List.getElem?_cons_succ] at h0 k0 k1
  have ha' : tmps[a]?.getD undef = .pointer (some ⟨g, 0, none⟩) := by simpa using ha
  have hb'' : tmps[b]?.getD undef = .pointer (some ⟨g', 0, none⟩) := by simpa using hb'
  simp [results, h, go_sem, ha', hb'', h0, k0, k1]
/-- The state of 'Merge': its boxes and results. -/
structure MgSt (w wr : World) (A : Option Addr) (n k : Nat) (B : Option Addr) (m j : Nat) : Prop where
  bx : Blk wr w.heap.size 24 #[.slice A n k]
  bo : Blk wr (w.heap.size + 1) 24 #[.slice B m j]
  r1 : Blk wr (w.heap.size + 2) 24 #[.slice none 0 0]
  r2 : Blk wr (w.heap.size + 3) 28 #[.int .i64 0, .int .i64 0]
  bel : Below w.heap.size w wr
section
variable {w wr w' : World} {A B : Option Addr} {n k m j : Nat}
theorem MgSt.below (h : MgSt w wr A n k B m j) (hb : Below wr.heap.size wr w') : MgSt w w' A n k B m j :=
  ⟨h.bx.below hb h.bx.lt, h.bo.below hb h.bo.lt, h.r1.below hb h.r1.lt, h.r2.below hb h.r2.lt, h.bel.trans (hb.mono h.bel.size)⟩
theorem MgSt.touch (h : MgSt w wr A n k B m j) {g : Nat} {row : Option Nat} (ht : TouchS wr w' g row) (hg : w.heap.size + 4 ≤ g) (hr : ∀ b, row = some b → w.heap.size + 4 ≤ b) : MgSt w w' A n k B m j := by
  have hl := h.r2.lt
  exact ⟨h.bx.touchS ht (by omega) (fun e => by have := hr _ e.symm; omega), h.bo.touchS ht (by omega) (fun e => by have := hr _ e.symm; omega), h.r1.touchS ht (by omega) (fun e => by have := hr _ e.symm; omega), h.r2.touchS ht (by omega) (fun e => by have := hr _ e.symm; omega),
    h.bel.trans (ht.below (by omega) (by omega) (fun k hk => by have := hr k hk; omega))⟩
theorem MgSt.facts (h : MgSt w wr A n k B m j) : wr.cell? ⟨w.heap.size, 0, none⟩ = some (.slice A n k) ∧ wr.cell? ⟨w.heap.size + 1, 0, none⟩ = some (.slice B m j) ∧ wr.frozen? ⟨w.heap.size + 2, 0, none⟩ = false ∧
    wr.cell? ⟨w.heap.size + 2, 0, none⟩ = some (.slice none 0 0) ∧ wr.cell? ⟨w.heap.size + 3, 0, none⟩ = some (.int .i64 0) ∧ wr.cell? ⟨w.heap.size + 3, 1, none⟩ = some (.int .i64 0) ∧ wr.frozen? ⟨w.heap.size + 3, 0, none⟩ = false ∧ wr.frozen? ⟨w.heap.size + 3, 1, none⟩ = false ∧
    w.heap.size < wr.heap.size ∧ w.heap.size + 1 < wr.heap.size ∧ w.heap.size + 2 < wr.heap.size ∧ w.heap.size + 3 < wr.heap.size :=
  ⟨(h.bx.cell 0).trans rfl, (h.bo.cell 0).trans rfl, h.r1.frozen 0, (h.r1.cell 0).trans rfl, (h.r2.cell 0).trans rfl, (h.r2.cell 1).trans rfl, h.r2.frozen 0, h.r2.frozen 1, h.bx.lt, h.bo.lt, h.r1.lt, h.r2.lt⟩
end
def MgPost (w : World) (r : List Ob.S × (Int × Int)) (e : Ending) (w' : World) : Prop := ∃ A c, e = .returned (.tuple #[stV A r.1.length c, .agg #[.int .i64 r.2.1, .int .i64 r.2.2]]) ∧ r.1.length ≤ c ∧ StV w' (Under w.heap.size) A r.1 ∧ Below w.heap.size w w'
theorem MgPost.no {w w' : World} {r : List Ob.S × (Int × Int)} {c i : Int} (h : r = ([], (c, i))) (hb : Below w.heap.size w w') : MgPost w r (.returned (.tuple #[.agg #[.slice none 0 0], .agg #[.int .i64 c, .int .i64 i]])) w' := by
  subst h; exact ⟨none, 0, rfl, Nat.le_refl _, ⟨[], SA.nil, rfl⟩, hb⟩
set_option maxRecDepth 100000 in
set_option maxHeartbeats 16000000 in
theorem merge_any (w : World) (A : Option Addr) (k : Nat) (s : List Ob.S) (B : Option Addr) (j : Nat) (t : List Ob.S) (hv : StV w Free A s) (hl64 : s.length ≤ 9223372036854775807) (hu : StV w Free B t) (hm64 : t.length ≤ 9223372036854775807) :
    Calls Try.prog 37 #[stV A s.length k, stV B t.length j] w (MgPost w (Ob.mergeF s t)) := by
  have HV := Lib.hid (fun (w1 : World) (hb : Below w.heap.size w w1) => hv.keep (free_below hb))
  have HU := Lib.hid (fun (w1 : World) (hb : Below w.heap.size w w1) => hu.keep (free_below hb))
  have HPF := Lib.hid (Ob.mergeF.eq_1 s t)
  have HC1 := Lib.hid (fun (w1 : World) (hb : Below w.heap.size w w1) => validate_any w1 A k s (HV.out _ hb) hl64)
  have HC2 := Lib.hid (fun (w1 : World) (hb : Below w.heap.size w w1) => validate_any w1 B j t (HU.out _ hb) hm64)
  clear hv hu
  generalize hr : Ob.mergeF s t = r at *
  clear hr
  have st0 : MgSt w ((((w.alloc (.cells #[.slice A s.length k] 24)).alloc (.cells #[.slice B t.length j] 24)).alloc (.cells #[.slice none 0 0] 24)).alloc (.cells #[.int .i64 0, .int .i64 0] 28)) A s.length k B t.length j :=
    ⟨(((Blk.new _ _ _).alloc _).alloc _).alloc _, ((blk_new1 _ _ _ _).alloc _).alloc _, (blk_new2 _ _ _ _ _).alloc _, by simpa using Blk.new (((w.alloc (.cells #[.slice A s.length k] 24)).alloc (.cells #[.slice B t.length j] 24)).alloc (.cells #[.slice none 0 0] 24)) 28 #[.int .i64 0, .int .i64 0], (below_alloc3 _ _ _ _).alloc (by simp; omega) _⟩
  have arr0 : Blk (((((w.alloc (.cells #[.slice A s.length k] 24)).alloc (.cells #[.slice B t.length j] 24)).alloc (.cells #[.slice none 0 0] 24)).alloc (.cells #[.int .i64 0, .int .i64 0] 28)).alloc (.cells #[.slice A s.length k, .slice B t.length j] 24)) (w.heap.size + 4) 24 #[.slice A s.length k, .slice B t.length j] := by
    simpa using Blk.new ((((w.alloc (.cells #[.slice A s.length k] 24)).alloc (.cells #[.slice B t.length j] 24)).alloc (.cells #[.slice none 0 0] 24)).alloc (.cells #[.int .i64 0, .int .i64 0] 28)) 24 #[.slice A s.length k, .slice B t.length j]
  replace st0 := st0.below (below_alloc1 _ (.cells #[.slice A s.length k, .slice B t.length j] 24))
  go_enter Try.func37, Try.ntmps37
  go_wp2_with fail
  go_loopw [16] (fun iv wr => ∃ (i : Nat), i ≤ 2 ∧ iv = .int .i64 i ∧ MgSt w wr A s.length k B t.length j ∧ Blk wr (w.heap.size + 4) 24 #[.slice A s.length k, .slice B t.length j] ∧ Hid (1 ≤ i → (Ob.stF s).1 = 0) ∧ Hid (2 ≤ i → (Ob.stF t).1 = 0)) (fun iv _ => 2 - (intOf iv).toNat)
  case atStart => exact ⟨0, by omega, rfl, st0, arr0, Lib.hid (fun h => by omega), Lib.hid (fun h => by omega)⟩
  case round =>
    obtain ⟨i, hi, rfl, st, arr, HZ1, HZ2⟩ := hrel
    obtain ⟨wo, rfl⟩ : ∃ wo : World, wo = wr := ⟨_, rfl⟩
    clear st0 arr0
    have a0 := (arr.cell 0).trans (rfl : _ = some (Value.slice A s.length k))
    have a1 := (arr.cell 1).trans (rfl : _ = some (Value.slice B t.length j))
    have al := arr.lt
    by_cases hi2 : i < 2
    · obtain rfl | rfl : i = 0 ∨ i = 1 := by omega
      · rw [show ((0 : Nat) : Int) = 0 from rfl]
        have HCC := Lib.hid (HC1.out _ ((st.below (below_alloc1 wo (.cells #[.slice A s.length k] 24))).bel))
        by_cases hbad : (Ob.stF s).1 ≠ 0
        · have H := Lib.hid (show r = ([], Ob.stF s) from by rw [HPF.out, if_pos hbad])
          have hb1 : ((Ob.stF s).1 == 0) = false := by simpa using hbad
          have hb2 : ((Ob.stF s).1 != 0) = true := by simpa using hbad
          clear hbad HPF HV HU HZ1 HZ2 HC1 HC2
          generalize Ob.stF s = q at *
          obtain ⟨cd, ix⟩ := q
          simp only at hb1 hb2
          have HR : Hid (∀ w', Below w.heap.size w w' → MgPost w r (.returned (.tuple #[.agg #[.slice none 0 0], .agg #[.int .i64 cd, .int .i64 ix]])) w') := Lib.hid fun w' hb => MgPost.no H.out hb
          clear H
          generalize MgPost w r = R at *
          go_wp2_with fail
          go_at_call 32
          refine HCC.out.mono ?_
          rintro e w1 ⟨rfl, hb1'⟩
          have st1 := (st.below (below_alloc1 wo (.cells #[.slice A s.length k] 24))).below hb1'
          obtain ⟨p0, p1, p2, p3, p4, p5, p6, p7, l0, l1, l2, l3⟩ := st1.facts
          clear hb1' HCC st arr a0 a1 al
          go_wp2_with fail
          go_region
          all_goals
            go_wp2_with fail
            obtain ⟨k1, k2, k3⟩ := put12 st1.r1 st1.r2 (by omega) (.slice none 0 0) (.int .i64 cd) (.int .i64 ix)
            refine bodyPost_ret (results_24_28 rfl _ _ (w.heap.size + 2) (w.heap.size + 3) (.slice none 0 0) (.int .i64 cd) (.int .i64 ix) rfl rfl ((k1.alloc _).drewN 1) ((k2.alloc _).drewN 1)) rfl ?_
            refine HR.out _ ?_
            exact below_drewN ((k3 _ _ (by omega) (by omega) st1.bel).alloc (by simp [World.setCell]; omega) _) 1
        · have hz := (Ob.stF_ok (by simpa using hbad)).1
          rw [hz] at HCC
          have HZ1' : Hid (1 ≤ 0 + 1 → (Ob.stF s).1 = 0) := Lib.hid (fun _ => by rw [hz])
          clear hz hbad HPF HV HU HZ1 HZ2 HC1 HC2
          go_wp2_with fail
          go_at_call 32
          refine HCC.out.mono ?_
          rintro e w1 ⟨rfl, hb1'⟩
          have hbx := below_alloc1 wo (.cells #[.slice A s.length k] 24)
          have hby := below_alloc1 w1 (.cells #[.int .i64 0, .int .i64 0] 28)
          have st1 := ((st.below hbx).below hb1').below hby
          have arr1 := ((arr.below hbx arr.lt).below hb1' (arr.below hbx arr.lt).lt).alloc (.cells #[.int .i64 0, .int .i64 0] 28)
          clear hb1' HCC st arr a0 a1 al hbx hby
          go_wp2_with fail
          go_roundw
          case rel => exact ⟨1, by omega, by go_num, st1, arr1, HZ1', Lib.hid (fun h => by omega)⟩
          case measure => simp [intOf]
      · rw [show ((1 : Nat) : Int) = 1 from rfl]
        have HCC := Lib.hid (HC2.out _ ((st.below (below_alloc1 wo (.cells #[.slice B t.length j] 24))).bel))
        by_cases hbad : (Ob.stF t).1 ≠ 0
        · have H := Lib.hid (show r = ([], Ob.stF t) from by rw [HPF.out, if_neg (by rw [HZ1.out (by omega)]; simp), if_pos hbad])
          have hb1 : ((Ob.stF t).1 == 0) = false := by simpa using hbad
          have hb2 : ((Ob.stF t).1 != 0) = true := by simpa using hbad
          clear hbad HPF HV HU HZ1 HZ2 HC1 HC2
          generalize Ob.stF t = q at *
          obtain ⟨cd, ix⟩ := q
          simp only at hb1 hb2
          have HR : Hid (∀ w', Below w.heap.size w w' → MgPost w r (.returned (.tuple #[.agg #[.slice none 0 0], .agg #[.int .i64 cd, .int .i64 ix]])) w') := Lib.hid fun w' hb => MgPost.no H.out hb
          clear H
          generalize MgPost w r = R at *
          go_wp2_with fail
          go_at_call 32
          refine HCC.out.mono ?_
          rintro e w1 ⟨rfl, hb1'⟩
          have st1 := (st.below (below_alloc1 wo (.cells #[.slice B t.length j] 24))).below hb1'
          obtain ⟨p0, p1, p2, p3, p4, p5, p6, p7, l0, l1, l2, l3⟩ := st1.facts
          clear hb1' HCC st arr a0 a1 al
          go_wp2_with fail
          go_region
          all_goals
            go_wp2_with fail
            obtain ⟨k1, k2, k3⟩ := put12 st1.r1 st1.r2 (by omega) (.slice none 0 0) (.int .i64 cd) (.int .i64 ix)
            refine bodyPost_ret (results_24_28 rfl _ _ (w.heap.size + 2) (w.heap.size + 3) (.slice none 0 0) (.int .i64 cd) (.int .i64 ix) rfl rfl ((k1.alloc _).drewN 1) ((k2.alloc _).drewN 1)) rfl ?_
            refine HR.out _ ?_
            exact below_drewN ((k3 _ _ (by omega) (by omega) st1.bel).alloc (by simp [World.setCell]; omega) _) 1
        · have hz := (Ob.stF_ok (by simpa using hbad)).1
          rw [hz] at HCC
          have HZ2' : Hid (2 ≤ 1 + 1 → (Ob.stF t).1 = 0) := Lib.hid (fun _ => by rw [hz])
          have HZ1' : Hid (1 ≤ 1 + 1 → (Ob.stF s).1 = 0) := Lib.hid (fun _ => HZ1.out (by omega))
          clear hz hbad HPF HV HU HZ1 HZ2 HC1 HC2
          go_wp2_with fail
          go_at_call 32
          refine HCC.out.mono ?_
          rintro e w1 ⟨rfl, hb1'⟩
          have hbx := below_alloc1 wo (.cells #[.slice B t.length j] 24)
          have hby := below_alloc1 w1 (.cells #[.int .i64 0, .int .i64 0] 28)
          have st1 := ((st.below hbx).below hb1').below hby
          have arr1 := ((arr.below hbx arr.lt).below hb1' (arr.below hbx arr.lt).lt).alloc (.cells #[.int .i64 0, .int .i64 0] 28)
          clear hb1' HCC st arr a0 a1 al hbx hby
          go_wp2_with fail
          go_roundw
          case rel => exact ⟨2, by omega, by go_num, st1, arr1, HZ1', HZ2'⟩
          case measure => simp [intOf]
    · obtain rfl : i = 2 := by omega
      rw [show ((2 : Nat) : Int) = 2 from rfl]
      obtain ⟨hz1, hok1⟩ := Ob.stF_ok (HZ1.out (by omega))
      obtain ⟨hz2, hok2⟩ := Ob.stF_ok (HZ2.out (by omega))
      have HP2 := Lib.hid ((HPF.out.trans (if_neg (by rw [hz1]; simp))).trans (if_neg (by rw [hz2]; simp)))
      have HCY := Lib.hid (copy_any wo A k s (HV.out _ st.bel) (by have := hok1.len; omega) (fun i hi => by have := (hok1.ok i hi).ln; omega))
      have HS0 := hok1.sorted
      have hsl := hok1.len
      have htl := hok2.len
      have HLN := Lib.hid (fun i hi => (hok2.ok i hi).ln)
      have HROW := Lib.hid (fun (w' : World) (hb : Below w.heap.size w w') i hi => (HU.out _ hb).row (w := w') i hi)
      clear arr a0 a1 al HZ1 HZ2 HPF hz1 hz2 hok1 hok2 HC1 HC2 HV HU
      obtain ⟨p0, p1, p2, p3, p4, p5, p6, p7, l0, l1, l2, l3⟩ := st.facts
      go_wp2_with fail
      go_at_call 48
      refine HCY.out.mono ?_
      rintro e w3 ⟨A3, c3, xs, rfl, hown3, hb3⟩
      have st4 := (st.below hb3).below (below_alloc1 w3 (.cells #[.slice A3 s.length c3] 24))
      have hz3 := hb3.size
      have out4 : OutSt (w3.alloc (.cells #[.slice A3 s.length c3] 24)) w3.heap.size wo.heap.size (fun b => Under wo.heap.size b ∨ b = w3.heap.size) A3 c3 s xs :=
        ⟨Blk.new _ _ _, hown3.own.alloc _, hown3.rows.mono (StR.keep (Keeps.below (below_alloc1 _ _) (fun b hb h => by
          rcases h with (h | h) | h
          · exact .inl h
          · omega
          · exact .inr h))), .inr rfl, Nat.le_trans hz3 (size_alloc_le _ _)⟩
      have hbase : w.heap.size + 4 ≤ wo.heap.size := l3
      obtain ⟨p0, p1, p2, p3, p4, p5, p6, p7, l0, l1, l2, l3⟩ := (st.below hb3).facts
      clear hb3 HCY hown3 st
      go_wp2_with fail
      obtain ⟨g, hg⟩ : ∃ g, g = w3.heap.size := ⟨_, rfl⟩
      obtain ⟨bs, hbs⟩ : ∃ g, g = wo.heap.size := ⟨_, rfl⟩
      rw [← hg] at out4 ⊢
      rw [← hbs] at out4
      rw [← hg, ← hbs] at hz3
      rw [← hbs] at hbase
      clear hg hbs
      go_loopw [33] (fun iv wr => ∃ (i : Nat) (A' : Option Addr) (c : Nat) (s' : List Ob.S) (xs : List Value), i ≤ t.length ∧ iv = .int .i64 i ∧ MgSt w wr A s.length k B t.length j ∧ OutSt wr g bs (fun b => Under bs b ∨ b = g) A' c s' xs ∧ Ob.Sorted s' ∧ s'.length ≤ 40 + i ∧ Hid (Ob.mgFrom s t 0 = Ob.mgFrom s' t i)) (fun iv _ => t.length - (intOf iv).toNat)
      case atStart => exact ⟨0, A3, c3, s, xs, Nat.zero_le _, rfl, st4, out4, HS0, hsl, Lib.hid rfl⟩
      case round =>
        obtain ⟨i, A', c, s', xs', hi, rfl, st, out, HS, hs', HM⟩ := hrel
        obtain ⟨wq, rfl⟩ : ∃ wq : World, wq = wr := ⟨_, rfl⟩
        clear st4 out4 HS0 p0 p1 p2 p3 p4 p5 p6 p7 l0 l1 l2 l3
        by_cases hil : i < t.length
        · have hil' : (i : Int) < t.length := by omega
          obtain ⟨b, off, Al, kl, Ad, kd, e, hb, _, d0, d1, d2, d3, hx, hob⟩ := HROW.out _ st.bel i hil
          subst e
          have hlki := HLN.out i hil
          have HOK := Lib.hid (Ob.mgFrom_next s' t i hil)
          have HNO := Lib.hid (Ob.mgFrom_bad s' t i hil)
          generalize hxx : Ob.it t i = x at *
          clear hxx
          have hXs : ∀ b, (Under bs b ∨ b = g) → b < (wq.alloc (.cells #[.int .i64 x.dig, .int .i64 x.ob.kind, .slice Al x.ob.links.length kl, .slice Ad x.ob.data.length kd] 46)).heap.size := fun b hb => by
            have h1 := out.hi
            have h2 := out.blk.lt
            have h3 := size_alloc_le wq (.cells #[.int .i64 x.dig, .int .i64 x.ob.kind, .slice Al x.ob.links.length kl, .slice Ad x.ob.data.length kd] 46)
            rcases hb with hb | hb
            · unfold Under at hb; omega
            · omega
          have hbx := below_alloc1 wq (.cells #[.int .i64 x.dig, .int .i64 x.ob.kind, .slice Al x.ob.links.length kl, .slice Ad x.ob.data.length kd] 46)
          have HAD := Lib.hid (add_any _ _ _ _ _ _ _ _ x.dig x.ob Al kl Ad kd (out.below hbx) hXs HS (by omega) hx (hob.keep (free_below hbx)) (by omega))
          have hlen' : (Ob.addS s' x.dig x.ob).length ≤ s'.length + 1 := by
            unfold Ob.addS
            have := Ob.lb_le s' x.dig
            split <;> simp; omega
          have HSA := Lib.hid (fun h => (Ob.addS_spec HS x.dig x.ob h).1)
          obtain ⟨xd, kk, ls, da⟩ := x
          simp only at *
          have stx := st.below hbx
          have hrowlo : ∀ b, (Value.slice A' s'.length c).ownBlock = some b → w.heap.size + 4 ≤ b := fun b hb => by
            have h1 := (out.own.lt b hb).1
            omega
          have hgl : w.heap.size + 4 ≤ g := by omega
          clear hbx hXs hob
          go_wp2_with fail
          go_at_call 49
          refine HAD.out.mono ?_
          rintro e w4 ⟨A4, c4, xs4, rfl, out4, ht4⟩
          have st5 := stx.touch ht4 hgl hrowlo
          clear ht4 HAD st stx out
          by_cases hok : Ob.addOk s' xd ⟨kk, ls, da⟩ = true
          · have HM' := Lib.hid (HM.out.trans (HOK.out hok))
            have hsr := HSA.out hok
            rw [hok]
            clear HOK HNO HM HSA
            generalize Ob.addS s' xd ⟨kk, ls, da⟩ = s4 at *
            go_wp2_with fail
            go_roundw
            case rel => exact ⟨i + 1, _, _, _, _, by omega, by go_num, st5, out4, hsr, by omega, HM'⟩
            case measure => simp [intOf]; omega
          · have HM' := HM.out.trans (HNO.out hok)
            have HR : Hid (∀ w', Below w.heap.size w w' → MgPost w r (.returned (.tuple #[.agg #[.slice none 0 0], .agg #[.int .i64 19, .int .i64 i]])) w') := Lib.hid fun w' hb => MgPost.no (by rw [HP2.out, HM', if_pos (by simp)]) hb
            have hok2 : Ob.addOk s' xd ⟨kk, ls, da⟩ = false := by simpa using hok
            rw [hok2]
            clear HOK HNO HM HSA HM' hok hok2 HP2
            obtain ⟨p0, p1, p2, p3, p4, p5, p6, p7, l0, l1, l2, l3⟩ := st5.facts
            go_wp2_with fail
            obtain ⟨k1, k2, k3⟩ := put12 st5.r1 st5.r2 (by omega) (.slice none 0 0) (.int .i64 19) (.int .i64 i)
            refine bodyPost_ret (results_24_28 rfl _ _ (w.heap.size + 2) (w.heap.size + 3) (.slice none 0 0) (.int .i64 19) (.int .i64 i) rfl rfl k1 k2) rfl ?_
            exact HR.out _ (k3 _ _ (by omega) (by omega) st5.bel)
        · obtain rfl : i = t.length := by omega
          have HM' := HM.out.trans (Ob.mgFrom_end s' t _ (Nat.le_refl _))
          have HP3 := Lib.hid (HP2.out.trans (if_neg (by rw [HM']; simp)))
          rw [HM'] at HP3
          clear HP2 HM HM' HROW HLN
          obtain ⟨p0, p1, p2, p3, p4, p5, p6, p7, l0, l1, l2, l3⟩ := st.facts
          have g0 := out.blk.cell 0
          have gl := out.blk.lt
          simp only [List.getElem?_toArray, List.getElem?_cons_zero] at g0
          by_cases h40 : 40 < s'.length
          · have HR : Hid (∀ w', Below w.heap.size w w' → MgPost w r (.returned (.tuple #[.agg #[.slice none 0 0], .agg #[.int .i64 14, .int .i64 (-1)]])) w') := Lib.hid fun w' hb => MgPost.no (HP3.out.trans (if_pos h40)) hb
            have h40' : (40 : Int) < s'.length := by omega
            clear HP3
            generalize MgPost w r = R at *
            go_wp2_with fail
            obtain ⟨k1, k2, k3⟩ := put12 st.r1 st.r2 (by omega) (.slice none 0 0) (.int .i64 14) (.int .i64 (-1))
            refine bodyPost_ret (results_24_28 rfl _ _ (w.heap.size + 2) (w.heap.size + 3) (.slice none 0 0) (.int .i64 14) (.int .i64 (-1)) rfl rfl k1 k2) rfl ?_
            exact HR.out _ (k3 _ _ (by omega) (by omega) st.bel)
          · have H := Lib.hid (HP3.out.trans (if_neg h40))
            have h40' : ¬ (40 : Int) < s'.length := by omega
            have hcap : s'.length ≤ c := by
              obtain ⟨A', c', e1, hcc, _⟩ := own_form out.own
              injection e1 with _ _ e3
              subst e3
              exact hcc
            clear HP3 h40
            go_wp2_with fail
            obtain ⟨k1, k2, k3⟩ := put12 st.r1 st.r2 (by omega) (.slice A' s'.length c) (.int .i64 0) (.int .i64 0)
            refine bodyPost_ret (results_24_28 rfl _ _ (w.heap.size + 2) (w.heap.size + 3) (.slice A' s'.length c) (.int .i64 0) (.int .i64 0) rfl rfl k1 k2) rfl ?_
            rw [H.out]
            have hu1 : Under bs (w.heap.size + 2) := by unfold Under; omega
            have hu2 : Under bs (w.heap.size + 3) := by unfold Under; omega
            have hkp := (((Keeps.setCell wq (Or1 (fun b => Under bs b ∨ b = g) (.slice A' s'.length c)) ⟨w.heap.size + 2, 0, none⟩ (.slice A' s'.length c) (.inl (.inl hu1))).trans (Keeps.setCell _ _ ⟨w.heap.size + 3, 0, none⟩ (.int .i64 0) (.inl (.inl hu2)))).trans (Keeps.setCell _ _ ⟨w.heap.size + 3, 1, none⟩ (.int .i64 0) (.inl (.inl hu2)))).into (X'' := Under w.heap.size) (fun b hb => .inl (.inl (by unfold Under at *; omega)))
            have hne1 : some (w.heap.size + 2) ≠ (Value.slice A' s'.length c).ownBlock := fun e => by have := (out.own.lt _ e.symm).1; omega
            have hne2 : some (w.heap.size + 3) ≠ (Value.slice A' s'.length c).ownBlock := fun e => by have := (out.own.lt _ e.symm).1; omega
            refine ⟨A', c, rfl, hcap, ⟨xs', ?_, out.rows.mono (StR.keep hkp)⟩, k3 _ _ (by omega) (by omega) st.bel⟩
            exact SA.of_own' (own_setCell (own_setCell (own_setCell out.own hne1 _) hne2 _) hne2 _) (fun b hb hU => by have := (out.own.lt b hb).1; unfold Under at hU; omega)
end Go.Proofs.Ytiilhnfdlpgllaa
