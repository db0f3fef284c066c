/-
  Histories: walk of 'Find'.
-/
import Derived.Test.YtoohmkdgimkgoaaW27
import Derived.Test.YtoohmkdgimkgoaaView8
namespace Go.Proofs.Ytoohmkdgimkgoaa
open Go.RowKit Go.V
set_option linter.unusedVariables false

/-- Two results in slots, the fault in a cell. -/
theorem results_ttc {fn : Func} {s s2 a : Tmp} (h : fn.results = #[.tmp s, .tmp s2, .cell a 26]) (tmps : Array Value) (w : World) (g : Nat) (x y : Value) (ha : tmps.getD a undef = .pointer (some ⟨g, 0, none⟩)) (hb : Blk w g 26 #[x, y]) :
    (results fn tmps).run Try.prog w = .ok (.tuple #[tmps.getD s undef, tmps.getD s2 undef, .agg #[x, y]]) w := by
  have h0 := hb.cell 0
  have h1 := hb.cell 1
  simp only [List.getElem?_toArray, List.getElem?_cons_zero, List.getElem?_cons_succ] at h0 h1
  have ha' : tmps[a]?.getD undef = .pointer (some ⟨g, 0, none⟩) := by simpa using ha
  simp [results, h, go_sem, ha', h0, h1]
/-- A number, numbers and a fault. -/
def FRes (w : World) (r : Int × (List Int × (Int × Int))) (e : Ending) (w' : World) : Prop :=
  ∃ A c, e = .returned (.tuple #[.int .i64 r.1, .slice A r.2.1.length c, .agg #[.int .i64 r.2.2.1, .int .i64 r.2.2.2]]) ∧ r.2.1.length ≤ c ∧ IV w' A r.2.1 ∧ Below w.heap.size w w'
def brk (broken : List Bool) (i : Nat) : Bool := broken[i]?.getD false
def findRes (l : List Hs.Cm) (good : List Int) (bad : Int) (broken : List Bool) : Int × (List Int × (Int × Int)) :=
  if (bcheck l good bad).1 ≠ 0 then (0, ([], bcheck l good bad)) else if broken.length ≠ l.length then (0, ([], (9, -1)))
  else (((Hs.find l (brk broken) (Hs.nats good) bad.toNat).1 : Int), (Hs.ints (Hs.find l (brk broken) (Hs.nats good) bad.toNat).2, (0, 0)))

structure FindSt (w wr : World) (base : Nat) (gs ts : List Nat) (Ak : Option Addr) (ck : Nat) (At : Option Addr) (ct : Nat) : Prop where
  known : wr.ownsRow base 3 1 (.slice Ak gs.length ck) gs.length (intsV (Hs.ints gs))
  tested : wr.ownsRow base 3 1 (.slice At ts.length ct) ts.length (intsV (Hs.ints ts))
  ne : Apart (.slice Ak gs.length ck) (.slice At ts.length ct)
  res : Blk wr w.heap.size 26 #[.int .i64 0, .int .i64 0]
  lo : w.heap.size < base
  hi : base ≤ wr.heap.size
  bel : Below w.heap.size w wr
theorem FindSt.below {w wr w' : World} {base : Nat} {gs ts : List Nat} {Ak At : Option Addr} {ck ct : Nat} (h : FindSt w wr base gs ts Ak ck At ct) (hb : Below wr.heap.size wr w') : FindSt w w' base gs ts Ak ck At ct :=
  ⟨own_below (B := 0) h.known hb, own_below (B := 0) h.tested hb, h.ne, h.res.below hb h.res.lt, h.lo, Nat.le_trans h.hi hb.size, h.bel.trans (hb.mono h.bel.size)⟩
theorem FindSt.test {w wr w' : World} {base : Nat} {gs ts : List Nat} {Ak At A' : Option Addr} {ck ct c' : Nat} (h : FindSt w wr base gs ts Ak ck At ct) (o : Obj) (x : Nat)
    (hg : (wr.alloc o).grownBy w' (Value.slice At ts.length ct).ownBlock) (hown : w'.ownsRow base 3 1 (.slice A' (ts.length + 1) c') (ts.length + 1) (intsV (Hs.ints ts) ++ [.int .i64 (x : Int)]))
    (hb : (Value.slice A' (ts.length + 1) c').ownBlock = (Value.slice At ts.length ct).ownBlock ∨ (Value.slice A' (ts.length + 1) c').ownBlock = some (wr.heap.size + 1)) : FindSt w w' base gs (ts ++ [x]) Ak ck A' c' := by
  have hsz := hg.size
  have hhi := h.hi
  have hlo := h.lo
  obtain ⟨h1, h2⟩ := apart_app h.ne.symm h.known o hg hb
  refine ⟨h1, ?_, ?_, blk_app h.tested o hg h.res hlo, hlo, by simp at hsz; omega, below_append (h.bel.alloc h.bel.size o) (h.tested.alloc o) hg (by omega) (by simp; omega)⟩
  · rw [Hs.ints_append, intsV_append, List.length_append]; exact hown
  · rw [List.length_append]; exact h2.symm
theorem FindSt.know {w wr w' : World} {base : Nat} {gs ts : List Nat} {Ak At A' : Option Addr} {ck ct c' : Nat} (h : FindSt w wr base gs ts Ak ck At ct) (o : Obj) (x : Nat)
    (hg : (wr.alloc o).grownBy w' (Value.slice Ak gs.length ck).ownBlock) (hown : w'.ownsRow base 3 1 (.slice A' (gs.length + 1) c') (gs.length + 1) (intsV (Hs.ints gs) ++ [.int .i64 (x : Int)]))
    (hb : (Value.slice A' (gs.length + 1) c').ownBlock = (Value.slice Ak gs.length ck).ownBlock ∨ (Value.slice A' (gs.length + 1) c').ownBlock = some (wr.heap.size + 1)) : FindSt w w' base (gs ++ [x]) ts A' c' At ct := by
  have hsz := hg.size
  have hhi := h.hi
  have hlo := h.lo
  obtain ⟨h1, h2⟩ := apart_app h.ne h.tested o hg hb
  refine ⟨?_, h1, ?_, blk_app h.known o hg h.res hlo, hlo, by simp at hsz; omega, below_append (h.bel.alloc h.bel.size o) (h.known.alloc o) hg (by omega) (by simp; omega)⟩
  · rw [Hs.ints_append, intsV_append, List.length_append]; exact hown
  · rw [List.length_append]; exact h2
/-- Where the search stands. -/
structure FindJ (l : List Hs.Cm) (f : Nat → Bool) (gs0 : List Nat) (b0 : Nat) (gs ts : List Nat) (b : Nat) : Prop where
  srch : Hs.Srch l gs b
  glen : gs.length ≤ 60 + ts.length
  tlen : ts.length + (Hs.cand l gs b).length ≤ l.length
  eq : Hs.find l f gs0 b0 = ((Hs.find l f gs b).1, ts ++ (Hs.find l f gs b).2)
theorem FindJ.start {l : List Hs.Cm} {gs0 : List Nat} {b0 : Nat} (f : Nat → Bool) (h : Hs.Srch l gs0 b0) (hl : gs0.length ≤ 60) : FindJ l f gs0 b0 gs0 [] b0 :=
  ⟨h, by simpa using hl, by simpa using Hs.cand_len l gs0 b0, by simp⟩
theorem FindJ.fin {l : List Hs.Cm} {f : Nat → Bool} {gs0 gs ts : List Nat} {b0 b : Nat} (h : FindJ l f gs0 b0 gs ts b) (h1 : (Hs.cand l gs b).length = 1) : Hs.find l f gs0 b0 = (b, ts) := by
  rw [h.eq, h.srch.find_end f h1]; simp
theorem FindJ.left {l : List Hs.Cm} {f : Nat → Bool} {gs0 gs ts : List Nat} {b0 b c : Nat} (h : FindJ l f gs0 b0 gs ts b) (hc : c ∈ Hs.cand l gs b) (hne : c ≠ b) (hn : Hs.nextI l (Hs.cand l gs b) = c) (hf : f c = true) : FindJ l f gs0 b0 gs (ts ++ [c]) c := by
  obtain ⟨_, s1, _⟩ := h.srch.shrink hc hne
  have := h.tlen
  have := h.glen
  exact ⟨h.srch.left hc, by simp; omega, by simp; omega, by rw [h.eq, (h.srch.find_step f hc hne hn).1 hf]; simp⟩
theorem FindJ.right {l : List Hs.Cm} {f : Nat → Bool} {gs0 gs ts : List Nat} {b0 b c : Nat} (h : FindJ l f gs0 b0 gs ts b) (hc : c ∈ Hs.cand l gs b) (hne : c ≠ b) (hn : Hs.nextI l (Hs.cand l gs b) = c) (hf : f c = false) : FindJ l f gs0 b0 (gs ++ [c]) (ts ++ [c]) b := by
  obtain ⟨_, _, _, s2, _⟩ := h.srch.shrink hc hne
  have := h.tlen
  have := h.glen
  exact ⟨h.srch.right hc hne, by simp; omega, by simp; omega, by rw [h.eq, (h.srch.find_step f hc hne hn).2 hf]; simp⟩
theorem brk_eq (broken : List Bool) (i : Nat) (h : i < broken.length) : broken[i] = brk broken i := by unfold brk; rw [List.getElem?_eq_getElem h]; rfl

set_option maxRecDepth 100000 in
set_option maxHeartbeats 8000000 in
theorem find_any (w : World) (A A2 A3 : Option Addr) (k k2 k3 : Nat) (l : List Hs.Cm) (good : List Int) (bad : Int) (broken : List Bool) (hv : CV w A l) (hl : l.length ≤ 9223372036854775807) (hv2 : IV w A2 good) (hi64 : ∀ (j : Nat) (h : j < good.length), I64 good[j]) (hl2 : good.length ≤ 9223372036854775807)
    (hv3 : BV w A3 broken) (hl3 : broken.length ≤ 9223372036854775807) :
    Calls Try.prog 40 #[.slice A l.length k, .slice A2 good.length k2, .int .i64 bad, .slice A3 broken.length k3] w (FRes w (findRes l good bad broken)) := by
  obtain ⟨i0, hi0, hz0, hz1, hz2⟩ := info_parts info3
  have HC := Lib.hid (fun w1 h h2 => bcheck_any w1 A A2 k k2 l good bad h hl h2 hi64 hl2)
  have HR := Lib.hid (show findRes l good bad broken = if (bcheck l good bad).1 ≠ 0 then (0, ([], bcheck l good bad)) else if broken.length ≠ l.length then (0, ([], (9, -1))) else (((Hs.find l (brk broken) (Hs.nats good) bad.toNat).1 : Int), (Hs.ints (Hs.find l (brk broken) (Hs.nats good) bad.toNat).2, (0, 0))) from rfl)
  have HM := Lib.hid (bcheck_cases l good bad)
  go_enter Try.func40, Try.ntmps40
  go_wp2_with fail
  go_at_call 56
  refine (HC.out _ (hv.alloc _) (hv2.alloc _)).mono ?_
  rintro e w1 ⟨rfl, hb1⟩
  have hblk := (Blk.new w 26 #[.int .i64 0, .int .i64 0]).below hb1 (by simp)
  have hbel := (below_alloc1 w (.cells #[.int .i64 0, .int .i64 0] 26)).trans (hb1.mono (by simp))
  have hsz := hbel.size
  have hlt := hblk.lt
  have hc0 := hblk.cell 0
  have hc1 := hblk.cell 1
  have hf0 := hblk.frozen 0
  have hf1 := hblk.frozen 1
  simp only [List.getElem?_toArray, List.getElem?_cons_zero, List.getElem?_cons_succ] at hc0 hc1
  clear hb1 HC
  rcases HM.out with hbad | ⟨he, gs, b, rfl, rfl, hs, hgl⟩
  · have H := Lib.hid (HR.out.trans (if_pos hbad))
    have h1 : ((bcheck l good bad).1 == 0) = false := by simpa using hbad
    have h2 : ((bcheck l good bad).1 != 0) = true := by simpa using hbad
    clear hbad HM HR
    generalize bcheck l good bad = r at *
    obtain ⟨c, i⟩ := r
    simp only at h1 h2
    go_wp2_with fail
    go_region
    all_goals
      go_wp2_with fail
      refine bodyPost_ret (results_ttc rfl _ _ w.heap.size (.int .i64 c) (.int .i64 i) rfl (((blk_put26 hblk _ _).alloc _).drewN 1)) rfl ?_
      rw [H.out]
      exact ⟨none, 0, rfl, Nat.le_refl _, SV.nil, below_drewN (((hbel.setCell (by simp) _).setCell (by simp) _).alloc (by simp; omega) _) 1⟩
  · have H1 := Lib.hid (show findRes l (Hs.ints gs) b broken = if broken.length ≠ l.length then (0, ([], (9, -1))) else (((Hs.find l (brk broken) gs b).1 : Int), (Hs.ints (Hs.find l (brk broken) gs b).2, (0, 0))) from by rw [HR.out, he, nats_ints']; rfl)
    have hok60 := hs.ok.len
    clear HM HR
    rw [he]
    by_cases hbl : broken.length = l.length
    · have H2 := Lib.hid (H1.out.trans (if_neg (by simpa using hbl)))
      have hbl1 : ((broken.length : Int) == l.length) = true := by simp; omega
      have hbl2 : ((broken.length : Int) != l.length) = false := by simp; omega
      have hbl3 : (broken.length == l.length) = true := by simpa using hbl
      have HBL := Lib.hid hbl
      have hlen := Hs.ints_length gs
      rw [hlen] at hl2 ⊢
      have hsvg : SV w w.heap.size A2 (intsV (Hs.ints gs)) := hv2
      have hbel1 := hbel.alloc hsz (.cells #[.int .i64 0, .int .i64 0] 26)
      have hsv1 : SV (w1.alloc (.cells #[.int .i64 0, .int .i64 0] 26)) w.heap.size A2 (intsV (Hs.ints gs)) := hsvg.below hbel1 (Nat.le_refl _)
      have HS := Lib.hid hs
      have hJ := FindJ.start (brk broken) hs hgl
      clear H1 hbl he hs hlen hi64 hv2 hsvg
      go_wp2_with (first | (at_builtin; refine wpList_appN _ rfl (.const (.slice none 0 0)) (.tmp 30) 37 rfl (w1.heap.size + 1) 3 i0 (.int .i64 0) 1 8 Try.underlying37 hi0 hz0 hz1 hz2 rfl (by decide) none 0 0 [] rfl (World.ownsRow_nil _ _ _ _) _ A2 gs.length k2 (intsV (Hs.ints gs)) rfl ?ha hsv1 (intsV_one _) ?hb ?hc ?hd ?_))
      case ha => simp
      case hb => simp [maxLen]; omega
      case hc => omega
      case hd => simp
      intro A4 c4 w2 hown2 hg2 _
      have st0 : FindSt w w2 (w1.heap.size + 1) gs [] A4 c4 none 0 :=
        ⟨hown2, World.ownsRow_nil _ _ _ _, apart_nil _ _, (hblk.alloc _).grown hg2 (by simp [Value.ownBlock]), by omega, by have := hg2.size; simpa using this, hbel1.grown hg2 hbel1.size (fun k hk => by simp [Value.ownBlock] at hk)⟩
      clear hown2 hg2 hbel hblk hc0 hc1 hf0 hf1 hbel1 hsv1
      go_wp2_with fail
      go_loopw [2, 12, 13] (fun bv kv tv wr => ∃ (gs1 ts : List Nat) (b1 : Nat) (Ak At : Option Addr) (ck ct : Nat), bv = .int .i64 b1 ∧ kv = .slice Ak gs1.length ck ∧ tv = .slice At ts.length ct ∧ FindJ l (brk broken) gs b gs1 ts b1 ∧ FindSt w wr (w1.heap.size + 1) gs1 ts Ak ck At ct) (fun _ _ tv _ => match tv with | .slice _ n _ => l.length - n | _ => 0)
      case atStart => exact ⟨gs, [], b, A4, none, c4, 0, rfl, rfl, rfl, hJ, st0⟩
      case round =>
        obtain ⟨gs1, ts, b1, Ak, At, ck, ct, rfl, rfl, rfl, J, st⟩ := hrel
        obtain ⟨wo, rfl⟩ : ∃ wo : World, wo = wr := ⟨_, rfl⟩
        clear st0 hJ
        have JS := J.srch
        have hgl1 := J.glen
        have htl1 := J.tlen
        have hcp := JS.pos
        have HCALL := Lib.hid (cand_any wo A Ak k ck l gs1 b1 (hv.below st.bel) JS.ok (SV.of_own st.known) JS.hgood JS.hbad (by omega))
        have HCLT := Lib.hid (Hs.cand_lt l gs1 b1)
        have HN := Lib.hid (fun w3 A3 c3 h h3 => next_any w3 A A3 k c3 l (Hs.cand l gs1 b1) h JS.ok h3 HCLT.out (by omega))
        have HONE := Lib.hid (fun h => And.intro (JS.one h) (JS.next_one h))
        have HTWO := Lib.hid (fun h => JS.next h)
        have HFIN := Lib.hid (fun h => J.fin h)
        have HLEFT := Lib.hid (fun c h1 h2 h3 h4 => J.left (c := c) h1 h2 h3 h4)
        have HRIGHT := Lib.hid (fun c h1 h2 h3 h4 => J.right (c := c) h1 h2 h3 h4)
        clear J JS
        go_wp2_with fail
        go_at_call 57
        refine HCALL.out.mono ?_
        generalize Hs.cand l gs1 b1 = cs at *
        rintro e w3 ⟨A5, c5, rfl, hc5, hv5, hfr5, hb3⟩
        have st1 := st.below hb3
        have HNC := Lib.hid (HN.out w3 A5 c5 (hv.below st1.bel) hv5)
        simp only [Hs.ints_length]
        clear st hb3 hfr5 HN HCALL
        go_wp2_with fail
        go_at_call 58
        by_cases hone : cs.length = 1
        · obtain ⟨hcs, hnx, _⟩ := HONE.out hone
          have HFE := Lib.hid (HFIN.out hone)
          rw [hnx] at HNC
          refine HNC.out.mono ?_
          rintro e w4 ⟨rfl, hb4⟩
          have st2 := st1.below hb4
          have hv6 := hv5.below hb4
          subst hcs
          obtain ⟨b9, off9, e9, hb9, hc9⟩ := hv6.at_ 0 (by simp)
          subst e9
          simp [Hs.ints] at hc9
          have d0 := st2.res.cell 0
          have d1 := st2.res.cell 1
          have e0 := st2.res.frozen 0
          have e1 := st2.res.frozen 1
          have hlt2 := st2.res.lt
          have hlo := st2.lo
          simp only [List.getElem?_toArray, List.getElem?_cons_zero, List.getElem?_cons_succ] at d0 d1
          have H3 := Lib.hid (show findRes l (Hs.ints gs) b broken = ((b1 : Int), (Hs.ints ts, (0, 0))) from by rw [H2.out, HFE.out])
          clear HONE HTWO HFIN HLEFT HRIGHT HNC hnx HCLT hone H2 HFE hb4 hv5 hv6
          simp only [List.length_cons, List.length_nil]
          go_wp2_with fail
          refine bodyPost_ret (results_ttc rfl _ _ w.heap.size (.int .i64 0) (.int .i64 0) rfl (blk_put26 st2.res _ _)) rfl ?_
          rw [H3.out]
          obtain ⟨A6, c6, e6, hcc, _⟩ := own_form st2.tested
          injection e6 with _ _ e6
          subst e6
          exact ⟨At, ct, by rw [Hs.ints_length]; rfl, by rw [Hs.ints_length]; exact hcc, SV.of_own (own_far (own_far st2.tested (p := ⟨w.heap.size, 0, none⟩) (by simp; omega) (.int .i64 0)) (p := ⟨w.heap.size, 1, none⟩) (by simp; omega) (.int .i64 0)), (st2.bel.setCell (by simp) _).setCell (by simp) _⟩
        · obtain ⟨c, hcc, hne, hnx, _, _⟩ := HTWO.out hone
          have hcl := HCLT.out c hcc
          rw [hnx] at HNC
          have HL := Lib.hid (HLEFT.out c hcc hne hnx)
          have HRI := Lib.hid (HRIGHT.out c hcc hne hnx)
          refine HNC.out.mono ?_
          rintro e w4 ⟨rfl, hb4⟩
          have st2 := st1.below hb4
          have hsz4 := st2.bel.size
          have hhi4 := st2.hi
          have hlt1 : ts.length + 1 ≤ 60 := by omega
          clear HONE HTWO HFIN HLEFT HRIGHT HNC hnx HCLT hone hcc hne st1 hb4 hv5 hc5
          go_wp2_with (first | (at_builtin; refine wpList_app1o _ rfl (.tmp 46) (.tmp 48) 37 rfl (w1.heap.size + 1) 3 i0 (.int .i64 0) 8 Try.underlying37 hi0 hz0 hz1 hz2 rfl At _ ct _ rfl (st2.tested.alloc _) w4.heap.size _ (.int .i64 (c : Int)) rfl (by simp [World.cell?_alloc_new]) rfl ?ha ?hb ?hc ?_))
          case ha => simp [maxLen]; omega
          case hb => omega
          case hc => simp; omega
          intro A6 c6 w5 hown5 hg5 _ hob5
          have st5 := st2.test _ c hg5 hown5 hob5
          have hlts : (ts ++ [c]).length = ts.length + 1 := by simp
          have HLTS := Lib.hid hlts
          have hci := hv3.atIn st5.bel c (by rw [HBL.out]; exact hcl)
          rw [brk_eq] at hci
          obtain ⟨b9, off9, e9, hb9, hc9⟩ := hci
          subst e9
          have hcb : (c : Int) < broken.length := by have := HBL.out; omega
          clear hown5 hg5 hob5 st2 hlts
          have HBR : Hid (brk broken c = true → _) := HL
          generalize hbv : brk broken c = v at *
          have HBV := Lib.hid hbv
          clear hbv
          cases v
          · have J2 := HRI.out rfl
            have hsz5 := st5.bel.size
            have hhi5 := st5.hi
            clear HBR HL HRI
            go_wp2_with (first | (at_builtin; refine wpList_app1o _ rfl (.tmp 55) (.tmp 57) 37 rfl (w1.heap.size + 1) 3 i0 (.int .i64 0) 8 Try.underlying37 hi0 hz0 hz1 hz2 rfl Ak _ ck _ rfl (st5.known.alloc _) w5.heap.size _ (.int .i64 (c : Int)) rfl (by simp [World.cell?_alloc_new]) rfl ?ha2 ?hb2 ?hc2 ?_))
            case ha2 => simp [maxLen]; omega
            case hb2 => omega
            case hc2 => simp; omega
            intro A7 c7 w6 hown6 hg6 _ hob6
            have st6 := st5.know _ c hg6 hown6 hob6
            clear hown6 hg6 hob6 st5
            go_wp2_with fail
            go_roundw
            case rel => exact ⟨gs1 ++ [c], ts ++ [c], b1, A7, A6, c7, c6, rfl, by simp, by simp, J2, st6⟩
            case measure => simp; omega
          · have J2 := HL.out rfl
            clear HBR HL HRI
            go_wp2_with fail
            go_roundw
            case rel => exact ⟨gs1, ts ++ [c], c, Ak, A6, ck, c6, rfl, rfl, by simp, J2, st5⟩
            case measure => simp; omega
    · have H2 := Lib.hid (H1.out.trans (if_pos hbl))
      have hbl1 : ((broken.length : Int) == l.length) = false := by simp; omega
      have hbl2 : ((broken.length : Int) != l.length) = true := by simp; omega
      have hbl3 : (broken.length == l.length) = false := by simpa using hbl
      clear H1 hbl he hs hi64 hv2
      go_wp2_with fail
      refine bodyPost_ret (results_ttc rfl _ _ w.heap.size (.int .i64 9) (.int .i64 (-1)) rfl ((blk_put26 hblk _ _).alloc _)) rfl ?_
      rw [H2.out]
      exact ⟨none, 0, rfl, Nat.le_refl _, SV.nil, ((hbel.setCell (by simp) _).setCell (by simp) _).alloc (by simp; omega) _⟩
end Go.Proofs.Ytoohmkdgimkgoaa
