/-
  Histories: walk of the reference's 'FindOf'.
-/
import Derived.Test.YtoohmkdgimkgoaaW31
import Derived.Test.YtoohmkdgimkgoaaW28
namespace Go.Proofs.Ytoohmkdgimkgoaa
open Go.RowKit Go.V
set_option linter.unusedVariables false

structure FrSt (w wr : World) (gs ts : List Nat) (Ak : Option Addr) (ck : Nat) (At : Option Addr) (ct : Nat) : Prop where
  known : wr.ownsRow w.heap.size 3 1 (.slice Ak gs.length ck) gs.length (intsV (Hs.ints gs))
  tested : wr.ownsRow w.heap.size 3 1 (.slice At ts.length ct) ts.length (intsV (Hs.ints ts))
  ne : Apart (.slice Ak gs.length ck) (.slice At ts.length ct)
  bel : Below w.heap.size w wr
theorem FrSt.below {w wr w' : World} {gs ts : List Nat} {Ak At : Option Addr} {ck ct : Nat} (h : FrSt w wr gs ts Ak ck At ct) (hb : Below wr.heap.size wr w') : FrSt w w' gs ts Ak ck At ct :=
  ⟨own_below (B := 0) h.known hb, own_below (B := 0) h.tested hb, h.ne, h.bel.trans (hb.mono h.bel.size)⟩
theorem FrSt.test {w wr w' : World} {gs ts : List Nat} {Ak At A' : Option Addr} {ck ct c' : Nat} (h : FrSt w wr gs ts Ak ck At ct) (o : Obj) (x : Nat)
    (hg : (wr.alloc o).grownBy w' (Value.slice At ts.length ct).ownBlock) (hown : w'.ownsRow w.heap.size 3 1 (.slice A' (ts.length + 1) c') (ts.length + 1) (intsV (Hs.ints ts) ++ [.int .i64 (x : Int)]))
    (hb : (Value.slice A' (ts.length + 1) c').ownBlock = (Value.slice At ts.length ct).ownBlock ∨ (Value.slice A' (ts.length + 1) c').ownBlock = some (wr.heap.size + 1)) : FrSt w w' gs (ts ++ [x]) Ak ck A' c' := by
  obtain ⟨h1, h2⟩ := apart_app h.ne.symm h.known o hg hb
  refine ⟨h1, ?_, ?_, below_append (h.bel.alloc h.bel.size o) (h.tested.alloc o) hg (Nat.le_refl _) (by have := h.bel.size; simp; omega)⟩
  · rw [Hs.ints_append, intsV_append, List.length_append]; exact hown
  · rw [List.length_append]; exact h2.symm
theorem FrSt.know {w wr w' : World} {gs ts : List Nat} {Ak At A' : Option Addr} {ck ct c' : Nat} (h : FrSt w wr gs ts Ak ck At ct) (o : Obj) (x : Nat)
    (hg : (wr.alloc o).grownBy w' (Value.slice Ak gs.length ck).ownBlock) (hown : w'.ownsRow w.heap.size 3 1 (.slice A' (gs.length + 1) c') (gs.length + 1) (intsV (Hs.ints gs) ++ [.int .i64 (x : Int)]))
    (hb : (Value.slice A' (gs.length + 1) c').ownBlock = (Value.slice Ak gs.length ck).ownBlock ∨ (Value.slice A' (gs.length + 1) c').ownBlock = some (wr.heap.size + 1)) : FrSt w w' (gs ++ [x]) ts A' c' At ct := by
  obtain ⟨h1, h2⟩ := apart_app h.ne h.tested o hg hb
  refine ⟨?_, h1, ?_, below_append (h.bel.alloc h.bel.size o) (h.known.alloc o) hg (Nat.le_refl _) (by have := h.bel.size; simp; omega)⟩
  · rw [Hs.ints_append, intsV_append, List.length_append]; exact hown
  · rw [List.length_append]; exact h2
/-- A number and numbers. -/
def FrRes (w : World) (r : Nat × List Nat) (e : Ending) (w' : World) : Prop :=
  ∃ A c, e = .returned (.tuple #[.int .i64 (r.1 : Int), .slice A r.2.length c]) ∧ r.2.length ≤ c ∧ IV w' A (Hs.ints r.2) ∧ Below w.heap.size w w'

set_option maxRecDepth 100000 in
set_option maxHeartbeats 8000000 in
theorem findOf_any (w : World) (A A2 A3 : Option Addr) (k k2 k3 : Nat) (l : List Hs.Cm) (gs : List Nat) (b : Nat) (broken : List Bool) (hv : CV w A l) (hs : Hs.Srch l gs b) (hgl : gs.length ≤ 60) (hv2 : IV w A2 (Hs.ints gs)) (hv3 : BV w A3 broken) (hbl : broken.length = l.length) :
    Calls Try.prog 44 #[.slice A l.length k, .slice A2 gs.length k2, .int .i64 (b : Int), .slice A3 broken.length k3] w (FrRes w (Hs.find l (brk broken) gs b)) := by
  obtain ⟨i0, hi0, hz0, hz1, hz2⟩ := info_parts info3
  have hok60 := hs.ok.len
  have HBL := Lib.hid hbl
  have hJ := FindJ.start (brk broken) hs hgl
  have hsvg : SV w w.heap.size A2 (intsV (Hs.ints gs)) := hv2
  clear hbl hv2
  go_enter Try.func44, Try.ntmps44
  go_wp2_with (first | (at_builtin; refine wpList_appN _ rfl (.const (.slice none 0 0)) (.tmp 13) 37 rfl w.heap.size 3 i0 (.int .i64 0) 1 8 Try.underlying37 hi0 hz0 hz1 hz2 rfl (by decide) none 0 0 [] rfl (World.ownsRow_nil _ _ _ _) _ A2 gs.length k2 (intsV (Hs.ints gs)) rfl ?ha hsvg (intsV_one _) ?hb ?hc ?hd ?_))
  case ha => simp
  case hb => simp [maxLen]; omega
  case hc => omega
  case hd => exact Nat.le_refl _
  intro A4 c4 w2 hown2 hg2 _
  have st0 : FrSt w w2 gs [] A4 c4 none 0 :=
    ⟨hown2, World.ownsRow_nil _ _ _ _, apart_nil _ _, (Below.refl _ _).grown hg2 (Nat.le_refl _) (fun k hk => by simp [Value.ownBlock] at hk)⟩
  have HN0 := Lib.hid (nextOf_any w2 A A4 k c4 l gs b (hv.below st0.bel) hs.ok (SV.of_own st0.known) hs.hgood hs.hbad (by omega))
  clear hown2 hg2 hsvg hs
  go_wp2_with fail
  go_at_call 43
  refine HN0.out.mono ?_
  rintro e w3 ⟨rfl, hb3⟩
  have st1 := st0.below hb3
  clear st0 HN0 hb3
  go_wp2_with fail
  go_loopw [2, 10, 11, 12] (fun bv tv kv nv wr => ∃ (gs1 ts : List Nat) (b1 : Nat) (Ak At : Option Addr) (ck ct : Nat), bv = .int .i64 b1 ∧ kv = .slice Ak gs1.length ck ∧ tv = .slice At ts.length ct ∧ nv = .int .i64 (Hs.rxAt l (Hs.cand l gs1 b1) 0).1 ∧ FindJ l (brk broken) gs b gs1 ts b1 ∧ FrSt w wr gs1 ts Ak ck At ct) (fun _ tv _ _ _ => match tv with | .slice _ n _ => l.length - n | _ => 0)
  case atStart => exact ⟨gs, [], b, A4, none, c4, 0, rfl, rfl, rfl, rfl, hJ, st1⟩
  case round =>
    obtain ⟨gs1, ts, b1, Ak, At, ck, ct, rfl, rfl, rfl, rfl, J, st⟩ := hrel
    obtain ⟨wo, rfl⟩ : ∃ wo : World, wo = wr := ⟨_, rfl⟩
    clear st1 hJ
    have JS := J.srch
    have hgl1 := J.glen
    have htl1 := J.tlen
    have hcp := JS.pos
    by_cases hone : (Hs.cand l gs1 b1).length = 1
    · obtain ⟨_, hnx⟩ := JS.next_one hone
      have HFE := Lib.hid (J.fin hone)
      rw [hnx]
      clear J JS hone hnx htl1 hcp
      go_wp2_with fail
      go_ret2
      rw [HFE.out]
      obtain ⟨A6, c6, e6, hcc, _⟩ := own_form st.tested
      injection e6 with _ _ e6
      subst e6
      exact ⟨At, ct, rfl, hcc, SV.of_own st.tested, st.bel⟩
    · obtain ⟨c, hcc, hne, hnx, hrx, _⟩ := JS.next hone
      have hcl := Hs.cand_lt _ _ _ c hcc
      have HL := Lib.hid (fun h => J.left (c := c) hcc hne hnx h)
      have HRI := Lib.hid (fun h => J.right (c := c) hcc hne hnx h)
      have hsz4 := st.bel.size
      have hlt1 : ts.length + 1 ≤ 60 := by omega
      have hlt2 : ts.length < l.length := by omega
      rw [hrx]
      clear J JS hone hcc hne hnx hrx hcp htl1
      go_wp2_with (first | (at_builtin; refine wpList_app1o _ rfl (.tmp 25) (.tmp 27) 37 rfl w.heap.size 3 i0 (.int .i64 0) 8 Try.underlying37 hi0 hz0 hz1 hz2 rfl At _ ct _ rfl (st.tested.alloc _) wo.heap.size _ (.int .i64 (c : Int)) rfl (by simp [World.cell?_alloc_new]) rfl ?ha ?hb ?hc ?_))
      case ha => simp [maxLen]; omega
      case hb => omega
      case hc => simp; omega
      intro A6 c6 w5 hown5 hg5 _ hob5
      have st5 := st.test _ c hg5 hown5 hob5
      have HLTS := Lib.hid (show (ts ++ [c]).length = ts.length + 1 by simp)
      have hci := hv3.atIn st5.bel c (by rw [HBL.out]; exact hcl)
      rw [brk_eq] at hci
      obtain ⟨b9, off9, e9, hb9, hc9⟩ := hci
      subst e9
      have hcb : (c : Int) < broken.length := by have := HBL.out; omega
      clear hown5 hg5 hob5 st
      generalize brk broken c = v at *
      cases v
      · have J2 := HRI.out rfl
        have hsz5 := st5.bel.size
        clear HL HRI
        go_wp2_with (first | (at_builtin; refine wpList_app1o _ rfl (.tmp 34) (.tmp 36) 37 rfl w.heap.size 3 i0 (.int .i64 0) 8 Try.underlying37 hi0 hz0 hz1 hz2 rfl Ak _ ck _ rfl (st5.known.alloc _) w5.heap.size _ (.int .i64 (c : Int)) rfl (by simp [World.cell?_alloc_new]) rfl ?ha2 ?hb2 ?hc2 ?_))
        case ha2 => simp [maxLen]; omega
        case hb2 => omega
        case hc2 => simp; omega
        intro A7 c7 w6 hown6 hg6 _ hob6
        have st6 := st5.know _ c hg6 hown6 hob6
        have JS2 := J2.srch
        have hgl2 := J2.glen
        have HLGS := Lib.hid (show (gs1 ++ [c]).length = gs1.length + 1 by simp)
        have hn0 := nextOf_any w6 A A7 k c7 l (gs1 ++ [c]) b1 (hv.below st6.bel) JS2.ok (SV.of_own st6.known) JS2.hgood JS2.hbad (by simp; omega)
        rw [HLGS.out] at hn0
        have HN := Lib.hid hn0
        clear hown6 hg6 hob6 st5 JS2 hn0
        go_wp2_with fail
        go_at_call 43
        refine HN.out.mono ?_
        rintro e w7 ⟨rfl, hb7⟩
        have st7 := st6.below hb7
        go_wp2_with fail
        go_roundw
        case rel => exact ⟨gs1 ++ [c], ts ++ [c], b1, A7, A6, c7, c6, rfl, by rw [HLGS.out], by rw [HLTS.out], rfl, J2, st7⟩
        case measure => simp; omega
      · have J2 := HL.out rfl
        have JS2 := J2.srch
        have hgl2 := J2.glen
        have HN := Lib.hid (nextOf_any w5 A Ak k ck l gs1 c (hv.below st5.bel) JS2.ok (SV.of_own st5.known) JS2.hgood JS2.hbad (by omega))
        clear HL HRI JS2
        go_wp2_with fail
        go_at_call 43
        refine HN.out.mono ?_
        rintro e w7 ⟨rfl, hb7⟩
        have st7 := st5.below hb7
        go_wp2_with fail
        go_roundw
        case rel => exact ⟨gs1, ts ++ [c], c, Ak, A6, ck, c6, rfl, rfl, by rw [HLTS.out], rfl, J2, st7⟩
        case measure => simp; omega
end Go.Proofs.Ytoohmkdgimkgoaa
