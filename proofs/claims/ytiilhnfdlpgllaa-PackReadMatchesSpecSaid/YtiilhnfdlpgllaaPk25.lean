/-
  Packs: walk of the reference's 'PackIndex'.
-/
import Derived.Test.YtiilhnfdlpgllaaPk23
namespace Go.Proofs.Ytiilhnfdlpgllaa
open Go.RowKit Go.V
set_option linter.unusedVariables false

theorem StV.take {w : World} {X : Nat → Prop} {A : Option Addr} {s : List Ob.S} (h : StV w X A s) (i : Nat) : StV w X A (s.take i) := by
  obtain ⟨vs, h1, h2⟩ := h
  exact ⟨vs.take (i * 4), h1.take (i * 4), (RowsR.take StR.len h2 i).1⟩
theorem packB_take (s : List Ob.S) (i : Nat) (hi : i ≤ s.length) : (packB (s.take i)).length = 3 + (ents s i).length + 8 := by
  rw [packB_length]
  unfold body hd3
  have e : ents (s.take i) (s.take i).length = ents s i := by unfold ents; rw [List.take_length]
  rw [e]; simp; omega
theorem it_take (s : List Ob.S) (i j : Nat) (h : j < i) : Ob.it (s.take i) j = Ob.it s j := by unfold Ob.it; rw [List.getElem?_take_of_lt h]
/-- The state of the loop of 'PackIndex'. -/
structure PiSt (w wr : World) (A : Option Addr) (n k : Nat) (s : List Ob.S) (i : Nat) (Ai : Option Addr) (ci : Nat) : Prop where
  bx : Blk wr w.heap.size 24 #[.slice A n k]
  oi : wr.ownsRow (w.heap.size + 1) 48 3 (.slice Ai i ci) i (ixV (ixL s i))
  bel : Below w.heap.size w wr
theorem PiSt.below {w wr w' : World} {A : Option Addr} {n k : Nat} {s : List Ob.S} {i : Nat} {Ai : Option Addr} {ci : Nat} (h : PiSt w wr A n k s i Ai ci) (hb : Below wr.heap.size wr w') : PiSt w w' A n k s i Ai ci :=
  ⟨h.bx.below hb h.bx.lt, h.oi.kept (only_of_below hb none) (by cases hv : (Value.slice Ai i ci).ownBlock <;> simp), h.bel.trans (hb.mono h.bel.size)⟩
theorem PiSt.app {w wr : World} {A : Option Addr} {n k : Nat} {s : List Ob.S} {i : Nat} {Ai : Option Addr} {ci : Nat} (h : PiSt w wr A n k s i Ai ci) {o0 : Obj} {w4 : World} {A4 : Option Addr} {c4 : Nat}
    (hg : (wr.alloc o0).grownBy w4 (Value.slice Ai i ci).ownBlock)
    (hown : w4.ownsRow (w.heap.size + 1) 48 3 (.slice A4 (i + 1) c4) (i + 1) (ixV (ixL s i) ++ [.int .i64 ((Ob.dig (Ob.it s i).ob : Nat) : Int), .int .i64 ((3 + (ents s i).length : Nat) : Int), .int .i64 (((Ob.ent (Ob.it s i).ob).length : Nat) : Int)])) : PiSt w w4 A n k s (i + 1) A4 c4 := by
  refine ⟨(h.bx.alloc o0).grown hg (fun e => by have := (h.oi.lt _ e.symm).1; omega), ?_, ?_⟩
  · rw [ixL_succ, ixV_app]; exact hown
  · exact (h.bel.alloc h.bel.size o0).grown hg (by have := h.bel.size; simp; omega) (fun b hb => by have := (h.oi.lt b hb).1; omega)
/-- What 'PackIndex' answers. -/
def PxPost (w : World) (s : List Ob.S) (e : Ending) (w' : World) : Prop := ∃ A' c', e = .returned (.slice A' s.length c') ∧ SA w' (Under w.heap.size) A' (ixV (ixL s s.length)) ∧ Below w.heap.size w w'
set_option maxRecDepth 100000 in
set_option maxHeartbeats 4000000 in
theorem packIndex_any (w : World) (A : Option Addr) (k : Nat) (s : List Ob.S) (hv : StV w Free A s) (hs : Ob.StOk s) (hk : s.length ≤ k) :
    Calls Try.prog 26 #[stV A s.length k] w (PxPost w s) := by
  obtain ⟨j0, hJ0, hY0, hY1, hY2⟩ := info_parts info48
  have hl40 := hs.len
  have HV := Lib.hid (fun (w1 : World) (hb : Below w.heap.size w w1) => hv.keep (free_below hb))
  have HPB : Hid (∀ (w1 : World) (i : Nat), Below w.heap.size w w1 → i ≤ s.length → Calls Try.prog 17 #[.agg #[.slice A i k]] w1 fun e w' => ∃ A3 c3, e = .returned (.slice A3 (3 + (ents s i).length + 8) c3) ∧ Below w1.heap.size w1 w') := Lib.hid fun w1 i hb hi => by
    have h := packBytes_any w1 A k (s.take i) ((HV.out w1 hb).take i) (by simp; omega) (fun j hj => by rw [it_take s i j (by simp at hj; omega)]; exact hs.ok j (by simp at hj; omega))
    have e : (s.take i).length = i := by simp; omega
    rw [stV, e] at h
    exact h.mono fun e w' ⟨A3, c3, h1, _, _, h2⟩ => ⟨A3, c3, by rw [h1, packB_take s i hi], h2⟩
  have HEQ := Lib.hid hs.eq
  have HEL := Lib.hid (ents_le s hs.ok)
  have HES := Lib.hid (fun i hi => by have h := congrArg List.length (ents_succ s i hi); rwa [List.length_append] at h)
  have st0 : PiSt w (w.alloc (.cells #[.slice A s.length k] 24)) A s.length k s 0 none 0 := ⟨Blk.new _ _ _, World.ownsRow_nil _ _ _ _, below_alloc1 _ _⟩
  clear hv hs
  go_enter Try.func26, Try.ntmps26
  go_wp2_with fail
  go_loopw [3, 4] (fun xv iv wr => ∃ (i : Nat) (Ai : Option Addr) (ci : Nat), i ≤ s.length ∧ xv = .slice Ai i ci ∧ iv = .int .i64 i ∧ PiSt w wr A s.length k s i Ai ci) (fun _ iv _ => s.length - (intOf iv).toNat)
  case atStart => exact ⟨0, none, 0, Nat.zero_le _, rfl, rfl, st0⟩
  case round =>
    obtain ⟨i, Ai, ci, hi, rfl, rfl, st⟩ := hrel
    obtain ⟨wo, rfl⟩ : ∃ wo : World, wo = wr := ⟨_, rfl⟩
    clear st0
    have hsz := st.bel.size
    have x1 := st.bx.lt
    by_cases hlt : i < s.length
    · have hlt' : (i : Int) < s.length := by omega
      obtain ⟨ba, off, Al, kl, Ad, kd, e, hb, _, d0, d1, d2, d3, hx, hob⟩ := (HV.out _ (Below.refl _ _)).row i hlt
      subst e
      have heq := HEQ.out i hlt
      have HNX := Lib.hid (HES.out i hlt)
      have hle := HEL.out (i + 1) (by omega)
      have hle2 : (i + 1) * 1244 ≤ 41 * 1244 := Nat.mul_le_mul_right _ (by omega)
      have H1 := Lib.hid (fun (w1 : World) (hb : Below w.heap.size w w1) => HPB.out w1 i hb hi)
      have H2 := Lib.hid (fun (w1 : World) (hb : Below w.heap.size w w1) => HPB.out w1 (i + 1) hb hlt)
      have hpq : 3 + (ents s (i + 1)).length = 3 + (ents s i).length + (Ob.ent (Ob.it s i).ob).length := by rw [HNX.out]; omega
      have HAPP : Hid (∀ (o0 : Obj) (w1 w4 : World) (A4 : Option Addr) (c4 : Nat), PiSt w w1 (some ⟨ba, off, none⟩) s.length k s i Ai ci → (w1.alloc o0).grownBy w4 (Value.slice Ai i ci).ownBlock →
          w4.ownsRow (w.heap.size + 1) 48 3 (.slice A4 (i + 1) c4) (i + 1) (ixV (ixL s i) ++ [.int .i64 ((Ob.dig (Ob.it s i).ob : Nat) : Int), .int .i64 ((3 + (ents s i).length : Nat) : Int), .int .i64 (((Ob.ent (Ob.it s i).ob).length : Nat) : Int)]) →
          PiSt w w4 (some ⟨ba, off, none⟩) s.length k s (i + 1) A4 c4) := Lib.hid fun o0 w1 w4 A4 c4 st hg hown => st.app hg hown
      clear hob HEQ HES HEL HPB HNX hx d1 d2 d3
      generalize hq : 3 + (ents s (i + 1)).length = q at *
      generalize hp : 3 + (ents s i).length = p at *
      have HE3 : Hid ((((Ob.ent (Ob.it s i).ob).length : Nat) : Int) = (q : Int) - p) := Lib.hid (by omega)
      have hpq2 : p ≤ q := by omega
      have hq5 : q ≤ 60000 := by omega
      have HDE := Lib.hid heq
      clear hq hp hpq heq hle hle2
      obtain ⟨dg, hdg⟩ : ∃ dg, dg = (Ob.it s i).dig := ⟨_, rfl⟩
      rw [← hdg] at d0
      have HDG := Lib.hid hdg
      clear hdg
      have x0 := (st.bx.cell 0).trans (rfl : _ = some (Value.slice (some ⟨ba, off, none⟩) s.length k))
      have u0 : (0 : Int) ≤ i := by omega
      have u1 : (i : Int) ≤ k := by omega
      have u2 : (i : Int) + 1 ≤ k := by omega
      have u3 : ((i : Int) + 1).toNat = i + 1 := by omega
      have u4 : (0 : Int) ≤ (i : Int) + 1 := by omega
      go_wp2_with fail
      go_at_call 17
      refine (H1.out _ st.bel).mono ?_
      rintro e w2 ⟨A3, c3, rfl, hb2⟩
      have st2 := st.below hb2
      have x0 := (st2.bx.cell 0).trans (rfl : _ = some (Value.slice (some ⟨ba, off, none⟩) s.length k))
      have x1 := st2.bx.lt
      clear hb2 H1 st
      go_wp2_with fail
      go_at_call 17
      refine (H2.out _ st2.bel).mono ?_
      rintro e w3 ⟨A5, c5, rfl, hb3⟩
      have st3 := st2.below hb3
      have x0 := (st3.bx.cell 0).trans (rfl : _ = some (Value.slice (some ⟨ba, off, none⟩) s.length k))
      have x1 := st3.bx.lt
      have d0' := (st3.bel.cell (p := ⟨ba, off + i * 4, none⟩) hb).trans d0
      have hbl : ba < w3.heap.size := Nat.lt_of_lt_of_le hb st3.bel.size
      clear hb3 H2 st2 d0
      have hsv : SV (w3.alloc (.cells #[.int .i64 dg, .int .i64 (p : Int), .int .i64 ((q : Int) - p)] 48)) (w3.heap.size + 1) (some ⟨w3.heap.size, 0, none⟩) [.int .i64 dg, .int .i64 (p : Int), .int .i64 ((q : Int) - p)] := by
        have := SV.lit w3 #[.int .i64 dg, .int .i64 (p : Int), .int .i64 ((q : Int) - p)] 48
        simpa using this
      go_wp2_with (first | (at_builtin; refine wpList_appNo _ rfl (.tmp 31) (.tmp 43) 39 rfl (w.heap.size + 1) 48 j0 _ 3 24 Try.underlying39 hJ0 hY0 hY1 hY2 rfl (by decide) Ai i ci (ixV (ixL s i)) rfl (st3.oi.alloc _) _ (some ⟨w3.heap.size, 0, none⟩) 1 1 [.int .i64 dg, .int .i64 (p : Int), .int .i64 ((q : Int) - p)] rfl rfl hsv (ix_one _ _ _) ?ha2 ?hb2 ?hc2 ?_))
      case ha2 => unfold maxLen; omega
      case hb2 => omega
      case hc2 => simp; omega
      intro A8 c8 w8 hown8 hg8 _ hob8
      have st8 := HAPP.out _ _ _ _ _ st3 hg8 (by rw [HE3.out, ← HDE.out, ← HDG.out]; exact hown8)
      clear hown8 hg8 hob8 hsv st3
      go_wp2_with fail
      go_roundw
      case rel => exact ⟨i + 1, A8, c8, by omega, rfl, by go_num, st8⟩
      case measure => simp [intOf]; omega
    · obtain rfl : i = s.length := by omega
      have x0 := (st.bx.cell 0).trans (rfl : _ = some (Value.slice A s.length k))
      have hge : ¬ (s.length : Int) < s.length := by omega
      have HEND : Hid (PxPost w s (.returned (.slice Ai s.length ci)) wo) := Lib.hid ⟨Ai, ci, rfl, SA.of_own st.oi (fun b hb => by unfold Under at hb; omega), st.bel⟩
      go_wp2_with fail
      go_ret
      exact HEND.out
end Go.Proofs.Ytiilhnfdlpgllaa
