/-
  Queries: walk of 'one' at the kinds that are spoken of.
-/
import Derived.Test.YtebohncdhhikkaaOq9
namespace Go.Proofs.Ytebohncdhhikkaa
open Go.RowKit Go.V
set_option linter.unusedVariables false
theorem OwnB.back {w w1 : World} {n : Nat} {f : Nat → Bool} {e : Ending} {w' : World} (h : OwnB w1 n f e w') (hb : Below w.heap.size w w1) : OwnB w n f e w' := by
  obtain ⟨A, c, rfl, h1, h2⟩ := h
  refine ⟨A, c, rfl, ?_, hb.trans (h2.mono hb.size)⟩
  obtain ⟨h3, h4⟩ := h1
  refine ⟨h3, ?_⟩
  rcases h4 with h4 | ⟨g, cap, cur, e1, e2, h5⟩
  · exact .inl h4
  · exact .inr ⟨g, cap, cur, e1, Nat.le_trans hb.size e2, h5⟩
set_option maxRecDepth 100000 in
set_option maxHeartbeats 8000000 in
theorem one8_any (w : World) (A A2 : Option Addr) (k k2 : Nat) (l : List Hs.Cm) (f : Nat → Bool) (hv : CV w A l) (hok : Hs.Ok l) (h2 : BV w A2 (tab l.length f)) :
    Calls Try.prog 30 #[.slice A l.length k, .int .i64 8, .slice A2 l.length k2] w (OwnB w l.length (Hs.of l fun x => decide (x < l.length) && f x)) := by
  have hl60 := hok.len
  have HS := Lib.hid (selected_any w A2 k2 l.length f h2 hl60)
  have HO := Lib.hid (fun (w1 : World) (hb : Below w.heap.size w w1) (A3 : Option Addr) (c3 : Nat) (hi : IV w1 A3 (Hs.ints (Oq.selN f l.length))) => of_any w1 A A3 k c3 l (Oq.selN f l.length) (hv.below hb) hok hi (fun x hx => ((Oq.selN_mem f l.length x).1 hx).1) (by have := Oq.selN_len f l.length; omega))
  rw [← Oq.selN_has]
  clear hv h2 hok
  go_enter Try.func30, Try.ntmps30
  go_wp2_with fail
  go_at_call 40
  with_reducible refine HS.out.mono ?_
  rintro e w1 ⟨A3, c3, rfl, hi3, hb3⟩
  have HO2 := Lib.hid (HO.out w1 hb3 A3 c3 hi3)
  have hb := hb3
  clear HS HO hi3
  go_wp2_with fail
  go_at_call 39
  with_reducible refine HO2.out.mono ?_
  intro e w2 hp
  have HP := Lib.hid ((hp.own (by unfold maxLen; omega)).back hb)
  obtain ⟨g, rfl, _, _, _⟩ := hp
  clear HO2
  go_wp2_with fail
  go_ret
  exact HP.out
set_option maxRecDepth 100000 in
set_option maxHeartbeats 8000000 in
theorem one9_any (w : World) (A A2 : Option Addr) (k k2 : Nat) (l : List Hs.Cm) (f : Nat → Bool) (hv : CV w A l) (hok : Hs.Ok l) (h2 : BV w A2 (tab l.length f)) :
    Calls Try.prog 30 #[.slice A l.length k, .int .i64 9, .slice A2 l.length k2] w (OwnB w l.length (Oq.dAt l f l.length)) := by
  have HD := Lib.hid (desc_any w A A2 k k2 l f hv hok h2)
  clear hv h2 hok
  go_enter Try.func30, Try.ntmps30
  go_wp2_with fail
  go_at_call 41
  with_reducible refine HD.out.mono ?_
  intro e w2 hp
  have HP := Lib.hid hp
  obtain ⟨A3, c3, rfl, _, _⟩ := hp
  clear HD
  go_wp2_with fail
  go_ret
  exact HP.out
end Go.Proofs.Ytebohncdhhikkaa
