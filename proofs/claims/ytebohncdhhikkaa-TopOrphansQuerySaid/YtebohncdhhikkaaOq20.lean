/-
  Markers: walk of 'Cyclic', given what 'Replaced' tells.
-/
import Derived.Test.YtebohncdhhikkaaOq17
import Derived.Test.YtebohncdhhikkaaOq3
import Derived.Test.YtebohncdhhikkaaView5
namespace Go.Proofs.Ytebohncdhhikkaa
open Go.RowKit Go.V
set_option linter.unusedVariables false
/-- A block of n bools. -/
def BoolBlk (w : World) (g n : Nat) : Prop := ∃ f : Nat → Bool, Blk w g 4 (boolsA (tab n f))
theorem BoolBlk.below {w w' : World} {g n : Nat} (h : BoolBlk w g n) (hb : Below w.heap.size w w') : BoolBlk w' g n := by
  obtain ⟨f, h⟩ := h; exact ⟨f, h.below hb h.lt⟩
theorem BoolBlk.set_ {w : World} {g n : Nat} (h : BoolBlk w g n) (g' i : Nat) (x : Bool) : BoolBlk (w.setCell ⟨g', i, none⟩ (.bool x)) g n := by
  obtain ⟨f, h⟩ := h
  by_cases e : g = g'
  · subst e; exact ⟨_, blk_tabB_set (g' := fun j => if j = i then x else f j) h i x (fun j _ => rfl)⟩
  · exact ⟨f, h.far e _⟩
/-- A table of 60 rows of 60 bools. -/
def RpPost (w : World) (e : Ending) (w' : World) : Prop :=
  ∃ (A : Option Addr) (c : Nat) (xs : List Value), e = .returned (.slice A 60 c) ∧ SV w' w'.heap.size A xs ∧ xs.length = 60 ∧ (∀ i (h : i < xs.length), ∃ g, xs[i] = .slice (some ⟨g, 0, none⟩) 60 60 ∧ BoolBlk w' g 60) ∧ Below w.heap.size w w'
set_option maxRecDepth 100000 in
set_option maxHeartbeats 8000000 in
theorem cyclic23_any (w : World) (A : Option Addr) (k n : Nat) (HRP : Calls Try.prog 36 #[.slice A n k] w (RpPost w)) :
    Calls Try.prog 23 #[.slice A n k] w fun e w' => IsB e ∧ Below w.heap.size w w' := by
  replace HRP := Lib.hid HRP
  go_enter Try.func23, Try.ntmps23
  go_wp2_with fail
  go_at_call 36
  with_reducible refine HRP.out.mono ?_
  rintro e w1 ⟨A1, c1, xs, rfl, hsv, hxl, hrow, hb⟩
  have HR := Lib.hid hrow
  have HS := Lib.hid (fun (i : Nat) (hi : i < xs.length) => (show ∃ b off, A1 = some ⟨b, off, none⟩ ∧ b < w1.heap.size ∧ w1.cell? ⟨b, off + i, none⟩ = some xs[i] from by
    obtain ⟨b, off, e, hb, hc⟩ := hsv.at_ (by omega)
    exact ⟨b, off, e, hb, hc i _ (List.getElem?_eq_getElem hi)⟩))
  clear hrow hsv HRP
  go_wp2_with fail
  go_loopw [4] (fun iv wr => ∃ i : Nat, i ≤ 60 ∧ iv = .int .i64 i ∧ wr = w1) (fun iv _ => 60 - (intOf iv).toNat)
  case atStart => exact ⟨0, Nat.zero_le _, rfl, by first | exact rfl | trivial⟩
  case round =>
    obtain ⟨i, hi, rfl, rfl⟩ := hrel
    by_cases hlt : i < 60
    · have hlt' : (i : Int) < 60 := by omega
      obtain ⟨b, off, e, hbs, hc⟩ := HS.out i (by omega)
      subst e
      obtain ⟨g, hg, f, hB⟩ := HR.out i (by omega)
      rw [hg] at hc
      have q0 := blk_tabB hB i hlt
      have lg := hB.lt
      clear hg HR HS
      generalize f i = v at *
      cases v with
      | true =>
        go_wp2_with fail
        go_ret
        exact ⟨⟨_, rfl⟩, hb⟩
      | false =>
        go_wp2_with fail
        go_roundw
        case rel => exact ⟨i + 1, by omega, by go_num, by first | exact rfl | trivial⟩
        case measure => simp [intOf]; omega
    · obtain rfl : i = 60 := by omega
      go_wp2_with fail
      go_ret
      exact ⟨⟨_, rfl⟩, hb⟩
end Go.Proofs.Ytebohncdhhikkaa
