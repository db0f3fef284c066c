/-
  References: walks of 'conflict', 'clash'.
-/
import Derived.Test.YtfbbgnhelannjaaDoorRf3
namespace Go.Proofs.YtfbbgnhelannjaaDoor
open Go.RowKit Go.V Go.Shelf Go.Lib
set_option linter.unusedVariables false

theorem str_add (a b : List UInt8) : (⟨a.toArray⟩ : ByteArray) ++ ⟨b.toArray⟩ = ⟨(a ++ b).toArray⟩ := by
  apply ByteArray.ext
  simp
theorem hasPrefix_any (a b : List UInt8) (w : World) : Calls Tryd.prog 49 #[strV a, strV b] w fun e w' => e = .returned (.bool (Lib.hasPrefix a b)) ∧ w' = w := Tryd.strings_HasPrefix ⟨a.toArray⟩ ⟨b.toArray⟩ w
theorem compare_any (a b : List UInt8) (w : World) : Calls Tryd.prog 68 #[strV a, strV b] w fun e w' => e = .returned (.int .i64 (Lib.compareBytes a b)) ∧ w' = w := Tryd.strings_Compare ⟨a.toArray⟩ ⟨b.toArray⟩ w
set_option maxHeartbeats 4000000 in
theorem conflict_any (w : World) (a b : List UInt8) (ha : a.length ≤ 60) (hb : b.length ≤ 60) : Calls Tryd.prog 72 #[strV a, strV b] w fun e w' => e = .returned (.bool (Rf.conf a b)) ∧ w' = w := by
  have H1 := Lib.hid (hasPrefix_any a (b ++ [47]) w)
  have H2 := Lib.hid (hasPrefix_any b (a ++ [47]) w)
  have e1 : (⟨a.toArray⟩ : ByteArray) ++ ⟨#[47]⟩ = ⟨(a ++ [47]).toArray⟩ := str_add a [47]
  have e2 : (⟨b.toArray⟩ : ByteArray) ++ ⟨#[47]⟩ = ⟨(b ++ [47]).toArray⟩ := str_add b [47]
  have s1 : (⟨a.toArray⟩ : ByteArray).size = a.length := by simp [ByteArray.size]
  have s2 : (⟨b.toArray⟩ : ByteArray).size = b.length := by simp [ByteArray.size]
  have HQ := Lib.hid (show Rf.conf a b = (Lib.hasPrefix a (b ++ [47]) || Lib.hasPrefix b (a ++ [47])) from rfl)
  generalize Rf.conf a b = q at *
  cases h : Lib.hasPrefix a (b ++ [47]) with
  | true =>
    rw [h] at H1
    have HQ2 : Hid (q = true) := Lib.hid (by rw [HQ.out, h]; rfl)
    clear h HQ
    go_enter Tryd.func72, Tryd.ntmps72
    go_wp2_with (first | (go_at_call 49; with_reducible refine H1.out.mono ?_; rintro e w' ⟨rfl, rfl⟩))
    go_ret
    exact ⟨by rw [HQ2.out]; rfl, rfl⟩
  | false =>
    rw [h] at H1
    have HQ2 : Hid (q = Lib.hasPrefix b (a ++ [47])) := Lib.hid (by rw [HQ.out, h]; rfl)
    clear h HQ
    generalize Lib.hasPrefix b (a ++ [47]) = q2 at *
    go_enter Tryd.func72, Tryd.ntmps72
    go_wp2_with (first | (go_at_call 49; with_reducible refine H1.out.mono ?_; rintro e w' ⟨rfl, rfl⟩) | (go_at_call 49; with_reducible refine H2.out.mono ?_; rintro e w' ⟨rfl, rfl⟩))
    go_ret
    exact ⟨by rw [HQ2.out]; rfl, rfl⟩
theorem clash1_any (w : World) (nm : List UInt8) (t : Int) (Bx : Nat) (n : List UInt8) (hB : w.cell? ⟨Bx, 0, none⟩ = some (strV n)) (ha : nm.length ≤ 60) (hn : n.length ≤ 60) :
    Calls Tryd.prog 71 #[.agg #[strV nm, .int .i64 t], .pointer (some ⟨Bx, 0, none⟩)] w fun e w' => e = .returned (.bool (Rf.conf nm n)) ∧ Below w.heap.size w w' := by
  have hlt := World.block_lt_of_cell? w _ hB
  have HC := Lib.hid (conflict_any (w.alloc (.cells #[strV nm, .int .i64 t] 51)) nm n ha hn)
  go_enter Tryd.func71, Tryd.ntmps71
  go_wp2_with (first | (go_at_call 72; with_reducible refine HC.out.mono ?_; rintro e w' ⟨rfl, rfl⟩))
  go_ret
  exact ⟨rfl, below_alloc1 _ _⟩
theorem any_take {α : Type} {p : α → Bool} {s : List α} {i : Nat} (h : (s.take i).any p = false) (hi : i < s.length) (hp : p s[i] = false) : (s.take (i + 1)).any p = false := by
  rw [List.take_succ_eq_append_getElem hi, List.any_append, h]; simp [hp]
set_option maxRecDepth 100000 in
set_option maxHeartbeats 8000000 in
theorem indexFunc_any (w : World) (A : Option Addr) (k : Nat) (s : List Rf.R) (Bx : Nat) (n : List UInt8) (hB : w.cell? ⟨Bx, 0, none⟩ = some (strV n)) (hv : SA w Free A (rsV s)) (hl : s.length ≤ 1000000) (hs : ∀ x ∈ s, x.name.length ≤ 60) (hn : n.length ≤ 60) :
    Calls Tryd.prog 89 #[.slice A s.length k, .func (.func 71) #[] #[.pointer (some ⟨Bx, 0, none⟩)]] w fun e w' => ∃ i : Int, e = .returned (.int .i64 i) ∧ decide (0 ≤ i) = s.any (fun r => Rf.conf r.name n) ∧ Below w.heap.size w w' := by
  have hlt := World.block_lt_of_cell? w _ hB
  have HROW := Lib.hid (fun (w' : World) (hb : Below w.heap.size w w') i hi => rsV_row (hv.keep (free_below hb)) i hi)
  have HBX := Lib.hid (fun (w' : World) (hb : Below w.heap.size w w') => (hb.cell (p := ⟨Bx, 0, none⟩) hlt).trans hB)
  have HS := Lib.hid hs
  clear hv hs hB
  go_enter Tryd.func89, Tryd.ntmps89
  go_wp2_with fail
  go_loopw [8] (fun iv wr => ∃ i : Nat, i ≤ s.length ∧ iv = .int .i64 i ∧ Hid ((s.take i).any (fun r => Rf.conf r.name n) = false) ∧ Below w.heap.size w wr) (fun iv _ => s.length - (intOf iv).toNat)
  case atStart => exact ⟨0, Nat.zero_le _, rfl, Lib.hid (by simp), Below.refl _ _⟩
  case round =>
    obtain ⟨i, hi, rfl, H, hbw⟩ := hrel
    by_cases hlt2 : i < s.length
    · have hlt' : (i : Int) < s.length := by omega
      obtain ⟨b, off, e, hb, _, d0, d1⟩ := HROW.out _ hbw i hlt2
      subst e
      have hnm := HS.out _ (List.getElem_mem hlt2)
      rw [Rf.it_eq s i hlt2] at hnm
      have HC := Lib.hid (clash1_any wr (Rf.it s i).name (Rf.it s i).tgt Bx n (HBX.out _ hbw) hnm hn)
      have HN : Hid (Rf.conf (Rf.it s i).name n = false → (s.take (i + 1)).any (fun r => Rf.conf r.name n) = false) := Lib.hid fun h => any_take H.out hlt2 (by rw [Rf.it_eq s i hlt2]; exact h)
      have HY : Hid (Rf.conf (Rf.it s i).name n = true → s.any (fun r => Rf.conf r.name n) = true) := Lib.hid fun h => by
        rw [List.any_eq_true]; exact ⟨s[i], List.getElem_mem hlt2, by rw [Rf.it_eq s i hlt2]; exact h⟩
      clear hnm
      generalize Rf.it s i = x at *
      cases hc : Rf.conf x.name n with
      | false =>
        rw [hc] at HC
        have HN2 := Lib.hid (HN.out hc)
        clear hc HN HY
        go_wp2_with (first | (go_at_call 71; with_reducible refine HC.out.mono ?_; rintro e w' ⟨rfl, hb'⟩; have hbw' := hbw.trans (hb'.mono hbw.size)))
        go_roundw
        case rel => exact ⟨i + 1, by omega, by go_num, HN2, hbw'⟩
        case measure => simp [intOf]; omega
      | true =>
        rw [hc] at HC
        have HY2 := Lib.hid (HY.out hc)
        clear hc HN HY
        go_wp2_with (first | (go_at_call 71; with_reducible refine HC.out.mono ?_; rintro e w' ⟨rfl, hb'⟩; have hbw' := hbw.trans (hb'.mono hbw.size)))
        go_ret
        exact ⟨(i : Int), rfl, by rw [HY2.out]; simp, hbw'⟩
    · obtain rfl : i = s.length := by omega
      have H2 := Lib.hid (show s.any (fun r => Rf.conf r.name n) = false from by have := H.out; rwa [List.take_length] at this)
      go_wp2_with fail
      go_ret
      exact ⟨-1, rfl, by rw [H2.out]; rfl, hbw⟩
theorem containsFunc_any (w : World) (A : Option Addr) (k : Nat) (s : List Rf.R) (Bx : Nat) (n : List UInt8) (hB : w.cell? ⟨Bx, 0, none⟩ = some (strV n)) (hv : SA w Free A (rsV s)) (hl : s.length ≤ 1000000) (hs : ∀ x ∈ s, x.name.length ≤ 60) (hn : n.length ≤ 60) :
    Calls Tryd.prog 70 #[.slice A s.length k, .func (.func 71) #[] #[.pointer (some ⟨Bx, 0, none⟩)]] w fun e w' => e = .returned (.bool (s.any (fun r => Rf.conf r.name n))) ∧ Below w.heap.size w w' := by
  have HI := Lib.hid (indexFunc_any w A k s Bx n hB hv hl hs hn)
  clear hv hs hB
  generalize s.any (fun r => Rf.conf r.name n) = q at *
  go_enter Tryd.func70, Tryd.ntmps70
  go_wp2_with (first | (go_at_call 89; with_reducible refine HI.out.mono ?_; rintro e w' ⟨i, rfl, hi, hb'⟩))
  go_ret
  exact ⟨by rw [← hi]; rfl, hb'⟩
theorem clash_any (w : World) (A : Option Addr) (k : Nat) (s : List Rf.R) (n : List UInt8) (hv : SA w Free A (rsV s)) (hl : s.length ≤ 1000000) (hs : ∀ x ∈ s, x.name.length ≤ 60) (hn : n.length ≤ 60) :
    Calls Tryd.prog 51 #[.slice A s.length k, strV n] w fun e w' => e = .returned (.bool (s.any (fun r => Rf.conf r.name n))) ∧ Below w.heap.size w w' := by
  have HI := Lib.hid (containsFunc_any (w.alloc (.cells #[strV n] 9)) A k s w.heap.size n (((Blk.new w 9 #[strV n]).cell 0).trans rfl) (hv.keep (Keeps.alloc _ _ _)) hl hs hn)
  clear hv hs
  generalize s.any (fun r => Rf.conf r.name n) = q at *
  go_enter Tryd.func51, Tryd.ntmps51
  go_wp2_with (first | (go_at_call 70; with_reducible refine HI.out.mono ?_; rintro e w' ⟨rfl, hb'⟩))
  go_ret
  exact ⟨rfl, (below_alloc1 w _).trans (hb'.mono (by simp))⟩
end Go.Proofs.YtfbbgnhelannjaaDoor
