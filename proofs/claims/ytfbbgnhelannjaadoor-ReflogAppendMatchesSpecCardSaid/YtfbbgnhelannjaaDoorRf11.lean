/-
  References: walk of 'find'.
-/
import Derived.Test.YtfbbgnhelannjaaDoorRf10
namespace Rf
theorem lb_lt : ∀ {s : List R} {n : Nm} {k : Nat}, k < lb s n → (it s k).name < n
  | [], _, _, h => by simp [lb] at h
  | x :: s, n, k, h => by
    unfold lb at h
    split at h
    · rename_i hx
      rcases k with _ | k
      · simpa [it] using hx
      · have := lb_lt (s := s) (n := n) (k := k) (by omega)
        simpa [it] using this
    · omega
theorem lb_ge : ∀ {s : List R} (_ : Srt s) {n : Nm} {k : Nat}, lb s n ≤ k → k < s.length → ¬ (it s k).name < n
  | [], _, _, _, _, h => by simp at h
  | x :: s, hs, n, k, h, hk => by
    obtain ⟨h1, h2⟩ := List.pairwise_cons.1 hs
    unfold lb at h
    split at h
    · rcases k with _ | k
      · omega
      · have := lb_ge h2 (n := n) (k := k) (by omega) (by simpa using hk)
        simpa [it] using this
    · rename_i hx
      rcases k with _ | k
      · simpa [it] using hx
      · have hm : it s k ∈ s := by rw [← it_eq s k (by simpa using hk)]; exact List.getElem_mem _
        have := h1 _ hm
        intro hlt
        have e : it (x :: s) (k + 1) = it s k := by simp [it]
        rw [e] at hlt
        exact hx (nlt_trans this hlt)
theorem cmp_lt {a b : List UInt8} (h : a < b) : Go.Lib.compareBytes a b = -1 := by
  induction a generalizing b with
  | nil => cases b with
    | nil => exact absurd h (nlt_irrefl _)
    | cons y b => rfl
  | cons x a ih => cases b with
    | nil => exact absurd h (by simp)
    | cons y b =>
      rw [List.cons_lt_cons_iff] at h
      unfold Go.Lib.compareBytes
      rcases h with h | ⟨rfl, h⟩
      · rw [if_pos h]
      · rw [if_neg (by simp), if_neg (by simp), ih h]
theorem cmp_eq (a : List UInt8) : Go.Lib.compareBytes a a = 0 := by
  induction a with
  | nil => rfl
  | cons x a ih => unfold Go.Lib.compareBytes; rw [if_neg (by simp), if_neg (by simp), ih]
theorem cmp_gt {a b : List UInt8} (h : b < a) : Go.Lib.compareBytes a b = 1 := by
  induction a generalizing b with
  | nil => exact absurd h (by simp)
  | cons x a ih => cases b with
    | nil => rfl
    | cons y b =>
      rw [List.cons_lt_cons_iff] at h
      unfold Go.Lib.compareBytes
      rcases h with h | ⟨rfl, h⟩
      · rw [if_neg (fun h2 => by have := UInt8.lt_trans h h2; exact absurd this (UInt8.lt_irrefl _)), if_pos h]
      · rw [if_neg (by simp), if_neg (by simp), ih h]
end Rf
namespace Go.Proofs.YtfbbgnhelannjaaDoor
open Go.RowKit Go.V Go.Shelf Go.Lib
set_option linter.unusedVariables false

theorem find1_any (w : World) (nm n : List UInt8) (t : Int) :
    Calls Tryd.prog 67 #[.agg #[strV nm, .int .i64 t], strV n] w fun e w' => e = .returned (.int .i64 (Lib.compareBytes nm n)) ∧ Below w.heap.size w w' := by
  have HC := Lib.hid (compare_any nm n (w.alloc (.cells #[strV nm, .int .i64 t] 51)))
  go_enter Tryd.func67, Tryd.ntmps67
  go_wp2_with (first | (go_at_call 68; with_reducible refine HC.out.mono ?_; rintro e w' ⟨rfl, rfl⟩))
  go_ret
  exact ⟨rfl, below_alloc1 _ _⟩
set_option maxRecDepth 100000 in
set_option maxHeartbeats 8000000 in
theorem bsearch_any (w : World) (A : Option Addr) (k : Nat) (s : List Rf.R) (n : List UInt8) (fv : Value) (hfv : fv = .func (.func 67) #[] #[]) (hv : SA w Free A (rsV s)) (hl : s.length ≤ 1000000) (hs : Rf.Srt s) :
    Calls Tryd.prog 66 #[.slice A s.length k, strV n, fv] w fun e w' => e = .returned (.tuple #[.int .i64 (Rf.lb s n : Nat), .bool (Rf.fnd s n)]) ∧ Below w.heap.size w w' := by
  have HROW := Lib.hid (fun (w' : World) (hb : Below w.heap.size w w') i hi => rsV_row (w := w') (hv.keep (free_below hb)) i hi)
  have HS := Lib.hid hs
  clear hv hs
  subst hfv
  go_enter Tryd.func66, Tryd.ntmps66
  go_wp2_with fail
  go_loopw [9, 10] (fun iv jv wr => ∃ i j : Nat, i ≤ j ∧ j ≤ s.length ∧ iv = .int .i64 i ∧ jv = .int .i64 j ∧ Hid (i ≤ Rf.lb s n ∧ Rf.lb s n ≤ j) ∧ Below w.heap.size w wr) (fun iv jv _ => (intOf jv).toNat - (intOf iv).toNat)
  case atStart => exact ⟨0, s.length, Nat.zero_le _, Nat.le_refl _, rfl, rfl, Lib.hid ⟨Nat.zero_le _, Rf.lb_le _ _⟩, Below.refl _ _⟩
  case round =>
    obtain ⟨i, j, hij, hj, rfl, rfl, HB, hbw⟩ := hrel
    obtain ⟨wo, rfl⟩ : ∃ wo : World, wo = wr := ⟨_, rfl⟩
    by_cases hlt : i < j
    · have hlt' : (i : Int) < j := by omega
      obtain ⟨m, hm1, hm2, hm⟩ : ∃ m : Nat, i ≤ m ∧ m < j ∧ ((i : Int) + j) / 2 = (m : Int) := ⟨(i + j) / 2, by omega, by omega, by omega⟩
      have hmi : (m : Int) < s.length := by omega
      obtain ⟨b, off, e, hb, _, d0, d1⟩ := HROW.out _ hbw m (by omega)
      subst e
      have HLT := Lib.hid (fun h => Rf.lb_ge HS.out (n := n) (k := m) h (by omega))
      have HGE := Lib.hid (fun h => Rf.lb_lt (s := s) (n := n) (k := m) h)
      by_cases hc : (Rf.it s m).name < n
      · have HB' : Hid (m + 1 ≤ Rf.lb s n ∧ Rf.lb s n ≤ j) := Lib.hid ⟨by
          apply Decidable.byContradiction; intro hn; exact HLT.out (by omega) hc, HB.out.2⟩
        have hcd : Hid (Lib.compareBytes (Rf.it s m).name n = -1) := Lib.hid (Rf.cmp_lt hc)
        clear hc HLT HGE
        generalize Rf.it s m = x at *
        go_wp2_with fail
        go_at_call 67
        refine (find1_any _ _ _ _).mono ?_
        rintro e w2 ⟨rfl, hb2⟩
        rw [hcd.out]
        have hbw2 := hbw.trans (hb2.mono hbw.size)
        clear hb2
        go_wp2_with fail
        go_roundw
        case rel => exact ⟨m + 1, j, by omega, hj, by go_num, rfl, HB', hbw2⟩
        case measure => simp [intOf]; omega
      · have HB' : Hid (i ≤ Rf.lb s n ∧ Rf.lb s n ≤ m) := Lib.hid ⟨HB.out.1, by
          apply Decidable.byContradiction; intro hn; exact hc (HGE.out (by omega))⟩
        have hcd : 0 ≤ Lib.compareBytes (Rf.it s m).name n := by
          by_cases he : (Rf.it s m).name = n
          · rw [he, Rf.cmp_eq]; omega
          · rw [Rf.cmp_gt (Rf.nlt_of_not hc he)]; omega
        clear hc HLT HGE
        generalize Rf.it s m = x at *
        generalize hcc : Lib.compareBytes x.name n = cd at *
        have HCC := Lib.hid hcc
        clear hcc
        go_wp2_with fail
        go_at_call 67
        refine (find1_any _ _ _ _).mono ?_
        rintro e w2 ⟨rfl, hb2⟩
        rw [HCC.out]
        have hbw2 := hbw.trans (hb2.mono hbw.size)
        clear hb2
        go_wp2_with fail
        go_roundw
        case rel => exact ⟨i, m, hm1, by omega, rfl, rfl, HB', hbw2⟩
        case measure => simp [intOf]; omega
    · obtain rfl : i = j := by omega
      have hi : Rf.lb s n = i := by have := HB.out; omega
      have HI := Lib.hid hi
      clear hi HB
      by_cases hil : i < s.length
      · have hil' : (i : Int) < s.length := by omega
        obtain ⟨b, off, e, hb, _, d0, d1⟩ := HROW.out _ hbw i hil
        subst e
        have HF : Hid (Rf.fnd s n = (Lib.compareBytes (Rf.it s i).name n == 0)) := Lib.hid (by
          unfold Rf.fnd
          rw [HI.out, decide_eq_true hil, Bool.true_and, Bool.eq_iff_iff]
          simp only [decide_eq_true_eq, beq_iff_eq]
          constructor
          · intro h; rw [h, Rf.cmp_eq]
          · intro h
            rcases Rf.nlt_tri (Rf.it s i).name n with h2 | h2 | h2
            · rw [Rf.cmp_lt h2] at h; omega
            · exact h2
            · rw [Rf.cmp_gt h2] at h; omega)
        generalize Rf.it s i = x at *
        generalize hcc : Lib.compareBytes x.name n = cd at *
        have HCC := Lib.hid hcc
        clear hcc
        go_wp2_with fail
        go_at_call 67
        refine (find1_any _ _ _ _).mono ?_
        rintro e w2 ⟨rfl, hb2⟩
        rw [HCC.out]
        have hbw2 := hbw.trans (hb2.mono hbw.size)
        clear hb2
        go_wp2_with fail
        go_ret2
        exact ⟨by rw [HI.out, HF.out]; rfl, hbw2⟩
      · have hil' : ¬ (i : Int) < s.length := by omega
        have hil2 : decide (i < s.length) = false := decide_eq_false hil
        have HF : Hid (Rf.fnd s n = false) := Lib.hid (by unfold Rf.fnd; rw [HI.out, decide_eq_false hil]; rfl)
        clear hil
        go_wp2_with fail
        go_ret2
        exact ⟨by rw [HI.out, HF.out]; rfl, hbw⟩
theorem find_any (w : World) (A : Option Addr) (k : Nat) (s : List Rf.R) (n : List UInt8) (hv : SA w Free A (rsV s)) (hl : s.length ≤ 1000000) (hs : Rf.Srt s) :
    Calls Tryd.prog 48 #[.agg #[.slice A s.length k], strV n] w fun e w' => e = .returned (.tuple #[.int .i64 (Rf.lb s n : Nat), .bool (Rf.fnd s n)]) ∧ Below w.heap.size w w' := by
  have HB := Lib.hid (fun fv hfv => bsearch_any (w.alloc (.cells #[.slice A s.length k] 26)) A k s n fv hfv (hv.keep (Keeps.alloc _ _ _)) hl hs)
  clear hv hs
  go_enter Tryd.func48, Tryd.ntmps48
  go_wp2_with fail
  go_at_call 66
  refine (HB.out _ rfl).mono ?_
  rintro e w1 ⟨rfl, hb1⟩
  go_wp2_with fail
  go_ret2
  exact ⟨rfl, (below_alloc1 _ _).trans (hb1.mono (by simp))⟩
end Go.Proofs.YtfbbgnhelannjaaDoor
