/-
  File trees: walk of 'Find' at a path that a tree in order holds.
-/
import Derived.Test.YtjfckjonfpkphaaDoorTq4
namespace Rf
theorem cmp_lt {a b : List UInt8} (h : a < b) : Go.Lib.compareBytes a b = -1 := by
  induction a generalizing b with
  | nil => cases b with
    | nil => exact absurd h (List.lt_irrefl _)
    | cons y b => rfl
  | cons x a ih => cases b with
    | nil => exact absurd h (by simp)
    | cons y b =>
      rw [List.cons_lt_cons_iff] at h
      unfold Go.Lib.compareBytes
      rcases h with h | ⟨rfl, h⟩
      · rw [if_pos h]
      · rw [if_neg (by simp), if_neg (by simp), ih h]
theorem cmp_eq (a : List UInt8) : Go.Lib.compareBytes a a = 0 := by
  induction a with
  | nil => rfl
  | cons x a ih => unfold Go.Lib.compareBytes; rw [if_neg (by simp), if_neg (by simp), ih]
theorem cmp_gt {a b : List UInt8} (h : b < a) : Go.Lib.compareBytes a b = 1 := by
  induction a generalizing b with
  | nil => exact absurd h (by simp)
  | cons x a ih => cases b with
    | nil => rfl
    | cons y b =>
      rw [List.cons_lt_cons_iff] at h
      unfold Go.Lib.compareBytes
      rcases h with h | ⟨rfl, h⟩
      · rw [if_neg (fun h2 => by have := UInt8.lt_trans h h2; exact absurd this (UInt8.lt_irrefl _)), if_pos h]
      · rw [if_neg (by simp), if_neg (by simp), ih h]
end Rf
namespace Tr
/-- The paths of a tree grow. -/
def Srt (t : List F) : Prop := ∀ a b, a < b → b < t.length → (it t a).path < (it t b).path
theorem VOk.srt {t : List F} (h : VOk t) : Srt t := by
  intro a b hab hb
  induction b with
  | zero => omega
  | succ b ih =>
    rcases Nat.lt_or_eq_of_le (Nat.le_of_lt_succ hab) with h1 | h1
    · exact List.lt_trans (ih h1 (by omega)) (h.lt b hb)
    · subst h1; exact h.lt a hb
end Tr
namespace Go.Proofs.YtjfckjonfpkphaaDoor
open Go.RowKit Go.V Go.Shelf
set_option linter.unusedVariables false

theorem compare_any (a b : List UInt8) (w : World) : Calls Tryd.prog 38 #[strV a, strV b] w fun e w' => e = .returned (.int .i64 (Lib.compareBytes a b)) ∧ w' = w := Tryd.strings_Compare ⟨a.toArray⟩ ⟨b.toArray⟩ w
theorem find1_any (w : World) (nm n : List UInt8) (A : Option Addr) (m k : Nat) :
    Calls Tryd.prog 37 #[.agg #[strV nm, .slice A m k], strV n] w fun e w' => e = .returned (.int .i64 (Lib.compareBytes nm n)) ∧ Below w.heap.size w w' := by
  have HC := Lib.hid (compare_any nm n (w.alloc (.cells #[strV nm, .slice A m k] 36)))
  go_enter Tryd.func37, Tryd.ntmps37
  go_wp2_with (first | (go_at_call 38; with_reducible refine HC.out.mono ?_; rintro e w' ⟨rfl, rfl⟩))
  go_ret
  exact ⟨rfl, below_alloc1 _ _⟩
set_option maxRecDepth 100000 in
set_option maxHeartbeats 8000000 in
theorem bsearch_any (w : World) (A : Option Addr) (k : Nat) (t : List Tr.F) (m0 : Nat) (n : List UInt8) (hn : n = (Tr.it t m0).path) (fv : Value) (hfv : fv = .func (.func 37) #[] #[]) (hv : VfV w Free A t) (hl : t.length ≤ 1000000) (hs : Tr.Srt t) (hm0 : m0 < t.length) :
    Calls Tryd.prog 36 #[.slice A t.length k, strV n, fv] w fun e w' => e = .returned (.tuple #[.int .i64 (m0 : Nat), .bool true]) ∧ Below w.heap.size w w' := by
  have HROW := Lib.hid (fun (w' : World) (hb : Below w.heap.size w w') i hi => (hv.keep (free_below hb)).row (w := w') i hi)
  have HLT := Lib.hid (fun m (h : m < m0) => Rf.cmp_lt (hs m m0 h hm0))
  have HGT := Lib.hid (fun m (h : m0 < m) (hm : m < t.length) => Rf.cmp_gt (hs m0 m h hm))
  have HEQ := Lib.hid (Rf.cmp_eq n)
  rw [← hn] at HLT HGT
  have HN := Lib.hid hn
  clear hv hs hn
  subst hfv
  go_enter Tryd.func36, Tryd.ntmps36
  go_wp2_with fail
  go_loopw [9, 10] (fun iv jv wr => ∃ i j : Nat, i ≤ m0 ∧ m0 ≤ j ∧ j ≤ t.length ∧ iv = .int .i64 i ∧ jv = .int .i64 j ∧ Below w.heap.size w wr) (fun iv jv _ => (intOf jv).toNat - (intOf iv).toNat)
  case atStart => exact ⟨0, t.length, Nat.zero_le _, by omega, Nat.le_refl _, rfl, rfl, Below.refl _ _⟩
  case round =>
    obtain ⟨i, j, hi, hmj, hj, rfl, rfl, hbw⟩ := hrel
    obtain ⟨wo, rfl⟩ : ∃ wo : World, wo = wr := ⟨_, rfl⟩
    by_cases hlt : i < j
    · have hlt' : (i : Int) < j := by omega
      obtain ⟨m, hm1, hm2, hm⟩ : ∃ m : Nat, i ≤ m ∧ m < j ∧ ((i : Int) + j) / 2 = (m : Int) := ⟨(i + j) / 2, by omega, by omega, by omega⟩
      have hmi : (m : Int) < t.length := by omega
      obtain ⟨b, off, A', k', e, hb, _, d0, d1, _⟩ := HROW.out _ hbw m (by omega)
      subst e
      by_cases hc : m < m0
      · have hcd := Lib.hid (HLT.out m hc)
        generalize Tr.it t m = x at *
        go_wp2_with fail
        go_at_call 37
        refine (find1_any _ _ _ _ _ _).mono ?_
        rintro e w2 ⟨rfl, hb2⟩
        rw [hcd.out]
        have hbw2 := hbw.trans (hb2.mono hbw.size)
        clear hb2
        go_wp2_with fail
        go_roundw
        case rel => exact ⟨m + 1, j, by omega, by omega, hj, by go_num, rfl, hbw2⟩
        case measure => simp [intOf]; omega
      · have hcd : 0 ≤ Lib.compareBytes (Tr.it t m).path n := by
          rcases Nat.lt_or_eq_of_le (Nat.not_lt.1 hc) with h1 | h1
          · rw [HGT.out m h1 (by omega)]; omega
          · rw [← h1, ← HN.out, HEQ.out]; omega
        generalize Tr.it t m = x at *
        generalize hcc : Lib.compareBytes x.path n = cd at *
        have HCC := Lib.hid hcc
        clear hcc
        go_wp2_with fail
        go_at_call 37
        refine (find1_any _ _ _ _ _ _).mono ?_
        rintro e w2 ⟨rfl, hb2⟩
        rw [HCC.out]
        have hbw2 := hbw.trans (hb2.mono hbw.size)
        clear hb2
        go_wp2_with fail
        go_roundw
        case rel => exact ⟨i, m, hi, by omega, by omega, rfl, rfl, hbw2⟩
        case measure => simp [intOf]; omega
    · obtain rfl : i = m0 := by omega
      have hil' : (i : Int) < t.length := by omega
      obtain ⟨b, off, A', k', e, hb, _, d0, d1, _⟩ := HROW.out _ hbw i hm0
      subst e
      rw [← HN.out] at d0
      generalize Tr.it t i = x at *
      go_wp2_with fail
      go_at_call 37
      refine (find1_any _ _ _ _ _ _).mono ?_
      rintro e w2 ⟨rfl, hb2⟩
      rw [HEQ.out]
      have hbw2 := hbw.trans (hb2.mono hbw.size)
      clear hb2
      go_wp2_with fail
      go_ret2
      exact ⟨rfl, hbw2⟩
theorem find_any (w : World) (A : Option Addr) (k : Nat) (t : List Tr.F) (m0 : Nat) (n : List UInt8) (hn : n = (Tr.it t m0).path) (hv : VfV w Free A t) (hl : t.length ≤ 1000000) (hs : Tr.Srt t) (hm0 : m0 < t.length) :
    Calls Tryd.prog 30 #[.slice A t.length k, strV n] w fun e w' => e = .returned (.tuple #[.int .i64 (m0 : Nat), .bool true]) ∧ Below w.heap.size w w' := by
  have HB := Lib.hid (fun fv hfv => bsearch_any w A k t m0 n hn fv hfv hv hl hs hm0)
  clear hv hs hn
  go_enter Tryd.func30, Tryd.ntmps30
  go_wp2_with fail
  go_at_call 36
  refine (HB.out _ rfl).mono ?_
  rintro e w1 ⟨rfl, hb1⟩
  go_wp2_with fail
  go_ret2
  exact ⟨rfl, hb1⟩
end Go.Proofs.YtjfckjonfpkphaaDoor
