/-
  Objects: walk of 'Find'.
-/
import Derived.Test.YtiilhnfdlpgllaaPk6
namespace Ob
/-- The number of stored objects whose digest is less than d. -/
def lb (s : List S) (d : Int) : Nat := (s.filter fun x => decide (x.dig < d)).length
def fnd (s : List S) (d : Int) : Bool := decide (lb s d < s.length) && decide ((it s (lb s d)).dig = d)
theorem lb_le (s : List S) (d : Int) : lb s d ≤ s.length := List.length_filter_le _ _
theorem lb_eq (s : List S) (d : Int) (i : Nat) (hi : i ≤ s.length) (h1 : ∀ k, k < i → (it s k).dig < d) (h2 : ∀ k, i ≤ k → k < s.length → d ≤ (it s k).dig) : lb s d = i := by
  unfold lb
  rw [← List.take_append_drop i s, List.filter_append]
  have e1 : (s.take i).filter (fun x => decide (x.dig < d)) = s.take i := by
    rw [List.filter_eq_self]
    intro a ha
    obtain ⟨k, hk, rfl⟩ := List.mem_iff_getElem.1 ha
    simp at hk
    have := h1 k (by omega)
    rw [← it_eq s k (by omega)] at this
    simpa using this
  have e2 : (s.drop i).filter (fun x => decide (x.dig < d)) = [] := by
    rw [List.filter_eq_nil_iff]
    intro a ha
    obtain ⟨k, hk, rfl⟩ := List.mem_iff_getElem.1 ha
    simp at hk
    have := h2 (i + k) (by omega) (by omega)
    rw [← it_eq s (i + k) (by omega)] at this
    simp; omega
  rw [e1, e2]
  simp; omega
/-- A store whose digests grow. -/
def Sorted (s : List S) : Prop := ∀ i, i + 1 < s.length → (it s i).dig < (it s (i + 1)).dig
theorem Sorted.mono_ {s : List S} (h : Sorted s) : ∀ d i, i + d < s.length → 0 < d → (it s i).dig < (it s (i + d)).dig
  | 0, _, _, hd => by omega
  | 1, i, hi, _ => h i hi
  | d + 2, i, hi, _ => Int.lt_trans (h.mono_ (d + 1) i (by omega) (by omega)) (h (i + (d + 1)) hi)
theorem Sorted.mono {s : List S} (h : Sorted s) {i j : Nat} (hij : i < j) (hj : j < s.length) : (it s i).dig < (it s j).dig := by
  have := h.mono_ (j - i) i (by omega) (by omega)
  rwa [show i + (j - i) = j by omega] at this
theorem Sorted.le {s : List S} (h : Sorted s) {i j : Nat} (hij : i ≤ j) (hj : j < s.length) : (it s i).dig ≤ (it s j).dig := by
  rcases Nat.lt_or_eq_of_le hij with h1 | h1
  · exact Int.le_of_lt (h.mono h1 hj)
  · subst h1; exact Int.le_refl _
theorem lb_lt {s : List S} (h : Sorted s) (d : Int) (k : Nat) (hk : k < lb s d) : (it s k).dig < d := by
  rcases Nat.lt_or_ge k (lb s d) with _ | hh
  · apply Decidable.byContradiction
    intro hn
    have hle : lb s d ≤ k := by
      have h2 : ∀ j, k ≤ j → j < s.length → d ≤ (it s j).dig := fun j hj hjl => by
        have := h.le hj hjl; omega
      -- the number of smaller ones is at most k
      unfold lb
      have hks : k ≤ s.length := by have := lb_le s d; omega
      rw [← List.take_append_drop k s, List.filter_append]
      have e2 : (s.drop k).filter (fun x => decide (x.dig < d)) = [] := by
        rw [List.filter_eq_nil_iff]
        intro a ha
        obtain ⟨j, hj, rfl⟩ := List.mem_iff_getElem.1 ha
        simp at hj
        have := h2 (k + j) (by omega) (by omega)
        rw [← it_eq s (k + j) (by omega)] at this
        simp; omega
      rw [e2, List.append_nil]
      have := List.length_filter_le (fun x => decide (x.dig < d)) (s.take k)
      simp at this
      omega
    omega
  · omega
theorem lb_ge {s : List S} (h : Sorted s) (d : Int) (k : Nat) (hk : lb s d ≤ k) (hl : k < s.length) : d ≤ (it s k).dig := by
  apply Decidable.byContradiction
  intro hn
  -- then all up to k are smaller
  have h1 : ∀ j, j < k + 1 → (it s j).dig < d := fun j hj => by
    have := h.le (i := j) (j := k) (by omega) hl; omega
  have : k + 1 ≤ lb s d := by
    unfold lb
    rw [← List.take_append_drop (k + 1) s, List.filter_append]
    have e1 : (s.take (k + 1)).filter (fun x => decide (x.dig < d)) = s.take (k + 1) := by
      rw [List.filter_eq_self]
      intro a ha
      obtain ⟨j, hj, rfl⟩ := List.mem_iff_getElem.1 ha
      simp at hj
      have := h1 j (by omega)
      rw [← it_eq s j (by omega)] at this
      simpa using this
    rw [e1]
    simp; omega
  omega
theorem StOk.sorted {s : List S} (h : StOk s) : Sorted s := h.lt
end Ob
namespace Go.Proofs.Ytiilhnfdlpgllaa
open Go.RowKit Go.V
set_option linter.unusedVariables false

/-- What the comparison answers. -/
def cmpD (x d : Int) : Int := if x < d then -1 else if d < x then 1 else 0
theorem cmp_any (w : World) (x k d : Int) (Al : Option Addr) (nl kl : Nat) (Ad : Option Addr) (nd kd : Nat) :
    Calls Try.prog 57 #[.agg #[.int .i64 x, .int .i64 k, .slice Al nl kl, .slice Ad nd kd], .int .i64 d] w fun e w' => e = .returned (.int .i64 (cmpD x d)) ∧ Below w.heap.size w w' := by
  by_cases h1 : x < d
  · have H : Hid (cmpD x d = -1) := Lib.hid (if_pos h1)
    go_enter Try.func57, Try.ntmps57
    go_wp2_with fail
    go_ret
    exact ⟨by rw [H.out]; rfl, below_alloc1 _ _⟩
  · by_cases h2 : d < x
    · have H : Hid (cmpD x d = 1) := Lib.hid (by unfold cmpD; rw [if_neg h1, if_pos h2])
      go_enter Try.func57, Try.ntmps57
      go_wp2_with fail
      go_ret
      exact ⟨by rw [H.out]; rfl, below_alloc1 _ _⟩
    · have H : Hid (cmpD x d = 0) := Lib.hid (by unfold cmpD; rw [if_neg h1, if_neg h2])
      go_enter Try.func57, Try.ntmps57
      go_wp2_with fail
      go_ret
      exact ⟨by rw [H.out]; rfl, below_alloc1 _ _⟩

set_option maxRecDepth 100000 in
set_option maxHeartbeats 8000000 in
theorem bsearch_any (w : World) (A : Option Addr) (k : Nat) (s : List Ob.S) (d : Int) (fv : Value) (hfv : fv = .func (.func 57) #[] #[]) (hv : StV w Free A s) (hl : s.length ≤ 1000000) (hs : Ob.Sorted s) :
    Calls Try.prog 56 #[.slice A s.length k, .int .i64 d, fv] w fun e w' => e = .returned (.tuple #[.int .i64 (Ob.lb s d : Nat), .bool (Ob.fnd s d)]) ∧ Below w.heap.size w w' := by
  have HROW := Lib.hid (fun (w' : World) (hb : Below w.heap.size w w') i hi => (hv.keep (free_below hb)).row (w := w') i hi)
  have HS := Lib.hid hs
  clear hv hs
  subst hfv
  go_enter Try.func56, Try.ntmps56
  go_wp2_with fail
  go_loopw [9, 10] (fun iv jv wr => ∃ i j : Nat, i ≤ j ∧ j ≤ s.length ∧ iv = .int .i64 i ∧ jv = .int .i64 j ∧ Hid (i ≤ Ob.lb s d ∧ Ob.lb s d ≤ j) ∧ Below w.heap.size w wr) (fun iv jv _ => (intOf jv).toNat - (intOf iv).toNat)
  case atStart => exact ⟨0, s.length, Nat.zero_le _, Nat.le_refl _, rfl, rfl, Lib.hid ⟨Nat.zero_le _, Ob.lb_le _ _⟩, Below.refl _ _⟩
  case round =>
    obtain ⟨i, j, hij, hj, rfl, rfl, HB, hbw⟩ := hrel
    obtain ⟨wo, rfl⟩ : ∃ wo : World, wo = wr := ⟨_, rfl⟩
    by_cases hlt : i < j
    · have hlt' : (i : Int) < j := by omega
      obtain ⟨m, hm1, hm2, hm⟩ : ∃ m : Nat, i ≤ m ∧ m < j ∧ ((i : Int) + j) / 2 = (m : Int) := ⟨(i + j) / 2, by omega, by omega, by omega⟩
      have hmi : (m : Int) < s.length := by omega
      obtain ⟨b, off, Al, kl, Ad, kd, e, hb, _, d0, d1, d2, d3, hx, hob⟩ := HROW.out _ hbw m (by omega)
      subst e
      have HLT := Lib.hid (fun h => Ob.lb_ge (d := d) HS.out m h (by omega))
      have HGE := Lib.hid (fun h => Ob.lb_lt (d := d) HS.out m h)
      clear hob hx
      by_cases hc : (Ob.it s m).dig < d
      · have HB' : Hid (m + 1 ≤ Ob.lb s d ∧ Ob.lb s d ≤ j) := Lib.hid ⟨by
          apply Decidable.byContradiction; intro hn; have := HLT.out (by omega); omega, HB.out.2⟩
        have hcd : Hid (cmpD (Ob.it s m).dig d = -1) := Lib.hid (if_pos hc)
        clear hc
        generalize Ob.it s m = x at *
        go_wp2_with fail
        go_at_call 57
        refine (cmp_any _ _ _ _ _ _ _ _ _ _).mono ?_
        rintro e w2 ⟨rfl, hb2⟩
        rw [hcd.out]
        have hbw2 := hbw.trans (hb2.mono hbw.size)
        clear hb2
        go_wp2_with fail
        go_roundw
        case rel => exact ⟨m + 1, j, by omega, hj, by go_num, rfl, HB', hbw2⟩
        case measure => simp [intOf]; omega
      · have HB' : Hid (i ≤ Ob.lb s d ∧ Ob.lb s d ≤ m) := Lib.hid ⟨HB.out.1, by
          apply Decidable.byContradiction; intro hn; have := HGE.out (by omega); omega⟩
        have hcd : 0 ≤ cmpD (Ob.it s m).dig d := by unfold cmpD; rw [if_neg hc]; split <;> omega
        clear hc
        generalize Ob.it s m = x at *
        generalize hcc : cmpD x.dig d = cd at *
        have HCC := Lib.hid hcc
        clear hcc
        go_wp2_with fail
        go_at_call 57
        refine (cmp_any _ _ _ _ _ _ _ _ _ _).mono ?_
        rintro e w2 ⟨rfl, hb2⟩
        rw [HCC.out]
        have hbw2 := hbw.trans (hb2.mono hbw.size)
        clear hb2
        go_wp2_with fail
        go_roundw
        case rel => exact ⟨i, m, hm1, by omega, rfl, rfl, HB', hbw2⟩
        case measure => simp [intOf]; omega
    · obtain rfl : i = j := by omega
      have hi : Ob.lb s d = i := by have := HB.out; omega
      have HI := Lib.hid hi
      clear hi HB
      by_cases hil : i < s.length
      · have hil' : (i : Int) < s.length := by omega
        obtain ⟨b, off, Al, kl, Ad, kd, e, hb, _, d0, d1, d2, d3, hx, hob⟩ := HROW.out _ hbw i hil
        subst e
        clear hob hx
        have HF : Hid (Ob.fnd s d = (cmpD (Ob.it s i).dig d == 0)) := Lib.hid (by
          unfold Ob.fnd
          rw [HI.out, decide_eq_true hil, Bool.true_and, Bool.eq_iff_iff]
          simp only [decide_eq_true_eq, beq_iff_eq]
          unfold cmpD
          split
          · omega
          · split <;> omega)
        generalize Ob.it s i = x at *
        generalize hcc : cmpD x.dig d = cd at *
        have HCC := Lib.hid hcc
        clear hcc
        go_wp2_with fail
        go_at_call 57
        refine (cmp_any _ _ _ _ _ _ _ _ _ _).mono ?_
        rintro e w2 ⟨rfl, hb2⟩
        rw [HCC.out]
        have hbw2 := hbw.trans (hb2.mono hbw.size)
        clear hb2
        go_wp2_with fail
        go_ret2
        exact ⟨by rw [HI.out, HF.out]; rfl, hbw2⟩
      · have hil' : ¬ (i : Int) < s.length := by omega
        have hil2 : decide (i < s.length) = false := decide_eq_false hil
        have HF : Hid (Ob.fnd s d = false) := Lib.hid (by unfold Ob.fnd; rw [HI.out, decide_eq_false hil]; rfl)
        clear hil
        go_wp2_with fail
        go_ret2
        exact ⟨by rw [HI.out, HF.out]; rfl, hbw⟩
theorem find_any (w : World) (A : Option Addr) (k : Nat) (s : List Ob.S) (d : Int) (hv : StV w Free A s) (hl : s.length ≤ 1000000) (hs : Ob.Sorted s) :
    Calls Try.prog 43 #[stV A s.length k, .int .i64 d] w fun e w' => e = .returned (.tuple #[.int .i64 (Ob.lb s d : Nat), .bool (Ob.fnd s d)]) ∧ Below w.heap.size w w' := by
  have HB := Lib.hid (fun fv hfv => bsearch_any (w.alloc (.cells #[.slice A s.length k] 24)) A k s d fv hfv (hv.keep (Keeps.alloc _ _ _)) hl hs)
  clear hv hs
  go_enter Try.func43, Try.ntmps43
  go_wp2_with fail
  go_at_call 56
  refine (HB.out _ rfl).mono ?_
  rintro e w1 ⟨rfl, hb1⟩
  go_wp2_with fail
  go_ret2
  exact ⟨rfl, (below_alloc1 _ _).trans (hb1.mono (by simp))⟩
end Go.Proofs.Ytiilhnfdlpgllaa
