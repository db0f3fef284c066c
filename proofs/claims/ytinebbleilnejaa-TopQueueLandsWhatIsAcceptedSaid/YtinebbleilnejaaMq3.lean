/-
  The merge queue: walks of batchbisect.Run, below and their closures.
-/
import Derived.Test.YtinebbleilnejaaMq2
namespace Go.Proofs.Ytinebbleilnejaa
open Go.RowKit Go.V
set_option linter.unusedVariables false
theorem f18_any (w : World) (a : Nat) (A : Option Addr) (s : List Int) (k : Nat) (x : Int) (hc : w.cell? ⟨a, 0, none⟩ = some (.slice A s.length k)) (hv : IV w A s) (hl : s.length ≤ 9223372036854775807) :
    Calls Try.prog 18 #[.int .i64 x, .pointer (some ⟨a, 0, none⟩)] w fun e w' => e = .returned (.bool (s.contains x)) ∧ w = w' := by
  have HC := Lib.hid (contains_any w A k s x hv hl)
  clear hv
  generalize s.contains x = q at *
  go_enter Try.func18, Try.ntmps18
  go_wp2_with fail
  go_at_call 19
  with_reducible refine HC.out.mono ?_
  rintro e w' ⟨rfl, rfl⟩
  go_wp2_with fail
  go_ret
  exact ⟨rfl, rfl⟩
theorem f24_any (w : World) (a b : Nat) (A : Option Addr) (s : List Int) (k : Nat) (n0 x : Int) (hc : w.cell? ⟨a, 0, none⟩ = some (.slice A s.length k)) (hb : w.cell? ⟨b, 0, none⟩ = some (.int .i64 n0)) (hv : IV w A s) (hl : s.length ≤ 9223372036854775807) :
    Calls Try.prog 24 #[.int .i64 x, .pointer (some ⟨b, 0, none⟩), .pointer (some ⟨a, 0, none⟩)] w fun e w' => e = .returned (.bool (decide (x < n0) || s.contains x)) ∧ w = w' := by
  have HC := Lib.hid (contains_any w A k s x hv hl)
  clear hv
  generalize s.contains x = q at *
  by_cases hx : x < n0
  · have hd : decide (x < n0) = true := decide_eq_true hx
    go_enter Try.func24, Try.ntmps24
    go_wp2_with fail
    go_ret
    exact ⟨by rw [hd]; rfl, rfl⟩
  · have hd : decide (x < n0) = false := decide_eq_false hx
    go_enter Try.func24, Try.ntmps24
    go_wp2_with (first | (go_at_call 19; with_reducible refine HC.out.mono ?_; rintro e w' ⟨rfl, rfl⟩) | (with_reducible refine HC.out.mono ?_; rintro e w' ⟨rfl, rfl⟩))
    go_ret
    exact ⟨by rw [hd]; rfl, rfl⟩
/-- A function value that tells whether a change is in. -/
def Pred (w : World) (fv : Value) (p : Int → Bool) : Prop :=
  (∃ (a : Nat) (A : Option Addr) (s : List Int) (k : Nat), fv = .func (.func 18) #[] #[.pointer (some ⟨a, 0, none⟩)] ∧ a < w.heap.size ∧ w.cell? ⟨a, 0, none⟩ = some (.slice A s.length k) ∧ IV w A s ∧ s.length ≤ 9223372036854775807 ∧ p = fun x => s.contains x) ∨
  (∃ (a b : Nat) (A : Option Addr) (s : List Int) (k : Nat) (n0 : Int), fv = .func (.func 24) #[] #[.pointer (some ⟨b, 0, none⟩), .pointer (some ⟨a, 0, none⟩)] ∧ a < w.heap.size ∧ b < w.heap.size ∧ w.cell? ⟨a, 0, none⟩ = some (.slice A s.length k) ∧
    w.cell? ⟨b, 0, none⟩ = some (.int .i64 n0) ∧ IV w A s ∧ s.length ≤ 9223372036854775807 ∧ p = fun x => decide (x < n0) || s.contains x)
theorem Pred.below {w w' : World} {fv : Value} {p : Int → Bool} (h : Pred w fv p) (hb : Below w.heap.size w w') : Pred w' fv p := by
  rcases h with ⟨a, A, s, k, e, ha, hc, hv, hl, hp⟩ | ⟨a, b, A, s, k, n0, e, ha, hb', hc, hn, hv, hl, hp⟩
  · exact .inl ⟨a, A, s, k, e, Nat.lt_of_lt_of_le ha hb.size, (hb.cell (p := ⟨a, 0, none⟩) ha).trans hc, hv.below hb, hl, hp⟩
  · exact .inr ⟨a, b, A, s, k, n0, e, Nat.lt_of_lt_of_le ha hb.size, Nat.lt_of_lt_of_le hb' hb.size, (hb.cell (p := ⟨a, 0, none⟩) ha).trans hc, (hb.cell (p := ⟨b, 0, none⟩) hb').trans hn, hv.below hb, hl, hp⟩
theorem f33_any (w : World) (g : Nat) (fv : Value) (p : Int → Bool) (x : Int) (hp : Pred w fv p) (hc : w.cell? ⟨g, 0, none⟩ = some fv) :
    Calls Try.prog 33 #[.int .i64 x, .pointer (some ⟨g, 0, none⟩)] w fun e w' => e = .returned (.bool (!p x)) ∧ w = w' := by
  rcases hp with ⟨a, A, s, k, rfl, ha, hca, hv, hl, rfl⟩ | ⟨a, b, A, s, k, n0, rfl, ha, hb', hca, hn, hv, hl, rfl⟩
  · have HC := Lib.hid (f18_any w a A s k x hca hv hl)
    clear hv hca
    show Calls Try.prog 33 #[.int .i64 x, .pointer (some ⟨g, 0, none⟩)] w fun e w' => e = .returned (.bool (!(s.contains x))) ∧ w = w'
    generalize s.contains x = q at *
    go_enter Try.func33, Try.ntmps33
    go_wp2_with fail
    go_at_call 18
    with_reducible refine HC.out.mono ?_
    rintro e w' ⟨rfl, rfl⟩
    go_wp2_with fail
    go_ret
    exact ⟨rfl, rfl⟩
  · have HC := Lib.hid (f24_any w a b A s k n0 x hca hn hv hl)
    clear hv hca hn
    show Calls Try.prog 33 #[.int .i64 x, .pointer (some ⟨g, 0, none⟩)] w fun e w' => e = .returned (.bool (!(decide (x < n0) || s.contains x))) ∧ w = w'
    generalize (decide (x < n0) || s.contains x) = q at *
    go_enter Try.func33, Try.ntmps33
    go_wp2_with fail
    go_at_call 24
    with_reducible refine HC.out.mono ?_
    rintro e w' ⟨rfl, rfl⟩
    go_wp2_with fail
    go_ret
    exact ⟨rfl, rfl⟩
set_option maxHeartbeats 4000000 in
theorem f46_any (w : World) (A : Option Addr) (k : Nat) (l : List Int) (g : Nat) (p : Int → Bool) (fn : Value) (hfn : fn = .func (.func 33) #[] #[.pointer (some ⟨g, 0, none⟩)]) (hv : IV w A l) (hl : l.length ≤ 9223372036854775807)
    (HP : ∀ x, Calls Try.prog 33 #[.int .i64 x, .pointer (some ⟨g, 0, none⟩)] w fun e w' => e = .returned (.bool (!p x)) ∧ w = w') :
    Calls Try.prog 46 #[.slice A l.length k, fn] w fun e w' => (∃ r : Int, e = .returned (.int .i64 r) ∧ decide (0 ≤ r) = !l.all p) ∧ w = w' := by
  have HV := Lib.hid hv
  replace HP := Lib.hid HP
  clear hv
  subst hfn
  go_enter Try.func46, Try.ntmps46
  go_wp2_with fail
  go_loopw [8] (fun iv wr => ∃ i : Nat, i ≤ l.length ∧ iv = .int .i64 i ∧ w = wr ∧ Hid (∀ (j : Nat) (h : j < l.length), j < i → p l[j] = true)) (fun iv _ => l.length - (intOf iv).toNat)
  case atStart => exact ⟨0, Nat.zero_le _, rfl, rfl, Lib.hid (fun j _ h => by omega)⟩
  case round =>
    obtain ⟨i, hi, rfl, rfl, H⟩ := hrel
    by_cases hlt : i < l.length
    · have hlt' : (i : Int) < l.length := by omega
      obtain ⟨b, off, e, hb, d0⟩ := HV.out.at_ i hlt
      subst e
      have HC := Lib.hid (HP.out l[i])
      have HN : Hid (p l[i] = true → ∀ (j : Nat) (h : j < l.length), j < i + 1 → p l[j] = true) := Lib.hid (fun hq j h hj => by
        by_cases e : j = i
        · subst e; exact hq
        · exact H.out j h (by omega))
      have HY : Hid (p l[i] = false → l.all p = false) := Lib.hid (fun hq => by
        rw [Bool.eq_false_iff]; intro h; rw [List.all_eq_true] at h; rw [h _ (List.getElem_mem hlt)] at hq; cases hq)
      generalize p l[i] = q at *
      generalize l[i] = y at *
      cases q with
      | true =>
        have HN2 := Lib.hid (HN.out rfl)
        clear HN HY
        go_wp2_with (first | (go_at_call 33; with_reducible refine HC.out.mono ?_; rintro e w' ⟨rfl, rfl⟩))
        go_roundw
        case rel => exact ⟨i + 1, by omega, by go_num, (by first | exact rfl | trivial), HN2⟩
        case measure => simp [intOf]; omega
      | false =>
        have HY2 := Lib.hid (HY.out rfl)
        clear HN HY
        go_wp2_with (first | (go_at_call 33; with_reducible refine HC.out.mono ?_; rintro e w' ⟨rfl, rfl⟩))
        go_ret
        exact ⟨⟨_, rfl, by rw [HY2.out]; exact decide_eq_true (by omega)⟩, rfl⟩
    · obtain rfl : i = l.length := by omega
      have HF := Lib.hid (show l.all p = true from by
        rw [List.all_eq_true]; intro x hx; obtain ⟨j, hj, e⟩ := List.getElem_of_mem hx; subst e; exact H.out j hj hj)
      go_wp2_with fail
      go_ret
      exact ⟨⟨_, rfl, by rw [HF.out]; rfl⟩, rfl⟩
theorem f32_any (w : World) (A : Option Addr) (k : Nat) (l : List Int) (g : Nat) (p : Int → Bool) (fn : Value) (hfn : fn = .func (.func 33) #[] #[.pointer (some ⟨g, 0, none⟩)]) (hv : IV w A l) (hl : l.length ≤ 9223372036854775807)
    (HP : ∀ x, Calls Try.prog 33 #[.int .i64 x, .pointer (some ⟨g, 0, none⟩)] w fun e w' => e = .returned (.bool (!p x)) ∧ w = w') :
    Calls Try.prog 32 #[.slice A l.length k, fn] w fun e w' => e = .returned (.bool (!l.all p)) ∧ w = w' := by
  have HI := Lib.hid (f46_any w A k l g p fn hfn hv hl HP)
  clear hv HP
  generalize (!l.all p) = q at *
  subst hfn
  go_enter Try.func32, Try.ntmps32
  go_wp2_with fail
  go_at_call 46
  with_reducible refine HI.out.mono ?_
  rintro e w' ⟨⟨r, rfl, hr⟩, rfl⟩
  subst hr
  go_wp2_with fail
  go_ret
  exact ⟨rfl, rfl⟩
theorem f31_any (w : World) (A : Option Addr) (k : Nat) (l : List Int) (g : Nat) (fv : Value) (p : Int → Bool) (hv : IV w A l) (hl : l.length ≤ 9223372036854775807) (hp : Pred w fv p) (hc : w.cell? ⟨g, 0, none⟩ = some fv) :
    Calls Try.prog 31 #[.slice A l.length k, .pointer (some ⟨g, 0, none⟩)] w fun e w' => e = .returned (.bool (l.all p)) ∧ w = w' := by
  have HI := Lib.hid (fun fn hfn => f32_any w A k l g p fn hfn hv hl (fun x => f33_any w g fv p x hp hc))
  clear hv hp hc
  have HQ := Lib.hid (show (!(!l.all p)) = l.all p from Bool.not_not _)
  generalize hq : l.all p = q at *
  go_enter Try.func31, Try.ntmps31
  go_wp2_with fail
  go_at_call 32
  with_reducible refine (HI.out _ rfl).mono ?_
  rintro e w' ⟨rfl, rfl⟩
  go_wp2_with fail
  go_ret
  exact ⟨by rw [← HQ.out]; rfl, rfl⟩
set_option maxHeartbeats 4000000 in
theorem f45_any (w : World) (A : Option Addr) (k : Nat) (cu : List (List Int)) (g : Nat) (fv : Value) (p : Int → Bool) (fn : Value) (hfn : fn = .func (.func 31) #[] #[.pointer (some ⟨g, 0, none⟩)]) (hv : CuV w A cu) (hl : cu.length ≤ 9223372036854775807) (hp : Pred w fv p) (hc : w.cell? ⟨g, 0, none⟩ = some fv) :
    Calls Try.prog 45 #[.slice A cu.length k, fn] w fun e w' => (∃ r : Int, e = .returned (.int .i64 r) ∧ decide (0 ≤ r) = cu.any fun c => c.all p) ∧ w = w' := by
  have HV := Lib.hid hv
  have HP := Lib.hid (fun A k l hv hl => f31_any w A k l g fv p hv hl hp hc)
  clear hv hp hc
  subst hfn
  go_enter Try.func45, Try.ntmps45
  go_wp2_with fail
  go_loopw [8] (fun iv wr => ∃ i : Nat, i ≤ cu.length ∧ iv = .int .i64 i ∧ w = wr ∧ Hid (∀ (j : Nat) (h : j < cu.length), j < i → cu[j].all p = false)) (fun iv _ => cu.length - (intOf iv).toNat)
  case atStart => exact ⟨0, Nat.zero_le _, rfl, rfl, Lib.hid (fun j _ h => by omega)⟩
  case round =>
    obtain ⟨i, hi, rfl, rfl, H⟩ := hrel
    by_cases hlt : i < cu.length
    · have hlt' : (i : Int) < cu.length := by omega
      obtain ⟨b, off, Ap, kp, e, hb, d0, hnl, hiv⟩ := HV.out.row i hlt
      subst e
      have HC := Lib.hid (HP.out Ap kp cu[i] hiv hnl)
      have HN : Hid (cu[i].all p = false → ∀ (j : Nat) (h : j < cu.length), j < i + 1 → cu[j].all p = false) := Lib.hid (fun hq j h hj => by
        by_cases e : j = i
        · subst e; exact hq
        · exact H.out j h (by omega))
      have HY : Hid (cu[i].all p = true → (cu.any fun c => c.all p) = true) := Lib.hid (fun hq => by
        rw [List.any_eq_true]; exact ⟨_, List.getElem_mem hlt, hq⟩)
      clear hiv
      generalize cu[i].all p = q at *
      generalize cu[i].length = n at *
      cases q with
      | false =>
        have HN2 := Lib.hid (HN.out rfl)
        clear HN HY
        go_wp2_with (first | (go_at_call 31; with_reducible refine HC.out.mono ?_; rintro e w' ⟨rfl, rfl⟩))
        go_roundw
        case rel => exact ⟨i + 1, by omega, by go_num, (by first | exact rfl | trivial), HN2⟩
        case measure => simp [intOf]; omega
      | true =>
        have HY2 := Lib.hid (HY.out rfl)
        clear HN HY
        go_wp2_with (first | (go_at_call 31; with_reducible refine HC.out.mono ?_; rintro e w' ⟨rfl, rfl⟩))
        go_ret
        exact ⟨⟨_, rfl, by rw [HY2.out]; exact decide_eq_true (by omega)⟩, rfl⟩
    · obtain rfl : i = cu.length := by omega
      have HF := Lib.hid (show (cu.any fun c => c.all p) = false from by
        rw [List.any_eq_false]; intro x hx; obtain ⟨j, hj, e⟩ := List.getElem_of_mem hx; subst e; rw [H.out j hj hj]; simp)
      go_wp2_with fail
      go_ret
      exact ⟨⟨_, rfl, by rw [HF.out]; rfl⟩, rfl⟩
theorem f30_any (w : World) (A : Option Addr) (k : Nat) (cu : List (List Int)) (g : Nat) (fv : Value) (p : Int → Bool) (fn : Value) (hfn : fn = .func (.func 31) #[] #[.pointer (some ⟨g, 0, none⟩)]) (hv : CuV w A cu) (hl : cu.length ≤ 9223372036854775807) (hp : Pred w fv p) (hc : w.cell? ⟨g, 0, none⟩ = some fv) :
    Calls Try.prog 30 #[.slice A cu.length k, fn] w fun e w' => e = .returned (.bool (cu.any fun c => c.all p)) ∧ w = w' := by
  have HI := Lib.hid (f45_any w A k cu g fv p fn hfn hv hl hp hc)
  clear hv hp hc
  generalize (cu.any fun c => c.all p) = q at *
  subst hfn
  go_enter Try.func30, Try.ntmps30
  go_wp2_with fail
  go_at_call 45
  with_reducible refine HI.out.mono ?_
  rintro e w' ⟨⟨r, rfl, hr⟩, rfl⟩
  subst hr
  go_wp2_with fail
  go_ret
  exact ⟨rfl, rfl⟩
theorem brun_any (w : World) (A : Option Addr) (k : Nat) (cu : List (List Int)) (fv : Value) (p : Int → Bool) (hv : CuV w A cu) (hl : cu.length ≤ 9223372036854775807) (hp : Pred w fv p) :
    Calls Try.prog 17 #[.slice A cu.length k, fv] w fun e w' => e = .returned (.bool (cu.any fun c => c.all p)) ∧ Below w.heap.size w w' := by
  have hb0 := below_alloc1 w (.cells #[fv] 61)
  have b0 := Blk.new w 61 #[fv]
  have HI := Lib.hid (fun fn hfn => f30_any (w.alloc (.cells #[fv] 61)) A k cu w.heap.size fv p fn hfn (hv.below hb0) hl (hp.below hb0) ((b0.cell 0).trans rfl))
  have hone : fv.oneCell' = true := by
    rcases hp with ⟨a, A, s, k, rfl, _⟩ | ⟨a, b, A, s, k, n0, rfl, _⟩ <;> rfl
  have hcells : fv.cells = #[fv] := by
    rcases hp with ⟨a, A, s, k, rfl, _⟩ | ⟨a, b, A, s, k, n0, rfl, _⟩ <;> rfl
  clear hv hp
  generalize (cu.any fun c => c.all p) = q at *
  go_enter Try.func17, Try.ntmps17
  go_wp2_with fail
  go_at_call 30
  with_reducible refine (HI.out _ rfl).mono ?_
  rintro e w' ⟨rfl, rfl⟩
  go_wp2_with fail
  go_ret
  exact ⟨rfl, hb0⟩
end Go.Proofs.Ytinebbleilnejaa
