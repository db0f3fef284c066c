/-
  The merge queue: walk of find.
-/
import Derived.Test.YtinebbleilnejaaMqW
namespace Go.Proofs.Ytinebbleilnejaa
open Go.RowKit Go.V
set_option linter.unusedVariables false
theorem f40_any (w : World) (a : Nat) (x c : Int) (t p f : Bool) (A : Option Addr) (n k : Nat) (hc : w.cell? ⟨a, 0, none⟩ = some (.int .i64 x)) (ha : a < w.heap.size) :
    Calls Try.prog 40 #[.agg #[.int .i64 c, .int .i64 0, .bool t, .bool p, .bool f, .slice A n k], .pointer (some ⟨a, 0, none⟩)] w fun e w' => e = .returned (.bool (c == x)) ∧ Below w.heap.size w w' := by
  have hb := below_alloc1 w (.cells #[.int .i64 c, .int .i64 0, .bool t, .bool p, .bool f, .slice A n k] 38)
  have hc2 : (w.alloc (.cells #[.int .i64 c, .int .i64 0, .bool t, .bool p, .bool f, .slice A n k] 38)).cell? ⟨a, 0, none⟩ = some (.int .i64 x) := (hb.cell (p := ⟨a, 0, none⟩) ha).trans hc
  generalize hq : (c == x) = q
  go_enter Try.func40, Try.ntmps40
  go_wp2_with fail
  go_ret
  exact ⟨rfl, hb⟩
/-- The place of a change, or -1. -/
def FiAt (L : List (Mq.E × Value)) (x r : Int) : Prop :=
  (r = -1 ∧ ∀ j (h : j < L.length), L[j].1.c ≠ x) ∨ ∃ j : Nat, ∃ h : j < L.length, r = (j : Int) ∧ L[j].1.c = x ∧ ∀ i (hi : i < j), L[i].1.c ≠ x
set_option maxRecDepth 100000 in
set_option maxHeartbeats 8000000 in
theorem f39_any (B : Nat) (w : World) (gQ : Nat) (win : Int) (ve vl vr : Value) (L : List (Mq.E × Value)) (la re : List Int) (a : Nat) (x : Int) (fn : Value) (hfn : fn = .func (.func 40) #[] #[.pointer (some ⟨a, 0, none⟩)])
    (hq : QS B w gQ win ve L vl vr la re) (hl : L.length ≤ 1000) (hc : w.cell? ⟨a, 0, none⟩ = some (.int .i64 x)) (ha : a < w.heap.size) :
    Calls Try.prog 39 #[ve, fn] w fun e w' => (∃ r : Int, e = .returned (.int .i64 r) ∧ FiAt L x r) ∧ Below w.heap.size w w' := by
  have HQ := Lib.hid (fun (w1 : World) (hb : Below w.heap.size w w1) => hq.below hb)
  have HC := Lib.hid (fun (w1 : World) (hb : Below w.heap.size w w1) c t p f A n k => f40_any w1 a x c t p f A n k ((hb.cell (p := ⟨a, 0, none⟩) ha).trans hc) (Nat.lt_of_lt_of_le ha hb.size))
  obtain ⟨A, ca, rfl⟩ := hq.len
  clear hq hc ha
  subst hfn
  go_enter Try.func39, Try.ntmps39
  go_wp2_with fail
  go_loopw [8] (fun iv wr => ∃ i : Nat, i ≤ L.length ∧ iv = .int .i64 i ∧ Below w.heap.size w wr ∧ Hid (∀ (j : Nat) (h : j < L.length), j < i → L[j].1.c ≠ x)) (fun iv _ => L.length - (intOf iv).toNat)
  case atStart => exact ⟨0, Nat.zero_le _, rfl, Below.refl _ _, Lib.hid (fun j _ h => by omega)⟩
  case round =>
    obtain ⟨i, hi, rfl, hb, H⟩ := hrel
    obtain ⟨wo, rfl⟩ : ∃ wo : World, wo = wr := ⟨_, rfl⟩
    by_cases hlt : i < L.length
    · have hlt' : (i : Int) < L.length := by omega
      obtain ⟨g, c, e, hg, _, _, d0, d1, d2, d3, d4, d5, _⟩ := (HQ.out wo hb).row i hlt
      obtain ⟨Av, cv, ev, _⟩ := own_form ((HQ.out wo hb).a i hlt)
      injection e with e1 _ e3
      subst e1
      subst e3
      have HN : Hid (L[i].1.c ≠ x → ∀ (j : Nat) (h : j < L.length), j < i + 1 → L[j].1.c ≠ x) := Lib.hid (fun hq j h hj => by
        by_cases e : j = i
        · subst e; exact hq
        · exact H.out j h (by omega))
      have HY : Hid (L[i].1.c = x → FiAt L x (i : Int)) := Lib.hid (fun hq => .inr ⟨i, hlt, rfl, hq, fun j hj => H.out j (by omega) hj⟩)
      rw [ev] at d5
      generalize L[i] = y at *
      obtain ⟨⟨yc, yt, yp, yf, ya⟩, yv⟩ := y
      try simp only at d0 d1 d2 d3 d4 d5
      try simp only at HN HY
      have HC2 := Lib.hid (HC.out wo hb yc yt yp yf Av ya.length cv)
      try simp only at HC2
      by_cases hxy : yc = x
      · have hb2 : (yc == x) = true := by simp [hxy]
        rw [hb2] at HC2
        have HY2 := Lib.hid (HY.out hxy)
        clear hxy HN HY hb2
        go_wp2_with (first | (go_at_call 40; with_reducible refine HC2.out.mono ?_; rintro e w' ⟨rfl, hb3⟩))
        go_ret
        exact ⟨⟨_, rfl, HY2.out⟩, hb.trans (hb3.mono hb.size)⟩
      · have hb2 : (yc == x) = false := by simp [hxy]
        rw [hb2] at HC2
        have HN2 := Lib.hid (HN.out hxy)
        clear hxy HN HY hb2
        go_wp2_with (first | (go_at_call 40; with_reducible refine HC2.out.mono ?_; rintro e w' ⟨rfl, hb3⟩))
        go_roundw
        case rel => exact ⟨i + 1, by omega, by go_num, hb.trans (hb3.mono hb.size), HN2⟩
        case measure => simp [intOf]; omega
    · obtain rfl : i = L.length := by omega
      go_wp2_with fail
      go_ret
      exact ⟨⟨_, rfl, .inl ⟨rfl, fun j h => H.out j h h⟩⟩, hb⟩
theorem find_any (B : Nat) (w : World) (gQ : Nat) (win : Int) (ve vl vr : Value) (L : List (Mq.E × Value)) (la re : List Int) (x : Int)
    (hq : QS B w gQ win ve L vl vr la re) (hl : L.length ≤ 1000) :
    Calls Try.prog 25 #[.pointer (some ⟨gQ, 0, none⟩), .int .i64 x] w fun e w' => (∃ r : Int, e = .returned (.int .i64 r) ∧ FiAt L x r) ∧ Below w.heap.size w w' := by
  have hb := below_alloc1 w (.cells #[.int .i64 x] 3)
  have b1 := Blk.new w 3 #[.int .i64 x]
  have hq1 := hq.below hb
  have HI := Lib.hid (fun fn hfn => f39_any B _ gQ win ve vl vr L la re w.heap.size x fn hfn hq1 hl ((b1.cell 0).trans rfl) b1.lt)
  have d0 : (w.alloc (.cells #[.int .i64 x] 3)).cell? ⟨gQ, 0, none⟩ = some ve := (hq1.q.cell 0).trans rfl
  clear hq hq1
  go_enter Try.func25, Try.ntmps25
  go_wp2_with fail
  go_at_call 39
  with_reducible refine (HI.out _ rfl).mono ?_
  rintro e w' ⟨⟨r, rfl, hr⟩, hb2⟩
  go_wp2_with fail
  go_ret
  exact ⟨⟨r, rfl, hr⟩, hb.trans (hb2.mono hb.size)⟩
end Go.Proofs.Ytinebbleilnejaa
