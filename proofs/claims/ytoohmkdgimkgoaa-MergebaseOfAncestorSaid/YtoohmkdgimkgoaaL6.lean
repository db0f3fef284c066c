/-
  MergebaseOfAncestor: the law's walk.
-/
import Derived.Test.YtoohmkdgimkgoaaW17
namespace Go.Proofs.Ytoohmkdgimkgoaa
open Go.RowKit Go.V
set_option linter.unusedVariables false

set_option maxRecDepth 100000 in
set_option maxHeartbeats 4000000 in
theorem law6_any (w : World) (A : Option Addr) (k : Nat) (l : List Hs.Cm) (a b : Int) (hv : CV w A l) (hl : l.length ≤ 9223372036854775807) :
    Calls Try.prog 6 #[.slice A l.length k, .int .i64 a, .int .i64 b] w fun e w' => e = .returned (.bool true) ∧ Below w.heap.size w w' := by
  have HI := Lib.hid (fun (w1 : World) h => isAncestor_any w1 A k l a b h hl)
  have HB := Lib.hid (fun (w1 : World) h => bases_any w1 A k l a b h hl)
  have HM := Lib.hid (mcheck_cases l a b)
  have HRI := Lib.hid (show isRes l a b = if (mcheck l a b).1 ≠ 0 then (false, mcheck l a b) else (Hs.reach l b.toNat a.toNat, (0, 0)) from rfl)
  have HRB := Lib.hid (show basesRes l a b = if (mcheck l a b).1 ≠ 0 then ([], mcheck l a b) else (Hs.ints (Hs.best l [a.toNat, b.toNat]), (0, 0)) from rfl)
  go_enter Try.func6, Try.ntmps6
  go_wp2_with fail
  go_at_call 26
  refine (mexample_any _).mono ?_
  rintro e w1 ⟨rfl, hb1⟩
  have hsz1 := hb1.size
  go_wp2_with fail
  go_at_call 27
  refine (HI.out _ (hv.below hb1)).mono ?_
  generalize hri : isRes l a b = ri at *
  obtain ⟨is, cf, jf⟩ := ri
  rintro e w2 ⟨rfl, hb2'⟩
  have hb2 := hb1.trans (hb2'.mono hsz1)
  have hsz2 := hb2.size
  have hb3 := hb2.alloc hsz2 (.cells #[.int .i64 cf, .int .i64 jf] 26)
  have HRI2 := Lib.hid (hri.symm.trans hri)
  clear hb2' hb1 hsz1 hri HRI2
  go_wp2_with fail
  go_at_call 28
  refine (HB.out _ (hv.below hb3)).mono ?_
  generalize hrb : basesRes l a b = rb at *
  obtain ⟨xs, cg, jg⟩ := rb
  rintro e w4 ⟨A4, c4, rfl, hc4, hv4, hb4'⟩
  have hb4 := hb3.trans (hb4'.mono hb3.size)
  have hv4' := hv4.alloc (.cells #[.int .i64 cg, .int .i64 jg] 26)
  have hblk := ((Blk.new w2 26 #[.int .i64 cf, .int .i64 jf]).below hb4' (by simp))
  have hsz4 := hb4.size
  have hb5 := hb4.alloc hsz4 (.cells #[.int .i64 cg, .int .i64 jg] 26)
  have q0 := hblk.cell 0
  simp only [List.getElem?_toArray, List.getElem?_cons_zero] at q0
  have hlt := hblk.lt
  clear hb4' hb3 hb2 HI HB hv4 hblk hrb
  simp only at hc4 hv4'
  rcases HM.out with hbad | ⟨hok, he, m, n, rfl, rfl, hm, hn⟩
  · have h1 := HRI.out
    have h2 := HRB.out
    rw [if_pos hbad] at h1 h2
    generalize mcheck l a b = r at *
    obtain ⟨c, i⟩ := r
    injection h1 with h1 h3
    injection h3 with h3 h4
    injection h2 with h2 h5
    injection h5 with h5 h6
    subst h1 h2 h3 h4 h5 h6
    have ha3 : (cg == 0) = false := by simpa using hbad
    have ha4 : (cg != 0) = true := by simpa using hbad
    clear hbad HM HRI HRB
    go_wp2_with fail
    go_ret
    exact ⟨rfl, hb5⟩
  · have h1 := HRI.out
    have h2 := HRB.out
    rw [he, if_neg (by simp)] at h1 h2
    injection h1 with h1 h3
    injection h3 with h3 h4
    injection h2 with h2 h5
    injection h5 with h5 h6
    simp only [Int.toNat_natCast] at h1 h2
    subst h3 h4 h5 h6
    have hba := hok.best_ancestor m n hm hn
    clear he HM HRI HRB
    by_cases hr : Hs.reach l n m = true
    · rw [hr] at h1
      rw [hba.1 hr] at h2
      subst h1 h2
      obtain ⟨b', off', rfl, hb', hx⟩ := hv4'.at_ 0 (by simp [Hs.ints])
      simp only [Hs.ints, List.map_cons, List.map_nil, List.getElem_cons_zero, Nat.add_zero] at hx
      simp only [Hs.ints, List.map_cons, List.map_nil, List.length_cons, List.length_nil, Nat.zero_add] at hc4 ⊢
      clear hba hr
      go_wp2_with fail
      go_ret
      exact ⟨rfl, hb5⟩
    · have hrf : Hs.reach l n m = false := by simpa using hr
      rw [hrf] at h1
      have hne : Hs.best l [m, n] ≠ [m] := fun e => hr (hba.2 e)
      subst h1 h2
      clear hba hr hrf
      generalize Hs.best l [m, n] = bs at *
      by_cases hlen : bs.length = 1
      · obtain ⟨y, rfl⟩ : ∃ y, bs = [y] := by
          match bs, hlen with
          | [y], _ => exact ⟨y, rfl⟩
        have hy : y ≠ m := fun e => hne (by rw [e])
        obtain ⟨b', off', rfl, hb', hx⟩ := hv4'.at_ 0 (by simp [Hs.ints])
        simp only [Hs.ints, List.map_cons, List.map_nil, List.getElem_cons_zero, Nat.add_zero] at hx
        simp only [Hs.ints, List.map_cons, List.map_nil, List.length_cons, List.length_nil, Nat.zero_add] at hc4 ⊢
        have hy1 : ((y : Int) == (m : Int)) = false := by simp; omega
        have hy2 : (y == m) = false := by simpa using hy
        clear hne hlen hy
        go_wp2_with fail
        go_ret
        exact ⟨rfl, hb5⟩
      · have hl1 : ((bs.length : Int) == 1) = false := by simp; omega
        have hl2 : (bs.length == 1) = false := by simpa using hlen
        simp only [Hs.ints_length] at hc4 ⊢
        clear hne hlen
        go_wp2_with fail
        go_ret
        exact ⟨rfl, hb5⟩
end Go.Proofs.Ytoohmkdgimkgoaa
