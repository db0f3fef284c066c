/-
  Histories: walk of the law's 'line'.
-/
import Derived.Test.YtoohmkdgimkgoaaW28
import Derived.Test.YtoohmkdgimkgoaaW12
namespace Hs
def lineC (i : Nat) : Cm := ⟨if i = 0 then [] else [(i : Int) - 1], 0, i, 0, ⟨#[]⟩⟩
def lineL (n : Nat) : List Cm := (List.range n).map lineC
@[simp] theorem lineL_length (n : Nat) : (lineL n).length = n := by simp [lineL]
theorem lineL_succ (n : Nat) : lineL (n + 1) = lineL n ++ [lineC n] := by simp [lineL, List.range_succ]
end Hs
namespace Go.Proofs.Ytoohmkdgimkgoaa
open Go.RowKit Go.V
set_option linter.unusedVariables false

theorem info41 : (Try.prog.info? 41).map (fun i => (i.zero, i.size, i.bytes)) = some (some (.agg #[.slice none 0 0, .int .i64 0, .int .i64 0, .int .i64 0, .string ByteArray.empty]), 5, 64) := by kernel_rfl
/-- A commit as five cells, its parents a block of the call's own. -/
def LnR (w : World) (c : Hs.Cm) (cs : List Value) : Prop :=
  ∃ A k, cs = [.slice A c.par.length k, .int .i64 c.au, .int .i64 c.tm, .int .i64 c.tr, .string c.msg] ∧ CoOk c ∧ (c.par = [] ∨ ∃ g, A = some ⟨g, 0, none⟩ ∧ Blk w g 3 (intsA c.par))
theorem LnR.len {w : World} (c : Hs.Cm) (cs : List Value) (h : LnR w c cs) : cs.length = 5 := by obtain ⟨A, k, rfl, _⟩ := h; rfl
theorem LnR.keep {w w' : World} (hk : ∀ g cs, Blk w g 3 cs → Blk w' g 3 cs) (c : Hs.Cm) (cs : List Value) (h : LnR w c cs) : LnR w' c cs := by
  obtain ⟨A, k, e, h1, h2⟩ := h
  refine ⟨A, k, e, h1, ?_⟩
  rcases h2 with h2 | ⟨g, e2, h2⟩
  · exact .inl h2
  · exact .inr ⟨g, e2, hk _ _ h2⟩
theorem LnR.co {w : World} (c : Hs.Cm) (cs : List Value) (h : LnR w c cs) : CoR w w.heap.size c cs := by
  obtain ⟨A, k, e, h1, h2⟩ := h
  refine ⟨A, k, e, h1, ?_⟩
  rcases h2 with h2 | ⟨g, rfl, h2⟩
  · rw [h2]; exact SV.nil
  · exact SV.of_ints h2
theorem LnR.one {w : World} (c : Hs.Cm) (cs : List Value) (h : LnR w c cs) : ∀ u ∈ cs, u.oneCell' = true := by
  obtain ⟨A, k, rfl, _⟩ := h
  intro u hu
  simp at hu
  rcases hu with rfl | rfl | rfl | rfl | rfl <;> rfl
structure LineSt (w wr : World) (i : Nat) (Ao : Option Addr) (co : Nat) (xs : List Value) : Prop where
  own : wr.ownsRow w.heap.size 41 5 (.slice Ao i co) i xs
  rows : RowsR (LnR wr) (Hs.lineL i) xs
  bel : Below w.heap.size w wr
theorem LineSt.alloc {w wr : World} {i : Nat} {Ao : Option Addr} {co : Nat} {xs : List Value} (h : LineSt w wr i Ao co xs) (o : Obj) : LineSt w (wr.alloc o) i Ao co xs :=
  ⟨h.own.alloc o, h.rows.mono (LnR.keep fun g cs hb => hb.alloc o), h.bel.alloc h.bel.size o⟩
theorem LineSt.app {w wr w' : World} {i c' : Nat} {Ao A' : Option Addr} {co : Nat} {xs cs : List Value} (h : LineSt w wr i Ao co xs) (hc : LnR wr (Hs.lineC i) cs)
    (hg : wr.grownBy w' (Value.slice Ao i co).ownBlock) (hown : w'.ownsRow w.heap.size 41 5 (.slice A' (i + 1) c') (i + 1) (xs ++ cs)) : LineSt w w' (i + 1) A' c' (xs ++ cs) := by
  have hk : ∀ g cs, Blk wr g 3 cs → Blk w' g 3 cs := fun g cs hb => hb.grown hg (own_blk_ne h.own hb (by decide))
  refine ⟨hown, ?_, h.bel.grown hg h.bel.size (fun k hk => (h.own.lt k hk).1)⟩
  rw [Hs.lineL_succ]
  exact (h.rows.mono (LnR.keep hk)).append (RowsR.one (LnR.keep hk _ _ hc))
theorem okLine (i : Nat) (hi : i ≤ 60) : CoOk (Hs.lineC i) := by
  refine ⟨?_, by show (0 : Nat) ≤ _; omega, ?_, i64_0, by simp [Hs.lineC, I64]; omega, i64_0⟩
  · simp only [Hs.lineC]; split <;> simp
  · intro j hj
    simp only [Hs.lineC] at hj ⊢
    by_cases h0 : i = 0
    · subst h0; simp at hj
    · simp only [if_neg h0] at hj ⊢
      simp at hj
      subst hj
      simp [I64]; omega
/-- Commits. -/
def CPost (w : World) (l : List Hs.Cm) (e : Ending) (w' : World) : Prop := ∃ A c, e = .returned (.slice A l.length c) ∧ l.length ≤ c ∧ CV w' A l ∧ Below w.heap.size w w'

set_option maxRecDepth 100000 in
set_option maxHeartbeats 8000000 in
theorem line_any (w : World) (n : Nat) (hn : n ≤ 60) : Calls Try.prog 46 #[.int .i64 (n : Int)] w (CPost w (Hs.lineL n)) := by
  obtain ⟨i0, hi0, hz0, hz1, hz2⟩ := info_parts info41
  go_enter Try.func46, Try.ntmps46
  go_wp2_with fail
  go_loopw [3, 4] (fun ov iv wr => ∃ (i : Nat) (Ao : Option Addr) (co : Nat) (xs : List Value), i ≤ n ∧ ov = .slice Ao i co ∧ iv = .int .i64 i ∧ LineSt w wr i Ao co xs) (fun _ iv _ => n - (intOf iv).toNat)
  case atStart => exact ⟨0, none, 0, [], Nat.zero_le _, rfl, rfl, ⟨World.ownsRow_nil _ _ _ _, rfl, Below.refl _ _⟩⟩
  case round =>
    obtain ⟨i, Ao, co, xs, hi, rfl, rfl, st⟩ := hrel
    obtain ⟨wo, rfl⟩ : ∃ wo : World, wo = wr := ⟨_, rfl⟩
    have hsz := st.bel.size
    have HOK := Lib.hid (okLine i (by omega))
    by_cases hil : i < n
    · have hil' : (i : Int) < n := by omega
      by_cases h0 : i = 0
      · obtain rfl : i = 0 := h0
        have hc0 : ((0 : Nat) : Int) = 0 := rfl
        rw [hc0]
        clear hc0
        have HC := Lib.hid (show Hs.lineC 0 = ⟨[], 0, 0, 0, ⟨#[]⟩⟩ from rfl)
        have st1 := (st.alloc (.cells #[.slice none 0 0, .int .i64 0, .int .i64 0, .int .i64 0, .string ⟨#[]⟩] 41)).alloc (.cells #[.slice none 0 0, .int .i64 0, .int .i64 0, .int .i64 0, .string ⟨#[]⟩] 41)
        have hsv : SV ((wo.alloc (.cells #[.slice none 0 0, .int .i64 0, .int .i64 0, .int .i64 0, .string ⟨#[]⟩] 41)).alloc (.cells #[.slice none 0 0, .int .i64 0, .int .i64 0, .int .i64 0, .string ⟨#[]⟩] 41)) (wo.heap.size + 1 + 1) (some ⟨wo.heap.size + 1, 0, none⟩) [.slice none 0 0, .int .i64 0, .int .i64 0, .int .i64 0, .string ⟨#[]⟩] := by
          have := SV.lit ((wo.alloc (.cells #[.slice none 0 0, .int .i64 0, .int .i64 0, .int .i64 0, .string ⟨#[]⟩] 41))) #[.slice none 0 0, .int .i64 0, .int .i64 0, .int .i64 0, .string ⟨#[]⟩] 41
          simpa using this
        go_wp2_with (first | (at_builtin; refine wpList_appN _ rfl (.tmp 19) (.tmp 21) 22 rfl w.heap.size 41 i0 _ 5 64 Try.underlying22 hi0 hz0 hz1 hz2 rfl (by decide) Ao 0 co xs rfl st1.own _ (some ⟨wo.heap.size + 1, 0, none⟩) 1 1 [.slice none 0 0, .int .i64 0, .int .i64 0, .int .i64 0, .string ⟨#[]⟩] rfl rfl hsv (by intro u hu; simp at hu; rcases hu with rfl | rfl | rfl | rfl | rfl <;> rfl) ?ha ?hb ?hc ?_))
        case ha => simp [maxLen]
        case hb => omega
        case hc => simp; omega
        intro A' c' w4 hown4 hg4 _
        have st4 := st1.app (by rw [HC.out]; exact ⟨none, 0, rfl, by rw [← HC.out]; exact HOK.out, .inl rfl⟩) hg4 hown4
        clear hown4 hg4 HC HOK
        clear hsv st1 st
        go_wp2_with fail
        go_roundw
        case rel => exact ⟨0 + 1, _, _, _, by omega, rfl, by go_num, st4⟩
        case measure => simp [intOf]; omega
      · have h0' : decide ((0 : Int) < i) = true := by simp; omega
        have h0'' : decide (0 < i) = true := by simp; omega
        have hi1 : (1 : Int) ≤ i := by omega
        have HC := Lib.hid (show Hs.lineC i = ⟨[(i : Int) - 1], 0, i, 0, ⟨#[]⟩⟩ by unfold Hs.lineC; rw [if_neg h0])
        clear h0
        have st1 := ((st.alloc (.cells #[.slice (some ⟨wo.heap.size + 1, 0, none⟩) 1 1, .int .i64 0, .int .i64 (i : Int), .int .i64 0, .string ⟨#[]⟩] 41)).alloc (.cells #[.int .i64 ((i : Int) - 1)] 3)).alloc (.cells #[.slice (some ⟨wo.heap.size + 1, 0, none⟩) 1 1, .int .i64 0, .int .i64 (i : Int), .int .i64 0, .string ⟨#[]⟩] 41)
        have hsv : SV (((wo.alloc (.cells #[.slice (some ⟨wo.heap.size + 1, 0, none⟩) 1 1, .int .i64 0, .int .i64 (i : Int), .int .i64 0, .string ⟨#[]⟩] 41)).alloc (.cells #[.int .i64 ((i : Int) - 1)] 3)).alloc (.cells #[.slice (some ⟨wo.heap.size + 1, 0, none⟩) 1 1, .int .i64 0, .int .i64 (i : Int), .int .i64 0, .string ⟨#[]⟩] 41)) (wo.heap.size + 1 + 1 + 1) (some ⟨wo.heap.size + 1 + 1, 0, none⟩) [.slice (some ⟨wo.heap.size + 1, 0, none⟩) 1 1, .int .i64 0, .int .i64 (i : Int), .int .i64 0, .string ⟨#[]⟩] := by
          have := SV.lit (((wo.alloc (.cells #[.slice (some ⟨wo.heap.size + 1, 0, none⟩) 1 1, .int .i64 0, .int .i64 (i : Int), .int .i64 0, .string ⟨#[]⟩] 41)).alloc (.cells #[.int .i64 ((i : Int) - 1)] 3))) #[.slice (some ⟨wo.heap.size + 1, 0, none⟩) 1 1, .int .i64 0, .int .i64 (i : Int), .int .i64 0, .string ⟨#[]⟩] 41
          simpa using this
        go_wp2_with (first | (at_builtin; refine wpList_appN _ rfl (.tmp 19) (.tmp 21) 22 rfl w.heap.size 41 i0 _ 5 64 Try.underlying22 hi0 hz0 hz1 hz2 rfl (by decide) Ao i co xs rfl st1.own _ (some ⟨wo.heap.size + 1 + 1, 0, none⟩) 1 1 [.slice (some ⟨wo.heap.size + 1, 0, none⟩) 1 1, .int .i64 0, .int .i64 (i : Int), .int .i64 0, .string ⟨#[]⟩] rfl rfl hsv (by intro u hu; simp at hu; rcases hu with rfl | rfl | rfl | rfl | rfl <;> rfl) ?ha ?hb ?hc ?_))
        case ha => simp [maxLen]; omega
        case hb => omega
        case hc => simp; omega
        intro A' c' w4 hown4 hg4 _
        have hpb : Blk (((wo.alloc (.cells #[.slice (some ⟨wo.heap.size + 1, 0, none⟩) 1 1, .int .i64 0, .int .i64 (i : Int), .int .i64 0, .string ⟨#[]⟩] 41)).alloc (.cells #[.int .i64 ((i : Int) - 1)] 3)).alloc (.cells #[.slice (some ⟨wo.heap.size + 1, 0, none⟩) 1 1, .int .i64 0, .int .i64 (i : Int), .int .i64 0, .string ⟨#[]⟩] 41)) (wo.heap.size + 1) 3 #[.int .i64 ((i : Int) - 1)] := by
          have := (Blk.new (wo.alloc (.cells #[.slice (some ⟨wo.heap.size + 1, 0, none⟩) 1 1, .int .i64 0, .int .i64 (i : Int), .int .i64 0, .string ⟨#[]⟩] 41)) 3 #[.int .i64 ((i : Int) - 1)]).alloc (.cells #[.slice (some ⟨wo.heap.size + 1, 0, none⟩) 1 1, .int .i64 0, .int .i64 (i : Int), .int .i64 0, .string ⟨#[]⟩] 41)
          simpa using this
        have st4 := st1.app (by rw [HC.out]; exact ⟨some ⟨wo.heap.size + 1, 0, none⟩, 1, rfl, by rw [← HC.out]; exact HOK.out, .inr ⟨_, rfl, hpb⟩⟩) hg4 hown4
        clear hown4 hg4 HC HOK hpb
        clear hsv st1 st
        go_wp2_with fail
        go_roundw
        case rel => exact ⟨i + 1, _, _, _, by omega, rfl, by go_num, st4⟩
        case measure => simp [intOf]; omega
    · obtain rfl : i = n := by omega
      go_wp2_with fail
      go_ret
      obtain ⟨A', c', e1, hcc, _⟩ := own_form st.own
      injection e1 with _ _ e3
      subst e3
      exact ⟨Ao, co, by rw [Hs.lineL_length]; rfl, by rw [Hs.lineL_length]; exact hcc, ⟨xs, SV.of_own st.own, st.rows.mono LnR.co⟩, st.bel⟩
end Go.Proofs.Ytoohmkdgimkgoaa
