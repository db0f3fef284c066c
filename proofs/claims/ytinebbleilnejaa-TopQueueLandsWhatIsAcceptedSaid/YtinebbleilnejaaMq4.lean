/-
  The merge queue: walks of slices.Clone, below, Fails.
-/
import Derived.Test.YtinebbleilnejaaMq3
import Derived.Test.YtinebbleilnejaaView2
namespace Go.Proofs.Ytinebbleilnejaa
open Go.RowKit Go.V
set_option linter.unusedVariables false
/-- A copy in a block of its own. -/
def ClPost (w : World) (l : List Int) (e : Ending) (w' : World) : Prop :=
  ∃ A c, e = .returned (.slice A l.length c) ∧ w'.ownsRow w.heap.size 3 1 (.slice A l.length c) l.length (intsV l) ∧ Below w.heap.size w w'
set_option maxRecDepth 100000 in
set_option maxHeartbeats 4000000 in
theorem clone_any (w : World) (A : Option Addr) (c : Nat) (l : List Int) (h : SV w w.heap.size A (intsV l)) (hl : l.length * 8 ≤ 140737488351232) :
    Calls Try.prog 12 #[.slice A l.length c] w (ClPost w l) := by
  obtain ⟨i0, hi0, hz0, hz1, hz2⟩ := info_parts info3
  have heq : ∀ (W : World) a n c, (binOp .eql 23 (.slice a n c) (.slice none 0 0)).run Try.prog W = .ok (.bool a.isNone) W := fun W a n c => Lib.run_eql_slice_nil W 23 3 a n c 0 0 Try.underlying23
  rcases A with _ | ad
  · have hl0 : l = [] := by
      rcases h with h | ⟨b, off, h, _⟩
      · simpa [intsV] using h
      · cases h
    subst hl0
    go_enter Try.func12, Try.ntmps12
    go_wp2_with fail
    go_ret
    exact ⟨none, 0, rfl, World.ownsRow_nil _ _ _ _, Below.refl _ _⟩
  · go_enter Try.func12, Try.ntmps12
    go_wp2_with (first | (at_builtin; refine wpList_appN _ rfl (.tmp 5) (.tmp 6) 23 rfl w.heap.size 3 i0 (.int .i64 0) 1 8 Try.underlying23 hi0 hz0 hz1 hz2 rfl (by decide) (some ⟨w.heap.size, 0, none⟩) 0 0 [] rfl (World.ownsRow_lit w #[] 0 (Nat.le_refl _) (by simp [maxLen]) rfl) _ (some ad) l.length c (intsV l) rfl ?ha (SV.alloc h (Nat.le_refl _) _) (intsV_one l) ?hb ?hc ?hd ?_))
    case ha => simp
    case hb => simp [maxLen]; omega
    case hc => omega
    case hd => simp
    intro A' c' w' hown hg hc'
    have hb := (below_alloc1 w (.cells #[] 3)).grown hg (by simp) (fun k hk => by simp [Value.ownBlock] at hk; omega)
    try simp only [Nat.zero_add, List.nil_append] at *
    go_wp2_with fail
    go_ret
    exact ⟨A', c', rfl, hown, hb⟩
/-- The tests fail with what is below n0 and what is in s. -/
def badN (cu : List (List Int)) (s : List Int) (n0 : Int) : Bool := cu.any fun c => c.all fun x => decide (x < n0) || s.contains x
theorem below_any (w : World) (A A2 : Option Addr) (k k2 : Nat) (cu : List (List Int)) (s : List Int) (n0 : Int) (hv : CuV w A cu) (hl : cu.length ≤ 9223372036854775807) (h2 : IV w A2 s) (hl2 : s.length ≤ 9223372036854775807) :
    Calls Try.prog 13 #[.slice A cu.length k, .slice A2 s.length k2, .int .i64 n0] w fun e w' => e = .returned (.bool (badN cu s n0)) ∧ Below w.heap.size w w' := by
  have b1 : Blk ((w.alloc (.cells #[.slice A2 s.length k2] 23)).alloc (.cells #[.int .i64 n0] 3)) w.heap.size 23 #[.slice A2 s.length k2] := (Blk.new _ _ _).alloc _
  have b2 : Blk ((w.alloc (.cells #[.slice A2 s.length k2] 23)).alloc (.cells #[.int .i64 n0] 3)) (w.heap.size + 1) 3 #[.int .i64 n0] := by
    have := Blk.new (w.alloc (.cells #[.slice A2 s.length k2] 23)) 3 #[.int .i64 n0]
    rwa [World.size_alloc] at this
  have hb : Below w.heap.size w ((w.alloc (.cells #[.slice A2 s.length k2] 23)).alloc (.cells #[.int .i64 n0] 3)) := (below_alloc1 w _).alloc (by simp) _
  have HR := Lib.hid (fun fv (hfv : fv = .func (.func 24) #[] #[.pointer (some ⟨w.heap.size + 1, 0, none⟩), .pointer (some ⟨w.heap.size, 0, none⟩)]) => brun_any _ A k cu fv (fun x => decide (x < n0) || s.contains x) (hv.below hb) hl (.inr ⟨w.heap.size, w.heap.size + 1, A2, s, k2, n0, hfv, b1.lt, b2.lt, (b1.cell 0).trans rfl, (b2.cell 0).trans rfl, h2.below hb, hl2, rfl⟩))
  have HQ := Lib.hid (show (cu.any fun c => c.all fun x => decide (x < n0) || s.contains x) = badN cu s n0 from rfl)
  rw [HQ.out] at HR
  clear hv h2 b1 b2 HQ
  generalize badN cu s n0 = q at *
  go_enter Try.func13, Try.ntmps13
  go_wp2_with fail
  go_at_call 17
  with_reducible refine (HR.out _ rfl).mono ?_
  rintro e w' ⟨rfl, hb3⟩
  go_wp2_with fail
  go_ret
  exact ⟨rfl, hb.trans (hb3.mono hb.size)⟩
set_option maxRecDepth 100000 in
set_option maxHeartbeats 8000000 in
theorem fails_any (w : World) (A A2 : Option Addr) (k k2 : Nat) (cu : List (List Int)) (s : List Int) (n : Int) (hv : CuV w A cu) (hl : cu.length ≤ 9223372036854775807) (h2 : IV w A2 s) (hl2 : s.length ≤ 9223372036854775807) (hok : Mq.VOk n cu) (hs : Mq.LOk n s) :
    Calls Try.prog 9 #[.int .i64 n, .slice A cu.length k, .slice A2 s.length k2] w fun e w' => e = .returned (.tuple #[.bool (Mq.bad cu s), .agg #[.int .i64 0, .int .i64 0]]) ∧ Below w.heap.size w w' := by
  have B1 : Blk ((w.alloc (.cells #[.slice A2 s.length k2] 23)).alloc (.cells #[.int .i64 0, .int .i64 0] 26)) w.heap.size 23 #[.slice A2 s.length k2] := (Blk.new _ _ _).alloc _
  have B2 : Blk ((w.alloc (.cells #[.slice A2 s.length k2] 23)).alloc (.cells #[.int .i64 0, .int .i64 0] 26)) (w.heap.size + 1) 26 #[.int .i64 0, .int .i64 0] := by
    have := Blk.new (w.alloc (.cells #[.slice A2 s.length k2] 23)) 26 #[.int .i64 0, .int .i64 0]
    rwa [World.size_alloc] at this
  have hb : Below w.heap.size w ((w.alloc (.cells #[.slice A2 s.length k2] 23)).alloc (.cells #[.int .i64 0, .int .i64 0] 26)) := (below_alloc1 w _).alloc (by simp) _
  have HVA := Lib.hid (validate_any _ A k cu n (hv.below hb) hl)
  have HLI := Lib.hid (fun (W : World) (hbW : Below w.heap.size w W) => list_any W A2 k2 s n (h2.below hbW) hl2)
  have HRU := Lib.hid (fun (W : World) (hbW : Below w.heap.size w W) (hg : w.heap.size < W.heap.size) (hc : W.cell? ⟨w.heap.size, 0, none⟩ = some (.slice A2 s.length k2)) fv (hfv : fv = .func (.func 18) #[] #[.pointer (some ⟨w.heap.size, 0, none⟩)]) =>
    brun_any W A k cu fv (fun x => s.contains x) (hv.below hbW) hl (.inl ⟨w.heap.size, A2, s, k2, hfv, hg, hc, h2.below hbW, hl2, rfl⟩))
  have HQ := Lib.hid (show (cu.any fun c => c.all fun x => s.contains x) = Mq.bad cu s from rfl)
  rw [HQ.out] at HRU
  have HOK := Lib.hid hok
  have HS := Lib.hid hs
  clear hv h2 HQ hok hs
  generalize Mq.bad cu s = q at *
  go_enter Try.func9, Try.ntmps9
  go_wp2_with fail
  go_at_call 11
  with_reducible refine HVA.out.mono ?_
  rintro e w1 ⟨⟨c, ix, rfl, hc⟩, hb1⟩
  obtain ⟨rfl, rfl, _⟩ := hc.resolve_right (fun h => h.2 HOK.out)
  replace B1 := (B1.below hb1 B1.lt).alloc (.cells #[.int .i64 0, .int .i64 0] 26)
  replace B2 := (B2.below hb1 B2.lt).alloc (.cells #[.int .i64 0, .int .i64 0] 26)
  have hb2 := hb.trans (hb1.mono hb.size)
  have hb3 := hb2.alloc hb2.size (.cells #[.int .i64 0, .int .i64 0] 26)
  have B3 := Blk.new w1 26 #[.int .i64 0, .int .i64 0]
  clear hb1 hc hb HVA
  have l1 := B1.lt
  have HLI2 := Lib.hid (HLI.out _ hb3)
  have HRU2 := Lib.hid (HRU.out _ hb3 l1 ((B1.cell 0).trans rfl))
  have p0 := (B1.cell 0).trans rfl
  clear HLI HRU
  go_wp2_with fail
  go_at_call 16
  with_reducible refine HLI2.out.mono ?_
  rintro e w2 ⟨⟨c, rfl, hc⟩, hw⟩
  subst hw
  obtain ⟨rfl, _⟩ := hc.resolve_right (fun h => h.2 HS.out)
  clear HLI2 hc
  go_wp2_with fail
  go_at_call 17
  with_reducible refine (HRU2.out _ rfl).mono ?_
  rintro e w3 ⟨rfl, hb4⟩
  have B2' := B2.below hb4 B2.lt
  have hb5 := hb3.trans (hb4.mono hb3.size)
  have q0 := (B2'.cell 0).trans rfl
  have q1 := (B2'.cell 1).trans rfl
  have f0 := B2'.frozen 0
  have f1 := B2'.frozen 1
  have l2 := B2'.lt
  go_wp2_with fail
  refine bodyPost_ret (results_tc rfl _ _ (w.heap.size + 1) (.int .i64 0) (.int .i64 0) rfl (blk_put26 B2' _ _)) rfl ⟨rfl, below_put26 hb5 (by omega) _ _⟩
end Go.Proofs.Ytinebbleilnejaa
