/-
  BisectTestDecides: the law's walk.
-/
import Derived.Test.YtoohmkdgimkgoaaL12
namespace Go.Proofs.Ytoohmkdgimkgoaa
open Go.RowKit Go.V
set_option linter.unusedVariables false

theorem ints_i64 {l : List Hs.Cm} {gs : List Nat} (hok : Hs.Ok l) (hg : ∀ g ∈ gs, g < l.length) : ∀ (j : Nat) (h : j < (Hs.ints gs).length), I64 (Hs.ints gs)[j] := fun j h => by
  have hl := hok.len
  rw [ints_at gs j (by simpa using h)]
  have := hg _ (List.getElem_mem (show j < gs.length by simpa using h))
  simp [I64]; omega
theorem octFrom_good (l : List Hs.Cm) (gs : List Nat) (hg : ∀ g ∈ gs, g < l.length) : octFrom l (Hs.ints gs) 0 = (0, 0) := by
  rcases octFrom_all l (Hs.ints gs) _ 0 (Nat.le_refl _) with ⟨h, _⟩ | ⟨_, j, hj, hn⟩
  · exact h
  · rw [ints_at gs j (by simpa using hj)] at hn
    have := hg _ (List.getElem_mem (show j < gs.length by simpa using hj))
    exact absurd ⟨by omega, by omega⟩ hn
theorem bcheck_srch {l : List Hs.Cm} {gs : List Nat} {b : Nat} (h : Hs.Srch l gs b) (hl : gs.length ≤ 60) : bcheck l (Hs.ints gs) b = (0, 0) := by
  have hb := h.hbad
  unfold bcheck
  rw [Hs.validate_of_ok h.ok, if_neg (by simp), if_neg (by simp; omega), if_neg (by rw [Hs.ints_length]; omega), octFrom_good l gs h.hgood, if_neg (by simp), nats_ints', Int.toNat_natCast]
  have : (gs.any fun g => Hs.reach l g b) = false := by
    rw [List.any_eq_false]; intro g hg; rw [h.fine g hg]; decide
  rw [this]; rfl
theorem cands_srch {l : List Hs.Cm} {gs : List Nat} {b : Nat} (h : Hs.Srch l gs b) (hl : gs.length ≤ 60) : candRes l (Hs.ints gs) b = (Hs.ints (Hs.cand l gs b), (0, 0)) := by
  unfold candRes; rw [bcheck_srch h hl, nats_ints']; rfl
theorem mem_ints (xs : List Nat) (n : Nat) : decide ((n : Int) ∈ Hs.ints xs) = decide (n ∈ xs) := by
  rw [Bool.eq_iff_iff]
  simp only [decide_eq_true_eq, Hs.ints, List.mem_map]
  constructor
  · rintro ⟨a, ha, e⟩
    have : a = n := by omega
    subst this; exact ha
  · intro h; exact ⟨n, h, rfl⟩

set_option maxRecDepth 100000 in
set_option maxHeartbeats 8000000 in
theorem law13_bad (w : World) (A A2 : Option Addr) (k k2 : Nat) (l : List Hs.Cm) (good : List Int) (bad : Int) (hv : CV w A l) (hl : l.length ≤ 9223372036854775807) (hv2 : IV w A2 good) (hi64 : ∀ (j : Nat) (h : j < good.length), I64 good[j]) (hl2 : good.length ≤ 9223372036854775807)
    (hbad : (bcheck l good bad).1 ≠ 0) :
    Calls Try.prog 13 #[.slice A l.length k, .slice A2 good.length k2, .int .i64 bad] w fun e w' => e = .returned (.bool true) ∧ Below w.heap.size w w' := by
  obtain ⟨e1, e2, e3⟩ := bad12 hbad []
  have HB := Lib.hid (fun (w1 : World) h h2 => e1 ▸ candidates_any w1 A A2 k k2 l good bad h hl h2 hi64 hl2)
  have HO := Lib.hid (fun (w1 : World) h h2 => e2 ▸ bnext_any w1 A A2 k k2 l good bad h hl h2 hi64 hl2)
  clear e1 e2 e3
  generalize bcheck l good bad = r at *
  obtain ⟨c, i⟩ := r
  simp only at hbad
  have hc1 : (c == 0) = false := by simpa using hbad
  have hc2 : (c != 0) = true := by simpa using hbad
  clear hbad
  go_enter Try.func13, Try.ntmps13
  go_wp2_with fail
  go_at_call 37
  refine (bexample_any _).mono ?_
  rintro e w1 ⟨rfl, hb1⟩
  have hsz1 := hb1.size
  go_wp2_with fail
  go_at_call 38
  refine (HB.out _ (hv.below hb1) (hv2.below hb1)).mono ?_
  rintro e w2 ⟨X2, c2, rfl, hcc2, hvx2, hb2'⟩
  have hb2 := hb1.trans (hb2'.mono hsz1)
  have hsz2 := hb2.size
  have hb3 := hb2.alloc hsz2 (.cells #[.int .i64 c, .int .i64 i] 26)
  clear hb2' hb1 hsz1 HB hvx2
  simp only [List.length_nil] at hcc2 ⊢
  go_wp2_with fail
  go_at_call 39
  refine (HO.out _ (hv.below hb3) (hv2.below hb3)).mono ?_
  rintro e w4 ⟨rfl, hb4'⟩
  have hb4 := hb3.trans (hb4'.mono hb3.size)
  have k10 := (Blk.new w2 26 #[.int .i64 c, .int .i64 i]).below hb4' (by simp)
  have p0 := k10.cell 0
  have u0 := k10.lt
  simp only [List.getElem?_toArray, List.getElem?_cons_zero] at p0
  have hsz4 := hb4.size
  have hb5 := hb4.alloc hsz4 (.cells #[.int .i64 c, .int .i64 i] 26)
  clear hb4' hb3 HO k10
  simp only
  go_wp2_with fail
  go_ret
  exact ⟨rfl, hb5⟩

set_option maxRecDepth 100000 in
set_option maxHeartbeats 16000000 in
theorem law13_full (w : World) (A A2 : Option Addr) (k k2 : Nat) (l : List Hs.Cm) (gs : List Nat) (b : Nat) (hv : CV w A l) (hv2 : IV w A2 (Hs.ints gs)) (hl2 : gs.length ≤ 60) (hs : Hs.Srch l gs b) (h60 : gs.length = 60) :
    Calls Try.prog 13 #[.slice A l.length k, .slice A2 gs.length k2, .int .i64 (b : Int)] w fun e w' => e = .returned (.bool true) ∧ Below w.heap.size w w' := by
  have hok := hs.ok
  have hl60 := hok.len
  have hl : l.length ≤ 9223372036854775807 := by omega
  have hi64 := ints_i64 hok hs.hgood
  obtain ⟨e1, e2, e3, e4⟩ := ok12 (bcheck_srch hs hl2) []
  have hgl : (Hs.ints gs).length = gs.length := Hs.ints_length gs
  have HB0 := fun (w1 : World) h h2 => e1 ▸ candidates_any w1 A A2 k k2 l (Hs.ints gs) b h hl h2 hi64 (by rw [hgl]; omega)
  have HO0 := fun (w1 : World) h h2 => e2 ▸ bnext_any w1 A A2 k k2 l (Hs.ints gs) b h hl h2 hi64 (by rw [hgl]; omega)
  rw [hgl] at HB0 HO0
  have HB := Lib.hid HB0
  have HO := Lib.hid HO0
  have hcl := Hs.cand_len l gs b
  clear e1 e2 e3 e4 HB0 HO0 hgl hi64
  have h60' : (60 : Int) ≤ gs.length := by omega
  have h60'' : decide (60 ≤ gs.length) = true := by simp; omega
  clear h60
  generalize Hs.nextI l (Hs.cand l gs b) = nx at *
  generalize hcs : Hs.cand l gs b = cs at *
  clear hcs
  go_enter Try.func13, Try.ntmps13
  go_wp2_with fail
  go_at_call 37
  refine (bexample_any _).mono ?_
  rintro e w1 ⟨rfl, hb1⟩
  have hsz1 := hb1.size
  go_wp2_with fail
  go_at_call 38
  refine (HB.out _ (hv.below hb1) (hv2.below hb1)).mono ?_
  rintro e w2 ⟨X2, c2, rfl, hcc2, hvx2, hb2'⟩
  have hb2 := hb1.trans (hb2'.mono hsz1)
  have hsz2 := hb2.size
  have hb3 := hb2.alloc hsz2 (.cells #[.int .i64 0, .int .i64 0] 26)
  have hvx3 := hvx2.alloc (.cells #[.int .i64 0, .int .i64 0] 26)
  clear hb2' hb1 hsz1 HB hvx2
  simp only [Hs.ints_length] at hcc2 hvx3 ⊢
  go_wp2_with fail
  go_at_call 39
  refine (HO.out _ (hv.below hb3) (hv2.below hb3)).mono ?_
  rintro e w4 ⟨rfl, hb4'⟩
  have hb4 := hb3.trans (hb4'.mono hb3.size)
  have k10 := (Blk.new w2 26 #[.int .i64 0, .int .i64 0]).below hb4' (by simp)
  have p0 := k10.cell 0
  have u0 := k10.lt
  simp only [List.getElem?_toArray, List.getElem?_cons_zero] at p0
  have hvx4 := (hvx3.below hb4').alloc (.cells #[.int .i64 0, .int .i64 0] 26)
  have hsz4 := hb4.size
  have hb5 := hb4.alloc hsz4 (.cells #[.int .i64 0, .int .i64 0] 26)
  clear hb4' hb3 HO hvx3
  simp only
  go_wp2_with fail
  go_ret
  exact ⟨rfl, hb5⟩

set_option maxRecDepth 100000 in
set_option maxHeartbeats 16000000 in
theorem law13_one (w : World) (A A2 : Option Addr) (k k2 : Nat) (l : List Hs.Cm) (gs : List Nat) (b : Nat) (hv : CV w A l) (hv2 : IV w A2 (Hs.ints gs)) (hl2 : gs.length ≤ 60) (hs : Hs.Srch l gs b) (h60 : gs.length < 60) (h1 : (Hs.cand l gs b).length = 1) :
    Calls Try.prog 13 #[.slice A l.length k, .slice A2 gs.length k2, .int .i64 (b : Int)] w fun e w' => e = .returned (.bool true) ∧ Below w.heap.size w w' := by
  have hok := hs.ok
  have hl60 := hok.len
  have hl : l.length ≤ 9223372036854775807 := by omega
  have hi64 := ints_i64 hok hs.hgood
  obtain ⟨e1, e2, e3, e4⟩ := ok12 (bcheck_srch hs hl2) []
  have hgl : (Hs.ints gs).length = gs.length := Hs.ints_length gs
  have HB0 := fun (w1 : World) h h2 => e1 ▸ candidates_any w1 A A2 k k2 l (Hs.ints gs) b h hl h2 hi64 (by rw [hgl]; omega)
  have HO0 := fun (w1 : World) h h2 => e2 ▸ bnext_any w1 A A2 k k2 l (Hs.ints gs) b h hl h2 hi64 (by rw [hgl]; omega)
  rw [hgl] at HB0 HO0
  have HB := Lib.hid HB0
  have HO := Lib.hid HO0
  have hcl := Hs.cand_len l gs b
  clear e1 e2 e3 e4 HB0 HO0 hgl hi64
  have h60' : decide ((60 : Int) ≤ gs.length) = false := by simp; omega
  have h60'' : decide (60 ≤ gs.length) = false := by simp; omega
  have HI1 := Lib.hid (fun (w1 : World) (A A2 : Option Addr) (c1 c2 : Nat) h1 h2 => ints_any w1 A A2 c1 c2 [(b : Int)] h1 h2 (by simp))
  have hnx := (hs.next_one h1).1
  have hone := hs.one h1
  rw [hnx] at HO
  rw [hone] at HB
  clear hnx hone h60 hcl h1
  go_enter Try.func13, Try.ntmps13
  go_wp2_with fail
  go_at_call 37
  refine (bexample_any _).mono ?_
  rintro e w1 ⟨rfl, hb1⟩
  have hsz1 := hb1.size
  go_wp2_with fail
  go_at_call 38
  refine (HB.out _ (hv.below hb1) (hv2.below hb1)).mono ?_
  rintro e w2 ⟨X2, c2, rfl, hcc2, hvx2, hb2'⟩
  have hb2 := hb1.trans (hb2'.mono hsz1)
  have hsz2 := hb2.size
  have hb3 := hb2.alloc hsz2 (.cells #[.int .i64 0, .int .i64 0] 26)
  have hvx3 := hvx2.alloc (.cells #[.int .i64 0, .int .i64 0] 26)
  clear hb2' hb1 hsz1 HB hvx2
  simp only [Hs.ints_length] at hcc2 hvx3 ⊢
  go_wp2_with fail
  go_at_call 39
  refine (HO.out _ (hv.below hb3) (hv2.below hb3)).mono ?_
  rintro e w4 ⟨rfl, hb4'⟩
  have hb4 := hb3.trans (hb4'.mono hb3.size)
  have k10 := (Blk.new w2 26 #[.int .i64 0, .int .i64 0]).below hb4' (by simp)
  have p0 := k10.cell 0
  have u0 := k10.lt
  simp only [List.getElem?_toArray, List.getElem?_cons_zero] at p0
  have hvx4 := (hvx3.below hb4').alloc (.cells #[.int .i64 0, .int .i64 0] 26)
  have hsz4 := hb4.size
  have hb5 := hb4.alloc hsz4 (.cells #[.int .i64 0, .int .i64 0] 26)
  clear hb4' hb3 HO hvx3
  simp only
  simp only [List.length_cons, List.length_nil, Nat.zero_add] at hcc2 ⊢
  have hlit := lit_ints (w4.alloc (.cells #[.int .i64 0, .int .i64 0] 26)) [(b : Int)] 3 _ rfl
  rw [World.size_alloc] at hlit
  have HCALL := Lib.hid (HI1.out _ X2 _ c2 1 (hvx4.alloc _) hlit)
  have hb6 := hb5.alloc hb5.size (.cells #[.int .i64 (b : Int)] 3)
  clear hlit HI1 hvx4
  go_wp2_with fail
  go_at_call 31
  refine HCALL.out.mono ?_
  rintro e w7 ⟨rfl, n, rfl⟩
  go_wp2_with fail
  go_ret
  exact ⟨rfl, below_drewN hb6 n⟩

set_option maxRecDepth 100000 in
set_option maxHeartbeats 16000000 in
theorem law13_two (w : World) (A A2 : Option Addr) (k k2 : Nat) (l : List Hs.Cm) (gs : List Nat) (b : Nat) (hv : CV w A l) (hv2 : IV w A2 (Hs.ints gs)) (hl2 : gs.length ≤ 60) (hs : Hs.Srch l gs b) (h60 : gs.length < 60) (c : Nat) (hc : c ∈ Hs.cand l gs b) (hne : c ≠ b) (hnx : Hs.nextI l (Hs.cand l gs b) = c) :
    Calls Try.prog 13 #[.slice A l.length k, .slice A2 gs.length k2, .int .i64 (b : Int)] w fun e w' => e = .returned (.bool true) ∧ Below w.heap.size w w' := by
  have hok := hs.ok
  have hl60 := hok.len
  have hl : l.length ≤ 9223372036854775807 := by omega
  have hi64 := ints_i64 hok hs.hgood
  obtain ⟨e1, e2, e3, e4⟩ := ok12 (bcheck_srch hs hl2) []
  have hgl : (Hs.ints gs).length = gs.length := Hs.ints_length gs
  have HB0 := fun (w1 : World) h h2 => e1 ▸ candidates_any w1 A A2 k k2 l (Hs.ints gs) b h hl h2 hi64 (by rw [hgl]; omega)
  have HO0 := fun (w1 : World) h h2 => e2 ▸ bnext_any w1 A A2 k k2 l (Hs.ints gs) b h hl h2 hi64 (by rw [hgl]; omega)
  rw [hgl] at HB0 HO0
  have HB := Lib.hid HB0
  have HO := Lib.hid HO0
  have hcl := Hs.cand_len l gs b
  clear e1 e2 e3 e4 HB0 HO0 hgl hi64
  obtain ⟨i0, hi0, hz0, hz1, hz2⟩ := info_parts info3
  have h60' : decide ((60 : Int) ≤ gs.length) = false := by simp; omega
  have h60'' : decide (60 ≤ gs.length) = false := by simp; omega
  have hsh := hs.shrink hc hne
  have hcl2 : 2 ≤ (Hs.cand l gs b).length := by omega
  have hL := hs.left hc
  have hR := hs.right hc hne
  have HB1 := Lib.hid (fun (w1 : World) (A2 : Option Addr) (k2 : Nat) (h : CV w1 A l) (h2 : IV w1 A2 (Hs.ints gs)) => cands_srch hL hl2 ▸ candidates_any w1 A A2 k k2 l (Hs.ints gs) c h hl h2 (ints_i64 hok hL.hgood) (by rw [Hs.ints_length]; omega))
  have hgl61 : (gs ++ [c]).length ≤ 60 := by simp; omega
  have HB2 := Lib.hid (fun (w1 : World) (A2 : Option Addr) (k2 : Nat) (h : CV w1 A l) (h2 : IV w1 A2 (Hs.ints (gs ++ [c]))) => cands_srch hR hgl61 ▸ candidates_any w1 A A2 k k2 l (Hs.ints (gs ++ [c])) b h hl h2 (ints_i64 hok hR.hgood) (by rw [Hs.ints_length]; omega))
  have HMX := Lib.hid (show ∀ x ∈ Hs.cand l gs b, decide (x ∈ Hs.cand l gs c) = Hs.reach l c x from fun x hx => by
    rw [hs.cand_left hc, Bool.eq_iff_iff]; simp [hx])
  have HMY := Lib.hid (show ∀ x ∈ Hs.cand l gs b, decide (x ∈ Hs.cand l (gs ++ [c]) b) = !Hs.reach l c x from fun x hx => by
    rw [Hs.cand_right, Bool.eq_iff_iff]; simp [hx])
  have hcl3 := Hs.cand_len l gs c
  have hcl4 := Hs.cand_len l (gs ++ [c]) b
  rw [hnx] at HO
  clear hL hR hc hne hnx hgl61
  generalize Hs.cand l gs b = cs at *
  generalize Hs.cand l gs c = xs at *
  generalize Hs.cand l (gs ++ [c]) b = ys at *
  obtain ⟨z1, z2, z3, z4, z5⟩ := hsh
  go_enter Try.func13, Try.ntmps13
  go_wp2_with fail
  go_at_call 37
  refine (bexample_any _).mono ?_
  rintro e w1 ⟨rfl, hb1⟩
  have hsz1 := hb1.size
  go_wp2_with fail
  go_at_call 38
  refine (HB.out _ (hv.below hb1) (hv2.below hb1)).mono ?_
  rintro e w2 ⟨X2, c2, rfl, hcc2, hvx2, hb2'⟩
  have hb2 := hb1.trans (hb2'.mono hsz1)
  have hsz2 := hb2.size
  have hb3 := hb2.alloc hsz2 (.cells #[.int .i64 0, .int .i64 0] 26)
  have hvx3 := hvx2.alloc (.cells #[.int .i64 0, .int .i64 0] 26)
  clear hb2' hb1 hsz1 HB hvx2
  simp only [Hs.ints_length] at hcc2 hvx3 ⊢
  go_wp2_with fail
  go_at_call 39
  refine (HO.out _ (hv.below hb3) (hv2.below hb3)).mono ?_
  rintro e w4 ⟨rfl, hb4'⟩
  have hb4 := hb3.trans (hb4'.mono hb3.size)
  have k10 := (Blk.new w2 26 #[.int .i64 0, .int .i64 0]).below hb4' (by simp)
  have p0 := k10.cell 0
  have u0 := k10.lt
  simp only [List.getElem?_toArray, List.getElem?_cons_zero] at p0
  have hvx4 := (hvx3.below hb4').alloc (.cells #[.int .i64 0, .int .i64 0] 26)
  have hsz4 := hb4.size
  have hb5 := hb4.alloc hsz4 (.cells #[.int .i64 0, .int .i64 0] 26)
  clear hb4' hb3 HO hvx3
  simp only
  go_wp2_with fail
  go_at_call 38
  have h7 := HB1.out (w4.alloc (.cells #[.int .i64 0, .int .i64 0] 26)) A2 k2 (hv.below hb5) (hv2.below hb5)
  rw [Hs.ints_length] at h7
  refine h7.mono ?_
  rintro e w5 ⟨X5, c5, rfl, hcc5, hvx5, hb6'⟩
  have hb6 := hb5.trans (hb6'.mono hb5.size)
  have hsz6 := hb6.size
  have hb7 := hb6.alloc hsz6 (.cells #[.int .i64 0, .int .i64 0] 26)
  have hvx6 := (hvx4.below hb6').alloc (.cells #[.int .i64 0, .int .i64 0] 26)
  have hvy6 := hvx5.alloc (.cells #[.int .i64 0, .int .i64 0] 26)
  have hsv : SV (w5.alloc (.cells #[.int .i64 0, .int .i64 0] 26)) (w5.alloc (.cells #[.int .i64 0, .int .i64 0] 26)).heap.size A2 (intsV (Hs.ints gs)) := hv2.below hb7
  have k11 := Blk.new w5 26 #[.int .i64 0, .int .i64 0]
  clear hb6' hb5 h7 HB1 hvx4 hvx5 p0 u0 k10
  simp only [Hs.ints_length] at hcc5 ⊢
  go_wp2_with (first | (at_builtin; refine wpList_appN _ rfl (.const (.slice none 0 0)) (.tmp 73) 37 rfl (w5.heap.size + 1) 3 i0 (.int .i64 0) 1 8 Try.underlying37 hi0 hz0 hz1 hz2 rfl (by decide) none 0 0 [] rfl (World.ownsRow_nil _ _ _ _) _ A2 gs.length k2 (intsV (Hs.ints gs)) rfl ?ha hsv (intsV_one _) ?hb ?hc ?hd ?_))
  case hb => simp [maxLen]; omega
  case hc => omega
  intro A8 c8 w8 hown8 hg8 _
  have hbg8 : Below (w5.heap.size + 1) (w5.alloc (.cells #[.int .i64 0, .int .i64 0] 26)) w8 := by
    have : Below (w5.alloc (.cells #[.int .i64 0, .int .i64 0] 26)).heap.size (w5.alloc (.cells #[.int .i64 0, .int .i64 0] 26)) w8 := (Below.refl _ _).grown hg8 (Nat.le_refl _) (fun k hk => by simp [Value.ownBlock] at hk)
    simpa using this
  have hlo8 : w5.heap.size + 1 ≤ w8.heap.size := by have := hbg8.size; simpa using this
  clear hg8 hsv
  try simp only [Nat.zero_add, List.nil_append] at hown8
  go_wp2_with (first | (at_builtin; refine wpList_app1 _ rfl (.tmp 74) (.tmp 76) 37 rfl (w5.heap.size + 1) 3 i0 (.int .i64 0) 8 Try.underlying37 hi0 hz0 hz1 hz2 rfl A8 _ c8 _ rfl (hown8.alloc _) w8.heap.size _ (.int .i64 (c : Int)) rfl (by simp [World.cell?_alloc_new]) rfl ?ha2 ?hb2 ?hc2 ?_))
  case ha2 => simp [maxLen]; omega
  case hb2 => omega
  case hc2 => simp; omega
  intro A9 c9 w9 hown9 hg9 _
  have hbg : Below (w5.alloc (.cells #[.int .i64 0, .int .i64 0] 26)).heap.size (w5.alloc (.cells #[.int .i64 0, .int .i64 0] 26)) w9 := by
    have := hbg8.trans (below_append ((Below.refl (w5.heap.size + 1) w8).alloc hlo8 _) (hown8.alloc _) hg9 (Nat.le_refl _) (by simp; omega))
    simpa using this
  have hb9 := hb7.trans (hbg.mono hb7.size)
  have hvx9 := hvx6.below hbg
  have hvy9 := hvy6.below hbg
  have k12 := k11.below hbg k11.lt
  have hlen9 : gs.length + 1 = (gs ++ [c]).length := by simp
  have hiv9 : IV w9 A9 (Hs.ints (gs ++ [c])) := by
    have := SV.of_own hown9
    unfold IV
    rw [Hs.ints_append, intsV_append]
    exact this
  have h10 := HB2.out w9 A9 c9 (hv.below hb9) hiv9
  rw [Hs.ints_length, ← hlen9] at h10
  have HCALL := Lib.hid h10
  clear hvx6 hvy6 k11 hb7 hbg hbg8 hlo8 hown8 hown9 hg9 hiv9 h10 HB2 hlen9 hb6 hsz6
  go_wp2_with fail
  go_at_call 38
  refine HCALL.out.mono ?_
  rintro e w10 ⟨X10, c10, rfl, hcc10, hvz10, hb10'⟩
  have hb10 := hb9.trans (hb10'.mono hb9.size)
  have hsz10 := hb10.size
  have hb11 := hb10.alloc hsz10 (.cells #[.int .i64 0, .int .i64 0] 26)
  have hvx11 := (hvx9.below hb10').alloc (.cells #[.int .i64 0, .int .i64 0] 26)
  have hvy11 := (hvy9.below hb10').alloc (.cells #[.int .i64 0, .int .i64 0] 26)
  have hvz11 := hvz10.alloc (.cells #[.int .i64 0, .int .i64 0] 26)
  have k13 := k12.below hb10' k12.lt
  have p0 := k13.cell 0
  have u0 := k13.lt
  simp only [List.getElem?_toArray, List.getElem?_cons_zero] at p0
  have HX0 := fun (n : Nat) d => has_any _ X5 c5 (Hs.ints xs) n (hvy11.drewN d) (by rw [Hs.ints_length]; omega)
  have HY0 := fun (n : Nat) d => has_any _ X10 c10 (Hs.ints ys) n (hvz11.drewN d) (by rw [Hs.ints_length]; omega)
  rw [Hs.ints_length] at HX0 HY0
  have HX := Lib.hid (fun (n : Nat) d => mem_ints xs n ▸ HX0 n d)
  have HY := Lib.hid (fun (n : Nat) d => mem_ints ys n ▸ HY0 n d)
  have HAT := Lib.hid (fun (i : Nat) (hi : i < cs.length) => nat_at hvx11 (Below.refl _ _) i hi)
  have hadd : ((xs.length : Int) + ys.length) = cs.length := by omega
  have y1 : ((xs.length : Int) == 0) = false := by simp; intro h; subst h; simp at z1
  have y2 : ((ys.length : Int) == 0) = false := by simp; intro h; subst h; simp at z3
  have y3 : (xs.length == 0) = false := by simp; intro h; subst h; simp at z1
  have y4 : (ys.length == 0) = false := by simp; intro h; subst h; simp at z3
  clear HX0 HY0 hvx9 hvy9 k12 hb9 hb10' hb10 hvz10 HCALL hvx11 hvy11 hvz11 k13
  simp only [Hs.ints_length]
  go_wp2_with fail
  generalize w10.alloc (.cells #[.int .i64 0, .int .i64 0] 26) = W at *
  go_loopw [15] (fun iv wr => ∃ (i n : Nat), i ≤ cs.length ∧ iv = .int .i64 i ∧ wr = W.drewN n) (fun iv _ => cs.length - (intOf iv).toNat)
  case atStart => exact ⟨0, 0, Nat.zero_le _, rfl, rfl⟩
  case round =>
    obtain ⟨i, n, hi, rfl, rfl⟩ := hrel
    by_cases hil : i < cs.length
    · have hil' : (i : Int) < cs.length := by omega
      have hi0 : (0 : Int) ≤ i := by omega
      obtain ⟨b0, off0, e0, hb0, hc0⟩ := HAT.out i hil
      subst e0
      have hmx := HMX.out _ (List.getElem_mem hil)
      have hmy := HMY.out _ (List.getElem_mem hil)
      generalize cs[i] = x at *
      have HX1 := Lib.hid (fun d => hmx ▸ HX.out x d)
      have HY1 := Lib.hid (fun d => hmy ▸ HY.out x d)
      clear hmx hmy
      generalize Hs.reach l c x = v at *
      have hvv : (v == !v) = false := by cases v <;> rfl
      go_wp2_with fail
      go_quiet ((go_at_call 45; first | ((with_reducible refine (HX1.out _).mono ?_); exact fun e w2 h => ⟨h.1, _, h.2.symm⟩) | ((with_reducible refine (HY1.out _).mono ?_); exact fun e w2 h => ⟨h.1, _, h.2.symm⟩)))
      go_wp2_with fail
      go_roundw
      case rel => exact ⟨i + 1, _, by omega, by go_num, rfl⟩
      case measure => simp [intOf]; omega
    · obtain rfl : i = cs.length := by omega
      go_wp2_with fail
      go_ret
      exact ⟨rfl, below_drewN hb11 _⟩
theorem law13_any (w : World) (A A2 : Option Addr) (k k2 : Nat) (l : List Hs.Cm) (good : List Int) (bad : Int) (hv : CV w A l) (hl : l.length ≤ 9223372036854775807) (hv2 : IV w A2 good) (hi64 : ∀ (j : Nat) (h : j < good.length), I64 good[j]) (hl2 : good.length ≤ 9223372036854775807) :
    Calls Try.prog 13 #[.slice A l.length k, .slice A2 good.length k2, .int .i64 bad] w fun e w' => e = .returned (.bool true) ∧ Below w.heap.size w w' := by
  rcases bcheck_cases l good bad with h | ⟨he, gs, b, rfl, rfl, hs, hgl⟩
  · exact law13_bad w A A2 k k2 l good bad hv hl hv2 hi64 hl2 h
  · rw [Hs.ints_length]
    rcases Nat.eq_or_lt_of_le hgl with h60 | h60
    · exact law13_full w A A2 k k2 l gs b hv hv2 hgl hs h60
    · by_cases h1 : (Hs.cand l gs b).length = 1
      · exact law13_one w A A2 k k2 l gs b hv hv2 hgl hs h60 h1
      · obtain ⟨c, hc, hne, hnx, _, _⟩ := hs.next h1
        exact law13_two w A A2 k k2 l gs b hv hv2 hgl hs h60 c hc hne hnx
end Go.Proofs.Ytoohmkdgimkgoaa
