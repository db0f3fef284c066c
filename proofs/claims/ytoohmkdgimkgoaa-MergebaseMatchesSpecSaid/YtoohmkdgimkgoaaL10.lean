/-
  MergebaseSymmetric: the plain law and the law's walk.
-/
import Derived.Test.YtoohmkdgimkgoaaW17
import Derived.Test.YtoohmkdgimkgoaaW18
import Derived.Test.YtoohmkdgimkgoaaL7
namespace Go.Proofs.Ytoohmkdgimkgoaa
open Go.RowKit Go.V
set_option linter.unusedVariables false

theorem oct_good {l : List Hs.Cm} (hok : Hs.Ok l) (list : List Int) (h0 : list.length ≠ 0) (h1 : list.length ≤ 60) (h : ∀ x ∈ list, 0 ≤ x ∧ x < l.length) : octRes l list = (Hs.ints (Hs.best l (Hs.nats list)), (0, 0)) := by
  have : octCheck l list = (0, 0) := by
    unfold octCheck
    rw [Hs.validate_of_ok hok, if_neg (by simp), if_neg (by omega)]
    rcases octFrom_all l list list.length 0 (by omega) with ⟨h2, _⟩ | ⟨_, j, hj, h3⟩
    · exact h2
    · exact absurd (h _ (List.getElem_mem hj)) h3
  unfold octRes; rw [this, if_neg (by simp)]
theorem oct_bad {l : List Hs.Cm} (hok : Hs.Ok l) (list : List Int) (h1 : list.length ≤ 60) (x : Int) (hx : x ∈ list) (h : ¬ (0 ≤ x ∧ x < l.length)) : ∃ j, octRes l list = ([], (6, j)) := by
  obtain ⟨k, hk, rfl⟩ := List.mem_iff_getElem.1 hx
  have : ∃ j, octCheck l list = (6, j) := by
    unfold octCheck
    rw [Hs.validate_of_ok hok, if_neg (by simp), if_neg (by omega)]
    rcases octFrom_all l list list.length 0 (by omega) with ⟨_, h3⟩ | ⟨h2, _⟩
    · exact absurd (h3 k hk (by omega)) h
    · exact ⟨(octFrom l list 0).2, by rw [← h2]⟩
  obtain ⟨j, hj⟩ := this
  exact ⟨j, by unfold octRes; rw [hj, if_pos (by simp)]⟩
theorem oct_len {l : List Hs.Cm} (hok : Hs.Ok l) (list : List Int) (h : list.length = 0 ∨ 60 < list.length) : octRes l list = ([], (9, -1)) := by
  have : octCheck l list = (9, -1) := by
    unfold octCheck
    rw [Hs.validate_of_ok hok, if_neg (by simp), if_pos h]
  unfold octRes; rw [this, if_pos (by simp)]
theorem mem_nats {a b : List Int} (h : ∀ x, x ∈ a ↔ x ∈ b) (x : Nat) : x ∈ Hs.nats a ↔ x ∈ Hs.nats b := by
  simp only [Hs.nats, List.mem_map]
  constructor
  · rintro ⟨y, hy, e⟩; exact ⟨y, (h y).1 hy, e⟩
  · rintro ⟨y, hy, e⟩; exact ⟨y, (h y).2 hy, e⟩

theorem sym_cases (l : List Hs.Cm) (a b : Int) : (∃ c j1 j2 j3, c ≠ 0 ∧ basesRes l a b = ([], (c, j1)) ∧ basesRes l b a = ([], (c, j2)) ∧ octRes l [b, a, b] = ([], (c, j3))) ∨
    (Hs.Ok l ∧ ∃ xs : List Int, xs.length ≤ l.length ∧ basesRes l a b = (xs, (0, 0)) ∧ basesRes l b a = (xs, (0, 0)) ∧ octRes l [b, a, b] = (xs, (0, 0))) := by
  by_cases hv : (Hs.validate l).1 = 0
  · have hok := (Hs.validate_ok l hv).2
    by_cases h : (0 ≤ a ∧ a < l.length) ∧ (0 ≤ b ∧ b < l.length)
    · obtain ⟨⟨ha, ha'⟩, hb, hb'⟩ := h
      obtain ⟨m, rfl⟩ := Int.eq_ofNat_of_zero_le ha
      obtain ⟨n, rfl⟩ := Int.eq_ofNat_of_zero_le hb
      have hm : m < l.length := by omega
      have hn : n < l.length := by omega
      refine .inr ⟨hok, Hs.ints (Hs.best l [m, n]), by rw [Hs.ints_length]; exact best_len _ _, basesRes_ok hok hm hn, ?_, ?_⟩
      · rw [basesRes_ok hok hn hm, Hs.best_congr (a := [n, m]) (b := [m, n]) (by intro x; simp; omega)]
      · rw [oct_good hok _ (by simp) (by simp) (by intro x hx; simp at hx; rcases hx with h | h | h <;> subst h <;> omega)]
        rw [Hs.best_congr (a := Hs.nats [(n : Int), m, n]) (b := [m, n]) (by intro x; simp [Hs.nats]; omega)]
    · have hm : ∀ x y : Int, ¬ ((0 ≤ x ∧ x < l.length) ∧ (0 ≤ y ∧ y < l.length)) → ∃ j, mcheck l x y = (6, j) := by
        intro x y hxy
        unfold mcheck
        rw [Hs.validate_of_ok hok, if_neg (by simp)]
        by_cases hx : 0 ≤ x ∧ x < l.length
        · rw [if_neg (by simpa using hx), if_pos (fun hy => hxy ⟨hx, hy⟩)]; exact ⟨_, rfl⟩
        · rw [if_pos hx]; exact ⟨_, rfl⟩
      obtain ⟨j1, h1⟩ := hm a b h
      obtain ⟨j2, h2⟩ := hm b a (fun h' => h ⟨h'.2, h'.1⟩)
      have h3 : ∃ j, octRes l [b, a, b] = ([], (6, j)) := by
        by_cases hx : 0 ≤ a ∧ a < l.length
        · exact oct_bad hok _ (by simp) b (by simp) (fun hy => h ⟨hx, hy⟩)
        · exact oct_bad hok _ (by simp) a (by simp) hx
      obtain ⟨j3, h3⟩ := h3
      exact .inl ⟨6, j1, j2, j3, by decide, by rw [basesRes_bad (by rw [h1]; simp), h1], by rw [basesRes_bad (by rw [h2]; simp), h2], h3⟩
  · have h1 : ∀ x y, mcheck l x y = Hs.validate l := fun x y => by unfold mcheck; rw [if_pos hv]
    refine .inl ⟨(Hs.validate l).1, (Hs.validate l).2, (Hs.validate l).2, (Hs.validate l).2, hv, ?_, ?_, ?_⟩
    · rw [basesRes_bad (by rw [h1]; exact hv), h1]
    · rw [basesRes_bad (by rw [h1]; exact hv), h1]
    · have : octCheck l [b, a, b] = Hs.validate l := by unfold octCheck; rw [if_pos hv]
      unfold octRes; rw [this, if_pos hv]
theorem rev_oct {l : List Hs.Cm} (hok : Hs.Ok l) (list : List Int) : ∃ xs c j1 j2, xs.length ≤ l.length ∧ octRes l list = (xs, (c, j1)) ∧ octRes l list.reverse = (xs, (c, j2)) := by
  by_cases h0 : list.length = 0 ∨ 60 < list.length
  · exact ⟨[], 9, -1, -1, by simp, oct_len hok _ h0, oct_len hok _ (by simpa using h0)⟩
  · by_cases h : ∀ x ∈ list, 0 ≤ x ∧ x < l.length
    · refine ⟨Hs.ints (Hs.best l (Hs.nats list)), 0, 0, 0, by rw [Hs.ints_length]; exact best_len _ _, oct_good hok _ (by omega) (by omega) h, ?_⟩
      rw [oct_good hok _ (by simp; intro e; subst e; simp at h0) (by simp; omega) (by simpa using h)]
      rw [Hs.best_congr (mem_nats (a := list.reverse) (b := list) (by simp))]
    · have : ∃ x ∈ list, ¬ (0 ≤ x ∧ x < l.length) := by
        refine Classical.byContradiction fun hn => h fun x hx => Classical.byContradiction fun h1 => hn ⟨x, hx, h1⟩
      obtain ⟨x, hx, hxb⟩ := this
      obtain ⟨j1, h1⟩ := oct_bad hok list (by omega) x hx hxb
      obtain ⟨j2, h2⟩ := oct_bad hok list.reverse (by simp; omega) x (by simpa using hx) hxb
      exact ⟨[], 6, j1, j2, by simp, h1, h2⟩

theorem rev_take (list : List Int) (j i : Nat) (h : i + j + 1 = list.length) : list.reverse.take (j + 1) = list.reverse.take j ++ [list[i]'(by omega)] := by
  rw [List.take_succ_eq_append_getElem (by simp; omega), List.getElem_reverse]
  congr 2
  simp only [show list.length - 1 - j = i by omega]

set_option maxRecDepth 100000 in
set_option maxHeartbeats 8000000 in
theorem law10_bad (w : World) (A A2 : Option Addr) (k k2 : Nat) (l : List Hs.Cm) (a b : Int) (list : List Int) (hv : CV w A l) (hl : l.length ≤ 9223372036854775807) (ha : I64 a) (hb : I64 b) (c j1 j2 j3 : Int) (hc : c ≠ 0)
    (e1 : basesRes l a b = ([], (c, j1))) (e2 : basesRes l b a = ([], (c, j2))) (e3 : octRes l [b, a, b] = ([], (c, j3))) :
    Calls Try.prog 10 #[.slice A l.length k, .int .i64 a, .int .i64 b, .slice A2 list.length k2] w fun e w' => e = .returned (.bool true) ∧ Below w.heap.size w w' := by
  have HB1 := Lib.hid (fun (w1 : World) h => e1 ▸ bases_any w1 A k l a b h hl)
  have HB2 := Lib.hid (fun (w1 : World) h => e2 ▸ bases_any w1 A k l b a h hl)
  have h64 : ∀ (j : Nat) (h : j < [b, a, b].length), I64 [b, a, b][j] := fun j h => by
    match j, h with
    | 0, _ => exact hb
    | 1, _ => exact ha
    | 2, _ => exact hb
  have HO := Lib.hid (fun (w1 : World) (g : Nat) h h2 => e3 ▸ octopus_any w1 A (some ⟨g, 0, none⟩) k 3 l [b, a, b] h hl h2 h64 (by simp))
  have hc1 : (c == 0) = false := by simpa using hc
  have hc2 : (c != 0) = true := by simpa using hc
  clear e1 e2 e3 h64 hc
  go_enter Try.func10, Try.ntmps10
  go_wp2_with fail
  go_at_call 26
  refine (mexample_any _).mono ?_
  rintro e w1 ⟨rfl, hb1⟩
  have hsz1 := hb1.size
  go_wp2_with fail
  go_at_call 28
  refine (HB1.out _ (hv.below hb1)).mono ?_
  rintro e w2 ⟨X2, c2, rfl, hcc2, hv2, hb2'⟩
  have hb2 := hb1.trans (hb2'.mono hsz1)
  have hsz2 := hb2.size
  have hb3 := hb2.alloc hsz2 (.cells #[.int .i64 c, .int .i64 j1] 26)
  clear hb2' hb1 hsz1 HB1 hv2
  simp only [List.length_nil] at hcc2 ⊢
  go_wp2_with fail
  go_at_call 28
  refine (HB2.out _ (hv.below hb3)).mono ?_
  rintro e w4 ⟨X4, c4, rfl, hcc4, hv4, hb4'⟩
  have hb4 := hb3.trans (hb4'.mono hb3.size)
  have hk2 := (Blk.new w2 26 #[.int .i64 c, .int .i64 j1]).below hb4' (by simp)
  have hsz4 := hb4.size
  have hb5 := (hb4.alloc hsz4 (.cells #[.int .i64 c, .int .i64 j2] 26)).alloc (by simp; omega) (.cells (intsA [b, a, b]) 3)
  have hlt2 := hk2.lt
  clear hb4' hb3 HB2 hv4
  simp only [List.length_nil] at hcc4 ⊢
  go_wp2_with fail
  go_at_call 30
  refine (HO.out _ (w4.heap.size + 1) (hv.below hb5) (lit_ints _ [b, a, b] 3 _ (by simp))).mono ?_
  rintro e w6 ⟨X6, c6, rfl, hcc6, hv6, hb6'⟩
  have hb6 := hb5.trans (hb6'.mono hb5.size)
  have hk6 := ((hk2.alloc (.cells #[.int .i64 c, .int .i64 j2] 26)).alloc (.cells (intsA [b, a, b]) 3)).below hb6' (by simp; omega)
  have hk6b := ((Blk.new w4 26 #[.int .i64 c, .int .i64 j2]).alloc (.cells (intsA [b, a, b]) 3)).below hb6' (by simp; omega)
  have hsz6 := hb6.size
  have hb7 := hb6.alloc hsz6 (.cells #[.int .i64 c, .int .i64 j3] 26)
  have q0 := hk6.cell 0
  have q1 := hk6b.cell 0
  have hlt6 := hk6.lt
  have hlt6b := hk6b.lt
  simp only [List.getElem?_toArray, List.getElem?_cons_zero] at q0 q1
  clear hb6' hb5 hv6 hk2 hk6 hk6b HO
  simp only [List.length_nil] at hcc6 ⊢
  go_wp2_with fail
  go_ret
  exact ⟨rfl, hb7⟩

set_option maxRecDepth 100000 in
set_option maxHeartbeats 8000000 in
theorem law10_ok (w : World) (A A2 : Option Addr) (k k2 : Nat) (l : List Hs.Cm) (a b : Int) (list : List Int) (hv : CV w A l) (hok : Hs.Ok l) (ha : I64 a) (hb : I64 b) (hv2 : IV w A2 list) (hi64 : ∀ (j : Nat) (h : j < list.length), I64 list[j]) (hlk : list.length ≤ k2) (hl2 : list.length ≤ 9223372036854775807) (h8 : list.length * 8 ≤ 140737488351232)
    (xs : List Int) (hxl : xs.length ≤ l.length) (e1 : basesRes l a b = (xs, (0, 0))) (e2 : basesRes l b a = (xs, (0, 0))) (e3 : octRes l [b, a, b] = (xs, (0, 0))) :
    Calls Try.prog 10 #[.slice A l.length k, .int .i64 a, .int .i64 b, .slice A2 list.length k2] w fun e w' => e = .returned (.bool true) ∧ Below w.heap.size w w' := by
  obtain ⟨i0, hi0, hz0, hz1, hz2⟩ := info_parts info3
  have hl := hok.len
  have HB1 := Lib.hid (fun (w1 : World) h => e1 ▸ bases_any w1 A k l a b h (by omega))
  have HB2 := Lib.hid (fun (w1 : World) h => e2 ▸ bases_any w1 A k l b a h (by omega))
  have h64 : ∀ (j : Nat) (h : j < [b, a, b].length), I64 [b, a, b][j] := fun j h => by
    match j, h with
    | 0, _ => exact hb
    | 1, _ => exact ha
    | 2, _ => exact hb
  have h64r : ∀ (j : Nat) (h : j < list.reverse.length), I64 list.reverse[j] := fun j h => by
    rw [List.getElem_reverse]; exact hi64 _ _
  have HO := Lib.hid (fun (w1 : World) (g : Nat) h h2 => e3 ▸ octopus_any w1 A (some ⟨g, 0, none⟩) k 3 l [b, a, b] h (by omega) h2 h64 (by simp))
  obtain ⟨us, cu, ju, jv, hul, e4, e5⟩ := rev_oct hok list
  have HU := Lib.hid (fun (w1 : World) h h2 => e4 ▸ octopus_any w1 A A2 k k2 l list h (by omega) h2 hi64 hl2)
  have HR := Lib.hid (show ∀ (w1 : World) (X : Option Addr) (kx : Nat), CV w1 A l → IV w1 X list.reverse → Calls Try.prog 30 #[.slice A l.length k, .slice X list.length kx] w1 (IRes w1 (us, (cu, jv))) from fun w1 X kx h h2 => by
    have := octopus_any w1 A X k kx l list.reverse h (by omega) h2 h64r (by simpa using hl2)
    rw [e5, List.length_reverse] at this
    exact this)
  clear e1 e2 e3 e4 e5 h64 h64r
  go_enter Try.func10, Try.ntmps10
  go_wp2_with fail
  go_at_call 26
  refine (mexample_any _).mono ?_
  rintro e w1 ⟨rfl, hb1⟩
  have hsz1 := hb1.size
  go_wp2_with fail
  go_at_call 28
  refine (HB1.out _ (hv.below hb1)).mono ?_
  rintro e w2 ⟨X2, c2, rfl, hcc2, hv2x, hb2'⟩
  have hb2 := hb1.trans (hb2'.mono hsz1)
  have hsz2 := hb2.size
  have hb3 := hb2.alloc hsz2 (.cells #[.int .i64 0, .int .i64 0] 26)
  have hx3 := hv2x.alloc (.cells #[.int .i64 0, .int .i64 0] 26)
  clear hb2' hb1 hsz1 HB1 hv2x
  simp only at hcc2 hx3 ⊢
  go_wp2_with fail
  go_at_call 28
  refine (HB2.out _ (hv.below hb3)).mono ?_
  rintro e w4 ⟨X4, c4, rfl, hcc4, hv4, hb4'⟩
  have hb4 := hb3.trans (hb4'.mono hb3.size)
  have hk2 := (Blk.new w2 26 #[.int .i64 0, .int .i64 0]).below hb4' (by simp)
  have hsz4 := hb4.size
  have hb5 := (hb4.alloc hsz4 (.cells #[.int .i64 0, .int .i64 0] 26)).alloc (by simp; omega) (.cells (intsA [b, a, b]) 3)
  have hx5 := ((hx3.below hb4').alloc (.cells #[.int .i64 0, .int .i64 0] 26)).alloc (.cells (intsA [b, a, b]) 3)
  have hy5 := (hv4.alloc (.cells #[.int .i64 0, .int .i64 0] 26)).alloc (.cells (intsA [b, a, b]) 3)
  have hlt2 := hk2.lt
  clear hb4' hb3 HB2 hv4 hx3
  simp only at hcc4 hy5 ⊢
  go_wp2_with fail
  go_at_call 30
  refine (HO.out _ (w4.heap.size + 1) (hv.below hb5) (lit_ints _ [b, a, b] 3 _ (by simp))).mono ?_
  rintro e w6 ⟨X6, c6, rfl, hcc6, hv6, hb6'⟩
  have hb6 := hb5.trans (hb6'.mono hb5.size)
  have hk6 := ((hk2.alloc (.cells #[.int .i64 0, .int .i64 0] 26)).alloc (.cells (intsA [b, a, b]) 3)).below hb6' (by simp; omega)
  have hk6b := ((Blk.new w4 26 #[.int .i64 0, .int .i64 0]).alloc (.cells (intsA [b, a, b]) 3)).below hb6' (by simp; omega)
  have hsz6 := hb6.size
  have hb7 := hb6.alloc hsz6 (.cells #[.int .i64 0, .int .i64 0] 26)
  have hx7 := (hx5.below hb6').alloc (.cells #[.int .i64 0, .int .i64 0] 26)
  have hy7 := (hy5.below hb6').alloc (.cells #[.int .i64 0, .int .i64 0] 26)
  have hz7 := hv6.alloc (.cells #[.int .i64 0, .int .i64 0] 26)
  have q0 := hk6.cell 0
  have q1 := hk6b.cell 0
  have hlt6 := hk6.lt
  have hlt6b := hk6b.lt
  simp only [List.getElem?_toArray, List.getElem?_cons_zero] at q0 q1
  clear hb6' hb5 hv6 hk2 hk6 hk6b HO hx5 hy5 hb6
  simp only at hcc6 hz7 ⊢
  have hzz : ∀ o, ∃ w7 : World, w6.alloc o = w7 := fun o => ⟨_, rfl⟩
  go_wp2_with fail
  obtain ⟨w7, hw7⟩ := hzz (.cells #[.int .i64 0, .int .i64 0] 26)
  rw [hw7] at hb7 hx7 hy7 hz7 ⊢
  clear hzz hw7
  have hsz7 := hb7.size
  go_loopw [15, 16] (fun ov iv wr => ∃ (j : Nat) (Ao : Option Addr) (co : Nat), j ≤ list.length ∧ ov = .slice Ao j co ∧ iv = .int .i64 ((list.length : Int) - 1 - j) ∧ wr.ownsRow w7.heap.size 3 1 (.slice Ao j co) j (intsV (list.reverse.take j)) ∧ Below w7.heap.size w7 wr) (fun _ iv _ => (intOf iv + 1).toNat)
  case atStart => exact ⟨0, none, 0, Nat.zero_le _, rfl, by simp, World.ownsRow_nil _ _ _ _, Below.refl _ _⟩
  case round =>
    obtain ⟨j, Ao, co, hj, rfl, rfl, hown, hbr⟩ := hrel
    obtain ⟨wo, rfl⟩ : ∃ wo : World, wo = wr := ⟨_, rfl⟩
    have hb8 := hb7.trans (hbr.mono hsz7)
    have hsz8 := hbr.size
    by_cases hjl : j < list.length
    · obtain ⟨i, hij⟩ : ∃ i, i + j + 1 = list.length := ⟨list.length - 1 - j, by omega⟩
      have hil : i < list.length := by omega
      have hil' : (i : Int) < list.length := by omega
      have hie : (list.length : Int) - 1 - j = (i : Int) := by omega
      rw [hie]
      obtain ⟨bx, ox, ex, hbx, hcx⟩ := hv2.atIn hb8 i hil
      subst ex
      have HT := Lib.hid (rev_take list j i hij)
      generalize list[i] = x at *
      clear hie
      go_wp2_with (first | (at_builtin; refine wpList_app1 _ rfl (.tmp 89) (.tmp 94) 37 rfl w7.heap.size 3 i0 (.int .i64 0) 8 Try.underlying37 hi0 hz0 hz1 hz2 rfl Ao _ co _ rfl (hown.alloc _) wo.heap.size _ (.int .i64 x) rfl (by simp [World.cell?_alloc_new]) rfl ?ha ?hb ?hc ?_))
      case ha => simp [maxLen]; omega
      case hb => omega
      case hc => simp; omega
      intro A' c' w9 hown9 hg9 _
      have hb9 := below_append (hbr.alloc hsz8 _) (hown.alloc _) hg9 (Nat.le_refl _) (by simp; omega)
      have hown9' : w9.ownsRow w7.heap.size 3 1 (.slice A' (j + 1) c') (j + 1) (intsV (list.reverse.take (j + 1))) := by
        rw [HT.out, intsV_append]; exact hown9
      clear hown9 hg9
      go_wp2_with fail
      go_roundw
      case rel => exact ⟨j + 1, _, _, by omega, rfl, by congr 1; omega, hown9', hb9⟩
      case measure => simp [intOf] <;> omega
    · obtain rfl : j = list.length := by omega
      have hneg : (list.length : Int) - 1 - list.length = -1 := by omega
      rw [hneg]
      have hr8 : IV wo Ao list.reverse := by
        have := SV.of_own hown
        rwa [List.take_of_length_le (by simp)] at this
      have hx8 := hx7.below hbr
      have hy8 := hy7.below hbr
      have hz8 := hz7.below hbr
      clear hown hx7 hy7 hz7 hneg hj hjl
      go_wp2_with fail
      go_at_call 30
      refine (HU.out _ (hv.below hb8) (hv2.below hb8)).mono ?_
      rintro e w9 ⟨X9, c9, rfl, hcc9, hu9, hb9'⟩
      have hb9 := hb8.trans (hb9'.mono hb8.size)
      have hsz9 := hb9.size
      have hx9 := (hx8.below hb9').alloc (.cells #[.int .i64 cu, .int .i64 ju] 26)
      have hy9 := (hy8.below hb9').alloc (.cells #[.int .i64 cu, .int .i64 ju] 26)
      have hz9 := (hz8.below hb9').alloc (.cells #[.int .i64 cu, .int .i64 ju] 26)
      have hr9 := (hr8.below hb9').alloc (.cells #[.int .i64 cu, .int .i64 ju] 26)
      have hu9' := hu9.alloc (.cells #[.int .i64 cu, .int .i64 ju] 26)
      have hb10 := hb9.alloc hsz9 (.cells #[.int .i64 cu, .int .i64 ju] 26)
      clear hx8 hy8 hz8 hr8 hb9' hb9 hu9
      simp only at hcc9 hu9' ⊢
      go_wp2_with fail
      go_at_call 30
      refine (HR.out _ _ _ (hv.below hb10) hr9).mono ?_
      rintro e w11 ⟨X11, c11, rfl, hcc11, hu11, hb11'⟩
      have hb11 := hb10.trans (hb11'.mono hb10.size)
      have hsz11 := hb11.size
      have hx11 := (hx9.below hb11').alloc (.cells #[.int .i64 cu, .int .i64 jv] 26)
      have hy11 := (hy9.below hb11').alloc (.cells #[.int .i64 cu, .int .i64 jv] 26)
      have hz11 := (hz9.below hb11').alloc (.cells #[.int .i64 cu, .int .i64 jv] 26)
      have hv11 := (hu9'.below hb11').alloc (.cells #[.int .i64 cu, .int .i64 jv] 26)
      have hu11' := hu11.alloc (.cells #[.int .i64 cu, .int .i64 jv] 26)
      have hk11 := (Blk.new w9 26 #[.int .i64 cu, .int .i64 ju]).below hb11' (by simp)
      have hlt11 := hk11.lt
      have r0 := hk11.cell 0
      simp only [List.getElem?_toArray, List.getElem?_cons_zero] at r0
      have hb12 := hb11.alloc hsz11 (.cells #[.int .i64 cu, .int .i64 jv] 26)
      clear hx9 hy9 hz9 hr9 hb11' hb11 hu11 hk11 hu9'
      simp only at hcc11 hu11' hx11 hy11 hz11 hv11 ⊢
      have HI1 := Lib.hid (fun (w1 : World) h h2 => ints_any w1 X2 X4 c2 c4 xs h h2 (by omega))
      have HI2 := Lib.hid (fun (w1 : World) h h2 => ints_any w1 X2 X6 c2 c6 xs h h2 (by omega))
      have HI3 := Lib.hid (fun (w1 : World) h h2 => ints_any w1 X9 X11 c9 c11 us h h2 (by omega))
      go_wp2_with fail
      go_at_call 31
      refine (HI1.out _ (by exact hx11) (by exact hy11)).mono ?_
      rintro e w12 ⟨rfl, n1, rfl⟩
      go_wp2_with fail
      go_at_call 31
      refine (HI2.out _ (by exact hx11) (by exact hz11)).mono ?_
      rintro e w12 ⟨rfl, n2, rfl⟩
      go_wp2_with fail
      go_at_call 31
      refine (HI3.out _ (by exact hv11) (by exact hu11')).mono ?_
      rintro e w12 ⟨rfl, n3, rfl⟩
      go_wp2_with fail
      go_ret
      refine ⟨rfl, ?_⟩
      first | exact below_drewN (below_drewN (below_drewN hb12 _) _) _ | exact below_drewN hb12 _
theorem law10_any (w : World) (A A2 : Option Addr) (k k2 : Nat) (l : List Hs.Cm) (a b : Int) (list : List Int) (hv : CV w A l) (hl : l.length ≤ 9223372036854775807) (ha : I64 a) (hb : I64 b) (hv2 : IV w A2 list) (hi64 : ∀ (j : Nat) (h : j < list.length), I64 list[j]) (hlk : list.length ≤ k2) (hl2 : list.length ≤ 9223372036854775807) (h8 : list.length * 8 ≤ 140737488351232) :
    Calls Try.prog 10 #[.slice A l.length k, .int .i64 a, .int .i64 b, .slice A2 list.length k2] w fun e w' => e = .returned (.bool true) ∧ Below w.heap.size w w' := by
  rcases sym_cases l a b with ⟨c, j1, j2, j3, hc, e1, e2, e3⟩ | ⟨hok, xs, hxl, e1, e2, e3⟩
  · exact law10_bad w A A2 k k2 l a b list hv hl ha hb c j1 j2 j3 hc e1 e2 e3
  · exact law10_ok w A A2 k k2 l a b list hv hok ha hb hv2 hi64 hlk hl2 h8 xs hxl e1 e2 e3
end Go.Proofs.Ytoohmkdgimkgoaa
