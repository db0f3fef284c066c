/-
  The merge queue: walk of Greedy.
-/
import Derived.Test.YtinebbleilnejaaMq4
import Derived.RegionTactic
import Derived.BigRegion
namespace Mq
theorem G_len (cu : List (List Int)) : ∀ m, (G cu m).length ≤ m
  | 0 => Nat.le_refl _
  | m + 1 => by
    have := G_len cu m
    rw [G]; split
    · omega
    · rw [List.length_append]; simp; omega
end Mq
namespace Go.Proofs.Ytinebbleilnejaa
open Go.RowKit Go.V
set_option linter.unusedVariables false
theorem own_below {w w' : World} {base : Nat} {e : TypeId} {size n : Nat} {v : Value} {xs : List Value} (h : w.ownsRow base e size v n xs) (hb : Below w.heap.size w w') : w'.ownsRow base e size v n xs :=
  h.kept (only_of_below hb none) (by cases hv : v.ownBlock <;> simp)
theorem own_base {w : World} {base base' : Nat} {e : TypeId} {size n : Nat} {v : Value} {xs : List Value} (h : w.ownsRow base e size v n xs) (hb : base' ≤ base) : w.ownsRow base' e size v n xs := by
  obtain ⟨h3, h4⟩ := h
  refine ⟨h3, ?_⟩
  rcases h4 with h4 | ⟨g, cap, cur, e1, e2, h5⟩
  · exact .inl h4
  · exact .inr ⟨g, cap, cur, e1, Nat.le_trans hb e2, h5⟩
theorem badN_bad {n : Int} {cu : List (List Int)} (h : Mq.VOk n cu) (s : List Int) : badN cu s 0 = Mq.bad cu s := by
  unfold badN Mq.bad
  rw [Bool.eq_iff_iff, List.any_eq_true, List.any_eq_true]
  have hx : ∀ c ∈ cu, (c.all fun x => decide (x < 0) || s.contains x) = c.all fun k => s.contains k := by
    intro c hc
    obtain ⟨i, hi, rfl⟩ := List.getElem_of_mem hc
    rw [Bool.eq_iff_iff, List.all_eq_true, List.all_eq_true]
    have hp : ∀ x ∈ cu[i], (decide (x < 0) || s.contains x) = s.contains x := by
      intro x hx
      obtain ⟨j, hj, rfl⟩ := List.getElem_of_mem hx
      have := ((h.2.2 i hi).2 j hj).1
      rw [decide_eq_false (by omega)]; rfl
    constructor
    · intro h x hx; rw [← hp x hx]; exact h x hx
    · intro h x hx; rw [hp x hx]; exact h x hx
  constructor
  · rintro ⟨c, hc, h⟩; exact ⟨c, hc, by rw [← hx c hc]; exact h⟩
  · rintro ⟨c, hc, h⟩; exact ⟨c, hc, by rw [hx c hc]; exact h⟩
/-- What Greedy tells. -/
def GrPost (w : World) (n : Int) (cu : List (List Int)) (e : Ending) (w' : World) : Prop :=
  ∃ (c ix : Int) (A : Option Addr) (os : List Int) (k : Nat), e = .returned (.tuple #[.slice A os.length k, .agg #[.int .i64 c, .int .i64 ix]]) ∧ (c = 0 ∧ Mq.VOk n cu ∧ os = Mq.G cu n.toNat ∨ c ≠ 0 ∧ ¬ Mq.VOk n cu) ∧ IV w' A os ∧ Below w.heap.size w w'
set_option maxRecDepth 100000 in
set_option maxHeartbeats 16000000 in
theorem greedy_any (w : World) (A : Option Addr) (k : Nat) (cu : List (List Int)) (n : Int) (hv : CuV w A cu) (hl : cu.length ≤ 9223372036854775807) :
    Calls Try.prog 5 #[.int .i64 n, .slice A cu.length k] w (GrPost w n cu) := by
  obtain ⟨i0, hi0, hz0, hz1, hz2⟩ := info_parts info3
  have b0 := Blk.new w 26 #[.int .i64 0, .int .i64 0]
  have hb0 := below_alloc1 w (.cells #[.int .i64 0, .int .i64 0] 26)
  have HVA := Lib.hid (validate_any _ A k cu n (hv.below hb0) hl)
  have HBE := Lib.hid (fun (W : World) (hbW : Below w.heap.size w W) (A2 : Option Addr) (k2 : Nat) (s : List Int) (h2 : IV W A2 s) (hl2 : s.length ≤ 9223372036854775807) => below_any W A A2 k k2 cu s 0 (hv.below hbW) hl h2 hl2)
  clear hv
  go_enter Try.func5, Try.ntmps5
  go_wp2_with fail
  go_at_call 11
  with_reducible refine HVA.out.mono ?_
  rintro e w1 ⟨⟨c, ix, rfl, hc⟩, hb1⟩
  replace b0 := b0.below hb1 b0.lt
  replace hb0 := hb0.trans (hb1.mono hb0.size)
  clear hb1 HVA
  by_cases hc0 : c = 0
  · obtain ⟨rfl, rfl, hok⟩ := hc.resolve_right (fun h => h.1 hc0)
    have hn16 := hok.1
    have HOK := Lib.hid hok
    have b1 := b0.alloc (.cells #[.int .i64 0, .int .i64 0] 26)
    have hb1 := hb0.alloc hb0.size (.cells #[.int .i64 0, .int .i64 0] 26)
    obtain ⟨nn, rfl⟩ : ∃ nn : Nat, n = (nn : Int) := ⟨n.toNat, by omega⟩
    have HGB := Lib.hid (fun s => badN_bad HOK.out s)
    have HPs := Lib.hid (fun (W : World) (A2 : Option Addr) (k2 : Nat) (hi : IV W A2 (Mq.G cu nn)) (hbW : Below w.heap.size w W) => (show GrPost w (nn : Int) cu (.returned (.tuple #[.slice A2 (Mq.G cu nn).length k2, .agg #[.int .i64 0, .int .i64 0]])) W from
      ⟨0, 0, A2, Mq.G cu nn, k2, rfl, .inl ⟨rfl, HOK.out, by simp⟩, hi, hbW⟩))
    clear hc hok b0 hb0 hc0
    go_wp2_with fail
    generalize (w1.alloc (.cells #[.int .i64 0, .int .i64 0] 26)) = wq at *
    go_loopw [7, 18] (fun ov iv wr => ∃ (i : Nat) (Ao : Option Addr) (co : Nat), i ≤ nn ∧ ov = .slice Ao (Mq.G cu i).length co ∧ iv = .int .i64 i ∧ Below w.heap.size w wr ∧ Blk wr w.heap.size 26 #[.int .i64 0, .int .i64 0] ∧ wr.ownsRow w.heap.size 3 1 (.slice Ao (Mq.G cu i).length co) (Mq.G cu i).length (intsV (Mq.G cu i))) (fun _ iv _ => nn - (intOf iv).toNat)
    case atStart => exact ⟨0, none, 0, Nat.zero_le _, rfl, rfl, hb1, b1, World.ownsRow_nil _ _ _ _⟩
    case round =>
      clear b1 hb1
      obtain ⟨i, Ao, co, hi, rfl, rfl, hb, bF, hro⟩ := hrel
      have hiv : IV wr Ao (Mq.G cu i) := SV.of_own hro
      obtain ⟨wo, rfl⟩ : ∃ wo : World, wo = wr := ⟨_, rfl⟩
      have hsz := hb.size
      have hgl := Mq.G_len cu i
      by_cases hlt : i < nn
      · have hlt' : (i : Int) < nn := by omega
        have HG := Lib.hid (show Mq.G cu (i + 1) = if Mq.bad cu (Mq.G cu i ++ [(i : Int)]) = true then Mq.G cu i else Mq.G cu i ++ [(i : Int)] from rfl)
        generalize hGi : Mq.G cu i = os at *
        generalize hGn : Mq.G cu (i + 1) = os2 at *
        have HGN := Lib.hid hGn
        have HCL := Lib.hid (clone_any wo Ao co os hiv (by omega))
        have HIV := Lib.hid (fun (W : World) (hbW : Below wo.heap.size wo W) => own_below hro hbW)
        clear hiv hGi hGn hro
        go_wp2_with fail
        go_at_call 12
        with_reducible refine HCL.out.mono ?_
        rintro e w2 ⟨A2, c2, rfl, hown, hb2⟩
        have hsz2 := hb2.size
        have h63 : os.length + 1 ≤ maxLen := by unfold maxLen; omega
        have hby : (os.length + 1) * 8 ≤ 140737488355328 := by omega
        have hu : (w2.alloc (.cells #[.int .i64 (i : Int)] 3)).cell? ⟨w2.heap.size, 0, none⟩ = some (.int .i64 (i : Int)) := ((Blk.new w2 3 #[.int .i64 (i : Int)]).cell 0).trans rfl
        go_wp2_with (first | (at_builtin; refine wpList_app1 _ rfl (.tmp 22) (.tmp 24) 23 rfl wo.heap.size 3 i0 (.int .i64 0) 8 Try.underlying23 hi0 hz0 hz1 hz2 rfl A2 os.length c2 (intsV os) rfl (hown.alloc _) w2.heap.size 1 (.int .i64 (i : Int)) rfl hu rfl h63 hby (Nat.le_trans hsz2 (by simp)) ?_))
        intro A' c' w' hown' hg' hc'
        have hbw := (app_keep hown _ hg' hsz2).2.1 wo _ (Nat.le_refl _) hb2
        clear hg' hown hu hc' hb2
        have hiv' : IV w' A' (os ++ [(i : Int)]) := by
          have := SV.of_own hown'
          unfold IV
          rw [intsV_append]; exact this
        have hb3 := hb.trans (hbw.mono hsz)
        have hos : (os ++ [(i : Int)]).length = os.length + 1 := by simp
        have HBE2 := Lib.hid (HBE.out w' hb3 A' c' _ hiv' (by omega))
        rw [HGB.out, hos] at HBE2
        have HIV2 := Lib.hid (fun (W : World) (hbW : Below w'.heap.size w' W) => own_below (own_base hown' hsz) hbW)
        generalize Mq.bad cu (os ++ [(i : Int)]) = bd at *
        clear hown' hiv'
        go_wp2_with fail
        go_at_call 13
        with_reducible refine HBE2.out.mono ?_
        rintro e w3 ⟨rfl, hb4⟩
        have hb5 := hb3.trans (hb4.mono hb3.size)
        have hbw3 := hbw.trans (hb4.mono hbw.size)
        have bF3 := bF.below hbw3 bF.lt
        cases bd with
        | true =>
          have HE : Hid (os2 = os) := Lib.hid HG.out
          go_wp2_with fail
          go_roundw
          case rel => exact ⟨i + 1, Ao, co, by omega, by rw [HGN.out, HE.out], by go_num, hb5, bF3, by rw [HGN.out, HE.out]; exact HIV.out _ hbw3⟩
          case measure => simp [intOf]; omega
        | false =>
          have HE : Hid (os2 = os ++ [(i : Int)]) := Lib.hid HG.out
          go_wp2_with fail
          go_roundw
          case rel => exact ⟨i + 1, A', c', by omega, by rw [HGN.out, HE.out]; simp, by go_num, hb5, bF3, by rw [HGN.out, HE.out, hos, intsV_append]; exact HIV2.out _ hb4⟩
          case measure => simp [intOf]; omega
      · obtain rfl : i = nn := by omega
        have hlt' : ¬ (i : Int) < i := by omega
        have HF := Lib.hid (fun (W : World) (h : W.ownsRow w.heap.size 3 1 (.slice Ao (Mq.G cu i).length co) (Mq.G cu i).length (intsV (Mq.G cu i))) (h2 : Below w.heap.size w W) => HPs.out W Ao co (SV.of_own h) h2)
        have hro2 := own_setCell (own_setCell hro (own_blk_ne hro bF (by decide)) (p := ⟨w.heap.size, 0, none⟩) (.int .i64 0)) (own_blk_ne hro bF (by decide)) (p := ⟨w.heap.size, 1, none⟩) (.int .i64 0)
        clear hiv
        have q0 := (bF.cell 0).trans rfl
        have q1 := (bF.cell 1).trans rfl
        have f0 := bF.frozen 0
        have f1 := bF.frozen 1
        have l1 := bF.lt
        generalize Mq.G cu i = os at *
        go_wp2_with fail
        refine bodyPost_ret (results_tc rfl _ _ w.heap.size (.int .i64 0) (.int .i64 0) rfl (blk_put26 bF _ _)) rfl ?_
        exact HF.out _ hro2 (below_put26 hb (Nat.le_refl _) _ _)
  · have hx1 : (c == 0) = false := by simpa using hc0
    have hx2 : (c != 0) = true := by simpa using hc0
    have HF := Lib.hid (show ∀ W, Below w.heap.size w W → GrPost w n cu (.returned (.tuple #[.slice none 0 0, .agg #[.int .i64 c, .int .i64 ix]])) W from fun W h2 =>
      ⟨c, ix, none, [], 0, rfl, .inr ⟨hc0, (hc.resolve_left (fun h => hc0 h.1)).2⟩, .inl rfl, h2⟩)
    have q0 := (b0.cell 0).trans rfl
    have q1 := (b0.cell 1).trans rfl
    have f0 := b0.frozen 0
    have f1 := b0.frozen 1
    have l1 := b0.lt
    clear hc0 hc HBE
    go_wp2_with fail
    go_region
    all_goals
      go_wp2_with fail
      refine bodyPost_ret (results_tc rfl _ _ w.heap.size (.int .i64 c) (.int .i64 ix) rfl ((blk_put26 b0 _ _).alloc _).drew) rfl ?_
      exact HF.out _ (below_drew' (((hb0.setCell (p := ⟨w.heap.size, 0, none⟩) (Nat.le_refl _) _).setCell (p := ⟨w.heap.size, 1, none⟩) (Nat.le_refl _) _).alloc (by simp [World.setCell]; exact hb0.size) _))
end Go.Proofs.Ytinebbleilnejaa
