/-
  Queries: walks of 'Wrap' and 'mlCommits'.
-/
import Derived.Test.YtebohncdhhikkaaOq14
import Derived.Test.YtebohncdhhikkaaView16
import Derived.OrdersHeld
namespace Go.Proofs.Ytebohncdhhikkaa
open Go.RowKit Go.V
set_option linter.unusedVariables false
set_option maxRecDepth 100000 in
set_option maxHeartbeats 16000000 in
theorem wrap_any (w : World) (kk : Int) (A1 : Option Addr) (k1 : Nat) (l : List Oq.N) (h1 : QV w A1 l) (hl : l.length ≤ 40) :
    Calls Try.prog 11 #[.int .i64 kk, .agg #[.slice A1 l.length k1]] w (JnPost w (Oq.wrap kk l)) := by
  have hWE := Lib.hid (show nsV (Oq.wrap kk l) = nsV l ++ [.int .i64 kk, .int .i64 0, .int .i64 ((l.length : Int) - 1), .int .i64 0] from by unfold Oq.wrap; rw [nsV_app]; simp [nC])
  have hWL := Lib.hid (Oq.wrap_len kk l)
  generalize Oq.wrap kk l = J at *
  have hb0 := below_alloc2 w (.cells #[.slice A1 l.length k1] 38) (.cells #[.slice none 0 0] 38)
  have bX := (Blk.new w 38 #[.slice A1 l.length k1]).alloc (.cells #[.slice none 0 0] 38)
  have bR := blk_new1 w (.cells #[.slice A1 l.length k1] 38) 38 #[.slice none 0 0]
  have HS1 := Lib.hid (fun (w6 : World) (hb : Below w.heap.size w w6) => (show SV w6 w6.heap.size A1 (nsV l) from h1.below hb))
  have HONE := Lib.hid (nsV_one l)
  have HLEN := Lib.hid (nsV_len l)
  have w5 : IntKind.i64.wrap ((l.length : Int) - 1) = (l.length : Int) - 1 := IntWalk.i64_in _ (by omega)
  have h1c : ∀ u ∈ ([.int .i64 kk, .int .i64 0, .int .i64 ((l.length : Int) - 1), .int .i64 0] : List Value), u.oneCell' = true := by intro u hu; simp at hu; rcases hu with rfl | rfl | rfl | rfl <;> rfl
  obtain ⟨i0, hi0, hz0, hz1, hz2⟩ := info_parts info50
  have h63 : 0 + l.length ≤ maxLen := by unfold maxLen; omega
  have hby : (0 + l.length) * 32 ≤ 140737488355328 := by omega
  have h63' : l.length + 1 ≤ maxLen := by unfold maxLen; omega
  have hby' : (l.length + 1) * 32 ≤ 140737488355328 := by omega
  clear h1
  go_enter Try.func11, Try.ntmps11
  go_wp2_with fail
  generalize (w.alloc (.cells #[.slice A1 l.length k1] 38)).alloc (.cells #[.slice none 0 0] 38) = wb at *
  have HK8 := Lib.hid (fun (w6 : World) (h6 : Below wb.heap.size wb w6) => (show w6.cell? ⟨w.heap.size, 0, none⟩ = some (.slice A1 l.length k1) from ((bX.below h6 bX.lt).cell 0).trans rfl))
  refine wp_region_noPanic ?_
  refine wp_region_held_drew (S := (fun w6 : World => w6.cell? ⟨w.heap.size, 0, none⟩ = some (.slice A1 l.length k1))) (by kernel_rfl) ?_ (fun hSW => ?_)
  · exact HK8.out _ (below_drew' (Below.refl _ _))
  have hq : Below wb.heap.size wb wb.drew := below_drew' (Below.refl _ _)
  have hszb : wb.heap.size ≤ wb.drew.heap.size := Nat.le_refl _
  generalize hWg : wb.drew = WE at *
  clear hWg
  refine wpAnyH_take (i := 0) (v := .pointer (some ⟨w.heap.size, 0, none⟩)) rfl (by kernel_rfl) (by kernel_rfl) (by kernel_rfl) (fun _ _ _ h => h) (Or.inl ⟨by kernel_rfl, ?qW1⟩) (by assumption) ?rqW1
  case qW1 => (intro w hSw; (try dsimp only at hSw); go_simp)
  try simp only [Act.put, List.setIfInBounds_toArray]
  refine wpAnyH_take (i := 1) (v := .slice A1 l.length k1) rfl (by kernel_rfl) (by kernel_rfl) (by kernel_rfl) (fun _ _ _ h => h) (Or.inl ⟨by kernel_rfl, ?qW2⟩) (by assumption) ?rqW2
  case qW2 => (intro w hSw; (try dsimp only at hSw); go_simp)
  try simp only [Act.put, List.setIfInBounds_toArray]
  refine wpAnyH_take (i := 3) (v := .int .i64 kk) rfl (by kernel_rfl) (by kernel_rfl) (by kernel_rfl) (fun _ _ _ h => h) (Or.inl ⟨by kernel_rfl, ?qW3⟩) (by assumption) ?rqW3
  case qW3 => (intro w hSw; (try dsimp only at hSw); go_simp)
  try simp only [Act.put, List.setIfInBounds_toArray]
  refine wpAnyH_take (i := 4) (v := .pointer (some ⟨w.heap.size, 0, none⟩)) rfl (by kernel_rfl) (by kernel_rfl) (by kernel_rfl) (fun _ _ _ h => h) (Or.inl ⟨by kernel_rfl, ?qW4⟩) (by assumption) ?rqW4
  case qW4 => (intro w hSw; (try dsimp only at hSw); go_simp)
  try simp only [Act.put, List.setIfInBounds_toArray]
  refine wpAnyH_take (i := 5) (v := .slice A1 l.length k1) rfl (by kernel_rfl) (by kernel_rfl) (by kernel_rfl) (fun _ _ _ h => h) (Or.inl ⟨by kernel_rfl, ?qW5⟩) (by assumption) ?rqW5
  case qW5 => (intro w hSw; (try dsimp only at hSw); go_simp)
  try simp only [Act.put, List.setIfInBounds_toArray]
  refine wpAnyH_take (i := 6) (v := .int .i64 (l.length : Int)) rfl (by kernel_rfl) (by kernel_rfl) (by kernel_rfl) (fun _ _ _ h => h) (Or.inl ⟨by kernel_rfl, ?qW6⟩) (by assumption) ?rqW6
  case qW6 => (intro w hSw; (try dsimp only at hSw); go_simp)
  try simp only [Act.put, List.setIfInBounds_toArray]
  refine wpAnyH_take (i := 7) (v := .int .i64 ((l.length : Int) - 1)) rfl (by kernel_rfl) (by kernel_rfl) (by kernel_rfl) (fun _ _ _ h => h) (Or.inl ⟨by kernel_rfl, ?qW7⟩) (by assumption) ?rqW7
  case qW7 => (intro w hSw; (try dsimp only at hSw); go_simp)
  try simp only [Act.put, List.setIfInBounds_toArray]
  refine wpAnyH_take (i := 8) (v := .agg #[.int .i64 kk, .int .i64 0, .int .i64 ((l.length : Int) - 1), .int .i64 0]) rfl (by kernel_rfl) (by kernel_rfl) (by kernel_rfl) (fun _ _ _ h => h) (Or.inl ⟨by kernel_rfl, ?qW8⟩) (by assumption) ?rqW8
  case qW8 => (intro w hSw; (try dsimp only at hSw); go_simp)
  try simp only [Act.put, List.setIfInBounds_toArray]
  refine wpAnyH_ready (rs := [2, 9]) (by kernel_rfl) (by simp) ?_
  refine AllReadyH.cons rfl (fun K hK => ?nW9) (AllReadyH.cons rfl (fun K hK => ?nW10) (AllReadyH.nil))
  case nW9 =>
    refine step_appM _ rfl (.const (.slice none 0 0)) (.tmp 6) 36 rfl wb.heap.size 50 i0 _ 4 32 Try.underlying36 hi0 hz0 hz1 hz2 rfl (by decide) none 0 0 [] rfl (World.ownsRow_nil _ _ _ _) _ A1 l.length k1 (nsV l) rfl HLEN.out (HS1.out _ (hb0.trans (hq.mono hb0.size))) HONE.out h63 hby hq.size ?_
    intro A4 c4 WW11 hown4 hg4 hc4
    simp only [Nat.zero_add, List.nil_append] at hown4
    try simp only [Nat.zero_add]
    refine hK.out _ _ ?_ (fun hSW12 => ?_)
    · exact HK8.out _ (hq.grown hg4 hq.size (fun g e => by cases e))
    clear hK K
    try simp only [Act.put, List.setIfInBounds_toArray]
    replace hq := hq.grown hg4 hq.size (fun g e => by cases e)
    clear hg4 hc4
    refine wpAnyH_ready (rs := [9]) (by kernel_rfl) (by simp) ?_
    refine AllReadyH.cons rfl (fun K hK => ?nW13) (AllReadyH.nil)
    go_simp
    refine hK.out _ _ ?_ (fun hSW15 => ?_)
    · exact HK8.out _ (hq.alloc hq.size (.cells #[.int .i64 kk, .int .i64 0, .int .i64 ((l.length : Int) - 1), .int .i64 0] 50))
    clear hK K
    try simp only [Act.put, List.setIfInBounds_toArray]
    replace hq := hq.alloc hq.size (.cells #[.int .i64 kk, .int .i64 0, .int .i64 ((l.length : Int) - 1), .int .i64 0] 50)
    have bL := Blk.new WW11 50 #[.int .i64 kk, .int .i64 0, .int .i64 ((l.length : Int) - 1), .int .i64 0]
    replace hown4 := hown4.alloc (.cells #[.int .i64 kk, .int .i64 0, .int .i64 ((l.length : Int) - 1), .int .i64 0] 50)
    generalize WW11.alloc (.cells #[.int .i64 kk, .int .i64 0, .int .i64 ((l.length : Int) - 1), .int .i64 0] 50) = WW14 at *
    generalize WW11.heap.size = gL at *
    refine wpAnyH_ready (rs := [10]) (by kernel_rfl) (by simp) ?_
    refine AllReadyH.cons rfl (fun K hK => ?nW16) (AllReadyH.nil)
    refine step_appM _ rfl (.tmp 7) (.tmp 14) 36 rfl wb.heap.size 50 i0 _ 4 32 Try.underlying36 hi0 hz0 hz1 hz2 rfl (by decide) A4 l.length c4 (nsV l) rfl hown4 _ (some ⟨gL, 0, none⟩) 1 1 [.int .i64 kk, .int .i64 0, .int .i64 ((l.length : Int) - 1), .int .i64 0] rfl rfl (SV.of_blk bL) h1c h63' hby' hq.size ?_
    intro A5 c5 WW17 hown5 hg5 hc5
    refine hK.out _ _ ?_ (fun hSW18 => ?_)
    · exact HK8.out _ (hq.grown hg5 hq.size (fun g e => (hown4.lt g e).1))
    clear hK K
    try simp only [Act.put, List.setIfInBounds_toArray]
    replace hq := hq.grown hg5 hq.size (fun g e => (hown4.lt g e).1)
    clear hg5 hc5 hown4
    refine wpAnyH_take (i := 11) (v := .agg #[.slice A5 (l.length + 1) c5]) rfl (by kernel_rfl) (by kernel_rfl) (by kernel_rfl) (fun _ _ _ h => h) (Or.inl ⟨by kernel_rfl, ?qW19⟩) (by assumption) ?rqW19
    case qW19 => (intro w hSw; (try dsimp only at hSw); go_simp)
    try simp only [Act.put, List.setIfInBounds_toArray]
    refine wpAnyH_ready (rs := [12]) (by kernel_rfl) (by simp) ?_
    refine AllReadyH.cons rfl (fun K hK => ?nW20) (AllReadyH.nil)
    have bRq := bR.below hq bR.lt
    have bXq := bX.below hq bX.lt
    have q9 := (bRq.cell 0).trans rfl
    have f9 := bRq.frozen 0
    have l9 := bRq.lt
    go_simp
    refine hK.out _ _ ?_ (fun hS9 => ?_)
    · exact ((bXq.far (p := ⟨w.heap.size + 1, 0, none⟩) (by simp) _).cell 0).trans rfl
    clear hK K
    try simp only [Act.put, List.setIfInBounds_toArray]
    refine wpAnyH_done (by kernel_rfl) ?_ _
    refine NoPanic.normal ?_
    have hown6 := own_setCell hown5 (own_blk_ne hown5 bRq (by decide)) (p := ⟨w.heap.size + 1, 0, none⟩) (.slice A5 (l.length + 1) c5)
    have b4 := bRq.set_ 0 (.slice A5 (l.length + 1) c5)
    have hfin := (hb0.trans (hq.mono hb0.size)).setCell (p := ⟨w.heap.size + 1, 0, none⟩) (by simp) (.slice A5 (l.length + 1) c5)
    go_wp2_with fail
    refine bodyPost_ret (results_q rfl _ _ (w.heap.size + 1) (.slice A5 (l.length + 1) c5) rfl b4) rfl ?_
    exact ⟨A5, c5, by rw [hWL.out], by rw [hWL.out, hWE.out]; exact own_base hown6 hb0.size, hfin⟩
  case nW10 =>
    go_simp
    refine hK.out _ _ ?_ (fun hSW22 => ?_)
    · exact HK8.out _ (hq.alloc hq.size (.cells #[.int .i64 kk, .int .i64 0, .int .i64 ((l.length : Int) - 1), .int .i64 0] 50))
    clear hK K
    try simp only [Act.put, List.setIfInBounds_toArray]
    replace hq := hq.alloc hq.size (.cells #[.int .i64 kk, .int .i64 0, .int .i64 ((l.length : Int) - 1), .int .i64 0] 50)
    have bL := Blk.new WE 50 #[.int .i64 kk, .int .i64 0, .int .i64 ((l.length : Int) - 1), .int .i64 0]
    generalize WE.alloc (.cells #[.int .i64 kk, .int .i64 0, .int .i64 ((l.length : Int) - 1), .int .i64 0] 50) = WW21 at *
    generalize WE.heap.size = gL at *
    refine wpAnyH_ready (rs := [2]) (by kernel_rfl) (by simp) ?_
    refine AllReadyH.cons rfl (fun K hK => ?nW23) (AllReadyH.nil)
    refine step_appM _ rfl (.const (.slice none 0 0)) (.tmp 6) 36 rfl wb.heap.size 50 i0 _ 4 32 Try.underlying36 hi0 hz0 hz1 hz2 rfl (by decide) none 0 0 [] rfl (World.ownsRow_nil _ _ _ _) _ A1 l.length k1 (nsV l) rfl HLEN.out (HS1.out _ (hb0.trans (hq.mono hb0.size))) HONE.out h63 hby hq.size ?_
    intro A4 c4 WW24 hown4 hg4 hc4
    simp only [Nat.zero_add, List.nil_append] at hown4
    try simp only [Nat.zero_add]
    refine hK.out _ _ ?_ (fun hSW25 => ?_)
    · exact HK8.out _ (hq.grown hg4 hq.size (fun g e => by cases e))
    clear hK K
    try simp only [Act.put, List.setIfInBounds_toArray]
    replace hq := hq.grown hg4 hq.size (fun g e => by cases e)
    replace bL := bL.grown hg4 (by simp [Value.ownBlock])
    clear hg4 hc4
    refine wpAnyH_ready (rs := [10]) (by kernel_rfl) (by simp) ?_
    refine AllReadyH.cons rfl (fun K hK => ?nW26) (AllReadyH.nil)
    refine step_appM _ rfl (.tmp 7) (.tmp 14) 36 rfl wb.heap.size 50 i0 _ 4 32 Try.underlying36 hi0 hz0 hz1 hz2 rfl (by decide) A4 l.length c4 (nsV l) rfl hown4 _ (some ⟨gL, 0, none⟩) 1 1 [.int .i64 kk, .int .i64 0, .int .i64 ((l.length : Int) - 1), .int .i64 0] rfl rfl (SV.of_blk bL) h1c h63' hby' hq.size ?_
    intro A5 c5 WW27 hown5 hg5 hc5
    refine hK.out _ _ ?_ (fun hSW28 => ?_)
    · exact HK8.out _ (hq.grown hg5 hq.size (fun g e => (hown4.lt g e).1))
    clear hK K
    try simp only [Act.put, List.setIfInBounds_toArray]
    replace hq := hq.grown hg5 hq.size (fun g e => (hown4.lt g e).1)
    clear hg5 hc5 hown4
    refine wpAnyH_take (i := 11) (v := .agg #[.slice A5 (l.length + 1) c5]) rfl (by kernel_rfl) (by kernel_rfl) (by kernel_rfl) (fun _ _ _ h => h) (Or.inl ⟨by kernel_rfl, ?qW29⟩) (by assumption) ?rqW29
    case qW29 => (intro w hSw; (try dsimp only at hSw); go_simp)
    try simp only [Act.put, List.setIfInBounds_toArray]
    refine wpAnyH_ready (rs := [12]) (by kernel_rfl) (by simp) ?_
    refine AllReadyH.cons rfl (fun K hK => ?nW30) (AllReadyH.nil)
    have bRq := bR.below hq bR.lt
    have bXq := bX.below hq bX.lt
    have q9 := (bRq.cell 0).trans rfl
    have f9 := bRq.frozen 0
    have l9 := bRq.lt
    go_simp
    refine hK.out _ _ ?_ (fun hS9 => ?_)
    · exact ((bXq.far (p := ⟨w.heap.size + 1, 0, none⟩) (by simp) _).cell 0).trans rfl
    clear hK K
    try simp only [Act.put, List.setIfInBounds_toArray]
    refine wpAnyH_done (by kernel_rfl) ?_ _
    refine NoPanic.normal ?_
    have hown6 := own_setCell hown5 (own_blk_ne hown5 bRq (by decide)) (p := ⟨w.heap.size + 1, 0, none⟩) (.slice A5 (l.length + 1) c5)
    have b4 := bRq.set_ 0 (.slice A5 (l.length + 1) c5)
    have hfin := (hb0.trans (hq.mono hb0.size)).setCell (p := ⟨w.heap.size + 1, 0, none⟩) (by simp) (.slice A5 (l.length + 1) c5)
    go_wp2_with fail
    refine bodyPost_ret (results_q rfl _ _ (w.heap.size + 1) (.slice A5 (l.length + 1) c5) rfl b4) rfl ?_
    exact ⟨A5, c5, by rw [hWL.out], by rw [hWL.out, hWE.out]; exact own_base hown6 hb0.size, hfin⟩
end Go.Proofs.Ytebohncdhhikkaa
