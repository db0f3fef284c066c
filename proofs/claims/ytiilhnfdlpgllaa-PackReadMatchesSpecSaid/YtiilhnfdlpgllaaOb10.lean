/-
  Objects: the example; ObjectsDigestMatchesSpec: the law's walk.
-/
import Derived.Test.YtiilhnfdlpgllaaOb9
namespace Go.Proofs.Ytiilhnfdlpgllaa
open Go.RowKit Go.V
set_option linter.unusedVariables false

/-- The example's object. -/
def exO : Ob.O := ⟨1, [], [7]⟩
theorem exO_ok : Ob.Ok exO := ⟨by decide, by decide, by decide, by decide, fun _ => rfl, fun j h => by simp [exO] at h⟩
theorem exO_dig : Ob.dig exO = 17106956 := by decide +kernel
theorem stF_nil : Ob.stF [] = (0, 0) := by unfold Ob.stF; rw [if_neg (by simp)]; exact Ob.stFrom_end [] 0 (Nat.le_refl _)
theorem ex_store : Ob.StOk [⟨17106956, exO⟩] := by
  refine ⟨by simp, fun i hi => ?_, fun i hi => ?_, fun i hi => by simp at hi⟩
  · simp at hi; subst hi; exact exO_ok
  · simp at hi; subst hi; show (17106956 : Int) = _; rw [show Ob.it [⟨17106956, exO⟩] 0 = ⟨17106956, exO⟩ from rfl, exO_dig]; rfl
theorem ex_put : Ob.putF [] exO = ([⟨17106956, exO⟩], 17106956, (0, 0)) := by
  unfold Ob.putF
  have hf : Ob.fnd [] (Ob.dig exO : Nat) = false := by unfold Ob.fnd; simp
  have hl : Ob.lb [] (Ob.dig exO : Nat) = 0 := rfl
  have ha : Ob.addOk [] (Ob.dig exO : Nat) exO = true := by unfold Ob.addOk; rw [hf]; rfl
  have hs : Ob.addS [] (Ob.dig exO : Nat) exO = [⟨17106956, exO⟩] := by unfold Ob.addS; rw [hf, hl, exO_dig]; rfl
  rw [stF_nil, if_neg (by simp), exO_ok.f, if_neg (by simp), ha, if_neg (by simp), hs, if_neg (by simp), exO_dig]
  rfl
theorem ex_fnd : Ob.fnd [⟨17106956, exO⟩] 17106956 = true := by decide +kernel
set_option maxRecDepth 100000 in
set_option maxHeartbeats 8000000 in
theorem oexample_any (w : World) : Calls Try.prog 28 #[] w fun e w' => e = .returned (.bool true) ∧ Below w.heap.size w w' := by
  have hb0 := below_alloc2 w (.cells #[.int .u8 7] 5) (.cells #[.int .i64 1, .slice none 0 0, .slice (some ⟨w.heap.size, 0, none⟩) 1 1] 44)
  have ho : ObA ((w.alloc (.cells #[.int .u8 7] 5)).alloc (.cells #[.int .i64 1, .slice none 0 0, .slice (some ⟨w.heap.size, 0, none⟩) 1 1] 44)) Free exO none 0 (some ⟨w.heap.size, 0, none⟩) 1 := by
    refine ⟨by simp [I64, exO], fun i h => by simp [exO] at h, by decide, by decide, by decide, by decide, SA.nil, ?_⟩
    have := SA.of_blk (X := Free) ((Blk.new w 5 #[.int .u8 7]).alloc (.cells #[.int .i64 1, .slice none 0 0, .slice (some ⟨w.heap.size, 0, none⟩) 1 1] 44)) (fun h => h)
    exact this
  have HO := Lib.hid (fun (w1 : World) (hb : Below ((w.alloc (.cells #[.int .u8 7] 5)).alloc (.cells #[.int .i64 1, .slice none 0 0, .slice (some ⟨w.heap.size, 0, none⟩) 1 1] 44)).heap.size ((w.alloc (.cells #[.int .u8 7] 5)).alloc (.cells #[.int .i64 1, .slice none 0 0, .slice (some ⟨w.heap.size, 0, none⟩) 1 1] 44)) w1) => ho.keep (free_below hb))
  have bo := blk_new1 w (.cells #[.int .u8 7] 5) 44 #[.int .i64 1, .slice none 0 0, .slice (some ⟨w.heap.size, 0, none⟩) 1 1]
  have HD := Lib.hid (digest_ok _ exO none 0 _ 1 ho exO_ok)
  rw [exO_dig] at HD
  clear ho
  go_enter Try.func28, Try.ntmps28
  go_wp2_with fail
  go_at_call 29
  refine HD.out.mono ?_
  rintro e w1 ⟨rfl, hb1⟩
  have hbw1 := hb0.trans (hb1.mono hb0.size)
  have bo1 := bo.below hb1 bo.lt
  have k0 := bo1.cell 0
  have k1 := bo1.cell 1
  have k2 := bo1.cell 2
  have kl := bo1.lt
  simp only [List.getElem?_toArray, List.getElem?_cons_zero, List.getElem?_cons_succ] at k0 k1 k2
  have hba := hb1.alloc hb1.size (.cells #[.int .i64 0, .int .i64 0] 28)
  have HP := Lib.hid (put_any _ none 0 [] exO none 0 _ 1 ⟨[], SA.nil, rfl⟩ (by simp) (HO.out _ hba))
  rw [ex_put] at HP
  have hbw1a := hbw1.alloc hbw1.size (.cells #[.int .i64 0, .int .i64 0] 28)
  have f1 := Blk.new w1 28 #[.int .i64 0, .int .i64 0]
  clear hb1 bo hba HO HD
  go_wp2_with fail
  go_at_call 33
  refine HP.out.mono ?_
  rintro e w2 ⟨A2, c2, rfl, hc2, hs2, hb2⟩
  have hbw2 := hbw1a.trans (hb2.mono hbw1a.size)
  have f12 := ((f1.below hb2 f1.lt).alloc (.cells #[.slice A2 1 c2] 24)).alloc (.cells #[.int .i64 0, .int .i64 0] 28)
  have hbw3 := (hbw2.alloc hbw2.size (.cells #[.slice A2 1 c2] 24)).alloc (Nat.le_trans hbw2.size (size_alloc_le _ _)) (.cells #[.int .i64 0, .int .i64 0] 28)
  have f2 := (Blk.new w2 24 #[.slice A2 1 c2]).alloc (.cells #[.int .i64 0, .int .i64 0] 28)
  have f3 := blk_new1 w2 (.cells #[.slice A2 1 c2] 24) 28 #[.int .i64 0, .int .i64 0]
  have HH := Lib.hid (has_any ((w2.alloc (.cells #[.slice A2 1 c2] 24)).alloc (.cells #[.int .i64 0, .int .i64 0] 28)) A2 c2 [⟨17106956, exO⟩] 17106956 ((hs2.keep (X' := Free) ((Keeps.below (below_alloc2 w2 _ _) (fun _ _ h => h.elim)))) ) (by simp))
  clear hb2 hs2 HP f1
  go_wp2_with fail
  go_at_call 35
  refine HH.out.mono ?_
  rintro e w4 ⟨hb4, ⟨hne, _⟩ | ⟨_, rfl⟩⟩
  · rw [ex_store.f] at hne; exact absurd rfl hne
  rw [ex_fnd]
  have hbw4 := hbw3.trans (hb4.mono hbw3.size)
  have g1 := (f12.below hb4 f12.lt).alloc (.cells #[.int .i64 0, .int .i64 0] 28)
  have g2 := (f2.below hb4 f2.lt).alloc (.cells #[.int .i64 0, .int .i64 0] 28)
  have g3 := (f3.below hb4 f3.lt).alloc (.cells #[.int .i64 0, .int .i64 0] 28)
  have m1 := g1.cell 0
  have m2 := g2.cell 0
  have m3 := g3.cell 0
  simp only [List.getElem?_toArray, List.getElem?_cons_zero, List.getElem?_cons_succ] at m1 m2 m3
  clear hb4 HH f12 f2 f3
  go_wp2_with fail
  go_ret
  exact ⟨rfl, hbw4.alloc hbw4.size _⟩
end Go.Proofs.Ytiilhnfdlpgllaa
