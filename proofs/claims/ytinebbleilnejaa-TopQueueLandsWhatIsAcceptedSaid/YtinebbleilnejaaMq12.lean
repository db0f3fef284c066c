/-
  The merge queue: walk of add (a change without priority).
-/
import Derived.Test.YtinebbleilnejaaMqF
namespace Go.Proofs.Ytinebbleilnejaa
open Go.RowKit Go.V
set_option linter.unusedVariables false
theorem zc_one' {c : Int} : ∀ v ∈ ([.int .i64 c, .int .i64 0, .bool false, .bool false, .bool false, .slice none 0 0] : List Value), v.oneCell' = true := by
  intro v hv
  rcases List.mem_cons.1 hv with rfl | hv
  · rfl
  exact zc_one v (by simp only [List.mem_cons] at hv ⊢; simp_all)
set_option maxHeartbeats 4000000 in
theorem discardEnd_any (B : Nat) (w : World) (gQ : Nat) (win : Int) (ve vl vr : Value) (L : List (Mq.E × Value)) (la re : List Int) (hq : QS B w gQ win ve L vl vr la re) (h0 : 0 < L.length) (hl : L.length ≤ 1000) :
    Calls Try.prog 28 #[.pointer (some ⟨gQ, 0, none⟩), .int .i64 (L.length : Int)] w fun e w' => e = .returned (.tuple #[]) ∧ w = w' := by
  obtain ⟨g, c, cur, rfl, h2, h3, hnc, _⟩ := own_some hq.e h0
  have p0 : w.cell? ⟨gQ, 0, none⟩ = some (.slice (some ⟨g, 0, none⟩) L.length c) := (hq.q.cell 0).trans rfl
  clear hq h3
  generalize L.length = n at *
  have hlc : (n : Int) ≤ c := by omega
  go_enter Try.func28, Try.ntmps28
  go_wp2_with fail
  all_goals
    go_loopw [14] (fun iv wr => iv = .int .i64 0 ∧ w = wr) (fun _ _ => 0)
    case atStart => exact ⟨rfl, rfl⟩
    case round =>
      obtain ⟨rfl, rfl⟩ := hrel
      go_wp2_with fail
      refine bodyPost_end (results_none rfl _ _ _) rfl ?_
      exact ⟨rfl, rfl⟩
/-- What add tells. -/
def AdPost (B : Nat) (w : World) (gQ : Nat) (win : Int) (L : List (Mq.E × Value)) (vl vr : Value) (la re : List Int) (c : Int) (e : Ending) (w' : World) : Prop :=
  e = .returned (.tuple #[]) ∧ ∃ ve', QS B w' gQ win ve' (L ++ [(⟨c, false, false, false, []⟩, .slice none 0 0)]) vl vr la re ∧ Fr B w w'
theorem QS.grow {B gQ : Nat} {w w1 : World} {win : Int} {ve vl vr : Value} {L : List (Mq.E × Value)} {la re : List Int} (h : QS B w gQ win ve L vl vr la re) (c : Int) (gd c' : Nat) (hg : w.grownBy w1 ve.ownBlock)
    (ho : w1.ownsRow B 38 6 (.slice (some ⟨gd, 0, none⟩) (L.length + 1) c') (L.length + 1) (flat L ++ [.int .i64 c, .int .i64 0, .bool false, .bool false, .bool false, .slice none 0 0])) :
    QS B (w1.setCell ⟨gQ, 0, none⟩ (.slice (some ⟨gd, 0, none⟩) (L.length + 1) c')) gQ win (.slice (some ⟨gd, 0, none⟩) (L.length + 1) c') (L ++ [(⟨c, false, false, false, []⟩, .slice none 0 0)]) vl vr la re ∧ Fr B w (w1.setCell ⟨gQ, 0, none⟩ (.slice (some ⟨gd, 0, none⟩) (L.length + 1) c')) := by
  have hqn : some gQ ≠ ve.ownBlock := own_blk_ne h.e h.q (by decide)
  have bq : Blk w1 gQ 56 #[ve, vl, vr, .int .i64 win] := h.q.grown hg hqn
  have bq2 : Blk (w1.setCell ⟨gQ, 0, none⟩ (.slice (some ⟨gd, 0, none⟩) (L.length + 1) c')) gQ 56 #[.slice (some ⟨gd, 0, none⟩) (L.length + 1) c', vl, vr, .int .i64 win] := by simpa using bq.set_ 0 (.slice (some ⟨gd, 0, none⟩) (L.length + 1) c')
  have hir : ∀ {v : Value} {l : List Int}, IR B w v l → IR B (w1.setCell ⟨gQ, 0, none⟩ (.slice (some ⟨gd, 0, none⟩) (L.length + 1) c')) v l := fun {v l} hh => by
    have h1 : IR B w1 v l := own_apart (B' := B) hh hg (fun g hg' e => by
      rcases own_ne_own hh h.e (by decide) with h0 | h0
      · rw [h0] at hg'; cases hg'
      · exact h0 (hg'.trans e.symm))
    exact ir_set h1 bq (by decide) _
  have hfl : flat (L ++ [((⟨c, false, false, false, []⟩ : Mq.E), Value.slice none 0 0)]) = flat L ++ [.int .i64 c, .int .i64 0, .bool false, .bool false, .bool false, .slice none 0 0] := by rw [flat_app]; rfl
  have hlen : (L ++ [((⟨c, false, false, false, []⟩ : Mq.E), Value.slice none 0 0)]).length = L.length + 1 := by simp
  refine ⟨⟨bq2, h.hq, by rw [hfl, hlen]; exact own_setCell ho (own_blk_ne ho bq (by decide)) _, hir h.l, hir h.r, fun j hj => ?_, ?_⟩, (Fr.own h.e (.inl rfl) hg).trans (Fr.set_ (p := ⟨gQ, 0, none⟩) bq h.hq (.inl rfl) _)⟩
  · by_cases e : j < L.length
    · rw [List.getElem_append_left e]; exact hir (h.a j e)
    · have e2 : j = L.length := by rw [hlen] at hj; omega
      subst e2
      rw [List.getElem_append_right (Nat.le_refl _)]
      simp only [Nat.sub_self, List.getElem_cons_zero]
      exact World.ownsRow_nil _ _ _ _
  · rw [List.map_append]
    have hs := h.sp
    unfold Sp at hs ⊢
    show List.Pairwise _ ((vl :: vr :: L.map (·.2)) ++ [.slice none 0 0])
    rw [List.pairwise_append]
    refine ⟨hs, List.pairwise_singleton _ _, fun a _ b hb g _ e => ?_⟩
    rw [List.mem_singleton] at hb
    subst hb
    cases e
set_option maxRecDepth 100000 in
set_option maxHeartbeats 8000000 in
theorem add_any (B : Nat) (w : World) (gQ : Nat) (win : Int) (ve vl vr : Value) (L : List (Mq.E × Value)) (la re : List Int) (c : Int) (hq : QS B w gQ win ve L vl vr la re) (hl : L.length ≤ 100) (hB : B ≤ w.heap.size) :
    Calls Try.prog 26 #[.pointer (some ⟨gQ, 0, none⟩), .int .i64 c, .int .i64 0] w (AdPost B w gQ win L vl vr la re c) := by
  obtain ⟨A, cc, rfl⟩ := hq.len
  have p0 : w.cell? ⟨gQ, 0, none⟩ = some (.slice A L.length cc) := (hq.q.cell 0).trans rfl
  have HQ := Lib.hid (fun (W : World) (hb : Below w.heap.size w W) => hq.below hb)
  have HE := Lib.hid (fun (W : World) (hb : Below w.heap.size w W) (e : Ending) (w' : World) (h : AdPost B W gQ win L vl vr la re c e w') => (show AdPost B w gQ win L vl vr la re c e w' from by
    obtain ⟨h1, ve', h2, h3⟩ := h
    exact ⟨h1, ve', h2, (Fr.below hb).trans h3⟩))
  clear hq
  go_enter Try.func26, Try.ntmps26
  go_wp2_with fail
  go_loopw [6, 15] (fun kv iv wr => ∃ i : Nat, i ≤ L.length ∧ kv = .int .i64 i ∧ iv = .int .i64 i ∧ Below w.heap.size w wr) (fun _ iv _ => L.length - (intOf iv).toNat)
  case atStart => exact ⟨0, Nat.zero_le _, rfl, rfl, Below.refl _ _⟩
  case round =>
    obtain ⟨i, hi, rfl, rfl, hb⟩ := hrel
    obtain ⟨wo, rfl⟩ : ∃ wo : World, wo = wr := ⟨_, rfl⟩
    by_cases hlt : i < L.length
    · have hltI : (i : Int) < L.length := by omega
      obtain ⟨g, c9, e, hg, _, _, d0, d1, d2, d3, d4, d5, _⟩ := (HQ.out wo hb).row i hlt
      obtain ⟨Av, cv, hxv, _⟩ := own_form ((HQ.out wo hb).a i hlt)
      injection e with e1 e2 e3
      subst e1
      subst e3
      clear e2
      rw [hxv] at d5
      generalize L[i] = y at *
      obtain ⟨⟨yc, yt, yp, yf, ya⟩, yv⟩ := y
      simp only at d0 d2 d3 d4 d5
      clear hxv
      go_wp2_with fail
      go_roundw
      case rel => exact ⟨i + 1, by omega, by go_num, by go_num, hb.trans ((below_alloc1 wo _).mono hb.size)⟩
      case measure => simp [intOf]; omega
    · obtain rfl : i = L.length := by omega
      have hltI : ¬ (L.length : Int) < L.length := by omega
      have hq := HQ.out wo hb
      have p1 : wo.cell? ⟨gQ, 0, none⟩ = some (.slice A L.length cc) := (hq.q.cell 0).trans rfl
      have hBw : B ≤ wo.heap.size := Nat.le_trans hB hb.size
      have bN := Blk.new wo 38 #[.int .i64 c, .int .i64 0, .bool false, .bool false, .bool false, .slice none 0 0]
      have hqn := hq.alloc (.cells #[.int .i64 c, .int .i64 0, .bool false, .bool false, .bool false, .slice none 0 0] 38)
      have HIN := Lib.hid (insert_end (wo.alloc (.cells #[.int .i64 c, .int .i64 0, .bool false, .bool false, .bool false, .slice none 0 0] 38)) B A L.length cc (flat L) [.int .i64 c, .int .i64 0, .bool false, .bool false, .bool false, .slice none 0 0] wo.heap.size hqn.e (by omega) (by simp; omega) rfl (fun j u hu => by rw [bN.cell, ← Array.getElem?_toList]; exact hu) zc_one')
      have HG := Lib.hid (fun (w1 : World) (gd c' : Nat) hg ho => QS.grow hqn c gd c' (w1 := w1) hg ho)
      have HE2 := Lib.hid (HE.out wo hb)
      have hqn' : some gQ ≠ (Value.slice A L.length cc).ownBlock := own_blk_ne hqn.e hqn.q (by decide)
      have HBQ := Lib.hid (fun (w1 : World) (hg : (wo.alloc (.cells #[.int .i64 c, .int .i64 0, .bool false, .bool false, .bool false, .slice none 0 0] 38)).grownBy w1 (Value.slice A L.length cc).ownBlock) => hqn.q.grown hg hqn')
      have HFL := Lib.hid (flat_len L)
      have HFB := Lib.hid (show Fr B wo (wo.alloc (.cells #[.int .i64 c, .int .i64 0, .bool false, .bool false, .bool false, .slice none 0 0] 38)) from Fr.below (below_alloc1 wo _))
      clear hq bN hqn HE HQ p0 hqn'
      go_wp2_with fail
      with_reducible refine HIN.out.mono ?_
      rintro e w1 ⟨gd, c', rfl, ho, hg, hob⟩
      rw [List.take_of_length_le (by rw [HFL.out]; exact Nat.le_refl _), List.drop_of_length_le (by rw [HFL.out]; exact Nat.le_refl _), List.append_nil] at ho
      have hbq := HBQ.out w1 hg
      have c0 : w1.cell? ⟨gQ, 0, none⟩ = some (.slice A L.length cc) := (hbq.cell 0).trans rfl
      have f0 := hbq.frozen 0
      have l0 := hbq.lt
      have HGX := Lib.hid (HG.out w1 gd c' hg ho)
      clear ho hg hob hbq HG HBQ HIN HFL
      generalize hw5 : w1.setCell ⟨gQ, 0, none⟩ (.slice (some ⟨gd, 0, none⟩) (L.length + 1) c') = w5 at *
      have HD : Hid (Calls Try.prog 28 #[.pointer (some ⟨gQ, 0, none⟩), .int .i64 ((L.length : Int) + 1)] w5 fun e w' => e = .returned (.tuple #[]) ∧ w5 = w') := Lib.hid (by
        have h := discardEnd_any B w5 gQ win _ vl vr _ la re HGX.out.1 (by simp) (by simp; omega)
        have e : (((L ++ [((⟨c, false, false, false, []⟩ : Mq.E), Value.slice none 0 0)]).length : Nat) : Int) = (L.length : Int) + 1 := by simp
        rwa [e] at h)
      have HFIN := Lib.hid (HE2.out _ w5 ⟨rfl, _, HGX.out.1, HFB.out.trans HGX.out.2⟩)
      clear HE2 HFB HGX
      go_wp2_with fail
      with_reducible refine HD.out.mono ?_
      rintro e w6 ⟨rfl, rfl⟩
      go_wp2_with fail
      refine bodyPost_end (results_none rfl _ _ _) rfl ?_
      exact HFIN.out
end Go.Proofs.Ytinebbleilnejaa
