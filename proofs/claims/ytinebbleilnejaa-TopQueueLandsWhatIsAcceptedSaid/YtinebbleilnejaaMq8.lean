/-
  The merge queue: walks of remove (the first entry) and of discard.
-/
import Derived.Test.YtinebbleilnejaaMq7
namespace Go.Proofs.Ytinebbleilnejaa
open Go.RowKit Go.V
set_option linter.unusedVariables false
theorem flat_one : ∀ (L : List (Mq.E × Value)), (∀ j (h : j < L.length), ∃ A n c, L[j].2 = .slice A n c) → ∀ u ∈ flat L, u.oneCell' = true
  | [], _, u, hu => absurd hu (by simp [flat])
  | x :: L, h, u, hu => by
    rw [flat_cons, List.mem_append] at hu
    rcases hu with hu | hu
    · obtain ⟨A, n, c, e⟩ := h 0 (by simp)
      have e' : x.2 = .slice A n c := e
      unfold cellsOf at hu
      rw [e'] at hu
      rcases List.mem_cons.1 hu with rfl | hu
      · rfl
      rcases List.mem_cons.1 hu with rfl | hu
      · rfl
      rcases List.mem_cons.1 hu with rfl | hu
      · rfl
      rcases List.mem_cons.1 hu with rfl | hu
      · rfl
      rcases List.mem_cons.1 hu with rfl | hu
      · rfl
      rcases List.mem_cons.1 hu with rfl | hu
      · rfl
      exact absurd hu (List.not_mem_nil)
    · exact flat_one L (fun j hj => h (j + 1) (by simp; omega)) u hu
section
variable {B : Nat} {wr w' : World} {gQ : Nat} {win : Int} {ve vl vr : Value} {L : List (Mq.E × Value)} {la re : List Int}
theorem QS.slices (h : QS B wr gQ win ve L vl vr la re) : ∀ j (h : j < L.length), ∃ A n c, L[j].2 = .slice A n c := fun j hj => by
  obtain ⟨A, c, e, _⟩ := own_form (h.a j hj)
  exact ⟨A, _, c, e⟩
/-- Only these two blocks change. -/
structure Two (w w' : World) (a : Nat) (v : Value) : Prop where
  os : w'.os = w.os
  tape : w'.tape = w.tape
  output : w'.output = w.output
  size : w.heap.size ≤ w'.heap.size
  block : ∀ k, k < w.heap.size → k ≠ a → v.ownBlock ≠ some k → w'.heap[k]? = w.heap[k]?
theorem Two.blk {w w' : World} {a : Nat} {v : Value} (h : Two w w' a v) {g : Nat} {t : TypeId} {cs : Array Value} (hb : Blk w g t cs) (h1 : g ≠ a) (h2 : v.ownBlock ≠ some g) : Blk w' g t cs := (h.block g hb.lt h1 h2).trans hb
end
theorem ir_grown {B : Nat} {w w' : World} {v : Value} {l : List Int} {g : Nat} {t : TypeId} {cs : Array Value} (h : IR B w v l) (hg : w.grownBy w' (some g)) (hb : Blk w g t cs) (ht : 3 ≠ t) : IR B w' v l :=
  h.kept hg (.inr fun e => own_blk_ne h hb ht e.symm)
theorem ir_set {B : Nat} {w : World} {v : Value} {l : List Int} {g i : Nat} {t : TypeId} {cs : Array Value} (h : IR B w v l) (hb : Blk w g t cs) (ht : 3 ≠ t) (u : Value) : IR B (w.setCell ⟨g, i, none⟩ u) v l :=
  own_setCell h (own_blk_ne h hb ht) u
theorem sp_tail {a b x : Value} {vs : List Value} (h : Sp (a :: b :: x :: vs)) : Sp (a :: b :: vs) := by
  unfold Sp at *
  exact h.sublist (((List.sublist_cons_self x vs).cons_cons b).cons_cons a)
set_option maxHeartbeats 4000000 in
theorem remove_any (B : Nat) (w : World) (gQ : Nat) (win : Int) (ve vl vr : Value) (x : Mq.E × Value) (L : List (Mq.E × Value)) (la re : List Int) (hq : QS B w gQ win ve (x :: L) vl vr la re) (hl : L.length ≤ 1000) :
    Calls Try.prog 27 #[.pointer (some ⟨gQ, 0, none⟩), .int .i64 0] w fun e w' => e = .returned (.tuple #[]) ∧ ∃ ve', ve'.ownBlock = ve.ownBlock ∧ QS B w' gQ win ve' L vl vr la re ∧ Two w w' gQ ve := by
  obtain ⟨g, c, cur, rfl, h2, h3, h4, h5, h6, h7⟩ := own_some hq.e (by simp)
  have hfl : (flat (x :: L)).length = (L.length + 1) * 6 := flat_len _
  rw [List.length_cons] at *
  have HD : Hid (Calls Try.prog 42 #[.slice (some ⟨g, 0, none⟩) (L.length + 1) c, .int .i64 0, .int .i64 1] w (DePost w B g L.length c (flat (x :: L)) 0)) := Lib.hid (delete_any w B g L.length c 0 (flat (x :: L)) cur h3 h2 h4 h5 h6 h7 (by omega) (by omega) (flat_one _ hq.slices))
  have hgq : g ≠ gQ := Blk.ne_ h3 hq.q (by decide)
  have HF : Hid (∀ w', w'.ownsRow B 38 6 (.slice (some ⟨g, 0, none⟩) L.length c) L.length ((flat (x :: L)).take (0 * 6) ++ (flat (x :: L)).drop ((0 + 1) * 6)) → w.grownBy w' (some g) → QS B (w'.setCell ⟨gQ, 0, none⟩ (.slice (some ⟨g, 0, none⟩) L.length c)) gQ win (.slice (some ⟨g, 0, none⟩) L.length c) L vl vr la re ∧ Two w (w'.setCell ⟨gQ, 0, none⟩ (.slice (some ⟨g, 0, none⟩) L.length c)) gQ (.slice (some ⟨g, 0, none⟩) (L.length + 1) c)) := Lib.hid fun w' ho hg => by
    have e : (flat (x :: L)).take (0 * 6) ++ (flat (x :: L)).drop ((0 + 1) * 6) = flat L := by rw [flat_cons]; rfl
    rw [e] at ho
    have bq := hq.q.grown hg (fun e => hgq (by injection e with e; exact e.symm))
    have bq2 : Blk (w'.setCell ⟨gQ, 0, none⟩ (.slice (some ⟨g, 0, none⟩) L.length c)) gQ 56 #[.slice (some ⟨g, 0, none⟩) L.length c, vl, vr, .int .i64 win] := by simpa using bq.set_ 0 (.slice (some ⟨g, 0, none⟩) L.length c)
    refine ⟨⟨bq2, hq.hq, own_setCell ho (own_blk_ne ho bq (by decide)) _, ir_set (ir_grown hq.l hg h3 (by decide)) bq (by decide) _, ir_set (ir_grown hq.r hg h3 (by decide)) bq (by decide) _, fun j hj => ?_, sp_tail hq.sp⟩, ⟨hg.os, hg.tape, hg.output, by simpa using hg.size, fun k hk h1 h2 => ?_⟩⟩
    · exact ir_set (ir_grown (hq.a (j + 1) (by simp; omega)) hg h3 (by decide)) bq (by decide) _
    · exact (Below.heap_setCell w' ⟨gQ, 0, none⟩ _ k h1).trans (hg.block k hk (fun e => h2 (by injection e with e; rw [e]; rfl)))
  have q0 := (hq.q.cell 0).trans rfl
  have HB := Lib.hid (fun (w' : World) (hg : w.grownBy w' (some g)) => hq.q.grown hg (fun e => hgq (by injection e with e; exact e.symm)))
  clear hq h3 h7 hgq
  go_enter Try.func27, Try.ntmps27
  go_wp2_with fail
  with_reducible refine HD.out.mono ?_
  rintro e w1 ⟨rfl, ho, hg⟩
  have HF2 := Lib.hid (HF.out w1 ho hg)
  have bq := HB.out w1 hg
  have f0 := bq.frozen 0
  have r0 := (bq.cell 0).trans rfl
  have lq := bq.lt
  clear HF HB HD ho hg
  go_wp2_with fail
  refine bodyPost_end (results_none rfl _ _ _) rfl ?_
  exact ⟨rfl, .slice (some ⟨g, 0, none⟩) L.length c, rfl, HF2.out.1, HF2.out.2⟩
/-- An entry whose test is discarded. -/
def dv (x : Mq.E × Value) : Mq.E × Value := (Mq.disc x.1, .slice none 0 0)
theorem own_reset {B g c : Nat} {w : World} {L : List (Mq.E × Value)} (h : w.ownsRow B 38 6 (.slice (some ⟨g, 0, none⟩) L.length c) L.length (flat L)) (i : Nat) (hi : i < L.length) :
    ((((((w.setCell ⟨g, i * 6, none⟩ (.int .i64 L[i].1.c)).setCell ⟨g, i * 6 + 1, none⟩ (.int .i64 0)).setCell ⟨g, i * 6 + 2, none⟩ (.bool false)).setCell ⟨g, i * 6 + 3, none⟩ (.bool false)).setCell ⟨g, i * 6 + 4, none⟩ (.bool false)).setCell ⟨g, i * 6 + 5, none⟩ (.slice none 0 0)).ownsRow B 38 6 (.slice (some ⟨g, 0, none⟩) L.length c) L.length (flat (L.set i (dv L[i]))) := by
  obtain ⟨⟨⟨yc, yt, yp, yf, ya⟩, yv⟩, hy⟩ : ∃ y, L[i] = y := ⟨_, rfl⟩
  rw [hy]
  have hfl := flat_len L
  have h0 := own_put h (i * 6 + 0) (.int .i64 yc) (by omega)
  rw [flat_set L i 0 hi (by omega) _ L[i] (by rw [hy]; rfl), List.set_getElem_self] at h0
  have h1 := own_put h0 (i * 6 + 1) (.int .i64 0) (by omega)
  rw [flat_set L i 1 hi (by omega) _ L[i] (by rw [hy]; rfl), List.set_getElem_self] at h1
  have h2 := own_put h1 (i * 6 + 2) (.bool false) (by omega)
  rw [flat_set L i 2 hi (by omega) _ (⟨yc, false, yp, yf, ya⟩, yv) (by rw [hy]; rfl)] at h2
  have e2 : (L.set i (⟨yc, false, yp, yf, ya⟩, yv))[i]'(by simpa using hi) = (⟨yc, false, yp, yf, ya⟩, yv) := by simp
  have h3 := own_put h2 (i * 6 + 3) (.bool false) (by rw [flat_len, List.length_set]; omega)
  rw [flat_set _ i 3 (by simpa using hi) (by omega) _ (⟨yc, false, false, yf, ya⟩, yv) (by rw [e2]; rfl), List.set_set] at h3
  have e3 : (L.set i (⟨yc, false, false, yf, ya⟩, yv))[i]'(by simpa using hi) = (⟨yc, false, false, yf, ya⟩, yv) := by simp
  have h4 := own_put h3 (i * 6 + 4) (.bool false) (by rw [flat_len, List.length_set]; omega)
  rw [flat_set _ i 4 (by simpa using hi) (by omega) _ (⟨yc, false, false, false, ya⟩, yv) (by rw [e3]; rfl), List.set_set] at h4
  have e4 : (L.set i (⟨yc, false, false, false, ya⟩, yv))[i]'(by simpa using hi) = (⟨yc, false, false, false, ya⟩, yv) := by simp
  have h5 := own_put h4 (i * 6 + 5) (.slice none 0 0) (by rw [flat_len, List.length_set]; omega)
  rw [flat_set _ i 5 (by simpa using hi) (by omega) _ (⟨yc, false, false, false, []⟩, .slice none 0 0) (by rw [e4]; rfl), List.set_set] at h5
  exact h5
end Go.Proofs.Ytinebbleilnejaa
