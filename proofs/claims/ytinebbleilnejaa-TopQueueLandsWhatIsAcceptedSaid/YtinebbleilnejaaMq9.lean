/-
  The merge queue: walk of discard.
-/
import Derived.Test.YtinebbleilnejaaMq8
namespace Go.Proofs.Ytinebbleilnejaa
open Go.RowKit Go.V
set_option linter.unusedVariables false
/-- The first i entries are discarded. -/
def dvTo (L : List (Mq.E × Value)) (i : Nat) : List (Mq.E × Value) := (L.take i).map dv ++ L.drop i
theorem dvTo_len (L : List (Mq.E × Value)) (i : Nat) : (dvTo L i).length = L.length := by unfold dvTo; simp; omega
theorem dvTo_zero (L : List (Mq.E × Value)) : dvTo L 0 = L := rfl
theorem dvTo_all (L : List (Mq.E × Value)) : dvTo L L.length = L.map dv := by unfold dvTo; simp
theorem dvTo_succ (L : List (Mq.E × Value)) (i : Nat) (h : i < L.length) : dvTo L (i + 1) = (dvTo L i).set i (dv L[i]) := by
  unfold dvTo
  rw [List.take_succ_eq_append_getElem h, List.map_append, List.set_append_right _ _ (by simp; omega), List.append_assoc]
  congr 1
  rw [List.drop_eq_getElem_cons h]
  have e : i - (List.map dv (List.take i L)).length = 0 := by simp; omega
  rw [e]; rfl
theorem dvTo_at (L : List (Mq.E × Value)) (i : Nat) (h : i < L.length) : (dvTo L i)[i]'(by rw [dvTo_len]; exact h) = L[i] := by
  unfold dvTo
  rw [List.getElem_append_right (by simp; omega)]
  have e : i - (List.map dv (List.take i L)).length = 0 := by simp; omega
  simp only [e]
  simp
theorem Two.refl (w : World) (a : Nat) (v : Value) : Two w w a v := ⟨rfl, rfl, rfl, Nat.le_refl _, fun _ _ _ _ => rfl⟩
theorem Two.drew {w w' : World} {a : Nat} {v : Value} (h : Two w w' a v) : Two w w'.drew a v := ⟨h.os, h.tape, h.output, h.size, h.block⟩
theorem Two.set_ {w w' : World} {a : Nat} {v : Value} (h : Two w w' a v) {p : Addr} (hp : p.block = a ∨ v.ownBlock = some p.block) (u : Value) : Two w (w'.setCell p u) a v :=
  ⟨h.os, h.tape, h.output, by simpa using h.size, fun k hk h1 h2 => (Below.heap_setCell w' p u k (fun e => by rcases hp with hp | hp; exact h1 (e.trans hp); exact h2 (by rw [e]; exact hp))).trans (h.block k hk h1 h2)⟩
theorem sp_set : ∀ (vs : List Value) (i : Nat), Sp vs → Sp (vs.set i (.slice none 0 0))
  | [], i, h => by simpa using h
  | v :: vs, 0, h => List.pairwise_cons.2 ⟨fun b hb g hg => (by cases hg), (List.pairwise_cons.1 h).2⟩
  | v :: vs, i + 1, h => by
    obtain ⟨h1, h2⟩ := List.pairwise_cons.1 h
    refine List.pairwise_cons.2 ⟨fun b hb g hg => ?_, sp_set vs i h2⟩
    rcases List.mem_or_eq_of_mem_set hb with hb | hb
    · exact h1 b hb g hg
    · subst hb; simp [Value.ownBlock]
/-- Only the row of the entries changes: an entry is discarded. -/
theorem QS.reset {B gQ g c : Nat} {wr W : World} {win : Int} {vl vr : Value} {L : List (Mq.E × Value)} {la re : List Int} (h : QS B wr gQ win (.slice (some ⟨g, 0, none⟩) L.length c) L vl vr la re) (i : Nat) (hi : i < L.length)
    (hg : wr.grownBy W (some g)) (ho : W.ownsRow B 38 6 (.slice (some ⟨g, 0, none⟩) L.length c) L.length (flat (L.set i (dv L[i])))) :
    QS B W gQ win (.slice (some ⟨g, 0, none⟩) L.length c) (L.set i (dv L[i])) vl vr la re := by
  obtain ⟨g', c', cur, e, h2, h3, h4, h5, h6, h7⟩ := own_some h.e (by omega)
  injection e with e1 _ e3
  injection e1 with e1
  injection e1 with e1 _ _
  subst e1 e3
  have hgq : g ≠ gQ := Blk.ne_ h3 h.q (by decide)
  have hir : ∀ {v : Value} {l : List Int}, IR B wr v l → IR B W v l := fun hh => ir_grown hh hg h3 (by decide)
  have hlen : (L.set i (dv L[i])).length = L.length := by simp
  refine ⟨h.q.grown hg (fun e => hgq (by injection e with e; exact e.symm)), h.hq, by rw [hlen]; exact ho, hir h.l, hir h.r, fun j hj => ?_, ?_⟩
  · have hj' : j < L.length := by simpa using hj
    rw [List.getElem_set]
    by_cases e : i = j
    · rw [if_pos e]; exact World.ownsRow_nil _ _ _ _
    · rw [if_neg e]; exact hir (h.a j hj')
  · rw [List.map_set]
    exact sp_set (vl :: vr :: L.map (·.2)) (i + 2) h.sp
set_option maxRecDepth 100000 in
set_option maxHeartbeats 8000000 in
theorem discard0_any (B : Nat) (w : World) (gQ : Nat) (win : Int) (ve vl vr : Value) (L : List (Mq.E × Value)) (la re : List Int) (hq : QS B w gQ win ve L vl vr la re) (hl : L.length ≤ 1000) :
    Calls Try.prog 28 #[.pointer (some ⟨gQ, 0, none⟩), .int .i64 0] w fun e w' => e = .returned (.tuple #[]) ∧ QS B w' gQ win ve (L.map dv) vl vr la re ∧ Two w w' gQ ve := by
  obtain ⟨A, c, rfl, hnc, _⟩ := own_form hq.e
  have q0 := (hq.q.cell 0).trans rfl
  have hnil : 0 < L.length → ∃ g, A = some ⟨g, 0, none⟩ := fun h => by
    obtain ⟨g, c', cur, e, _⟩ := own_some hq.e h
    injection e with e1 _ _
    exact ⟨g, e1⟩
  have HQ := Lib.hid hq
  have HZ := Lib.hid (dvTo_zero L)
  have HN := Lib.hid hnil
  clear hq hnil
  rcases A with _ | ⟨g, o, sp⟩
  · have hl0 : L.length = 0 := by
      rcases Nat.eq_zero_or_pos L.length with h | h
      · exact h
      · obtain ⟨g, e⟩ := HN.out h; cases e
    obtain rfl := List.eq_nil_of_length_eq_zero hl0
    have hc0 : c = 0 := by
      rcases HQ.out.e.2 with ⟨e, _⟩ | ⟨g', c', cur, e, _⟩
      · injection e with _ _ e
      · cases e
    subst hc0
    go_enter Try.func28, Try.ntmps28
    go_wp2_with fail
    go_loopw [14] (fun iv wr => iv = .int .i64 0 ∧ w = wr) (fun _ _ => 0)
    case atStart => exact ⟨rfl, rfl⟩
    case round =>
      obtain ⟨rfl, rfl⟩ := hrel
      go_wp2_with fail
      refine bodyPost_end (results_none rfl _ _ _) rfl ?_
      exact ⟨rfl, HQ.out, Two.refl _ _ _⟩
  · obtain ⟨rfl, rfl⟩ : o = 0 ∧ sp = none := by
      rcases HQ.out.e.2 with ⟨e, _⟩ | ⟨g', c', cur, e, _⟩
      · cases e
      · injection e with e _ _
        injection e with e
        injection e with _ e1 e2
        exact ⟨e1, e2⟩
    have hlc : (L.length : Int) ≤ c := by omega
    go_enter Try.func28, Try.ntmps28
    go_wp2_with fail
    go_loopw [14] (fun iv wr => ∃ i : Nat, i ≤ L.length ∧ iv = .int .i64 i ∧ QS B wr gQ win (.slice (some ⟨g, 0, none⟩) L.length c) (dvTo L i) vl vr la re ∧ Two w wr gQ (.slice (some ⟨g, 0, none⟩) L.length c)) (fun iv _ => L.length - (intOf iv).toNat)
    case atStart => exact ⟨0, Nat.zero_le _, rfl, by rw [dvTo_zero]; exact HQ.out, Two.refl _ _ _⟩
    case round =>
      obtain ⟨i, hi, rfl, hq, ht⟩ := hrel
      obtain ⟨wo, rfl⟩ : ∃ wo : World, wo = wr := ⟨_, rfl⟩
      have p0 := (hq.q.cell 0).trans rfl
      by_cases hlt : i < L.length
      · have hlt' : (i : Int) < L.length := by omega
        have hdl := dvTo_len L i
        obtain ⟨g', c', e, hg, hBg, hgq, d0, d1, d2, d3, d4, d5, df⟩ := hq.row i (by rw [hdl]; exact hlt)
        injection e with e1 e2 e3
        injection e1 with e1
        injection e1 with e1 e4 e5
        subst e1
        subst e3
        clear e2 e4 e5
        have f0 := df 0 (by omega)
        have f1 := df 1 (by omega)
        have f2 := df 2 (by omega)
        have f3 := df 3 (by omega)
        have f4 := df 4 (by omega)
        have f5 := df 5 (by omega)
        rw [Nat.add_zero] at f0
        have hi' : i < (dvTo L i).length := by rw [hdl]; exact hlt
        have hq' : QS B wo gQ win (.slice (some ⟨g, 0, none⟩) (dvTo L i).length c) (dvTo L i) vl vr la re := by rw [hdl]; exact hq
        have hat := dvTo_at L i hlt
        have hown := own_reset hq'.e i hi'
        have hgr : wo.grownBy ((((((wo.setCell ⟨g, i * 6, none⟩ (.int .i64 L[i].1.c)).setCell ⟨g, i * 6 + 1, none⟩ (.int .i64 0)).setCell ⟨g, i * 6 + 2, none⟩ (.bool false)).setCell ⟨g, i * 6 + 3, none⟩ (.bool false)).setCell ⟨g, i * 6 + 4, none⟩ (.bool false)).setCell ⟨g, i * 6 + 5, none⟩ (.slice none 0 0)) (some g) := only_setCell (only_setCell (only_setCell (only_setCell (only_setCell (only_setCell (World.grownBy.refl wo (some g)) (.inl rfl) _) (.inl rfl) _) (.inl rfl) _) (.inl rfl) _) (.inl rfl) _) (.inl rfl) _
        have HN2 : Hid (QS B (World.drew ((((((wo.setCell ⟨g, i * 6, none⟩ (.int .i64 L[i].1.c)).setCell ⟨g, i * 6 + 1, none⟩ (.int .i64 0)).setCell ⟨g, i * 6 + 2, none⟩ (.bool false)).setCell ⟨g, i * 6 + 3, none⟩ (.bool false)).setCell ⟨g, i * 6 + 4, none⟩ (.bool false)).setCell ⟨g, i * 6 + 5, none⟩ (.slice none 0 0))) gQ win (.slice (some ⟨g, 0, none⟩) L.length c) (dvTo L (i + 1)) vl vr la re ∧ Two w (World.drew ((((((wo.setCell ⟨g, i * 6, none⟩ (.int .i64 L[i].1.c)).setCell ⟨g, i * 6 + 1, none⟩ (.int .i64 0)).setCell ⟨g, i * 6 + 2, none⟩ (.bool false)).setCell ⟨g, i * 6 + 3, none⟩ (.bool false)).setCell ⟨g, i * 6 + 4, none⟩ (.bool false)).setCell ⟨g, i * 6 + 5, none⟩ (.slice none 0 0))) gQ (.slice (some ⟨g, 0, none⟩) L.length c)) := by
          rw [hat] at hown
          have h2 := QS.reset hq' i hi' hgr (by rw [hat]; exact hown)
          rw [hat, ← dvTo_succ L i hlt, hdl] at h2
          exact Lib.hid ⟨h2.drew, ((((((ht.set_ (p := ⟨g, i * 6, none⟩) (.inr rfl) _).set_ (p := ⟨g, i * 6 + 1, none⟩) (.inr rfl) _).set_ (p := ⟨g, i * 6 + 2, none⟩) (.inr rfl) _).set_ (p := ⟨g, i * 6 + 3, none⟩) (.inr rfl) _).set_ (p := ⟨g, i * 6 + 4, none⟩) (.inr rfl) _).set_ (p := ⟨g, i * 6 + 5, none⟩) (.inr rfl) _).drew⟩
        clear hgr hown hq' hat hi'
        rw [dvTo_at L i hlt] at d0 d2 d3 d4 d5
        generalize hy : L[i].1.c = yc at *
        generalize L[i].1.t = yt at *
        generalize L[i].1.p = yp at *
        generalize L[i].1.f = yf at *
        generalize L[i].2 = yv at *
        have HDL := Lib.hid hdl
        clear df hdl hq ht
        go_wp2_with fail
        go_region
        go_wp2_with fail
        go_roundw
        case rel => exact ⟨i + 1, by omega, by go_num, HN2.out.1, HN2.out.2⟩
        case measure => simp [intOf]; omega
      · obtain rfl : i = L.length := by omega
        have HF := Lib.hid (show QS B wo gQ win (.slice (some ⟨g, 0, none⟩) L.length c) (L.map dv) vl vr la re from by rw [← dvTo_all]; exact hq)
        go_wp2_with fail
        refine bodyPost_end (results_none rfl _ _ _) rfl ?_
        exact ⟨rfl, HF.out, ht⟩
end Go.Proofs.Ytinebbleilnejaa
