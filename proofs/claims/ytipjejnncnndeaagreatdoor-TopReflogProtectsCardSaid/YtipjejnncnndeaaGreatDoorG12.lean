/-
  References: walk of 'slices.Delete' of one reference.
  References: walks of 'Clone', 'Copy'; a set in a variable of the call's own.
  References: walk of 'Step'.
-/
import Derived.Test.YtipjejnncnndeaaGreatDoorG11
import Derived.Test.YtipjejnncnndeaaGreatDoorG09
namespace Go.V
open Go.RowKit

section
variable {P : Program} (w : World)
theorem run_append_into (t ty e : TypeId) (i : TypeInfo) (size : Nat) (ht : P.underlying t = some (.slice e)) (hi : P.info? e = some i) (hsize : i.size = size)
    (g n1 c1 : Nat) (ad : Addr) (m c2 : Nat) (cur : Array Value) (tt : TypeId) (cs : List Value) (hg : Blk w g tt cur) (hn : cs.length = m * size)
    (hsrc : ∀ j v, cs[j]? = some v → w.cell? (ad.add j) = some v) (hfit : n1 * size + cs.length ≤ cur.size) (hroom : n1 + m ≤ c1) (h1 : ∀ v ∈ cs, v.oneCell' = true) :
    ∃ w', (Builtin.append_ #[t, t] ty #[.slice (some ⟨g, 0, none⟩) n1 c1, .slice (some ad) m c2]).run P w = .ok (.slice (some ⟨g, 0, none⟩) (n1 + m) c1) w' ∧
      Blk w' g tt (spl cur (n1 * size) cs) ∧ w.grownBy w' (some g) ∧ w'.heap.size = w.heap.size := by
  have hl : (Builtin.firstCells size m (.slice (some ad) m c2)).run P w = .ok cs.toArray w := run_firstCells_some w size m ad m c2 cs hn hsrc
  have hst := run_storeCells_at P g (n1 * size) tt cs 0 cur w hg (by simpa using hfit) h1
  simp only [Nat.add_zero] at hst
  have had : (⟨g, 0, none⟩ : Addr).add (n1 * size) = ⟨g, n1 * size, none⟩ := by rw [add_none, Nat.zero_add]
  refine ⟨w.setRow g (cur.toList.take (n1 * size) ++ cs ++ cur.toList.drop (n1 * size + cs.length)).toArray, ?_, setRow_heap w g cur _ tt (0, 0) hg, ⟨rfl, rfl, rfl, by simp, fun k _ hk => setRow_other w g k _ (fun e => hk (by rw [e]))⟩, by simp⟩
  subst hsize
  simp [Builtin.append_, run_underlying ht, sizeOf, typeInfo, hi, Builtin.lenOf, hl, hst, hroom, had]
theorem step_append_into {ops : Array Oper} {o : Oper} {a : Act} {K : Act → World → Prop} {Q : Exit → Act → World → Prop} {E : Prop} (hgd : o.guard = none) (d s : Operand) (t : TypeId)
    (ho : o.op = .call { callee := .builtin .append, args := #[d, s], argTypes := #[t, t] })
    (e : TypeId) (i : TypeInfo) (size : Nat) (ht : P.underlying t = some (.slice e)) (hi : P.info? e = some i) (hsize : i.size = size)
    (g n1 c1 : Nat) (hd : a.eval d = .slice (some ⟨g, 0, none⟩) n1 c1) (ad : Addr) (m c2 : Nat) (hs : a.eval s = .slice (some ad) m c2) (cur : Array Value) (tt : TypeId) (cs : List Value) (hg : Blk w g tt cur) (hn : cs.length = m * size)
    (hsrc : ∀ j v, cs[j]? = some v → w.cell? (ad.add j) = some v) (hfit : n1 * size + cs.length ≤ cur.size) (hroom : n1 + m ≤ c1) (h1 : ∀ v ∈ cs, v.oneCell' = true)
    (h : ∀ w', Blk w' g tt (spl cur (n1 * size) cs) → w.grownBy w' (some g) → w'.heap.size = w.heap.size → K (a.put o.dst (.slice (some ⟨g, 0, none⟩) (n1 + m) c1)) w') :
    if Region.wanted o (yielded ops a.tmps) = true then Oper.wp P o a w K Q else E := by
  have hw : Region.wanted o (yielded ops a.tmps) = true := by simp [Region.wanted, hgd]
  rw [if_pos hw]
  obtain ⟨w', hr, h2, h3, h4⟩ := run_append_into (P := P) w t o.type e i size ht hi hsize g n1 c1 ad m c2 cur tt cs hg hn hsrc hfit hroom h1
  unfold Oper.wp
  simp [execOp, ho, resolve, invoke, builtin, hd, hs, hr, Result.andThen]
  exact h w' h2 h3 h4
/-- 'clear' of a slice of one element. -/
theorem run_clear_one (t e ty : TypeId) (z : Value) (ht : P.underlying t = some (.slice e)) (hz : (zeroValue e).run P w = .ok z w)
    (g o c : Nat) (cur : Array Value) (tt : TypeId) (cs : List Value) (hcs : (Builtin.zeroCells z.cells 1).toList = cs) (hg : Blk w g tt cur) (hfit : o + cs.length ≤ cur.size) (h1 : ∀ v ∈ cs, v.oneCell' = true) :
    ∃ w', (Builtin.clear_ #[t] ty #[.slice (some ⟨g, o, none⟩) 1 c]).run P w = .ok (.tuple #[]) w' ∧ Blk w' g tt (spl cur o cs) ∧ w.grownBy w' (some g) ∧ w'.heap.size = w.heap.size := by
  have hst := run_storeCells_at P g o tt cs 0 cur w hg (by simpa using hfit) h1
  simp only [Nat.add_zero] at hst
  refine ⟨w.setRow g (cur.toList.take o ++ cs ++ cur.toList.drop (o + cs.length)).toArray, ?_, setRow_heap w g cur _ tt (0, 0) hg, ⟨rfl, rfl, rfl, by simp, fun k _ hk => setRow_other w g k _ (fun e => hk (by rw [e]))⟩, by simp⟩
  simp [Builtin.clear_, run_underlying ht, hz, hcs, hst]
theorem wpList_clear_one {ops : Array Oper} {rest : List Oper} {o : Oper} {a : Act} {Q : Exit → Act → World → Prop} (hgd : o.guard = none) (s : Operand) (t : TypeId)
    (ho : o.op = .call { callee := .builtin .clear, args := #[s], argTypes := #[t] })
    (e : TypeId) (z : Value) (ht : P.underlying t = some (.slice e)) (hz : (zeroValue e).run P w = .ok z w)
    (g off c : Nat) (hs : a.eval s = .slice (some ⟨g, off, none⟩) 1 c) (cur : Array Value) (tt : TypeId) (cs : List Value) (hcs : (Builtin.zeroCells z.cells 1).toList = cs) (hg : Blk w g tt cur) (hfit : off + cs.length ≤ cur.size) (h1 : ∀ v ∈ cs, v.oneCell' = true)
    (h : ∀ w', Blk w' g tt (spl cur off cs) → w.grownBy w' (some g) → w'.heap.size = w.heap.size → wpList P ops Q rest (a.put o.dst (.tuple #[])) w') : wpList P ops Q (o :: rest) a w := by
  refine wpList_plain hgd fun K hK => ?_
  obtain ⟨w', hr, h2, h3, h4⟩ := run_clear_one (P := P) w t e o.type z ht hz g off c cur tt cs hcs hg hfit h1
  unfold Oper.wp execOp
  simp only [ho, resolve, invoke, builtin, Sem.run_bind, Sem.run_pure, Result.andThen_ok, List.map_toArray, List.map_cons, List.map_nil, hs, hr]
  exact hK _ _ (h w' h2 h3 h4)
end
end Go.V
namespace Go.Proofs.YtipjejnncnndeaaGreatDoor.RF
open Go.RowKit Go.V Go.Shelf Go.Lib
set_option linter.unusedVariables false

def DePost (w : World) (base g m c : Nat) (xs : List Value) (i : Nat) (e : Ending) (w' : World) : Prop := e = .returned (.slice (some ⟨g, 0, none⟩) m c) ∧
  w'.ownsRow base 41 2 (.slice (some ⟨g, 0, none⟩) m c) m (xs.take (i * 2) ++ xs.drop ((i + 1) * 2)) ∧ w.grownBy w' (some g)
theorem zero51 (w : World) : (zeroValue 41).run Tryz.prog w = .ok (.agg #[.string .empty, .int .i64 0]) w := by kernel_rfl
set_option maxRecDepth 100000 in
set_option maxHeartbeats 8000000 in
theorem delete_any (w : World) (base g m c i : Nat) (xs : List Value) (cur : Array Value) (hb : Blk w g 41 cur) (hg : base ≤ g) (hroom : m + 1 ≤ c) (hm : c ≤ maxLen) (hcs : cur.size = c * 2) (hx : cur.toList.take ((m + 1) * 2) = xs) (hi : i ≤ m) (hl : m ≤ 1000000) (hx1 : ∀ u ∈ xs, u.oneCell' = true) :
    Calls Tryz.prog 44 #[.slice (some ⟨g, 0, none⟩) (m + 1) c, .int .i64 i, .int .i64 ((i : Int) + 1)] w (DePost w base g m c xs i) := by
  obtain ⟨i0, hi0, hz0, hz1, hz2⟩ := info_parts info51
  have hxl : xs.length = (m + 1) * 2 := by rw [← hx, List.length_take]; simp; omega
  have hcl : cur.toList.length = c * 2 := by simpa using hcs
  have hdl : (xs.drop ((i + 1) * 2)).length = (m + 1 - (i + 1)) * 2 := by rw [List.length_drop, hxl]; omega
  have hd1 : ∀ u ∈ xs.drop ((i + 1) * 2), u.oneCell' = true := fun u hu => hx1 u (List.mem_of_mem_drop hu)
  have hsrc : ∀ (w' : World), Blk w' g 41 cur → ∀ j v, (xs.drop ((i + 1) * 2))[j]? = some v → w'.cell? ((⟨g, (i + 1) * 2, none⟩ : Addr).add j) = some v := fun w' hb' j v hj => by
    rw [add_none, hb'.cell, ← Array.getElem?_toList]
    rw [List.getElem?_drop, ← hx, List.getElem?_take] at hj
    split at hj
    · exact hj
    · cases hj
  have hfit : i * 2 + (xs.drop ((i + 1) * 2)).length ≤ cur.size := by rw [hdl, hcs]; omega
  have hzc : (Builtin.zeroCells (Value.agg #[.string .empty, .int .i64 0]).cells 1).toList = [.string .empty, .int .i64 0] := by kernel_rfl
  have hiq : i + (m + 1 - (i + 1)) = m := by omega
  have HF : Hid (∀ (c2 : Array Value) (w' : World), c2.toList = (cur.toList.take (i * 2) ++ xs.drop ((i + 1) * 2) ++ cur.toList.drop (i * 2 + (xs.drop ((i + 1) * 2)).length)).take (m * 2) ++ [.string .empty, .int .i64 0] ++ (cur.toList.take (i * 2) ++ xs.drop ((i + 1) * 2) ++ cur.toList.drop (i * 2 + (xs.drop ((i + 1) * 2)).length)).drop (m * 2 + 2) →
      Blk w' g 41 c2 → w.grownBy w' (some g) → DePost w base g m c xs i (.returned (.slice (some ⟨g, 0, none⟩) m c)) w') := Lib.hid fun c2 w' e2 hb2 hg2 => by
    have h1 : (cur.toList.take (i * 2) ++ xs.drop ((i + 1) * 2)).length = m * 2 := by rw [List.length_append, hdl, List.length_take, hcl]; omega
    have h2 : (cur.toList.take (i * 2) ++ xs.drop ((i + 1) * 2) ++ cur.toList.drop (i * 2 + (xs.drop ((i + 1) * 2)).length)).take (m * 2) = cur.toList.take (i * 2) ++ xs.drop ((i + 1) * 2) := List.take_left' h1
    have h3 : cur.toList.take (i * 2) = xs.take (i * 2) := by rw [← hx, List.take_take, Nat.min_eq_left (by omega)]
    refine ⟨rfl, own_of_blk hb2 hg (by omega) hm ?_ ?_, hg2⟩
    · have := congrArg List.length e2
      simp only [Array.length_toList, List.length_append, List.length_take, List.length_drop, hcl, hxl, List.length_cons, List.length_nil] at this
      rw [this]; omega
    · rw [e2, h2, List.append_assoc, List.take_left' h1, h3]
  unfold maxLen at hm
  have hw1 : IntKind.i64.wrap ((i : Int) + 1) = (i : Int) + 1 := by rw [IntKind.wrap_i64]; omega
  have hb1 : (0 : Int) ≤ (i : Int) + 1 := by omega
  have htn : ((i : Int) + 1).toNat = i + 1 := by omega
  have hbi : (i : Int) ≤ (m : Int) + 1 := by omega
  have hbj : (i : Int) + 1 ≤ (m : Int) + 1 := by omega
  have hne : ((i : Int) == (i : Int) + 1) = false := by simp; omega
  have hle : (i : Int) ≤ (i : Int) + 1 := by omega
  have hic : (i : Int) ≤ c := by omega
  have hmc : (m : Int) + 1 ≤ c := by omega
  have hcm : ¬ (c = m) := by omega
  have HD := Lib.hid hdl
  have HX := Lib.hid hxl
  have HC := Lib.hid hcl
  have HIQ := Lib.hid hiq
  clear hdl hxl hcl hx hx1 hiq
  generalize DePost w base g m c xs i = R at *
  have hci0 : ¬ (c = i) := by omega
  by_cases hci : c = i + 1
  · have hnil : xs.drop ((i + 1) * 2) = [] := List.drop_of_length_le (by rw [HX.out]; omega)
    have hs0 : ∀ (w' : World) j v, (xs.drop ((i + 1) * 2))[j]? = some v → w'.cell? ((⟨g, 0, none⟩ : Addr).add j) = some v := fun w' j v hj => by rw [hnil] at hj; simp at hj
    clear hnil
    subst hci
    obtain rfl : m = i := by omega
    go_enter Tryz.func44, Tryz.ntmps44
    go_wp2_with fail
    go_region_law
      (refine step_append_into _ rfl (.tmp 22) (.tmp 25) 25 rfl 41 i0 2 Tryz.underlying25 hi0 hz1 g m (m + 1) (by simp [Act.eval, Act.put]) ⟨g, 0, none⟩ (m + 1 - (m + 1)) 0 (by simp [Act.eval, Act.put]) cur 41 (xs.drop ((m + 1) * 2)) hb.drew HD.out (hs0 _) hfit (by omega) hd1 ?_; intro w2 hb2 hg2 hz2; rw [HIQ.out])
    all_goals
      have hsz2 : m * 2 + 2 ≤ (spl cur (m * 2) (xs.drop ((m + 1) * 2))).size := by
        simp only [spl, List.size_toArray, List.length_append, List.length_take, List.length_drop, HC.out, HX.out]; omega
      have HB2 : Hid (∀ w', Blk w' g 41 (spl (spl cur (m * 2) (xs.drop ((m + 1) * 2))) (m * 2) [.string .empty, .int .i64 0]) → w2.grownBy w' (some g) → R (.returned (.slice (some ⟨g, 0, none⟩) m (m + 1))) w') := Lib.hid fun w' h2 h3 => by
        refine HF.out _ w' ?_ h2 ⟨h3.os.trans hg2.os, h3.tape.trans hg2.tape, h3.output.trans hg2.output, Nat.le_trans hg2.size h3.size, fun b hb hk => (h3.block b (Nat.lt_of_lt_of_le hb hg2.size) hk).trans (hg2.block b hb hk)⟩
        simp only [spl]
        rfl
      generalize hcu : spl cur (m * 2) (xs.drop ((m + 1) * 2)) = cur2 at *
      clear hcu hd1 hfit hsrc hg2 HF hb
      obtain ⟨w3, hr3, hb3, hg3, hz3⟩ := run_clear_one (P := Tryz.prog) w2 25 41 0 _ Tryz.underlying25 (zero51 _) g (m * 2) 1 cur2 41 _ hzc hb2 hsz2 (by intro v hv; simp at hv; rcases hv with rfl | rfl <;> rfl)
      have HR := Lib.hid (HB2.out w3 hb3 hg3)
      clear hb3 hg3 hz3
      go_wp2_with fail
      exact HR.out
  · have hs1 := hsrc w.drew hb.drew
    go_enter Tryz.func44, Tryz.ntmps44
    go_wp2_with fail
    go_region_law
      (refine step_append_into _ rfl (.tmp 22) (.tmp 25) 25 rfl 41 i0 2 Tryz.underlying25 hi0 hz1 g i c (by simp [Act.eval, Act.put]) ⟨g, (i + 1) * 2, none⟩ (m + 1 - (i + 1)) (c - (i + 1)) (by simp [Act.eval, Act.put]) cur 41 (xs.drop ((i + 1) * 2)) hb.drew HD.out hs1 hfit (by omega) hd1 ?_; intro w2 hb2 hg2 hz2; rw [HIQ.out])
    all_goals
      have hsz2 : m * 2 + 2 ≤ (spl cur (i * 2) (xs.drop ((i + 1) * 2))).size := by
        simp only [spl, List.size_toArray, List.length_append, List.length_take, List.length_drop, HC.out, HX.out]; omega
      have HB2 : Hid (∀ w', Blk w' g 41 (spl (spl cur (i * 2) (xs.drop ((i + 1) * 2))) (m * 2) [.string .empty, .int .i64 0]) → w2.grownBy w' (some g) → R (.returned (.slice (some ⟨g, 0, none⟩) m c)) w') := Lib.hid fun w' h2 h3 => by
        refine HF.out _ w' ?_ h2 ⟨h3.os.trans hg2.os, h3.tape.trans hg2.tape, h3.output.trans hg2.output, Nat.le_trans hg2.size h3.size, fun b hb hk => (h3.block b (Nat.lt_of_lt_of_le hb hg2.size) hk).trans (hg2.block b hb hk)⟩
        simp only [spl]
        rfl
      generalize hcu : spl cur (i * 2) (xs.drop ((i + 1) * 2)) = cur2 at *
      clear hcu hd1 hfit hsrc hg2 HF hb
      obtain ⟨w3, hr3, hb3, hg3, hz3⟩ := run_clear_one (P := Tryz.prog) w2 25 41 0 _ Tryz.underlying25 (zero51 _) g (m * 2) (c - m) cur2 41 _ hzc hb2 hsz2 (by intro v hv; simp at hv; rcases hv with rfl | rfl <;> rfl)
      have HR := Lib.hid (HB2.out w3 hb3 hg3)
      clear hb3 hg3 hz3
      go_wp2_with fail
      exact HR.out
end Go.Proofs.YtipjejnncnndeaaGreatDoor.RF
namespace Go.V
open Go.RowKit
theorem own_more {w : World} {base base' : Nat} {e : TypeId} {size n : Nat} {v : Value} {xs : List Value} (h : w.ownsRow base e size v n xs) (hb : base' ≤ base) : w.ownsRow base' e size v n xs := by
  obtain ⟨h1, h2⟩ := h
  rcases h2 with h2 | ⟨g, cap, cur, e, hlo, rest⟩
  · exact ⟨h1, .inl h2⟩
  · exact ⟨h1, .inr ⟨g, cap, cur, e, Nat.le_trans hb hlo, rest⟩⟩
theorem own_new_ne {w : World} {base : Nat} {e : TypeId} {size n : Nat} {v : Value} {xs : List Value} (h : w.ownsRow base e size v n xs) : some w.heap.size ≠ v.ownBlock := fun e => by have := (h.lt _ e.symm).2; omega
theorem own_below {w w' : World} {base : Nat} {e : TypeId} {size n : Nat} {v : Value} {xs : List Value} (h : w.ownsRow base e size v n xs) (hb : Below w.heap.size w w') : w'.ownsRow base e size v n xs :=
  h.kept (only_of_below hb none) (by cases hv : v.ownBlock <;> simp)
/-- One cell of an owned row is written. -/
theorem own_set {w : World} {base : Nat} {e : TypeId} {size n c g : Nat} {xs : List Value} (h : w.ownsRow base e size (.slice (some ⟨g, 0, none⟩) n c) n xs) (h0 : 0 < n) (i : Nat) (v : Value) :
    (w.setCell ⟨g, i, none⟩ v).ownsRow base e size (.slice (some ⟨g, 0, none⟩) n c) n (xs.set i v) := by
  obtain ⟨g', cur, e1, _, hg, hb, hn, hm, hs, hx⟩ := own_blk h h0
  injection e1 with e1
  injection e1 with e1
  subst e1
  refine own_of_blk (hb.set_ i v) hg hn hm (by simpa using hs) ?_
  rw [← hx, Array.toList_setIfInBounds, List.take_set]
end Go.V
namespace Go.Proofs.YtipjejnncnndeaaGreatDoor.RF
open Go.RowKit Go.V Go.Shelf Go.Lib
set_option linter.unusedVariables false

theorem rsV_set : ∀ (s : List Rf.R) (p : Nat) (_ : p < s.length) (t : Int), (rsV s).set (p * 2 + 1) (.int .i64 t) = rsV (s.take p ++ [⟨(Rf.it s p).name, t⟩] ++ s.drop (p + 1))
  | x :: s, 0, _, t => by simp [rsV, rC, Rf.it]
  | x :: s, p + 1, h, t => by
    have ih := rsV_set s p (by simpa using h) t
    have e : (p + 1) * 2 + 1 = (p * 2 + 1) + 1 + 1 := by omega
    have e2 : Rf.it (x :: s) (p + 1) = Rf.it s p := by simp [Rf.it]
    rw [e, e2]
    simp only [rsV, List.flatMap_cons, rC, List.cons_append, List.nil_append, List.set_cons_succ, List.take_succ_cons, List.drop_succ_cons] at ih ⊢
    rw [ih]
theorem rsV_ins (s : List Rf.R) (p : Nat) (r : Rf.R) : (rsV s).take (p * 2) ++ rC r ++ (rsV s).drop (p * 2) = rsV (s.take p ++ [r] ++ s.drop p) := by
  simp only [rsV, List.flatMap_append, Fl.take rC_len, Fl.drop rC_len]; simp
theorem rsV_del (s : List Rf.R) (p : Nat) : (rsV s).take (p * 2) ++ (rsV s).drop ((p + 1) * 2) = rsV (s.take p ++ s.drop (p + 1)) := by
  simp only [rsV, List.flatMap_append, Fl.take rC_len, Fl.drop rC_len]
theorem insert_any (w : World) (base : Nat) (A : Option Addr) (n c i : Nat) (xs : List Value) (nv : Array Value) (vb : Nat) (hown : w.ownsRow base 41 2 (.slice A n c) n xs) (hi : i ≤ n) (hl : n ≤ 1000000) (hbase : base ≤ w.heap.size)
    (hvb : Blk w vb 41 nv) (hnl : nv.size = 2) (hne : some vb ≠ (Value.slice A n c).ownBlock) (h1 : ∀ u ∈ nv.toList, u.oneCell' = true) (hx1 : ∀ u ∈ xs, u.oneCell' = true) :
    Calls Tryz.prog 43 #[.slice A n c, .int .i64 i, .slice (some ⟨vb, 0, none⟩) 1 1] w (InPost w base A n c xs nv.toList i) := by
  by_cases hin : i = n
  · subst hin
    exact insert_end w base A i c xs nv.toList vb hown hl hbase (by simpa using hnl) (fun j u hu => by rw [hvb.cell, ← Array.getElem?_toList]; exact hu) h1
  · obtain ⟨g, cur, rfl, _, hg, hb, hc, hm, hcs, hx⟩ := own_blk hown (by omega)
    have hne' : vb ≠ g := fun e => hne (by rw [e]; rfl)
    by_cases hr : n + 1 ≤ c
    · exact insert_room w base g n c i xs nv.toList vb nv cur hb hg hr hm hcs hx (by omega) hl hvb rfl hne' (by simpa using hnl) h1 hx1
    · obtain rfl : c = n := by omega
      exact insert_grow w base g c i xs nv.toList vb nv cur hb hbase hcs hx (by omega) hl hvb rfl (by simpa using hnl) h1 hx1
theorem deleteOwn_any (w : World) (base : Nat) (A : Option Addr) (m c i : Nat) (xs : List Value) (hown : w.ownsRow base 41 2 (.slice A (m + 1) c) (m + 1) xs) (hi : i ≤ m) (hl : m ≤ 1000000) (hx1 : ∀ u ∈ xs, u.oneCell' = true) :
    Calls Tryz.prog 44 #[.slice A (m + 1) c, .int .i64 i, .int .i64 ((i : Int) + 1)] w fun e w' => ∃ g, A = some ⟨g, 0, none⟩ ∧ DePost w base g m c xs i e w' := by
  obtain ⟨g, cur, rfl, _, hg, hb, hc, hm, hcs, hx⟩ := own_blk hown (by omega)
  exact (delete_any w base g m c i xs cur hb hg hc hm hcs hx hi hl hx1).mono fun e w' h => ⟨g, rfl, h⟩
/-- Rows of the call's own: a copy. -/
def ClPost (w : World) (e0 size : Nat) (xs : List Value) (n : Nat) (e : Ending) (w' : World) : Prop := ∃ A' c', e = .returned (.slice A' n c') ∧ w'.ownsRow w.heap.size e0 size (.slice A' n c') n xs ∧ Below w.heap.size w w'
set_option maxRecDepth 100000 in
set_option maxHeartbeats 4000000 in
theorem clone63_any (w : World) (A : Option Addr) (c : Nat) (s : List Rf.R) (h : SA w Free A (rsV s)) (hl : s.length * 24 ≤ 140737488351232) :
    Calls Tryz.prog 41 #[.slice A s.length c] w (ClPost w 41 2 (rsV s) s.length) := by
  obtain ⟨i0, hi0, hz0, hz1, hz2⟩ := info_parts info51
  have heq : ∀ (W : World) a n c, (binOp .eql 25 (.slice a n c) (.slice none 0 0)).run Tryz.prog W = .ok (.bool a.isNone) W := fun W a n c => Lib.run_eql_slice_nil W 25 41 a n c 0 0 Tryz.underlying25
  rcases A with _ | ad
  · have hl0 : s = [] := by
      rcases h with h | ⟨b, off, h, _⟩
      · have := congrArg List.length h
        rw [Fl.len rC_len] at this
        exact List.eq_nil_of_length_eq_zero (by simp at this; omega)
      · cases h
    subst hl0
    go_enter Tryz.func41, Tryz.ntmps41
    go_wp2_with fail
    go_ret
    exact ⟨none, 0, rfl, World.ownsRow_nil _ _ _ _, Below.refl _ _⟩
  · have hsv := SV.alloc h.sv (Nat.le_refl _) (.cells #[] 41)
    have hlen : (rsV s).length = s.length * 2 := Fl.len rC_len s
    clear h
    generalize hxs : rsV s = xs at *
    have h1 : ∀ u ∈ xs, u.oneCell' = true := by rw [← hxs]; exact rsV_one s
    clear hxs
    have HF : Hid (∀ A' c' w', w'.ownsRow w.heap.size 41 2 (.slice A' s.length c') s.length xs → Below w.heap.size w w' → ClPost w 41 2 xs s.length (.returned (.slice A' s.length c')) w') := Lib.hid fun A' c' w' a b => ⟨A', c', rfl, a, b⟩
    generalize ClPost w 41 2 xs s.length = R at *
    go_enter Tryz.func41, Tryz.ntmps41
    go_wp2_with (first | (at_builtin; refine wpList_appN _ rfl (.tmp 5) (.tmp 6) 25 rfl w.heap.size 41 i0 _ 2 24 Tryz.underlying25 hi0 hz0 hz1 hz2 rfl (by decide) (some ⟨w.heap.size, 0, none⟩) 0 0 [] rfl (World.ownsRow_lit w #[] 0 (Nat.le_refl _) (by simp [maxLen]) rfl) _ (some ad) s.length c xs rfl ?ha hsv h1 ?hb ?hc ?hd ?_))
    case ha => exact hlen
    case hb => simp [maxLen]; omega
    case hc => omega
    case hd => simp
    intro A' c' w' hown hg hc'
    have hb := (below_alloc1 w (.cells #[] 41)).grown hg (by simp) (fun k hk => by simp [Value.ownBlock] at hk; omega)
    try simp only [Nat.zero_add, List.nil_append] at *
    have HR := Lib.hid (HF.out _ _ _ hown hb)
    clear hown hb hg
    go_wp2_with fail
    exact HR.out
theorem results_c26 {fn : Func} {a : Tmp} (h : fn.results = #[.cell a 27]) (tmps : Array Value) (w : World) (g : Nat) (x : Value) (ha : tmps.getD a undef = .pointer (some ⟨g, 0, none⟩)) (hb : w.cell? ⟨g, 0, none⟩ = some x) :
    (results fn tmps).run Tryz.prog w = .ok (.agg #[x]) w := by
  have ha' : tmps[a]?.getD undef = .pointer (some ⟨g, 0, none⟩) := by simpa using ha
  simp [results, h, go_sem, ha', hb]
def CyPost (w : World) (s : List Rf.R) (e : Ending) (w' : World) : Prop := ∃ A' c', e = .returned (.agg #[.slice A' s.length c']) ∧ w'.ownsRow w.heap.size 41 2 (.slice A' s.length c') s.length (rsV s) ∧ Below w.heap.size w w'
set_option maxRecDepth 100000 in
set_option maxHeartbeats 4000000 in
theorem copy_any (w : World) (A : Option Addr) (k : Nat) (s : List Rf.R) (hv : SA w Free A (rsV s)) (hl : s.length * 24 ≤ 140737488351232) :
    Calls Tryz.prog 24 #[.agg #[.slice A s.length k]] w (CyPost w s) := by
  have st0 : Blk ((w.alloc (.cells #[.slice A s.length k] 27)).alloc (.cells #[.slice none 0 0] 27)) (w.heap.size + 1) 27 #[.slice none 0 0] := by simpa using Blk.new (w.alloc (.cells #[.slice A s.length k] 27)) 27 #[.slice none 0 0]
  have HC := Lib.hid (clone63_any ((w.alloc (.cells #[.slice A s.length k] 27)).alloc (.cells #[.slice none 0 0] 27)) A k s (hv.keep ((Keeps.alloc _ _ _).trans (Keeps.alloc _ _ _))) hl)
  have hb0 := below_alloc2 w (.cells #[.slice A s.length k] 27) (.cells #[.slice none 0 0] 27)
  clear hv
  have HF : Hid (∀ A' c' w', w'.ownsRow w.heap.size 41 2 (.slice A' s.length c') s.length (rsV s) → Below w.heap.size w w' → CyPost w s (.returned (.agg #[.slice A' s.length c'])) w') := Lib.hid fun A' c' w' a b => ⟨A', c', rfl, a, b⟩
  generalize CyPost w s = R at *
  generalize rsV s = xs at *
  go_enter Tryz.func24, Tryz.ntmps24
  go_wp2_with fail
  go_at_call 41
  refine HC.out.mono ?_
  rintro e w1 ⟨A', c', rfl, hown, hb1⟩
  have st1 := st0.below hb1 st0.lt
  have c0 : w1.cell? ⟨w.heap.size + 1, 0, none⟩ = some (.slice none 0 0) := (st1.cell 0).trans rfl
  have f0 := st1.frozen 0
  have l0 := st1.lt
  have hne : some (w.heap.size + 1) ≠ (Value.slice A' s.length c').ownBlock := fun e => by have := (hown.lt _ e.symm).1; simp at this; omega
  go_wp2_with fail
  refine bodyPost_ret (results_c26 rfl _ _ (w.heap.size + 1) (.slice A' s.length c') rfl (((st1.set_ 0 (.slice A' s.length c')).cell 0).trans rfl)) rfl ?_
  exact HF.out _ _ _ (own_more (own_setCell hown hne _) (by simp; omega)) ((hb0.trans (hb1.mono hb0.size)).setCell (by simp) _)
end Go.Proofs.YtipjejnncnndeaaGreatDoor.RF
namespace Rf
theorem tgt_fnd : ∀ {s : List R} (_ : Srt s) {n : Nm}, fnd s n = true → lb s n < s.length ∧ (it s (lb s n)).name = n ∧ tgtOf s n = (it s (lb s n)).tgt
  | s, hs, n, h => by
    unfold fnd at h
    rw [Bool.and_eq_true, decide_eq_true_iff, decide_eq_true_iff] at h
    refine ⟨h.1, h.2, ?_⟩
    have hm : it s (lb s n) ∈ s := by rw [← it_eq s _ h.1]; exact List.getElem_mem _
    have := mem_tgt hs hm
    rwa [h.2] at this
theorem tgt_nofnd {s : List R} (hs : Srt s) {n : Nm} (h : fnd s n = false) : tgtOf s n = -1 := by
  refine tgt_none fun x hx e => ?_
  obtain ⟨k, hk, rfl⟩ := List.mem_iff_getElem.1 hx
  rw [it_eq s k hk] at e
  unfold fnd at h
  rw [Bool.and_eq_false_iff, decide_eq_false_iff_not, decide_eq_false_iff_not] at h
  have hlk : lb s n ≤ k := by
    apply Decidable.byContradiction; intro hn
    have := lb_lt (s := s) (n := n) (k := k) (by omega)
    rw [e] at this; exact nlt_irrefl _ this
  have hlt : lb s n < s.length := by omega
  have hge := lb_ge hs (n := n) (k := lb s n) (Nat.le_refl _) hlt
  rcases Nat.lt_or_eq_of_le hlk with h1 | h1
  · have := List.pairwise_iff_getElem.1 hs (lb s n) k hlt hk h1
    rw [it_eq s _ hlt, it_eq s k hk, e] at this
    exact hge this
  · rcases h with h | h
    · exact h hlt
    · exact h (by rw [h1]; exact e)
theorem dg_ne {n : Int} (h : dgOk n = true) : n ≠ -1 := fun e => by rw [e] at h; revert h; decide
end Rf
namespace Go.Proofs.YtipjejnncnndeaaGreatDoor.RF
open Go.RowKit Go.V Go.Shelf Go.Lib
set_option linter.unusedVariables false

/-- A set in a variable of the call's own. -/
structure RSt (w : World) (g base : Nat) (A : Option Addr) (c : Nat) (s : List Rf.R) : Prop where
  blk : Blk w g 27 #[.slice A s.length c]
  own : w.ownsRow base 41 2 (.slice A s.length c) s.length (rsV s)
  hi : base ≤ w.heap.size
theorem RSt.below {w w' : World} {g base : Nat} {A : Option Addr} {c : Nat} {s : List Rf.R} (h : RSt w g base A c s) (hb : Below w.heap.size w w') : RSt w' g base A c s :=
  ⟨h.blk.below hb h.blk.lt, own_below h.own hb, Nat.le_trans h.hi hb.size⟩
theorem RSt.view {w : World} {g base : Nat} {A : Option Addr} {c : Nat} {s : List Rf.R} (h : RSt w g base A c s) : SA w Free A (rsV s) := SA.of_own' h.own (fun _ _ h => h)
theorem hne51 : (41 : TypeId) ≠ 27 := by decide
/-- The row lies where it lay, or in new memory. -/
def Fresh (w : World) (v v' : Value) : Prop := ∀ b, v'.ownBlock = some b → v.ownBlock = some b ∨ w.heap.size ≤ b
def StPost (w : World) (g base : Nat) (A : Option Addr) (c : Nat) (s : List Rf.R) (u : Rf.U) (e : Ending) (w' : World) : Prop :=
  ∃ A' c', e = .returned (.int .i64 (Rf.upC s u)) ∧ RSt w' g base A' c' (if Rf.upC s u = 0 then Rf.upS s u else s) ∧ TouchS w w' g (Value.slice A s.length c).ownBlock ∧ Fresh w (Value.slice A s.length c) (Value.slice A' (if Rf.upC s u = 0 then Rf.upS s u else s).length c')
def okd (n : Int) : Prop := n = -1 ∨ Rf.dgOk n = true
set_option maxRecDepth 100000 in
set_option maxHeartbeats 16000000 in
theorem step_any (w : World) (hm : Mx w) (g base : Nat) (A : Option Addr) (c : Nat) (s : List Rf.R) (u : Rf.U) (h : RSt w g base A c s) (hok : Rf.Ok s) :
    Calls Tryz.prog 25 #[.pointer (some ⟨g, 0, none⟩), .agg #[strV u.name, .int .i64 u.old, .int .i64 u.new]] w (StPost w g base A c s u) := by
  have hUC := Rf.upC.eq_1 s u
  have HE : Hid (∀ cd w', Rf.upC s u = cd → cd ≠ 0 → Below w.heap.size w w' → StPost w g base A c s u (.returned (.int .i64 cd)) w') := Lib.hid fun cd w' h1 h2 h3 => by
    subst h1; exact ⟨A, c, rfl, by rw [if_neg h2]; exact h.below h3, .of_below h3 _ _, by rw [if_neg h2]; exact fun b h => .inl h⟩
  have HG : Hid (∀ A' c' w', Rf.upC s u = 0 → RSt w' g base A' c' (Rf.upS s u) → TouchS w w' g (Value.slice A s.length c).ownBlock → Fresh w (Value.slice A s.length c) (Value.slice A' (Rf.upS s u).length c') → StPost w g base A c s u (.returned (.int .i64 0)) w') := Lib.hid fun A' c' w' h1 h2 h3 h4 =>
    ⟨A', c', by rw [h1], by rw [if_pos h1]; exact h2, h3, by rw [if_pos h1]; exact h4⟩
  have hUS := Rf.upS.eq_1 s u
  have hIN := Rf.ins.eq_1 u
  generalize StPost w g base A c s u = R at *
  generalize Rf.upC s u = uc at *
  generalize Rf.upS s u = us at *
  generalize Rf.ins u = ui at *
  have hlen := hok.len
  have HRB := Lib.hid (fun (w' : World) (hb : Below w.heap.size w w') => h.below hb)
  have HNA := Lib.hid (fun (w' : World) (hb : Below w.heap.size w w') => name_any w' (hm.below hb) u.name)
  have HFI := Lib.hid (fun (w' : World) (hb : Below w.heap.size w w') => find_any w' A c s u.name (h.below hb).view (by omega) hok.srt)
  have HTF := Lib.hid (fun hf => Rf.tgt_fnd hok.srt (n := u.name) hf)
  have HTN := Lib.hid (fun hf => Rf.tgt_nofnd hok.srt (n := u.name) hf)
  have HTG := Lib.hid (fun p (hp : p < s.length) => show (Rf.it s p).tgt ≠ -1 from by
    rw [← Rf.it_eq s p hp]; exact hok.ne (List.getElem_mem hp))
  have HCL := Lib.hid (fun (hn : Rf.nameOk u.name = true) (w' : World) (hb : Below w.heap.size w w') => clash_any w' A c s u.name (h.below hb).view (by omega) (fun x hx => by
      have := hok.name x hx; unfold Rf.nameOk at this; rw [Bool.and_eq_true] at this; simpa using this.1) (by unfold Rf.nameOk at hn; rw [Bool.and_eq_true] at hn; simpa using hn.1))
  have hlb := Rf.lb_le s u.name
  have hb1 := below_alloc1 w (.cells #[strV u.name, .int .i64 u.old, .int .i64 u.new] 78)
  clear h hm hok
  obtain ⟨un, uo, uw⟩ := u
  simp only at *
  go_enter Tryz.func25, Tryz.ntmps25
  go_wp2_with fail
  go_at_call 26
  refine (HNA.out _ hb1).mono ?_
  rintro e w2 ⟨rfl, hb2'⟩
  have hb2 := hb1.trans (hb2'.mono hb1.size)
  have ub := (Blk.new w 78 #[strV un, .int .i64 uo, .int .i64 uw]).below hb2' (by simp)
  have c0 : w2.cell? ⟨w.heap.size, 0, none⟩ = some (strV un) := (ub.cell 0).trans rfl
  have c1 : w2.cell? ⟨w.heap.size, 1, none⟩ = some (.int .i64 uo) := (ub.cell 1).trans rfl
  have c2 : w2.cell? ⟨w.heap.size, 2, none⟩ = some (.int .i64 uw) := (ub.cell 2).trans rfl
  have l0 := ub.lt
  clear hb1 hb2' HNA
  cases hn : Rf.nameOk un with
  | false =>
    have HR := Lib.hid (HE.out 12 _ (by rw [hUC, if_pos hn]) (by decide) hb2)
    clear hUC hUS hIN hn
    go_wp2_with fail
    exact HR.out
  | true =>
    rw [if_neg (by rw [hn]; simp)] at hUC
    have HCL2 := Lib.hid (HCL.out hn)
    clear hn HCL
    have ix0 : ∀ W, (Instr.index 99 (.agg #[.int .i64 uo, .int .i64 uw]) (.int .i64 0)).run Tryz.prog W = .ok (.int .i64 uo) W := fun _ => by kernel_rfl
    have ix1 : ∀ W, (Instr.index 99 (.agg #[.int .i64 uo, .int .i64 uw]) (.int .i64 1)).run Tryz.prog W = .ok (.int .i64 uw) W := fun _ => by kernel_rfl
    have HUC := Lib.hid hUC
    have HUS := Lib.hid hUS
    have HIN := Lib.hid hIN
    clear hUC hUS hIN
    go_wp2_with fail
    go_loopw [19] (fun kv wr => (kv = .int .i64 0 ∨ (kv = .int .i64 1 ∧ Hid (okd uo)) ∨ (kv = .int .i64 2 ∧ Hid (okd uo ∧ okd uw))) ∧ wr = w2) (fun kv _ => 2 - (intOf kv).toNat)
    case atStart => exact ⟨.inl rfl, rfl⟩
    case round =>
      obtain ⟨hk, rfl⟩ := hrel
      obtain ⟨w2, rfl⟩ : ∃ w2 : World, w2 = wr := ⟨_, rfl⟩
      rcases hk with rfl | ⟨rfl, ho⟩ | ⟨rfl, ho⟩
      · have HDG := Lib.hid (isDigest50_any w2 uo)
        by_cases h1 : uo = -1
        · have h1' : (uo != -1) = false := by simp [h1]
          have hn := Lib.hid (show okd uo from (.inl h1))
          clear h1 HDG
          go_wp2_with fail
          go_roundw
          case rel => exact ⟨.inr (.inl ⟨by simp, hn⟩), by first | rfl | trivial⟩
          case measure => simp [intOf]
        · have h1' : (uo != -1) = true := by simpa using h1
          cases hd : Rf.dgOk uo with
          | true =>
            rw [hd] at HDG
            have hn := Lib.hid (show okd uo from (.inr hd))
            clear h1 hd
            go_wp2_with fail
            go_at_call 27
            refine HDG.out.mono ?_
            rintro e w3 ⟨rfl, rfl⟩
            go_wp2_with fail
            go_roundw
            case rel => exact ⟨.inr (.inl ⟨by simp, hn⟩), by first | rfl | trivial⟩
            case measure => simp [intOf]
          | false =>
            rw [hd] at HDG
            have HR := Lib.hid (HE.out 3 _ (by rw [HUC.out, if_pos (.inl ⟨h1, hd⟩)]) (by decide) hb2)
            clear h1 hd
            go_wp2_with fail
            go_at_call 27
            refine HDG.out.mono ?_
            rintro e w3 ⟨rfl, rfl⟩
            go_wp2_with fail
            exact HR.out
      · have HDG := Lib.hid (isDigest50_any w2 uw)
        by_cases h1 : uw = -1
        · have h1' : (uw != -1) = false := by simp [h1]
          have hn := Lib.hid (show okd uo ∧ okd uw from ⟨ho.out, (.inl h1)⟩)
          clear h1 HDG
          go_wp2_with fail
          go_roundw
          case rel => exact ⟨.inr (.inr ⟨by simp, hn⟩), by first | rfl | trivial⟩
          case measure => simp [intOf]
        · have h1' : (uw != -1) = true := by simpa using h1
          cases hd : Rf.dgOk uw with
          | true =>
            rw [hd] at HDG
            have hn := Lib.hid (show okd uo ∧ okd uw from ⟨ho.out, (.inr hd)⟩)
            clear h1 hd
            go_wp2_with fail
            go_at_call 27
            refine HDG.out.mono ?_
            rintro e w3 ⟨rfl, rfl⟩
            go_wp2_with fail
            go_roundw
            case rel => exact ⟨.inr (.inr ⟨by simp, hn⟩), by first | rfl | trivial⟩
            case measure => simp [intOf]
          | false =>
            rw [hd] at HDG
            have HR := Lib.hid (HE.out 3 _ (by rw [HUC.out, if_pos (.inr ⟨h1, hd⟩)]) (by decide) hb2)
            clear h1 hd
            go_wp2_with fail
            go_at_call 27
            refine HDG.out.mono ?_
            rintro e w3 ⟨rfl, rfl⟩
            go_wp2_with fail
            exact HR.out
      · have HU1 := Lib.hid (HUC.out.trans (if_neg (by
          rintro (⟨h1, h2⟩ | ⟨h1, h2⟩)
          · rcases ho.out.1 with h | h
            · exact h1 h
            · rw [h] at h2; cases h2
          · rcases ho.out.2 with h | h
            · exact h1 h
            · rw [h] at h2; cases h2)))
        have HO := ho
        clear HUC ho ix0 ix1
        by_cases hbo : uo = -1 ∧ uw = -1
        · obtain ⟨ho1, ho2⟩ := hbo
          have HR := Lib.hid (HE.out 5 _ (by rw [HU1.out, if_pos ⟨ho1, ho2⟩]) (by decide) hb2)
          have e1 : (uo == -1) = true := by simp [ho1]
          have e2 : (uw == -1) = true := by simp [ho2]
          clear ho1 ho2 HU1
          go_wp2_with fail
          exact HR.out
        · have HU2 := Lib.hid (HU1.out.trans (if_neg hbo))
          clear HU1
          have rs2 := HRB.out _ hb2
          have p0 : w2.cell? ⟨g, 0, none⟩ = some (.slice A s.length c) := (rs2.blk.cell 0).trans rfl
          have lg := rs2.blk.lt
          have hk0 : Below w2.heap.size w2 w2.drew := below_drew' (Below.refl _ _)
          have HK : Hid (∀ w6 : World, Below w2.heap.size w2 w6 → w6.cell? ⟨g, 0, none⟩ = some (.slice A s.length c) ∧ w6.cell? ⟨w.heap.size, 0, none⟩ = some (strV un)) := Lib.hid fun w6 h6 => ⟨(h6.cell (p := ⟨_, _, none⟩) lg).trans p0, (h6.cell (p := ⟨_, _, none⟩) l0).trans c0⟩
          have hab : (uo == -1 && uw == -1) = false := by
            rw [Bool.and_eq_false_iff, beq_eq_false_iff_ne, beq_eq_false_iff_ne]
            by_cases h1 : uo = -1
            · exact .inr (fun h2 => hbo ⟨h1, h2⟩)
            · exact .inl h1
          cases hf : Rf.fnd s un with
          | true =>
            rw [hf] at HFI
            obtain ⟨hpl, hpn, hpt⟩ := HTF.out hf
            have hnt := HTG.out _ hpl
            have HUS2 : Hid (us = s.take (Rf.lb s un) ++ ui ++ s.drop (Rf.lb s un + 1)) := Lib.hid (by rw [HUS.out, hf]; rfl)
            have hset := rsV_set s _ hpl uw
            have hdel := rsV_del s (Rf.lb s un)
            obtain ⟨x, hx⟩ : ∃ x, x = Rf.it s (Rf.lb s un) := ⟨_, rfl⟩
            rw [← hx] at hpn hpt hnt hset
            have HX := Lib.hid hx.symm
            clear hf hx HTF HTN HTG HUS
            generalize hp : Rf.lb s un = p at *
            clear hp
            have hpi : (p : Int) < s.length := by omega
            have hp0 : (0 : Int) ≤ p := by omega
            rw [hpt] at HU2
            clear hpt
            by_cases ha : uo = -1
            · have e1 : (uo == -1) = true := by simp [ha]
              have e2 : (uw == -1) = false := by rw [beq_eq_false_iff_ne]; exact fun h2 => hbo ⟨ha, h2⟩
              have hne : uo ≠ x.tgt := by rw [ha]; exact fun e => hnt e.symm
              have e3 : (uo != x.tgt) = true := by simpa using hne
              have HUR := Lib.hid (HU2.out.trans (if_pos (fun e => hne e.symm)))
              clear hab ha hne hnt hset hdel hbo
              go_wp2_with fail
              go_region_held3 (fun w6 => w6.cell? ⟨g, 0, none⟩ = some (.slice A s.length c) ∧ w6.cell? ⟨w.heap.size, 0, none⟩ = some (strV un))
                (first | exact HK.out _ hk0 | exact HK.out _ hk1)
                (first | (go_at_call 42; (with_reducible refine (HFI.out _ (hb2.trans (hk0.mono hb2.size))).mono ?_); rintro e w3 ⟨rfl, hb3⟩; have hk1 : Below w2.heap.size w2 w3 := hk0.trans (hb3.mono hk0.size)))
              have hbw := hb2.trans (hk1.mono hb2.size)
              have rs3 := HRB.out _ hbw
              have ub3 := ub.below hk1 l0
              clear c0 c1 c2 l0 p0 lg hk1 hk0 HK hb3 rs2 ub hb2
              have c0 : w3.cell? ⟨w.heap.size, 0, none⟩ = some (strV un) := (ub3.cell 0).trans rfl
              have c1 : w3.cell? ⟨w.heap.size, 1, none⟩ = some (.int .i64 uo) := (ub3.cell 1).trans rfl
              have c2 : w3.cell? ⟨w.heap.size, 2, none⟩ = some (.int .i64 uw) := (ub3.cell 2).trans rfl
              have l0 := ub3.lt
              have p0 : w3.cell? ⟨g, 0, none⟩ = some (.slice A s.length c) := (rs3.blk.cell 0).trans rfl
              have lg := rs3.blk.lt
              have HR := Lib.hid (HE.out 16 _ HUR.out (by decide) hbw)
              obtain ⟨b, off, eA, hb, _, d0, d1⟩ := rsV_row rs3.view p hpl
              subst eA
              rw [HX.out] at d1
              go_wp2_with fail
              exact HR.out
            · have e1 : (uo == -1) = false := by simpa using ha
              by_cases hne : uo = x.tgt
              · have e3 : (uo != x.tgt) = false := by simpa using hne
                have HU3 : Hid (uc = 0) := Lib.hid (by rw [HU2.out, if_neg (by rw [hne]; simp), if_pos ha])
                clear HU2 hab ha hbo
                by_cases hw : uw = -1
                · have e4 : (uw == -1) = true := by simp [hw]
                  have HUS3 : Hid (us = s.take p ++ s.drop (p + 1)) := Lib.hid (by rw [HUS2.out, HIN.out, if_pos hw]; simp)
                  obtain ⟨m, hm⟩ : ∃ m, s.length = m + 1 := ⟨s.length - 1, by omega⟩
                  have hm30 : m ≤ 30 := by omega
                  have hpm : p ≤ m := by omega
                  have HM := Lib.hid hm
                  clear hm
                  clear hw hnt hne
                  go_wp2_with fail
                  go_region_held3 (fun w6 => w6.cell? ⟨g, 0, none⟩ = some (.slice A s.length c) ∧ w6.cell? ⟨w.heap.size, 0, none⟩ = some (strV un))
                    (first | exact HK.out _ hk0 | exact HK.out _ hk1)
                    (first | (go_at_call 42; (with_reducible refine (HFI.out _ (hb2.trans (hk0.mono hb2.size))).mono ?_); rintro e w3 ⟨rfl, hb3⟩; have hk1 : Below w2.heap.size w2 w3 := hk0.trans (hb3.mono hk0.size)))
                  have hbw := hb2.trans (hk1.mono hb2.size)
                  have rs3 := HRB.out _ hbw
                  have ub3 := ub.below hk1 l0
                  clear c0 c1 c2 l0 p0 lg hk1 hk0 HK hb3 rs2 ub hb2
                  have c0 : w3.cell? ⟨w.heap.size, 0, none⟩ = some (strV un) := (ub3.cell 0).trans rfl
                  have c1 : w3.cell? ⟨w.heap.size, 1, none⟩ = some (.int .i64 uo) := (ub3.cell 1).trans rfl
                  have c2 : w3.cell? ⟨w.heap.size, 2, none⟩ = some (.int .i64 uw) := (ub3.cell 2).trans rfl
                  have l0 := ub3.lt
                  have p0 : w3.cell? ⟨g, 0, none⟩ = some (.slice A s.length c) := (rs3.blk.cell 0).trans rfl
                  have lg := rs3.blk.lt
                  obtain ⟨b, off, eA, hb, _, d0, d1⟩ := rsV_row rs3.view p hpl
                  obtain ⟨gA, cur, eB, _, hgA, hbk, _⟩ := own_blk rs3.own (by omega)
                  rw [eB] at eA
                  injection eA with eA
                  injection eA with eA1 eA2
                  subst eA1 eA2 eB
                  rw [HX.out] at d1
                  simp only [Nat.zero_add] at d1
                  clear d0
                  go_wp2_with fail
                  go_quiet (fail)
                  have hq : Below w3.heap.size w3 (w3.drewN nq) := below_drewN' (Below.refl _ _) nq
                  have rs4 := rs3.below hq
                  have ub4 := ub3.below hq ub3.lt
                  have hbw4 := hbw.trans (hq.mono hbw.size)
                  have hbk4 := hbk.below hq hbk.lt
                  have d4 : (w3.drewN nq).cell? ⟨gA, p * 2 + 1, none⟩ = some (.int .i64 x.tgt) := d1
                  generalize hw3 : w3.drewN nq = w4 at *
                  clear hw3 hq c0 c1 c2 l0 p0 lg d1 hb hbk
                  have c2 : w4.cell? ⟨w.heap.size, 2, none⟩ = some (.int .i64 uw) := (ub4.cell 2).trans rfl
                  have l0 := ub4.lt
                  have p0 : w4.cell? ⟨g, 0, none⟩ = some (.slice (some ⟨gA, 0, none⟩) s.length c) := (rs4.blk.cell 0).trans rfl
                  have lg := rs4.blk.lt
                  have pf := rs4.blk.frozen 0
                  have HDE := Lib.hid (fun (w' : World) (hb : Below w4.heap.size w4 w') => by
                    have hh := deleteOwn_any w' base (some ⟨gA, 0, none⟩) m c p (rsV s) (by have := (rs4.below hb).own; rwa [HM.out] at this) (by omega) (by omega) (rsV_one s)
                    rw [← HM.out] at hh
                    exact hh)
                  have HDL := Lib.hid hdel
                  clear hdel hset
                  go_wp2_with fail
                  go_at_call 44
                  refine (HDE.out _ (Below.refl _ _)).mono ?_
                  rintro e w5 ⟨gB, eB, rfl, hown5, hg5⟩
                  injection eB with eB
                  injection eB with eB
                  subst eB
                  have hneg : some g ≠ some gA := fun e => by
                    have := own_blk_ne rs4.own rs4.blk hne51
                    exact this e
                  have blk5 := rs4.blk.grown hg5 hneg
                  have pf5 := blk5.frozen 0
                  have lg5 := blk5.lt
                  have p5 : w5.cell? ⟨g, 0, none⟩ = some (.slice (some ⟨gA, 0, none⟩) s.length c) := (blk5.cell 0).trans rfl
                  have hge : g ≠ gA := fun e => hneg (by rw [e])
                  go_wp2_with fail
                  refine HG.out (some ⟨gA, 0, none⟩) c _ HU3.out ⟨?_, ?_, ?_⟩ ?_ (fun b h => .inl h)
                  · rw [HUS3.out, show (s.take p ++ s.drop (p + 1)).length = m by have := HM.out; simp; omega]; simpa using blk5.set_ 0 (.slice (some ⟨gA, 0, none⟩) m c)
                  · rw [HUS3.out, show (s.take p ++ s.drop (p + 1)).length = m by have := HM.out; simp; omega, ← HDL.out]; exact own_setCell hown5 (show some g ≠ (Value.slice (some ⟨gA, 0, none⟩) m c).ownBlock from hneg) _
                  · have := hg5.size; have := rs4.hi; simp [World.setCell]; omega
                  · exact (TouchS.grown hbw4 hg5).set 0 _
                · have e4 : (uw == -1) = false := by simpa using hw
                  have HUS3 : Hid (us = s.take p ++ [⟨x.name, uw⟩] ++ s.drop (p + 1)) := Lib.hid (by rw [HUS2.out, HIN.out, if_neg hw, hpn])
                  clear hw hnt hne
                  go_wp2_with fail
                  go_region_held3 (fun w6 => w6.cell? ⟨g, 0, none⟩ = some (.slice A s.length c) ∧ w6.cell? ⟨w.heap.size, 0, none⟩ = some (strV un))
                    (first | exact HK.out _ hk0 | exact HK.out _ hk1)
                    (first | (go_at_call 42; (with_reducible refine (HFI.out _ (hb2.trans (hk0.mono hb2.size))).mono ?_); rintro e w3 ⟨rfl, hb3⟩; have hk1 : Below w2.heap.size w2 w3 := hk0.trans (hb3.mono hk0.size)))
                  have hbw := hb2.trans (hk1.mono hb2.size)
                  have rs3 := HRB.out _ hbw
                  have ub3 := ub.below hk1 l0
                  clear c0 c1 c2 l0 p0 lg hk1 hk0 HK hb3 rs2 ub hb2
                  have c0 : w3.cell? ⟨w.heap.size, 0, none⟩ = some (strV un) := (ub3.cell 0).trans rfl
                  have c1 : w3.cell? ⟨w.heap.size, 1, none⟩ = some (.int .i64 uo) := (ub3.cell 1).trans rfl
                  have c2 : w3.cell? ⟨w.heap.size, 2, none⟩ = some (.int .i64 uw) := (ub3.cell 2).trans rfl
                  have l0 := ub3.lt
                  have p0 : w3.cell? ⟨g, 0, none⟩ = some (.slice A s.length c) := (rs3.blk.cell 0).trans rfl
                  have lg := rs3.blk.lt
                  obtain ⟨b, off, eA, hb, _, d0, d1⟩ := rsV_row rs3.view p hpl
                  obtain ⟨gA, cur, eB, _, hgA, hbk, _⟩ := own_blk rs3.own (by omega)
                  rw [eB] at eA
                  injection eA with eA
                  injection eA with eA1 eA2
                  subst eA1 eA2 eB
                  rw [HX.out] at d1
                  simp only [Nat.zero_add] at d1
                  clear d0
                  go_wp2_with fail
                  go_quiet (fail)
                  have hq : Below w3.heap.size w3 (w3.drewN nq) := below_drewN' (Below.refl _ _) nq
                  have rs4 := rs3.below hq
                  have ub4 := ub3.below hq ub3.lt
                  have hbw4 := hbw.trans (hq.mono hbw.size)
                  have hbk4 := hbk.below hq hbk.lt
                  have d4 : (w3.drewN nq).cell? ⟨gA, p * 2 + 1, none⟩ = some (.int .i64 x.tgt) := d1
                  generalize hw3 : w3.drewN nq = w4 at *
                  clear hw3 hq c0 c1 c2 l0 p0 lg d1 hb hbk
                  have c2 : w4.cell? ⟨w.heap.size, 2, none⟩ = some (.int .i64 uw) := (ub4.cell 2).trans rfl
                  have l0 := ub4.lt
                  have p0 : w4.cell? ⟨g, 0, none⟩ = some (.slice (some ⟨gA, 0, none⟩) s.length c) := (rs4.blk.cell 0).trans rfl
                  have lg := rs4.blk.lt
                  have pf := rs4.blk.frozen 0
                  have HST := Lib.hid hset
                  clear hset hdel
                  have hneg : some g ≠ some gA := fun e => by
                    have := own_blk_ne rs4.own rs4.blk hne51
                    exact this e
                  have hge : g ≠ gA := fun e => hneg (by rw [e])
                  have hf1 : w4.frozen? ⟨gA, p * 2 + 1, none⟩ = false := hbk4.frozen _
                  have hla := hbk4.lt
                  have HEND : Hid (∀ w', w' = (w4.setCell ⟨gA, p * 2 + 1, none⟩ (.int .i64 uw)) ∨ w' = (w4.setCell ⟨gA, p * 2 + 1, none⟩ (.int .i64 uw)).drew → R (.returned (.int .i64 0)) w') := Lib.hid fun w' hw' => by
                    have key : R (.returned (.int .i64 0)) (w4.setCell ⟨gA, p * 2 + 1, none⟩ (.int .i64 uw)) ∧ R (.returned (.int .i64 0)) (w4.setCell ⟨gA, p * 2 + 1, none⟩ (.int .i64 uw)).drew := by
                      have hl : (s.take p ++ [(⟨x.name, uw⟩ : Rf.R)] ++ s.drop (p + 1)).length = s.length := by simp; omega
                      have q1 : Blk (w4.setCell ⟨gA, p * 2 + 1, none⟩ (.int .i64 uw)) g 27 #[.slice (some ⟨gA, 0, none⟩) s.length c] := rs4.blk.far (fun e => hge e) _
                      have q2 := own_set rs4.own (by omega) (p * 2 + 1) (.int .i64 uw)
                      rw [HST.out] at q2
                      have q3 : TouchS w (w4.setCell ⟨gA, p * 2 + 1, none⟩ (.int .i64 uw)) g (Value.slice (some ⟨gA, 0, none⟩) s.length c).ownBlock := TouchS.grown hbw4 (only_setCell (World.grownBy.refl w4 (some gA)) (.inl rfl) _)
                      have q4 := rs4.hi
                      exact ⟨HG.out (some ⟨gA, 0, none⟩) c _ HU3.out ⟨by rw [HUS3.out, hl]; exact q1, by rw [HUS3.out, hl]; exact q2, by simpa [World.setCell] using q4⟩ q3 (fun b h => .inl h), HG.out (some ⟨gA, 0, none⟩) c _ HU3.out ⟨by rw [HUS3.out, hl]; exact q1, by rw [HUS3.out, hl]; exact q2, by show _ ≤ (w4.setCell _ _).heap.size; simpa [World.setCell] using q4⟩ ⟨q3.os, q3.tape, q3.output, q3.size, q3.block⟩ (fun b h => .inl h)⟩
                    rcases hw' with rfl | rfl
                    · exact key.1
                    · exact key.2
                  go_wp2_with fail
                  go_region
                  all_goals
                    go_wp2_with fail
                    exact HEND.out _ (by first | exact .inl rfl | exact .inr rfl)
              · have e3 : (uo != x.tgt) = true := by simpa using hne
                have HUR := Lib.hid (HU2.out.trans (if_pos (fun e => hne e.symm)))
                clear hab ha hne hnt hset hdel hbo
                go_wp2_with fail
                go_region_held3 (fun w6 => w6.cell? ⟨g, 0, none⟩ = some (.slice A s.length c) ∧ w6.cell? ⟨w.heap.size, 0, none⟩ = some (strV un))
                  (first | exact HK.out _ hk0 | exact HK.out _ hk1)
                  (first | (go_at_call 42; (with_reducible refine (HFI.out _ (hb2.trans (hk0.mono hb2.size))).mono ?_); rintro e w3 ⟨rfl, hb3⟩; have hk1 : Below w2.heap.size w2 w3 := hk0.trans (hb3.mono hk0.size)))
                have hbw := hb2.trans (hk1.mono hb2.size)
                have rs3 := HRB.out _ hbw
                have ub3 := ub.below hk1 l0
                clear c0 c1 c2 l0 p0 lg hk1 hk0 HK hb3 rs2 ub hb2
                have c0 : w3.cell? ⟨w.heap.size, 0, none⟩ = some (strV un) := (ub3.cell 0).trans rfl
                have c1 : w3.cell? ⟨w.heap.size, 1, none⟩ = some (.int .i64 uo) := (ub3.cell 1).trans rfl
                have c2 : w3.cell? ⟨w.heap.size, 2, none⟩ = some (.int .i64 uw) := (ub3.cell 2).trans rfl
                have l0 := ub3.lt
                have p0 : w3.cell? ⟨g, 0, none⟩ = some (.slice A s.length c) := (rs3.blk.cell 0).trans rfl
                have lg := rs3.blk.lt
                have HR := Lib.hid (HE.out 16 _ HUR.out (by decide) hbw)
                obtain ⟨b, off, eA, hb, _, d0, d1⟩ := rsV_row rs3.view p hpl
                subst eA
                rw [HX.out] at d1
                go_wp2_with fail
                exact HR.out
          | false =>
            rw [hf] at HFI
            have hpt := HTN.out hf
            have HUS2 : Hid (us = s.take (Rf.lb s un) ++ ui ++ s.drop (Rf.lb s un)) := Lib.hid (by rw [HUS.out, hf]; rfl)
            have hins := rsV_ins s (Rf.lb s un)
            clear hf HTF HTN HTG HUS
            generalize hp : Rf.lb s un = p at *
            clear hp
            rw [hpt] at HU2
            clear hpt
            by_cases ha : uo = -1
            · have e1 : (uo == -1) = true := by simp [ha]
              have e1' : (uo != -1) = false := by simp [ha]
              have hw : uw ≠ -1 := fun h2 => hbo ⟨ha, h2⟩
              have e2 : (uw == -1) = false := by rw [beq_eq_false_iff_ne]; exact hw
              have HU3 := Lib.hid ((HU2.out.trans (if_neg (by rw [ha]; simp))).trans (if_neg (fun h => h ha)))
              have HUS3 : Hid (us = s.take p ++ [⟨un, uw⟩] ++ s.drop p) := Lib.hid (by rw [HUS2.out, HIN.out, if_neg hw])
              clear HU2 hab ha hbo hw
              go_wp2_with fail
              go_region_held3 (fun w6 => w6.cell? ⟨g, 0, none⟩ = some (.slice A s.length c) ∧ w6.cell? ⟨w.heap.size, 0, none⟩ = some (strV un))
                (first | exact HK.out _ hk0 | exact HK.out _ hk1)
                (first | (go_at_call 42; (with_reducible refine (HFI.out _ (hb2.trans (hk0.mono hb2.size))).mono ?_); rintro e w3 ⟨rfl, hb3⟩; have hk1 : Below w2.heap.size w2 w3 := hk0.trans (hb3.mono hk0.size)))
              have hbw := hb2.trans (hk1.mono hb2.size)
              have rs3 := HRB.out _ hbw
              have ub3 := ub.below hk1 l0
              clear c0 c1 c2 l0 p0 lg hk1 hk0 HK hb3 rs2 ub hb2
              have c0 : w3.cell? ⟨w.heap.size, 0, none⟩ = some (strV un) := (ub3.cell 0).trans rfl
              have c1 : w3.cell? ⟨w.heap.size, 1, none⟩ = some (.int .i64 uo) := (ub3.cell 1).trans rfl
              have c2 : w3.cell? ⟨w.heap.size, 2, none⟩ = some (.int .i64 uw) := (ub3.cell 2).trans rfl
              have l0 := ub3.lt
              have p0 : w3.cell? ⟨g, 0, none⟩ = some (.slice A s.length c) := (rs3.blk.cell 0).trans rfl
              have lg := rs3.blk.lt
              have HCL3 := Lib.hid (fun (w' : World) (hb : Below w3.heap.size w3 w') => HCL2.out w' (hbw.trans (hb.mono hbw.size)))
              cases hcl : s.any (fun r => Rf.conf r.name un) with
              | true =>
                rw [hcl] at HCL3 HU3
                have hj0 : Below w3.heap.size w3 w3.drew := below_drew' (Below.refl _ _)
                have HK2 : Hid (∀ w6 : World, Below w3.heap.size w3 w6 → w6.cell? ⟨g, 0, none⟩ = some (.slice A s.length c) ∧ w6.cell? ⟨w.heap.size, 0, none⟩ = some (strV un)) := Lib.hid fun w6 h6 => ⟨(h6.cell (p := ⟨_, _, none⟩) lg).trans p0, (h6.cell (p := ⟨_, _, none⟩) l0).trans c0⟩
                clear hcl
                go_wp2_with fail
                go_region_held3 (fun w6 => w6.cell? ⟨g, 0, none⟩ = some (.slice A s.length c) ∧ w6.cell? ⟨w.heap.size, 0, none⟩ = some (strV un))
                  (first | exact HK2.out _ hj0 | exact HK2.out _ hj1)
                  (first | (go_at_call 28; (with_reducible refine (HCL3.out _ hj0).mono ?_); rintro e w4 ⟨rfl, hb4⟩; have hj1 : Below w3.heap.size w3 w4 := hj0.trans (hb4.mono hj0.size)))
                have hbw4 := hbw.trans (hj1.mono hbw.size)
                have rs4 := HRB.out _ hbw4
                have ub4 := ub3.below hj1 ub3.lt
                clear c0 c1 c2 l0 p0 lg hj0 hj1 HK2 hb4
                have HR := Lib.hid (HE.out 19 _ (by rw [HU3.out]; simp) (by decide) hbw4)
                go_wp2_with fail
                exact HR.out
              | false =>
                rw [hcl] at HCL3 HU3
                have hj0 : Below w3.heap.size w3 w3.drew := below_drew' (Below.refl _ _)
                have HK2 : Hid (∀ w6 : World, Below w3.heap.size w3 w6 → w6.cell? ⟨g, 0, none⟩ = some (.slice A s.length c) ∧ w6.cell? ⟨w.heap.size, 0, none⟩ = some (strV un)) := Lib.hid fun w6 h6 => ⟨(h6.cell (p := ⟨_, _, none⟩) lg).trans p0, (h6.cell (p := ⟨_, _, none⟩) l0).trans c0⟩
                clear hcl
                go_wp2_with fail
                go_region_held3 (fun w6 => w6.cell? ⟨g, 0, none⟩ = some (.slice A s.length c) ∧ w6.cell? ⟨w.heap.size, 0, none⟩ = some (strV un))
                  (first | exact HK2.out _ hj0 | exact HK2.out _ hj1)
                  (first | (go_at_call 28; (with_reducible refine (HCL3.out _ hj0).mono ?_); rintro e w4 ⟨rfl, hb4⟩; have hj1 : Below w3.heap.size w3 w4 := hj0.trans (hb4.mono hj0.size)))
                have hbw4 := hbw.trans (hj1.mono hbw.size)
                have rs4 := HRB.out _ hbw4
                have ub4 := ub3.below hj1 ub3.lt
                clear c0 c1 c2 l0 p0 lg hj0 hj1 HK2 hb4
                have HU4 := Lib.hid (HU3.out.trans (if_neg (by simp)))
                have c0 : w4.cell? ⟨w.heap.size, 0, none⟩ = some (strV un) := (ub4.cell 0).trans rfl
                have c2 : w4.cell? ⟨w.heap.size, 2, none⟩ = some (.int .i64 uw) := (ub4.cell 2).trans rfl
                have l0 := ub4.lt
                have p0 : w4.cell? ⟨g, 0, none⟩ = some (.slice A s.length c) := (rs4.blk.cell 0).trans rfl
                have lg := rs4.blk.lt
                have pf := rs4.blk.frozen 0
                by_cases h30 : 30 ≤ s.length
                · have h30' : (30 : Int) ≤ s.length := by omega
                  have h30d : decide ((30 : Int) ≤ s.length) = true := by simp; omega
                  have HR := Lib.hid (HE.out 14 _ (HU4.out.trans (if_pos h30)) (by decide) hbw4)
                  go_wp2_with fail
                  exact HR.out
                · have h30' : ¬ (30 : Int) ≤ s.length := by omega
                  have h30d : decide ((30 : Int) ≤ s.length) = false := by simp; omega
                  have HU5 := Lib.hid (HU4.out.trans (if_neg h30))
                  have HI64 := Lib.hid (insert_any ((w4.alloc (.cells #[strV un, .int .i64 uw] 41)).drew) base A s.length c p (rsV s) #[strV un, .int .i64 uw] w4.heap.size (rs4.own.alloc (.cells #[strV un, .int .i64 uw] 41)) hlb (by omega) (Nat.le_trans rs4.hi (by show w4.heap.size ≤ (w4.alloc _).heap.size; simp)) (Blk.new w4 41 #[strV un, .int .i64 uw]) rfl (own_new_ne rs4.own) (by intro v hv; simp at hv; rcases hv with rfl | rfl <;> rfl) (rsV_one s))
                  have own4 := rs4.own.alloc (.cells #[strV un, .int .i64 uw] 41)
                  have blk4 := rs4.blk.alloc (.cells #[strV un, .int .i64 uw] 41)
                  have hne4 := own_blk_ne own4 blk4 hne51
                  have hi1 := hins ⟨un, uw⟩
                  have HIS := Lib.hid hi1
                  clear hins hi1
                  go_wp2_with fail
                  go_region_law
                    (go_simp; go_at_call 43; (with_reducible refine HI64.out.mono ?_); rintro e w5 ⟨gd, c5, rfl, hown5, hg5, hob5⟩; have blk5 : Blk w5 g 27 #[.slice A s.length c] := Blk.grown (w := (w4.alloc (.cells #[strV un, .int .i64 uw] 41)).drew) blk4 hg5 hne4; have pf5 := blk5.frozen 0; have lg5 := blk5.lt; have p5 : w5.cell? ⟨g, 0, none⟩ = some (.slice A s.length c) := (blk5.cell 0).trans rfl; go_wp2_with fail)
                  all_goals
                    go_wp2_with fail
                    have hlu : us.length = s.length + 1 := by rw [HUS3.out]; simp; omega
                    have hbA : Below w.heap.size w ((w4.alloc (.cells #[strV un, .int .i64 uw] 41)).drew) := below_drew' (hbw4.alloc hbw4.size _)
                    refine HG.out (some ⟨gd, 0, none⟩) c5 _ HU5.out ⟨?_, ?_, ?_⟩ ?_ (fun b hb => hob5.elim (fun h => .inl (h.symm.trans hb)) (fun h => .inr (by have h2 := h.symm.trans hb; injection h2 with h2; have h3 := hbA.size; rw [← h2]; exact h3)))
                    · rw [hlu]; simpa using blk5.set_ 0 (.slice (some ⟨gd, 0, none⟩) (s.length + 1) c5)
                    · rw [hlu, HUS3.out, ← HIS.out]; exact own_setCell hown5 (own_blk_ne hown5 blk5 hne51) _
                    · have h1 := hg5.size; have h2 := rs4.hi; have h3 : (w4.alloc (.cells #[strV un, .int .i64 uw] 41)).drew.heap.size = w4.heap.size + 1 := by show (w4.alloc _).heap.size = _; simp
                      simp [World.setCell]; omega
                    · exact (TouchS.grown hbA hg5).set 0 _
            · have e1 : (uo == -1) = false := by simpa using ha
              have e1' : (uo != -1) = true := by simpa using ha
              have HUR := Lib.hid (HU2.out.trans (if_pos (fun e => ha e.symm)))
              clear hab ha hins hbo
              go_wp2_with fail
              go_region_held3 (fun w6 => w6.cell? ⟨g, 0, none⟩ = some (.slice A s.length c) ∧ w6.cell? ⟨w.heap.size, 0, none⟩ = some (strV un))
                (first | exact HK.out _ hk0 | exact HK.out _ hk1)
                (first | (go_at_call 42; (with_reducible refine (HFI.out _ (hb2.trans (hk0.mono hb2.size))).mono ?_); rintro e w3 ⟨rfl, hb3⟩; have hk1 : Below w2.heap.size w2 w3 := hk0.trans (hb3.mono hk0.size)))
              have hbw := hb2.trans (hk1.mono hb2.size)
              have rs3 := HRB.out _ hbw
              have ub3 := ub.below hk1 l0
              clear c0 c1 c2 l0 p0 lg hk1 hk0 HK hb3 rs2 ub hb2
              have c0 : w3.cell? ⟨w.heap.size, 0, none⟩ = some (strV un) := (ub3.cell 0).trans rfl
              have c1 : w3.cell? ⟨w.heap.size, 1, none⟩ = some (.int .i64 uo) := (ub3.cell 1).trans rfl
              have c2 : w3.cell? ⟨w.heap.size, 2, none⟩ = some (.int .i64 uw) := (ub3.cell 2).trans rfl
              have l0 := ub3.lt
              have p0 : w3.cell? ⟨g, 0, none⟩ = some (.slice A s.length c) := (rs3.blk.cell 0).trans rfl
              have lg := rs3.blk.lt
              have HR := Lib.hid (HE.out 16 _ HUR.out (by decide) hbw)
              go_wp2_with fail
              exact HR.out
end Go.Proofs.YtipjejnncnndeaaGreatDoor.RF
