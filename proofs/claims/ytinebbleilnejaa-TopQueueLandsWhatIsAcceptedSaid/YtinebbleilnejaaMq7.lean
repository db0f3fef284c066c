/-
  The merge queue: walks of slices.Insert (at the end) and slices.Delete of one entry.
-/
import Derived.Test.YtinebbleilnejaaMq6
import Derived.Test.YtinebbleilnejaaView15
import Derived.Test.YtinebbleilnejaaView7
import Derived.RegionTactic
namespace Go.V
open Go.RowKit

section
variable {P : Program} (w : World)
theorem run_append_into (t ty e : TypeId) (i : TypeInfo) (size : Nat) (ht : P.underlying t = some (.slice e)) (hi : P.info? e = some i) (hsize : i.size = size)
    (g n1 c1 : Nat) (ad : Addr) (m c2 : Nat) (cur : Array Value) (tt : TypeId) (cs : List Value) (hg : Blk w g tt cur) (hn : cs.length = m * size)
    (hsrc : ∀ j v, cs[j]? = some v → w.cell? (ad.add j) = some v) (hfit : n1 * size + cs.length ≤ cur.size) (hroom : n1 + m ≤ c1) (h1 : ∀ v ∈ cs, v.oneCell' = true) :
    ∃ w', (Builtin.append_ #[t, t] ty #[.slice (some ⟨g, 0, none⟩) n1 c1, .slice (some ad) m c2]).run P w = .ok (.slice (some ⟨g, 0, none⟩) (n1 + m) c1) w' ∧
      Blk w' g tt (spl cur (n1 * size) cs) ∧ w.grownBy w' (some g) ∧ w'.heap.size = w.heap.size := by
  have hl : (Builtin.firstCells size m (.slice (some ad) m c2)).run P w = .ok cs.toArray w := run_firstCells_some w size m ad m c2 cs hn hsrc
  have hst := run_storeCells_at P g (n1 * size) tt cs 0 cur w hg (by simpa using hfit) h1
  simp only [Nat.add_zero] at hst
  have had : (⟨g, 0, none⟩ : Addr).add (n1 * size) = ⟨g, n1 * size, none⟩ := by rw [add_none, Nat.zero_add]
  refine ⟨w.setRow g (cur.toList.take (n1 * size) ++ cs ++ cur.toList.drop (n1 * size + cs.length)).toArray, ?_, setRow_heap w g cur _ tt (0, 0) hg, ⟨rfl, rfl, rfl, by simp, fun k _ hk => setRow_other w g k _ (fun e => hk (by rw [e]))⟩, by simp⟩
  subst hsize
  simp [Builtin.append_, run_underlying ht, sizeOf, typeInfo, hi, Builtin.lenOf, hl, hst, hroom, had]
theorem step_append_into {ops : Array Oper} {o : Oper} {a : Act} {K : Act → World → Prop} {Q : Exit → Act → World → Prop} {E : Prop} (hgd : o.guard = none) (d s : Operand) (t : TypeId)
    (ho : o.op = .call { callee := .builtin .append, args := #[d, s], argTypes := #[t, t] })
    (e : TypeId) (i : TypeInfo) (size : Nat) (ht : P.underlying t = some (.slice e)) (hi : P.info? e = some i) (hsize : i.size = size)
    (g n1 c1 : Nat) (hd : a.eval d = .slice (some ⟨g, 0, none⟩) n1 c1) (ad : Addr) (m c2 : Nat) (hs : a.eval s = .slice (some ad) m c2) (cur : Array Value) (tt : TypeId) (cs : List Value) (hg : Blk w g tt cur) (hn : cs.length = m * size)
    (hsrc : ∀ j v, cs[j]? = some v → w.cell? (ad.add j) = some v) (hfit : n1 * size + cs.length ≤ cur.size) (hroom : n1 + m ≤ c1) (h1 : ∀ v ∈ cs, v.oneCell' = true)
    (h : ∀ w', Blk w' g tt (spl cur (n1 * size) cs) → w.grownBy w' (some g) → w'.heap.size = w.heap.size → K (a.put o.dst (.slice (some ⟨g, 0, none⟩) (n1 + m) c1)) w') :
    if Region.wanted o (yielded ops a.tmps) = true then Oper.wp P o a w K Q else E := by
  have hw : Region.wanted o (yielded ops a.tmps) = true := by simp [Region.wanted, hgd]
  rw [if_pos hw]
  obtain ⟨w', hr, h2, h3, h4⟩ := run_append_into (P := P) w t o.type e i size ht hi hsize g n1 c1 ad m c2 cur tt cs hg hn hsrc hfit hroom h1
  unfold Oper.wp
  simp [execOp, ho, resolve, invoke, builtin, hd, hs, hr, Result.andThen]
  exact h w' h2 h3 h4
/-- 'clear' of a slice of one element. -/
theorem run_clear_one (t e ty : TypeId) (z : Value) (ht : P.underlying t = some (.slice e)) (hz : (zeroValue e).run P w = .ok z w)
    (g o c : Nat) (cur : Array Value) (tt : TypeId) (cs : List Value) (hcs : (Builtin.zeroCells z.cells 1).toList = cs) (hg : Blk w g tt cur) (hfit : o + cs.length ≤ cur.size) (h1 : ∀ v ∈ cs, v.oneCell' = true) :
    ∃ w', (Builtin.clear_ #[t] ty #[.slice (some ⟨g, o, none⟩) 1 c]).run P w = .ok (.tuple #[]) w' ∧ Blk w' g tt (spl cur o cs) ∧ w.grownBy w' (some g) ∧ w'.heap.size = w.heap.size := by
  have hst := run_storeCells_at P g o tt cs 0 cur w hg (by simpa using hfit) h1
  simp only [Nat.add_zero] at hst
  refine ⟨w.setRow g (cur.toList.take o ++ cs ++ cur.toList.drop (o + cs.length)).toArray, ?_, setRow_heap w g cur _ tt (0, 0) hg, ⟨rfl, rfl, rfl, by simp, fun k _ hk => setRow_other w g k _ (fun e => hk (by rw [e]))⟩, by simp⟩
  simp [Builtin.clear_, run_underlying ht, hz, hcs, hst]
theorem wpList_clear_one {ops : Array Oper} {rest : List Oper} {o : Oper} {a : Act} {Q : Exit → Act → World → Prop} (hgd : o.guard = none) (s : Operand) (t : TypeId)
    (ho : o.op = .call { callee := .builtin .clear, args := #[s], argTypes := #[t] })
    (e : TypeId) (z : Value) (ht : P.underlying t = some (.slice e)) (hz : (zeroValue e).run P w = .ok z w)
    (g off c : Nat) (hs : a.eval s = .slice (some ⟨g, off, none⟩) 1 c) (cur : Array Value) (tt : TypeId) (cs : List Value) (hcs : (Builtin.zeroCells z.cells 1).toList = cs) (hg : Blk w g tt cur) (hfit : off + cs.length ≤ cur.size) (h1 : ∀ v ∈ cs, v.oneCell' = true)
    (h : ∀ w', Blk w' g tt (spl cur off cs) → w.grownBy w' (some g) → w'.heap.size = w.heap.size → wpList P ops Q rest (a.put o.dst (.tuple #[])) w') : wpList P ops Q (o :: rest) a w := by
  refine wpList_plain hgd fun K hK => ?_
  obtain ⟨w', hr, h2, h3, h4⟩ := run_clear_one (P := P) w t e o.type z ht hz g off c cur tt cs hcs hg hfit h1
  unfold Oper.wp execOp
  simp only [ho, resolve, invoke, builtin, Sem.run_bind, Sem.run_pure, Result.andThen_ok, List.map_toArray, List.map_cons, List.map_nil, hs, hr]
  exact hK _ _ (h w' h2 h3 h4)
end
end Go.V
namespace Go.Proofs.Ytinebbleilnejaa
open Go.RowKit Go.V Go.Lib
set_option linter.unusedVariables false
theorem zc_one : ∀ v ∈ ([.int .i64 0, .int .i64 0, .bool false, .bool false, .bool false, .slice none 0 0] : List Value), v.oneCell' = true := by
  intro v hv
  rcases List.mem_cons.1 hv with rfl | hv
  · rfl
  rcases List.mem_cons.1 hv with rfl | hv
  · rfl
  rcases List.mem_cons.1 hv with rfl | hv
  · rfl
  rcases List.mem_cons.1 hv with rfl | hv
  · rfl
  rcases List.mem_cons.1 hv with rfl | hv
  · rfl
  rcases List.mem_cons.1 hv with rfl | hv
  · rfl
  exact absurd hv (List.not_mem_nil)
theorem info38 : (Try.prog.info? 38).map (fun i => (i.zero, i.size, i.bytes)) = some (some (.agg #[.int .i64 0, .int .i64 0, .bool false, .bool false, .bool false, .slice none 0 0]), 6, 48) := by kernel_rfl
def InPost (w : World) (base : Nat) (A : Option Addr) (n c : Nat) (xs news : List Value) (i : Nat) (e : Ending) (w' : World) : Prop := ∃ gd c', e = .returned (.slice (some ⟨gd, 0, none⟩) (n + 1) c') ∧
  w'.ownsRow base 38 6 (.slice (some ⟨gd, 0, none⟩) (n + 1) c') (n + 1) (xs.take (i * 6) ++ news ++ xs.drop (i * 6)) ∧ w.grownBy w' (Value.slice A n c).ownBlock ∧
  ((Value.slice (some ⟨gd, 0, none⟩) (n + 1) c').ownBlock = (Value.slice A n c).ownBlock ∨ (Value.slice (some ⟨gd, 0, none⟩) (n + 1) c').ownBlock = some w.heap.size)
set_option maxRecDepth 100000 in
set_option maxHeartbeats 8000000 in
theorem insert_end (w : World) (base : Nat) (A : Option Addr) (n c : Nat) (xs news : List Value) (vb : Nat) (hown : w.ownsRow base 38 6 (.slice A n c) n xs) (hl : n ≤ 1000000) (hbase : base ≤ w.heap.size)
    (hnl : news.length = 6) (hvb : ∀ j u, news[j]? = some u → w.cell? ⟨vb, j, none⟩ = some u) (h1 : ∀ u ∈ news, u.oneCell' = true) :
    Calls Try.prog 41 #[.slice A n c, .int .i64 n, .slice (some ⟨vb, 0, none⟩) 1 1] w (InPost w base A n c xs news n) := by
  obtain ⟨i0, hi0, hz0, hz1, hz2⟩ := info_parts info38
  obtain ⟨A0, c0, e0, hc0, _⟩ := own_form hown
  injection e0 with e1 e2 e3
  subst e1 e3
  have hxl : xs.length = n * 6 := hown.1
  have HF : Hid (∀ gd c' w', w'.ownsRow base 38 6 (.slice (some ⟨gd, 0, none⟩) (n + 1) c') (n + 1) (xs ++ news) → w.grownBy w' (Value.slice A n c).ownBlock →
      ((Value.slice (some ⟨gd, 0, none⟩) (n + 1) c').ownBlock = (Value.slice A n c).ownBlock ∨ (Value.slice (some ⟨gd, 0, none⟩) (n + 1) c').ownBlock = some w.heap.size) → InPost w base A n c xs news n (.returned (.slice (some ⟨gd, 0, none⟩) (n + 1) c')) w') :=
    Lib.hid fun gd c' w' g1 g2 g3 => ⟨gd, c', rfl, by rw [List.take_of_length_le (by omega), List.drop_of_length_le (by omega), List.append_nil]; exact g1, g2, g3⟩
  have hsv : SV w (vb + 1) (some ⟨vb, 0, none⟩) news := .inr ⟨vb, 0, rfl, by omega, fun j u hu => by rw [Nat.zero_add]; exact hvb j u hu⟩
  generalize InPost w base A n c xs news n = R at *
  have h63 : n + 1 ≤ maxLen := by unfold maxLen; omega
  have hby : (n + 1) * 48 ≤ 140737488355328 := by omega
  clear hvb hxl
  have hfin : ∀ (A' : Option Addr) (c' : Nat) (w' : World), w'.ownsRow base 38 6 (.slice A' (n + 1) c') (n + 1) (xs ++ news) → ∃ gd, A' = some ⟨gd, 0, none⟩ := fun A' c' w' h => by
    obtain ⟨g, cur, e, _⟩ := own_blk h (by omega)
    exact ⟨g, e⟩
  have HFI := Lib.hid hfin
  clear hfin
  rcases A with _ | ⟨ab, ao, asp⟩
  · have hn0 : n = 0 ∧ c = 0 := by
      obtain ⟨_, ⟨h2, h3⟩ | ⟨g, cap, cur, h2, _⟩⟩ := hown
      · injection h2 with _ h4 h5; exact ⟨h4, h5⟩
      · cases h2
    obtain ⟨rfl, rfl⟩ := hn0
    go_enter Try.func41, Try.ntmps41
    go_wp2_with (first | (at_builtin; refine wpList_appNo _ rfl (.tmp 23) (.tmp 24) 32 rfl base 38 i0 _ 6 48 Try.underlying32 hi0 hz0 hz1 hz2 rfl (by decide) none 0 0 xs rfl hown (vb + 1) (some ⟨vb, 0, none⟩) 1 1 news rfl (by omega) hsv h1 h63 hby hbase ?_))
    intro A' c' w' hown' hg' _ hob'
    obtain ⟨gd, rfl⟩ := HFI.out _ _ _ hown'
    have HR := Lib.hid (HF.out _ _ _ hown' hg' hob')
    clear hown' hg' hob'
    go_wp2_with fail
    exact HR.out
  · by_cases hcn : c = n
    all_goals
      first | subst hcn | (have hcn' : n < c := by omega)
      go_enter Try.func41, Try.ntmps41
      go_wp2_with (first | (at_builtin; refine wpList_appNo _ rfl (.tmp 23) (.tmp 24) 32 rfl base 38 i0 _ 6 48 Try.underlying32 hi0 hz0 hz1 hz2 rfl (by decide) (some ⟨ab, ao, asp⟩) _ _ xs rfl hown (vb + 1) (some ⟨vb, 0, none⟩) 1 1 news rfl (by omega) hsv h1 h63 hby hbase ?_))
      intro A' c' w' hown' hg' _ hob'
      obtain ⟨gd, rfl⟩ := HFI.out _ _ _ hown'
      have HR := Lib.hid (HF.out _ _ _ hown' hg' hob')
      clear hown' hg' hob'
      go_wp2_with fail
      exact HR.out

def DePost (w : World) (base g m c : Nat) (xs : List Value) (i : Nat) (e : Ending) (w' : World) : Prop := e = .returned (.slice (some ⟨g, 0, none⟩) m c) ∧
  w'.ownsRow base 38 6 (.slice (some ⟨g, 0, none⟩) m c) m (xs.take (i * 6) ++ xs.drop ((i + 1) * 6)) ∧ w.grownBy w' (some g)
theorem zero38 (w : World) : (zeroValue 38).run Try.prog w = .ok (.agg #[.int .i64 0, .int .i64 0, .bool false, .bool false, .bool false, .slice none 0 0]) w := by kernel_rfl
set_option maxRecDepth 100000 in
set_option maxHeartbeats 8000000 in
theorem delete_any (w : World) (base g m c i : Nat) (xs : List Value) (cur : Array Value) (hb : Blk w g 38 cur) (hg : base ≤ g) (hroom : m + 1 ≤ c) (hm : c ≤ maxLen) (hcs : cur.size = c * 6) (hx : cur.toList.take ((m + 1) * 6) = xs) (hi : i ≤ m) (hl : m ≤ 1000000) (hx1 : ∀ u ∈ xs, u.oneCell' = true) :
    Calls Try.prog 42 #[.slice (some ⟨g, 0, none⟩) (m + 1) c, .int .i64 i, .int .i64 ((i : Int) + 1)] w (DePost w base g m c xs i) := by
  obtain ⟨i0, hi0, hz0, hz1, hz2⟩ := info_parts info38
  have hxl : xs.length = (m + 1) * 6 := by rw [← hx, List.length_take]; simp; omega
  have hcl : cur.toList.length = c * 6 := by simpa using hcs
  have hdl : (xs.drop ((i + 1) * 6)).length = (m + 1 - (i + 1)) * 6 := by rw [List.length_drop, hxl]; omega
  have hd1 : ∀ u ∈ xs.drop ((i + 1) * 6), u.oneCell' = true := fun u hu => hx1 u (List.mem_of_mem_drop hu)
  have hsrc : ∀ (w' : World), Blk w' g 38 cur → ∀ j v, (xs.drop ((i + 1) * 6))[j]? = some v → w'.cell? ((⟨g, (i + 1) * 6, none⟩ : Addr).add j) = some v := fun w' hb' j v hj => by
    rw [add_none, hb'.cell, ← Array.getElem?_toList]
    rw [List.getElem?_drop, ← hx, List.getElem?_take] at hj
    split at hj
    · exact hj
    · cases hj
  have hfit : i * 6 + (xs.drop ((i + 1) * 6)).length ≤ cur.size := by rw [hdl, hcs]; omega
  have hzc : (Builtin.zeroCells (Value.agg #[.int .i64 0, .int .i64 0, .bool false, .bool false, .bool false, .slice none 0 0]).cells 1).toList = [.int .i64 0, .int .i64 0, .bool false, .bool false, .bool false, .slice none 0 0] := by kernel_rfl
  have hiq : i + (m + 1 - (i + 1)) = m := by omega
  have HF : Hid (∀ (c2 : Array Value) (w' : World), c2.toList = (cur.toList.take (i * 6) ++ xs.drop ((i + 1) * 6) ++ cur.toList.drop (i * 6 + (xs.drop ((i + 1) * 6)).length)).take (m * 6) ++ [.int .i64 0, .int .i64 0, .bool false, .bool false, .bool false, .slice none 0 0] ++ (cur.toList.take (i * 6) ++ xs.drop ((i + 1) * 6) ++ cur.toList.drop (i * 6 + (xs.drop ((i + 1) * 6)).length)).drop (m * 6 + 6) →
      Blk w' g 38 c2 → w.grownBy w' (some g) → DePost w base g m c xs i (.returned (.slice (some ⟨g, 0, none⟩) m c)) w') := Lib.hid fun c2 w' e2 hb2 hg2 => by
    have h1 : (cur.toList.take (i * 6) ++ xs.drop ((i + 1) * 6)).length = m * 6 := by rw [List.length_append, hdl, List.length_take, hcl]; omega
    have h2 : (cur.toList.take (i * 6) ++ xs.drop ((i + 1) * 6) ++ cur.toList.drop (i * 6 + (xs.drop ((i + 1) * 6)).length)).take (m * 6) = cur.toList.take (i * 6) ++ xs.drop ((i + 1) * 6) := List.take_left' h1
    have h3 : cur.toList.take (i * 6) = xs.take (i * 6) := by rw [← hx, List.take_take, Nat.min_eq_left (by omega)]
    refine ⟨rfl, own_of_blk hb2 hg (by omega) hm ?_ ?_, hg2⟩
    · have := congrArg List.length e2
      simp only [Array.length_toList, List.length_append, List.length_take, List.length_drop, hcl, hxl, List.length_cons, List.length_nil] at this
      rw [this]; omega
    · rw [e2, h2, List.append_assoc, List.take_left' h1, h3]
  unfold maxLen at hm
  have hw1 : IntKind.i64.wrap ((i : Int) + 1) = (i : Int) + 1 := by rw [IntKind.wrap_i64]; omega
  have hb1 : (0 : Int) ≤ (i : Int) + 1 := by omega
  have htn : ((i : Int) + 1).toNat = i + 1 := by omega
  have hbi : (i : Int) ≤ (m : Int) + 1 := by omega
  have hbj : (i : Int) + 1 ≤ (m : Int) + 1 := by omega
  have hne : ((i : Int) == (i : Int) + 1) = false := by simp; omega
  have hle : (i : Int) ≤ (i : Int) + 1 := by omega
  have hic : (i : Int) ≤ c := by omega
  have hmc : (m : Int) + 1 ≤ c := by omega
  have hcm : ¬ (c = m) := by omega
  have HD := Lib.hid hdl
  have HX := Lib.hid hxl
  have HC := Lib.hid hcl
  have HIQ := Lib.hid hiq
  clear hdl hxl hcl hx hx1 hiq
  generalize DePost w base g m c xs i = R at *
  have hci0 : ¬ (c = i) := by omega
  by_cases hci : c = i + 1
  · have hnil : xs.drop ((i + 1) * 6) = [] := List.drop_of_length_le (by rw [HX.out]; omega)
    have hs0 : ∀ (w' : World) j v, (xs.drop ((i + 1) * 6))[j]? = some v → w'.cell? ((⟨g, 0, none⟩ : Addr).add j) = some v := fun w' j v hj => by rw [hnil] at hj; simp at hj
    clear hnil
    subst hci
    obtain rfl : m = i := by omega
    go_enter Try.func42, Try.ntmps42
    go_wp2_with fail
    go_region_law
      (refine step_append_into _ rfl (.tmp 22) (.tmp 25) 32 rfl 38 i0 6 Try.underlying32 hi0 hz1 g m (m + 1) (by simp [Act.eval, Act.put]) ⟨g, 0, none⟩ (m + 1 - (m + 1)) 0 (by simp [Act.eval, Act.put]) cur 38 (xs.drop ((m + 1) * 6)) hb.drew HD.out (hs0 _) hfit (by omega) hd1 ?_; intro w2 hb2 hg2 hz2; rw [HIQ.out])
    all_goals
      have hsz2 : m * 6 + 6 ≤ (spl cur (m * 6) (xs.drop ((m + 1) * 6))).size := by
        simp only [spl, List.size_toArray, List.length_append, List.length_take, List.length_drop, HC.out, HX.out]; omega
      have HB2 : Hid (∀ w', Blk w' g 38 (spl (spl cur (m * 6) (xs.drop ((m + 1) * 6))) (m * 6) [.int .i64 0, .int .i64 0, .bool false, .bool false, .bool false, .slice none 0 0]) → w2.grownBy w' (some g) → R (.returned (.slice (some ⟨g, 0, none⟩) m (m + 1))) w') := Lib.hid fun w' h2 h3 => by
        refine HF.out _ w' ?_ h2 ⟨h3.os.trans hg2.os, h3.tape.trans hg2.tape, h3.output.trans hg2.output, Nat.le_trans hg2.size h3.size, fun b hb hk => (h3.block b (Nat.lt_of_lt_of_le hb hg2.size) hk).trans (hg2.block b hb hk)⟩
        simp only [spl]
        rfl
      generalize hcu : spl cur (m * 6) (xs.drop ((m + 1) * 6)) = cur2 at *
      clear hcu hd1 hfit hsrc hg2 HF hb
      obtain ⟨w3, hr3, hb3, hg3, hz3⟩ := run_clear_one (P := Try.prog) w2 32 38 0 _ Try.underlying32 (zero38 _) g (m * 6) 1 cur2 38 _ hzc hb2 hsz2 zc_one
      have HR := Lib.hid (HB2.out w3 hb3 hg3)
      clear hb3 hg3 hz3
      go_wp2_with fail
      exact HR.out
  · have hs1 := hsrc w.drew hb.drew
    go_enter Try.func42, Try.ntmps42
    go_wp2_with fail
    go_region_law
      (refine step_append_into _ rfl (.tmp 22) (.tmp 25) 32 rfl 38 i0 6 Try.underlying32 hi0 hz1 g i c (by simp [Act.eval, Act.put]) ⟨g, (i + 1) * 6, none⟩ (m + 1 - (i + 1)) (c - (i + 1)) (by simp [Act.eval, Act.put]) cur 38 (xs.drop ((i + 1) * 6)) hb.drew HD.out hs1 hfit (by omega) hd1 ?_; intro w2 hb2 hg2 hz2; rw [HIQ.out])
    all_goals
      have hsz2 : m * 6 + 6 ≤ (spl cur (i * 6) (xs.drop ((i + 1) * 6))).size := by
        simp only [spl, List.size_toArray, List.length_append, List.length_take, List.length_drop, HC.out, HX.out]; omega
      have HB2 : Hid (∀ w', Blk w' g 38 (spl (spl cur (i * 6) (xs.drop ((i + 1) * 6))) (m * 6) [.int .i64 0, .int .i64 0, .bool false, .bool false, .bool false, .slice none 0 0]) → w2.grownBy w' (some g) → R (.returned (.slice (some ⟨g, 0, none⟩) m c)) w') := Lib.hid fun w' h2 h3 => by
        refine HF.out _ w' ?_ h2 ⟨h3.os.trans hg2.os, h3.tape.trans hg2.tape, h3.output.trans hg2.output, Nat.le_trans hg2.size h3.size, fun b hb hk => (h3.block b (Nat.lt_of_lt_of_le hb hg2.size) hk).trans (hg2.block b hb hk)⟩
        simp only [spl]
        rfl
      generalize hcu : spl cur (i * 6) (xs.drop ((i + 1) * 6)) = cur2 at *
      clear hcu hd1 hfit hsrc hg2 HF hb
      obtain ⟨w3, hr3, hb3, hg3, hz3⟩ := run_clear_one (P := Try.prog) w2 32 38 0 _ Try.underlying32 (zero38 _) g (m * 6) (c - m) cur2 38 _ hzc hb2 hsz2 zc_one
      have HR := Lib.hid (HB2.out w3 hb3 hg3)
      clear hb3 hg3 hz3
      go_wp2_with fail
      exact HR.out
end Go.Proofs.Ytinebbleilnejaa
