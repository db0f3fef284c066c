/-
  Views, fifteenth part: 'copy' into a block that is known whole; 'append(s[:i], make(S, k)...)' that grows.
-/
import Derived.Test.YtinebbleilnejaaView2
import Derived.Test.YtinebbleilnejaaView9
import Derived.Laws.CopyRow
import Derived.Laws.Externs
import Derived.Lib.Overlaps
import Derived.Lib.AppendZerosOnto
namespace Go.V
set_option linter.unusedVariables false
open Go.RowKit

/-- cs put over the cells from off on. -/
def spl (cur : Array Value) (off : Nat) (cs : List Value) : Array Value := (cur.toList.take off ++ cs ++ cur.toList.drop (off + cs.length)).toArray
section
variable {P : Program} (w : World)
theorem run_copy_into (dT sT ty elem : TypeId) (i : TypeInfo) (size : Nat) (hu : P.underlying dT = some (.slice elem)) (hi : P.info? elem = some i) (hsz : i.size = size)
    (g o dLen dCap : Nat) (ad : Addr) (sLen sCap : Nat) (cur : Array Value) (t : TypeId) (cs : List Value) (hg : Blk w g t cur) (hn : cs.length = Nat.min sLen dLen * size)
    (hsrc : ∀ j v, cs[j]? = some v → w.cell? (ad.add j) = some v) (hfit : o + cs.length ≤ cur.size) (h1 : ∀ v ∈ cs, v.oneCell' = true) :
    ∃ w', (Builtin.copy_ #[dT, sT] ty #[.slice (some ⟨g, o, none⟩) dLen dCap, .slice (some ad) sLen sCap]).run P w = .ok (goInt (Nat.min sLen dLen)) w' ∧
      Blk w' g t (spl cur o cs) ∧ w.grownBy w' (some g) ∧ w'.heap.size = w.heap.size := by
  have hl := run_loadCells_list (P := P) w ad cs hsrc
  have hst := run_storeCells_at P g o t cs 0 cur w hg (by simpa using hfit) h1
  simp only [Nat.add_zero] at hst
  refine ⟨w.setRow g (cur.toList.take o ++ cs ++ cur.toList.drop (o + cs.length)).toArray, ?_, setRow_heap w g cur _ t (0, 0) hg, ⟨rfl, rfl, rfl, by simp, fun k _ hk => setRow_other w g k _ (fun e => hk (by rw [e]))⟩, by simp⟩
  subst hsz
  simp [Builtin.copy_, run_underlying hu, Builtin.lenOf, Builtin.firstCells, sizeOf, typeInfo, hi, ← hn, hl, hst]
theorem wpList_copy_into {ops : Array Oper} {rest : List Oper} {o : Oper} {a : Act} {Q : Exit → Act → World → Prop} (hgd : o.guard = none) (d s : Operand) (dT sT : TypeId)
    (ho : o.op = .call { callee := .builtin .copy, args := #[d, s], argTypes := #[dT, sT] })
    (elem : TypeId) (i : TypeInfo) (size : Nat) (hu : P.underlying dT = some (.slice elem)) (hi : P.info? elem = some i) (hsz : i.size = size)
    (g off dLen dCap : Nat) (hd : a.eval d = .slice (some ⟨g, off, none⟩) dLen dCap) (ad : Addr) (sLen sCap : Nat) (hs : a.eval s = .slice (some ad) sLen sCap) (cur : Array Value) (t : TypeId) (cs : List Value) (hg : Blk w g t cur) (hn : cs.length = Nat.min sLen dLen * size)
    (hsrc : ∀ j v, cs[j]? = some v → w.cell? (ad.add j) = some v) (hfit : off + cs.length ≤ cur.size) (h1 : ∀ v ∈ cs, v.oneCell' = true)
    (h : ∀ w', Blk w' g t (spl cur off cs) → w.grownBy w' (some g) → w'.heap.size = w.heap.size → wpList P ops Q rest (a.put o.dst (goInt (Nat.min sLen dLen))) w') : wpList P ops Q (o :: rest) a w := by
  refine wpList_plain hgd fun K hK => ?_
  obtain ⟨w', hr, h2, h3, h4⟩ := run_copy_into (P := P) w dT sT o.type elem i size hu hi hsz g off dLen dCap ad sLen sCap cur t cs hg hn hsrc hfit h1
  unfold Oper.wp execOp
  simp only [ho, resolve, invoke, builtin, Sem.run_bind, Sem.run_pure, Result.andThen_ok, List.map_toArray, List.map_cons, List.map_nil, hd, hs, hr]
  exact hK _ _ (h w' h2 h3 h4)
theorem step_copy_into {ops : Array Oper} {o : Oper} {a : Act} {K : Act → World → Prop} {Q : Exit → Act → World → Prop} {E : Prop} (hgd : o.guard = none) (d s : Operand) (dT sT : TypeId)
    (ho : o.op = .call { callee := .builtin .copy, args := #[d, s], argTypes := #[dT, sT] })
    (elem : TypeId) (i : TypeInfo) (size : Nat) (hu : P.underlying dT = some (.slice elem)) (hi : P.info? elem = some i) (hsz : i.size = size)
    (g off dLen dCap : Nat) (hd : a.eval d = .slice (some ⟨g, off, none⟩) dLen dCap) (ad : Addr) (sLen sCap : Nat) (hs : a.eval s = .slice (some ad) sLen sCap) (cur : Array Value) (t : TypeId) (cs : List Value) (hg : Blk w g t cur) (hn : cs.length = Nat.min sLen dLen * size)
    (hsrc : ∀ j v, cs[j]? = some v → w.cell? (ad.add j) = some v) (hfit : off + cs.length ≤ cur.size) (h1 : ∀ v ∈ cs, v.oneCell' = true)
    (h : ∀ w', Blk w' g t (spl cur off cs) → w.grownBy w' (some g) → w'.heap.size = w.heap.size → K (a.put o.dst (goInt (Nat.min sLen dLen))) w') :
    if Region.wanted o (yielded ops a.tmps) = true then Oper.wp P o a w K Q else E := by
  have hw : Region.wanted o (yielded ops a.tmps) = true := by simp [Region.wanted, hgd]
  rw [if_pos hw]
  obtain ⟨w', hr, h2, h3, h4⟩ := run_copy_into (P := P) w dT sT o.type elem i size hu hi hsz g off dLen dCap ad sLen sCap cur t cs hg hn hsrc hfit h1
  unfold Oper.wp
  simp [execOp, ho, resolve, invoke, builtin, hd, hs, hr, Result.andThen]
  exact h w' h2 h3 h4
/-- 'append(s[:i], make(S, k)...)' that grows: a new block. -/
theorem wpList_app_zeros {ops : Array Oper} {rest : List Oper} {o : Oper} {a : Act} {Q : Exit → Act → World → Prop} (hgd : o.guard = none) (s x : Operand) (t tn : TypeId)
    (ho : o.op = .call { callee := .builtin .append, args := #[s, x], argTypes := #[t, tn] })
    (e : TypeId) (i : TypeInfo) (z : Value) (kn : IntKind) (size bytes : Nat) (ht : P.underlying t = some (.slice e)) (htn : P.underlying tn = some (.int kn)) (hi : P.info? e = some i) (hz : i.zero = some z) (hsize : i.size = size) (hby : i.bytes = bytes) (hzs : z.cells.size = size) (hsz : 0 < size)
    (ad : Addr) (n c : Nat) (olds : List Value) (hs : a.eval s = .slice (some ad) n c) (hl : olds.length = n * size) (hsrc : ∀ j v, olds[j]? = some v → w.cell? (ad.add j) = some v)
    (kq : IntKind) (k : Nat) (hx : a.eval x = .int kq k) (h0 : 0 < k) (hroom : c < n + k) (hnc : n ≤ c) (h63 : n + k ≤ 9223372036854775807) (hb : (n + k) * bytes ≤ 140737488355328)
    (h : ∀ q cur w', n + k ≤ q → q ≤ 9223372036854775807 → cur.size = q * size → cur.toList.take (n * size) = olds → Blk w' w.heap.size e cur → w.grownBy w' none → w'.heap.size = w.heap.size + 1 → wpList P ops Q rest (a.put o.dst (.slice (some ⟨w.heap.size, 0, none⟩) (n + k) q)) w') : wpList P ops Q (o :: rest) a w := by
  refine wpList_plain hgd fun K hK => ?_
  subst hsize
  subst hby
  have hold : (Builtin.firstCells i.size n (.slice (some ad) n c)).run P w.drew = .ok olds.toArray w.drew := run_firstCells_some w.drew i.size n ad n c olds hl (fun j v hj => hsrc j v hj)
  have hkb : k * i.bytes ≤ (n + k) * i.bytes := Nat.mul_le_mul_right _ (by omega)
  have hr := Lib.run_append_grow_zeros (P := P) w t tn o.type e i z kq kn ht htn hi hz (some ad) n c olds hold k h0 hsz hroom (by omega) (by omega) (growslice_fits hroom hb)
  have hge := grownCap_ge w (n + k) c e
  have hle := grownCap_le_maxLen w (n + k) c e (by unfold maxLen; omega)
  generalize grownCap w (n + k) c e = q at *
  unfold Oper.wp
  simp [execOp, ho, resolve, invoke, builtin, hs, hx, hr, Result.andThen]
  refine hK _ _ (h q _ _ hge (by unfold maxLen at hle; omega) ?_ ?_ (Blk.new w.drew e _) ?_ (by simp))
  · simp only [Array.size_append, List.size_toArray, size_zeroCells, hzs, hl]
    rw [← Nat.add_mul, ← Nat.add_mul]
    congr 1
    omega
  · simp only [Array.toList_append]
    rw [List.take_append_of_le_length (by omega), ← hl, List.take_length]
  · exact ⟨rfl, rfl, rfl, by simp, fun b hb _ => (Below.heap_alloc w.drew _ b hb)⟩
end
/-- Two copies put news in at p. -/
theorem ins_list {cur xs news : List Value} {p : Nat} (hx : cur.take xs.length = xs) (hp : p ≤ xs.length) (hl : xs.length + news.length ≤ cur.length) :
    (((cur.take (p + news.length) ++ xs.drop p ++ cur.drop (p + news.length + (xs.drop p).length)).take p ++ news ++ (cur.take (p + news.length) ++ xs.drop p ++ cur.drop (p + news.length + (xs.drop p).length)).drop (p + news.length)).take (xs.length + news.length)) = xs.take p ++ news ++ xs.drop p := by
  have h1 : (cur.take (p + news.length) ++ xs.drop p ++ cur.drop (p + news.length + (xs.drop p).length)).take p = xs.take p := by
    rw [List.append_assoc, List.take_append_of_le_length (by simp; omega), List.take_take, Nat.min_eq_left (by omega)]
    rw [← hx, List.take_take, Nat.min_eq_left (by omega)]
  have h2 : (cur.take (p + news.length) ++ xs.drop p ++ cur.drop (p + news.length + (xs.drop p).length)).drop (p + news.length) = xs.drop p ++ cur.drop (p + news.length + (xs.drop p).length) := by
    rw [List.append_assoc]
    have hlen : (cur.take (p + news.length)).length = p + news.length := by simp; omega
    exact List.drop_left' hlen
  rw [h1, h2, ← List.append_assoc, List.take_append_of_le_length (by simp; omega), List.take_of_length_le (by simp; omega)]
/-- The other order: first the news, then what follows. -/
theorem ins_list2 {cur xs news : List Value} {p : Nat} (hx : cur.take p = xs.take p) (hp : p ≤ xs.length) (hl : xs.length + news.length ≤ cur.length) :
    (((cur.take p ++ news ++ cur.drop (p + news.length)).take (p + news.length) ++ xs.drop p ++ (cur.take p ++ news ++ cur.drop (p + news.length)).drop (p + news.length + (xs.drop p).length)).take (xs.length + news.length)) = xs.take p ++ news ++ xs.drop p := by
  have h1 : (cur.take p ++ news ++ cur.drop (p + news.length)).take (p + news.length) = xs.take p ++ news := by
    rw [hx]
    have hlen : (xs.take p ++ news).length = p + news.length := by simp; omega
    exact List.take_left' hlen
  rw [h1, List.take_append_of_le_length (by simp; omega), List.take_of_length_le (by simp; omega)]
/-- An owned row out of a block that is known whole. -/
theorem own_of_blk {w : World} {base g : Nat} {e : TypeId} {cur : Array Value} {size n cap : Nat} {xs : List Value} (hb : Blk w g e cur) (hg : base ≤ g) (hn : n ≤ cap) (hm : cap ≤ maxLen) (hs : cur.size = cap * size) (hx : cur.toList.take (n * size) = xs) :
    w.ownsRow base e size (.slice (some ⟨g, 0, none⟩) n cap) n xs := by
  refine ⟨?_, .inr ⟨g, cap, cur, rfl, hg, hb, hn, hm, hs, hx⟩⟩
  rw [← hx, List.length_take, Nat.min_eq_left]
  simp only [Array.length_toList, hs]
  exact Nat.mul_le_mul_right _ hn
/-- The block of an owned row. -/
theorem own_blk {w : World} {base : Nat} {e : TypeId} {size n m cap : Nat} {A : Option Addr} {xs : List Value} (h : w.ownsRow base e size (.slice A m cap) n xs) (h0 : 0 < n) :
    ∃ g cur, A = some ⟨g, 0, none⟩ ∧ m = n ∧ base ≤ g ∧ Blk w g e cur ∧ n ≤ cap ∧ cap ≤ maxLen ∧ cur.size = cap * size ∧ cur.toList.take (n * size) = xs := by
  obtain ⟨_, ⟨_, h1⟩ | ⟨g, cap', cur, e1, h1, h2, h3, h4, h5, h6⟩⟩ := h
  · omega
  · injection e1 with e1 e2 e3
    subst e1 e2 e3
    exact ⟨g, cur, rfl, rfl, h1, h2, h3, h4, h5, h6⟩
end Go.V
