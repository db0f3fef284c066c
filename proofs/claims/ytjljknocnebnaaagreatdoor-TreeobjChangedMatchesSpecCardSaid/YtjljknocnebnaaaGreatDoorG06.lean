/-
  Objects: walk of the reference's 'PutObject'.
  Views, sixteenth part: an append of a slice at a step of a region that draws its order.
  File trees: what their values and slices read as.
  DERIVED: THE SHELF's CONTRACTS AT THIS DUMP, IN PLAIN WORDS (tools/lay-plain.mjs out of 'YtjljknocnebnaaaGreatDoorShelf0.lean', which tools/lay-shelf.mjs wrote): THE SAME DECLARATIONS UNDER THE SAME NAMES: 'import', 'namespace', 'open', 'def', 'theorem' AND NOTHING ELSE: no command of the shelf's: FOR A HAND-IN. Each laying: the table of numbers ('.._ren') and one theorem, a field a fact of the dump's own or the kernel's comparison; each contract: ONE APPLICATION.
  A range over a function whose iterator writes a variable that it has captured: a block of cells that lay before the loop began.
  A region that draws its order inside a round of a range over a function: where all its operations are plain (no call), what is shown outside a fence holds inside.
  References: the library's 'strings.SplitSeq' at "/": its contract as an iterator.
-/
import Derived.Test.YtjljknocnebnaaaGreatDoorG04
import Derived.Test.YtjljknocnebnaaaGreatDoorG05
import Derived.Test.YtjljknocnebnaaaGreatDoorG03
import Derived.Test.YtjljknocnebnaaaGreatDoorG02
import Derived.Shelf.Small.Strs
import Derived.Shelf.Small.Wraps
import Derived.Shelf.Strings.Search1
import Derived.Shelf.Strings.Search2
import Derived.Shelf.Strings.Search3
import Derived.Shelf.Strings.Count
import Derived.Shelf.Sort.Plain
import Derived.Shelf.Strings.Prefix
import Derived.Shelf.Strings.Split
import Derived.Shelf.Slices.Turned
import Derived.Ground.Names2Prog
import Derived.Shelf.Slices.In.SortNone
import Derived.Test.YtjljknocnebnaaaGreatDoorChecked
import Derived.RangeFuncNested
import Derived.StillTailTactics
import Derived.OrdersIn
import Derived.TacticsIn
import Derived.KernelRfl
import Derived.RangeFuncBound
import Derived.RangeFuncCalls
import Derived.RangeFuncLeaves
import Derived.RangeFuncBox
import Derived.Shelf.Abstract
import Derived.Shelf.RegionOpen
import Derived.OwnWalkIn
import Derived.TacticsInMore
import Derived.LoopNIn
import Derived.LoopIn
import Derived.Outline
namespace Ob
/-- What 'PutObject' answers: the store, the digest, a code. -/
def putR (s : List S) (o : O) : List S × Int × Int :=
  if fnd s (dig o) = true then if Go.Proofs.YtjljknocnebnaaaGreatDoor.eqO (it s (lb s (dig o))).ob o = true then (s, dig o, 0) else ([], 0, 19)
  else if 40 ≤ s.length then ([], 0, 14) else (addS s (dig o) o, dig o, 0)
/-- The list ahead of place i, the new one put in at p. -/
def preL (s : List S) (x : S) (p i : Nat) : List S := if p < i then s.take p ++ [x] ++ (s.drop p).take (i - p) else s.take i
theorem preL_zero (s : List S) (x : S) (p : Nat) : preL s x p 0 = [] := by unfold preL; rw [if_neg (by omega)]; simp
theorem preL_lt (s : List S) (x : S) (p i : Nat) (h : i < p) (hi : i < s.length) : preL s x p (i + 1) = preL s x p i ++ [it s i] := by
  unfold preL
  rw [if_neg (by omega), if_neg (by omega), List.take_succ_eq_append_getElem hi, it_eq s i hi]
theorem preL_at (s : List S) (x : S) (p : Nat) (hi : p < s.length) : preL s x p (p + 1) = preL s x p p ++ [x] ++ [it s p] := by
  unfold preL
  rw [if_pos (by omega), if_neg (by omega), show p + 1 - p = 1 by omega, List.drop_eq_getElem_cons hi, it_eq s p hi]
  simp
theorem preL_gt (s : List S) (x : S) (p i : Nat) (h : p < i) (hi : i < s.length) : preL s x p (i + 1) = preL s x p i ++ [it s i] := by
  unfold preL
  rw [if_pos (by omega), if_pos h, show i + 1 - p = (i - p) + 1 by omega, List.take_succ_eq_append_getElem (by simp; omega), ← it_eq s i hi]
  simp only [List.append_assoc, List.getElem_drop]
  congr 4
  simp only [show p + (i - p) = i by omega]
theorem preL_end (s : List S) (x : S) (p : Nat) (h : p < s.length) : preL s x p s.length = s.take p ++ [x] ++ s.drop p := by
  unfold preL
  rw [if_pos h, show s.length - p = (s.drop p).length by simp, List.take_length]
theorem preL_all (s : List S) (x : S) : preL s x s.length s.length ++ [x] = s.take s.length ++ [x] ++ s.drop s.length := by
  unfold preL
  rw [if_neg (by omega)]
  simp
theorem preL_length (s : List S) (x : S) (p i : Nat) (hi : i ≤ s.length) : (preL s x p i).length = if p < i then i + 1 else i := by
  unfold preL
  split <;> simp <;> omega
end Ob
namespace Go.V
open Go.RowKit

section
variable {P : Program} (w : World)
theorem step_appM {ops : Array Oper} {o : Oper} {a : Act} {K : Act → World → Prop} {Q : Exit → Act → World → Prop} {E : Prop} (hgd : o.guard = none) (s x : Operand) (t : TypeId)
    (ho : o.op = .call { callee := .builtin .append, args := #[s, x], argTypes := #[t, t] })
    (base : Nat) (e : TypeId) (i : TypeInfo) (z : Value) (size bytes : Nat) (ht : P.underlying t = some (.slice e)) (hi : P.info? e = some i) (hz : i.zero = some z)
    (hsize : i.size = size) (hby : i.bytes = bytes) (hzs : z.cells.size = size) (hsz : 0 < size)
    (A : Option Addr) (n c : Nat) (xs : List Value) (hs : a.eval s = .slice A n c) (hown : w.ownsRow base e size (.slice A n c) n xs)
    (B : Nat) (A2 : Option Addr) (m c2 : Nat) (news : List Value) (hx : a.eval x = .slice A2 m c2) (hl : news.length = m * size) (hr : SV w B A2 news) (h1 : ∀ u ∈ news, u.oneCell' = true)
    (h63 : n + m ≤ maxLen) (hbytes : (n + m) * bytes ≤ 140737488355328) (hbase : base ≤ w.heap.size)
    (h : ∀ A' c' w', w'.ownsRow base e size (.slice A' (n + m) c') (n + m) (xs ++ news) → w.grownBy w' (Value.slice A n c).ownBlock → n + m ≤ c' → K (a.put o.dst (.slice A' (n + m) c')) w') :
    if Region.wanted o (yielded ops a.tmps) = true then Oper.wp P o a w K Q else E := by
  have hw : Region.wanted o (yielded ops a.tmps) = true := by simp [Region.wanted, hgd]
  rw [if_pos hw]
  refine wp_append_sv w s x t ho base e i z size bytes ht hi hz hsize hby hzs hsz (.slice A n c) n xs hs hown B A2 m c2 news hx hl hr h1 h63 hbytes hbase fun v' w' h2 h3 _ => ?_
  obtain ⟨A', c', rfl, hc', _⟩ := own_form h2
  exact h A' c' w' h2 h3 hc'
end
end Go.V
namespace Fl
section
variable {α : Type} {f : α → List Go.Value} {k : Nat}
theorem len (hk : ∀ a, (f a).length = k) : ∀ l : List α, (l.flatMap f).length = l.length * k
  | [] => by simp
  | a :: l => by rw [List.flatMap_cons, List.length_append, hk, len hk l, List.length_cons, Nat.succ_mul]; omega
theorem take (hk : ∀ a, (f a).length = k) : ∀ (i : Nat) (l : List α), (l.take i).flatMap f = (l.flatMap f).take (i * k)
  | 0, l => by simp
  | i + 1, [] => by simp
  | i + 1, a :: l => by
    have e : (f a).take ((i + 1) * k) = f a := List.take_of_length_le (by rw [hk, Nat.succ_mul]; omega)
    rw [List.take_succ_cons, List.flatMap_cons, List.flatMap_cons, take hk i l, List.take_append, hk, e, Nat.succ_mul, Nat.add_sub_cancel]
theorem drop (hk : ∀ a, (f a).length = k) : ∀ (i : Nat) (l : List α), (l.drop i).flatMap f = (l.flatMap f).drop (i * k)
  | 0, l => by simp
  | i + 1, [] => by simp
  | i + 1, a :: l => by
    rw [List.drop_succ_cons, List.flatMap_cons, drop hk i l, Nat.succ_mul, Nat.add_comm, ← List.drop_drop, List.drop_left' (hk a)]
theorem get (hk : ∀ a, (f a).length = k) : ∀ (i : Nat) (l : List α) (hi : i < l.length) (j : Nat) (u : Go.Value), (f l[i])[j]? = some u → (l.flatMap f)[i * k + j]? = some u
  | 0, a :: l, hi, j, u, h => by
    have hj : j < (f a).length := (List.getElem?_eq_some_iff.1 h).1
    rw [List.flatMap_cons, Nat.zero_mul, Nat.zero_add, List.getElem?_append_left hj]; exact h
  | i + 1, a :: l, hi, j, u, h => by
    rw [List.flatMap_cons, List.getElem?_append_right (by rw [hk, Nat.succ_mul]; omega), hk]
    have e : (i + 1) * k + j - k = i * k + j := by rw [Nat.succ_mul]; omega
    rw [e]
    exact get hk i l (by simpa using hi) j u h
end
end Fl
namespace Go.Proofs.YtjljknocnebnaaaGreatDoor
open Go.RowKit Go.V
set_option linter.unusedVariables false

abbrev strV (l : List UInt8) : Value := .string ⟨l.toArray⟩
def sC (l : List UInt8) : List Value := [strV l]
theorem sC_len (r : List UInt8) : (sC r).length = 1 := rfl
abbrev ssV (s : List (List UInt8)) : List Value := s.flatMap sC
theorem ssV_one (s : List (List UInt8)) : ∀ u ∈ ssV s, u.oneCell' = true := by
  intro u hu; obtain ⟨a, _, h⟩ := List.mem_flatMap.1 hu; simp only [sC, List.mem_cons, List.not_mem_nil, or_false] at h; rcases h with rfl; rfl
theorem ssV_snoc (s : List (List UInt8)) (x : List UInt8) : ssV s ++ [strV x] = ssV (s ++ [x]) := by simp [sC]
theorem ssV_len (s : List (List UInt8)) : (ssV s).length = s.length := by rw [Fl.len sC_len]; omega
/-- The lines of a file read as they are. -/
structure LnA (w : World) (X : Nat → Prop) (l : List (List UInt8)) (A : Option Addr) (k : Nat) : Prop where
  lk : l.length ≤ k
  ll : l.length ≤ 140737488351232
  ls : SA w X A (ssV l)
/-- A file as two cells. -/
def FlR (w : World) (X : Nat → Prop) (f : Tr.F) (cs : List Value) : Prop := ∃ A k, cs = [strV f.path, .slice A f.lines.length k] ∧ LnA w X f.lines A k
section
variable {w w' : World} {X X' : Nat → Prop}
theorem ssV_row {A : Option Addr} {s : List (List UInt8)} (h : SA w X A (ssV s)) (i : Nat) (hi : i < s.length) : ∃ b off, A = some ⟨b, off, none⟩ ∧ b < w.heap.size ∧ ¬ X b ∧ w.cell? ⟨b, off + i, none⟩ = some (strV s[i]) := by
  have g0 := Fl.get sC_len i s hi 0 _ rfl
  rw [Nat.mul_one, Nat.add_zero] at g0
  obtain ⟨b, off, e, hb, hx, hc⟩ := h.at_ (by rw [ssV_len]; omega)
  exact ⟨b, off, e, hb, hx, hc _ _ g0⟩
theorem LnA.keep {l : List (List UInt8)} {A : Option Addr} {k : Nat} (h : LnA w X l A k) (q : Keeps w X w' X') : LnA w' X' l A k := ⟨h.lk, h.ll, h.ls.keep q⟩
theorem LnA.mono {l : List (List UInt8)} {A : Option Addr} {k : Nat} (h : LnA w X l A k) (q : ∀ b, X' b → X b) : LnA w X' l A k := ⟨h.lk, h.ll, h.ls.mono q⟩
theorem FlR.len (f : Tr.F) (cs : List Value) (h : FlR w X f cs) : cs.length = 2 := by obtain ⟨_, _, rfl, _⟩ := h; rfl
theorem FlR.keep (q : Keeps w X w' X') (f : Tr.F) (cs : List Value) (h : FlR w X f cs) : FlR w' X' f cs := by
  obtain ⟨A, k, e, h1⟩ := h; exact ⟨A, k, e, h1.keep q⟩
/-- The slice at A holds the files. -/
def VfV (w : World) (X : Nat → Prop) (A : Option Addr) (t : List Tr.F) : Prop := ∃ vs, SA w X A vs ∧ RowsR (FlR w X) t vs
theorem VfV.keep {A : Option Addr} {t : List Tr.F} (h : VfV w X A t) (q : Keeps w X w' X') : VfV w' X' A t := by
  obtain ⟨vs, h1, h2⟩ := h; exact ⟨vs, h1.keep q, h2.mono (FlR.keep q)⟩
theorem VfV.row {A : Option Addr} {t : List Tr.F} (h : VfV w X A t) (i : Nat) (hi : i < t.length) : ∃ b off A' k', A = some ⟨b, off, none⟩ ∧ b < w.heap.size ∧ ¬ X b ∧
    w.cell? ⟨b, off + i * 2, none⟩ = some (strV (Tr.it t i).path) ∧ w.cell? ⟨b, off + i * 2 + 1, none⟩ = some (.slice A' (Tr.it t i).lines.length k') ∧ LnA w X (Tr.it t i).lines A' k' := by
  obtain ⟨us, h1, h2⟩ := h
  obtain ⟨b, off, cs, e, hb, hx, ⟨A', k', rfl, k1⟩, hc⟩ := SA.row FlR.len (by omega) h1 h2 i hi
  rw [← Tr.it_eq t i hi]
  exact ⟨b, off, A', k', e, hb, hx, hc 0 _ rfl, hc 1 _ rfl, k1⟩
theorem VfV.nil : VfV w X none [] := ⟨[], SA.nil, rfl⟩
end
end Go.Proofs.YtjljknocnebnaaaGreatDoor
namespace Go.Proofs
open Go.Shelf
def Tryz.lays137_ren : Go.Shelf.Ren := ⟨fun | 137 => 79 | 217 => 94 | 266 => 102 | n => n, fun | 9 => 9 | 5 => 5 | 3 => 3 | n => n, fun | n => n⟩
theorem Tryz.lays137 : Go.Proofs.Lays.n137 Tryz.prog Tryz.lays137_ren := {
  mixed := by kernel_rfl
  f137 := Tryz.func79.trans (congrArg some (by kernel_rfl))
  f217 := Tryz.func94.trans (congrArg some (by kernel_rfl))
  f266 := Tryz.func102.trans (congrArg some (by kernel_rfl))
  t3 := Tryz.underlying3
  a3 := Tryz.isAgg3
  z3 := Tryz.sizeOf3
  v3 := Tryz.zeroValue3
  t5 := Tryz.underlying5
  a5 := Tryz.isAgg5
  z5 := Tryz.sizeOf5
  v5 := Tryz.zeroValue5
  t9 := Tryz.underlying9
  a9 := Tryz.isAgg9
  z9 := Tryz.sizeOf9
  v9 := Tryz.zeroValue9 }
open Go.RowKit in
/-- strings.IndexByte: "IndexByte returns the index of the first instance of c in s, or -1 if c is not present in s.": IT RETURNS 'Lib.indexByte s c'; the world is as it was. (LAID: no walk: one application.) -/
theorem Tryz.strings_IndexByte (s : ByteArray) (c : Int) (w : World) :
    Calls Tryz.prog 79 #[.string s, .int .u8 c] w fun e w' => e = .returned (.int .i64 (Lib.indexByte s.data.toList c.toNat.toUInt8)) ∧ w' = w := Any.strings_IndexByte Tryz.lays137 s c w
def Tryz.lays104_ren : Go.Shelf.Ren := ⟨fun | 104 => 66 | 211 => 86 | 207 => 97 | n => n, fun | 9 => 9 | 4 => 4 | 24 => 113 | 3 => 3 | n => n, fun | n => n⟩
theorem Tryz.lays104 : Go.Proofs.Lays.n104 Tryz.prog Tryz.lays104_ren := {
  mixed := by kernel_rfl
  f104 := Tryz.func66.trans (congrArg some (by kernel_rfl))
  f207 := Tryz.func97.trans (congrArg some (by kernel_rfl))
  f211 := Tryz.func86.trans (congrArg some (by kernel_rfl))
  t3 := Tryz.underlying3
  a3 := Tryz.isAgg3
  z3 := Tryz.sizeOf3
  v3 := Tryz.zeroValue3
  t4 := Tryz.underlying4
  a4 := Tryz.isAgg4
  z4 := Tryz.sizeOf4
  v4 := Tryz.zeroValue4
  t9 := Tryz.underlying9
  a9 := Tryz.isAgg9
  z9 := Tryz.sizeOf9
  v9 := Tryz.zeroValue9
  t24 := Tryz.underlying113
  a24 := Tryz.isAgg113
  z24 := Tryz.sizeOf113
  v24 := Tryz.zeroValue113 }
open Go.RowKit in
/-- strings.CutSuffix: "CutSuffix returns s without the provided ending suffix string and reports whether it found the suffix. If s doesn't end with suffix, CutSuffix returns s, false. If suffix is the empty string, CutSuffix returns s, true.": IT RETURNS '(Lib.trimSuffix s p, Lib.hasSuffix s p)'; the world is as it was. (LAID: no walk: one application.) -/
theorem Tryz.strings_CutSuffix (s p : ByteArray) (w : World) (hs : s.size ≤ 9223372036854775807) :
    Calls Tryz.prog 66 #[.string s, .string p] w fun e w' => e = .returned (.tuple #[.string ⟨(Lib.trimSuffix s.data.toList p.data.toList).toArray⟩, .bool (Lib.hasSuffix s.data.toList p.data.toList)]) ∧ w' = w := Any.strings_CutSuffix Tryz.lays104 s p w hs
def Tryz.lays143_ren : Go.Shelf.Ren := ⟨fun | 143 => 92 | 219 => 101 | 217 => 94 | 225 => 106 | 224 => 107 | 267 => 108 | 266 => 102 | 314 => 109 | n => n, fun | 9 => 9 | 3 => 3 | 4 => 4 | 5 => 5 | 46 => 75 | 146 => 149 | 51 => 98 | n => n, fun | 1 => 2 | n => n⟩
theorem Tryz.lays143 : Go.Proofs.Lays.n143 Tryz.prog Tryz.lays143_ren := {
  mixed := by kernel_rfl
  f143 := Tryz.func92.trans (congrArg some (by kernel_rfl))
  f217 := Tryz.func94.trans (congrArg some (by kernel_rfl))
  f219 := Tryz.func101.trans (congrArg some (by kernel_rfl))
  f224 := Tryz.func107.trans (congrArg some (by kernel_rfl))
  f225 := Tryz.func106.trans (congrArg some (by kernel_rfl))
  f266 := Tryz.func102.trans (congrArg some (by kernel_rfl))
  f267 := Tryz.func108.trans (congrArg some (by kernel_rfl))
  f314 := Tryz.func109.trans (congrArg some (by kernel_rfl))
  t3 := Tryz.underlying3
  a3 := Tryz.isAgg3
  z3 := Tryz.sizeOf3
  v3 := Tryz.zeroValue3
  t4 := Tryz.underlying4
  a4 := Tryz.isAgg4
  z4 := Tryz.sizeOf4
  v4 := Tryz.zeroValue4
  t5 := Tryz.underlying5
  a5 := Tryz.isAgg5
  z5 := Tryz.sizeOf5
  v5 := Tryz.zeroValue5
  t9 := Tryz.underlying9
  a9 := Tryz.isAgg9
  z9 := Tryz.sizeOf9
  v9 := Tryz.zeroValue9
  t46 := Tryz.underlying75
  a46 := Tryz.isAgg75
  z46 := Tryz.sizeOf75
  v46 := Tryz.zeroValue75
  t51 := Tryz.underlying98
  a51 := Tryz.isAgg98
  z51 := Tryz.sizeOf98
  v51 := Tryz.zeroValue98
  t146 := Tryz.underlying149
  a146 := Tryz.isAgg149
  z146 := Tryz.sizeOf149
  v146 := Tryz.zeroValue149
  g1 := by kernel_rfl }
open Go.RowKit Go.Lib in
/-- strings.Index: "Index returns the index of the first instance of substr in s, or -1 if substr is not present in s.": AT A substr OF ONE BYTE c: IT RETURNS 'Lib.indexByte s c'; the world is as it was. (LAID: no walk: one application.) -/
theorem Tryz.strings_Index_one (s : ByteArray) (c : UInt8) (w : World) :
    Calls Tryz.prog 92 #[.string s, .string ⟨#[c]⟩] w fun e w' => e = .returned (.int .i64 (Lib.indexByte s.data.toList c)) ∧ w' = w := Any.strings_Index_one Tryz.lays143 s c w
def Tryz.lays190_ren : Go.Shelf.Ren := ⟨fun | 190 => 15 | 125 => 30 | 258 => 29 | 128 => 52 | 129 => 53 | 302 => 43 | 303 => 44 | 304 => 45 | 305 => 46 | 306 => 47 | 307 => 48 | 308 => 49 | 309 => 50 | 310 => 51 | 333 => 70 | 329 => 71 | 330 => 72 | 334 => 73 | 335 => 74 | 336 => 75 | 344 => 88 | n => n, fun | 31 => 26 | 9 => 9 | 3 => 3 | 46 => 75 | 0 => 0 | 51 => 98 | 53 => 100 | 4 => 4 | 183 => 91 | 182 => 90 | 131 => 65 | 5 => 5 | 218 => 118 | 222 => 122 | 228 => 135 | 229 => 136 | n => n, fun | n => n⟩
theorem Tryz.lays190 : Go.Proofs.Lays.n190 Tryz.prog Tryz.lays190_ren := {
  mixed := by kernel_rfl
  f125 := Tryz.func30.trans (congrArg some (by kernel_rfl))
  f128 := Tryz.func52.trans (congrArg some (by kernel_rfl))
  f129 := Tryz.func53.trans (congrArg some (by kernel_rfl))
  f190 := Tryz.func15.trans (congrArg some (by kernel_rfl))
  f258 := Tryz.func29.trans (congrArg some (by kernel_rfl))
  f302 := Tryz.func43.trans (congrArg some (by kernel_rfl))
  f303 := Tryz.func44.trans (congrArg some (by kernel_rfl))
  f304 := Tryz.func45.trans (congrArg some (by kernel_rfl))
  f305 := Tryz.func46.trans (congrArg some (by kernel_rfl))
  f306 := Tryz.func47.trans (congrArg some (by kernel_rfl))
  f307 := Tryz.func48.trans (congrArg some (by kernel_rfl))
  f308 := Tryz.func49.trans (congrArg some (by kernel_rfl))
  f309 := Tryz.func50.trans (congrArg some (by kernel_rfl))
  f310 := Tryz.func51.trans (congrArg some (by kernel_rfl))
  f329 := Tryz.func71.trans (congrArg some (by kernel_rfl))
  f330 := Tryz.func72.trans (congrArg some (by kernel_rfl))
  f333 := Tryz.func70.trans (congrArg some (by kernel_rfl))
  f334 := Tryz.func73.trans (congrArg some (by kernel_rfl))
  f335 := Tryz.func74.trans (congrArg some (by kernel_rfl))
  f336 := Tryz.func75.trans (congrArg some (by kernel_rfl))
  f344 := Tryz.func88.trans (congrArg some (by kernel_rfl))
  t0 := Tryz.underlying0
  a0 := Tryz.isAgg0
  z0 := Tryz.sizeOf0
  v0 := Tryz.zeroValue0
  t3 := Tryz.underlying3
  a3 := Tryz.isAgg3
  z3 := Tryz.sizeOf3
  v3 := Tryz.zeroValue3
  t4 := Tryz.underlying4
  a4 := Tryz.isAgg4
  z4 := Tryz.sizeOf4
  v4 := Tryz.zeroValue4
  t5 := Tryz.underlying5
  a5 := Tryz.isAgg5
  z5 := Tryz.sizeOf5
  v5 := Tryz.zeroValue5
  t9 := Tryz.underlying9
  a9 := Tryz.isAgg9
  z9 := Tryz.sizeOf9
  v9 := Tryz.zeroValue9
  t31 := Tryz.underlying26
  a31 := Tryz.isAgg26
  z31 := Tryz.sizeOf26
  v31 := Tryz.zeroValue26
  t46 := Tryz.underlying75
  a46 := Tryz.isAgg75
  z46 := Tryz.sizeOf75
  v46 := Tryz.zeroValue75
  t51 := Tryz.underlying98
  a51 := Tryz.isAgg98
  z51 := Tryz.sizeOf98
  v51 := Tryz.zeroValue98
  t53 := Tryz.underlying100
  a53 := Tryz.isAgg100
  z53 := Tryz.sizeOf100
  v53 := Tryz.zeroValue100
  t131 := Tryz.underlying65
  a131 := Tryz.isAgg65
  z131 := Tryz.sizeOf65
  v131 := Tryz.zeroValue65
  t182 := Tryz.underlying90
  a182 := Tryz.isAgg90
  z182 := Tryz.sizeOf90
  v182 := Tryz.zeroValue90
  t183 := Tryz.underlying91
  a183 := Tryz.isAgg91
  z183 := Tryz.sizeOf91
  v183 := Tryz.zeroValue91
  t218 := Tryz.underlying118
  a218 := Tryz.isAgg118
  z218 := Tryz.sizeOf118
  v218 := Tryz.zeroValue118
  t222 := Tryz.underlying122
  a222 := Tryz.isAgg122
  z222 := Tryz.sizeOf122
  v222 := Tryz.zeroValue122
  t228 := Tryz.underlying135
  a228 := Tryz.isAgg135
  z228 := Tryz.sizeOf135
  v228 := Tryz.zeroValue135
  t229 := Tryz.underlying136
  a229 := Tryz.isAgg136
  z229 := Tryz.sizeOf136
  v229 := Tryz.zeroValue136 }
open Go.Sort Go.RowKit in
theorem Tryz.slices_Sort_string (blk off cap : Nat) (ss : List (List UInt8)) (w : World) (hH : Holds encStr w blk off ss.toArray) (hblk : blk < w.heap.size) (hsz : ss.length < 4611686018427387904) :
    Calls Tryz.prog 15 #[.slice (some ⟨blk, off, none⟩) ss.length cap] w fun e w' =>
      e = .returned (.tuple #[]) ∧ ∃ n os, w' = grow (putRow encStr (Sort.ahead w n) blk off (ss.mergeSort fun x y => decide (x ≤ y)).toArray) os := Any.slices_Sort_string Tryz.lays190 blk off cap ss w hH hblk hsz
def Tryz.lays99_ren : Go.Shelf.Ren := ⟨fun | 99 => 78 | 206 => 93 | n => n, fun | 9 => 9 | 4 => 4 | 3 => 3 | n => n, fun | n => n⟩
theorem Tryz.lays99 : Go.Proofs.Lays.n99 Tryz.prog Tryz.lays99_ren := {
  mixed := by kernel_rfl
  f99 := Tryz.func78.trans (congrArg some (by kernel_rfl))
  f206 := Tryz.func93.trans (congrArg some (by kernel_rfl))
  t3 := Tryz.underlying3
  a3 := Tryz.isAgg3
  z3 := Tryz.sizeOf3
  v3 := Tryz.zeroValue3
  t4 := Tryz.underlying4
  a4 := Tryz.isAgg4
  z4 := Tryz.sizeOf4
  v4 := Tryz.zeroValue4
  t9 := Tryz.underlying9
  a9 := Tryz.isAgg9
  z9 := Tryz.sizeOf9
  v9 := Tryz.zeroValue9 }
open Go.RowKit Go.Lib in
/-- strings.HasPrefix: "HasPrefix reports whether the string s begins with prefix.": IT RETURNS 'Lib.hasPrefix s prefix'; the world is as it was. (LAID: no walk: one application.) -/
theorem Tryz.strings_HasPrefix (s p : ByteArray) (w : World) :
    Calls Tryz.prog 78 #[.string s, .string p] w fun e w' => e = .returned (.bool (Lib.hasPrefix s.data.toList p.data.toList)) ∧ w' = w := Any.strings_HasPrefix Tryz.lays99 s p w
def Tryz.lays146_ren : Go.Shelf.Ren := ⟨fun | 146 => 67 | 221 => 87 | 268 => 98 | 138 => 99 | 143 => 92 | 195 => 104 | 197 => 91 | 218 => 105 | 219 => 101 | 260 => 100 | 217 => 94 | 225 => 106 | 224 => 107 | 267 => 108 | 266 => 102 | 314 => 109 | n => n, fun | 9 => 9 | 31 => 26 | 3 => 3 | 4 => 4 | 0 => 0 | 105 => 139 | 21 => 21 | 5 => 5 | 46 => 75 | 119 => 145 | 139 => 148 | 138 => 147 | 146 => 149 | 51 => 98 | n => n, fun | 1 => 2 | 3 => 0 | 4 => 1 | n => n⟩
theorem Tryz.lays146 : Go.Proofs.Lays.n146 Tryz.prog Tryz.lays146_ren := {
  mixed := by kernel_rfl
  f138 := Tryz.func99.trans (congrArg some (by kernel_rfl))
  f143 := Tryz.func92.trans (congrArg some (by kernel_rfl))
  f146 := Tryz.func67.trans (congrArg some (by kernel_rfl))
  f195 := Tryz.func104.trans (congrArg some (by kernel_rfl))
  f197 := Tryz.func91.trans (congrArg some (by kernel_rfl))
  f217 := Tryz.func94.trans (congrArg some (by kernel_rfl))
  f218 := Tryz.func105.trans (congrArg some (by kernel_rfl))
  f219 := Tryz.func101.trans (congrArg some (by kernel_rfl))
  f221 := Tryz.func87.trans (congrArg some (by kernel_rfl))
  f224 := Tryz.func107.trans (congrArg some (by kernel_rfl))
  f225 := Tryz.func106.trans (congrArg some (by kernel_rfl))
  f260 := Tryz.func100.trans (congrArg some (by kernel_rfl))
  f266 := Tryz.func102.trans (congrArg some (by kernel_rfl))
  f267 := Tryz.func108.trans (congrArg some (by kernel_rfl))
  f268 := Tryz.func98.trans (congrArg some (by kernel_rfl))
  f314 := Tryz.func109.trans (congrArg some (by kernel_rfl))
  t0 := Tryz.underlying0
  a0 := Tryz.isAgg0
  z0 := Tryz.sizeOf0
  v0 := Tryz.zeroValue0
  t3 := Tryz.underlying3
  a3 := Tryz.isAgg3
  z3 := Tryz.sizeOf3
  v3 := Tryz.zeroValue3
  t4 := Tryz.underlying4
  a4 := Tryz.isAgg4
  z4 := Tryz.sizeOf4
  v4 := Tryz.zeroValue4
  t5 := Tryz.underlying5
  a5 := Tryz.isAgg5
  z5 := Tryz.sizeOf5
  v5 := Tryz.zeroValue5
  t9 := Tryz.underlying9
  a9 := Tryz.isAgg9
  z9 := Tryz.sizeOf9
  v9 := Tryz.zeroValue9
  t21 := Tryz.underlying21
  a21 := Tryz.isAgg21
  z21 := Tryz.sizeOf21
  v21 := Tryz.zeroValue21
  t31 := Tryz.underlying26
  a31 := Tryz.isAgg26
  z31 := Tryz.sizeOf26
  v31 := Tryz.zeroValue26
  t46 := Tryz.underlying75
  a46 := Tryz.isAgg75
  z46 := Tryz.sizeOf75
  v46 := Tryz.zeroValue75
  t51 := Tryz.underlying98
  a51 := Tryz.isAgg98
  z51 := Tryz.sizeOf98
  v51 := Tryz.zeroValue98
  t105 := Tryz.underlying139
  a105 := Tryz.isAgg139
  z105 := Tryz.sizeOf139
  v105 := Tryz.zeroValue139
  t119 := Tryz.underlying145
  a119 := Tryz.isAgg145
  z119 := Tryz.sizeOf145
  t138 := Tryz.underlying147
  a138 := Tryz.isAgg147
  z138 := Tryz.sizeOf147
  v138 := Tryz.zeroValue147
  t139 := Tryz.underlying148
  a139 := Tryz.isAgg148
  z139 := Tryz.sizeOf148
  v139 := Tryz.zeroValue148
  t146 := Tryz.underlying149
  a146 := Tryz.isAgg149
  z146 := Tryz.sizeOf149
  v146 := Tryz.zeroValue149
  g1 := by kernel_rfl
  g3 := by kernel_rfl
  g4 := by kernel_rfl }
open Go.RowKit Go.Lib in
/-- strings.Split. (LAID: no walk: one application.) -/
theorem Tryz.strings_Split (s sep : ByteArray) (m : Int) (w : World) (hs : s.size < 4294967281) (hm : w.cell? ⟨2, 0, none⟩ = some (.int .i64 m)) (h1 : 1 ≤ sep.size) :
    Calls Tryz.prog 67 #[.string s, .string sep] w fun e w' =>
      e = .returned (.slice (some ⟨w.heap.size, 0, none⟩) (Lib.countB s sep + 1) (Lib.countB s sep + 1)) ∧ w' = w.alloc (.cells ((Lib.splitB sep 0 (Lib.countB s sep) s).map Value.string).toArray 9) := Any.strings_Split Tryz.lays146 (by kernel_rfl) s sep m w hs hm h1
def Tryz.lays109_ren : Go.Shelf.Ren := ⟨fun | 109 => 13 | n => n, fun | 31 => 26 | 9 => 9 | 3 => 3 | 0 => 0 | 4 => 4 | n => n, fun | n => n⟩
theorem Tryz.lays109 : Go.Proofs.Lays.n109 Tryz.prog Tryz.lays109_ren := {
  mixed := by kernel_rfl
  f109 := Tryz.func13.trans (congrArg some (by kernel_rfl))
  t0 := Tryz.underlying0
  a0 := Tryz.isAgg0
  z0 := Tryz.sizeOf0
  v0 := Tryz.zeroValue0
  t3 := Tryz.underlying3
  a3 := Tryz.isAgg3
  z3 := Tryz.sizeOf3
  v3 := Tryz.zeroValue3
  t4 := Tryz.underlying4
  a4 := Tryz.isAgg4
  z4 := Tryz.sizeOf4
  v4 := Tryz.zeroValue4
  t9 := Tryz.underlying9
  a9 := Tryz.isAgg9
  z9 := Tryz.sizeOf9
  v9 := Tryz.zeroValue9
  t31 := Tryz.underlying26
  a31 := Tryz.isAgg26
  z31 := Tryz.sizeOf26
  v31 := Tryz.zeroValue26 }
open Go.Lib in
/-- slices.Index at []string: "Index returns the index of the first occurrence of v in s, or -1 if not present.": IT RETURNS 'Lib.idxOfS (the elements) v'; the world is as it was. 'zs': what the cells behind the slice's address hold (its spare capacity too, if you have it); 'zs.take n': its elements. (LAID: no walk: one application.) -/
theorem Tryz.slices_Index_string (b off n c : Nat) (zs : List ByteArray) (x : ByteArray) (w : World) (hz : n ≤ zs.length) (hbig : n ≤ 9223372036854775807) (hc : ∀ j, j < zs.length → w.cell? ⟨b, off + j, none⟩ = some (.string (zs.getD j ByteArray.empty))) :
    Calls Tryz.prog 13 #[.slice (some ⟨b, off, none⟩) n c, .string x] w fun e w' => e = .returned (.int .i64 (Lib.idxOfS (zs.take n) x)) ∧ w' = w := Any.slices_Index_string Tryz.lays109 b off n c zs x w hz hbig hc
open Go.Lib in
/-- The same at a slice of length 0, a nil one too: no cell is known, none is asked for. (LAID: no walk: one application.) -/
theorem Tryz.slices_Index_string_empty (a : Option Addr) (c : Nat) (x : ByteArray) (w : World) :
    Calls Tryz.prog 13 #[.slice a 0 c, .string x] w fun e w' => e = .returned (.int .i64 (Lib.idxOfS [] x)) ∧ w' = w := Any.slices_Index_string_empty Tryz.lays109 a c x w
def Tryz.lays110_ren : Go.Shelf.Ren := ⟨fun | 110 => 14 | 109 => 13 | n => n, fun | 31 => 26 | 9 => 9 | 4 => 4 | 3 => 3 | 0 => 0 | n => n, fun | n => n⟩
theorem Tryz.lays110 : Go.Proofs.Lays.n110 Tryz.prog Tryz.lays110_ren := {
  mixed := by kernel_rfl
  f109 := Tryz.func13.trans (congrArg some (by kernel_rfl))
  f110 := Tryz.func14.trans (congrArg some (by kernel_rfl))
  t0 := Tryz.underlying0
  a0 := Tryz.isAgg0
  z0 := Tryz.sizeOf0
  v0 := Tryz.zeroValue0
  t3 := Tryz.underlying3
  a3 := Tryz.isAgg3
  z3 := Tryz.sizeOf3
  v3 := Tryz.zeroValue3
  t4 := Tryz.underlying4
  a4 := Tryz.isAgg4
  z4 := Tryz.sizeOf4
  v4 := Tryz.zeroValue4
  t9 := Tryz.underlying9
  a9 := Tryz.isAgg9
  z9 := Tryz.sizeOf9
  v9 := Tryz.zeroValue9
  t31 := Tryz.underlying26
  a31 := Tryz.isAgg26
  z31 := Tryz.sizeOf26
  v31 := Tryz.zeroValue26 }
open Go.Lib in
/-- slices.Contains at []string: "Contains reports whether v is present in s.": IT RETURNS 'Lib.containsS (the elements) v', which is true just where v is among them ('Lib.containsS_iff'); the world is as it was. ITS CALLEE slices.Index IS MET BY ITS OWN CONTRACT OFF THE SHELF (lay that first): no loop is walked here. (LAID: no walk: one application.) -/
theorem Tryz.slices_Contains_string (b off n c : Nat) (zs : List ByteArray) (x : ByteArray) (w : World) (hz : n ≤ zs.length) (hbig : n ≤ 9223372036854775807) (hc : ∀ j, j < zs.length → w.cell? ⟨b, off + j, none⟩ = some (.string (zs.getD j ByteArray.empty))) :
    Calls Tryz.prog 14 #[.slice (some ⟨b, off, none⟩) n c, .string x] w fun e w' => e = .returned (.bool (Lib.containsS (zs.take n) x)) ∧ w' = w := Any.slices_Contains_string Tryz.lays110 b off n c zs x w hz hbig hc
open Go.Lib in
/-- The same at a slice of length 0, a nil one too. (LAID: no walk: one application.) -/
theorem Tryz.slices_Contains_string_empty (a : Option Addr) (c : Nat) (x : ByteArray) (w : World) :
    Calls Tryz.prog 14 #[.slice a 0 c, .string x] w fun e w' => e = .returned (.bool false) ∧ w' = w := Any.slices_Contains_string_empty Tryz.lays110 a c x w
open Go.RowKit Go.Sort in
/-- .. and plain. (LAID: no walk: one application.) -/
theorem Tryz.slices_Sort_string_none (p : Option Addr) (cap : Nat) (w : World) :
    Calls Tryz.prog 15 #[.slice p 0 cap] w fun e w' => e = .returned (.tuple #[]) ∧ w' = w := Any.slices_Sort_string_none Tryz.lays190 p cap w
end Go.Proofs
namespace Go.V
open Go Go.RowKit

/-- A store into the iterator's variable does not turn it. -/
def StaysB {β : Type} (Bx : Nat) (J : β → World → Prop) : Prop := ∀ s W v, J s W → J s (W.setCell ⟨Bx, 0, none⟩ v)
/-- The contract of an iterator that keeps its state in block Bx. -/
def SeqB {α : Type} (F : Fence) (n : Nat) (P : Program) (g : Nat) (lb : Array Value) (encs : α → Array Value) (Kp : World → World → Prop) (Bx : Nat) (S Sp : List α → Prop) (N : Nat) (w0 : World) : Prop :=
  ∀ (l : Nat) (J Jx : List α → World → Prop) (W : World), Below w0.heap.size w0 W → AbidesFrom W.heap.size J → AbidesFrom W.heap.size Jx → StaysB Bx J → StaysB Bx Jx →
    (∀ pre x W1, J pre W1 → pre.length < N → YieldAt F (n - 1) P l (encs x) W1 fun e W2 => (e = .returned (.bool true) ∧ J (pre ++ [x]) W2 ∧ Kp W1 W2) ∨ (e = .returned (.bool false) ∧ Jx (pre ++ [x]) W2)) →
    J [] W → CallsIn F n P g (#[.func (.yield l) #[] #[]] ++ lb) W fun e W2 => (∃ v, e = .returned v) ∧ ((∃ xs, S xs ∧ J xs W2) ∨ (∃ pre, Sp pre ∧ Jx pre W2))
theorem heap_setCell_ne (W : World) (Bx l : Nat) (v : Value) (h : l ≠ Bx) : (W.setCell ⟨Bx, 0, none⟩ v).heap[l]? = W.heap[l]? := Below.heap_setCell W ⟨Bx, 0, none⟩ v l h
section
variable {F : Fence} {n : Nat} {P : Program}
/-- The loop's record behind one round that has ended with the pending jump. -/
theorem round_ends {W2 W3 : World} {lr ld : Nat} {r : Loop} (hne : ld ≠ lr) (hl : W2.heap[lr]? = some (.loop r)) (hd : W2.heap[ld]? = some (.deferred (some []))) (hk : KeepsOthers W2 W3) (hr : r.state = .busy) (hp : r.pending = none) (jump : Option Code) :
    (Instr.endRound lr jump).run P W3 = .ok (.bool jump.isNone) (W3.putObj lr (.loop { r with state := if jump.isNone then .ready else .done, pending := jump })) ∧ W3.heap[lr]? = some (.loop r) ∧
    (W3.putObj lr (.loop { r with state := if jump.isNone then .ready else .done, pending := jump })).heap[lr]? = some (.loop { r with state := if jump.isNone then .ready else .done, pending := jump }) ∧
    (W3.putObj lr (.loop { r with state := if jump.isNone then .ready else .done, pending := jump })).heap[ld]? = some (.deferred (some [])) := by
  have h3 := hk.same _ _ hl rfl
  obtain ⟨st, pe, fn, tmps, ps, assign, body, defers⟩ := r
  simp only at hr hp
  subst hr hp
  exact ⟨run_endRound (P := P) jump h3, h3, World.putObj_heap_same (Array.getElem?_eq_some_iff.1 h3).1, (World.putObj_heap_other hne).trans (hk.same _ _ hd rfl)⟩
/-- **The loop, by the contract of such an iterator.** I: what holds between two rounds; Ix c: what holds when a round has left by the jump c. -/
theorem wpIn_rangeFunc_B {α : Type} {g : Operand} {ps : Array Tmp} {assign body : Code} {Q : Exit → Act → World → Prop} {a : Act} {w : World} (hro : F.round = none) (h1 : 1 ≤ n) {gf : Nat} {lb : Array Value}
    (hg : a.eval g = .func (.func gf) #[] lb) (hFg : F.fn gf) (eg : ∀ args w, (callFunc gf args).run P w = .ok (.enter gf args) w) {encs : α → Array Value} {Kp : World → World → Prop} {Bx : Nat} {S Sp : List α → Prop} {N : Nat}
    (hseq : SeqB F (n - 1) P gf lb encs Kp Bx S Sp N w) (hBx : Bx < w.heap.size) (hKt : ∀ {A B C : World}, Kp A B → Kp B C → Kp A C)
    (hKb : ∀ (W : World) (l : Nat) (o o' : Obj), w.heap.size ≤ l → W.heap[l]? = some o → o.isCells = false → o.isWalk = false → Kp W (W.putObj l o')) (hps : ∀ x, (encs x).size = ps.size)
    (I : List α → World → Prop) (Ix : Code → List α → World → Prop) (hI : OwnFrom w.heap.size I) (hIx : ∀ c, OwnFrom w.heap.size (Ix c)) (hIB : StaysB Bx I) (hIxB : ∀ c, StaysB Bx (Ix c)) (h0 : I [] w) (a₁ : α → Act)
    (hassign : ∀ (l : Nat) (x : α) (W : World) (K : Act → World → Prop), K (a₁ x) W →
      assign.wpIn (F.inRound l) (n - 1 - 1) P (Exit.then K (fun _ _ _ => False)) { tmps := (ps.zip (encs x)).foldl (fun t (p, v) => t.setIfInBounds p v) a.tmps, defers := [] } W)
    (hbody : ∀ (l : Nat) (pre : List α) (x : α) (W : World), I pre W → pre.length < N → body.wpIn (F.inRound l) (n - 1 - 1) P (ownPostK Kp I Ix (pre ++ [x]) W) (a₁ x) W)
    (hdone : ∀ (D : Nat) (xs : List α) (W : World), w.heap.size ≤ D → S xs → I xs W → W.heap[D]? = some (.deferred (some [])) → Q .normal { a with defers := { target := .collected D, args := #[] } :: a.defers } W)
    (hstop : ∀ (D : Nat) (c : Code) (pre : List α) (W : World), w.heap.size ≤ D → Sp pre → Ix c pre W → W.heap[D]? = some (.deferred (some [])) → c.wpIn F n P Q { a with defers := { target := .collected D, args := #[] } :: a.defers } W) :
    (Code.rangeFunc g ps assign body).wpIn F n P Q a w := by
  refine wpIn_rangeFunc ?_
  intro fn hfn
  rw [hro]
  obtain ⟨rc, hrc⟩ : ∃ rc : LoopState → Option Code → Loop, rc = fun st pe => { state := st, pending := pe, fn, tmps := a.tmps, params := ps, assign, body, defers := w.heap.size } := ⟨_, rfl⟩
  have hst : ∀ st pe, (rc st pe).state = st := fun st pe => by rw [hrc]
  have hpe : ∀ st pe, (rc st pe).pending = pe := fun st pe => by rw [hrc]
  have hup : ∀ st pe st' pe', ({ rc st pe with state := st', pending := pe' } : Loop) = rc st' pe' := fun st pe st' pe' => by rw [hrc]
  obtain ⟨W1, hW1⟩ : ∃ W1, W1 = (w.alloc (.deferred (some []))).alloc (.loop (rc .ready none)) := ⟨_, rfl⟩
  have hsz : W1.heap.size = w.heap.size + 2 := by rw [hW1]; simp
  have hL1 : W1.heap[w.heap.size + 1]? = some (.loop (rc .ready none)) := by
    have := World.alloc_heap_new (w.alloc (.deferred (some []))) (.loop (rc .ready none))
    rw [World.size_alloc] at this; rw [hW1]; exact this
  have hD1 : W1.heap[w.heap.size]? = some (.deferred (some [])) := by rw [hW1]; exact (Below.heap_alloc _ _ _ (by simp)).trans (World.alloc_heap_new w _)
  have hb1 : Below w.heap.size w W1 := by rw [hW1]; exact ((Below.refl _ w).alloc (Nat.le_refl _) _).alloc (by simp) _
  have hnw : ∀ {A : World} {row : Option Nat}, (∀ r, row = some r → W1.heap.size ≤ r ∧ ∃ o : Obj, A.heap[r]? = some o ∧ o.isWalk = true) → (∀ r, row = some r → w.heap.size ≤ r ∧ ∃ o : Obj, A.heap[r]? = some o ∧ o.isCells = false) := fun hr r e => by
    obtain ⟨hB, o, ho, hw⟩ := hr r e
    exact ⟨by omega, o, ho, Obj.not_cells_of_walk hw⟩
  refine ⟨w.heap.size + 1, [{ target := .collected w.heap.size, args := #[] }], W1, { target := .fn (.func gf) lb, args := #[.func (.yield (w.heap.size + 1)) #[] #[]] }, W1, gf, #[.func (.yield (w.heap.size + 1)) #[] #[]] ++ lb, W1, ?_, ?_, ?_, ?_, fun _ => h1, ?_⟩
  · rw [hW1, hrc]; exact run_enterLoop_outer _ _ _ _ _
  · simp only [resolve, hg]
    simp [go_sem]
  · intro f' hf'; simp [Target.leads] at hf'; subst hf'; exact hFg
  · simp [invoke, go_sem, eg]
  have hj := hseq (w.heap.size + 1)
    (fun pre W => I pre W ∧ W.heap[w.heap.size + 1]? = some (.loop (rc .ready none)) ∧ W.heap[w.heap.size]? = some (.deferred (some [])))
    (fun pre W => ∃ c, Ix c pre W ∧ W.heap[w.heap.size + 1]? = some (.loop (rc .done (some c))) ∧ W.heap[w.heap.size]? = some (.deferred (some []))) W1 hb1
    (fun s A B row hs hg' hr => ⟨hI s A B row hs.1 hg' (hnw hr), (grownBy_keeps hg' (fun r e => (hr r e).2) hs.2.1 rfl).trans hs.2.1, (grownBy_keeps hg' (fun r e => (hr r e).2) hs.2.2 rfl).trans hs.2.2⟩)
    (fun s A B row hs hg' hr => by
      obtain ⟨c, hc, hl, hk⟩ := hs
      exact ⟨c, hIx c s A B row hc hg' (hnw hr), (grownBy_keeps hg' (fun r e => (hr r e).2) hl rfl).trans hl, (grownBy_keeps hg' (fun r e => (hr r e).2) hk rfl).trans hk⟩)
    (fun s W v hs => ⟨hIB s W v hs.1, (heap_setCell_ne W Bx _ v (by omega)).trans hs.2.1, (heap_setCell_ne W Bx _ v (by omega)).trans hs.2.2⟩)
    (fun s W v hs => by
      obtain ⟨c, hc, hl, hk⟩ := hs
      exact ⟨c, hIxB c s W v hc, (heap_setCell_ne W Bx _ v (by omega)).trans hl, (heap_setCell_ne W Bx _ v (by omega)).trans hk⟩)
    ?round ⟨by rw [hW1]; exact hI.alloc _ (hI.alloc _ h0), hL1, hD1⟩
  · refine hj.mono ?_
    rintro e W2 ⟨⟨v, rfl⟩, (⟨xs, hS, hi, hl, hk⟩ | ⟨pre, hSp, c, hi, hl, hk⟩)⟩
    · refine ⟨none, _, by have := run_endLoop (P := P) hl (by rw [hst]; simp); rw [hpe] at this; exact this, ?_⟩
      exact hdone _ xs _ (Nat.le_refl _) hS (hI.putObj _ hi (by omega) hl rfl) ((World.putObj_heap_other (by omega)).trans hk)
    · refine ⟨some c, _, by have := run_endLoop (P := P) hl (by rw [hst]; simp); rw [hpe] at this; exact this, ?_⟩
      exact hstop _ c pre _ (Nat.le_refl _) hSp ((hIx c).putObj _ hi (by omega) hl rfl) ((World.putObj_heap_other (by omega)).trans hk)
  · rintro pre x W ⟨hi, hl, hk⟩ hlen
    have hy := run_yield (P := P) (args := encs x) hl (by rw [hrc]; exact hps x)
    refine ⟨_, _, _, _, hy, ?_⟩
    rw [hrc]
    refine roundIn_of_wpIn hfn (hassign _ x W _ ⟨_, run_beginRound hl (hst _ _), ?_⟩)
    have hlt := (Array.getElem?_eq_some_iff.1 hl).1
    obtain ⟨Wb, hWb⟩ : ∃ Wb, Wb = W.putObj (w.heap.size + 1) (.loop (rc .busy none)) := ⟨_, rfl⟩
    have hl2 : Wb.heap[w.heap.size + 1]? = some (.loop (rc .busy none)) := by rw [hWb]; exact World.putObj_heap_same hlt
    have hk2 : Wb.heap[w.heap.size]? = some (.deferred (some [])) := by rw [hWb]; exact (World.putObj_heap_other (by omega)).trans hk
    have hw2 : Kp W Wb := by rw [hWb]; exact hKb _ _ _ _ (by omega) hl rfl rfl
    have hi2 : I pre Wb := by rw [hWb]; exact hI.putObj _ hi (by omega) hl rfl
    have hWe : W.putObj (w.heap.size + 1) (.loop { rc .ready none with state := .busy }) = Wb := by rw [hWb, hrc]
    rw [hWe]
    refine wpIn_mono (hbody _ pre x Wb hi2 hlen) ?_
    rintro e a3 W3 hp
    cases e with
    | normal =>
      obtain ⟨hk3, hkp3, hi3⟩ := hp
      obtain ⟨hr, hl3, hl4, hk4⟩ := round_ends (P := P) (by omega) hl2 hk2 hk3 (hst _ _) (hpe _ _) none
      exact ⟨_, _, hr, .inl ⟨rfl, ⟨hI.putObj _ hi3 (by omega) hl3 rfl, by rw [hl4, hup, hrc]; rfl, hk4⟩, hKt (hKt hw2 hkp3) (hKb _ _ _ _ (by omega) hl3 rfl rfl)⟩⟩
    | ret =>
      obtain ⟨hk3, hi3⟩ := hp
      obtain ⟨hr, hl3, hl4, hk4⟩ := round_ends (P := P) (by omega) hl2 hk2 hk3 (hst _ _) (hpe _ _) (some .ret)
      exact ⟨_, _, hr, .inr ⟨rfl, .ret, (hIx _).putObj _ hi3 (by omega) hl3 rfl, by rw [hl4, hup, hrc]; rfl, hk4⟩⟩
    | exit id =>
      obtain ⟨hk3, hi3⟩ := hp
      obtain ⟨hr, hl3, hl4, hk4⟩ := round_ends (P := P) (by omega) hl2 hk2 hk3 (hst _ _) (hpe _ _) (some (.exit id))
      exact ⟨_, _, hr, .inr ⟨rfl, .exit id, (hIx _).putObj _ hi3 (by omega) hl3 rfl, by rw [hl4, hup, hrc]; rfl, hk4⟩⟩
    | goto t =>
      obtain ⟨hk3, hi3⟩ := hp
      obtain ⟨hr, hl3, hl4, hk4⟩ := round_ends (P := P) (by omega) hl2 hk2 hk3 (hst _ _) (hpe _ _) (some (.goto t))
      exact ⟨_, _, hr, .inr ⟨rfl, .goto t, (hIx _).putObj _ hi3 (by omega) hl3 rfl, by rw [hl4, hup, hrc]; rfl, hk4⟩⟩
    | panic ch => exact hp.elim
    | outgrown => exact hp.elim
end
end Go.V
namespace Go.V

/-- An operation that calls nothing. -/
def plainB (o : Oper) : Bool :=
  match o.op with
  | .move _ | .assign _ | .pick _ _ _ | .load _ _ | .store _ _ _ | .fieldAddr _ _ _ | .indexAddr _ _ _ | .binOp _ _ _ _ _ | .unOp _ _ _ => true
  | _ => false

theorem plain_run {P : Program} {o : Oper} (hp : plainB o = true) (ρ : Operand → Value) (w : World) :
    (∃ v w', (execOp ρ o).run P w = .ok (.value v) w') ∨ (∃ w', (execOp ρ o).run P w = .ok .skip w') ∨ ∃ x w', (execOp ρ o).run P w = .halt x w' := by
  have hv : ∀ s : Sem Value, (∃ v w', ((do pure (Next.value (← s)) : Sem Next)).run P w = .ok (.value v) w') ∨ (∃ w', ((do pure (Next.value (← s)) : Sem Next)).run P w = .ok .skip w') ∨ ∃ x w', ((do pure (Next.value (← s)) : Sem Next)).run P w = .halt x w' := by
    intro s
    simp only [Sem.run_bind, Sem.run_pure]
    cases h : s.run P w with
    | ok v w' => exact .inl ⟨v, w', rfl⟩
    | halt x w' => exact .inr (.inr ⟨x, w', rfl⟩)
  have hu : ∀ s : Sem Unit, (∃ v w', ((do s; pure Next.skip : Sem Next)).run P w = .ok (.value v) w') ∨ (∃ w', ((do s; pure Next.skip : Sem Next)).run P w = .ok .skip w') ∨ ∃ x w', ((do s; pure Next.skip : Sem Next)).run P w = .halt x w' := by
    intro s
    simp only [Sem.run_bind, Sem.run_pure]
    cases h : s.run P w with
    | ok v w' => exact .inr (.inl ⟨w', rfl⟩)
    | halt x w' => exact .inr (.inr ⟨x, w', rfl⟩)
  unfold plainB at hp
  unfold execOp
  cases ho : o.op <;> rw [ho] at hp <;> first | cases hp | skip
  all_goals simp only
  case move x => exact .inl ⟨_, _, rfl⟩
  case assign x => exact .inl ⟨_, _, rfl⟩
  case pick c x y =>
    simp only [Sem.run_bind, Sem.run_pure]
    cases h : (asBool (ρ c)).run P w with
    | ok v w' => exact .inl ⟨_, w', rfl⟩
    | halt x w' => exact .inr (.inr ⟨x, w', rfl⟩)
  all_goals first | exact hv _ | exact hu _

theorem plain_about {P : Program} {o : Oper} (hp : plainB o = true) (w : World) (ρ : Operand → Value) : o.about P w ρ = none := by
  unfold plainB at hp
  unfold Oper.about
  cases ho : o.op with
  | call c => rw [ho] at hp; simp at hp
  | _ => rfl
/-- The region's end alone. -/
def NQ (K : Act → World → Prop) : Exit → Act → World → Prop
  | .normal => K
  | _ => fun _ _ => False
section
variable {F : Fence} {n : Nat} {P : Program} {ops : Array Oper} {Q : Exit → Act → World → Prop} {md : Region.Mode}
theorem plain_wpIn {o : Oper} (hp : plainB o = true) {a : Act} {w : World} {K : Act → World → Prop} (h : o.wp P a w K Q) : o.wpIn F n P a w K Q := by
  have hd : ∀ c, o.op ≠ .defer c := fun c e => by unfold plainB at hp; rw [e] at hp; cases hp
  have ha : ∀ f, o.about P w a.eval = some f → F.fn f := fun f hf => by
    exact absurd hf (by rw [plain_about hp]; simp)
  unfold Oper.wp at h
  refine ⟨ha, ?_⟩
  rw [Oper.semAt_eq _ _ _ hd]
  rcases plain_run (P := P) hp a.eval w with ⟨v, w', e⟩ | ⟨w', e⟩ | ⟨x, w', e⟩
  · rw [e] at h ⊢; exact h
  · rw [e] at h ⊢; exact h
  · rw [e] at h ⊢
    cases x <;> first | exact h | exact h.elim
theorem plain_wpOpIn {i : Nat} (hp : ∀ o, ops[i]? = some o → plainB o = true) {a : Act} {w : World} {K K' : Act → World → Prop} (hK : ∀ a w, K a w → K' a w) (hQ : ¬ LetsOut Q) (h : wpOp P ops Q i K a w) : wpOpIn F n P ops Q i K' a w := by
  refine wpOpIn_mono hK ?_
  unfold wpOp at h
  unfold wpOpIn
  cases ho : ops[i]? with
  | none => rw [ho] at h; exact h
  | some o =>
    rw [ho] at h
    simp only at h ⊢
    have hp' := hp o ho
    by_cases hw : Region.wanted o (yielded ops a.tmps) = true
    · rw [if_pos hw] at h ⊢
      rcases h with h | ⟨_, h⟩
      · exact plain_wpIn hp' h
      · exact absurd h hQ
    · rw [if_neg hw] at h ⊢
      exact ⟨fun f hf => absurd hf (by rw [plain_about hp']; simp), h⟩
theorem plain_wpAnyIn (hQ : ¬ LetsOut Q) (hp : ∀ (i : Nat) o, ops[i]? = some o → plainB o = true) : ∀ (f : Nat) (listed : Array Bool) (a : Act) (w : World), wpAny P md ops Q f listed a w → wpAnyIn F n P md ops Q f listed a w
  | 0, _, _, _, h => h
  | f + 1, _, _, _, h => ⟨h.1, fun i hi => plain_wpOpIn (hp i) (fun a w hh => plain_wpAnyIn hQ hp f _ a w hh) hQ (h.2 i hi)⟩

/-- Reads alone, then the rest in its one order: inside a fence. -/
theorem wpIn_region_reads {id : Nat} {a : Act} {w : World} {l : List Oper} (k : Nat) (hm : P.follows .mixedOrders = true) (hp : (l.all plainB) = true) (hB : Region.lexTailB .any l.toArray k = true)
    (h : wpStill P l.toArray { w with drawn := w.drawn + 1 } (fun a' => wpList P l.toArray (NQ (Q .normal)) (l.drop k) a' { w with drawn := w.drawn + 1 }) (l.take k) a) : (Code.region id l.toArray true).wpIn F n P Q a w := by
  refine Code.wpIn_mono (Q := NQ (Q .normal)) (fun e a w hh => by cases e <;> first | exact hh | exact hh.elim) ?_
  refine wpIn_region_any hm (plain_wpAnyIn (fun hh => by obtain ⟨_, _, hh⟩ := hh; exact hh) (fun i o ho => List.all_eq_true.1 hp o (List.mem_of_getElem? (i := i) (by simpa using ho))) _ _ _ _ ?_)
  unfold Region.lexTailB at hB
  rw [Bool.and_eq_true, Bool.and_eq_true, Bool.and_eq_true, Bool.and_eq_true] at hB
  have hk : k < l.length := by simpa using hB.1.1.1.2
  have e1 : (l.take k).length = k := List.length_take_of_le (by omega)
  have e2 : (l.drop k).length = l.length - k := List.length_drop
  have start : HeadInv .any l.toArray k (Array.replicate l.toArray.size false) := by
    refine ⟨by simp, fun j oj _ hl => ?_, fun t _ ht => ?_⟩
    · rw [getD_replicate_false] at hl; cases hl
    · exact getD_in (by simpa using ht) (getD_replicate_false _ _)
  have hd : l.toArray.size = (l.take k).length + (l.length - k) := by rw [e1]; simp; omega
  have begin_ := wpAnyL_lex (md := .any) (g := l.length - k) hB.1.1.1.1 hB.1.1.2 hB.1.2 (by simpa using hk) (l.take k) 0 _ a
    (fun j hj => by simp [Nat.lt_of_lt_of_eq hj e1]) (by rw [e1, Nat.zero_add]) start (by rw [e1]; simpa using hB.2) h
  have fin := wpAny_of_head (Q' := NQ (Q .normal)) (g := l.length - k) (fun listed a' hL => by
    have := wpAny_of_seq (md := .any) (Q' := NQ (Q .normal)) (l.drop k) k listed a' { w with drawn := w.drawn + 1 } (fun j => by simp [List.getElem?_drop]) (by rw [e2]; exact hL.1) hL.2
    rwa [e2] at this) _ _ _ begin_
  rw [← hd] at fin
  exact fin
end
end Go.V
namespace Go.Proofs.YtjljknocnebnaaaGreatDoor
open Go.RowKit Go.V Go.Shelf Go.Lib
set_option linter.unusedVariables false
attribute [local go_sem] Oper.semAt_some

theorem indexByte_index (l : List UInt8) : Lib.indexByte l 47 = Lib.index l [47] := by
  induction l with
  | nil => simp [Lib.indexByte, Lib.index]
  | cons b l ih =>
    unfold Lib.indexByte Lib.index
    rw [← ih]
    by_cases h : b = 47
    · simp [h, List.isPrefixOf]
    · have h2 : ¬ (47 : UInt8) = b := fun e => h e.symm
      simp [h, h2, List.isPrefixOf]
/-- The bytes of the string in a cell, counted. -/
def strLen : Option Value → Nat
  | some (.string b) => b.size
  | _ => 0
theorem extract_take (l : List UInt8) (k : Nat) : (⟨l.toArray⟩ : ByteArray).extract 0 k = ⟨(l.take k).toArray⟩ := by
  apply ByteArray.ext
  rw [ByteArray.data_extract]
  simp
theorem extract_drop (l : List UInt8) (k n : Nat) (hn : l.length ≤ n) : (⟨l.toArray⟩ : ByteArray).extract k n = ⟨(l.drop k).toArray⟩ := by
  apply ByteArray.ext
  rw [ByteArray.data_extract]
  simp
  rw [List.take_of_length_le (by simp; omega)]
def splW (w : World) (l : List UInt8) : World := ((w.alloc (.cells #[strV l] 9)).alloc (.cells #[.string ⟨#[47]⟩] 9)).alloc (.cells #[.int .i64 0] 3)
def splC (w : World) : Array Value := #[.pointer (some ⟨w.heap.size + 1, 0, none⟩), .pointer (some ⟨w.heap.size, 0, none⟩), .pointer (some ⟨w.heap.size + 2, 0, none⟩)]
theorem splitSeq_in (n : Nat) (l : List UInt8) (w : World) :
    CallsIn Fence.wide n Tryz.prog 77 #[strV l, .string ⟨#[47]⟩, .int .i64 0] w fun e w' => e = .returned (.func (.func 90) #[] (splC w)) ∧ w' = splW w l := by
  refine callsIn_of_wp Tryz.func77 rfl trivial ?_ rfl
  simp only [Tryz.ntmps77, List.size_toArray, List.length_cons, List.length_nil, Nat.reduceAdd, Nat.reduceSub, Array.replicate_succ, Array.replicate_zero, List.push_toArray, List.append_toArray, List.nil_append, List.cons_append]
  gi_wp2
  go_ret
  exact ⟨rfl, rfl⟩
theorem SplitSeq_in (n : Nat) (hn : 1 ≤ n) (l : List UInt8) (w : World) :
    CallsIn Fence.wide n Tryz.prog 57 #[strV l, .string ⟨#[47]⟩] w fun e w' => e = .returned (.func (.func 90) #[] (splC w)) ∧ w' = splW w l := by
  refine callsIn_of_wp Tryz.func57 rfl trivial ?_ rfl
  simp only [Tryz.ntmps57, List.size_toArray, List.length_cons, List.length_nil, Nat.reduceAdd, Nat.reduceSub, Array.replicate_succ, Array.replicate_zero, List.push_toArray, List.append_toArray, List.nil_append, List.cons_append]
  gi_wp2_with (refine ⟨trivial, ?_⟩; gi_at_call 77; refine (splitSeq_in _ _ _).mono ?_; rintro e w' ⟨rfl, rfl⟩)
  go_ret
  exact ⟨rfl, rfl⟩
/-- What comes in a round: a part. -/
abbrev Cx := {x : List UInt8 // x.length ≤ 60}
/-- What a round keeps. -/
def KpS (B : Nat) (W W' : World) : Prop := Below B W W'
set_option maxRecDepth 100000 in
set_option maxHeartbeats 8000000 in
theorem split_in (n : Nat) (hn : 1 ≤ n) (w0 : World) (l : List UInt8) (hlen : l.length ≤ 60) :
    SeqB Fence.wide n Tryz.prog 90 (splC w0) (fun x : Cx => #[strV x.1]) (KpS (w0.heap.size + 3)) w0.heap.size (fun xs => xs.map (·.1) = Rf.comps l) (fun pre => ∃ r, Rf.comps l = pre.map (·.1) ++ r) (Rf.comps l).length (splW w0 l) := by
  intro lp J Jx W hW hJ hJx hB hBx hY h0
  have hb0 : Below (splW w0 l).heap.size (splW w0 l) W := hW
  have hsz0 : (splW w0 l).heap.size = w0.heap.size + 3 := by simp [splW]
  have bs : Blk W w0.heap.size 9 #[strV l] := ((((Blk.new w0 9 #[strV l]).alloc (.cells #[.string ⟨#[47]⟩] 9)).alloc (.cells #[.int .i64 0] 3)).below hb0 (by rw [hsz0]; omega) : _)
  have bp : Blk W (w0.heap.size + 1) 9 #[.string ⟨#[47]⟩] := ((show Blk (splW w0 l) (w0.heap.size + 1) 9 #[.string ⟨#[47]⟩] from by
    have := (Blk.new (w0.alloc (.cells #[strV l] 9)) 9 #[.string ⟨#[47]⟩]).alloc (.cells #[.int .i64 0] 3)
    simpa [splW] using this).below hb0 (by rw [hsz0]; omega))
  have bv : Blk W (w0.heap.size + 2) 3 #[.int .i64 0] := ((show Blk (splW w0 l) (w0.heap.size + 2) 3 #[.int .i64 0] from by
    have := Blk.new ((w0.alloc (.cells #[strV l] 9)).alloc (.cells #[.string ⟨#[47]⟩] 9)) 3 #[.int .i64 0]
    simpa [splW] using this).below hb0 (by rw [hsz0]; omega))
  refine callsIn_of_wp Tryz.func90 rfl trivial ?_ rfl
  simp only [splC, Tryz.ntmps90, List.size_toArray, List.length_cons, List.length_nil, Nat.reduceAdd, Nat.reduceSub, Array.replicate_succ, Array.replicate_zero, List.push_toArray, List.append_toArray, List.nil_append, List.cons_append]
  have hp0 := (bp.cell 0).trans rfl
  simp only [List.getElem?_toArray, List.getElem?_cons_zero] at hp0
  gi_wp2
  gi_loopw [] (fun wr => ∃ (pre : List Cx) (r : List UInt8), Hid (Rf.comps l = pre.map (·.1) ++ Rf.comps r) ∧ r.length ≤ 60 ∧ J pre wr ∧ Blk wr w0.heap.size 9 #[strV r] ∧ Blk wr (w0.heap.size + 1) 9 #[.string ⟨#[47]⟩] ∧ Blk wr (w0.heap.size + 2) 3 #[.int .i64 0])
    (fun wr => strLen (wr.cell? ⟨w0.heap.size, 0, none⟩))
  case atStart => exact ⟨[], l, Lib.hid rfl, hlen, h0, bs, bp, bv⟩
  case round =>
    obtain ⟨pre, r, HC, hr, hj, cs, cp, cv⟩ := hrel
    have q0 : wr.cell? ⟨w0.heap.size, 0, none⟩ = some (strV r) := (cs.cell 0).trans rfl
    have q1 : wr.cell? ⟨w0.heap.size + 1, 0, none⟩ = some (.string ⟨#[47]⟩) := (cp.cell 0).trans rfl
    have q2 : wr.cell? ⟨w0.heap.size + 2, 0, none⟩ = some (.int .i64 0) := (cv.cell 0).trans rfl
    have HX := Lib.hid (Tryz.strings_Index_one ⟨r.toArray⟩ 47 wr)
    have HY := Lib.hid hY
    have HJ := Lib.hid hj
    clear hY hj hJ hJx h0 hb0 hW
    rcases Rf.split47 r with hno | ⟨x, r2, rfl, hno⟩
    · have hix : Lib.indexByte r 47 = -1 := by rw [indexByte_index, Rf.index_no hno]
      have hc := Lib.hid (show Rf.comps l = pre.map (·.1) ++ [r] from by rw [HC.out, Rf.comps_no hno])
      rw [show (⟨r.toArray⟩ : ByteArray).data.toList = r from rfl, hix] at HX
      have hpl : pre.length < (Rf.comps l).length := by rw [hc.out]; simp
      clear hix HC hno
      obtain ⟨fn, tmps, assign, body, hy, hR⟩ := HY.out pre ⟨r, hr⟩ wr HJ.out hpl
      gi_wp2_with (refine ⟨trivial, ?_⟩; gi_at_call 92; refine (callsIn_wide.2 HX.out).mono ?_; rintro e w' ⟨rfl, rfl⟩)
      refine hR.mono ?_
      rintro e W3 (⟨rfl, hJ3, hk3⟩ | ⟨rfl, hJx3⟩)
      · gi_wp2
        go_end0
        exact ⟨⟨_, rfl⟩, .inl ⟨_, by rw [hc.out]; simp, hJ3⟩⟩
      · gi_wp2
        go_end0
        exact ⟨⟨_, rfl⟩, .inr ⟨_, ⟨[], by rw [hc.out]; simp⟩, hJx3⟩⟩
    · have hix : Lib.indexByte (x ++ 47 :: r2) 47 = (x.length : Int) := by rw [indexByte_index, Rf.index_sep r2 hno]
      have hc := Lib.hid (show Rf.comps l = pre.map (·.1) ++ x :: Rf.comps r2 from by rw [HC.out, Rf.comps_sep r2 hno])
      rw [show (⟨(x ++ 47 :: r2).toArray⟩ : ByteArray).data.toList = x ++ 47 :: r2 from rfl, hix] at HX
      have hpl : pre.length < (Rf.comps l).length := by rw [hc.out]; simp
      have e1 : (⟨(x ++ 47 :: r2).toArray⟩ : ByteArray).extract 0 x.length = ⟨x.toArray⟩ := by rw [extract_take]; simp
      have e2 : ∀ n, (x ++ 47 :: r2).length ≤ n → (⟨(x ++ 47 :: r2).toArray⟩ : ByteArray).extract (x.length + 1) n = ⟨r2.toArray⟩ := fun n hn => by rw [extract_drop _ _ _ hn]; simp [← List.drop_drop]
      have hl1 : x.length + r2.length + 1 ≤ 60 := by simpa [Nat.add_assoc] using hr
      have hsz : (⟨(x ++ 47 :: r2).toArray⟩ : ByteArray).size = x.length + r2.length + 1 := by simp [ByteArray.size]; omega
      clear hix HC hno hr
      obtain ⟨fn, tmps, assign, body, hy, hR⟩ := HY.out pre ⟨x, by omega⟩ wr HJ.out hpl
      gi_wp2_with (refine ⟨trivial, ?_⟩; gi_at_call 92; refine (callsIn_wide.2 HX.out).mono ?_; rintro e w' ⟨rfl, rfl⟩)
      refine hR.mono ?_
      rintro e W3 (⟨rfl, hJ3, hk3⟩ | ⟨rfl, hJx3⟩)
      · have cs3 := cs.below hk3 (by omega)
        have cp3 := cp.below hk3 (by omega)
        have cv3 := cv.below hk3 (by omega)
        have p0 : W3.cell? ⟨w0.heap.size, 0, none⟩ = some (strV (x ++ 47 :: r2)) := (cs3.cell 0).trans rfl
        have p1 : W3.cell? ⟨w0.heap.size + 1, 0, none⟩ = some (.string ⟨#[47]⟩) := (cp3.cell 0).trans rfl
        have pf := cs3.frozen 0
        have e2' := e2 _ (Nat.le_refl _)
        have e2'' := e2 (x.length + r2.length + 1) (by simp; omega)
        gi_wp2
        go_roundw
        case rel => exact ⟨_, r2, Lib.hid (by rw [hc.out]; simp), by omega, hB _ _ _ hJ3, by simpa using cs3.set_ 0 (strV r2), cp3.far (by simp) _, cv3.far (by simp) _⟩
        case measure =>
          have m1 := ((cs3.set_ 0 (strV r2)).cell 0)
          have m2 := (cs.cell 0)
          simp only [Array.setIfInBounds, List.size_toArray, List.length_cons, List.length_nil, List.getElem?_toArray, List.getElem?_cons_zero] at m1 m2
          simp at m1
          rw [m1, m2]
          simp [strLen, ByteArray.size]; omega
      · gi_wp2
        refine bodyPost_ret (results_none rfl _ _ _) rfl ?_
        exact ⟨⟨_, rfl⟩, .inr ⟨_, ⟨Rf.comps r2, by rw [hc.out]; simp⟩, hJx3⟩⟩
end Go.Proofs.YtjljknocnebnaaaGreatDoor
