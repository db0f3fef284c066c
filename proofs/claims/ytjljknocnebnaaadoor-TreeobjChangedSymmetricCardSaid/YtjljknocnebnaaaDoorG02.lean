/-
  Objects and stores, the plain law. No program in sight.
  Objects and stores: what their values and slices read as.
  Paths: their components. No program in sight.
  File trees: paths, lines, cutting at newlines. No program in sight.
  Views, fourteenth part: an append at a step of a region that draws its order, and which block the row then owns.
  Views, sixteenth part: an append of a slice at a step of a region that draws its order.
  File trees: what their values and slices read as.
  DERIVED: THE SHELF's CONTRACTS AT THIS DUMP, IN PLAIN WORDS (tools/lay-plain.mjs out of 'YtjljknocnebnaaaDoorShelf0.lean', which tools/lay-shelf.mjs wrote): THE SAME DECLARATIONS UNDER THE SAME NAMES: 'import', 'namespace', 'open', 'def', 'theorem' AND NOTHING ELSE: no command of the shelf's: FOR A HAND-IN. Each laying: the table of numbers ('.._ren') and one theorem, a field a fact of the dump's own or the kernel's comparison; each contract: ONE APPLICATION.
  A range over a function whose iterator writes a variable that it has captured: a block of cells that lay before the loop began.
-/
import Derived.Test.YtjljknocnebnaaaDoorG01
import Derived.Lib.Index
import Derived.Lib.SplitLaws
import Derived.ProofKit
import Derived.Lib.Strings
import Derived.Shelf.Small.Strs
import Derived.Shelf.Small.Wraps
import Derived.Shelf.Strings.Search1
import Derived.Shelf.Strings.Search2
import Derived.Shelf.Strings.Search3
import Derived.Shelf.Strings.Count
import Derived.Shelf.Sort.Plain
import Derived.Shelf.Strings.Prefix
import Derived.Shelf.Strings.Split
import Derived.Shelf.Slices.Turned
import Derived.Ground.Names2Prog
import Derived.Shelf.Slices.In.SortNone
import Derived.Test.YtjljknocnebnaaaDoorChecked
import Derived.RangeFuncNested
namespace Ob
structure O where
  kind : Int
  links : List Int
  data : List UInt8
instance : Inhabited O := ⟨⟨0, [], []⟩⟩
structure S where
  dig : Int
  ob : O
instance : Inhabited S := ⟨⟨0, default⟩⟩
def lnFrom (ls : List Int) (i : Nat) : Int × Int := if h : i < ls.length then if ls[i] < 0 ∨ 2305843009213693951 ≤ ls[i] then (3, (i : Int)) else lnFrom ls (i + 1) else (0, 0)
termination_by ls.length - i
theorem lnFrom_end (ls : List Int) (i : Nat) (h : ls.length ≤ i) : lnFrom ls i = (0, 0) := by rw [lnFrom, dif_neg (by omega)]
theorem lnFrom_bad (ls : List Int) (i : Nat) (h : i < ls.length) (hc : ls[i] < 0 ∨ 2305843009213693951 ≤ ls[i]) : lnFrom ls i = (3, (i : Int)) := by rw [lnFrom, dif_pos h, if_pos hc]
theorem lnFrom_next (ls : List Int) (i : Nat) (h : i < ls.length) (hc : ¬ (ls[i] < 0 ∨ 2305843009213693951 ≤ ls[i])) : lnFrom ls i = lnFrom ls (i + 1) := by rw [lnFrom, dif_pos h, if_neg hc]
theorem lnFrom_ok (ls : List Int) : ∀ n i, ls.length - i ≤ n → (lnFrom ls i).1 = 0 → lnFrom ls i = (0, 0) ∧ ∀ j (h : j < ls.length), i ≤ j → 0 ≤ ls[j] ∧ ls[j] < 2305843009213693951
  | n, i, hn, h => by
    by_cases hi : i < ls.length
    · by_cases hc : ls[i] < 0 ∨ 2305843009213693951 ≤ ls[i]
      · rw [lnFrom_bad ls i hi hc] at h; cases h
      · obtain _ | n := n
        · omega
        · rw [lnFrom_next ls i hi hc] at h ⊢
          obtain ⟨h1, h2⟩ := lnFrom_ok ls n (i + 1) (by omega) h
          refine ⟨h1, fun j hj hij => ?_⟩
          by_cases e : j = i
          · subst e; omega
          · exact h2 j hj (by omega)
    · rw [lnFrom_end ls i (by omega)]; exact ⟨rfl, fun j hj hij => by omega⟩
theorem lnFrom_all (ls : List Int) (h : ∀ j (h : j < ls.length), 0 ≤ ls[j] ∧ ls[j] < 2305843009213693951) : ∀ n i, ls.length - i ≤ n → lnFrom ls i = (0, 0)
  | n, i, hn => by
    by_cases hi : i < ls.length
    · obtain _ | n := n
      · omega
      · rw [lnFrom_next ls i hi (by have := h i hi; omega)]; exact lnFrom_all ls h n (i + 1) (by omega)
    · exact lnFrom_end ls i (by omega)
/-- The fault of an object. -/
def obF (o : O) : Int × Int :=
  if o.kind < 1 ∨ 3 < o.kind then (4, 0) else if 30 < o.links.length then (2, 0) else if 1000 < o.data.length then (10, 0)
  else if o.kind = 1 ∧ 0 < o.links.length then (5, 0) else lnFrom o.links 0
structure Ok (o : O) : Prop where
  lo : 1 ≤ o.kind
  hi : o.kind ≤ 3
  ln : o.links.length ≤ 30
  dn : o.data.length ≤ 1000
  bl : o.kind = 1 → o.links = []
  all : ∀ j (h : j < o.links.length), 0 ≤ o.links[j] ∧ o.links[j] < 2305843009213693951
theorem obF_ok {o : O} (h : (obF o).1 = 0) : obF o = (0, 0) ∧ Ok o := by
  unfold obF at h ⊢
  split at h
  · cases h
  · rename_i h1
    rw [if_neg h1]
    split at h
    · cases h
    · rename_i h2
      rw [if_neg h2]
      split at h
      · cases h
      · rename_i h3
        rw [if_neg h3]
        split at h
        · cases h
        · rename_i h4
          rw [if_neg h4]
          obtain ⟨h5, h6⟩ := lnFrom_ok _ _ 0 (Nat.le_refl _) h
          refine ⟨h5, by omega, by omega, by omega, by omega, fun hk => List.eq_nil_of_length_eq_zero ?_, fun j hj => h6 j hj (Nat.zero_le _)⟩
          have := fun hh => h4 ⟨hk, hh⟩
          omega
theorem Ok.f {o : O} (h : Ok o) : obF o = (0, 0) := by
  obtain ⟨h1, h2, h3, h4, h5, h6⟩ := h
  unfold obF
  rw [if_neg (by omega), if_neg (by omega), if_neg (by omega), if_neg (by rintro ⟨a, b⟩; rw [h5 a] at b; simp at b)]
  exact lnFrom_all _ h6 _ 0 (Nat.le_refl _)
/-- A number as eight bytes. -/
def wide (n : Nat) : List UInt8 := (List.range 8).map fun j => UInt8.ofNat (n / 256 ^ (7 - j))
@[simp] theorem wide_length (n : Nat) : (wide n).length = 8 := by simp [wide]
def lnB (ls : List Int) (i : Nat) : List UInt8 := (ls.take i).flatMap fun n => wide n.toNat
@[simp] theorem lnB_zero (ls : List Int) : lnB ls 0 = [] := rfl
theorem lnB_succ (ls : List Int) (i : Nat) (h : i < ls.length) : lnB ls (i + 1) = lnB ls i ++ wide ls[i].toNat := by
  unfold lnB; rw [List.take_succ_eq_append_getElem h, List.flatMap_append]; simp
@[simp] theorem lnB_length (ls : List Int) : ∀ i, i ≤ ls.length → (lnB ls i).length = 8 * i
  | 0, _ => rfl
  | i + 1, h => by rw [lnB_succ ls i (by omega), List.length_append, lnB_length ls i (by omega), wide_length]; omega
/-- The bytes that are digested for an object. -/
def bytes (o : O) : List UInt8 := [UInt8.ofNat o.kind.toNat, UInt8.ofNat o.links.length] ++ lnB o.links o.links.length ++ o.data
theorem bytes_length (o : O) : (bytes o).length = 2 + 8 * o.links.length + o.data.length := by simp [bytes]; omega
def dig (o : O) : Nat := Dg.ofL (bytes o)
theorem dig_lt (o : O) : dig o < 2305843009213693951 := Dg.ofTo_lt _ _ (Nat.le_refl _)
/-! ### stores -/
def it (s : List S) (i : Nat) : S := s[i]?.getD default
theorem it_eq (s : List S) (i : Nat) (h : i < s.length) : s[i] = it s i := by unfold it; rw [List.getElem?_eq_getElem h]; rfl
def code (s : List S) (i : Nat) : Int :=
  if (obF (it s i).ob).1 ≠ 0 then (obF (it s i).ob).1 else if ((dig (it s i).ob : Nat) : Int) ≠ (it s i).dig then 18
  else if 0 < i ∧ (it s i).dig ≤ (it s (i - 1)).dig then 5 else 0
def stFrom (s : List S) (i : Nat) : Int × Int := if i < s.length then if code s i ≠ 0 then (code s i, (i : Int)) else stFrom s (i + 1) else (0, 0)
termination_by s.length - i
theorem stFrom_end (s : List S) (i : Nat) (h : s.length ≤ i) : stFrom s i = (0, 0) := by rw [stFrom, if_neg (by omega)]
theorem stFrom_bad (s : List S) (i : Nat) (h : i < s.length) (hc : code s i ≠ 0) : stFrom s i = (code s i, (i : Int)) := by rw [stFrom, if_pos h, if_pos hc]
theorem stFrom_next (s : List S) (i : Nat) (h : i < s.length) (hc : code s i = 0) : stFrom s i = stFrom s (i + 1) := by rw [stFrom, if_pos h, if_neg (by omega)]
def stF (s : List S) : Int × Int := if 40 < s.length then (2, 0) else stFrom s 0
/-- A valid store. -/
structure StOk (s : List S) : Prop where
  len : s.length ≤ 40
  ok : ∀ i, i < s.length → Ok (it s i).ob
  eq : ∀ i, i < s.length → (it s i).dig = ((dig (it s i).ob : Nat) : Int)
  lt : ∀ i, i + 1 < s.length → (it s i).dig < (it s (i + 1)).dig
theorem code_zero {s : List S} {i : Nat} (h : code s i = 0) : Ok (it s i).ob ∧ (it s i).dig = ((dig (it s i).ob : Nat) : Int) ∧ (0 < i → (it s (i - 1)).dig < (it s i).dig) := by
  unfold code at h
  split at h
  · rename_i h1; exact absurd h h1
  · rename_i h1
    split at h
    · cases h
    · rename_i h2
      split at h
      · cases h
      · rename_i h3
        refine ⟨(obF_ok (by simpa using h1)).2, by omega, fun hi => ?_⟩
        have := fun hh => h3 ⟨hi, hh⟩
        omega
theorem stFrom_ok (s : List S) : ∀ n i, s.length - i ≤ n → (stFrom s i).1 = 0 → stFrom s i = (0, 0) ∧ ∀ j, j < s.length → i ≤ j → code s j = 0
  | n, i, hn, h => by
    by_cases hi : i < s.length
    · by_cases hc : code s i = 0
      · obtain _ | n := n
        · omega
        · rw [stFrom_next s i hi hc] at h ⊢
          obtain ⟨h1, h2⟩ := stFrom_ok s n (i + 1) (by omega) h
          refine ⟨h1, fun j hj hij => ?_⟩
          by_cases e : j = i
          · subst e; exact hc
          · exact h2 j hj (by omega)
      · rw [stFrom_bad s i hi hc] at h; exact absurd h hc
    · rw [stFrom_end s i (by omega)]; exact ⟨rfl, fun j hj hij => by omega⟩
theorem stF_ok {s : List S} (h : (stF s).1 = 0) : stF s = (0, 0) ∧ StOk s := by
  unfold stF at h ⊢
  split at h
  · cases h
  · rename_i hl
    rw [if_neg hl]
    obtain ⟨h1, h2⟩ := stFrom_ok s _ 0 (Nat.le_refl _) h
    refine ⟨h1, by omega, fun i hi => (code_zero (h2 i hi (Nat.zero_le _))).1, fun i hi => (code_zero (h2 i hi (Nat.zero_le _))).2.1, fun i hi => ?_⟩
    have := (code_zero (h2 (i + 1) hi (Nat.zero_le _))).2.2 (by omega)
    simpa using this
theorem StOk.code {s : List S} (h : StOk s) (i : Nat) (hi : i < s.length) : Ob.code s i = 0 := by
  unfold Ob.code
  rw [(h.ok i hi).f, if_neg (by simp), if_neg (by rw [h.eq i hi]; simp), if_neg]
  rintro ⟨h0, h1⟩
  have := h.lt (i - 1) (by omega)
  rw [show i - 1 + 1 = i by omega] at this
  omega
theorem stFrom_all (s : List S) (h : ∀ i, i < s.length → code s i = 0) : ∀ n i, s.length - i ≤ n → stFrom s i = (0, 0)
  | n, i, hn => by
    by_cases hi : i < s.length
    · obtain _ | n := n
      · omega
      · rw [stFrom_next s i hi (h i hi)]; exact stFrom_all s h n (i + 1) (by omega)
    · exact stFrom_end s i (by omega)
theorem StOk.f {s : List S} (h : StOk s) : stF s = (0, 0) := by
  have := h.len
  unfold stF; rw [if_neg (by omega)]; exact stFrom_all s h.code _ 0 (Nat.le_refl _)
theorem StOk.mono_ {s : List S} (h : StOk s) : ∀ d i, i + d < s.length → 0 < d → (it s i).dig < (it s (i + d)).dig
  | 0, _, _, hd => by omega
  | 1, i, hi, _ => h.lt i hi
  | d + 2, i, hi, _ => Int.lt_trans (h.mono_ (d + 1) i (by omega) (by omega)) (h.lt (i + (d + 1)) hi)
theorem StOk.mono {s : List S} (h : StOk s) {i j : Nat} (hij : i < j) (hj : j < s.length) : (it s i).dig < (it s j).dig := by
  have := h.mono_ (j - i) i (by omega) (by omega)
  rwa [show i + (j - i) = j by omega] at this
end Ob
namespace Go.Proofs.YtjljknocnebnaaaDoor
open Go.RowKit Go.V
set_option linter.unusedVariables false

/-- The slices of an object read as its links and its data. -/
structure ObA (w : World) (X : Nat → Prop) (o : Ob.O) (Al : Option Addr) (kl : Nat) (Ad : Option Addr) (kd : Nat) : Prop where
  kind : I64 o.kind
  all : ∀ (i : Nat) (h : i < o.links.length), I64 o.links[i]
  lk : o.links.length ≤ kl
  dk : o.data.length ≤ kd
  ll : o.links.length ≤ 140737488351232
  dl : o.data.length ≤ 140737488351232
  ls : SA w X Al (intsV o.links)
  ds : SA w X Ad (bytesV o.data)
/-- The value of an object. -/
abbrev obV (o : Ob.O) (Al : Option Addr) (kl : Nat) (Ad : Option Addr) (kd : Nat) : Value := .agg #[.int .i64 o.kind, .slice Al o.links.length kl, .slice Ad o.data.length kd]
/-- One stored object as four cells. -/
def StR (w : World) (X : Nat → Prop) (s : Ob.S) (cs : List Value) : Prop :=
  ∃ Al kl Ad kd, cs = [.int .i64 s.dig, .int .i64 s.ob.kind, .slice Al s.ob.links.length kl, .slice Ad s.ob.data.length kd] ∧ I64 s.dig ∧ ObA w X s.ob Al kl Ad kd
section
variable {w w' : World} {X X' : Nat → Prop}
theorem ObA.keep {o : Ob.O} {Al : Option Addr} {kl : Nat} {Ad : Option Addr} {kd : Nat} (h : ObA w X o Al kl Ad kd) (k : Keeps w X w' X') : ObA w' X' o Al kl Ad kd :=
  ⟨h.kind, h.all, h.lk, h.dk, h.ll, h.dl, h.ls.keep k, h.ds.keep k⟩
theorem StR.len (s : Ob.S) (cs : List Value) (h : StR w X s cs) : cs.length = 4 := by obtain ⟨_, _, _, _, rfl, _⟩ := h; rfl
theorem StR.keep (k : Keeps w X w' X') (s : Ob.S) (cs : List Value) (h : StR w X s cs) : StR w' X' s cs := by
  obtain ⟨Al, kl, Ad, kd, e, h1, h2⟩ := h; exact ⟨Al, kl, Ad, kd, e, h1, h2.keep k⟩
/-- The slice at A holds the stored objects. -/
def StV (w : World) (X : Nat → Prop) (A : Option Addr) (s : List Ob.S) : Prop := ∃ vs, SA w X A vs ∧ RowsR (StR w X) s vs
theorem StV.keep {A : Option Addr} {s : List Ob.S} (h : StV w X A s) (k : Keeps w X w' X') : StV w' X' A s := by
  obtain ⟨vs, h1, h2⟩ := h; exact ⟨vs, h1.keep k, h2.mono (StR.keep k)⟩
theorem StV.row {A : Option Addr} {s : List Ob.S} (h : StV w X A s) (i : Nat) (hi : i < s.length) : ∃ b off Al kl Ad kd, A = some ⟨b, off, none⟩ ∧ b < w.heap.size ∧ ¬ X b ∧
    w.cell? ⟨b, off + i * 4, none⟩ = some (.int .i64 (Ob.it s i).dig) ∧ w.cell? ⟨b, off + i * 4 + 1, none⟩ = some (.int .i64 (Ob.it s i).ob.kind) ∧
    w.cell? ⟨b, off + i * 4 + 2, none⟩ = some (.slice Al (Ob.it s i).ob.links.length kl) ∧ w.cell? ⟨b, off + i * 4 + 3, none⟩ = some (.slice Ad (Ob.it s i).ob.data.length kd) ∧
    I64 (Ob.it s i).dig ∧ ObA w X (Ob.it s i).ob Al kl Ad kd := by
  obtain ⟨us, h1, h2⟩ := h
  obtain ⟨b, off, cs, e, hb, hx, ⟨Al, kl, Ad, kd, rfl, k1, k2⟩, hc⟩ := SA.row StR.len (by omega) h1 h2 i hi
  rw [← Ob.it_eq s i hi]
  exact ⟨b, off, Al, kl, Ad, kd, e, hb, hx, hc 0 _ rfl, hc 1 _ rfl, hc 2 _ rfl, hc 3 _ rfl, k1, k2⟩
end
theorem free_below {w w' : World} (hb : Below w.heap.size w w') : Keeps w Free w' Free := Keeps.below hb (fun _ _ h => h)
theorem below_drew' {B : Nat} {a w : World} (h : Below B a w) : Below B a w.drew := below_drewN h 1
theorem gen_world {C : World → Prop} {w : World} (F : World → Prop) (hF : F w) (h : ∀ wz, F wz → C wz) : C w := h w hF
end Go.Proofs.YtjljknocnebnaaaDoor
namespace Rf
/-- The components of a name; now: what has come of the one at hand. -/
def cmp (now : List UInt8) : List UInt8 → List (List UInt8)
  | [] => [now]
  | c :: l => if c = 47 then now :: cmp [] l else cmp (now ++ [c]) l
def comps (l : List UInt8) : List (List UInt8) := cmp [] l
theorem cmp_no (now : List UInt8) : ∀ l : List UInt8, 47 ∉ l → cmp now l = [now ++ l]
  | [], _ => by simp [cmp]
  | c :: l, h => by
    rw [cmp, if_neg (fun e => h (by simp [e])), cmp_no _ l (fun h2 => h (List.mem_cons_of_mem _ h2))]
    simp
theorem cmp_sep (now : List UInt8) : ∀ a l : List UInt8, 47 ∉ a → cmp now (a ++ 47 :: l) = (now ++ a) :: comps l
  | [], l, _ => by simp [cmp, comps]
  | c :: a, l, h => by
    rw [List.cons_append, cmp, if_neg (fun e => h (by simp [e])), cmp_sep _ a l (fun h2 => h (List.mem_cons_of_mem _ h2))]
    simp
theorem comps_no {l : List UInt8} (h : 47 ∉ l) : comps l = [l] := by unfold comps; rw [cmp_no _ _ h]; rfl
theorem comps_sep {a : List UInt8} (l : List UInt8) (h : 47 ∉ a) : comps (a ++ 47 :: l) = a :: comps l := by unfold comps; rw [cmp_sep _ _ _ h]; rfl
theorem cmp_len (now : List UInt8) : ∀ l : List UInt8, (cmp now l).length ≤ l.length + 1
  | [] => by simp [cmp]
  | c :: l => by
    rw [cmp]; split
    · have := cmp_len [] l; simp; omega
    · have := cmp_len (now ++ [c]) l; simp; omega
theorem comps_len (l : List UInt8) : (comps l).length ≤ l.length + 1 := cmp_len [] l
theorem cmp_mem : ∀ (now l : List UInt8) (x : List UInt8), x ∈ cmp now l → x.length ≤ now.length + l.length
  | now, [], x, h => by simp [cmp] at h; subst h; simp
  | now, c :: l, x, h => by
    rw [cmp] at h; split at h
    · rcases List.mem_cons.1 h with rfl | h
      · omega
      · have := cmp_mem [] l x h; simp at this ⊢; omega
    · have := cmp_mem (now ++ [c]) l x h; simp at this ⊢; omega
theorem comps_mem (l x : List UInt8) (h : x ∈ comps l) : x.length ≤ l.length := by have := cmp_mem [] l x h; simpa using this
theorem comps_ne (l : List UInt8) : comps l ≠ [] := by
  unfold comps
  generalize ([] : List UInt8) = now
  induction l generalizing now with
  | nil => simp [cmp]
  | cons c l ih => rw [cmp]; split <;> simp [ih]
/-- A list is without a slash, or it is split at the first one. -/
theorem split47 (l : List UInt8) : 47 ∉ l ∨ ∃ a r, l = a ++ 47 :: r ∧ 47 ∉ a := by
  induction l with
  | nil => exact .inl (by simp)
  | cons c l ih =>
    by_cases hc : c = 47
    · exact .inr ⟨[], l, by simp [hc], by simp⟩
    · rcases ih with h | ⟨a, r, h, ha⟩
      · exact .inl (by simp [h, Ne.symm hc])
      · exact .inr ⟨c :: a, r, by simp [h], by simp [ha, Ne.symm hc]⟩
/-! ### where a slash is -/
theorem index_no : ∀ {l : List UInt8}, 47 ∉ l → Go.Lib.index l [47] = -1
  | [], _ => by simp [Go.Lib.index]
  | c :: l, h => by
    have ih := index_no (l := l) (fun h2 => h (List.mem_cons_of_mem _ h2))
    have hc : ¬ (47 : UInt8) = c := fun e => h (by simp [e])
    simp [Go.Lib.index, ih, List.isPrefixOf, hc]
theorem index_sep : ∀ {a : List UInt8} (r : List UInt8), 47 ∉ a → Go.Lib.index (a ++ 47 :: r) [47] = (a.length : Int)
  | [], r, _ => by simp [Go.Lib.index, List.isPrefixOf]
  | c :: a, r, h => by
    have ih := index_sep (a := a) r (fun h2 => h (List.mem_cons_of_mem _ h2))
    have hc : ¬ (47 : UInt8) = c := fun e => h (by simp [e])
    have hn : ¬ ((a.length : Int) = -1) := by omega
    rw [List.cons_append, Go.Lib.index]
    simp [ih, List.isPrefixOf, hc, hn]
end Rf
namespace Tr
abbrev Nm := List UInt8
/-- A file. -/
structure F where
  path : Nm
  lines : List Nm
deriving DecidableEq, Inhabited
/-- A letter of a path. -/
def letter (c : UInt8) : Bool := (decide (97 ≤ c.toNat) && decide (c.toNat ≤ 122)) || (decide (65 ≤ c.toNat) && decide (c.toNat ≤ 90)) || (decide (48 ≤ c.toNat) && decide (c.toNat ≤ 57)) || decide (c.toNat = 46) || decide (c.toNat = 95) || decide (c.toNat = 45)
/-- A part of a path. -/
def part (l : Nm) : Bool := decide (l ≠ []) && decide (l ≠ [46]) && decide (l ≠ [46, 46]) && l.all letter
def pathOk (l : Nm) : Bool := decide (l.length ≤ 60) && (Rf.comps l).all part
theorem letter_10 : letter 10 = false := by decide
theorem pathOk_len {l : Nm} (h : pathOk l = true) : l.length ≤ 60 := by unfold pathOk at h; simp at h; exact h.1
/-- Every byte of a list lies in a component, or is a slash. -/
theorem mem_cmp (x : UInt8) : ∀ (now l : List UInt8), x ∈ now ++ l → x = 47 ∨ ∃ p ∈ Rf.cmp now l, x ∈ p
  | now, [], h => .inr ⟨now, by simp [Rf.cmp], by simpa using h⟩
  | now, c :: l, h => by
    rw [Rf.cmp]
    split
    · rename_i hc
      rcases List.mem_append.1 h with h | h
      · exact .inr ⟨now, by simp, h⟩
      · rcases List.mem_cons.1 h with rfl | h
        · exact .inl hc
        · rcases mem_cmp x [] l (by simpa using h) with h | ⟨p, hp, hx⟩
          · exact .inl h
          · exact .inr ⟨p, List.mem_cons_of_mem _ hp, hx⟩
    · exact mem_cmp x (now ++ [c]) l (by simpa using h)
theorem pathOk_nl {l : Nm} (h : pathOk l = true) : (10 : UInt8) ∉ l := by
  intro hm
  rcases mem_cmp 10 [] l (by simpa using hm) with h0 | ⟨p, hp, hx⟩
  · exact absurd h0 (by decide)
  · unfold pathOk at h
    rw [Bool.and_eq_true] at h
    have h2 := List.all_eq_true.1 h.2 p hp
    unfold part at h2
    rw [Bool.and_eq_true] at h2
    have := List.all_eq_true.1 h2.2 10 hx
    rw [letter_10] at this; cases this
/-- One path lies below the other one, or they are equal. -/
def rel (a b : Nm) : Bool := decide (a = b) || Go.Lib.hasPrefix a (b ++ [47]) || Go.Lib.hasPrefix b (a ++ [47])
/-- The fault of a text. -/
def lnFrom : List Nm → Nat → Int × Int
  | [], _ => (0, 0)
  | s :: l, i => if 80 < s.length then (2, (i : Int)) else if (10 : UInt8) ∈ s then (5, (i : Int)) else lnFrom l (i + 1)
def lnF (l : List Nm) : Int × Int := if 120 < l.length then (2, -1) else lnFrom l 0
theorem lnFrom_ok : ∀ (l : List Nm) (i : Nat), (lnFrom l i).1 = 0 → lnFrom l i = (0, 0) ∧ ∀ s ∈ l, s.length ≤ 80 ∧ (10 : UInt8) ∉ s
  | [], _, _ => ⟨rfl, fun _ h => by cases h⟩
  | s :: l, i, h => by
    rw [lnFrom] at h ⊢
    split at h
    · cases h
    · rename_i h1
      split at h
      · cases h
      · rename_i h2
        rw [if_neg h1, if_neg h2]
        obtain ⟨h3, h4⟩ := lnFrom_ok l (i + 1) h
        refine ⟨h3, fun x hx => ?_⟩
        rcases List.mem_cons.1 hx with rfl | hx
        · exact ⟨by omega, h2⟩
        · exact h4 x hx
theorem lnFrom_all : ∀ (l : List Nm) (i : Nat), (∀ s ∈ l, s.length ≤ 80 ∧ (10 : UInt8) ∉ s) → lnFrom l i = (0, 0)
  | [], _, _ => rfl
  | s :: l, i, h => by
    obtain ⟨h1, h2⟩ := h s (by simp)
    rw [lnFrom, if_neg (by omega), if_neg h2]
    exact lnFrom_all l _ fun x hx => h x (List.mem_cons_of_mem _ hx)
/-- A valid text. -/
structure LnOk (l : List Nm) : Prop where
  len : l.length ≤ 120
  all : ∀ s ∈ l, s.length ≤ 80 ∧ (10 : UInt8) ∉ s
theorem lnF_ok {l : List Nm} (h : (lnF l).1 = 0) : lnF l = (0, 0) ∧ LnOk l := by
  unfold lnF at h ⊢
  split at h
  · cases h
  · rename_i h1
    rw [if_neg h1]
    obtain ⟨h2, h3⟩ := lnFrom_ok l 0 h
    exact ⟨h2, by omega, h3⟩
theorem LnOk.f {l : List Nm} (h : LnOk l) : lnF l = (0, 0) := by
  unfold lnF; rw [if_neg (by have := h.len; omega)]; exact lnFrom_all l 0 h.all
/-- A path clashes with one of the files. -/
def clash (l : List F) (p : Nm) : Bool := l.any fun f => rel f.path p
def it (t : List F) (i : Nat) : F := t[i]?.getD default
theorem it_eq (t : List F) (i : Nat) (h : i < t.length) : t[i] = it t i := by unfold it; rw [List.getElem?_eq_getElem h]; rfl
/-- The error of the file number i. -/
def flC (t : List F) (i : Nat) : Int :=
  if pathOk (it t i).path = false then 12 else if 0 < i ∧ ¬ (it t (i - 1)).path < (it t i).path then 5 else if clash (t.take i) (it t i).path = true then 7 else (lnF (it t i).lines).1
def vlFrom (t : List F) (i : Nat) : Int × Int := if i < t.length then if flC t i ≠ 0 then (flC t i, (i : Int)) else vlFrom t (i + 1) else (0, 0)
termination_by t.length - i
theorem vlFrom_end (t : List F) (i : Nat) (h : t.length ≤ i) : vlFrom t i = (0, 0) := by rw [vlFrom, if_neg (by omega)]
theorem vlFrom_bad (t : List F) (i : Nat) (h : i < t.length) (hc : flC t i ≠ 0) : vlFrom t i = (flC t i, (i : Int)) := by rw [vlFrom, if_pos h, if_pos hc]
theorem vlFrom_next (t : List F) (i : Nat) (h : i < t.length) (hc : flC t i = 0) : vlFrom t i = vlFrom t (i + 1) := by rw [vlFrom, if_pos h, if_neg (by omega)]
/-- The fault of a file tree. -/
def vlF (t : List F) : Int × Int := if 24 < t.length then (2, -1) else vlFrom t 0
/-- A valid file tree. -/
structure VOk (t : List F) : Prop where
  len : t.length ≤ 24
  path : ∀ i, i < t.length → pathOk (it t i).path = true
  lt : ∀ i, i + 1 < t.length → (it t i).path < (it t (i + 1)).path
  far : ∀ i j, i < t.length → j < i → rel (it t j).path (it t i).path = false
  lines : ∀ i, i < t.length → LnOk (it t i).lines
theorem clash_iff (t : List F) (i : Nat) (hi : i ≤ t.length) (p : Nm) : clash (t.take i) p = false ↔ ∀ j, j < i → rel (it t j).path p = false := by
  unfold clash
  rw [List.any_eq_false]
  constructor
  · intro h j hj
    have hj2 : j < (t.take i).length := by simp; omega
    have := h _ (List.getElem_mem hj2)
    rw [List.getElem_take, it_eq t j (by omega)] at this
    simpa using this
  · intro h x hx
    obtain ⟨j, hj, rfl⟩ := List.mem_iff_getElem.1 hx
    rw [List.getElem_take, it_eq t j (by simp at hj; omega)]
    rw [h j (by simp at hj; omega)]; decide
theorem flC_zero {t : List F} {i : Nat} (hi : i < t.length) (h : flC t i = 0) : pathOk (it t i).path = true ∧ (0 < i → (it t (i - 1)).path < (it t i).path) ∧ (∀ j, j < i → rel (it t j).path (it t i).path = false) ∧ LnOk (it t i).lines := by
  unfold flC at h
  split at h
  · cases h
  · rename_i h1
    split at h
    · cases h
    · rename_i h2
      split at h
      · cases h
      · rename_i h3
        refine ⟨by simpa using h1, fun h0 => Classical.byContradiction fun hc => h2 ⟨h0, hc⟩, (clash_iff t i (by omega) _).1 (by simpa using h3), (lnF_ok h).2⟩
theorem vlFrom_ok (t : List F) : ∀ n i, t.length - i ≤ n → (vlFrom t i).1 = 0 → vlFrom t i = (0, 0) ∧ ∀ j, j < t.length → i ≤ j → flC t j = 0
  | n, i, hn, h => by
    by_cases hi : i < t.length
    · by_cases hc : flC t i = 0
      · obtain _ | n := n
        · omega
        · rw [vlFrom_next t i hi hc] at h ⊢
          obtain ⟨h1, h2⟩ := vlFrom_ok t n (i + 1) (by omega) h
          refine ⟨h1, fun j hj hij => ?_⟩
          by_cases e : j = i
          · subst e; exact hc
          · exact h2 j hj (by omega)
      · rw [vlFrom_bad t i hi hc] at h; exact absurd h hc
    · rw [vlFrom_end t i (by omega)]; exact ⟨rfl, fun j hj hij => by omega⟩
theorem vlF_ok {t : List F} (h : (vlF t).1 = 0) : vlF t = (0, 0) ∧ VOk t := by
  unfold vlF at h ⊢
  split at h
  · cases h
  · rename_i hl
    rw [if_neg hl]
    obtain ⟨h1, h2⟩ := vlFrom_ok t _ 0 (Nat.le_refl _) h
    refine ⟨h1, by omega, fun i hi => (flC_zero hi (h2 i hi (Nat.zero_le _))).1, fun i hi => ?_, fun i j hi hj => (flC_zero hi (h2 i hi (Nat.zero_le _))).2.2.1 j hj, fun i hi => (flC_zero hi (h2 i hi (Nat.zero_le _))).2.2.2⟩
    have := (flC_zero hi (h2 (i + 1) hi (Nat.zero_le _))).2.1 (by omega)
    simpa using this
theorem VOk.c {t : List F} (h : VOk t) (i : Nat) (hi : i < t.length) : flC t i = 0 := by
  unfold flC
  rw [if_neg (by rw [h.path i hi]; decide), if_neg, if_neg, (h.lines i hi).f]
  · rw [(clash_iff t i (by omega) _).2 (fun j hj => h.far i j hi hj)]; decide
  · rintro ⟨h0, h1⟩
    have := h.lt (i - 1) (by omega)
    rw [show i - 1 + 1 = i by omega] at this
    exact h1 this
theorem vlFrom_all (t : List F) (h : ∀ i, i < t.length → flC t i = 0) : ∀ n i, t.length - i ≤ n → vlFrom t i = (0, 0)
  | n, i, hn => by
    by_cases hi : i < t.length
    · obtain _ | n := n
      · omega
      · rw [vlFrom_next t i hi (h i hi)]; exact vlFrom_all t h n (i + 1) (by omega)
    · exact vlFrom_end t i (by omega)
theorem VOk.f {t : List F} (h : VOk t) : vlF t = (0, 0) := by
  have := h.len
  unfold vlF; rw [if_neg (by omega)]; exact vlFrom_all t h.c _ 0 (Nat.le_refl _)
theorem LnOk.nil : LnOk [] := ⟨by simp, fun _ h => by cases h⟩
/-- The paths alone. -/
def bare (t : List F) : List F := t.map fun f => ⟨f.path, []⟩
theorem it_bare (t : List F) (i : Nat) (hi : i < t.length) : it (bare t) i = ⟨(it t i).path, []⟩ := by
  rw [← it_eq (bare t) i (by simpa [bare] using hi), ← it_eq t i hi]; simp [bare]
theorem VOk.bare {t : List F} (h : VOk t) : VOk (Tr.bare t) := by
  have hl : (Tr.bare t).length = t.length := by simp [Tr.bare]
  refine ⟨by rw [hl]; exact h.len, fun i hi => ?_, fun i hi => ?_, fun i j hi hj => ?_, fun i hi => ?_⟩
  · rw [it_bare t i (by omega)]; exact h.path i (by omega)
  · rw [it_bare t i (by omega), it_bare t (i + 1) (by omega)]; exact h.lt i (by omega)
  · rw [it_bare t i (by omega), it_bare t j (by omega)]; exact h.far i j (by omega) hj
  · rw [it_bare t i (by omega)]; exact LnOk.nil
/-- One file alone. -/
theorem VOk.one {p : Nm} {l : List Nm} (h : pathOk p = true) (k : LnOk l) : VOk [⟨p, l⟩] := by
  refine ⟨by simp, fun i hi => ?_, fun i hi => by simp at hi, fun i j hi hj => by simp at hi; omega, fun i hi => ?_⟩
  · obtain rfl : i = 0 := by simpa using hi
    exact h
  · obtain rfl : i = 0 := by simpa using hi
    exact k
/-! ### cutting at newlines -/
/-- Cut at newlines; now: what has come of the line at hand. -/
def cutL (now : Nm) : List UInt8 → List Nm × Nm
  | [] => ([], now)
  | c :: l => if c = 10 then (now :: (cutL [] l).1, (cutL [] l).2) else cutL (now ++ [c]) l
def cut (b : List UInt8) : List Nm × Nm := cutL [] b
theorem cutL_no (now : Nm) : ∀ l : List UInt8, 10 ∉ l → cutL now l = ([], now ++ l)
  | [], _ => by simp [cutL]
  | c :: l, h => by
    rw [cutL, if_neg (fun e => h (by simp [e])), cutL_no _ l (fun h2 => h (List.mem_cons_of_mem _ h2))]
    simp
theorem cutL_sep (now : Nm) : ∀ a l : List UInt8, 10 ∉ a → cutL now (a ++ 10 :: l) = ((now ++ a) :: (cut l).1, (cut l).2)
  | [], l, _ => by simp [cutL, cut]
  | c :: a, l, h => by
    rw [List.cons_append, cutL, if_neg (fun e => h (by simp [e])), cutL_sep _ a l (fun h2 => h (List.mem_cons_of_mem _ h2))]
    simp
theorem cut_sep {a : List UInt8} (l : List UInt8) (h : 10 ∉ a) : cut (a ++ 10 :: l) = (a :: (cut l).1, (cut l).2) := by unfold cut; rw [cutL_sep _ _ _ h]; rfl
/-- Lines, each followed by a newline. -/
def joined (l : List Nm) : List UInt8 := l.flatMap fun s => s ++ [10]
theorem joined_snoc (l : List Nm) (s : Nm) : joined (l ++ [s]) = joined l ++ s ++ [10] := by unfold joined; rw [List.flatMap_append]; simp
theorem joined_cons (s : Nm) (l : List Nm) : joined (s :: l) = s ++ 10 :: joined l := by unfold joined; simp
theorem cut_joined : ∀ l : List Nm, (∀ s ∈ l, (10 : UInt8) ∉ s) → cut (joined l) = (l, [])
  | [], _ => rfl
  | s :: l, h => by rw [joined_cons, cut_sep _ (h s (by simp)), cut_joined l (fun x hx => h x (List.mem_cons_of_mem _ hx))]
theorem split10 (l : List UInt8) : 10 ∉ l ∨ ∃ a r, l = a ++ 10 :: r ∧ 10 ∉ a := by
  induction l with
  | nil => exact .inl (by simp)
  | cons c l ih =>
    by_cases hc : c = 10
    · exact .inr ⟨[], l, by simp [hc], by simp⟩
    · rcases ih with h | ⟨a, r, h, ha⟩
      · exact .inl (by simp [h, Ne.symm hc])
      · exact .inr ⟨c :: a, r, by simp [h], by simp [ha, Ne.symm hc]⟩
theorem cut_join (n : Nat) : ∀ (b : List UInt8), b.length ≤ n → joined (cut b).1 ++ (cut b).2 = b := by
  induction n with
  | zero =>
    intro b hb
    obtain rfl : b = [] := List.eq_nil_of_length_eq_zero (by omega)
    rfl
  | succ n ih =>
    intro b hn
    rcases split10 b with h | ⟨a, r, rfl, h⟩
    · unfold cut; rw [cutL_no _ _ h]; simp [joined]
    · rw [cut_sep r h, joined_cons]
      have := ih r (by simp at hn; omega)
      rw [List.append_assoc, List.cons_append, this]
theorem cut_nl (n : Nat) : ∀ (b : List UInt8), b.length ≤ n → (∀ s ∈ (cut b).1, (10 : UInt8) ∉ s) ∧ (10 : UInt8) ∉ (cut b).2 := by
  induction n with
  | zero =>
    intro b hb
    obtain rfl : b = [] := List.eq_nil_of_length_eq_zero (by omega)
    exact ⟨fun _ h => (List.not_mem_nil h).elim, List.not_mem_nil⟩
  | succ n ih =>
    intro b hb
    rcases split10 b with h | ⟨a, r, rfl, h⟩
    · unfold cut; rw [cutL_no _ _ h]; exact ⟨fun _ h => (List.not_mem_nil h).elim, by simpa using h⟩
    · rw [cut_sep r h]
      obtain ⟨h1, h2⟩ := ih r (by simp at hb; omega)
      refine ⟨fun s hs => ?_, h2⟩
      rcases List.mem_cons.1 hs with rfl | hs
      · exact h
      · exact h1 s hs
theorem index10_no : ∀ {l : List UInt8}, 10 ∉ l → Go.Lib.index l [10] = -1
  | [], _ => by simp [Go.Lib.index]
  | c :: l, h => by
    have ih := index10_no (l := l) (fun h2 => h (List.mem_cons_of_mem _ h2))
    have hc : ¬ (10 : UInt8) = c := fun e => h (by simp [e])
    simp [Go.Lib.index, ih, List.isPrefixOf, hc]
theorem index10_sep : ∀ {a : List UInt8} (r : List UInt8), 10 ∉ a → Go.Lib.index (a ++ 10 :: r) [10] = (a.length : Int)
  | [], r, _ => by simp [Go.Lib.index, List.isPrefixOf]
  | c :: a, r, h => by
    have ih := index10_sep (a := a) r (fun h2 => h (List.mem_cons_of_mem _ h2))
    have hc : ¬ (10 : UInt8) = c := fun e => h (by simp [e])
    have hn : ¬ ((a.length : Int) = -1) := by omega
    rw [List.cons_append, Go.Lib.index]
    simp [ih, List.isPrefixOf, hc, hn]
/-- The library's 'Split' at a newline: what is cut if a newline follows. -/
theorem split_cut (n : Nat) : ∀ (b : List UInt8), b.length ≤ n → Go.Lib.splitK [10] 0 (Go.Lib.count b [10]) b = (cut (b ++ [10])).1 := by
  induction n with
  | zero =>
    intro b hb
    obtain rfl : b = [] := List.eq_nil_of_length_eq_zero (by omega)
    rfl
  | succ n ih =>
    intro b hn
    rcases split10 b with h | ⟨a, r, rfl, h⟩
    · rw [Go.Lib.count_miss (index10_no h), cut_sep (a := b) [] h]; rfl
    · have hi := index10_sep r h
      have hd : (a ++ 10 :: r).drop (a.length + ([10] : List UInt8).length) = r := by
        rw [List.drop_append]; simp
      rw [Go.Lib.count_hit (i := a.length) (by simp) hi, hd, Nat.add_comm, Go.Lib.splitK, hi]
      have hm : ¬ ((a.length : Int) == -1) = true := fun e => by have := beq_iff_eq.1 e; omega
      rw [if_neg hm, Int.toNat_natCast, hd, Nat.add_zero, List.take_left' rfl, ih r (by simp at hn; omega), List.append_assoc, List.cons_append, cut_sep _ h]
theorem cut_last (n : Nat) : ∀ (x : List UInt8), x.length ≤ n → (cut (x ++ [10])).2 = [] := by
  induction n with
  | zero =>
    intro b hb
    obtain rfl : b = [] := List.eq_nil_of_length_eq_zero (by omega)
    rfl
  | succ n ih =>
    intro x hn
    rcases split10 x with h | ⟨a, r, rfl, h⟩
    · rw [cut_sep [] h]; rfl
    · rw [List.append_assoc, List.cons_append, cut_sep _ h]
      exact ih r (by simp at hn; omega)
/-- Data that ends with a newline. -/
theorem cut_end_iff (b : List UInt8) : (cut b).2 = [] ↔ b = [] ∨ ∃ x, b = x ++ [10] := by
  constructor
  · intro h
    have hj := cut_join b.length b (Nat.le_refl _)
    rw [h, List.append_nil] at hj
    rcases hc : (cut b).1.reverse with _ | ⟨s, l⟩
    · left
      rw [List.reverse_eq_nil_iff.1 hc] at hj
      exact hj.symm
    · right
      have : (cut b).1 = l.reverse ++ [s] := by rw [← List.reverse_reverse (cut b).1, hc]; simp
      rw [this, joined_snoc] at hj
      exact ⟨joined l.reverse ++ s, hj.symm⟩
  · rintro (rfl | ⟨x, rfl⟩)
    · rfl
    · exact cut_last x.length x (Nat.le_refl _)
end Tr
namespace Go.V
open Go.RowKit

section
variable {P : Program} (w : World)
theorem step_appNo {ops : Array Oper} {o : Oper} {a : Act} {K : Act → World → Prop} {Q : Exit → Act → World → Prop} {E : Prop} (hgd : o.guard = none) (s x : Operand) (t : TypeId)
    (ho : o.op = .call { callee := .builtin .append, args := #[s, x], argTypes := #[t, t] })
    (base : Nat) (e : TypeId) (i : TypeInfo) (z : Value) (size bytes : Nat) (ht : P.underlying t = some (.slice e)) (hi : P.info? e = some i) (hz : i.zero = some z)
    (hsize : i.size = size) (hby : i.bytes = bytes) (hzs : z.cells.size = size) (hsz : 0 < size)
    (A : Option Addr) (n c : Nat) (xs : List Value) (hs : a.eval s = .slice A n c) (hown : w.ownsRow base e size (.slice A n c) n xs)
    (g : Nat) (cx : Nat) (news : List Value) (hx : a.eval x = .slice (some ⟨g, 0, none⟩) 1 cx) (hl : news.length = size) (hu : ∀ (j : Nat) v, news[j]? = some v → w.cell? ⟨g, j, none⟩ = some v) (h1 : ∀ u ∈ news, u.oneCell' = true)
    (h63 : n + 1 ≤ maxLen) (hbytes : (n + 1) * bytes ≤ 140737488355328) (hbase : base ≤ w.heap.size)
    (h : ∀ gd c' w', w'.ownsRow base e size (.slice (some ⟨gd, 0, none⟩) (n + 1) c') (n + 1) (xs ++ news) → w.grownBy w' (Value.slice A n c).ownBlock →
      ((Value.slice (some ⟨gd, 0, none⟩) (n + 1) c').ownBlock = (Value.slice A n c).ownBlock ∨ (Value.slice (some ⟨gd, 0, none⟩) (n + 1) c').ownBlock = some w.heap.size) → K (a.put o.dst (.slice (some ⟨gd, 0, none⟩) (n + 1) c')) w') :
    if Region.wanted o (yielded ops a.tmps) = true then Oper.wp P o a w K Q else E := by
  refine step_append_lies w hgd s x t ho base e i z size bytes ht hi hz hsize hby hzs hsz (.slice A n c) n xs hs hown ⟨g, 0, none⟩ 1 cx news hx (by simpa using hl) ?_ h1 (by omega) h63 hbytes hbase w.heap.size rfl ?_
  · intro j v hj
    have := hu j v hj
    by_cases h0 : j = 0
    · subst h0; simpa [Addr.add] using this
    · simpa [Addr.add, h0] using this
  · intro gd cap w' h2 h3 h4 _
    refine h gd cap w' h2 h3 ?_
    rcases h4 with h4 | h4
    · exact .inl h4.symm
    · exact .inr (by rw [h4]; rfl)
end
/-- Cells of a block just made, as a list. -/
theorem cells_new (w : World) (cs : Array Value) (t : TypeId) (j : Nat) (v : Value) (h : cs.toList[j]? = some v) : (w.alloc (.cells cs t)).cell? ⟨w.heap.size, j, none⟩ = some v := by
  rw [(Blk.new w t cs).cell j, ← Array.getElem?_toList]; exact h
end Go.V
namespace Go.V
open Go.RowKit

section
variable {P : Program} (w : World)
theorem step_appM {ops : Array Oper} {o : Oper} {a : Act} {K : Act → World → Prop} {Q : Exit → Act → World → Prop} {E : Prop} (hgd : o.guard = none) (s x : Operand) (t : TypeId)
    (ho : o.op = .call { callee := .builtin .append, args := #[s, x], argTypes := #[t, t] })
    (base : Nat) (e : TypeId) (i : TypeInfo) (z : Value) (size bytes : Nat) (ht : P.underlying t = some (.slice e)) (hi : P.info? e = some i) (hz : i.zero = some z)
    (hsize : i.size = size) (hby : i.bytes = bytes) (hzs : z.cells.size = size) (hsz : 0 < size)
    (A : Option Addr) (n c : Nat) (xs : List Value) (hs : a.eval s = .slice A n c) (hown : w.ownsRow base e size (.slice A n c) n xs)
    (B : Nat) (A2 : Option Addr) (m c2 : Nat) (news : List Value) (hx : a.eval x = .slice A2 m c2) (hl : news.length = m * size) (hr : SV w B A2 news) (h1 : ∀ u ∈ news, u.oneCell' = true)
    (h63 : n + m ≤ maxLen) (hbytes : (n + m) * bytes ≤ 140737488355328) (hbase : base ≤ w.heap.size)
    (h : ∀ A' c' w', w'.ownsRow base e size (.slice A' (n + m) c') (n + m) (xs ++ news) → w.grownBy w' (Value.slice A n c).ownBlock → n + m ≤ c' → K (a.put o.dst (.slice A' (n + m) c')) w') :
    if Region.wanted o (yielded ops a.tmps) = true then Oper.wp P o a w K Q else E := by
  have hw : Region.wanted o (yielded ops a.tmps) = true := by simp [Region.wanted, hgd]
  rw [if_pos hw]
  refine wp_append_sv w s x t ho base e i z size bytes ht hi hz hsize hby hzs hsz (.slice A n c) n xs hs hown B A2 m c2 news hx hl hr h1 h63 hbytes hbase fun v' w' h2 h3 _ => ?_
  obtain ⟨A', c', rfl, hc', _⟩ := own_form h2
  exact h A' c' w' h2 h3 hc'
end
end Go.V
namespace Fl
section
variable {α : Type} {f : α → List Go.Value} {k : Nat}
theorem len (hk : ∀ a, (f a).length = k) : ∀ l : List α, (l.flatMap f).length = l.length * k
  | [] => by simp
  | a :: l => by rw [List.flatMap_cons, List.length_append, hk, len hk l, List.length_cons, Nat.succ_mul]; omega
theorem take (hk : ∀ a, (f a).length = k) : ∀ (i : Nat) (l : List α), (l.take i).flatMap f = (l.flatMap f).take (i * k)
  | 0, l => by simp
  | i + 1, [] => by simp
  | i + 1, a :: l => by
    have e : (f a).take ((i + 1) * k) = f a := List.take_of_length_le (by rw [hk, Nat.succ_mul]; omega)
    rw [List.take_succ_cons, List.flatMap_cons, List.flatMap_cons, take hk i l, List.take_append, hk, e, Nat.succ_mul, Nat.add_sub_cancel]
theorem drop (hk : ∀ a, (f a).length = k) : ∀ (i : Nat) (l : List α), (l.drop i).flatMap f = (l.flatMap f).drop (i * k)
  | 0, l => by simp
  | i + 1, [] => by simp
  | i + 1, a :: l => by
    rw [List.drop_succ_cons, List.flatMap_cons, drop hk i l, Nat.succ_mul, Nat.add_comm, ← List.drop_drop, List.drop_left' (hk a)]
theorem get (hk : ∀ a, (f a).length = k) : ∀ (i : Nat) (l : List α) (hi : i < l.length) (j : Nat) (u : Go.Value), (f l[i])[j]? = some u → (l.flatMap f)[i * k + j]? = some u
  | 0, a :: l, hi, j, u, h => by
    have hj : j < (f a).length := (List.getElem?_eq_some_iff.1 h).1
    rw [List.flatMap_cons, Nat.zero_mul, Nat.zero_add, List.getElem?_append_left hj]; exact h
  | i + 1, a :: l, hi, j, u, h => by
    rw [List.flatMap_cons, List.getElem?_append_right (by rw [hk, Nat.succ_mul]; omega), hk]
    have e : (i + 1) * k + j - k = i * k + j := by rw [Nat.succ_mul]; omega
    rw [e]
    exact get hk i l (by simpa using hi) j u h
end
end Fl
namespace Go.Proofs.YtjljknocnebnaaaDoor
open Go.RowKit Go.V
set_option linter.unusedVariables false

abbrev strV (l : List UInt8) : Value := .string ⟨l.toArray⟩
def sC (l : List UInt8) : List Value := [strV l]
theorem sC_len (r : List UInt8) : (sC r).length = 1 := rfl
abbrev ssV (s : List (List UInt8)) : List Value := s.flatMap sC
theorem ssV_one (s : List (List UInt8)) : ∀ u ∈ ssV s, u.oneCell' = true := by
  intro u hu; obtain ⟨a, _, h⟩ := List.mem_flatMap.1 hu; simp only [sC, List.mem_cons, List.not_mem_nil, or_false] at h; rcases h with rfl; rfl
theorem ssV_snoc (s : List (List UInt8)) (x : List UInt8) : ssV s ++ [strV x] = ssV (s ++ [x]) := by simp [sC]
theorem ssV_len (s : List (List UInt8)) : (ssV s).length = s.length := by rw [Fl.len sC_len]; omega
/-- The lines of a file read as they are. -/
structure LnA (w : World) (X : Nat → Prop) (l : List (List UInt8)) (A : Option Addr) (k : Nat) : Prop where
  lk : l.length ≤ k
  ll : l.length ≤ 140737488351232
  ls : SA w X A (ssV l)
/-- A file as two cells. -/
def FlR (w : World) (X : Nat → Prop) (f : Tr.F) (cs : List Value) : Prop := ∃ A k, cs = [strV f.path, .slice A f.lines.length k] ∧ LnA w X f.lines A k
section
variable {w w' : World} {X X' : Nat → Prop}
theorem ssV_row {A : Option Addr} {s : List (List UInt8)} (h : SA w X A (ssV s)) (i : Nat) (hi : i < s.length) : ∃ b off, A = some ⟨b, off, none⟩ ∧ b < w.heap.size ∧ ¬ X b ∧ w.cell? ⟨b, off + i, none⟩ = some (strV s[i]) := by
  have g0 := Fl.get sC_len i s hi 0 _ rfl
  rw [Nat.mul_one, Nat.add_zero] at g0
  obtain ⟨b, off, e, hb, hx, hc⟩ := h.at_ (by rw [ssV_len]; omega)
  exact ⟨b, off, e, hb, hx, hc _ _ g0⟩
theorem LnA.keep {l : List (List UInt8)} {A : Option Addr} {k : Nat} (h : LnA w X l A k) (q : Keeps w X w' X') : LnA w' X' l A k := ⟨h.lk, h.ll, h.ls.keep q⟩
theorem LnA.mono {l : List (List UInt8)} {A : Option Addr} {k : Nat} (h : LnA w X l A k) (q : ∀ b, X' b → X b) : LnA w X' l A k := ⟨h.lk, h.ll, h.ls.mono q⟩
theorem FlR.len (f : Tr.F) (cs : List Value) (h : FlR w X f cs) : cs.length = 2 := by obtain ⟨_, _, rfl, _⟩ := h; rfl
theorem FlR.keep (q : Keeps w X w' X') (f : Tr.F) (cs : List Value) (h : FlR w X f cs) : FlR w' X' f cs := by
  obtain ⟨A, k, e, h1⟩ := h; exact ⟨A, k, e, h1.keep q⟩
/-- The slice at A holds the files. -/
def VfV (w : World) (X : Nat → Prop) (A : Option Addr) (t : List Tr.F) : Prop := ∃ vs, SA w X A vs ∧ RowsR (FlR w X) t vs
theorem VfV.keep {A : Option Addr} {t : List Tr.F} (h : VfV w X A t) (q : Keeps w X w' X') : VfV w' X' A t := by
  obtain ⟨vs, h1, h2⟩ := h; exact ⟨vs, h1.keep q, h2.mono (FlR.keep q)⟩
theorem VfV.row {A : Option Addr} {t : List Tr.F} (h : VfV w X A t) (i : Nat) (hi : i < t.length) : ∃ b off A' k', A = some ⟨b, off, none⟩ ∧ b < w.heap.size ∧ ¬ X b ∧
    w.cell? ⟨b, off + i * 2, none⟩ = some (strV (Tr.it t i).path) ∧ w.cell? ⟨b, off + i * 2 + 1, none⟩ = some (.slice A' (Tr.it t i).lines.length k') ∧ LnA w X (Tr.it t i).lines A' k' := by
  obtain ⟨us, h1, h2⟩ := h
  obtain ⟨b, off, cs, e, hb, hx, ⟨A', k', rfl, k1⟩, hc⟩ := SA.row FlR.len (by omega) h1 h2 i hi
  rw [← Tr.it_eq t i hi]
  exact ⟨b, off, A', k', e, hb, hx, hc 0 _ rfl, hc 1 _ rfl, k1⟩
theorem VfV.nil : VfV w X none [] := ⟨[], SA.nil, rfl⟩
end
end Go.Proofs.YtjljknocnebnaaaDoor
namespace Go.Proofs
open Go.Shelf
def Tryd.lays137_ren : Go.Shelf.Ren := ⟨fun | 137 => 91 | 217 => 107 | 266 => 115 | n => n, fun | 9 => 9 | 5 => 5 | 3 => 3 | n => n, fun | n => n⟩
theorem Tryd.lays137 : Go.Proofs.Lays.n137 Tryd.prog Tryd.lays137_ren := {
  mixed := by kernel_rfl
  f137 := Tryd.func91.trans (congrArg some (by kernel_rfl))
  f217 := Tryd.func107.trans (congrArg some (by kernel_rfl))
  f266 := Tryd.func115.trans (congrArg some (by kernel_rfl))
  t3 := Tryd.underlying3
  a3 := Tryd.isAgg3
  z3 := Tryd.sizeOf3
  v3 := Tryd.zeroValue3
  t5 := Tryd.underlying5
  a5 := Tryd.isAgg5
  z5 := Tryd.sizeOf5
  v5 := Tryd.zeroValue5
  t9 := Tryd.underlying9
  a9 := Tryd.isAgg9
  z9 := Tryd.sizeOf9
  v9 := Tryd.zeroValue9 }
open Go.RowKit in
/-- strings.IndexByte: "IndexByte returns the index of the first instance of c in s, or -1 if c is not present in s.": IT RETURNS 'Lib.indexByte s c'; the world is as it was. (LAID: no walk: one application.) -/
theorem Tryd.strings_IndexByte (s : ByteArray) (c : Int) (w : World) :
    Calls Tryd.prog 91 #[.string s, .int .u8 c] w fun e w' => e = .returned (.int .i64 (Lib.indexByte s.data.toList c.toNat.toUInt8)) ∧ w' = w := Any.strings_IndexByte Tryd.lays137 s c w
def Tryd.lays104_ren : Go.Shelf.Ren := ⟨fun | 104 => 68 | 211 => 93 | 207 => 108 | n => n, fun | 9 => 9 | 4 => 4 | 24 => 111 | 3 => 3 | n => n, fun | n => n⟩
theorem Tryd.lays104 : Go.Proofs.Lays.n104 Tryd.prog Tryd.lays104_ren := {
  mixed := by kernel_rfl
  f104 := Tryd.func68.trans (congrArg some (by kernel_rfl))
  f207 := Tryd.func108.trans (congrArg some (by kernel_rfl))
  f211 := Tryd.func93.trans (congrArg some (by kernel_rfl))
  t3 := Tryd.underlying3
  a3 := Tryd.isAgg3
  z3 := Tryd.sizeOf3
  v3 := Tryd.zeroValue3
  t4 := Tryd.underlying4
  a4 := Tryd.isAgg4
  z4 := Tryd.sizeOf4
  v4 := Tryd.zeroValue4
  t9 := Tryd.underlying9
  a9 := Tryd.isAgg9
  z9 := Tryd.sizeOf9
  v9 := Tryd.zeroValue9
  t24 := Tryd.underlying111
  a24 := Tryd.isAgg111
  z24 := Tryd.sizeOf111
  v24 := Tryd.zeroValue111 }
open Go.RowKit in
/-- strings.CutSuffix: "CutSuffix returns s without the provided ending suffix string and reports whether it found the suffix. If s doesn't end with suffix, CutSuffix returns s, false. If suffix is the empty string, CutSuffix returns s, true.": IT RETURNS '(Lib.trimSuffix s p, Lib.hasSuffix s p)'; the world is as it was. (LAID: no walk: one application.) -/
theorem Tryd.strings_CutSuffix (s p : ByteArray) (w : World) (hs : s.size ≤ 9223372036854775807) :
    Calls Tryd.prog 68 #[.string s, .string p] w fun e w' => e = .returned (.tuple #[.string ⟨(Lib.trimSuffix s.data.toList p.data.toList).toArray⟩, .bool (Lib.hasSuffix s.data.toList p.data.toList)]) ∧ w' = w := Any.strings_CutSuffix Tryd.lays104 s p w hs
def Tryd.lays143_ren : Go.Shelf.Ren := ⟨fun | 143 => 105 | 219 => 114 | 217 => 107 | 225 => 118 | 224 => 119 | 267 => 120 | 266 => 115 | 314 => 121 | n => n, fun | 9 => 9 | 3 => 3 | 4 => 4 | 5 => 5 | 46 => 99 | 146 => 156 | 51 => 122 | n => n, fun | 1 => 2 | n => n⟩
theorem Tryd.lays143 : Go.Proofs.Lays.n143 Tryd.prog Tryd.lays143_ren := {
  mixed := by kernel_rfl
  f143 := Tryd.func105.trans (congrArg some (by kernel_rfl))
  f217 := Tryd.func107.trans (congrArg some (by kernel_rfl))
  f219 := Tryd.func114.trans (congrArg some (by kernel_rfl))
  f224 := Tryd.func119.trans (congrArg some (by kernel_rfl))
  f225 := Tryd.func118.trans (congrArg some (by kernel_rfl))
  f266 := Tryd.func115.trans (congrArg some (by kernel_rfl))
  f267 := Tryd.func120.trans (congrArg some (by kernel_rfl))
  f314 := Tryd.func121.trans (congrArg some (by kernel_rfl))
  t3 := Tryd.underlying3
  a3 := Tryd.isAgg3
  z3 := Tryd.sizeOf3
  v3 := Tryd.zeroValue3
  t4 := Tryd.underlying4
  a4 := Tryd.isAgg4
  z4 := Tryd.sizeOf4
  v4 := Tryd.zeroValue4
  t5 := Tryd.underlying5
  a5 := Tryd.isAgg5
  z5 := Tryd.sizeOf5
  v5 := Tryd.zeroValue5
  t9 := Tryd.underlying9
  a9 := Tryd.isAgg9
  z9 := Tryd.sizeOf9
  v9 := Tryd.zeroValue9
  t46 := Tryd.underlying99
  a46 := Tryd.isAgg99
  z46 := Tryd.sizeOf99
  v46 := Tryd.zeroValue99
  t51 := Tryd.underlying122
  a51 := Tryd.isAgg122
  z51 := Tryd.sizeOf122
  v51 := Tryd.zeroValue122
  t146 := Tryd.underlying156
  a146 := Tryd.isAgg156
  z146 := Tryd.sizeOf156
  v146 := Tryd.zeroValue156
  g1 := by kernel_rfl }
open Go.RowKit Go.Lib in
/-- strings.Index: "Index returns the index of the first instance of substr in s, or -1 if substr is not present in s.": AT A substr OF ONE BYTE c: IT RETURNS 'Lib.indexByte s c'; the world is as it was. (LAID: no walk: one application.) -/
theorem Tryd.strings_Index_one (s : ByteArray) (c : UInt8) (w : World) :
    Calls Tryd.prog 105 #[.string s, .string ⟨#[c]⟩] w fun e w' => e = .returned (.int .i64 (Lib.indexByte s.data.toList c)) ∧ w' = w := Any.strings_Index_one Tryd.lays143 s c w
def Tryd.lays190_ren : Go.Shelf.Ren := ⟨fun | 190 => 39 | 125 => 56 | 258 => 55 | 128 => 79 | 129 => 80 | 302 => 70 | 303 => 71 | 304 => 72 | 305 => 73 | 306 => 74 | 307 => 75 | 308 => 76 | 309 => 77 | 310 => 78 | 333 => 95 | 329 => 96 | 330 => 97 | 334 => 98 | 335 => 99 | 336 => 100 | 344 => 111 | n => n, fun | 31 => 38 | 9 => 9 | 3 => 3 | 46 => 99 | 0 => 0 | 51 => 122 | 53 => 124 | 4 => 4 | 183 => 116 | 182 => 115 | 131 => 69 | 5 => 5 | 218 => 137 | 222 => 141 | 228 => 147 | 229 => 148 | n => n, fun | n => n⟩
theorem Tryd.lays190 : Go.Proofs.Lays.n190 Tryd.prog Tryd.lays190_ren := {
  mixed := by kernel_rfl
  f125 := Tryd.func56.trans (congrArg some (by kernel_rfl))
  f128 := Tryd.func79.trans (congrArg some (by kernel_rfl))
  f129 := Tryd.func80.trans (congrArg some (by kernel_rfl))
  f190 := Tryd.func39.trans (congrArg some (by kernel_rfl))
  f258 := Tryd.func55.trans (congrArg some (by kernel_rfl))
  f302 := Tryd.func70.trans (congrArg some (by kernel_rfl))
  f303 := Tryd.func71.trans (congrArg some (by kernel_rfl))
  f304 := Tryd.func72.trans (congrArg some (by kernel_rfl))
  f305 := Tryd.func73.trans (congrArg some (by kernel_rfl))
  f306 := Tryd.func74.trans (congrArg some (by kernel_rfl))
  f307 := Tryd.func75.trans (congrArg some (by kernel_rfl))
  f308 := Tryd.func76.trans (congrArg some (by kernel_rfl))
  f309 := Tryd.func77.trans (congrArg some (by kernel_rfl))
  f310 := Tryd.func78.trans (congrArg some (by kernel_rfl))
  f329 := Tryd.func96.trans (congrArg some (by kernel_rfl))
  f330 := Tryd.func97.trans (congrArg some (by kernel_rfl))
  f333 := Tryd.func95.trans (congrArg some (by kernel_rfl))
  f334 := Tryd.func98.trans (congrArg some (by kernel_rfl))
  f335 := Tryd.func99.trans (congrArg some (by kernel_rfl))
  f336 := Tryd.func100.trans (congrArg some (by kernel_rfl))
  f344 := Tryd.func111.trans (congrArg some (by kernel_rfl))
  t0 := Tryd.underlying0
  a0 := Tryd.isAgg0
  z0 := Tryd.sizeOf0
  v0 := Tryd.zeroValue0
  t3 := Tryd.underlying3
  a3 := Tryd.isAgg3
  z3 := Tryd.sizeOf3
  v3 := Tryd.zeroValue3
  t4 := Tryd.underlying4
  a4 := Tryd.isAgg4
  z4 := Tryd.sizeOf4
  v4 := Tryd.zeroValue4
  t5 := Tryd.underlying5
  a5 := Tryd.isAgg5
  z5 := Tryd.sizeOf5
  v5 := Tryd.zeroValue5
  t9 := Tryd.underlying9
  a9 := Tryd.isAgg9
  z9 := Tryd.sizeOf9
  v9 := Tryd.zeroValue9
  t31 := Tryd.underlying38
  a31 := Tryd.isAgg38
  z31 := Tryd.sizeOf38
  v31 := Tryd.zeroValue38
  t46 := Tryd.underlying99
  a46 := Tryd.isAgg99
  z46 := Tryd.sizeOf99
  v46 := Tryd.zeroValue99
  t51 := Tryd.underlying122
  a51 := Tryd.isAgg122
  z51 := Tryd.sizeOf122
  v51 := Tryd.zeroValue122
  t53 := Tryd.underlying124
  a53 := Tryd.isAgg124
  z53 := Tryd.sizeOf124
  v53 := Tryd.zeroValue124
  t131 := Tryd.underlying69
  a131 := Tryd.isAgg69
  z131 := Tryd.sizeOf69
  v131 := Tryd.zeroValue69
  t182 := Tryd.underlying115
  a182 := Tryd.isAgg115
  z182 := Tryd.sizeOf115
  v182 := Tryd.zeroValue115
  t183 := Tryd.underlying116
  a183 := Tryd.isAgg116
  z183 := Tryd.sizeOf116
  v183 := Tryd.zeroValue116
  t218 := Tryd.underlying137
  a218 := Tryd.isAgg137
  z218 := Tryd.sizeOf137
  v218 := Tryd.zeroValue137
  t222 := Tryd.underlying141
  a222 := Tryd.isAgg141
  z222 := Tryd.sizeOf141
  v222 := Tryd.zeroValue141
  t228 := Tryd.underlying147
  a228 := Tryd.isAgg147
  z228 := Tryd.sizeOf147
  v228 := Tryd.zeroValue147
  t229 := Tryd.underlying148
  a229 := Tryd.isAgg148
  z229 := Tryd.sizeOf148
  v229 := Tryd.zeroValue148 }
open Go.Sort Go.RowKit in
theorem Tryd.slices_Sort_string (blk off cap : Nat) (ss : List (List UInt8)) (w : World) (hH : Holds encStr w blk off ss.toArray) (hblk : blk < w.heap.size) (hsz : ss.length < 4611686018427387904) :
    Calls Tryd.prog 39 #[.slice (some ⟨blk, off, none⟩) ss.length cap] w fun e w' =>
      e = .returned (.tuple #[]) ∧ ∃ n os, w' = grow (putRow encStr (Sort.ahead w n) blk off (ss.mergeSort fun x y => decide (x ≤ y)).toArray) os := Any.slices_Sort_string Tryd.lays190 blk off cap ss w hH hblk hsz
def Tryd.lays99_ren : Go.Shelf.Ren := ⟨fun | 99 => 90 | 206 => 106 | n => n, fun | 9 => 9 | 4 => 4 | 3 => 3 | n => n, fun | n => n⟩
theorem Tryd.lays99 : Go.Proofs.Lays.n99 Tryd.prog Tryd.lays99_ren := {
  mixed := by kernel_rfl
  f99 := Tryd.func90.trans (congrArg some (by kernel_rfl))
  f206 := Tryd.func106.trans (congrArg some (by kernel_rfl))
  t3 := Tryd.underlying3
  a3 := Tryd.isAgg3
  z3 := Tryd.sizeOf3
  v3 := Tryd.zeroValue3
  t4 := Tryd.underlying4
  a4 := Tryd.isAgg4
  z4 := Tryd.sizeOf4
  v4 := Tryd.zeroValue4
  t9 := Tryd.underlying9
  a9 := Tryd.isAgg9
  z9 := Tryd.sizeOf9
  v9 := Tryd.zeroValue9 }
open Go.RowKit Go.Lib in
/-- strings.HasPrefix: "HasPrefix reports whether the string s begins with prefix.": IT RETURNS 'Lib.hasPrefix s prefix'; the world is as it was. (LAID: no walk: one application.) -/
theorem Tryd.strings_HasPrefix (s p : ByteArray) (w : World) :
    Calls Tryd.prog 90 #[.string s, .string p] w fun e w' => e = .returned (.bool (Lib.hasPrefix s.data.toList p.data.toList)) ∧ w' = w := Any.strings_HasPrefix Tryd.lays99 s p w
def Tryd.lays146_ren : Go.Shelf.Ren := ⟨fun | 146 => 69 | 221 => 94 | 268 => 109 | 138 => 110 | 143 => 105 | 195 => 116 | 197 => 104 | 218 => 117 | 219 => 114 | 260 => 113 | 217 => 107 | 225 => 118 | 224 => 119 | 267 => 120 | 266 => 115 | 314 => 121 | n => n, fun | 9 => 9 | 31 => 38 | 3 => 3 | 4 => 4 | 0 => 0 | 105 => 143 | 21 => 21 | 5 => 5 | 46 => 99 | 119 => 152 | 139 => 155 | 138 => 154 | 146 => 156 | 51 => 122 | n => n, fun | 1 => 2 | 3 => 0 | 4 => 1 | n => n⟩
theorem Tryd.lays146 : Go.Proofs.Lays.n146 Tryd.prog Tryd.lays146_ren := {
  mixed := by kernel_rfl
  f138 := Tryd.func110.trans (congrArg some (by kernel_rfl))
  f143 := Tryd.func105.trans (congrArg some (by kernel_rfl))
  f146 := Tryd.func69.trans (congrArg some (by kernel_rfl))
  f195 := Tryd.func116.trans (congrArg some (by kernel_rfl))
  f197 := Tryd.func104.trans (congrArg some (by kernel_rfl))
  f217 := Tryd.func107.trans (congrArg some (by kernel_rfl))
  f218 := Tryd.func117.trans (congrArg some (by kernel_rfl))
  f219 := Tryd.func114.trans (congrArg some (by kernel_rfl))
  f221 := Tryd.func94.trans (congrArg some (by kernel_rfl))
  f224 := Tryd.func119.trans (congrArg some (by kernel_rfl))
  f225 := Tryd.func118.trans (congrArg some (by kernel_rfl))
  f260 := Tryd.func113.trans (congrArg some (by kernel_rfl))
  f266 := Tryd.func115.trans (congrArg some (by kernel_rfl))
  f267 := Tryd.func120.trans (congrArg some (by kernel_rfl))
  f268 := Tryd.func109.trans (congrArg some (by kernel_rfl))
  f314 := Tryd.func121.trans (congrArg some (by kernel_rfl))
  t0 := Tryd.underlying0
  a0 := Tryd.isAgg0
  z0 := Tryd.sizeOf0
  v0 := Tryd.zeroValue0
  t3 := Tryd.underlying3
  a3 := Tryd.isAgg3
  z3 := Tryd.sizeOf3
  v3 := Tryd.zeroValue3
  t4 := Tryd.underlying4
  a4 := Tryd.isAgg4
  z4 := Tryd.sizeOf4
  v4 := Tryd.zeroValue4
  t5 := Tryd.underlying5
  a5 := Tryd.isAgg5
  z5 := Tryd.sizeOf5
  v5 := Tryd.zeroValue5
  t9 := Tryd.underlying9
  a9 := Tryd.isAgg9
  z9 := Tryd.sizeOf9
  v9 := Tryd.zeroValue9
  t21 := Tryd.underlying21
  a21 := Tryd.isAgg21
  z21 := Tryd.sizeOf21
  v21 := Tryd.zeroValue21
  t31 := Tryd.underlying38
  a31 := Tryd.isAgg38
  z31 := Tryd.sizeOf38
  v31 := Tryd.zeroValue38
  t46 := Tryd.underlying99
  a46 := Tryd.isAgg99
  z46 := Tryd.sizeOf99
  v46 := Tryd.zeroValue99
  t51 := Tryd.underlying122
  a51 := Tryd.isAgg122
  z51 := Tryd.sizeOf122
  v51 := Tryd.zeroValue122
  t105 := Tryd.underlying143
  a105 := Tryd.isAgg143
  z105 := Tryd.sizeOf143
  v105 := Tryd.zeroValue143
  t119 := Tryd.underlying152
  a119 := Tryd.isAgg152
  z119 := Tryd.sizeOf152
  t138 := Tryd.underlying154
  a138 := Tryd.isAgg154
  z138 := Tryd.sizeOf154
  v138 := Tryd.zeroValue154
  t139 := Tryd.underlying155
  a139 := Tryd.isAgg155
  z139 := Tryd.sizeOf155
  v139 := Tryd.zeroValue155
  t146 := Tryd.underlying156
  a146 := Tryd.isAgg156
  z146 := Tryd.sizeOf156
  v146 := Tryd.zeroValue156
  g1 := by kernel_rfl
  g3 := by kernel_rfl
  g4 := by kernel_rfl }
open Go.RowKit Go.Lib in
/-- strings.Split. (LAID: no walk: one application.) -/
theorem Tryd.strings_Split (s sep : ByteArray) (m : Int) (w : World) (hs : s.size < 4294967281) (hm : w.cell? ⟨2, 0, none⟩ = some (.int .i64 m)) (h1 : 1 ≤ sep.size) :
    Calls Tryd.prog 69 #[.string s, .string sep] w fun e w' =>
      e = .returned (.slice (some ⟨w.heap.size, 0, none⟩) (Lib.countB s sep + 1) (Lib.countB s sep + 1)) ∧ w' = w.alloc (.cells ((Lib.splitB sep 0 (Lib.countB s sep) s).map Value.string).toArray 9) := Any.strings_Split Tryd.lays146 (by kernel_rfl) s sep m w hs hm h1
def Tryd.lays109_ren : Go.Shelf.Ren := ⟨fun | 109 => 37 | n => n, fun | 31 => 38 | 9 => 9 | 3 => 3 | 0 => 0 | 4 => 4 | n => n, fun | n => n⟩
theorem Tryd.lays109 : Go.Proofs.Lays.n109 Tryd.prog Tryd.lays109_ren := {
  mixed := by kernel_rfl
  f109 := Tryd.func37.trans (congrArg some (by kernel_rfl))
  t0 := Tryd.underlying0
  a0 := Tryd.isAgg0
  z0 := Tryd.sizeOf0
  v0 := Tryd.zeroValue0
  t3 := Tryd.underlying3
  a3 := Tryd.isAgg3
  z3 := Tryd.sizeOf3
  v3 := Tryd.zeroValue3
  t4 := Tryd.underlying4
  a4 := Tryd.isAgg4
  z4 := Tryd.sizeOf4
  v4 := Tryd.zeroValue4
  t9 := Tryd.underlying9
  a9 := Tryd.isAgg9
  z9 := Tryd.sizeOf9
  v9 := Tryd.zeroValue9
  t31 := Tryd.underlying38
  a31 := Tryd.isAgg38
  z31 := Tryd.sizeOf38
  v31 := Tryd.zeroValue38 }
open Go.Lib in
/-- slices.Index at []string: "Index returns the index of the first occurrence of v in s, or -1 if not present.": IT RETURNS 'Lib.idxOfS (the elements) v'; the world is as it was. 'zs': what the cells behind the slice's address hold (its spare capacity too, if you have it); 'zs.take n': its elements. (LAID: no walk: one application.) -/
theorem Tryd.slices_Index_string (b off n c : Nat) (zs : List ByteArray) (x : ByteArray) (w : World) (hz : n ≤ zs.length) (hbig : n ≤ 9223372036854775807) (hc : ∀ j, j < zs.length → w.cell? ⟨b, off + j, none⟩ = some (.string (zs.getD j ByteArray.empty))) :
    Calls Tryd.prog 37 #[.slice (some ⟨b, off, none⟩) n c, .string x] w fun e w' => e = .returned (.int .i64 (Lib.idxOfS (zs.take n) x)) ∧ w' = w := Any.slices_Index_string Tryd.lays109 b off n c zs x w hz hbig hc
open Go.Lib in
/-- The same at a slice of length 0, a nil one too: no cell is known, none is asked for. (LAID: no walk: one application.) -/
theorem Tryd.slices_Index_string_empty (a : Option Addr) (c : Nat) (x : ByteArray) (w : World) :
    Calls Tryd.prog 37 #[.slice a 0 c, .string x] w fun e w' => e = .returned (.int .i64 (Lib.idxOfS [] x)) ∧ w' = w := Any.slices_Index_string_empty Tryd.lays109 a c x w
def Tryd.lays110_ren : Go.Shelf.Ren := ⟨fun | 110 => 38 | 109 => 37 | n => n, fun | 31 => 38 | 9 => 9 | 4 => 4 | 3 => 3 | 0 => 0 | n => n, fun | n => n⟩
theorem Tryd.lays110 : Go.Proofs.Lays.n110 Tryd.prog Tryd.lays110_ren := {
  mixed := by kernel_rfl
  f109 := Tryd.func37.trans (congrArg some (by kernel_rfl))
  f110 := Tryd.func38.trans (congrArg some (by kernel_rfl))
  t0 := Tryd.underlying0
  a0 := Tryd.isAgg0
  z0 := Tryd.sizeOf0
  v0 := Tryd.zeroValue0
  t3 := Tryd.underlying3
  a3 := Tryd.isAgg3
  z3 := Tryd.sizeOf3
  v3 := Tryd.zeroValue3
  t4 := Tryd.underlying4
  a4 := Tryd.isAgg4
  z4 := Tryd.sizeOf4
  v4 := Tryd.zeroValue4
  t9 := Tryd.underlying9
  a9 := Tryd.isAgg9
  z9 := Tryd.sizeOf9
  v9 := Tryd.zeroValue9
  t31 := Tryd.underlying38
  a31 := Tryd.isAgg38
  z31 := Tryd.sizeOf38
  v31 := Tryd.zeroValue38 }
open Go.Lib in
/-- slices.Contains at []string: "Contains reports whether v is present in s.": IT RETURNS 'Lib.containsS (the elements) v', which is true just where v is among them ('Lib.containsS_iff'); the world is as it was. ITS CALLEE slices.Index IS MET BY ITS OWN CONTRACT OFF THE SHELF (lay that first): no loop is walked here. (LAID: no walk: one application.) -/
theorem Tryd.slices_Contains_string (b off n c : Nat) (zs : List ByteArray) (x : ByteArray) (w : World) (hz : n ≤ zs.length) (hbig : n ≤ 9223372036854775807) (hc : ∀ j, j < zs.length → w.cell? ⟨b, off + j, none⟩ = some (.string (zs.getD j ByteArray.empty))) :
    Calls Tryd.prog 38 #[.slice (some ⟨b, off, none⟩) n c, .string x] w fun e w' => e = .returned (.bool (Lib.containsS (zs.take n) x)) ∧ w' = w := Any.slices_Contains_string Tryd.lays110 b off n c zs x w hz hbig hc
open Go.Lib in
/-- The same at a slice of length 0, a nil one too. (LAID: no walk: one application.) -/
theorem Tryd.slices_Contains_string_empty (a : Option Addr) (c : Nat) (x : ByteArray) (w : World) :
    Calls Tryd.prog 38 #[.slice a 0 c, .string x] w fun e w' => e = .returned (.bool false) ∧ w' = w := Any.slices_Contains_string_empty Tryd.lays110 a c x w
open Go.RowKit Go.Sort in
/-- .. and plain. (LAID: no walk: one application.) -/
theorem Tryd.slices_Sort_string_none (p : Option Addr) (cap : Nat) (w : World) :
    Calls Tryd.prog 39 #[.slice p 0 cap] w fun e w' => e = .returned (.tuple #[]) ∧ w' = w := Any.slices_Sort_string_none Tryd.lays190 p cap w
end Go.Proofs
namespace Go.V
open Go Go.RowKit

/-- A store into the iterator's variable does not turn it. -/
def StaysB {β : Type} (Bx : Nat) (J : β → World → Prop) : Prop := ∀ s W v, J s W → J s (W.setCell ⟨Bx, 0, none⟩ v)
/-- The contract of an iterator that keeps its state in block Bx. -/
def SeqB {α : Type} (F : Fence) (n : Nat) (P : Program) (g : Nat) (lb : Array Value) (encs : α → Array Value) (Kp : World → World → Prop) (Bx : Nat) (S Sp : List α → Prop) (N : Nat) (w0 : World) : Prop :=
  ∀ (l : Nat) (J Jx : List α → World → Prop) (W : World), Below w0.heap.size w0 W → AbidesFrom W.heap.size J → AbidesFrom W.heap.size Jx → StaysB Bx J → StaysB Bx Jx →
    (∀ pre x W1, J pre W1 → pre.length < N → YieldAt F (n - 1) P l (encs x) W1 fun e W2 => (e = .returned (.bool true) ∧ J (pre ++ [x]) W2 ∧ Kp W1 W2) ∨ (e = .returned (.bool false) ∧ Jx (pre ++ [x]) W2)) →
    J [] W → CallsIn F n P g (#[.func (.yield l) #[] #[]] ++ lb) W fun e W2 => (∃ v, e = .returned v) ∧ ((∃ xs, S xs ∧ J xs W2) ∨ (∃ pre, Sp pre ∧ Jx pre W2))
theorem heap_setCell_ne (W : World) (Bx l : Nat) (v : Value) (h : l ≠ Bx) : (W.setCell ⟨Bx, 0, none⟩ v).heap[l]? = W.heap[l]? := Below.heap_setCell W ⟨Bx, 0, none⟩ v l h
section
variable {F : Fence} {n : Nat} {P : Program}
/-- The loop's record behind one round that has ended with the pending jump. -/
theorem round_ends {W2 W3 : World} {lr ld : Nat} {r : Loop} (hne : ld ≠ lr) (hl : W2.heap[lr]? = some (.loop r)) (hd : W2.heap[ld]? = some (.deferred (some []))) (hk : KeepsOthers W2 W3) (hr : r.state = .busy) (hp : r.pending = none) (jump : Option Code) :
    (Instr.endRound lr jump).run P W3 = .ok (.bool jump.isNone) (W3.putObj lr (.loop { r with state := if jump.isNone then .ready else .done, pending := jump })) ∧ W3.heap[lr]? = some (.loop r) ∧
    (W3.putObj lr (.loop { r with state := if jump.isNone then .ready else .done, pending := jump })).heap[lr]? = some (.loop { r with state := if jump.isNone then .ready else .done, pending := jump }) ∧
    (W3.putObj lr (.loop { r with state := if jump.isNone then .ready else .done, pending := jump })).heap[ld]? = some (.deferred (some [])) := by
  have h3 := hk.same _ _ hl rfl
  obtain ⟨st, pe, fn, tmps, ps, assign, body, defers⟩ := r
  simp only at hr hp
  subst hr hp
  exact ⟨run_endRound (P := P) jump h3, h3, World.putObj_heap_same (Array.getElem?_eq_some_iff.1 h3).1, (World.putObj_heap_other hne).trans (hk.same _ _ hd rfl)⟩
/-- **The loop, by the contract of such an iterator.** I: what holds between two rounds; Ix c: what holds when a round has left by the jump c. -/
theorem wpIn_rangeFunc_B {α : Type} {g : Operand} {ps : Array Tmp} {assign body : Code} {Q : Exit → Act → World → Prop} {a : Act} {w : World} (hro : F.round = none) (h1 : 1 ≤ n) {gf : Nat} {lb : Array Value}
    (hg : a.eval g = .func (.func gf) #[] lb) (hFg : F.fn gf) (eg : ∀ args w, (callFunc gf args).run P w = .ok (.enter gf args) w) {encs : α → Array Value} {Kp : World → World → Prop} {Bx : Nat} {S Sp : List α → Prop} {N : Nat}
    (hseq : SeqB F (n - 1) P gf lb encs Kp Bx S Sp N w) (hBx : Bx < w.heap.size) (hKt : ∀ {A B C : World}, Kp A B → Kp B C → Kp A C)
    (hKb : ∀ (W : World) (l : Nat) (o o' : Obj), w.heap.size ≤ l → W.heap[l]? = some o → o.isCells = false → o.isWalk = false → Kp W (W.putObj l o')) (hps : ∀ x, (encs x).size = ps.size)
    (I : List α → World → Prop) (Ix : Code → List α → World → Prop) (hI : OwnFrom w.heap.size I) (hIx : ∀ c, OwnFrom w.heap.size (Ix c)) (hIB : StaysB Bx I) (hIxB : ∀ c, StaysB Bx (Ix c)) (h0 : I [] w) (a₁ : α → Act)
    (hassign : ∀ (l : Nat) (x : α) (W : World) (K : Act → World → Prop), K (a₁ x) W →
      assign.wpIn (F.inRound l) (n - 1 - 1) P (Exit.then K (fun _ _ _ => False)) { tmps := (ps.zip (encs x)).foldl (fun t (p, v) => t.setIfInBounds p v) a.tmps, defers := [] } W)
    (hbody : ∀ (l : Nat) (pre : List α) (x : α) (W : World), I pre W → pre.length < N → body.wpIn (F.inRound l) (n - 1 - 1) P (ownPostK Kp I Ix (pre ++ [x]) W) (a₁ x) W)
    (hdone : ∀ (D : Nat) (xs : List α) (W : World), w.heap.size ≤ D → S xs → I xs W → W.heap[D]? = some (.deferred (some [])) → Q .normal { a with defers := { target := .collected D, args := #[] } :: a.defers } W)
    (hstop : ∀ (D : Nat) (c : Code) (pre : List α) (W : World), w.heap.size ≤ D → Sp pre → Ix c pre W → W.heap[D]? = some (.deferred (some [])) → c.wpIn F n P Q { a with defers := { target := .collected D, args := #[] } :: a.defers } W) :
    (Code.rangeFunc g ps assign body).wpIn F n P Q a w := by
  refine wpIn_rangeFunc ?_
  intro fn hfn
  rw [hro]
  obtain ⟨rc, hrc⟩ : ∃ rc : LoopState → Option Code → Loop, rc = fun st pe => { state := st, pending := pe, fn, tmps := a.tmps, params := ps, assign, body, defers := w.heap.size } := ⟨_, rfl⟩
  have hst : ∀ st pe, (rc st pe).state = st := fun st pe => by rw [hrc]
  have hpe : ∀ st pe, (rc st pe).pending = pe := fun st pe => by rw [hrc]
  have hup : ∀ st pe st' pe', ({ rc st pe with state := st', pending := pe' } : Loop) = rc st' pe' := fun st pe st' pe' => by rw [hrc]
  obtain ⟨W1, hW1⟩ : ∃ W1, W1 = (w.alloc (.deferred (some []))).alloc (.loop (rc .ready none)) := ⟨_, rfl⟩
  have hsz : W1.heap.size = w.heap.size + 2 := by rw [hW1]; simp
  have hL1 : W1.heap[w.heap.size + 1]? = some (.loop (rc .ready none)) := by
    have := World.alloc_heap_new (w.alloc (.deferred (some []))) (.loop (rc .ready none))
    rw [World.size_alloc] at this; rw [hW1]; exact this
  have hD1 : W1.heap[w.heap.size]? = some (.deferred (some [])) := by rw [hW1]; exact (Below.heap_alloc _ _ _ (by simp)).trans (World.alloc_heap_new w _)
  have hb1 : Below w.heap.size w W1 := by rw [hW1]; exact ((Below.refl _ w).alloc (Nat.le_refl _) _).alloc (by simp) _
  have hnw : ∀ {A : World} {row : Option Nat}, (∀ r, row = some r → W1.heap.size ≤ r ∧ ∃ o : Obj, A.heap[r]? = some o ∧ o.isWalk = true) → (∀ r, row = some r → w.heap.size ≤ r ∧ ∃ o : Obj, A.heap[r]? = some o ∧ o.isCells = false) := fun hr r e => by
    obtain ⟨hB, o, ho, hw⟩ := hr r e
    exact ⟨by omega, o, ho, Obj.not_cells_of_walk hw⟩
  refine ⟨w.heap.size + 1, [{ target := .collected w.heap.size, args := #[] }], W1, { target := .fn (.func gf) lb, args := #[.func (.yield (w.heap.size + 1)) #[] #[]] }, W1, gf, #[.func (.yield (w.heap.size + 1)) #[] #[]] ++ lb, W1, ?_, ?_, ?_, ?_, fun _ => h1, ?_⟩
  · rw [hW1, hrc]; exact run_enterLoop_outer _ _ _ _ _
  · simp only [resolve, hg]
    simp [go_sem]
  · intro f' hf'; simp [Target.leads] at hf'; subst hf'; exact hFg
  · simp [invoke, go_sem, eg]
  have hj := hseq (w.heap.size + 1)
    (fun pre W => I pre W ∧ W.heap[w.heap.size + 1]? = some (.loop (rc .ready none)) ∧ W.heap[w.heap.size]? = some (.deferred (some [])))
    (fun pre W => ∃ c, Ix c pre W ∧ W.heap[w.heap.size + 1]? = some (.loop (rc .done (some c))) ∧ W.heap[w.heap.size]? = some (.deferred (some []))) W1 hb1
    (fun s A B row hs hg' hr => ⟨hI s A B row hs.1 hg' (hnw hr), (grownBy_keeps hg' (fun r e => (hr r e).2) hs.2.1 rfl).trans hs.2.1, (grownBy_keeps hg' (fun r e => (hr r e).2) hs.2.2 rfl).trans hs.2.2⟩)
    (fun s A B row hs hg' hr => by
      obtain ⟨c, hc, hl, hk⟩ := hs
      exact ⟨c, hIx c s A B row hc hg' (hnw hr), (grownBy_keeps hg' (fun r e => (hr r e).2) hl rfl).trans hl, (grownBy_keeps hg' (fun r e => (hr r e).2) hk rfl).trans hk⟩)
    (fun s W v hs => ⟨hIB s W v hs.1, (heap_setCell_ne W Bx _ v (by omega)).trans hs.2.1, (heap_setCell_ne W Bx _ v (by omega)).trans hs.2.2⟩)
    (fun s W v hs => by
      obtain ⟨c, hc, hl, hk⟩ := hs
      exact ⟨c, hIxB c s W v hc, (heap_setCell_ne W Bx _ v (by omega)).trans hl, (heap_setCell_ne W Bx _ v (by omega)).trans hk⟩)
    ?round ⟨by rw [hW1]; exact hI.alloc _ (hI.alloc _ h0), hL1, hD1⟩
  · refine hj.mono ?_
    rintro e W2 ⟨⟨v, rfl⟩, (⟨xs, hS, hi, hl, hk⟩ | ⟨pre, hSp, c, hi, hl, hk⟩)⟩
    · refine ⟨none, _, by have := run_endLoop (P := P) hl (by rw [hst]; simp); rw [hpe] at this; exact this, ?_⟩
      exact hdone _ xs _ (Nat.le_refl _) hS (hI.putObj _ hi (by omega) hl rfl) ((World.putObj_heap_other (by omega)).trans hk)
    · refine ⟨some c, _, by have := run_endLoop (P := P) hl (by rw [hst]; simp); rw [hpe] at this; exact this, ?_⟩
      exact hstop _ c pre _ (Nat.le_refl _) hSp ((hIx c).putObj _ hi (by omega) hl rfl) ((World.putObj_heap_other (by omega)).trans hk)
  · rintro pre x W ⟨hi, hl, hk⟩ hlen
    have hy := run_yield (P := P) (args := encs x) hl (by rw [hrc]; exact hps x)
    refine ⟨_, _, _, _, hy, ?_⟩
    rw [hrc]
    refine roundIn_of_wpIn hfn (hassign _ x W _ ⟨_, run_beginRound hl (hst _ _), ?_⟩)
    have hlt := (Array.getElem?_eq_some_iff.1 hl).1
    obtain ⟨Wb, hWb⟩ : ∃ Wb, Wb = W.putObj (w.heap.size + 1) (.loop (rc .busy none)) := ⟨_, rfl⟩
    have hl2 : Wb.heap[w.heap.size + 1]? = some (.loop (rc .busy none)) := by rw [hWb]; exact World.putObj_heap_same hlt
    have hk2 : Wb.heap[w.heap.size]? = some (.deferred (some [])) := by rw [hWb]; exact (World.putObj_heap_other (by omega)).trans hk
    have hw2 : Kp W Wb := by rw [hWb]; exact hKb _ _ _ _ (by omega) hl rfl rfl
    have hi2 : I pre Wb := by rw [hWb]; exact hI.putObj _ hi (by omega) hl rfl
    have hWe : W.putObj (w.heap.size + 1) (.loop { rc .ready none with state := .busy }) = Wb := by rw [hWb, hrc]
    rw [hWe]
    refine wpIn_mono (hbody _ pre x Wb hi2 hlen) ?_
    rintro e a3 W3 hp
    cases e with
    | normal =>
      obtain ⟨hk3, hkp3, hi3⟩ := hp
      obtain ⟨hr, hl3, hl4, hk4⟩ := round_ends (P := P) (by omega) hl2 hk2 hk3 (hst _ _) (hpe _ _) none
      exact ⟨_, _, hr, .inl ⟨rfl, ⟨hI.putObj _ hi3 (by omega) hl3 rfl, by rw [hl4, hup, hrc]; rfl, hk4⟩, hKt (hKt hw2 hkp3) (hKb _ _ _ _ (by omega) hl3 rfl rfl)⟩⟩
    | ret =>
      obtain ⟨hk3, hi3⟩ := hp
      obtain ⟨hr, hl3, hl4, hk4⟩ := round_ends (P := P) (by omega) hl2 hk2 hk3 (hst _ _) (hpe _ _) (some .ret)
      exact ⟨_, _, hr, .inr ⟨rfl, .ret, (hIx _).putObj _ hi3 (by omega) hl3 rfl, by rw [hl4, hup, hrc]; rfl, hk4⟩⟩
    | exit id =>
      obtain ⟨hk3, hi3⟩ := hp
      obtain ⟨hr, hl3, hl4, hk4⟩ := round_ends (P := P) (by omega) hl2 hk2 hk3 (hst _ _) (hpe _ _) (some (.exit id))
      exact ⟨_, _, hr, .inr ⟨rfl, .exit id, (hIx _).putObj _ hi3 (by omega) hl3 rfl, by rw [hl4, hup, hrc]; rfl, hk4⟩⟩
    | goto t =>
      obtain ⟨hk3, hi3⟩ := hp
      obtain ⟨hr, hl3, hl4, hk4⟩ := round_ends (P := P) (by omega) hl2 hk2 hk3 (hst _ _) (hpe _ _) (some (.goto t))
      exact ⟨_, _, hr, .inr ⟨rfl, .goto t, (hIx _).putObj _ hi3 (by omega) hl3 rfl, by rw [hl4, hup, hrc]; rfl, hk4⟩⟩
    | panic ch => exact hp.elim
    | outgrown => exact hp.elim
end
end Go.V
