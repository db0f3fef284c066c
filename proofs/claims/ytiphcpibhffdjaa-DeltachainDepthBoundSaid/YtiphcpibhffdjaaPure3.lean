/-
  The delta chain, the plain law, third part: chains of versions. No program in sight.
-/
import Derived.Test.YtiphcpibhffdjaaPure
namespace Dc
structure En where
  base : Int
  data : List UInt8
  delta : List Op
instance : Inhabited En := ⟨⟨0, [], []⟩⟩
def en (c : List En) (i : Nat) : En := c[i]?.getD default
theorem en_eq (c : List En) (i : Nat) (h : i < c.length) : c[i] = en c i := by unfold en; rw [List.getElem?_eq_getElem h]; rfl
/-- The code of an entry's form. -/
def shape (e : En) (i : Nat) : Int :=
  if e.base < -1 ∨ (i : Int) ≤ e.base then 3
  else if (e.base = -1 ∧ 0 < e.delta.length) ∨ (e.base ≠ -1 ∧ 0 < e.data.length) then 5
  else if 1000 < e.data.length then 10 else 0
def verNext (vs : List (List UInt8)) (e : En) : List UInt8 := if e.base < 0 then e.data else (apply (vs[e.base.toNat]?.getD []) e.delta).1
def depNext (ds : List Nat) (e : En) : Nat := if e.base < 0 then 0 else ds[e.base.toNat]?.getD 0 + 1
/-- The first versions and their depths. -/
def vers (c : List En) : Nat → List (List UInt8)
  | 0 => []
  | i + 1 => vers c i ++ [verNext (vers c i) (en c i)]
def deps (c : List En) : Nat → List Nat
  | 0 => []
  | i + 1 => deps c i ++ [depNext (deps c i) (en c i)]
def ver (c : List En) (i : Nat) : List UInt8 := verNext (vers c i) (en c i)
def dep (c : List En) (i : Nat) : Nat := depNext (deps c i) (en c i)
@[simp] theorem vers_length (c : List En) : ∀ i, (vers c i).length = i
  | 0 => rfl
  | i + 1 => by simp [vers, vers_length c i]
@[simp] theorem deps_length (c : List En) : ∀ i, (deps c i).length = i
  | 0 => rfl
  | i + 1 => by simp [deps, deps_length c i]
theorem vers_succ (c : List En) (i : Nat) : vers c (i + 1) = vers c i ++ [ver c i] := rfl
theorem deps_succ (c : List En) (i : Nat) : deps c (i + 1) = deps c i ++ [dep c i] := rfl
theorem vers_get (c : List En) (j : Nat) : ∀ i, j < i → (vers c i)[j]? = some (ver c j)
  | 0, h => by omega
  | i + 1, h => by
    rw [vers_succ]
    by_cases hj : j = i
    · subst hj; rw [List.getElem?_append_right (by simp)]; simp
    · rw [List.getElem?_append_left (by simp; omega)]; exact vers_get c j i (by omega)
theorem deps_get (c : List En) (j : Nat) : ∀ i, j < i → (deps c i)[j]? = some (dep c j)
  | 0, h => by omega
  | i + 1, h => by
    rw [deps_succ]
    by_cases hj : j = i
    · subst hj; rw [List.getElem?_append_right (by simp)]; simp
    · rw [List.getElem?_append_left (by simp; omega)]; exact deps_get c j i (by omega)
theorem ver_full (c : List En) (i : Nat) (h : (en c i).base < 0) : ver c i = (en c i).data := by unfold ver verNext; rw [if_pos h]
theorem ver_delta (c : List En) (i b : Nat) (h : (en c i).base = b) (hb : b < i) : ver c i = (apply (ver c b) (en c i).delta).1 := by
  unfold ver verNext
  rw [if_neg (by omega), h, Int.toNat_natCast, vers_get c b i hb]; rfl
theorem dep_full (c : List En) (i : Nat) (h : (en c i).base < 0) : dep c i = 0 := by unfold dep depNext; rw [if_pos h]
theorem dep_delta (c : List En) (i b : Nat) (h : (en c i).base = b) (hb : b < i) : dep c i = dep c b + 1 := by
  unfold dep depNext
  rw [if_neg (by omega), h, Int.toNat_natCast, deps_get c b i hb]; rfl
theorem dep_le (c : List En) : ∀ n i, i < n → (∀ j, j ≤ i → (en c j).base < j) → dep c i ≤ i
  | 0, i, h, _ => by omega
  | n + 1, i, h, hb => by
    have h0 := hb i (Nat.le_refl _)
    rcases Int.lt_or_le (en c i).base 0 with hneg | hpos
    · rw [dep_full c i hneg]; omega
    · obtain ⟨b, hb'⟩ := Int.eq_ofNat_of_zero_le hpos
      have := dep_le c n b (by omega) fun j hj => hb j (by omega)
      rw [dep_delta c i b hb' (by omega)]; omega

/-- The code of an entry. -/
def code (c : List En) (i : Nat) : Int :=
  if shape (en c i) i ≠ 0 then shape (en c i) i
  else if 0 ≤ (en c i).base then (apply (ver c (en c i).base.toNat) (en c i).delta).2.1 else 0
def chFrom (c : List En) (i : Nat) : Int × Int :=
  if i < c.length then if code c i ≠ 0 then (code c i, (i : Int)) else chFrom c (i + 1) else (0, 0)
termination_by c.length - i
theorem chFrom_end (c : List En) (i : Nat) (h : c.length ≤ i) : chFrom c i = (0, 0) := by rw [chFrom, if_neg (by omega)]
theorem chFrom_bad (c : List En) (i : Nat) (h : i < c.length) (hc : code c i ≠ 0) : chFrom c i = (code c i, (i : Int)) := by rw [chFrom, if_pos h, if_pos hc]
theorem chFrom_next (c : List En) (i : Nat) (h : i < c.length) (hc : code c i = 0) : chFrom c i = chFrom c (i + 1) := by rw [chFrom, if_pos h, if_neg (by omega)]
def chFault (c : List En) : Int × Int := if 20 < c.length then (2, -1) else chFrom c 0
structure COk (c : List En) : Prop where
  len : c.length ≤ 20
  all : ∀ i, i < c.length → code c i = 0
theorem chFrom_ok (c : List En) : ∀ n i, c.length - i ≤ n → (chFrom c i).1 = 0 → chFrom c i = (0, 0) ∧ ∀ j, j < c.length → i ≤ j → code c j = 0
  | n, i, hn, h => by
    by_cases hi : i < c.length
    · by_cases hc : code c i = 0
      · obtain _ | n := n
        · omega
        · rw [chFrom_next c i hi hc] at h ⊢
          obtain ⟨h1, h2⟩ := chFrom_ok c n (i + 1) (by omega) h
          refine ⟨h1, fun j hj hij => ?_⟩
          rcases Nat.eq_or_lt_of_le hij with rfl | hlt
          · exact hc
          · exact h2 j hj hlt
      · rw [chFrom_bad c i hi hc] at h
        exact absurd h hc
    · rw [chFrom_end c i (by omega)]
      exact ⟨rfl, fun j hj hij => by omega⟩
theorem chFault_ok (c : List En) (h : (chFault c).1 = 0) : chFault c = (0, 0) ∧ COk c := by
  unfold chFault at h ⊢
  by_cases hl : 20 < c.length
  · rw [if_pos hl] at h; simp at h
  · rw [if_neg hl] at h ⊢
    obtain ⟨h1, h2⟩ := chFrom_ok c _ 0 (Nat.le_refl _) h
    exact ⟨h1, by omega, fun i hi => h2 i hi (Nat.zero_le _)⟩
theorem chFrom_all (c : List En) (h : ∀ i, i < c.length → code c i = 0) : ∀ n i, c.length - i ≤ n → chFrom c i = (0, 0)
  | n, i, hn => by
    by_cases hi : i < c.length
    · obtain _ | n := n
      · omega
      · rw [chFrom_next c i hi (h i hi)]; exact chFrom_all c h n (i + 1) (by omega)
    · exact chFrom_end c i (by omega)
theorem COk.fault {c : List En} (h : COk c) : chFault c = (0, 0) := by
  have := h.len
  unfold chFault; rw [if_neg (by omega)]; exact chFrom_all c h.all _ 0 (Nat.le_refl _)
theorem shape_zero {e : En} {i : Nat} (h : shape e i = 0) : -1 ≤ e.base ∧ e.base < i ∧ (e.base = -1 → e.delta = []) ∧ (e.base ≠ -1 → e.data = []) ∧ e.data.length ≤ 1000 := by
  unfold shape at h
  split at h
  · cases h
  · rename_i h1
    split at h
    · cases h
    · rename_i h2
      split at h
      · cases h
      · refine ⟨by omega, by omega, fun hb => List.eq_nil_of_length_eq_zero ?_, fun hb => List.eq_nil_of_length_eq_zero ?_, by omega⟩
        · have := fun h' => h2 (.inl ⟨hb, h'⟩); omega
        · have := fun h' => h2 (.inr ⟨hb, h'⟩); omega
theorem shape_code (e : En) (i : Nat) : shape e i = 0 ∨ shape e i = 3 ∨ shape e i = 5 ∨ shape e i = 10 := by
  unfold shape; split
  · simp
  · split
    · simp
    · split <;> simp
theorem code_shape {c : List En} {i : Nat} (h : code c i = 0) : shape (en c i) i = 0 := by
  unfold code at h
  split at h
  · exact h
  · rename_i hh; simpa using hh
theorem run_code' (base out : List UInt8) (o : Op) : (run base out o).2 = 0 ∨ (run base out o).2 = 3 ∨ (run base out o).2 = 5 ∨ (run base out o).2 = 10 := by
  unfold run
  split
  · simp
  · split
    · simp
    · split
      · simp
      · split <;> simp
theorem run_len' (base out : List UInt8) (o : Op) (h : (run base out o).2 = 0) : (run base out o).1.length ≤ 1000 := by
  unfold run at h ⊢
  split at h
  · cases h
  · rename_i h1
    rw [if_neg h1]
    split at h
    · cases h
    · rename_i h2
      rw [if_neg h2]
      split at h
      · cases h
      · rename_i h3
        rw [if_neg h3]
        split
        · simp only [List.length_append, List.length_take, List.length_drop]; omega
        · simp only [List.length_append]; omega
theorem applyGo_zero (base : List UInt8) : ∀ (os : List Op) (i : Nat) (out : List UInt8), out.length ≤ 1000 → (applyGo base i out os).2.1 = 0 → (applyGo base i out os).2 = (0, 0) ∧ (applyGo base i out os).1.length ≤ 1000
  | [], i, out, ho, _ => ⟨rfl, ho⟩
  | o :: os, i, out, ho, h => by
    simp only [applyGo] at h ⊢
    by_cases hr : (run base out o).2 = 0
    · rw [if_pos hr] at h ⊢
      exact applyGo_zero base os (i + 1) _ (run_len' base out o hr) h
    · rw [if_neg hr] at h
      exact absurd h hr
theorem apply_zero (base : List UInt8) (os : List Op) (h : (apply base os).2.1 = 0) : (apply base os).2 = (0, 0) ∧ (apply base os).1.length ≤ 1000 := by
  unfold apply at h ⊢
  split at h
  · cases h
  · rename_i h1
    rw [if_neg h1]
    split at h
    · cases h
    · rename_i h2
      rw [if_neg h2]
      exact applyGo_zero base os 0 [] (by simp) h
theorem applyGo_code (base : List UInt8) : ∀ (os : List Op) (i : Nat) (out : List UInt8), 0 ≤ (applyGo base i out os).2.1 ∧ (applyGo base i out os).2.1 ≤ 10
  | [], i, out => by simp [applyGo]
  | o :: os, i, out => by
    simp only [applyGo]
    have := run_code' base out o
    split
    · exact applyGo_code base os (i + 1) _
    · simp only; omega
theorem apply_code (base : List UInt8) (os : List Op) : 0 ≤ (apply base os).2.1 ∧ (apply base os).2.1 ≤ 10 := by
  unfold apply
  split
  · simp
  · split
    · simp
    · exact applyGo_code _ _ _ _
theorem ver_len {c : List En} {i : Nat} (h : code c i = 0) : (ver c i).length ≤ 1000 := by
  obtain ⟨h1, h2, h3, h4, h5⟩ := shape_zero (code_shape h)
  rcases Int.lt_or_le (en c i).base 0 with hneg | hpos
  · rw [ver_full c i hneg]; exact h5
  · obtain ⟨b, hb⟩ := Int.eq_ofNat_of_zero_le hpos
    rw [ver_delta c i b hb (by omega)]
    have hs := code_shape h
    unfold code at h
    rw [if_neg (by simpa using hs), if_pos hpos, hb, Int.toNat_natCast] at h
    exact (apply_zero _ _ h).2

/-! ### packing -/
def packAt (vs : List (List UInt8)) (d i : Nat) : En :=
  if i % (d + 1) = 0 then ⟨-1, vs[i]?.getD [], []⟩ else ⟨(i : Int) - 1, [], encode (vs[i - 1]?.getD []) (vs[i]?.getD [])⟩
def packL (vs : List (List UInt8)) (d m : Nat) : List En := (List.range m).map (packAt vs d)
@[simp] theorem packL_length (vs : List (List UInt8)) (d m : Nat) : (packL vs d m).length = m := by simp [packL]
theorem packL_succ (vs : List (List UInt8)) (d m : Nat) : packL vs d (m + 1) = packL vs d m ++ [packAt vs d m] := by simp [packL, List.range_succ]
theorem packL_en (vs : List (List UInt8)) (d m i : Nat) (h : i < m) : en (packL vs d m) i = packAt vs d i := by
  unfold en packL; simp [h]
def badFrom (vs : List (List UInt8)) (i : Nat) : Int × Int := if h : i < vs.length then if 1000 < vs[i].length then (10, (i : Int)) else badFrom vs (i + 1) else (0, 0)
termination_by vs.length - i
theorem badFrom_end (vs : List (List UInt8)) (i : Nat) (h : vs.length ≤ i) : badFrom vs i = (0, 0) := by rw [badFrom, dif_neg (by omega)]
theorem badFrom_bad (vs : List (List UInt8)) (i : Nat) (h : i < vs.length) (hc : 1000 < vs[i].length) : badFrom vs i = (10, (i : Int)) := by rw [badFrom, dif_pos h, if_pos hc]
theorem badFrom_next (vs : List (List UInt8)) (i : Nat) (h : i < vs.length) (hc : vs[i].length ≤ 1000) : badFrom vs i = badFrom vs (i + 1) := by rw [badFrom, dif_pos h, if_neg (by omega)]
theorem badFrom_code (vs : List (List UInt8)) : ∀ n i, vs.length - i ≤ n → (badFrom vs i = (0, 0) ∧ ∀ j (h : j < vs.length), i ≤ j → vs[j].length ≤ 1000) ∨ (badFrom vs i).1 = 10
  | n, i, hn => by
    by_cases hi : i < vs.length
    · by_cases hc : 1000 < vs[i].length
      · rw [badFrom_bad vs i hi hc]; exact .inr rfl
      · obtain _ | n := n
        · omega
        · rw [badFrom_next vs i hi (by omega)]
          rcases badFrom_code vs n (i + 1) (by omega) with ⟨h1, h2⟩ | h1
          · refine .inl ⟨h1, fun j hj hij => ?_⟩
            rcases Nat.eq_or_lt_of_le hij with rfl | hlt
            · omega
            · exact h2 j hj hlt
          · exact .inr h1
    · exact .inl ⟨badFrom_end vs i (by omega), fun j hj hij => by omega⟩
def packFault (vs : List (List UInt8)) (d : Int) : Int × Int := if 20 < vs.length then (2, -1) else if d < 0 ∨ 20 < d then (3, -1) else badFrom vs 0
/-- What 'Pack' takes. -/
structure PkOk (vs : List (List UInt8)) (d : Nat) : Prop where
  len : vs.length ≤ 20
  d : d ≤ 20
  all : ∀ i (h : i < vs.length), vs[i].length ≤ 1000
theorem packFault_cases (vs : List (List UInt8)) (d : Int) : ((packFault vs d).1 ≠ 0) ∨ (packFault vs d = (0, 0) ∧ ∃ n : Nat, d = n ∧ PkOk vs n) := by
  unfold packFault
  split
  · exact .inl (by decide)
  · split
    · exact .inl (by decide)
    · rcases badFrom_code vs _ 0 (Nat.le_refl _) with ⟨h1, h2⟩ | h1
      · refine .inr ⟨h1, d.toNat, by omega, by omega, by omega, fun i h => h2 i h (Nat.zero_le _)⟩
      · exact .inl (by rw [h1]; decide)
theorem encode_len' (base target : List UInt8) (h : target.length ≤ 1000) : (encode base target).length ≤ 1000 := by
  have := (encode_good base target).length_le; omega
/-- What is packed can be read. -/
theorem pack_back {vs : List (List UInt8)} {d : Nat} (h : PkOk vs d) : ∀ n i, i < n → i < vs.length → code (packL vs d vs.length) i = 0 ∧ ver (packL vs d vs.length) i = vs[i]?.getD [] ∧ dep (packL vs d vs.length) i = i % (d + 1)
  | 0, i, hn, _ => by omega
  | n + 1, i, hn, hi => by
    have he := packL_en vs d vs.length i hi
    have hv : vs[i]?.getD [] = vs[i] := by rw [List.getElem?_eq_getElem hi]; rfl
    have hl := h.all i hi
    by_cases hm : i % (d + 1) = 0
    · have hp : packAt vs d i = ⟨-1, vs[i], []⟩ := by unfold packAt; rw [if_pos hm, hv]
      rw [hp] at he
      have hb : (en (packL vs d vs.length) i).base < 0 := by rw [he]; simp
      refine ⟨?_, by rw [ver_full _ _ hb, he, hv], by rw [dep_full _ _ hb, hm]⟩
      have hs : shape (en (packL vs d vs.length) i) i = 0 := by
        rw [he]; unfold shape; simp only
        rw [if_neg (by omega), if_neg (by simp), if_neg (by omega)]
      unfold code
      rw [if_neg (by simpa using hs), if_neg (by omega)]
    · have hp : packAt vs d i = ⟨(i : Int) - 1, [], encode (vs[i - 1]?.getD []) (vs[i]?.getD [])⟩ := by unfold packAt; rw [if_neg hm]
      have hi0 : 0 < i := by
        rcases Nat.eq_zero_or_pos i with rfl | h0
        · simp at hm
        · exact h0
      obtain ⟨h1, h2, h3⟩ := pack_back h n (i - 1) (by omega) (by omega)
      have hv1 : vs[i - 1]?.getD [] = vs[i - 1]'(by omega) := by rw [List.getElem?_eq_getElem (by omega)]; rfl
      have hl1 := h.all (i - 1) (by omega)
      rw [hp] at he
      have hb : (en (packL vs d vs.length) i).base = ((i - 1 : Nat) : Int) := by rw [he]; simp only; omega
      have hap : apply (ver (packL vs d vs.length) (i - 1)) (en (packL vs d vs.length) i).delta = (vs[i], (0, 0)) := by
        rw [h2, he, hv1, hv]
        exact round_trip _ _ hl1 hl
      refine ⟨?_, by rw [ver_delta _ _ (i - 1) hb (by omega), hap, hv], ?_⟩
      · have hs : shape (en (packL vs d vs.length) i) i = 0 := by
          rw [he]; unfold shape; simp only
          rw [if_neg (by omega), if_neg (by simp; omega), if_neg (by simp)]
        unfold code
        rw [if_neg (by simpa using hs), if_pos (by omega), hb, Int.toNat_natCast, hap]
      · rw [dep_delta _ _ (i - 1) hb (by omega), h3]
        have e1 : i = (i - 1) + 1 := by omega
        have hd : 0 < d + 1 := by omega
        have h4 := Nat.mod_lt (i - 1) hd
        have h5 := Nat.div_add_mod (i - 1) (d + 1)
        rcases Nat.lt_or_ge ((i - 1) % (d + 1) + 1) (d + 1) with hlt | hge
        · have e2 : i = (d + 1) * ((i - 1) / (d + 1)) + ((i - 1) % (d + 1) + 1) := by omega
          have e3 : i % (d + 1) = (i - 1) % (d + 1) + 1 := by
            conv => lhs; rw [e2]
            rw [Nat.mul_add_mod, Nat.mod_eq_of_lt hlt]
          omega
        · exfalso
          apply hm
          have e2 : i = (d + 1) * ((i - 1) / (d + 1) + 1) := by rw [Nat.mul_add]; omega
          rw [e2, Nat.mul_mod_right]
theorem pack_ok {vs : List (List UInt8)} {d : Nat} (h : PkOk vs d) : COk (packL vs d vs.length) :=
  ⟨by simpa using h.len, fun i hi => (pack_back h _ i (Nat.lt_succ_self _) (by simpa using hi)).1⟩
end Dc
