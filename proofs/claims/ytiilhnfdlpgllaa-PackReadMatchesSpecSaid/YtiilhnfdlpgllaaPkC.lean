/-
  Packs: a changed byte changes the digest. No program in sight.
-/
import Derived.Test.YtiilhnfdlpgllaaPk9
namespace Dg
/-- A step of the digest of bytes. -/
def nx (h : Nat) (b : UInt8) : Nat := (h * 257 % M + (b.toNat + 1)) % M
theorem nx_lt (h : Nat) (b : UInt8) : nx h b < M := Nat.mod_lt _ (by decide)
theorem ofL_fold (l : List UInt8) : ofL l = l.foldl nx 1 := by
  unfold ofL ofTo; rw [List.take_length]; rfl
theorem inv_gen (m a k h : Nat) (hk : a * k % m = 1) (hh : h < m) : (h * a % m * k) % m = h := by
  rw [Nat.mul_mod, Nat.mod_mod, ← Nat.mul_mod, Nat.mul_assoc, Nat.mul_mod, hk, Nat.mul_one, Nat.mod_mod, Nat.mod_eq_of_lt hh]
theorem inv257 (h : Nat) (hh : h < M) : (h * 257 % M * 1327878464449909357) % M = h := inv_gen M 257 _ h (by unfold M; decide) hh
theorem cancel (m x y c : Nat) (hx : x < m) (hy : y < m) (e : (x + c) % m = (y + c) % m) : x = y := by
  have h1 := Nat.div_add_mod (x + c) m
  have h2 := Nat.div_add_mod (y + c) m
  rw [e] at h1
  generalize (y + c) % m = r at *
  generalize (x + c) / m = p at *
  generalize (y + c) / m = q at *
  rcases Nat.lt_trichotomy p q with h | h | h
  · have : m * p + m ≤ m * q := by rw [← Nat.mul_succ]; exact Nat.mul_le_mul_left _ h
    omega
  · subst h; omega
  · have : m * q + m ≤ m * p := by rw [← Nat.mul_succ]; exact Nat.mul_le_mul_left _ h
    omega
theorem cancel' (m x b c : Nat) (hb : b < m) (hc : c < m) (e : (x + b) % m = (x + c) % m) : b = c := cancel m b c x hb hc (by rw [Nat.add_comm b, Nat.add_comm c]; exact e)
theorem nx_inj {h g : Nat} (hh : h < M) (hg : g < M) {b : UInt8} (e : nx h b = nx g b) : h = g := by
  have hb := b.toNat_lt
  have h1 : h * 257 % M < M := Nat.mod_lt _ (by decide)
  have h2 : g * 257 % M < M := Nat.mod_lt _ (by decide)
  have h3 : h * 257 % M = g * 257 % M := cancel M _ _ _ h1 h2 e
  rw [← inv257 h hh, ← inv257 g hg, h3]
theorem nx_ne (h : Nat) {b c : UInt8} (hne : b ≠ c) : nx h b ≠ nx h c := by
  intro e
  apply hne
  have hb := b.toNat_lt
  have hc := c.toNat_lt
  apply UInt8.toNat_inj.1
  have hM : 257 < M := by unfold M; decide
  have := cancel' M _ (b.toNat + 1) (c.toNat + 1) (by omega) (by omega) e
  omega
theorem fold_inj : ∀ (l : List UInt8) {h g : Nat}, h < M → g < M → l.foldl nx h = l.foldl nx g → h = g
  | [], _, _, _, _, e => e
  | b :: l, _, _, hh, hg, e => nx_inj hh hg (fold_inj l (nx_lt _ _) (nx_lt _ _) e)
/-- One changed byte. -/
theorem ofL_set (l : List UInt8) (i : Nat) (hi : i < l.length) (x : UInt8) (hx : x ≠ l[i]) : ofL (l.set i x) ≠ ofL l := by
  rw [ofL_fold, ofL_fold]
  intro e
  have e1 : l = l.take i ++ l[i] :: l.drop (i + 1) := by rw [← List.drop_eq_getElem_cons hi, List.take_append_drop]
  have e2 : l.set i x = l.take i ++ x :: l.drop (i + 1) := List.set_eq_take_append_cons_drop ▸ (by rw [if_pos hi])
  rw [e2] at e
  have e3 : l.foldl nx 1 = (l.take i ++ l[i] :: l.drop (i + 1)).foldl nx 1 := by rw [← e1]
  rw [e3, List.foldl_append, List.foldl_append, List.foldl_cons, List.foldl_cons] at e
  exact nx_ne _ hx (fold_inj _ (nx_lt _ _) (nx_lt _ _) e)
end Dg
namespace Ob
theorem wide_inj {n m : Nat} (hn : n < 18446744073709551616) (hm : m < 18446744073709551616) (e : wide n = wide m) : n = m := by
  have key : ∀ j, j < 8 → n / 256 ^ (7 - j) % 256 = m / 256 ^ (7 - j) % 256 := fun j hj => by
    have h1 : (wide n)[j]? = (wide m)[j]? := by rw [e]
    unfold wide at h1
    simp [hj] at h1
    have := congrArg UInt8.toNat h1
    simpa using this
  have k0 := key 0 (by omega)
  have k1 := key 1 (by omega)
  have k2 := key 2 (by omega)
  have k3 := key 3 (by omega)
  have k4 := key 4 (by omega)
  have k5 := key 5 (by omega)
  have k6 := key 6 (by omega)
  have k7 := key 7 (by omega)
  simp only [Nat.sub_zero, Nat.reduceSub, Nat.reducePow, Nat.div_one] at k0 k1 k2 k3 k4 k5 k6 k7
  have g : ∀ x : Nat, x / 72057594037927936 = x / 281474976710656 / 256 ∧ x / 281474976710656 = x / 1099511627776 / 256 ∧ x / 1099511627776 = x / 4294967296 / 256 ∧ x / 4294967296 = x / 16777216 / 256 ∧ x / 16777216 = x / 65536 / 256 ∧ x / 65536 = x / 256 / 256 := fun x => by
    simp only [Nat.div_div_eq_div_mul, Nat.reduceMul, and_self]
  obtain ⟨a0, a1, a2, a3, a4, a5⟩ := g n
  obtain ⟨b0, b1, b2, b3, b4, b5⟩ := g m
  have c0 : n / 72057594037927936 < 256 := Nat.div_lt_of_lt_mul (by omega)
  have c1 : m / 72057594037927936 < 256 := Nat.div_lt_of_lt_mul (by omega)
  rw [Nat.mod_eq_of_lt c0, Nat.mod_eq_of_lt c1] at k0
  have d (x y : Nat) (h1 : x / 256 = y / 256) (h2 : x % 256 = y % 256) : x = y := by
    have := Nat.div_add_mod x 256
    have := Nat.div_add_mod y 256
    omega
  have f1 := d _ _ (by rw [← a0, ← b0]; exact k0) k1
  have f2 := d _ _ (by rw [← a1, ← b1]; exact f1) k2
  have f3 := d _ _ (by rw [← a2, ← b2]; exact f2) k3
  have f4 := d _ _ (by rw [← a3, ← b3]; exact f3) k4
  have f5 := d _ _ (by rw [← a4, ← b4]; exact f4) k5
  have f6 := d _ _ (by rw [← a5, ← b5]; exact f5) k6
  exact d _ _ f6 k7
end Ob
namespace Go.Proofs.Ytiilhnfdlpgllaa
/-- Bytes whose last eight are not the digest of what stands ahead of them. -/
def Broken (l : List UInt8) : Prop := Ob.wide (Dg.ofL (l.take (l.length - 8))) ≠ l.drop (l.length - 8)
theorem set_ne {l : List UInt8} {i : Nat} (hi : i < l.length) {x : UInt8} (hx : x ≠ l[i]) : l.set i x ≠ l := fun e => by
  have h1 : (l.set i x)[i]? = l[i]? := by rw [e]
  rw [List.getElem?_set_self hi, List.getElem?_eq_getElem hi] at h1
  injection h1 with h1
  exact hx h1
theorem pack_broken (s : List Ob.S) (i : Nat) (hi : i < (packB s).length) (x : UInt8) (hx : x ≠ (packB s)[i]) : Broken ((packB s).set i x) := by
  have hlen : ((packB s).set i x).length - 8 = (body s).length := by rw [List.length_set, packB_length]; omega
  unfold Broken
  rw [hlen]
  have hlt : ∀ l, Dg.ofL l < 18446744073709551616 := fun l => Nat.lt_trans (Dg.ofTo_lt _ _ (Nat.le_refl _)) (by decide)
  by_cases h : i < (body s).length
  · have e : (packB s).set i x = (body s).set i x ++ Ob.wide (Dg.ofL (body s)) := by unfold packB; rw [List.set_append, if_pos h]
    have hb : (packB s)[i] = (body s)[i] := List.getElem_append_left (bs := Ob.wide (Dg.ofL (body s))) h
    rw [hb] at hx
    rw [e, List.take_left' (by simp), List.drop_left' (by simp)]
    intro e2
    exact Dg.ofL_set _ _ h x hx (Ob.wide_inj (hlt _) (hlt _) e2)
  · have e : (packB s).set i x = body s ++ (Ob.wide (Dg.ofL (body s))).set (i - (body s).length) x := by unfold packB; rw [List.set_append, if_neg h]
    have hj : i - (body s).length < (Ob.wide (Dg.ofL (body s))).length := by rw [packB_length] at hi; simp; omega
    have hb : (packB s)[i] = (Ob.wide (Dg.ofL (body s)))[i - (body s).length] := List.getElem_append_right (bs := Ob.wide (Dg.ofL (body s))) (show (body s).length ≤ i by omega)
    rw [hb] at hx
    rw [e, List.take_left' rfl, List.drop_left' rfl]
    exact fun e2 => set_ne hj hx e2.symm
theorem byte_ne (b : UInt8) (n : Int) (h1 : 1 ≤ n) (h2 : n ≤ 255) : UInt8.ofNat (((b.toNat : Int) + n) % 256).toNat ≠ b := by
  intro e
  have h := congrArg UInt8.toNat e
  have hb := b.toNat_lt
  simp at h
  omega
end Go.Proofs.Ytiilhnfdlpgllaa
