/-
  Packs: an entry is read back. No program in sight.
  Packs: what 'read' answers; a pack is read back. No program in sight.
  Packs: the state of the loop of 'read'.
  Packs: walk of 'read'.
-/
import Derived.Test.YtiilhnfdlpgllaaPk17
import Derived.Test.YtiilhnfdlpgllaaOb9
import Derived.Test.YtiilhnfdlpgllaaPk14
import Derived.Test.YtiilhnfdlpgllaaOb14
namespace Ob
theorem numN_wide (n : Nat) (h : n < 18446744073709551616) : numN (wide n) = n := by
  have e : numN (wide n) = (((((((n / 72057594037927936 % 256) * 256 + n / 281474976710656 % 256) * 256 + n / 1099511627776 % 256) * 256 + n / 4294967296 % 256) * 256 + n / 16777216 % 256) * 256 + n / 65536 % 256) * 256 + n / 256 % 256) * 256 + n % 256 := by
    simp [numN, wide, List.range_succ]
  rw [e]
  have g : n / 72057594037927936 = n / 281474976710656 / 256 ∧ n / 281474976710656 = n / 1099511627776 / 256 ∧ n / 1099511627776 = n / 4294967296 / 256 ∧ n / 4294967296 = n / 16777216 / 256 ∧ n / 16777216 = n / 65536 / 256 ∧ n / 65536 = n / 256 / 256 := by
    simp only [Nat.div_div_eq_div_mul, Nat.reduceMul, and_self]
  obtain ⟨a0, a1, a2, a3, a4, a5⟩ := g
  have c0 : n / 72057594037927936 < 256 := Nat.div_lt_of_lt_mul (by omega)
  generalize n / 72057594037927936 = x7 at *
  generalize n / 281474976710656 = x6 at *
  generalize n / 1099511627776 = x5 at *
  generalize n / 4294967296 = x4 at *
  generalize n / 16777216 = x3 at *
  generalize n / 65536 = x2 at *
  omega
theorem numI_wide (n : Nat) (h : n < 2305843009213693951) (r : List UInt8) : numI (wide n ++ r) = n := by
  unfold numI
  rw [List.take_left' (by simp), numN_wide n (by omega)]
  unfold i64; rw [if_pos (by omega)]
theorem bt_app (a r : List UInt8) (i : Nat) (h : i < a.length) : bt (a ++ r) i = bt a i := by unfold bt; rw [List.getElem?_append_left h]
section
open Go.Proofs.Ytiilhnfdlpgllaa (hd4)
open Go.Proofs.Ytiilhnfdlpgllaa.Ob (ent ent_length)
variable {o : O}
theorem ent_bt (ho : Ok o) (r : List UInt8) : (bt (ent o ++ r) 0 : Int) = o.kind ∧ bt (ent o ++ r) 1 = o.links.length ∧ bt (ent o ++ r) 2 * 256 + bt (ent o ++ r) 3 = o.data.length := by
  have h1 := ho.lo
  have h2 := ho.hi
  have h3 := ho.ln
  have h4 := ho.dn
  have e : ent o ++ r = hd4 o ++ (lnB o.links o.links.length ++ o.data ++ r) := by simp [ent]
  have hl : (hd4 o).length = 4 := rfl
  rw [e, bt_app _ _ 0 (by omega), bt_app _ _ 1 (by omega), bt_app _ _ 2 (by omega), bt_app _ _ 3 (by omega)]
  simp only [bt, hd4, List.getElem?_cons_zero, List.getElem?_cons_succ, Option.getD_some, UInt8.toNat_ofNat']
  omega
theorem lnB_app (ls : List Int) (j : Nat) (hj : j < ls.length) : ∃ r, lnB ls ls.length = lnB ls j ++ wide ls[j].toNat ++ r := by
  refine ⟨(ls.drop (j + 1)).flatMap fun n => wide n.toNat, ?_⟩
  unfold lnB
  rw [List.take_length, ← List.flatMap_singleton (fun n : Int => wide n.toNat) ls[j]] <;> try rfl
  rw [← List.flatMap_append, ← List.flatMap_append, List.append_assoc, List.singleton_append, ← List.drop_eq_getElem_cons hj, List.take_append_drop]
theorem lks_ent (ho : Ok o) (r : List UInt8) : ∀ j, j ≤ o.links.length → lks (ent o ++ r) j = o.links.take j
  | 0, _ => by simp [lks]
  | j + 1, h => by
    have hj : j < o.links.length := by omega
    rw [lks, lks_ent ho r j (by omega), List.take_succ_eq_append_getElem hj]
    congr 2
    obtain ⟨q, hq⟩ := lnB_app o.links j hj
    have hl : (hd4 o ++ lnB o.links j).length = 4 + 8 * j := by rw [List.length_append, lnB_length _ _ (by omega)]; rfl
    have e : ent o ++ r = (hd4 o ++ lnB o.links j) ++ (wide o.links[j].toNat ++ (q ++ o.data ++ r)) := by simp [ent, hq]
    obtain ⟨h0, h1⟩ := ho.all j hj
    rw [e, List.drop_left' hl, numI_wide _ (by omega)]
    omega
theorem ent_len (ho : Ok o) (r : List UInt8) : enL (ent o ++ r) = (ent o).length := by
  obtain ⟨_, h1, h2⟩ := ent_bt ho r
  unfold enL; rw [h1, h2, ent_length]
theorem ent_isP (ho : Ok o) (r : List UInt8) : isP (ent o ++ r) := by
  unfold isP; rw [ent_len ho r, List.length_append, ent_length]; omega
theorem ent_ob (ho : Ok o) (r : List UInt8) : obP (ent o ++ r) = o := by
  obtain ⟨h0, h1, h2⟩ := ent_bt ho r
  unfold obP
  rw [h1, h2, h0, lks_ent ho r _ (Nat.le_refl _), List.take_length]
  have hl : (hd4 o ++ lnB o.links o.links.length).length = 4 + 8 * o.links.length := by rw [List.length_append, lnB_length _ _ (by omega)]; rfl
  have e : ent o ++ r = (hd4 o ++ lnB o.links o.links.length) ++ (o.data ++ r) := by simp [ent]
  rw [e, List.drop_left' hl, List.take_left' rfl]
theorem ent_rest (ho : Ok o) (r : List UInt8) : (ent o ++ r).drop (enL (ent o ++ r)) = r := by rw [ent_len ho r, List.drop_left' rfl]
end
end Ob
namespace Go.Proofs.Ytiilhnfdlpgllaa
open _root_.Ob (isP enL obP obF bt dig stF S O it StOk)

instance (b : List UInt8) : Decidable (isP b) := by unfold Ob.isP; exact inferInstance
instance (b : List UInt8) : Decidable (Broken b) := by unfold Broken; exact inferInstance
/-- An entry of an index: digest, offset, length. -/
structure PE where
  dig : Int
  off : Nat
  len : Nat
/-- The loop of 'read': c objects more; tot: the length of what is digested. -/
def rdL (tot : Nat) : Nat → List UInt8 → List S → List PE → Option (List S × List PE)
  | 0, _, out, ix => some (out, ix)
  | c + 1, rest, out, ix => if isP rest ∧ (obF (obP rest)).1 = 0 then rdL tot c (rest.drop (enL rest)) (out ++ [⟨dig (obP rest), obP rest⟩]) (ix ++ [⟨dig (obP rest), tot - rest.length, enL rest⟩]) else none
/-- What 'read' answers. -/
def readF (b : List UInt8) : List S × List PE × (Int × Int) :=
  if 4096 < b.length then ([], [], (2, 0)) else if b.length < 11 then ([], [], (18, 0)) else if Broken b then ([], [], (18, 0))
  else match rdL (b.length - 8) (bt b 2) ((b.take (b.length - 8)).drop 3) [] [] with
    | none => ([], [], (1, 0))
    | some (s, ix) => if (stF s).1 ≠ 0 ∨ packB s ≠ b then ([], [], (1, 0)) else (s, ix, (0, 0))
/-- The index of a store's pack. -/
def ixL (s : List S) (i : Nat) : List PE := (List.range i).map fun j => ⟨dig (it s j).ob, 3 + (ents s j).length, (Ob.ent (it s j).ob).length⟩
theorem ixL_succ (s : List S) (i : Nat) : ixL s (i + 1) = ixL s i ++ [⟨dig (it s i).ob, 3 + (ents s i).length, (Ob.ent (it s i).ob).length⟩] := by
  unfold ixL; rw [List.range_succ, List.map_append]; rfl
theorem ents_split (s : List S) (i : Nat) (hi : i < s.length) : (ents s s.length).drop (ents s i).length = Ob.ent (it s i).ob ++ (ents s s.length).drop (ents s (i + 1)).length := by
  have e : ents s s.length = ents s i ++ (Ob.ent (it s i).ob ++ (s.drop (i + 1)).flatMap fun x => Ob.ent x.ob) := by
    unfold ents
    rw [List.take_length, ← Ob.it_eq s i hi]
    conv => lhs; rw [← List.take_append_drop i s, List.flatMap_append, List.drop_eq_getElem_cons hi, List.flatMap_cons]
  have e2 : ents s s.length = ents s (i + 1) ++ (s.drop (i + 1)).flatMap fun x => Ob.ent x.ob := by
    rw [ents_succ s i hi, List.append_assoc, ← e]
  rw [e, List.drop_left' rfl, ← e, e2, List.drop_left' rfl]
theorem rdL_pack {s : List S} (hs : StOk s) : ∀ c i, i + c = s.length → rdL (body s).length c ((ents s s.length).drop (ents s i).length) (s.take i) (ixL s i) = some (s, ixL s s.length)
  | 0, i, h => by
    obtain rfl : i = s.length := by omega
    rw [rdL, List.take_length]
  | c + 1, i, h => by
    have hi : i < s.length := by omega
    have ho := hs.ok i hi
    have hd := hs.eq i hi
    rw [rdL, ents_split s i hi, Ob.ent_ob ho, Ob.ent_rest ho, Ob.ent_len ho, if_pos ⟨Ob.ent_isP ho _, by rw [ho.f]⟩, ← rdL_pack hs c (i + 1) (by omega), ixL_succ, List.take_succ_eq_append_getElem hi, Ob.it_eq s i hi]
    have hl : (body s).length - (Ob.ent (it s i).ob ++ (ents s s.length).drop (ents s (i + 1)).length).length = 3 + (ents s i).length := by
      have h1 : (body s).length = 3 + (ents s s.length).length := by unfold body hd3; simp; omega
      have h2 := congrArg List.length (ents_split s i hi)
      rw [List.length_drop] at h2
      have h3 : (ents s i).length ≤ (ents s s.length).length := by
        have h4 := congrArg List.length (ents_split s i hi)
        rw [List.length_drop, List.length_append] at h4
        have h5 : 0 < (Ob.ent (it s i).ob).length := by rw [Ob.ent_length]; omega
        omega
      omega
    rw [hl]
    congr 3
    generalize it s i = x at *
    obtain ⟨xd, xo⟩ := x
    simp only at hd ⊢
    rw [hd]
theorem readF_pack {s : List S} (hs : StOk s) (hl : (packB s).length ≤ 4096) : readF (packB s) = (s, ixL s s.length, (0, 0)) := by
  have h1 := packB_length s
  have h0 := hs.len
  have h2 : (body s).length = 3 + (ents s s.length).length := by unfold body hd3; simp; omega
  have hb : ¬ Broken (packB s) := by
    unfold Broken
    rw [show (packB s).length - 8 = (body s).length by omega]
    unfold packB
    rw [List.take_left' rfl, List.drop_left' rfl]
    exact fun h => h rfl
  have h3 : bt (packB s) 2 = s.length := by
    unfold packB body hd3 bt
    simp
    omega
  have h4 : ((packB s).take ((packB s).length - 8)).drop 3 = (ents s s.length).drop (ents s 0).length := by
    rw [show (packB s).length - 8 = (body s).length by omega]
    unfold packB
    rw [List.take_left' rfl]
    unfold body hd3
    simp
  have h5 := rdL_pack hs s.length 0 (by omega)
  unfold readF
  rw [if_neg (by omega), if_neg (by omega), if_neg hb, h3, h4, show (packB s).length - 8 = (body s).length by omega]
  rw [show s.take 0 = [] from List.take_zero .., show ixL s 0 = [] from rfl] at h5
  rw [h5]
  simp only
  rw [if_neg (by rw [hs.f]; simp)]
end Go.Proofs.Ytiilhnfdlpgllaa
namespace Go.Proofs.Ytiilhnfdlpgllaa
open Go.RowKit Go.V
set_option linter.unusedVariables false

/-- An index as cells. -/
def ixV (ix : List PE) : List Value := ix.flatMap fun e => [.int .i64 e.dig, .int .i64 e.off, .int .i64 e.len]
theorem ixV_length (ix : List PE) : (ixV ix).length = ix.length * 3 := by
  induction ix with
  | nil => rfl
  | cons e l ih => simp [ixV] at ih ⊢; omega
theorem ixV_app (ix : List PE) (e : PE) : ixV (ix ++ [e]) = ixV ix ++ [.int .i64 e.dig, .int .i64 e.off, .int .i64 e.len] := by simp [ixV]
/-- The state of the loop of 'read'. -/
structure RdSt (w wr : World) (out : List Ob.S) (ix : List PE) (Ao : Option Addr) (co : Nat) (xs : List Value) (Ai : Option Addr) (ci : Nat) : Prop where
  r1 : Blk wr w.heap.size 24 #[.slice none 0 0]
  r2 : Blk wr (w.heap.size + 1) 28 #[.int .i64 0, .int .i64 0]
  sb : Blk wr (w.heap.size + 2) 24 #[.slice Ao out.length co]
  own : wr.ownsRow (w.heap.size + 3) 46 4 (.slice Ao out.length co) out.length xs
  rows : RowsR (StR wr (Or2 (Under (w.heap.size + 3)) (.slice Ao out.length co) (.slice Ai ix.length ci))) out xs
  oi : wr.ownsRow (w.heap.size + 3) 48 3 (.slice Ai ix.length ci) ix.length (ixV ix)
  dis : ∀ g, (Value.slice Ao out.length co).ownBlock = some g → (Value.slice Ai ix.length ci).ownBlock ≠ some g
  bel : Below w.heap.size w wr
section
variable {w wr w' : World} {out : List Ob.S} {ix : List PE} {Ao : Option Addr} {co : Nat} {xs : List Value} {Ai : Option Addr} {ci : Nat}
theorem RdSt.below (h : RdSt w wr out ix Ao co xs Ai ci) (hb : Below wr.heap.size wr w') : RdSt w w' out ix Ao co xs Ai ci :=
  ⟨h.r1.below hb h.r1.lt, h.r2.below hb h.r2.lt, h.sb.below hb h.sb.lt, h.own.kept (only_of_below hb none) (by cases hv : (Value.slice Ao out.length co).ownBlock <;> simp),
    h.rows.mono (StR.keep (Keeps.below hb (fun _ _ h => h))), h.oi.kept (only_of_below hb none) (by cases hv : (Value.slice Ai ix.length ci).ownBlock <;> simp), h.dis, h.bel.trans (hb.mono h.bel.size)⟩
theorem RdSt.app (h : RdSt w wr out ix Ao co xs Ai ci) {o0 : Obj} {w4 : World} {A4 : Option Addr} {c4 : Nat} {x : Ob.S} {Al : Option Addr} {kl : Nat} {Ad : Option Addr} {kd : Nat}
    (hg : (wr.alloc o0).grownBy w4 (Value.slice Ao out.length co).ownBlock)
    (hown : w4.ownsRow (w.heap.size + 3) 46 4 (.slice A4 (out.length + 1) c4) (out.length + 1) (xs ++ [.int .i64 x.dig, .int .i64 x.ob.kind, .slice Al x.ob.links.length kl, .slice Ad x.ob.data.length kd]))
    (hb : (Value.slice A4 (out.length + 1) c4).ownBlock = (Value.slice Ao out.length co).ownBlock ∨ (Value.slice A4 (out.length + 1) c4).ownBlock = some (wr.alloc o0).heap.size)
    (hx : I64 x.dig) (hob : ObA wr (Or2 (Under (w.heap.size + 3)) (.slice Ao out.length co) (.slice Ai ix.length ci)) x.ob Al kl Ad kd) :
    RdSt w (w4.setCell ⟨w.heap.size + 2, 0, none⟩ (.slice A4 (out.length + 1) c4)) (out ++ [x]) ix A4 c4 (xs ++ [.int .i64 x.dig, .int .i64 x.ob.kind, .slice Al x.ob.links.length kl, .slice Ad x.ob.data.length kd]) Ai ci := by
  have own3 := h.own.alloc o0
  have oi3 := h.oi.alloc o0
  have hlo : ∀ g, (Value.slice Ao out.length co).ownBlock = some g → w.heap.size + 3 ≤ g := fun g hg => (h.own.lt g hg).1
  have hl : (out ++ [x]).length = out.length + 1 := by simp
  have f : ∀ {b : Nat} {t : TypeId} {cs : Array Value}, Blk wr b t cs → b < w.heap.size + 2 → Blk (w4.setCell ⟨w.heap.size + 2, 0, none⟩ (.slice A4 (out.length + 1) c4)) b t cs := fun hb hlt =>
    (((hb.alloc o0).grown hg (fun e => by have := hlo _ e.symm; omega)).far (by simp; omega) _)
  have sb4 := (h.sb.alloc o0).grown hg (fun e => by have := hlo _ e.symm; omega)
  have hkp := ((Keeps.alloc wr (Or2 (Under (w.heap.size + 3)) (.slice Ao out.length co) (.slice Ai ix.length ci)) o0).trans (Keeps.or2a hg rfl hb)).trans (Keeps.setCell w4 _ ⟨w.heap.size + 2, 0, none⟩ (.slice A4 (out.length + 1) c4) (.inl (by show w.heap.size + 2 < w.heap.size + 3; omega)))
  refine ⟨f h.r1 (by omega), f h.r2 (by omega), by rw [hl]; simpa using sb4.set_ 0 (.slice A4 (out.length + 1) c4), ?_, ?_, ?_, ?_, ?_⟩
  · rw [hl]; exact own_setCell hown (fun e => by have := (hown.lt _ e.symm).1; simp only at this; omega) _
  · rw [hl]; exact (h.rows.mono (StR.keep hkp)).append (RowsR.one ⟨Al, kl, Ad, kd, rfl, hx, hob.keep hkp⟩)
  · refine own_setCell (oi3.kept hg ?_) (fun e => by have := (oi3.lt _ e.symm).1; simp only at this; omega) _
    rcases hv : (Value.slice Ai ix.length ci).ownBlock with _ | g
    · exact .inl rfl
    · exact .inr fun e => h.dis g e.symm hv
  · rw [hl]
    intro g hg4 hi
    rcases hb with hb | hb
    · exact h.dis g (hb.symm.trans hg4) hi
    · have h1 := (h.oi.lt g hi).2
      rw [hb] at hg4
      injection hg4 with hg4
      simp at hg4
      omega
  · refine Below.setCell ?_ (by simp) _
    exact (h.bel.alloc h.bel.size o0).grown hg (by have := h.bel.size; simp; omega) (fun b hb => by have := hlo b hb; omega)
theorem RdSt.appI (h : RdSt w wr out ix Ao co xs Ai ci) {o0 : Obj} {w4 : World} {A4 : Option Addr} {c4 : Nat} {e : PE}
    (hg : (wr.alloc o0).grownBy w4 (Value.slice Ai ix.length ci).ownBlock)
    (hown : w4.ownsRow (w.heap.size + 3) 48 3 (.slice A4 (ix.length + 1) c4) (ix.length + 1) (ixV ix ++ [.int .i64 e.dig, .int .i64 e.off, .int .i64 e.len]))
    (hb : (Value.slice A4 (ix.length + 1) c4).ownBlock = (Value.slice Ai ix.length ci).ownBlock ∨ (Value.slice A4 (ix.length + 1) c4).ownBlock = some (wr.alloc o0).heap.size) :
    RdSt w w4 out (ix ++ [e]) Ao co xs A4 c4 := by
  have own3 := h.own.alloc o0
  have oi3 := h.oi.alloc o0
  have hlo : ∀ g, (Value.slice Ai ix.length ci).ownBlock = some g → w.heap.size + 3 ≤ g := fun g hg => (h.oi.lt g hg).1
  have hl : (ix ++ [e]).length = ix.length + 1 := by simp
  have f : ∀ {b : Nat} {t : TypeId} {cs : Array Value}, Blk wr b t cs → b < w.heap.size + 3 → Blk w4 b t cs := fun hb hlt =>
    (hb.alloc o0).grown hg (fun e => by have := hlo _ e.symm; omega)
  have hkp := (Keeps.alloc wr (Or2 (Under (w.heap.size + 3)) (.slice Ao out.length co) (.slice Ai ix.length ci)) o0).trans (Keeps.or2b hg rfl hb)
  refine ⟨f h.r1 (by omega), f h.r2 (by omega), f h.sb (by omega), ?_, ?_, ?_, ?_, ?_⟩
  · refine own3.kept hg ?_
    rcases hv : (Value.slice Ao out.length co).ownBlock with _ | g
    · exact .inl rfl
    · exact .inr fun e => h.dis g hv e.symm
  · rw [hl]; exact h.rows.mono (StR.keep hkp)
  · rw [hl, ixV_app]; exact hown
  · rw [hl]
    intro g hg4 hi
    rcases hb with hb | hb
    · exact h.dis g hg4 (hb.symm.trans hi)
    · have h1 := (h.own.lt g hg4).2
      rw [hb] at hi
      injection hi with hi
      simp at hi
      omega
  · exact (h.bel.alloc h.bel.size o0).grown hg (by have := h.bel.size; simp; omega) (fun b hb => by have := hlo b hb; omega)
end
end Go.Proofs.Ytiilhnfdlpgllaa
namespace Go.Proofs.Ytiilhnfdlpgllaa
open Go.RowKit Go.V
set_option linter.unusedVariables false

theorem info48 : (Try.prog.info? 48).map (fun i => (i.zero, i.size, i.bytes)) = some (some (.agg #[.int .i64 0, .int .i64 0, .int .i64 0]), 3, 24) := by kernel_rfl
/-- What 'read' answers. -/
def RdPost (w : World) (r : List Ob.S × List PE × (Int × Int)) (e : Ending) (w' : World) : Prop :=
  ∃ A c Ai ci, e = .returned (.tuple #[stV A r.1.length c, .slice Ai r.2.1.length ci, .agg #[.int .i64 r.2.2.1, .int .i64 r.2.2.2]]) ∧ StV w' (Under w.heap.size) A r.1 ∧ SA w' (Under w.heap.size) Ai (ixV r.2.1) ∧ Below w.heap.size w w'
theorem RdPost.no {w w' : World} {r : List Ob.S × List PE × (Int × Int)} {c : Int} (h : r = ([], [], (c, 0))) (hb : Below w.heap.size w w') : RdPost w r (.returned (.tuple #[.agg #[.slice none 0 0], .slice none 0 0, .agg #[.int .i64 c, .int .i64 0]])) w' := by
  subst h; exact ⟨none, 0, none, 0, rfl, ⟨[], SA.nil, rfl⟩, SA.nil, hb⟩
/-- Bytes that are too long or too short. -/
theorem read_size (w : World) (A : Option Addr) (n k : Nat) (c : Int) (h : (4096 < n ∧ c = 2) ∨ (n < 11 ∧ c = 18)) :
    Calls Try.prog 42 #[.slice A n k] w fun e w' => e = .returned (.tuple #[.agg #[.slice none 0 0], .slice none 0 0, .agg #[.int .i64 c, .int .i64 0]]) ∧ Below w.heap.size w w' := by
  have b0 := below_alloc3 w (.cells #[.slice none 0 0] 24) (.cells #[.int .i64 c, .int .i64 0] 28) (.cells #[.slice none 0 0] 24)
  have r1 := ((Blk.new w 24 #[.slice none 0 0]).alloc (.cells #[.int .i64 c, .int .i64 0] 28)).alloc (.cells #[.slice none 0 0] 24)
  have r2 := (blk_new1 w (.cells #[.slice none 0 0] 24) 28 #[.int .i64 c, .int .i64 0]).alloc (.cells #[.slice none 0 0] 24)
  rcases h with ⟨h, rfl⟩ | ⟨h, rfl⟩
  · have h' : (4096 : Int) < n := by omega
    go_enter Try.func42, Try.ntmps42
    go_wp2_with fail
    refine bodyPost_ret (results_24_t_28 rfl _ _ w.heap.size (w.heap.size + 1) (.slice none 0 0) (.int .i64 2) (.int .i64 0) rfl rfl r1 r2) rfl ?_
    exact ⟨rfl, b0⟩
  · have h' : (n : Int) < 11 := by omega
    have h2 : ¬ (4096 : Int) < n := by omega
    go_enter Try.func42, Try.ntmps42
    go_wp2_with fail
    refine bodyPost_ret (results_24_t_28 rfl _ _ w.heap.size (w.heap.size + 1) (.slice none 0 0) (.int .i64 18) (.int .i64 0) rfl rfl r1 r2) rfl ?_
    exact ⟨rfl, b0⟩
end Go.Proofs.Ytiilhnfdlpgllaa
