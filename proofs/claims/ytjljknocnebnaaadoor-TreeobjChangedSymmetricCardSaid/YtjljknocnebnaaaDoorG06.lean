/-
  Objects: walk of 'add'.
  File trees: walks of 'Validate', 'Second'.
  Objects: walks of 'Has' and 'Get'.
  Objects: walk of 'Put'.
-/
import Derived.Test.YtjljknocnebnaaaDoorG05
import Derived.Test.YtjljknocnebnaaaDoorG04
import Derived.Deep.RegionHeld3
import Derived.Deep.DeepCutAuto
namespace Ob
/-- What 'add' answers, and the store behind it. -/
def addOk (s : List S) (d : Int) (o : O) : Bool := if fnd s d then Go.Proofs.YtjljknocnebnaaaDoor.eqO (it s (lb s d)).ob o else true
def addS (s : List S) (d : Int) (o : O) : List S := if fnd s d then s else s.take (lb s d) ++ [⟨d, o⟩] ++ s.drop (lb s d)
end Ob
namespace Go.V
open Go.RowKit
theorem RowsR.take {α : Type} {R : α → List Value → Prop} {k : Nat} (hk : ∀ a cs, R a cs → cs.length = k) : ∀ {l : List α} {vs : List Value}, RowsR R l vs → ∀ i, RowsR R (l.take i) (vs.take (i * k)) ∧ RowsR R (l.drop i) (vs.drop (i * k))
  | l, vs, h, 0 => by simp [RowsR]; exact h
  | [], vs, h, i + 1 => by simp only [RowsR] at h; subst h; simp [RowsR]
  | a :: l, vs, h, i + 1 => by
    obtain ⟨cs, rest, rfl, hc, hr⟩ := h
    have hl := hk a cs hc
    obtain ⟨h1, h2⟩ := RowsR.take hk hr i
    have e : (i + 1) * k = cs.length + i * k := by rw [Nat.add_mul, hl]; omega
    rw [e, List.take_length_add_append, List.drop_length_add_append]
    exact ⟨⟨cs, _, rfl, hc, h1⟩, h2⟩
/-- All but one block and one row are as they were. -/
structure TouchS (w w' : World) (g : Nat) (row : Option Nat) : Prop where
  os : w'.os = w.os
  tape : w'.tape = w.tape
  output : w'.output = w.output
  size : w.heap.size ≤ w'.heap.size
  block : ∀ b, b < w.heap.size → b ≠ g → some b ≠ row → w'.heap[b]? = w.heap[b]?
theorem TouchS.of_below {w w' : World} (h : Below w.heap.size w w') (g : Nat) (row : Option Nat) : TouchS w w' g row := ⟨h.os, h.tape, h.output, h.size, fun b hb _ _ => h.block b hb⟩
theorem TouchS.below {w w' : World} {g B : Nat} {row : Option Nat} (h : TouchS w w' g row) (hB : B ≤ w.heap.size) (hg : B ≤ g) (hr : ∀ k, row = some k → B ≤ k) : Below B w w' :=
  ⟨h.os, h.tape, h.output, h.size, fun b hb => h.block b (by omega) (by omega) (fun e => by have := hr b e.symm; omega)⟩
theorem TouchS.grown {w w1 w' : World} {g : Nat} {row : Option Nat} (h : Below w.heap.size w w1) (hg : w1.grownBy w' row) : TouchS w w' g row :=
  ⟨hg.os.trans h.os, hg.tape.trans h.tape, hg.output.trans h.output, Nat.le_trans h.size hg.size, fun b hb _ hr => (hg.block b (Nat.lt_of_lt_of_le hb h.size) hr).trans (h.block b hb)⟩
theorem TouchS.set {w w' : World} {g : Nat} {row : Option Nat} (h : TouchS w w' g row) (i : Nat) (v : Value) : TouchS w (w'.setCell ⟨g, i, none⟩ v) g row :=
  ⟨h.os, h.tape, h.output, by simpa [World.setCell] using h.size, fun b hb hne hr => (Below.heap_setCell w' ⟨g, i, none⟩ v b hne).trans (h.block b hb hne hr)⟩
theorem Blk.touchS {w w' : World} {g b : Nat} {row : Option Nat} {t : TypeId} {cs : Array Value} (hb : Blk w b t cs) (h : TouchS w w' g row) (hne : b ≠ g) (hr : some b ≠ row) : Blk w' b t cs := (h.block b hb.lt hne hr).trans hb
end Go.V
namespace Go.Proofs.YtjljknocnebnaaaDoor
open Go.RowKit Go.V
set_option linter.unusedVariables false

theorem rows_one {w : World} {X : Nat → Prop} : ∀ {s : List Ob.S} {xs : List Value}, RowsR (StR w X) s xs → ∀ u ∈ xs, u.oneCell' = true
  | [], xs, h, u, hu => by simp only [RowsR] at h; subst h; cases hu
  | a :: l, xs, h, u, hu => by
    obtain ⟨cs, rest, rfl, ⟨Al, kl, Ad, kd, rfl, _⟩, hr⟩ := h
    rcases List.mem_append.1 hu with hu | hu
    · exact st_one _ _ _ _ _ _ _ _ u hu
    · exact rows_one hr u hu
theorem insert_any (w : World) (base : Nat) (A : Option Addr) (n c i : Nat) (xs : List Value) (nv : Array Value) (vb : Nat) (hown : w.ownsRow base 66 4 (.slice A n c) n xs) (hi : i ≤ n) (hl : n ≤ 1000000) (hbase : base ≤ w.heap.size)
    (hvb : Blk w vb 66 nv) (hnl : nv.size = 4) (hne : some vb ≠ (Value.slice A n c).ownBlock) (h1 : ∀ u ∈ nv.toList, u.oneCell' = true) (hx1 : ∀ u ∈ xs, u.oneCell' = true) :
    Calls Tryd.prog 62 #[.slice A n c, .int .i64 i, .slice (some ⟨vb, 0, none⟩) 1 1] w (InPost w base A n c xs nv.toList i) := by
  by_cases hin : i = n
  · subst hin
    exact insert_end w base A i c xs nv.toList vb hown hl hbase (by simpa using hnl) (fun j u hu => by rw [hvb.cell, ← Array.getElem?_toList]; exact hu) h1
  · obtain ⟨g, cur, rfl, _, hg, hb, hc, hm, hcs, hx⟩ := own_blk hown (by omega)
    have hne' : vb ≠ g := fun e => hne (by rw [e]; rfl)
    by_cases hr : n + 1 ≤ c
    · exact insert_room w base g n c i xs nv.toList vb nv cur hb hg hr hm hcs hx (by omega) hl hvb rfl hne' (by simpa using hnl) h1 hx1
    · obtain rfl : c = n := by omega
      exact insert_grow w base g c i xs nv.toList vb nv cur hb hbase hcs hx (by omega) hl hvb rfl (by simpa using hnl) h1 hx1
theorem own_new_ne {w : World} {base : Nat} {e : TypeId} {size n : Nat} {v : Value} {xs : List Value} (h : w.ownsRow base e size v n xs) : some w.heap.size ≠ v.ownBlock := fun e => by have := (h.lt _ e.symm).2; omega
theorem hne46 : (66 : TypeId) ≠ 24 := by decide
/-- A store in a variable of the call's own. -/
structure OutSt (w : World) (g base : Nat) (X : Nat → Prop) (A : Option Addr) (c : Nat) (s : List Ob.S) (xs : List Value) : Prop where
  blk : Blk w g 24 #[.slice A s.length c]
  own : w.ownsRow base 66 4 (.slice A s.length c) s.length xs
  rows : RowsR (StR w (Or1 X (.slice A s.length c))) s xs
  hX : X g
  hi : base ≤ w.heap.size
section
variable {w w' : World} {g base : Nat} {X : Nat → Prop} {A : Option Addr} {c : Nat} {s : List Ob.S} {xs : List Value}
theorem OutSt.below (h : OutSt w g base X A c s xs) (hb : Below w.heap.size w w') : OutSt w' g base X A c s xs :=
  ⟨h.blk.below hb h.blk.lt, h.own.kept (only_of_below hb none) (by cases hv : (Value.slice A s.length c).ownBlock <;> simp), h.rows.mono (StR.keep (Keeps.below hb (fun _ _ h => h))), h.hX, Nat.le_trans h.hi hb.size⟩
theorem OutSt.view (h : OutSt w g base X A c s xs) : StV w Free A s :=
  ⟨xs, SA.of_own' h.own (fun _ _ h => h), h.rows.mono (StR.keep ((Keeps.refl w _).into fun _ h => h.elim))⟩
end
def AdPost (w : World) (g base : Nat) (X : Nat → Prop) (A : Option Addr) (c : Nat) (s : List Ob.S) (d : Int) (o : Ob.O) (e : Ending) (w' : World) : Prop :=
  ∃ A' c' xs', e = .returned (.bool (Ob.addOk s d o)) ∧ OutSt w' g base X A' c' (Ob.addS s d o) xs' ∧ TouchS w w' g (Value.slice A s.length c).ownBlock
set_option maxRecDepth 100000 in
set_option maxHeartbeats 16000000 in
theorem add_any (w : World) (g base : Nat) (X : Nat → Prop) (A : Option Addr) (c : Nat) (s : List Ob.S) (xs : List Value) (d : Int) (o : Ob.O) (Al : Option Addr) (kl : Nat) (Ad : Option Addr) (kd : Nat)
    (h : OutSt w g base X A c s xs) (hXs : ∀ b, X b → b < w.heap.size) (hs : Ob.Sorted s) (hl : s.length ≤ 100000) (hd : I64 d) (ho : ObA w Free o Al kl Ad kd) (hlk : o.links.length * 8 ≤ 140737488351232) :
    Calls Tryd.prog 42 #[.pointer (some ⟨g, 0, none⟩), .int .i64 d, obV o Al kl Ad kd] w (AdPost w g base X A c s d o) := by
  have hOL := Ob.lb_le s d
  have hb1 := below_alloc1 w (.cells #[.int .i64 o.kind, .slice Al o.links.length kl, .slice Ad o.data.length kd] 54)
  have h1 := h.below hb1
  have HFI := Lib.hid (find_any _ A c s d h1.view (by omega) hs)
  have HOV := Lib.hid (fun (w' : World) (hb : Below w.heap.size w w') => ho.keep (free_below hb))
  have HST := Lib.hid (fun (w' : World) (hb : Below w.heap.size w w') => h.below hb)
  have q0 := h1.blk.cell 0
  simp only [List.getElem?_toArray, List.getElem?_cons_zero] at q0
  have HSR := Lib.hid hs
  have hgl := h1.blk.lt
  clear h1 hs
  by_cases hf : Ob.fnd s d = true
  · have hpl : Ob.lb s d < s.length := by
      unfold Ob.fnd at hf; rw [Bool.and_eq_true] at hf; simpa using hf.1
    have HOK : Hid (Ob.addOk s d o = eqO (Ob.it s (Ob.lb s d)).ob o) := Lib.hid (by unfold Ob.addOk; rw [hf]; rfl)
    have HAS : Hid (Ob.addS s d o = s) := Lib.hid (by unfold Ob.addS; rw [hf]; rfl)
    rw [hf] at HFI
    clear hf
    have HROW := Lib.hid (fun (w' : World) (hb : Below w.heap.size w w') => ((h.view).keep (free_below hb)).row (w := w') _ hpl)
    have HSM := Lib.hid (fun (w' : World) (hb : Below w.heap.size w w') Al' kl' Ad' kd' (h' : ObA w' Free (Ob.it s (Ob.lb s d)).ob Al' kl' Ad' kd') => same_any w' (Ob.it s (Ob.lb s d)).ob o Al' kl' Ad' kd' Al kl Ad kd h' (HOV.out w' hb))
    generalize hx : Ob.it s (Ob.lb s d) = x at *
    clear hx
    generalize eqO x.ob o = q at *
    obtain ⟨xd, kk', ls', da'⟩ := x
    obtain ⟨kk, ls, da⟩ := o
    simp only at *
    generalize Ob.lb s d = p at *
    have hpi : (p : Int) < s.length := by omega
    go_enter Tryd.func42, Tryd.ntmps42
    go_wp2_with fail
    go_at_call 33
    refine HFI.out.mono ?_
    rintro e w2 ⟨rfl, hb2⟩
    have hbw := hb1.trans (hb2.mono hb1.size)
    have h2 := HST.out _ hbw
    have r0 := h2.blk.cell 0
    simp only [List.getElem?_toArray, List.getElem?_cons_zero] at r0
    have blx := (Blk.new w 54 #[.int .i64 kk, .slice Al ls.length kl, .slice Ad da.length kd]).below hb2 (by simp)
    have x0 := blx.cell 0
    have x1 := blx.cell 1
    have x2 := blx.cell 2
    simp only [List.getElem?_toArray, List.getElem?_cons_zero, List.getElem?_cons_succ] at x0 x1 x2
    have hk0 : Below w2.heap.size w2 w2.drew := below_drew' (Below.refl _ _)
    obtain ⟨b, off, Al', kl', Ad', kd', eA, hb, _, d0, d1, d2, d3, _, hob⟩ := HROW.out _ hbw
    subst eA
    have hobd := hob.keep (free_below hk0)
    have HK : Hid (∀ w6 : World, Below w2.heap.size w2 w6 → w6.cell? ⟨g, 0, none⟩ = some (.slice (some ⟨b, off, none⟩) s.length c) ∧ w6.cell? ⟨w.heap.size, 0, none⟩ = some (.int .i64 kk) ∧ w6.cell? ⟨w.heap.size, 1, none⟩ = some (.slice Al ls.length kl) ∧ w6.cell? ⟨w.heap.size, 2, none⟩ = some (.slice Ad da.length kd) ∧
        w6.cell? ⟨b, off + p * 4 + 1, none⟩ = some (.int .i64 kk') ∧ w6.cell? ⟨b, off + p * 4 + 1 + 1, none⟩ = some (.slice Al' ls'.length kl') ∧ w6.cell? ⟨b, off + p * 4 + 1 + 2, none⟩ = some (.slice Ad' da'.length kd')) := Lib.hid fun w6 h6 =>
      ⟨(h6.cell (p := ⟨_, _, none⟩) h2.blk.lt).trans r0, (h6.cell (p := ⟨_, _, none⟩) blx.lt).trans x0, (h6.cell (p := ⟨_, _, none⟩) blx.lt).trans x1, (h6.cell (p := ⟨_, _, none⟩) blx.lt).trans x2, (h6.cell (p := ⟨_, _, none⟩) hb).trans d1, (h6.cell (p := ⟨_, _, none⟩) hb).trans d2, (h6.cell (p := ⟨_, _, none⟩) hb).trans d3⟩
    have hp0 : (0 : Int) ≤ p := by omega
    clear hb2 HFI d0 d1 d2 d3 hob
    go_wp2_with fail
    go_region_held3 (fun w6 => w6.cell? ⟨g, 0, none⟩ = some (.slice (some ⟨b, off, none⟩) s.length c) ∧ w6.cell? ⟨w.heap.size, 0, none⟩ = some (.int .i64 kk) ∧ w6.cell? ⟨w.heap.size, 1, none⟩ = some (.slice Al ls.length kl) ∧ w6.cell? ⟨w.heap.size, 2, none⟩ = some (.slice Ad da.length kd) ∧
        w6.cell? ⟨b, off + p * 4 + 1, none⟩ = some (.int .i64 kk') ∧ w6.cell? ⟨b, off + p * 4 + 1 + 1, none⟩ = some (.slice Al' ls'.length kl') ∧ w6.cell? ⟨b, off + p * 4 + 1 + 2, none⟩ = some (.slice Ad' da'.length kd'))
      (first | exact HK.out _ hk0 | exact HK.out _ hk3)
      (first | (go_at_call 61; (with_reducible refine (HSM.out _ (hbw.trans (hk0.mono hbw.size)) _ _ _ _ hobd).mono ?_); rintro e w3 ⟨rfl, hb3⟩; have hk3 : Below w2.heap.size w2 w3 := hk0.trans (hb3.mono hk0.size)))
    go_wp2_with fail
    go_ret
    refine ⟨_, c, xs, by rw [HOK.out]; rfl, by rw [HAS.out]; exact h2.below hk3, .of_below (hbw.trans (hk3.mono hbw.size)) _ _⟩
  · have hff : Ob.fnd s d = false := by simpa using hf
    clear hf
    have HOK : Hid (Ob.addOk s d o = true) := Lib.hid (by unfold Ob.addOk; rw [hff]; rfl)
    have HAS : Hid (Ob.addS s d o = s.take (Ob.lb s d) ++ [⟨d, o⟩] ++ s.drop (Ob.lb s d)) := Lib.hid (by unfold Ob.addS; rw [hff]; rfl)
    rw [hff] at HFI
    clear hff
    have HCO := Lib.hid (fun (w' : World) (hb : Below w.heap.size w w') => copyObject_any w' o Al kl Ad kd (HOV.out w' hb) hlk)
    obtain ⟨kk, ls, da⟩ := o
    simp only at *
    generalize Ob.lb s d = p at *
    go_enter Tryd.func42, Tryd.ntmps42
    go_wp2_with fail
    go_at_call 33
    refine HFI.out.mono ?_
    rintro e w2 ⟨rfl, hb2⟩
    have hbw := hb1.trans (hb2.mono hb1.size)
    have h2 := HST.out _ hbw
    have r0 := h2.blk.cell 0
    simp only [List.getElem?_toArray, List.getElem?_cons_zero] at r0
    have blx := (Blk.new w 54 #[.int .i64 kk, .slice Al ls.length kl, .slice Ad da.length kd]).below hb2 (by simp)
    have x0 := blx.cell 0
    have x1 := blx.cell 1
    have x2 := blx.cell 2
    simp only [List.getElem?_toArray, List.getElem?_cons_zero, List.getElem?_cons_succ] at x0 x1 x2
    clear hb2 HFI
    go_wp2_with fail
    have hk0 : Below w2.heap.size w2 w2.drew := below_drew' (Below.refl _ _)
    have hplen : p ≤ s.length := hOL
    have hl6 : s.length ≤ 1000000 := by omega
    go_region_law
      (first
        | (go_simp; go_at_call 60; (with_reducible refine (HCO.out _ (hbw.trans (hk0.mono hbw.size))).mono ?_); rintro e w3 ⟨A1, k1, A2, k2, rfl, hob3, hb3⟩; have hk3 : Below w2.heap.size w2 w3 := hk0.trans (hb3.mono hk0.size); have h3 := h2.below hk3; have p0 := (h3.blk.cell 0).trans (rfl : _ = some (Value.slice A s.length c)); have z3 := h3.blk.lt; go_wp2_with fail)
        | (go_simp; go_at_call 62; (with_reducible refine (insert_any _ base A s.length c p xs #[.int .i64 d, .int .i64 kk, .slice A1 ls.length k1, .slice A2 da.length k2] w3.heap.size (h3.own.alloc _) hplen hl6 (Nat.le_trans h3.hi (size_alloc_le _ _)) (Blk.new w3 66 #[.int .i64 d, .int .i64 kk, .slice A1 ls.length k1, .slice A2 da.length k2]) rfl (own_new_ne h3.own) (st_one _ _ _ _ _ _ _ _) (rows_one h3.rows)).mono ?_); rintro e w4 ⟨gd, c4, rfl, hown4, hg4, hob4⟩; have own3 := h3.own.alloc (.cells #[.int .i64 d, .int .i64 kk, .slice A1 ls.length k1, .slice A2 da.length k2] 66); have blk3 := h3.blk.alloc (.cells #[.int .i64 d, .int .i64 kk, .slice A1 ls.length k1, .slice A2 da.length k2] 66); have blk4 := blk3.grown hg4 (own_blk_ne own3 blk3 hne46); have r5 := (blk4.cell 0).trans (rfl : _ = some (Value.slice A s.length c)); have r6 := blk4.frozen 0; go_wp2_with fail))
    all_goals
      go_wp2_with fail
      go_ret
      have hkp := ((Keeps.alloc w3 (Or1 X (.slice A s.length c)) (.cells #[.int .i64 d, .int .i64 kk, .slice A1 ls.length k1, .slice A2 da.length k2] 66)).trans (Keeps.or1 hg4 rfl hob4)).trans (Keeps.setCell w4 _ ⟨g, 0, none⟩ (.slice (some ⟨gd, 0, none⟩) (s.length + 1) c4) (.inl h.hX))
      have hrows := RowsR.take StR.len (h3.rows.mono (StR.keep hkp)) p
      have hlen : (Ob.addS s d ⟨kk, ls, da⟩).length = s.length + 1 := by rw [HAS.out]; simp; omega
      refine ⟨some ⟨gd, 0, none⟩, c4, xs.take (p * 4) ++ (#[.int .i64 d, .int .i64 kk, .slice A1 ls.length k1, .slice A2 da.length k2] : Array Value).toList ++ xs.drop (p * 4), by rw [HOK.out]; rfl, ⟨?_, ?_, ?_, h.hX, ?_⟩, ?_⟩
      · rw [hlen]; simpa using blk4.set_ 0 (.slice (some ⟨gd, 0, none⟩) (s.length + 1) c4)
      · rw [hlen]; exact own_setCell hown4 (own_blk_ne hown4 blk4 hne46) _
      · rw [hlen, HAS.out]
        refine (hrows.1.append (RowsR.one ⟨A1, k1, A2, k2, rfl, hd, ObA.keep ?_ hkp⟩)).append hrows.2
        exact hob3.mono_ (fun b hb => by
          rcases hb with hb | hb
          · exact Nat.lt_of_lt_of_le (hXs b hb) (hbw.trans (hk0.mono hbw.size)).size
          · exact Nat.lt_of_lt_of_le (h2.own.lt b hb).2 hk0.size)
      · have := hg4.size; have := h3.hi; simp [World.setCell] at *; omega
      · refine (TouchS.grown (w1 := w3.alloc (.cells #[.int .i64 d, .int .i64 kk, .slice A1 ls.length k1, .slice A2 da.length k2] 66)) ?_ hg4).set 0 _
        exact ((hbw.trans (hk3.mono hbw.size))).alloc (hbw.trans (hk3.mono hbw.size)).size _
end Go.Proofs.YtjljknocnebnaaaDoor
namespace Go.Proofs.YtjljknocnebnaaaDoor
open Go.RowKit Go.V Go.Shelf
set_option linter.unusedVariables false

theorem less_eq : ∀ a b : List UInt8, Op.bytesLess a b = decide (a < b)
  | a, [] => by cases a <;> simp [Op.bytesLess]
  | [], y :: b => by simp [Op.bytesLess]
  | x :: a, y :: b => by
    rw [Op.bytesLess, less_eq a b, Bool.eq_iff_iff]
    simp [List.cons_lt_cons_iff]
theorem nlt_tri (a b : List UInt8) : a < b ∨ a = b ∨ b < a := by
  by_cases h : a < b
  · exact .inl h
  · by_cases k : b < a
    · exact .inr (.inr k)
    · exact .inr (.inl (List.le_antisymm (List.not_lt.1 k) (List.not_lt.1 h)))
theorem leq_true {a b : List UInt8} (h : ¬ a < b) : (Op.bytesLess b a || b == a) = true := by
  rw [less_eq, Bool.or_eq_true, decide_eq_true_iff, beq_iff_eq]
  rcases nlt_tri a b with k | k | k
  · exact absurd k h
  · exact .inr k.symm
  · exact .inl k
theorem leq_false {a b : List UInt8} (h : a < b) : (Op.bytesLess b a || b == a) = false := by
  rw [less_eq, Bool.or_eq_false_iff, decide_eq_false_iff_not, beq_eq_false_iff_ne]
  exact ⟨fun k => List.lt_irrefl a (List.lt_trans h k), fun k => List.lt_irrefl a (by rw [k] at h; exact h)⟩
theorem below_drewN' {B : Nat} {a w : World} (h : Below B a w) (n : Nat) : Below B a (w.drewN n) := below_drewN h n
theorem slice_to25 (W : World) (A : Option Addr) (n k m : Nat) (h : m ≤ k) : (Instr.slice 25 (.slice A n k) none (some (.int .i64 (m : Int))) none).run Tryd.prog W = .ok (.slice A m k) W := by
  have hu := Tryd.underlying25
  have h1 : (m : Int) ≤ k := by omega
  by_cases hk : k = 0
  · subst hk
    obtain rfl : m = 0 := by omega
    simp [Instr.slice, Instr.sliceBounds, Instr.sliceBound, go_sem]
  · have h2 : ¬ k = 0 := hk
    rcases A with _ | ⟨b, off, _⟩ <;> simp [Instr.slice, Instr.sliceBounds, Instr.sliceBound, go_sem] <;> (intro hh; omega)
theorem VfV.take {w : World} {X : Nat → Prop} {A : Option Addr} {t : List Tr.F} (h : VfV w X A t) (i : Nat) : VfV w X A (t.take i) := by
  obtain ⟨vs, h1, h2⟩ := h
  exact ⟨vs.take (i * 2), h1.take _, (RowsR.take FlR.len h2 i).1⟩
/-- The box of the tree and the result. -/
structure TvSt (w wr : World) (A : Option Addr) (n k : Nat) : Prop where
  bx : Blk wr w.heap.size 27 #[.slice A n k]
  r : Blk wr (w.heap.size + 1) 30 #[.int .i64 0, .int .i64 0]
  bel : Below w.heap.size w wr
section
variable {w wr w' : World} {A : Option Addr} {n k : Nat}
theorem TvSt.below (h : TvSt w wr A n k) (hb : Below wr.heap.size wr w') : TvSt w w' A n k :=
  ⟨h.bx.below hb h.bx.lt, h.r.below hb h.r.lt, h.bel.trans (hb.mono h.bel.size)⟩
theorem TvSt.facts (h : TvSt w wr A n k) : wr.cell? ⟨w.heap.size, 0, none⟩ = some (.slice A n k) ∧ wr.cell? ⟨w.heap.size + 1, 0, none⟩ = some (.int .i64 0) ∧ wr.cell? ⟨w.heap.size + 1, 1, none⟩ = some (.int .i64 0) ∧
    wr.frozen? ⟨w.heap.size + 1, 0, none⟩ = false ∧ wr.frozen? ⟨w.heap.size + 1, 1, none⟩ = false ∧ w.heap.size < wr.heap.size ∧ w.heap.size + 1 < wr.heap.size :=
  ⟨(h.bx.cell 0).trans rfl, (h.r.cell 0).trans rfl, (h.r.cell 1).trans rfl, h.r.frozen 0, h.r.frozen 1, h.bx.lt, h.r.lt⟩
theorem TvSt.put (h : TvSt w wr A n k) (u v : Value) : Blk ((wr.setCell ⟨w.heap.size + 1, 0, none⟩ u).setCell ⟨w.heap.size + 1, 1, none⟩ v) (w.heap.size + 1) 30 #[u, v] ∧ Below w.heap.size w ((wr.setCell ⟨w.heap.size + 1, 0, none⟩ u).setCell ⟨w.heap.size + 1, 1, none⟩ v) :=
  ⟨blk_put2 h.r u v, (h.bel.setCell (p := ⟨w.heap.size + 1, 0, none⟩) (by simp only; omega) u).setCell (p := ⟨w.heap.size + 1, 1, none⟩) (by simp only; omega) v⟩
end
set_option maxRecDepth 100000 in
set_option maxHeartbeats 16000000 in
theorem tvalidate_any (w : World) (hm : Mx w) (A : Option Addr) (k : Nat) (t : List Tr.F) (hv : VfV w Free A t) (hl : t.length ≤ 9223372036854775807) (hk : t.length ≤ k) :
    Calls Tryd.prog 24 #[.agg #[.slice A t.length k]] w (FaultPost w (Tr.vlF t)) := by
  have HV := Lib.hid (fun (w' : World) (hb : Below w.heap.size w w') => hv.keep (free_below hb))
  have HM := Lib.hid hm.fun_
  have HLF := Lib.hid (Tr.vlF.eq_1 t)
  generalize hr : Tr.vlF t = r at *
  clear hr hv hm
  have st0 : TvSt w ((w.alloc (.cells #[.slice A t.length k] 27)).alloc (.cells #[.int .i64 0, .int .i64 0] 30)) A t.length k := ⟨(Blk.new _ _ _).alloc _, blk_new1 _ _ _ _, below_alloc2 _ _ _⟩
  by_cases h24 : 24 < t.length
  · have H := Lib.hid (HLF.out.trans (if_pos h24))
    have h24' : (24 : Int) < t.length := by omega
    clear HLF h24
    go_enter Tryd.func24, Tryd.ntmps24
    go_wp2_with fail
    refine bodyPost_ret (results_c rfl _ _ (w.heap.size + 1) (.int .i64 2) (.int .i64 (-1)) rfl (blk_new1 w (.cells #[.slice A t.length k] 27) 30 #[.int .i64 2, .int .i64 (-1)])) rfl (FaultPost.mk_ H.out (below_alloc2 _ _ _))
  · have H := Lib.hid (HLF.out.trans (if_neg h24))
    have h24' : ¬ (24 : Int) < t.length := by omega
    clear HLF
    go_enter Tryd.func24, Tryd.ntmps24
    go_wp2_with fail
    go_loopw [14] (fun iv wr => ∃ i : Nat, i ≤ t.length ∧ iv = .int .i64 i ∧ Hid (r = Tr.vlFrom t i) ∧ Hid (∀ j, j < i → Tr.pathOk (Tr.it t j).path = true) ∧ TvSt w wr A t.length k) (fun iv _ => t.length - (intOf iv).toNat)
    case atStart => exact ⟨0, Nat.zero_le _, rfl, H, Lib.hid (fun j hj => by omega), st0⟩
    case round =>
      obtain ⟨i, hi, rfl, HI, HJ, st⟩ := hrel
      obtain ⟨wo, rfl⟩ : ∃ wo : World, wo = wr := ⟨_, rfl⟩
      by_cases hlt2 : i < t.length
      · have hlt' : (i : Int) < t.length := by omega
        obtain ⟨b, off, A', k', e, hb, _, d0, d1, dl⟩ := (HV.out _ st.bel).row i hlt2
        subst e
        have HC := Lib.hid (Tr.flC.eq_1 t i)
        have HIB := Lib.hid (fun h => HI.out.trans (Tr.vlFrom_bad t i hlt2 h))
        have HIN := Lib.hid (fun h => HI.out.trans (Tr.vlFrom_next t i hlt2 h))
        have HPRE := Lib.hid (fun (h0 : 0 < i) (w1 : World) (hb1 : Below w.heap.size w w1) => by
          obtain ⟨b2, off2, A2, k2, e2, hb2, _, c0, _, _⟩ := (HV.out _ hb1).row (i - 1) (by omega)
          simp at e2; obtain ⟨rfl, rfl⟩ := e2
          exact (⟨hb2, c0⟩ : b < w1.heap.size ∧ w1.cell? ⟨b, off + (i - 1) * 2, none⟩ = some (strV (Tr.it t (i - 1)).path)))
        clear HI
        have hal := below_alloc1 wo (.cells #[strV (Tr.it t i).path, .slice A' (Tr.it t i).lines.length k'] 49)
        have st1 := st.below hal
        have bf := Blk.new wo 49 #[strV (Tr.it t i).path, .slice A' (Tr.it t i).lines.length k']
        have HVP := Lib.hid (validPath_any (wo.alloc (.cells #[strV (Tr.it t i).path, .slice A' (Tr.it t i).lines.length k'] 49)) (HM.out _ st1.bel) (Tr.it t i).path)
        have HCL := Lib.hid (fun (w1 : World) (hb1 : Below w.heap.size w w1) (hp : (Tr.it t i).path.length ≤ 60) => by
          have := clash_any w1 (some ⟨b, off, none⟩) k (t.take i) (Tr.it t i).path ((HV.out _ hb1).take i) (by simp; omega) (fun j hj => by
            have hj' : j < i := by simp at hj; omega
            rw [← Tr.it_eq (t.take i) j hj, List.getElem_take, Tr.it_eq t j (by omega)]
            have := Tr.pathOk_len (HJ.out j hj'); omega) (by omega)
          rwa [List.length_take, Nat.min_eq_left (by omega)] at this)
        have HSEC := Lib.hid (fun (w1 : World) (hb1 : Below wo.heap.size wo w1) => lnSecond_any w1 A' k' (Tr.it t i).lines (i : Int) (dl.ls.keep (free_below hb1)) (by have := dl.ll; omega))
        have hs1 : ∀ W, (Instr.slice 25 (.slice (some ⟨b, off, none⟩) t.length k) none (some (.int .i64 (i : Int))) none).run Tryd.prog W = .ok (.slice (some ⟨b, off, none⟩) i k) W := fun W => slice_to25 W _ _ _ i (by omega)
        have hlz : Hid ((Tr.lnF (Tr.it t i).lines).1 = 0 → Tr.lnF (Tr.it t i).lines = (0, 0)) := Lib.hid lnF_zero
        have HPL := Lib.hid (fun h => Tr.pathOk_len (l := (Tr.it t i).path) h)
        have HJN : Hid (Tr.pathOk (Tr.it t i).path = true → ∀ j, j < i + 1 → Tr.pathOk (Tr.it t j).path = true) := Lib.hid fun h j hj => by
          by_cases e : j = i
          · subst e; exact h
          · exact HJ.out j (by omega)
        clear HJ dl
        generalize hfc : Tr.flC t i = fc at *
        clear hfc
        generalize hpv : (Tr.it t (i - 1)).path = pv at *
        clear hpv
        generalize Tr.clash (t.take i) (Tr.it t i).path = cl at *
        generalize Tr.it t i = x at *
        obtain ⟨p0, p1, p2, p3, p4, l0, l1⟩ := st1.facts
        have b0 := (bf.cell 0).trans rfl
        have b1 := (bf.cell 1).trans rfl
        have bl := bf.lt
        go_wp2_with fail
        go_at_call 43
        with_reducible refine HVP.out.mono ?_
        rintro e w1 ⟨rfl, hb1⟩
        have st2 := st1.below hb1
        have bf2 := bf.below hb1 bf.lt
        have hbo := hal.trans (hb1.mono hal.size)
        clear st1 bf hb1 HVP p0 p1 p2 p3 p4 l0 l1 b0 b1 bl hal
        obtain ⟨p0, p1, p2, p3, p4, l0, l1⟩ := st2.facts
        have b0 := (bf2.cell 0).trans rfl
        have b1 := (bf2.cell 1).trans rfl
        have bl := bf2.lt
        cases hpo : Tr.pathOk x.path with
        | false =>
          have H2 : Hid (r = (12, (i : Int))) := Lib.hid (by
            have e := HC.out; rw [if_pos hpo] at e
            have := HIB.out (by rw [e]; decide)
            rw [e] at this; exact this)
          clear HC HIB HIN HCL HSEC hlz HPL HJN hpo
          go_wp2_with fail
          obtain ⟨k1, k2⟩ := st2.put (.int .i64 12) (.int .i64 i)
          exact bodyPost_ret (results_c rfl _ _ (w.heap.size + 1) (.int .i64 12) (.int .i64 i) rfl k1) rfl (FaultPost.mk_ H2.out k2)
        | true =>
          have HC2 := Lib.hid (HC.out.trans (if_neg (by rw [hpo]; decide)))
          have hpl := HPL.out hpo
          have HJN2 := Lib.hid (HJN.out hpo)
          clear HC HPL HJN hpo
          have HKB := Lib.hid (fun (w6 : World) (h6 : Below w1.heap.size w1 w6) => show w6.cell? ⟨w.heap.size, 0, none⟩ = some (.slice (some ⟨b, off, none⟩) t.length k) ∧ w6.cell? ⟨wo.heap.size, 0, none⟩ = some (strV x.path) ∧ w6.cell? ⟨wo.heap.size, 1, none⟩ = some (.slice A' x.lines.length k') from
            ⟨(h6.cell (p := ⟨_, _, none⟩) l0).trans p0, (h6.cell (p := ⟨_, _, none⟩) bl).trans b0, (h6.cell (p := ⟨_, _, none⟩) bl).trans b1⟩)
          by_cases hbad : 0 < i ∧ ¬ pv < x.path
          · obtain ⟨hi0, hnl⟩ := hbad
            have H2 : Hid (r = (5, (i : Int))) := Lib.hid (by
              have e := HC2.out; rw [if_pos ⟨hi0, hnl⟩] at e
              have := HIB.out (by rw [e]; decide)
              rw [e] at this; exact this)
            obtain ⟨c0, c1⟩ := HPRE.out hi0 _ st2.bel
            have hi0' : (0 : Int) < i := by omega
            have hg1 : decide ((0 : Int) < i) = true := by simp; omega
            have hg2 : decide (0 < i) = true := by simp; omega
            have hsub : IntKind.i64.wrap ((i : Int) - 1) = ((i - 1 : Nat) : Int) := by rw [IntWalk.i64_in _ (by omega)]; omega
            have hj : ((i - 1 : Nat) : Int) < t.length := by omega
            have hle := leq_true hnl
            clear HC2 HIB HIN HCL HSEC hlz HJN2 HPRE hnl hi0 HKB
            generalize i - 1 = j at *
            go_wp2_with fail
            go_quiet (fail)
            go_wp2_with fail
            obtain ⟨k1, k2⟩ := (st2.below (below_drewN' (Below.refl _ _) nq)).put (.int .i64 5) (.int .i64 i)
            exact bodyPost_ret (results_c rfl _ _ (w.heap.size + 1) (.int .i64 5) (.int .i64 i) rfl k1) rfl (FaultPost.mk_ H2.out k2)
          · have HC3 := Lib.hid (HC2.out.trans (if_neg hbad))
            clear HC2
            go_wp2_with fail
            go_cut [26] (fun v wx => v = .bool false ∧ ∃ n, wx = w1.drewN n)
            case first =>
              by_cases hi0 : 0 < i
              · obtain ⟨c0, c1⟩ := HPRE.out hi0 _ st2.bel
                have hlt9 : pv < x.path := Classical.byContradiction fun h => hbad ⟨hi0, h⟩
                have hi0' : (0 : Int) < i := by omega
                have hg1 : decide ((0 : Int) < i) = true := by simp; omega
                have hg2 : decide (0 < i) = true := by simp; omega
                have hsub : IntKind.i64.wrap ((i : Int) - 1) = ((i - 1 : Nat) : Int) := by rw [IntWalk.i64_in _ (by omega)]; omega
                have hj : ((i - 1 : Nat) : Int) < t.length := by omega
                have hle := leq_false hlt9
                clear HC3 HIB HIN HCL HSEC hlz HJN2 HPRE hlt9 hi0 HKB hbad
                generalize i - 1 = j at *
                go_quiet (fail)
                go_wp2_with fail
                go_meet
                exact ⟨rfl, _, rfl⟩
              · have hi0' : ¬ (0 : Int) < i := by omega
                have hg1 : decide ((0 : Int) < i) = false := by simp; omega
                have hg2 : decide (0 < i) = false := by simp; omega
                clear HC3 HIB HIN HCL HSEC hlz HJN2 HPRE hi0 HKB hbad
                go_quiet (fail)
                go_wp2_with fail
                go_meet
                exact ⟨rfl, _, rfl⟩
            case rest =>
              obtain ⟨rfl, n2, rfl⟩ := hcut
              have hbz := below_drewN' (Below.refl w1.heap.size w1) n2
              have HK := Lib.hid (fun (w6 : World) (h6 : Below (w1.drewN n2).heap.size (w1.drewN n2) w6) => HKB.out w6 (hbz.trans (h6.mono hbz.size)))
              have st3 := st2.below hbz
              have bf3 := bf2.below hbz bf2.lt
              have hbo3 := hbo.trans (hbz.mono hbo.size)
              clear st2 bf2 hbo hbz HKB HPRE hbad p0 p1 p2 p3 p4 l0 l1 b0 b1 bl
              generalize w1.drewN n2 = wq at *
              have hk0 : Below wq.heap.size wq wq.drew := below_drew' (Below.refl _ _)
              have bl := bf3.lt
              have l0 := st3.bx.lt
              go_wp2_with fail
              go_region_held3 (fun w6 => w6.cell? ⟨w.heap.size, 0, none⟩ = some (.slice (some ⟨b, off, none⟩) t.length k) ∧ w6.cell? ⟨wo.heap.size, 0, none⟩ = some (strV x.path) ∧ w6.cell? ⟨wo.heap.size, 1, none⟩ = some (.slice A' x.lines.length k'))
                (first | exact HK.out _ hk0 | exact HK.out _ hk1)
                (first | (go_at_call 44; (with_reducible refine (HCL.out _ (st3.bel.trans (hk0.mono st3.bel.size)) hpl).mono ?_); rintro e v1 ⟨rfl, hv1⟩; have hk1 : Below wq.heap.size wq v1 := hk0.trans (hv1.mono hk0.size)))
              have st4 := st3.below hk1
              have bf4 := bf3.below hk1 bf3.lt
              have hbo4 := hbo3.trans (hk1.mono hbo3.size)
              clear st3 bf3 hbo3 hk0 hk1 hv1 bl l0 HK HCL
              obtain ⟨p0, p1, p2, p3, p4, l0, l1⟩ := st4.facts
              have b0 := (bf4.cell 0).trans rfl
              have b1 := (bf4.cell 1).trans rfl
              have bl := bf4.lt
              cases cl with
              | true =>
                have H2 : Hid (r = (7, (i : Int))) := Lib.hid (by
                  have e := HC3.out; rw [if_pos rfl] at e
                  have := HIB.out (by rw [e]; decide)
                  rw [e] at this; exact this)
                clear HC3 HIB HIN HSEC hlz HJN2
                go_wp2_with fail
                obtain ⟨k1, k2⟩ := st4.put (.int .i64 7) (.int .i64 i)
                exact bodyPost_ret (results_c rfl _ _ (w.heap.size + 1) (.int .i64 7) (.int .i64 i) rfl k1) rfl (FaultPost.mk_ H2.out k2)
              | false =>
                have HC4 := Lib.hid (HC3.out.trans (if_neg (by decide)))
                clear HC3
                have HS2 := Lib.hid (HSEC.out _ hbo4)
                clear HSEC
                go_wp2_with fail
                go_at_call 45
                with_reducible refine HS2.out.mono ?_
                rintro e w5 ⟨rfl, hb5⟩
                have st5 := st4.below hb5
                clear st4 bf4 hbo4 p0 p1 p2 p3 p4 l0 l1 b0 b1 bl HS2
                obtain ⟨p0, p1, p2, p3, p4, l0, l1⟩ := st5.facts
                by_cases hln : (Tr.lnF x.lines).1 ≠ 0
                · have H2 : Hid (r = ((Tr.lnF x.lines).1, (i : Int))) := Lib.hid (by
                    have e := HC4.out
                    have := HIB.out (by rw [e]; exact hln)
                    rw [e] at this; exact this)
                  have hsf : secF (Tr.lnF x.lines) (i : Int) = ((Tr.lnF x.lines).1, (i : Int)) := if_pos hln
                  have hx1 : ((Tr.lnF x.lines).1 == 0) = false := by simpa using hln
                  have hx2 : ((Tr.lnF x.lines).1 != 0) = true := by simpa using hln
                  rw [hsf]
                  clear HC4 HIB HIN hlz HJN2 hsf hln
                  generalize (Tr.lnF x.lines).1 = cd at *
                  go_wp2_with fail
                  obtain ⟨k1, k2⟩ := st5.put (.int .i64 cd) (.int .i64 i)
                  exact bodyPost_ret (results_c rfl _ _ (w.heap.size + 1) (.int .i64 cd) (.int .i64 i) rfl (k1.alloc _)) rfl (FaultPost.mk_ H2.out (k2.alloc (by simp [World.setCell]; omega) _))
                · have hz := Classical.not_not.1 hln
                  have H2 := Lib.hid (HIN.out (by rw [HC4.out, hz]))
                  have hsf : secF (Tr.lnF x.lines) (i : Int) = (0, 0) := if_neg hln
                  rw [hsf]
                  have st6 := st5.below (below_alloc1 w5 (.cells #[.int .i64 0, .int .i64 0] 30))
                  clear HC4 HIB HIN hlz hsf hln hz
                  go_wp2_with fail
                  go_roundw
                  case rel => exact ⟨i + 1, by omega, by go_num, H2, HJN2, st6⟩
                  case measure => simp [intOf]; omega
      · obtain rfl : i = t.length := by omega
        have H2 : Hid (r = (0, 0)) := Lib.hid (by rw [HI.out, Tr.vlFrom_end t _ (Nat.le_refl _)])
        obtain ⟨p0, p1, p2, p3, p4, l0, l1⟩ := st.facts
        clear HI
        go_wp2_with fail
        obtain ⟨k1, k2⟩ := st.put (.int .i64 0) (.int .i64 0)
        exact bodyPost_ret (results_c rfl _ _ (w.heap.size + 1) (.int .i64 0) (.int .i64 0) rfl k1) rfl (FaultPost.mk_ H2.out k2)
end Go.Proofs.YtjljknocnebnaaaDoor
namespace Go.Proofs.YtjljknocnebnaaaDoor
open Go.RowKit Go.V
set_option linter.unusedVariables false

theorem results_44_28 {fn : Func} {a b : Tmp} (h : fn.results = #[.cell a 54, .cell b 30]) (tmps : Array Value) (w : World) (g g' : Nat) (x y z c i : Value) (ha : tmps.getD a undef = .pointer (some ⟨g, 0, none⟩)) (hb' : tmps.getD b undef = .pointer (some ⟨g', 0, none⟩))
    (hb : Blk w g 54 #[x, y, z]) (hc : Blk w g' 30 #[c, i]) : (results fn tmps).run Tryd.prog w = .ok (.tuple #[.agg #[x, y, z], .agg #[c, i]]) w := by
  have h0 := hb.cell 0
  have h1 := hb.cell 1
  have h2 := hb.cell 2
  have k0 := hc.cell 0
  have k1 := hc.cell 1
  simp only [List.getElem?_toArray, List.getElem?_cons_zero, List.getElem?_cons_succ] at h0 h1 h2 k0 k1
  have ha' : tmps[a]?.getD undef = .pointer (some ⟨g, 0, none⟩) := by simpa using ha
  have hb'' : tmps[b]?.getD undef = .pointer (some ⟨g', 0, none⟩) := by simpa using hb'
  simp [results, h, go_sem, ha', hb'', h0, h1, h2, k0, k1]
abbrev zObj : Value := .agg #[.int .i64 0, .slice none 0 0, .slice none 0 0]
/-- What 'Get' answers. -/
def GtPost (w : World) (s : List Ob.S) (d : Int) (e : Ending) (w' : World) : Prop := Below w.heap.size w w' ∧
  (((Ob.stF s).1 ≠ 0 ∧ e = .returned (.tuple #[zObj, .agg #[.int .i64 (Ob.stF s).1, .int .i64 (Ob.stF s).2]])) ∨ (Ob.StOk s ∧ Ob.fnd s d = false ∧ e = .returned (.tuple #[zObj, .agg #[.int .i64 6, .int .i64 (-1)]])) ∨
    (Ob.StOk s ∧ Ob.fnd s d = true ∧ ∃ A1 k1 A2 k2, e = .returned (.tuple #[obV (Ob.it s (Ob.lb s d)).ob A1 k1 A2 k2, .agg #[.int .i64 0, .int .i64 0]]) ∧ ObA w' (Under w.heap.size) (Ob.it s (Ob.lb s d)).ob A1 k1 A2 k2))
theorem put32 {w1 : World} {g1 g2 : Nat} {t1 t2 : TypeId} {a b c d e : Value} (h1 : Blk w1 g1 t1 #[a, b, c]) (h2 : Blk w1 g2 t2 #[d, e]) (hne : g1 ≠ g2) (x y z u v : Value) :
    Blk (((((w1.setCell ⟨g1, 0, none⟩ x).setCell ⟨g1, 1, none⟩ y).setCell ⟨g1, 2, none⟩ z).setCell ⟨g2, 0, none⟩ u).setCell ⟨g2, 1, none⟩ v) g1 t1 #[x, y, z] ∧
    Blk (((((w1.setCell ⟨g1, 0, none⟩ x).setCell ⟨g1, 1, none⟩ y).setCell ⟨g1, 2, none⟩ z).setCell ⟨g2, 0, none⟩ u).setCell ⟨g2, 1, none⟩ v) g2 t2 #[u, v] ∧
    ∀ (B : Nat) (w0 : World), B ≤ g1 → B ≤ g2 → Below B w0 w1 → Below B w0 (((((w1.setCell ⟨g1, 0, none⟩ x).setCell ⟨g1, 1, none⟩ y).setCell ⟨g1, 2, none⟩ z).setCell ⟨g2, 0, none⟩ u).setCell ⟨g2, 1, none⟩ v) :=
  ⟨((blk_put3 h1 x y z).far (p := ⟨g2, 0, none⟩) hne u).far (p := ⟨g2, 1, none⟩) hne v,
   blk_put2 (((h2.far (p := ⟨g1, 0, none⟩) (Ne.symm hne) x).far (p := ⟨g1, 1, none⟩) (Ne.symm hne) y).far (p := ⟨g1, 2, none⟩) (Ne.symm hne) z) u v,
   fun B w0 h3 h4 hb => ((((hb.setCell (p := ⟨g1, 0, none⟩) h3 _).setCell (p := ⟨g1, 1, none⟩) h3 _).setCell (p := ⟨g1, 2, none⟩) h3 _).setCell (p := ⟨g2, 0, none⟩) h4 _).setCell (p := ⟨g2, 1, none⟩) h4 _⟩
theorem blk_new2 (w : World) (o o' : Obj) (t : TypeId) (cs : Array Value) : Blk (((w.alloc o).alloc o').alloc (.cells cs t)) (w.heap.size + 2) t cs := by
  simpa using Blk.new ((w.alloc o).alloc o') t cs
set_option maxRecDepth 100000 in
set_option maxHeartbeats 8000000 in
theorem get_any (w : World) (A : Option Addr) (k : Nat) (s : List Ob.S) (d : Int) (hv : StV w Free A s) (hl64 : s.length ≤ 9223372036854775807) :
    Calls Tryd.prog 50 #[stV A s.length k, .int .i64 d] w (GtPost w s d) := by
  have HC := Lib.hid (fun (w1 : World) (hb : Below w.heap.size w w1) => validate_any w1 A k s (hv.keep (free_below hb)) hl64)
  have HFI := Lib.hid (fun (w1 : World) (hb : Below w.heap.size w w1) (h : Ob.StOk s) => find_any w1 A k s d (hv.keep (free_below hb)) (by have := h.len; omega) h.sorted)
  have HROW := Lib.hid (fun (w' : World) (hb : Below w.heap.size w w') i hi => (hv.keep (free_below hb)).row (w := w') i hi)
  clear hv
  go_enter Tryd.func50, Tryd.ntmps50
  go_wp2_with fail
  go_at_call 19
  refine (HC.out _ (below_alloc3 _ _ _ _)).mono ?_
  rintro e w1 ⟨rfl, hb1⟩
  have hobj := ((blk_new1 w (.cells #[.slice A s.length k] 24) 54 #[.int .i64 0, .slice none 0 0, .slice none 0 0]).alloc (.cells #[.int .i64 0, .int .i64 0] 30)).below hb1 (by simp)
  have hblk := (blk_new2 w (.cells #[.slice A s.length k] 24) (.cells #[.int .i64 0, .slice none 0 0, .slice none 0 0] 54) 30 #[.int .i64 0, .int .i64 0]).below hb1 (by simp)
  have hbox := (((Blk.new w 24 #[.slice A s.length k]).alloc (.cells #[.int .i64 0, .slice none 0 0, .slice none 0 0] 54)).alloc (.cells #[.int .i64 0, .int .i64 0] 30)).below hb1 (by simp; omega)
  have hbw := (below_alloc3 w (.cells #[.slice A s.length k] 24) (.cells #[.int .i64 0, .slice none 0 0, .slice none 0 0] 54) (.cells #[.int .i64 0, .int .i64 0] 30)).trans (hb1.mono (by simp; omega))
  have hsz := hbw.size
  have hlt := hblk.lt
  have hltb : w.heap.size < w1.heap.size := by omega
  have hlto : w.heap.size + 1 < w1.heap.size := by omega
  have hc0 := hblk.cell 0
  have hc1 := hblk.cell 1
  have hf0 := hblk.frozen 0
  have hf1 := hblk.frozen 1
  have o0 := hobj.cell 0
  have o1 := hobj.cell 1
  have o2 := hobj.cell 2
  have of0 := hobj.frozen 0
  have of1 := hobj.frozen 1
  have of2 := hobj.frozen 2
  have p0 := hbox.cell 0
  simp only [List.getElem?_toArray, List.getElem?_cons_zero, List.getElem?_cons_succ] at hc0 hc1 p0 o0 o1 o2
  clear hb1 HC
  by_cases hbad : (Ob.stF s).1 ≠ 0
  · have H : Hid (∀ w' : World, Below w.heap.size w w' → GtPost w s d (.returned (.tuple #[zObj, .agg #[.int .i64 (Ob.stF s).1, .int .i64 (Ob.stF s).2]])) w') := Lib.hid fun w' hb => ⟨hb, .inl ⟨hbad, rfl⟩⟩
    have hb1 : ((Ob.stF s).1 == 0) = false := by simpa using hbad
    have hb2 : ((Ob.stF s).1 != 0) = true := by simpa using hbad
    clear hbad HFI HROW
    generalize GtPost w s d = R at *
    generalize Ob.stF s = r at *
    obtain ⟨cd, ix⟩ := r
    simp only at hb1 hb2
    go_wp2_with fail
    go_region
    all_goals
      go_wp2_with fail
      obtain ⟨k1, k2, k3⟩ := put32 hobj hblk (by omega) (.int .i64 0) (.slice none 0 0) (.slice none 0 0) (.int .i64 cd) (.int .i64 ix)
      refine bodyPost_ret (results_44_28 rfl _ _ (w.heap.size + 1) (w.heap.size + 2) (.int .i64 0) (.slice none 0 0) (.slice none 0 0) (.int .i64 cd) (.int .i64 ix) rfl rfl ((k1.alloc _).drewN 1) ((k2.alloc _).drewN 1)) rfl ?_
      refine H.out _ ?_
      exact below_drewN ((k3 _ _ (by omega) (by omega) hbw).alloc (by simp [World.setCell]; omega) _) 1
  · obtain ⟨hz, hok⟩ := Ob.stF_ok (by simpa using hbad)
    rw [hz]
    have hbw2 := hbw.alloc hsz (.cells #[.int .i64 0, .int .i64 0] 30)
    have hblk2 := hblk.alloc (.cells #[.int .i64 0, .int .i64 0] 30)
    have hobj2 := hobj.alloc (.cells #[.int .i64 0, .int .i64 0] 30)
    have hbox2 := hbox.alloc (.cells #[.int .i64 0, .int .i64 0] 30)
    have HF2 := Lib.hid (HFI.out _ hbw2 hok)
    have HNO : Hid (∀ w' : World, Ob.fnd s d = false → Below w.heap.size w w' → GtPost w s d (.returned (.tuple #[zObj, .agg #[.int .i64 6, .int .i64 (-1)]])) w') := Lib.hid fun w' h hb => ⟨hb, .inr (.inl ⟨hok, h, rfl⟩)⟩
    have HYES : Hid (∀ (w' : World) A1 k1 A2 k2, Ob.fnd s d = true → Below w.heap.size w w' → ObA w' (Under w.heap.size) (Ob.it s (Ob.lb s d)).ob A1 k1 A2 k2 → GtPost w s d (.returned (.tuple #[obV (Ob.it s (Ob.lb s d)).ob A1 k1 A2 k2, .agg #[.int .i64 0, .int .i64 0]])) w') := Lib.hid fun w' A1 k1 A2 k2 h hb ho => ⟨hb, .inr (.inr ⟨hok, h, A1, k1, A2, k2, rfl, ho⟩)⟩
    have HLK := Lib.hid (fun i hi => (hok.ok i hi).ln)
    have HFD := Lib.hid (show Ob.fnd s d = (decide (Ob.lb s d < s.length) && decide ((Ob.it s (Ob.lb s d)).dig = d)) from rfl)
    clear HFI hz hbad hok
    generalize GtPost w s d = R at *
    have hlt2 := hobj2.lt
    go_wp2_with fail
    go_at_call 33
    refine HF2.out.mono ?_
    rintro e w2 ⟨rfl, hb2⟩
    have hbw3 := hbw2.trans (hb2.mono hbw2.size)
    have hblk3 := hblk2.below hb2 hblk2.lt
    have hobj3 := hobj2.below hb2 hobj2.lt
    have hbox3 := hbox2.below hb2 hbox2.lt
    have hlt3 := hblk3.lt
    have hlt4 := hobj3.lt
    have hlt5 := hbox3.lt
    have hf03 := hblk3.frozen 0
    have hf13 := hblk3.frozen 1
    have hc03 := hblk3.cell 0
    have hc13 := hblk3.cell 1
    have o03 := hobj3.cell 0
    have o13 := hobj3.cell 1
    have o23 := hobj3.cell 2
    have of03 := hobj3.frozen 0
    have of13 := hobj3.frozen 1
    have of23 := hobj3.frozen 2
    have p03 := hbox3.cell 0
    simp only [List.getElem?_toArray, List.getElem?_cons_zero, List.getElem?_cons_succ] at hc03 hc13 o03 o13 o23 p03
    clear HF2 hobj hobj2 hblk hblk2 hbox hbox2 o0 o1 o2 of0 of1 of2 p0 hc0 hc1 hf0 hf1
    by_cases hf : Ob.fnd s d = true
    · have hpl : Ob.lb s d < s.length := by
        have := HFD.out; rw [hf] at this; have h := this.symm; rw [Bool.and_eq_true] at h; simpa using h.1
      obtain ⟨b, off, Al, kl, Ad, kd, e, hb, _, d0, d1, d2, d3, hx, hob⟩ := HROW.out _ hbw3 _ hpl
      subst e
      have hlk := HLK.out _ hpl
      have HCO := Lib.hid (copyObject_any w2 _ Al kl Ad kd hob (by omega))
      have HY := Lib.hid (fun w' A1 k1 A2 k2 => HYES.out w' A1 k1 A2 k2 hf)
      rw [hf]
      clear hf hob hlk HYES HNO HFD HLK
      generalize hxx : Ob.it s (Ob.lb s d) = x at *
      clear hxx
      generalize Ob.lb s d = p at *
      obtain ⟨xd, kk, ls, da⟩ := x
      simp only at *
      have hpi : (p : Int) < s.length := by omega
      go_wp2_with fail
      go_at_call 60
      refine HCO.out.mono ?_
      rintro e w4 ⟨A1, k1, A2, k2, rfl, hob4, hb4⟩
      have hbw4 := hbw3.trans (hb4.mono hbw3.size)
      have hblk4 := hblk3.below hb4 hblk3.lt
      have hobj4 := hobj3.below hb4 hobj3.lt
      have m0 := hblk4.cell 0
      have m1 := hblk4.cell 1
      have m2 := hblk4.frozen 0
      have m3 := hblk4.frozen 1
      have n0 := hobj4.cell 0
      have n1 := hobj4.cell 1
      have n2 := hobj4.cell 2
      have n3 := hobj4.frozen 0
      have n4 := hobj4.frozen 1
      have n5 := hobj4.frozen 2
      simp only [List.getElem?_toArray, List.getElem?_cons_zero, List.getElem?_cons_succ] at m0 m1 n0 n1 n2
      clear HCO
      go_wp2_with fail
      obtain ⟨j1, j2, j3⟩ := put32 hobj4 hblk4 (by omega) (.int .i64 kk) (.slice A1 ls.length k1) (.slice A2 da.length k2) (.int .i64 0) (.int .i64 0)
      refine bodyPost_ret (results_44_28 rfl _ _ (w.heap.size + 1) (w.heap.size + 2) (.int .i64 kk) (.slice A1 ls.length k1) (.slice A2 da.length k2) (.int .i64 0) (.int .i64 0) rfl rfl j1 j2) rfl ?_
      have hu1 : Under w2.heap.size (w.heap.size + 1) := hlt4
      have hu2 : Under w2.heap.size (w.heap.size + 2) := hlt3
      have hkp := ((((Keeps.setCell w4 (Under w2.heap.size) ⟨w.heap.size + 1, 0, none⟩ (.int .i64 kk) hu1).trans (Keeps.setCell _ _ ⟨w.heap.size + 1, 1, none⟩ (.slice A1 ls.length k1) hu1)).trans (Keeps.setCell _ _ ⟨w.heap.size + 1, 2, none⟩ (.slice A2 da.length k2) hu1)).trans (Keeps.setCell _ _ ⟨w.heap.size + 2, 0, none⟩ (.int .i64 0) hu2)).trans (Keeps.setCell _ _ ⟨w.heap.size + 2, 1, none⟩ (.int .i64 0) hu2)
      exact HY.out _ _ _ _ _ (j3 _ _ (by omega) (by omega) hbw4) ((hob4.keep hkp).mono_ (fun b hb => Nat.lt_of_lt_of_le hb (by omega)))
    · have hff : Ob.fnd s d = false := by simpa using hf
      have HN := Lib.hid (fun w' => HNO.out w' hff)
      rw [hff]
      clear hf hff HYES HNO HFD HLK HROW
      generalize Ob.lb s d = p at *
      go_wp2_with fail
      obtain ⟨j1, j2, j3⟩ := put32 hobj3 hblk3 (by omega) (.int .i64 0) (.slice none 0 0) (.slice none 0 0) (.int .i64 6) (.int .i64 (-1))
      refine bodyPost_ret (results_44_28 rfl _ _ (w.heap.size + 1) (w.heap.size + 2) (.int .i64 0) (.slice none 0 0) (.slice none 0 0) (.int .i64 6) (.int .i64 (-1)) rfl rfl j1 j2) rfl ?_
      exact HN.out _ (j3 _ _ (by omega) (by omega) hbw3)
end Go.Proofs.YtjljknocnebnaaaDoor
namespace Ob
/-- What 'Put' answers. -/
def putF (s : List S) (o : O) : List S × Int × (Int × Int) :=
  if (stF s).1 ≠ 0 then ([], 0, stF s) else if (obF o).1 ≠ 0 then ([], 0, ((obF o).1, -1)) else if addOk s (dig o) o = false then ([], 0, (19, -1))
  else if 40 < (addS s (dig o) o).length then ([], 0, (14, -1)) else (addS s (dig o) o, dig o, (0, 0))
end Ob
namespace Go.Proofs.YtjljknocnebnaaaDoor
open Go.RowKit Go.V
set_option linter.unusedVariables false

theorem results_24_t_28 {fn : Func} {a b t : Tmp} (h : fn.results = #[.cell a 24, .tmp t, .cell b 30]) (tmps : Array Value) (w : World) (g g' : Nat) (x c i : Value) (ha : tmps.getD a undef = .pointer (some ⟨g, 0, none⟩)) (hb' : tmps.getD b undef = .pointer (some ⟨g', 0, none⟩))
    (hb : Blk w g 24 #[x]) (hc : Blk w g' 30 #[c, i]) : (results fn tmps).run Tryd.prog w = .ok (.tuple #[.agg #[x], tmps.getD t undef, .agg #[c, i]]) w := by
  have h0 := hb.cell 0
  have k0 := hc.cell 0
  have k1 := hc.cell 1
  simp only [List.getElem?_toArray, List.getElem?_cons_zero, List.getElem?_cons_succ] at h0 k0 k1
  have ha' : tmps[a]?.getD undef = .pointer (some ⟨g, 0, none⟩) := by simpa using ha
  have hb'' : tmps[b]?.getD undef = .pointer (some ⟨g', 0, none⟩) := by simpa using hb'
  simp [results, h, go_sem, ha', hb'', h0, k0, k1]
theorem put12 {w1 : World} {g1 g2 : Nat} {t1 t2 : TypeId} {a d e : Value} (h1 : Blk w1 g1 t1 #[a]) (h2 : Blk w1 g2 t2 #[d, e]) (hne : g1 ≠ g2) (x u v : Value) :
    Blk (((w1.setCell ⟨g1, 0, none⟩ x).setCell ⟨g2, 0, none⟩ u).setCell ⟨g2, 1, none⟩ v) g1 t1 #[x] ∧
    Blk (((w1.setCell ⟨g1, 0, none⟩ x).setCell ⟨g2, 0, none⟩ u).setCell ⟨g2, 1, none⟩ v) g2 t2 #[u, v] ∧
    ∀ (B : Nat) (w0 : World), B ≤ g1 → B ≤ g2 → Below B w0 w1 → Below B w0 (((w1.setCell ⟨g1, 0, none⟩ x).setCell ⟨g2, 0, none⟩ u).setCell ⟨g2, 1, none⟩ v) :=
  ⟨((by simpa using h1.set_ 0 x : Blk (w1.setCell ⟨g1, 0, none⟩ x) g1 t1 #[x]).far (p := ⟨g2, 0, none⟩) hne u).far (p := ⟨g2, 1, none⟩) hne v,
   blk_put2 (h2.far (p := ⟨g1, 0, none⟩) (Ne.symm hne) x) u v,
   fun B w0 h3 h4 hb => ((hb.setCell (p := ⟨g1, 0, none⟩) h3 _).setCell (p := ⟨g2, 0, none⟩) h4 _).setCell (p := ⟨g2, 1, none⟩) h4 _⟩
/-- The state of 'Put': its boxes and results. -/
structure PtSt (w wr : World) (A : Option Addr) (n k : Nat) (ov : Array Value) : Prop where
  bx : Blk wr w.heap.size 24 #[.slice A n k]
  bo : Blk wr (w.heap.size + 1) 54 ov
  r1 : Blk wr (w.heap.size + 2) 24 #[.slice none 0 0]
  r2 : Blk wr (w.heap.size + 3) 30 #[.int .i64 0, .int .i64 0]
  bel : Below w.heap.size w wr
section
variable {w wr w' : World} {A : Option Addr} {n k : Nat} {ov : Array Value}
theorem PtSt.below (h : PtSt w wr A n k ov) (hb : Below wr.heap.size wr w') : PtSt w w' A n k ov :=
  ⟨h.bx.below hb h.bx.lt, h.bo.below hb h.bo.lt, h.r1.below hb h.r1.lt, h.r2.below hb h.r2.lt, h.bel.trans (hb.mono h.bel.size)⟩
theorem PtSt.touch (h : PtSt w wr A n k ov) {g : Nat} {row : Option Nat} (ht : TouchS wr w' g row) (hg : w.heap.size + 4 ≤ g) (hr : ∀ b, row = some b → w.heap.size + 4 ≤ b) : PtSt w w' A n k ov := by
  have hl := h.r2.lt
  exact ⟨h.bx.touchS ht (by omega) (fun e => by have := hr _ e.symm; omega), h.bo.touchS ht (by omega) (fun e => by have := hr _ e.symm; omega), h.r1.touchS ht (by omega) (fun e => by have := hr _ e.symm; omega), h.r2.touchS ht (by omega) (fun e => by have := hr _ e.symm; omega),
    h.bel.trans (ht.below (by omega) (by omega) (fun k hk => by have := hr k hk; omega))⟩
theorem PtSt.facts (h : PtSt w wr A n k ov) : wr.cell? ⟨w.heap.size, 0, none⟩ = some (.slice A n k) ∧ wr.cell? ⟨w.heap.size + 2, 0, none⟩ = some (.slice none 0 0) ∧ wr.frozen? ⟨w.heap.size + 2, 0, none⟩ = false ∧
    wr.cell? ⟨w.heap.size + 3, 0, none⟩ = some (.int .i64 0) ∧ wr.cell? ⟨w.heap.size + 3, 1, none⟩ = some (.int .i64 0) ∧ wr.frozen? ⟨w.heap.size + 3, 0, none⟩ = false ∧ wr.frozen? ⟨w.heap.size + 3, 1, none⟩ = false ∧
    w.heap.size < wr.heap.size ∧ w.heap.size + 1 < wr.heap.size ∧ w.heap.size + 2 < wr.heap.size ∧ w.heap.size + 3 < wr.heap.size :=
  ⟨(h.bx.cell 0).trans rfl, (h.r1.cell 0).trans rfl, h.r1.frozen 0, (h.r2.cell 0).trans rfl, (h.r2.cell 1).trans rfl, h.r2.frozen 0, h.r2.frozen 1, h.bx.lt, h.bo.lt, h.r1.lt, h.r2.lt⟩
end
def PtPost (w : World) (r : List Ob.S × Int × (Int × Int)) (e : Ending) (w' : World) : Prop := ∃ A c, e = .returned (.tuple #[stV A r.1.length c, .int .i64 r.2.1, .agg #[.int .i64 r.2.2.1, .int .i64 r.2.2.2]]) ∧ r.1.length ≤ c ∧ StV w' (Under w.heap.size) A r.1 ∧ Below w.heap.size w w'
theorem PtPost.no {w w' : World} {r : List Ob.S × Int × (Int × Int)} {c i : Int} (h : r = ([], 0, (c, i))) (hb : Below w.heap.size w w') : PtPost w r (.returned (.tuple #[.agg #[.slice none 0 0], .int .i64 0, .agg #[.int .i64 c, .int .i64 i]])) w' := by
  subst h; exact ⟨none, 0, rfl, Nat.le_refl _, ⟨[], SA.nil, rfl⟩, hb⟩
set_option maxRecDepth 100000 in
set_option maxHeartbeats 16000000 in
theorem put_any (w : World) (A : Option Addr) (k : Nat) (s : List Ob.S) (o : Ob.O) (Al : Option Addr) (kl : Nat) (Ad : Option Addr) (kd : Nat) (hv : StV w Free A s) (hl64 : s.length ≤ 9223372036854775807) (ho : ObA w Free o Al kl Ad kd) :
    Calls Tryd.prog 21 #[stV A s.length k, obV o Al kl Ad kd] w (PtPost w (Ob.putF s o)) := by
  have HV := Lib.hid (fun (w1 : World) (hb : Below w.heap.size w w1) => hv.keep (free_below hb))
  have HO := Lib.hid (fun (w1 : World) (hb : Below w.heap.size w w1) => ho.keep (free_below hb))
  have HPF := Lib.hid (Ob.putF.eq_1 s o)
  have HC := Lib.hid (fun (w1 : World) (hb : Below w.heap.size w w1) => validate_any w1 A k s (HV.out _ hb) hl64)
  clear hv ho
  generalize hr : Ob.putF s o = r at *
  clear hr
  obtain ⟨kk, ls, da⟩ := o
  have st0 : PtSt w ((((w.alloc (.cells #[.slice A s.length k] 24)).alloc (.cells #[.int .i64 kk, .slice Al ls.length kl, .slice Ad da.length kd] 54)).alloc (.cells #[.slice none 0 0] 24)).alloc (.cells #[.int .i64 0, .int .i64 0] 30)) A s.length k #[.int .i64 kk, .slice Al ls.length kl, .slice Ad da.length kd] :=
    ⟨(((Blk.new _ _ _).alloc _).alloc _).alloc _, ((blk_new1 _ _ _ _).alloc _).alloc _, (blk_new2 _ _ _ _ _).alloc _, by simpa using Blk.new (((w.alloc (.cells #[.slice A s.length k] 24)).alloc (.cells #[.int .i64 kk, .slice Al ls.length kl, .slice Ad da.length kd] 54)).alloc (.cells #[.slice none 0 0] 24)) 30 #[.int .i64 0, .int .i64 0], (below_alloc3 _ _ _ _).alloc (by simp; omega) _⟩
  go_enter Tryd.func21, Tryd.ntmps21
  go_wp2_with fail
  go_at_call 19
  refine (HC.out _ st0.bel).mono ?_
  rintro e w1 ⟨rfl, hb1⟩
  have st1 := st0.below hb1
  obtain ⟨p0, p1, p2, p3, p4, p5, p6, l0, l1, l2, l3⟩ := st1.facts
  clear hb1 HC st0
  by_cases hbad : (Ob.stF s).1 ≠ 0
  · have H := Lib.hid (show r = ([], 0, Ob.stF s) from by rw [HPF.out, if_pos hbad])
    have hb1 : ((Ob.stF s).1 == 0) = false := by simpa using hbad
    have hb2 : ((Ob.stF s).1 != 0) = true := by simpa using hbad
    clear hbad HPF HV HO
    generalize Ob.stF s = q at *
    obtain ⟨cd, ix⟩ := q
    simp only at hb1 hb2
    have HR : Hid (∀ w', Below w.heap.size w w' → PtPost w r (.returned (.tuple #[.agg #[.slice none 0 0], .int .i64 0, .agg #[.int .i64 cd, .int .i64 ix]])) w') := Lib.hid fun w' hb => PtPost.no H.out hb
    clear H
    generalize PtPost w r = R at *
    go_wp2_with fail
    go_region
    all_goals
      go_wp2_with fail
      obtain ⟨k1, k2, k3⟩ := put12 st1.r1 st1.r2 (by omega) (.slice none 0 0) (.int .i64 cd) (.int .i64 ix)
      refine bodyPost_ret (results_24_t_28 rfl _ _ (w.heap.size + 2) (w.heap.size + 3) (.slice none 0 0) (.int .i64 cd) (.int .i64 ix) rfl rfl ((k1.alloc _).drewN 1) ((k2.alloc _).drewN 1)) rfl ?_
      refine HR.out _ ?_
      exact below_drewN ((k3 _ _ (by omega) (by omega) st1.bel).alloc (by simp [World.setCell]; omega) _) 1
  · obtain ⟨hz, hok⟩ := Ob.stF_ok (by simpa using hbad)
    have HP2 := Lib.hid (HPF.out.trans (if_neg hbad))
    rw [hz]
    have st2 := st1.below (below_alloc1 w1 (.cells #[.int .i64 0, .int .i64 0] 30))
    clear hz hbad p0 p1 p2 p3 p4 p5 p6 l0 l1 l2 l3 HPF
    obtain ⟨p0, p1, p2, p3, p4, p5, p6, l0, l1, l2, l3⟩ := st2.facts
    have po0 := st2.bo.cell 0
    have po1 := st2.bo.cell 1
    have po2 := st2.bo.cell 2
    simp only [List.getElem?_toArray, List.getElem?_cons_zero, List.getElem?_cons_succ] at po0 po1 po2
    have hol := st2.bo.lt
    by_cases hob : (Ob.obF ⟨kk, ls, da⟩).1 ≠ 0
    · have HD := Lib.hid (digest_bad _ ⟨kk, ls, da⟩ Al kl Ad kd (HO.out _ st2.bel) hob)
      have H := Lib.hid (HP2.out.trans (if_pos hob))
      have hb1 : ((Ob.obF ⟨kk, ls, da⟩).1 == 0) = false := by simpa using hob
      have hb2 : ((Ob.obF ⟨kk, ls, da⟩).1 != 0) = true := by simpa using hob
      clear hob HV HO hok HP2
      generalize Ob.obF ⟨kk, ls, da⟩ = q at *
      obtain ⟨cd, ix⟩ := q
      simp only at hb1 hb2 H
      have HR : Hid (∀ w', Below w.heap.size w w' → PtPost w r (.returned (.tuple #[.agg #[.slice none 0 0], .int .i64 0, .agg #[.int .i64 cd, .int .i64 (-1)]])) w') := Lib.hid fun w' hb => PtPost.no H.out hb
      clear H
      generalize PtPost w r = R at *
      go_wp2_with fail
      go_at_call 40
      refine HD.out.mono ?_
      rintro e w2 ⟨rfl, hb2'⟩
      have st3 := st2.below hb2'
      obtain ⟨p0, p1, p2, p3, p4, p5, p6, l0, l1, l2, l3⟩ := st3.facts
      clear hb2' HD st2 st1
      go_wp2_with fail
      go_region
      all_goals
        go_wp2_with fail
        obtain ⟨k1, k2, k3⟩ := put12 st3.r1 st3.r2 (by omega) (.slice none 0 0) (.int .i64 cd) (.int .i64 (-1))
        refine bodyPost_ret (results_24_t_28 rfl _ _ (w.heap.size + 2) (w.heap.size + 3) (.slice none 0 0) (.int .i64 cd) (.int .i64 (-1)) rfl rfl ((k1.alloc _).drewN 1) ((k2.alloc _).drewN 1)) rfl ?_
        refine HR.out _ ?_
        exact below_drewN ((k3 _ _ (by omega) (by omega) st3.bel).alloc (by simp [World.setCell]; omega) _) 1
    · have hobk := (Ob.obF_ok (by simpa using hob)).2
      have HD := Lib.hid (digest_ok _ ⟨kk, ls, da⟩ Al kl Ad kd (HO.out _ st2.bel) hobk)
      have HP3 := Lib.hid (HP2.out.trans (if_neg hob))
      have hdl := Ob.dig_lt ⟨kk, ls, da⟩
      have HCY := Lib.hid (fun (w' : World) (hb : Below w.heap.size w w') => copy_any w' A k s (HV.out _ hb) (by have := hok.len; omega) (fun i hi => by have := (hok.ok i hi).ln; omega))
      have HSO := Lib.hid hok.sorted
      have hsl := hok.len
      have hln := hobk.ln
      simp only at hln
      clear hob HP2 hobk hok HV st1
      generalize hdg : ((Ob.dig ⟨kk, ls, da⟩ : Nat) : Int) = dg at *
      have hd64 : I64 dg := by rw [← hdg]; unfold I64; omega
      clear hdl hdg
      go_wp2_with fail
      go_at_call 40
      refine HD.out.mono ?_
      rintro e w2 ⟨rfl, hb2'⟩
      have st3 := (st2.below hb2').below (below_alloc1 w2 (.cells #[.int .i64 0, .int .i64 0] 30))
      clear p0 p1 p2 p3 p4 p5 p6 l0 l1 l2 l3 po0 po1 po2 hol
      obtain ⟨p0, p1, p2, p3, p4, p5, p6, l0, l1, l2, l3⟩ := st3.facts
      have st3' := st2.below hb2'
      obtain ⟨q0, q1, q2, q3, q4, q5, q6, m0, m1, m2, m3⟩ := st3'.facts
      clear hb2' HD st2
      go_wp2_with fail
      go_at_call 41
      refine (HCY.out _ st3.bel).mono ?_
      rintro e w3 ⟨A3, c3, xs, rfl, hown3, hb3⟩
      have st4' := st3.below hb3
      have st4 := st4'.below (below_alloc1 w3 (.cells #[.slice A3 s.length c3] 24))
      have hz3 := hb3.size
      have out4 : OutSt (w3.alloc (.cells #[.slice A3 s.length c3] 24)) w3.heap.size (w2.alloc (.cells #[.int .i64 0, .int .i64 0] 30)).heap.size (fun b => Under (w2.alloc (.cells #[.int .i64 0, .int .i64 0] 30)).heap.size b ∨ b = w3.heap.size) A3 c3 s xs :=
        ⟨Blk.new _ _ _, hown3.own.alloc _, hown3.rows.mono (StR.keep (Keeps.below (below_alloc1 _ _) (fun b hb h => by
          rcases h with (h | h) | h
          · exact .inl h
          · omega
          · exact .inr h))), .inr rfl, Nat.le_trans hz3 (size_alloc_le _ _)⟩
      have hXs : ∀ b, (Under (w2.alloc (.cells #[.int .i64 0, .int .i64 0] 30)).heap.size b ∨ b = w3.heap.size) → b < (w3.alloc (.cells #[.slice A3 s.length c3] 24)).heap.size := fun b hb => by
        rcases hb with hb | hb
        · exact Nat.lt_of_lt_of_le hb (Nat.le_trans hz3 (size_alloc_le _ _))
        · simp; omega
      have HAD := Lib.hid (add_any _ _ _ _ _ _ _ _ dg ⟨kk, ls, da⟩ Al kl Ad kd out4 hXs HSO.out (by omega) hd64 (HO.out _ st4.bel) (by simp only; omega))
      have hrowlo : ∀ b, (Value.slice A3 s.length c3).ownBlock = some b → w.heap.size + 4 ≤ b := fun b hb => by
        have h1 := (hown3.own.lt b hb).1
        have h2 : w.heap.size + 3 < (w2.alloc (.cells #[.int .i64 0, .int .i64 0] 30)).heap.size := l3
        omega
      clear p0 p1 p2 p3 p4 p5 p6 l0 l1 l2 l3 q0 q1 q2 q3 q4 q5 q6 m0 m1 m2 m3
      obtain ⟨p0, p1, p2, p3, p4, p5, p6, l0, l1, l2, l3⟩ := st4.facts
      obtain ⟨q0, q1, q2, q3, q4, q5, q6, m0, m1, m2, m3⟩ := st4'.facts
      have po0 := st4'.bo.cell 0
      have po1 := st4'.bo.cell 1
      have po2 := st4'.bo.cell 2
      simp only [List.getElem?_toArray, List.getElem?_cons_zero, List.getElem?_cons_succ] at po0 po1 po2
      clear hb3 HCY hown3 out4 hXs HSO
      go_wp2_with fail
      go_at_call 42
      refine HAD.out.mono ?_
      rintro e w4 ⟨A4, c4, xs4, rfl, out4, ht4⟩
      have st5 := st4.touch ht4 (by omega) hrowlo
      have g0 := out4.blk.cell 0
      have gl := out4.blk.lt
      simp only [List.getElem?_toArray, List.getElem?_cons_zero] at g0
      clear ht4 HAD st4 st4' p0 p1 p2 p3 p4 p5 p6 l0 l1 l2 l3 q0 q1 q2 q3 q4 q5 q6 po0 po1 po2
      obtain ⟨p0, p1, p2, p3, p4, p5, p6, l0, l1, l2, l3⟩ := st5.facts
      by_cases hok : Ob.addOk s dg ⟨kk, ls, da⟩ = false
      · have HR : Hid (∀ w', Below w.heap.size w w' → PtPost w r (.returned (.tuple #[.agg #[.slice none 0 0], .int .i64 0, .agg #[.int .i64 19, .int .i64 (-1)]])) w') := Lib.hid fun w' hb => PtPost.no (HP3.out.trans (if_pos hok)) hb
        rw [hok]
        clear hok HP3
        generalize PtPost w r = R at *
        go_wp2_with fail
        obtain ⟨k1, k2, k3⟩ := put12 st5.r1 st5.r2 (by omega) (.slice none 0 0) (.int .i64 19) (.int .i64 (-1))
        refine bodyPost_ret (results_24_t_28 rfl _ _ (w.heap.size + 2) (w.heap.size + 3) (.slice none 0 0) (.int .i64 19) (.int .i64 (-1)) rfl rfl k1 k2) rfl ?_
        exact HR.out _ (k3 _ _ (by omega) (by omega) st5.bel)
      · have HP4 := Lib.hid (HP3.out.trans (if_neg hok))
        have hok2 : Ob.addOk s dg ⟨kk, ls, da⟩ = true := by simpa using hok
        rw [hok2]
        clear hok hok2 HP3
        have hcap : (Ob.addS s dg ⟨kk, ls, da⟩).length ≤ c4 := by
          obtain ⟨A', c', e1, hcc, _⟩ := own_form out4.own
          injection e1 with _ _ e3
          subst e3
          exact hcc
        generalize Ob.addS s dg ⟨kk, ls, da⟩ = s4 at *
        by_cases h40 : 40 < s4.length
        · have HR : Hid (∀ w', Below w.heap.size w w' → PtPost w r (.returned (.tuple #[.agg #[.slice none 0 0], .int .i64 0, .agg #[.int .i64 14, .int .i64 (-1)]])) w') := Lib.hid fun w' hb => PtPost.no (HP4.out.trans (if_pos h40)) hb
          have h40' : (40 : Int) < s4.length := by omega
          clear HP4
          generalize PtPost w r = R at *
          go_wp2_with fail
          obtain ⟨k1, k2, k3⟩ := put12 st5.r1 st5.r2 (by omega) (.slice none 0 0) (.int .i64 14) (.int .i64 (-1))
          refine bodyPost_ret (results_24_t_28 rfl _ _ (w.heap.size + 2) (w.heap.size + 3) (.slice none 0 0) (.int .i64 14) (.int .i64 (-1)) rfl rfl k1 k2) rfl ?_
          exact HR.out _ (k3 _ _ (by omega) (by omega) st5.bel)
        · have H := Lib.hid (HP4.out.trans (if_neg h40))
          have h40' : ¬ (40 : Int) < s4.length := by omega
          clear HP4 h40
          go_wp2_with fail
          obtain ⟨k1, k2, k3⟩ := put12 st5.r1 st5.r2 (by omega) (.slice A4 s4.length c4) (.int .i64 0) (.int .i64 0)
          refine bodyPost_ret (results_24_t_28 rfl _ _ (w.heap.size + 2) (w.heap.size + 3) (.slice A4 s4.length c4) (.int .i64 0) (.int .i64 0) rfl rfl k1 k2) rfl ?_
          rw [H.out]
          have hb2 : w.heap.size + 4 ≤ (w2.alloc (.cells #[.int .i64 0, .int .i64 0] 30)).heap.size := st3.r2.lt
          have hu1 : Under (w2.alloc (.cells #[.int .i64 0, .int .i64 0] 30)).heap.size (w.heap.size + 2) := by unfold Under; omega
          have hu2 : Under (w2.alloc (.cells #[.int .i64 0, .int .i64 0] 30)).heap.size (w.heap.size + 3) := by unfold Under; omega
          have hkp := (((Keeps.setCell w4 (Or1 (fun b => Under (w2.alloc (.cells #[.int .i64 0, .int .i64 0] 30)).heap.size b ∨ b = w3.heap.size) (.slice A4 s4.length c4)) ⟨w.heap.size + 2, 0, none⟩ (.slice A4 s4.length c4) (.inl (.inl hu1))).trans (Keeps.setCell _ _ ⟨w.heap.size + 3, 0, none⟩ (.int .i64 0) (.inl (.inl hu2)))).trans (Keeps.setCell _ _ ⟨w.heap.size + 3, 1, none⟩ (.int .i64 0) (.inl (.inl hu2)))).into (X'' := Under w.heap.size) (fun b hb => .inl (.inl (by unfold Under at *; omega)))
          have hne1 : some (w.heap.size + 2) ≠ (Value.slice A4 s4.length c4).ownBlock := fun e => by have := (out4.own.lt _ e.symm).1; omega
          have hne2 : some (w.heap.size + 3) ≠ (Value.slice A4 s4.length c4).ownBlock := fun e => by have := (out4.own.lt _ e.symm).1; omega
          refine ⟨A4, c4, rfl, hcap, ⟨xs4, ?_, out4.rows.mono (StR.keep hkp)⟩, k3 _ _ (by omega) (by omega) st5.bel⟩
          exact SA.of_own' (own_setCell (own_setCell (own_setCell out4.own hne1 _) hne2 _) hne2 _) (fun b hb hU => by have := (out4.own.lt b hb).1; unfold Under at hU; omega)
end Go.Proofs.YtjljknocnebnaaaDoor
