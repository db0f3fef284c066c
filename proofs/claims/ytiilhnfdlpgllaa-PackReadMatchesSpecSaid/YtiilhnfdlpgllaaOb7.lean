/-
  Objects: walk of 'add'.
-/
import Derived.Test.YtiilhnfdlpgllaaOb6
import Derived.Test.YtiilhnfdlpgllaaOb2
namespace Ob
/-- What 'add' answers, and the store behind it. -/
def addOk (s : List S) (d : Int) (o : O) : Bool := if fnd s d then Go.Proofs.Ytiilhnfdlpgllaa.eqO (it s (lb s d)).ob o else true
def addS (s : List S) (d : Int) (o : O) : List S := if fnd s d then s else s.take (lb s d) ++ [⟨d, o⟩] ++ s.drop (lb s d)
end Ob
namespace Go.V
open Go.RowKit
theorem RowsR.take {α : Type} {R : α → List Value → Prop} {k : Nat} (hk : ∀ a cs, R a cs → cs.length = k) : ∀ {l : List α} {vs : List Value}, RowsR R l vs → ∀ i, RowsR R (l.take i) (vs.take (i * k)) ∧ RowsR R (l.drop i) (vs.drop (i * k))
  | l, vs, h, 0 => by simp [RowsR]; exact h
  | [], vs, h, i + 1 => by simp only [RowsR] at h; subst h; simp [RowsR]
  | a :: l, vs, h, i + 1 => by
    obtain ⟨cs, rest, rfl, hc, hr⟩ := h
    have hl := hk a cs hc
    obtain ⟨h1, h2⟩ := RowsR.take hk hr i
    have e : (i + 1) * k = cs.length + i * k := by rw [Nat.add_mul, hl]; omega
    rw [e, List.take_length_add_append, List.drop_length_add_append]
    exact ⟨⟨cs, _, rfl, hc, h1⟩, h2⟩
/-- All but one block and one row are as they were. -/
structure TouchS (w w' : World) (g : Nat) (row : Option Nat) : Prop where
  os : w'.os = w.os
  tape : w'.tape = w.tape
  output : w'.output = w.output
  size : w.heap.size ≤ w'.heap.size
  block : ∀ b, b < w.heap.size → b ≠ g → some b ≠ row → w'.heap[b]? = w.heap[b]?
theorem TouchS.of_below {w w' : World} (h : Below w.heap.size w w') (g : Nat) (row : Option Nat) : TouchS w w' g row := ⟨h.os, h.tape, h.output, h.size, fun b hb _ _ => h.block b hb⟩
theorem TouchS.below {w w' : World} {g B : Nat} {row : Option Nat} (h : TouchS w w' g row) (hB : B ≤ w.heap.size) (hg : B ≤ g) (hr : ∀ k, row = some k → B ≤ k) : Below B w w' :=
  ⟨h.os, h.tape, h.output, h.size, fun b hb => h.block b (by omega) (by omega) (fun e => by have := hr b e.symm; omega)⟩
theorem TouchS.grown {w w1 w' : World} {g : Nat} {row : Option Nat} (h : Below w.heap.size w w1) (hg : w1.grownBy w' row) : TouchS w w' g row :=
  ⟨hg.os.trans h.os, hg.tape.trans h.tape, hg.output.trans h.output, Nat.le_trans h.size hg.size, fun b hb _ hr => (hg.block b (Nat.lt_of_lt_of_le hb h.size) hr).trans (h.block b hb)⟩
theorem TouchS.set {w w' : World} {g : Nat} {row : Option Nat} (h : TouchS w w' g row) (i : Nat) (v : Value) : TouchS w (w'.setCell ⟨g, i, none⟩ v) g row :=
  ⟨h.os, h.tape, h.output, by simpa [World.setCell] using h.size, fun b hb hne hr => (Below.heap_setCell w' ⟨g, i, none⟩ v b hne).trans (h.block b hb hne hr)⟩
theorem Blk.touchS {w w' : World} {g b : Nat} {row : Option Nat} {t : TypeId} {cs : Array Value} (hb : Blk w b t cs) (h : TouchS w w' g row) (hne : b ≠ g) (hr : some b ≠ row) : Blk w' b t cs := (h.block b hb.lt hne hr).trans hb
end Go.V
namespace Go.Proofs.Ytiilhnfdlpgllaa
open Go.RowKit Go.V
set_option linter.unusedVariables false

theorem rows_one {w : World} {X : Nat → Prop} : ∀ {s : List Ob.S} {xs : List Value}, RowsR (StR w X) s xs → ∀ u ∈ xs, u.oneCell' = true
  | [], xs, h, u, hu => by simp only [RowsR] at h; subst h; cases hu
  | a :: l, xs, h, u, hu => by
    obtain ⟨cs, rest, rfl, ⟨Al, kl, Ad, kd, rfl, _⟩, hr⟩ := h
    rcases List.mem_append.1 hu with hu | hu
    · exact st_one _ _ _ _ _ _ _ _ u hu
    · exact rows_one hr u hu
theorem insert_any (w : World) (base : Nat) (A : Option Addr) (n c i : Nat) (xs : List Value) (nv : Array Value) (vb : Nat) (hown : w.ownsRow base 46 4 (.slice A n c) n xs) (hi : i ≤ n) (hl : n ≤ 1000000) (hbase : base ≤ w.heap.size)
    (hvb : Blk w vb 46 nv) (hnl : nv.size = 4) (hne : some vb ≠ (Value.slice A n c).ownBlock) (h1 : ∀ u ∈ nv.toList, u.oneCell' = true) (hx1 : ∀ u ∈ xs, u.oneCell' = true) :
    Calls Try.prog 60 #[.slice A n c, .int .i64 i, .slice (some ⟨vb, 0, none⟩) 1 1] w (InPost w base A n c xs nv.toList i) := by
  by_cases hin : i = n
  · subst hin
    exact insert_end w base A i c xs nv.toList vb hown hl hbase (by simpa using hnl) (fun j u hu => by rw [hvb.cell, ← Array.getElem?_toList]; exact hu) h1
  · obtain ⟨g, cur, rfl, _, hg, hb, hc, hm, hcs, hx⟩ := own_blk hown (by omega)
    have hne' : vb ≠ g := fun e => hne (by rw [e]; rfl)
    by_cases hr : n + 1 ≤ c
    · exact insert_room w base g n c i xs nv.toList vb nv cur hb hg hr hm hcs hx (by omega) hl hvb rfl hne' (by simpa using hnl) h1 hx1
    · obtain rfl : c = n := by omega
      exact insert_grow w base g c i xs nv.toList vb nv cur hb hbase hcs hx (by omega) hl hvb rfl (by simpa using hnl) h1 hx1
theorem own_new_ne {w : World} {base : Nat} {e : TypeId} {size n : Nat} {v : Value} {xs : List Value} (h : w.ownsRow base e size v n xs) : some w.heap.size ≠ v.ownBlock := fun e => by have := (h.lt _ e.symm).2; omega
theorem hne46 : (46 : TypeId) ≠ 24 := by decide
/-- A store in a variable of the call's own. -/
structure OutSt (w : World) (g base : Nat) (X : Nat → Prop) (A : Option Addr) (c : Nat) (s : List Ob.S) (xs : List Value) : Prop where
  blk : Blk w g 24 #[.slice A s.length c]
  own : w.ownsRow base 46 4 (.slice A s.length c) s.length xs
  rows : RowsR (StR w (Or1 X (.slice A s.length c))) s xs
  hX : X g
  hi : base ≤ w.heap.size
section
variable {w w' : World} {g base : Nat} {X : Nat → Prop} {A : Option Addr} {c : Nat} {s : List Ob.S} {xs : List Value}
theorem OutSt.below (h : OutSt w g base X A c s xs) (hb : Below w.heap.size w w') : OutSt w' g base X A c s xs :=
  ⟨h.blk.below hb h.blk.lt, h.own.kept (only_of_below hb none) (by cases hv : (Value.slice A s.length c).ownBlock <;> simp), h.rows.mono (StR.keep (Keeps.below hb (fun _ _ h => h))), h.hX, Nat.le_trans h.hi hb.size⟩
theorem OutSt.view (h : OutSt w g base X A c s xs) : StV w Free A s :=
  ⟨xs, SA.of_own' h.own (fun _ _ h => h), h.rows.mono (StR.keep ((Keeps.refl w _).into fun _ h => h.elim))⟩
end
def AdPost (w : World) (g base : Nat) (X : Nat → Prop) (A : Option Addr) (c : Nat) (s : List Ob.S) (d : Int) (o : Ob.O) (e : Ending) (w' : World) : Prop :=
  ∃ A' c' xs', e = .returned (.bool (Ob.addOk s d o)) ∧ OutSt w' g base X A' c' (Ob.addS s d o) xs' ∧ TouchS w w' g (Value.slice A s.length c).ownBlock
set_option maxRecDepth 100000 in
set_option maxHeartbeats 16000000 in
theorem add_any (w : World) (g base : Nat) (X : Nat → Prop) (A : Option Addr) (c : Nat) (s : List Ob.S) (xs : List Value) (d : Int) (o : Ob.O) (Al : Option Addr) (kl : Nat) (Ad : Option Addr) (kd : Nat)
    (h : OutSt w g base X A c s xs) (hXs : ∀ b, X b → b < w.heap.size) (hs : Ob.Sorted s) (hl : s.length ≤ 100000) (hd : I64 d) (ho : ObA w Free o Al kl Ad kd) (hlk : o.links.length * 8 ≤ 140737488351232) :
    Calls Try.prog 49 #[.pointer (some ⟨g, 0, none⟩), .int .i64 d, obV o Al kl Ad kd] w (AdPost w g base X A c s d o) := by
  have hOL := Ob.lb_le s d
  have hb1 := below_alloc1 w (.cells #[.int .i64 o.kind, .slice Al o.links.length kl, .slice Ad o.data.length kd] 44)
  have h1 := h.below hb1
  have HFI := Lib.hid (find_any _ A c s d h1.view (by omega) hs)
  have HOV := Lib.hid (fun (w' : World) (hb : Below w.heap.size w w') => ho.keep (free_below hb))
  have HST := Lib.hid (fun (w' : World) (hb : Below w.heap.size w w') => h.below hb)
  have q0 := h1.blk.cell 0
  simp only [List.getElem?_toArray, List.getElem?_cons_zero] at q0
  have HSR := Lib.hid hs
  have hgl := h1.blk.lt
  clear h1 hs
  by_cases hf : Ob.fnd s d = true
  · have hpl : Ob.lb s d < s.length := by
      unfold Ob.fnd at hf; rw [Bool.and_eq_true] at hf; simpa using hf.1
    have HOK : Hid (Ob.addOk s d o = eqO (Ob.it s (Ob.lb s d)).ob o) := Lib.hid (by unfold Ob.addOk; rw [hf]; rfl)
    have HAS : Hid (Ob.addS s d o = s) := Lib.hid (by unfold Ob.addS; rw [hf]; rfl)
    rw [hf] at HFI
    clear hf
    have HROW := Lib.hid (fun (w' : World) (hb : Below w.heap.size w w') => ((h.view).keep (free_below hb)).row (w := w') _ hpl)
    have HSM := Lib.hid (fun (w' : World) (hb : Below w.heap.size w w') Al' kl' Ad' kd' (h' : ObA w' Free (Ob.it s (Ob.lb s d)).ob Al' kl' Ad' kd') => same_any w' (Ob.it s (Ob.lb s d)).ob o Al' kl' Ad' kd' Al kl Ad kd h' (HOV.out w' hb))
    generalize hx : Ob.it s (Ob.lb s d) = x at *
    clear hx
    generalize eqO x.ob o = q at *
    obtain ⟨xd, kk', ls', da'⟩ := x
    obtain ⟨kk, ls, da⟩ := o
    simp only at *
    generalize Ob.lb s d = p at *
    have hpi : (p : Int) < s.length := by omega
    go_enter Try.func49, Try.ntmps49
    go_wp2_with fail
    go_at_call 43
    refine HFI.out.mono ?_
    rintro e w2 ⟨rfl, hb2⟩
    have hbw := hb1.trans (hb2.mono hb1.size)
    have h2 := HST.out _ hbw
    have r0 := h2.blk.cell 0
    simp only [List.getElem?_toArray, List.getElem?_cons_zero] at r0
    have blx := (Blk.new w 44 #[.int .i64 kk, .slice Al ls.length kl, .slice Ad da.length kd]).below hb2 (by simp)
    have x0 := blx.cell 0
    have x1 := blx.cell 1
    have x2 := blx.cell 2
    simp only [List.getElem?_toArray, List.getElem?_cons_zero, List.getElem?_cons_succ] at x0 x1 x2
    have hk0 : Below w2.heap.size w2 w2.drew := below_drew' (Below.refl _ _)
    obtain ⟨b, off, Al', kl', Ad', kd', eA, hb, _, d0, d1, d2, d3, _, hob⟩ := HROW.out _ hbw
    subst eA
    have hobd := hob.keep (free_below hk0)
    have HK : Hid (∀ w6 : World, Below w2.heap.size w2 w6 → w6.cell? ⟨g, 0, none⟩ = some (.slice (some ⟨b, off, none⟩) s.length c) ∧ w6.cell? ⟨w.heap.size, 0, none⟩ = some (.int .i64 kk) ∧ w6.cell? ⟨w.heap.size, 1, none⟩ = some (.slice Al ls.length kl) ∧ w6.cell? ⟨w.heap.size, 2, none⟩ = some (.slice Ad da.length kd) ∧
        w6.cell? ⟨b, off + p * 4 + 1, none⟩ = some (.int .i64 kk') ∧ w6.cell? ⟨b, off + p * 4 + 1 + 1, none⟩ = some (.slice Al' ls'.length kl') ∧ w6.cell? ⟨b, off + p * 4 + 1 + 2, none⟩ = some (.slice Ad' da'.length kd')) := Lib.hid fun w6 h6 =>
      ⟨(h6.cell (p := ⟨_, _, none⟩) h2.blk.lt).trans r0, (h6.cell (p := ⟨_, _, none⟩) blx.lt).trans x0, (h6.cell (p := ⟨_, _, none⟩) blx.lt).trans x1, (h6.cell (p := ⟨_, _, none⟩) blx.lt).trans x2, (h6.cell (p := ⟨_, _, none⟩) hb).trans d1, (h6.cell (p := ⟨_, _, none⟩) hb).trans d2, (h6.cell (p := ⟨_, _, none⟩) hb).trans d3⟩
    have hp0 : (0 : Int) ≤ p := by omega
    clear hb2 HFI d0 d1 d2 d3 hob
    go_wp2_with fail
    go_region_held3 (fun w6 => w6.cell? ⟨g, 0, none⟩ = some (.slice (some ⟨b, off, none⟩) s.length c) ∧ w6.cell? ⟨w.heap.size, 0, none⟩ = some (.int .i64 kk) ∧ w6.cell? ⟨w.heap.size, 1, none⟩ = some (.slice Al ls.length kl) ∧ w6.cell? ⟨w.heap.size, 2, none⟩ = some (.slice Ad da.length kd) ∧
        w6.cell? ⟨b, off + p * 4 + 1, none⟩ = some (.int .i64 kk') ∧ w6.cell? ⟨b, off + p * 4 + 1 + 1, none⟩ = some (.slice Al' ls'.length kl') ∧ w6.cell? ⟨b, off + p * 4 + 1 + 2, none⟩ = some (.slice Ad' da'.length kd'))
      (first | exact HK.out _ hk0 | exact HK.out _ hk3)
      (first | (go_at_call 59; (with_reducible refine (HSM.out _ (hbw.trans (hk0.mono hbw.size)) _ _ _ _ hobd).mono ?_); rintro e w3 ⟨rfl, hb3⟩; have hk3 : Below w2.heap.size w2 w3 := hk0.trans (hb3.mono hk0.size)))
    go_wp2_with fail
    go_ret
    refine ⟨_, c, xs, by rw [HOK.out]; rfl, by rw [HAS.out]; exact h2.below hk3, .of_below (hbw.trans (hk3.mono hbw.size)) _ _⟩
  · have hff : Ob.fnd s d = false := by simpa using hf
    clear hf
    have HOK : Hid (Ob.addOk s d o = true) := Lib.hid (by unfold Ob.addOk; rw [hff]; rfl)
    have HAS : Hid (Ob.addS s d o = s.take (Ob.lb s d) ++ [⟨d, o⟩] ++ s.drop (Ob.lb s d)) := Lib.hid (by unfold Ob.addS; rw [hff]; rfl)
    rw [hff] at HFI
    clear hff
    have HCO := Lib.hid (fun (w' : World) (hb : Below w.heap.size w w') => copyObject_any w' o Al kl Ad kd (HOV.out w' hb) hlk)
    obtain ⟨kk, ls, da⟩ := o
    simp only at *
    generalize Ob.lb s d = p at *
    go_enter Try.func49, Try.ntmps49
    go_wp2_with fail
    go_at_call 43
    refine HFI.out.mono ?_
    rintro e w2 ⟨rfl, hb2⟩
    have hbw := hb1.trans (hb2.mono hb1.size)
    have h2 := HST.out _ hbw
    have r0 := h2.blk.cell 0
    simp only [List.getElem?_toArray, List.getElem?_cons_zero] at r0
    have blx := (Blk.new w 44 #[.int .i64 kk, .slice Al ls.length kl, .slice Ad da.length kd]).below hb2 (by simp)
    have x0 := blx.cell 0
    have x1 := blx.cell 1
    have x2 := blx.cell 2
    simp only [List.getElem?_toArray, List.getElem?_cons_zero, List.getElem?_cons_succ] at x0 x1 x2
    clear hb2 HFI
    go_wp2_with fail
    have hk0 : Below w2.heap.size w2 w2.drew := below_drew' (Below.refl _ _)
    have hplen : p ≤ s.length := hOL
    have hl6 : s.length ≤ 1000000 := by omega
    go_region_law
      (first
        | (go_simp; go_at_call 50; (with_reducible refine (HCO.out _ (hbw.trans (hk0.mono hbw.size))).mono ?_); rintro e w3 ⟨A1, k1, A2, k2, rfl, hob3, hb3⟩; have hk3 : Below w2.heap.size w2 w3 := hk0.trans (hb3.mono hk0.size); have h3 := h2.below hk3; have p0 := (h3.blk.cell 0).trans (rfl : _ = some (Value.slice A s.length c)); have z3 := h3.blk.lt; go_wp2_with fail)
        | (go_simp; go_at_call 60; (with_reducible refine (insert_any _ base A s.length c p xs #[.int .i64 d, .int .i64 kk, .slice A1 ls.length k1, .slice A2 da.length k2] w3.heap.size (h3.own.alloc _) hplen hl6 (Nat.le_trans h3.hi (size_alloc_le _ _)) (Blk.new w3 46 #[.int .i64 d, .int .i64 kk, .slice A1 ls.length k1, .slice A2 da.length k2]) rfl (own_new_ne h3.own) (st_one _ _ _ _ _ _ _ _) (rows_one h3.rows)).mono ?_); rintro e w4 ⟨gd, c4, rfl, hown4, hg4, hob4⟩; have own3 := h3.own.alloc (.cells #[.int .i64 d, .int .i64 kk, .slice A1 ls.length k1, .slice A2 da.length k2] 46); have blk3 := h3.blk.alloc (.cells #[.int .i64 d, .int .i64 kk, .slice A1 ls.length k1, .slice A2 da.length k2] 46); have blk4 := blk3.grown hg4 (own_blk_ne own3 blk3 hne46); have r5 := (blk4.cell 0).trans (rfl : _ = some (Value.slice A s.length c)); have r6 := blk4.frozen 0; go_wp2_with fail))
    all_goals
      go_wp2_with fail
      go_ret
      have hkp := ((Keeps.alloc w3 (Or1 X (.slice A s.length c)) (.cells #[.int .i64 d, .int .i64 kk, .slice A1 ls.length k1, .slice A2 da.length k2] 46)).trans (Keeps.or1 hg4 rfl hob4)).trans (Keeps.setCell w4 _ ⟨g, 0, none⟩ (.slice (some ⟨gd, 0, none⟩) (s.length + 1) c4) (.inl h.hX))
      have hrows := RowsR.take StR.len (h3.rows.mono (StR.keep hkp)) p
      have hlen : (Ob.addS s d ⟨kk, ls, da⟩).length = s.length + 1 := by rw [HAS.out]; simp; omega
      refine ⟨some ⟨gd, 0, none⟩, c4, xs.take (p * 4) ++ (#[.int .i64 d, .int .i64 kk, .slice A1 ls.length k1, .slice A2 da.length k2] : Array Value).toList ++ xs.drop (p * 4), by rw [HOK.out]; rfl, ⟨?_, ?_, ?_, h.hX, ?_⟩, ?_⟩
      · rw [hlen]; simpa using blk4.set_ 0 (.slice (some ⟨gd, 0, none⟩) (s.length + 1) c4)
      · rw [hlen]; exact own_setCell hown4 (own_blk_ne hown4 blk4 hne46) _
      · rw [hlen, HAS.out]
        refine (hrows.1.append (RowsR.one ⟨A1, k1, A2, k2, rfl, hd, ObA.keep ?_ hkp⟩)).append hrows.2
        exact hob3.mono_ (fun b hb => by
          rcases hb with hb | hb
          · exact Nat.lt_of_lt_of_le (hXs b hb) (hbw.trans (hk0.mono hbw.size)).size
          · exact Nat.lt_of_lt_of_le (h2.own.lt b hb).2 hk0.size)
      · have := hg4.size; have := h3.hi; simp [World.setCell] at *; omega
      · refine (TouchS.grown (w1 := w3.alloc (.cells #[.int .i64 d, .int .i64 kk, .slice A1 ls.length k1, .slice A2 da.length k2] 46)) ?_ hg4).set 0 _
        exact ((hbw.trans (hk3.mono hbw.size))).alloc (hbw.trans (hk3.mono hbw.size)).size _
end Go.Proofs.Ytiilhnfdlpgllaa
