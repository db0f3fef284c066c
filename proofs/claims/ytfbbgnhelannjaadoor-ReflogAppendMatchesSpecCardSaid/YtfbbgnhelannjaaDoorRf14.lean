/-
  References: walks of 'Clone', 'Copy'; a set in a variable of the call's own.
-/
import Derived.Test.YtfbbgnhelannjaaDoorRf13
namespace Go.V
open Go.RowKit
/-- All but one block and one row are as they were. -/
structure TouchS (w w' : World) (g : Nat) (row : Option Nat) : Prop where
  os : w'.os = w.os
  tape : w'.tape = w.tape
  output : w'.output = w.output
  size : w.heap.size ≤ w'.heap.size
  block : ∀ b, b < w.heap.size → b ≠ g → some b ≠ row → w'.heap[b]? = w.heap[b]?
theorem TouchS.of_below {w w' : World} (h : Below w.heap.size w w') (g : Nat) (row : Option Nat) : TouchS w w' g row := ⟨h.os, h.tape, h.output, h.size, fun b hb _ _ => h.block b hb⟩
theorem TouchS.below {w w' : World} {g B : Nat} {row : Option Nat} (h : TouchS w w' g row) (hB : B ≤ w.heap.size) (hg : B ≤ g) (hr : ∀ k, row = some k → B ≤ k) : Below B w w' :=
  ⟨h.os, h.tape, h.output, h.size, fun b hb => h.block b (by omega) (by omega) (fun e => by have := hr b e.symm; omega)⟩
theorem TouchS.grown {w w1 w' : World} {g : Nat} {row : Option Nat} (h : Below w.heap.size w w1) (hg : w1.grownBy w' row) : TouchS w w' g row :=
  ⟨hg.os.trans h.os, hg.tape.trans h.tape, hg.output.trans h.output, Nat.le_trans h.size hg.size, fun b hb _ hr => (hg.block b (Nat.lt_of_lt_of_le hb h.size) hr).trans (h.block b hb)⟩
theorem TouchS.set {w w' : World} {g : Nat} {row : Option Nat} (h : TouchS w w' g row) (i : Nat) (v : Value) : TouchS w (w'.setCell ⟨g, i, none⟩ v) g row :=
  ⟨h.os, h.tape, h.output, by simpa [World.setCell] using h.size, fun b hb hne hr => (Below.heap_setCell w' ⟨g, i, none⟩ v b hne).trans (h.block b hb hne hr)⟩
theorem Blk.touchS {w w' : World} {g b : Nat} {row : Option Nat} {t : TypeId} {cs : Array Value} (hb : Blk w b t cs) (h : TouchS w w' g row) (hne : b ≠ g) (hr : some b ≠ row) : Blk w' b t cs := (h.block b hb.lt hne hr).trans hb
theorem own_more {w : World} {base base' : Nat} {e : TypeId} {size n : Nat} {v : Value} {xs : List Value} (h : w.ownsRow base e size v n xs) (hb : base' ≤ base) : w.ownsRow base' e size v n xs := by
  obtain ⟨h1, h2⟩ := h
  rcases h2 with h2 | ⟨g, cap, cur, e, hlo, rest⟩
  · exact ⟨h1, .inl h2⟩
  · exact ⟨h1, .inr ⟨g, cap, cur, e, Nat.le_trans hb hlo, rest⟩⟩
theorem own_new_ne {w : World} {base : Nat} {e : TypeId} {size n : Nat} {v : Value} {xs : List Value} (h : w.ownsRow base e size v n xs) : some w.heap.size ≠ v.ownBlock := fun e => by have := (h.lt _ e.symm).2; omega
theorem own_below {w w' : World} {base : Nat} {e : TypeId} {size n : Nat} {v : Value} {xs : List Value} (h : w.ownsRow base e size v n xs) (hb : Below w.heap.size w w') : w'.ownsRow base e size v n xs :=
  h.kept (only_of_below hb none) (by cases hv : v.ownBlock <;> simp)
/-- One cell of an owned row is written. -/
theorem own_set {w : World} {base : Nat} {e : TypeId} {size n c g : Nat} {xs : List Value} (h : w.ownsRow base e size (.slice (some ⟨g, 0, none⟩) n c) n xs) (h0 : 0 < n) (i : Nat) (v : Value) :
    (w.setCell ⟨g, i, none⟩ v).ownsRow base e size (.slice (some ⟨g, 0, none⟩) n c) n (xs.set i v) := by
  obtain ⟨g', cur, e1, _, hg, hb, hn, hm, hs, hx⟩ := own_blk h h0
  injection e1 with e1
  injection e1 with e1
  subst e1
  refine own_of_blk (hb.set_ i v) hg hn hm (by simpa using hs) ?_
  rw [← hx, Array.toList_setIfInBounds, List.take_set]
end Go.V
namespace Go.Proofs.YtfbbgnhelannjaaDoor
open Go.RowKit Go.V Go.Shelf Go.Lib
set_option linter.unusedVariables false

theorem rsV_set : ∀ (s : List Rf.R) (p : Nat) (_ : p < s.length) (t : Int), (rsV s).set (p * 2 + 1) (.int .i64 t) = rsV (s.take p ++ [⟨(Rf.it s p).name, t⟩] ++ s.drop (p + 1))
  | x :: s, 0, _, t => by simp [rsV, rC, Rf.it]
  | x :: s, p + 1, h, t => by
    have ih := rsV_set s p (by simpa using h) t
    have e : (p + 1) * 2 + 1 = (p * 2 + 1) + 1 + 1 := by omega
    have e2 : Rf.it (x :: s) (p + 1) = Rf.it s p := by simp [Rf.it]
    rw [e, e2]
    simp only [rsV, List.flatMap_cons, rC, List.cons_append, List.nil_append, List.set_cons_succ, List.take_succ_cons, List.drop_succ_cons] at ih ⊢
    rw [ih]
theorem rsV_ins (s : List Rf.R) (p : Nat) (r : Rf.R) : (rsV s).take (p * 2) ++ rC r ++ (rsV s).drop (p * 2) = rsV (s.take p ++ [r] ++ s.drop p) := by
  simp only [rsV, List.flatMap_append, Fl.take rC_len, Fl.drop rC_len]; simp
theorem rsV_del (s : List Rf.R) (p : Nat) : (rsV s).take (p * 2) ++ (rsV s).drop ((p + 1) * 2) = rsV (s.take p ++ s.drop (p + 1)) := by
  simp only [rsV, List.flatMap_append, Fl.take rC_len, Fl.drop rC_len]
theorem insert_any (w : World) (base : Nat) (A : Option Addr) (n c i : Nat) (xs : List Value) (nv : Array Value) (vb : Nat) (hown : w.ownsRow base 51 2 (.slice A n c) n xs) (hi : i ≤ n) (hl : n ≤ 1000000) (hbase : base ≤ w.heap.size)
    (hvb : Blk w vb 51 nv) (hnl : nv.size = 2) (hne : some vb ≠ (Value.slice A n c).ownBlock) (h1 : ∀ u ∈ nv.toList, u.oneCell' = true) (hx1 : ∀ u ∈ xs, u.oneCell' = true) :
    Calls Tryd.prog 64 #[.slice A n c, .int .i64 i, .slice (some ⟨vb, 0, none⟩) 1 1] w (InPost w base A n c xs nv.toList i) := by
  by_cases hin : i = n
  · subst hin
    exact insert_end w base A i c xs nv.toList vb hown hl hbase (by simpa using hnl) (fun j u hu => by rw [hvb.cell, ← Array.getElem?_toList]; exact hu) h1
  · obtain ⟨g, cur, rfl, _, hg, hb, hc, hm, hcs, hx⟩ := own_blk hown (by omega)
    have hne' : vb ≠ g := fun e => hne (by rw [e]; rfl)
    by_cases hr : n + 1 ≤ c
    · exact insert_room w base g n c i xs nv.toList vb nv cur hb hg hr hm hcs hx (by omega) hl hvb rfl hne' (by simpa using hnl) h1 hx1
    · obtain rfl : c = n := by omega
      exact insert_grow w base g c i xs nv.toList vb nv cur hb hbase hcs hx (by omega) hl hvb rfl (by simpa using hnl) h1 hx1
theorem deleteOwn_any (w : World) (base : Nat) (A : Option Addr) (m c i : Nat) (xs : List Value) (hown : w.ownsRow base 51 2 (.slice A (m + 1) c) (m + 1) xs) (hi : i ≤ m) (hl : m ≤ 1000000) (hx1 : ∀ u ∈ xs, u.oneCell' = true) :
    Calls Tryd.prog 65 #[.slice A (m + 1) c, .int .i64 i, .int .i64 ((i : Int) + 1)] w fun e w' => ∃ g, A = some ⟨g, 0, none⟩ ∧ DePost w base g m c xs i e w' := by
  obtain ⟨g, cur, rfl, _, hg, hb, hc, hm, hcs, hx⟩ := own_blk hown (by omega)
  exact (delete_any w base g m c i xs cur hb hg hc hm hcs hx hi hl hx1).mono fun e w' h => ⟨g, rfl, h⟩
/-- Rows of the call's own: a copy. -/
def ClPost (w : World) (e0 size : Nat) (xs : List Value) (n : Nat) (e : Ending) (w' : World) : Prop := ∃ A' c', e = .returned (.slice A' n c') ∧ w'.ownsRow w.heap.size e0 size (.slice A' n c') n xs ∧ Below w.heap.size w w'
set_option maxRecDepth 100000 in
set_option maxHeartbeats 4000000 in
theorem clone63_any (w : World) (A : Option Addr) (c : Nat) (s : List Rf.R) (h : SA w Free A (rsV s)) (hl : s.length * 24 ≤ 140737488351232) :
    Calls Tryd.prog 63 #[.slice A s.length c] w (ClPost w 51 2 (rsV s) s.length) := by
  obtain ⟨i0, hi0, hz0, hz1, hz2⟩ := info_parts info51
  have heq : ∀ (W : World) a n c, (binOp .eql 24 (.slice a n c) (.slice none 0 0)).run Tryd.prog W = .ok (.bool a.isNone) W := fun W a n c => Lib.run_eql_slice_nil W 24 51 a n c 0 0 Tryd.underlying24
  rcases A with _ | ad
  · have hl0 : s = [] := by
      rcases h with h | ⟨b, off, h, _⟩
      · have := congrArg List.length h
        rw [Fl.len rC_len] at this
        exact List.eq_nil_of_length_eq_zero (by simp at this; omega)
      · cases h
    subst hl0
    go_enter Tryd.func63, Tryd.ntmps63
    go_wp2_with fail
    go_ret
    exact ⟨none, 0, rfl, World.ownsRow_nil _ _ _ _, Below.refl _ _⟩
  · have hsv := SV.alloc h.sv (Nat.le_refl _) (.cells #[] 51)
    have hlen : (rsV s).length = s.length * 2 := Fl.len rC_len s
    clear h
    generalize hxs : rsV s = xs at *
    have h1 : ∀ u ∈ xs, u.oneCell' = true := by rw [← hxs]; exact rsV_one s
    clear hxs
    have HF : Hid (∀ A' c' w', w'.ownsRow w.heap.size 51 2 (.slice A' s.length c') s.length xs → Below w.heap.size w w' → ClPost w 51 2 xs s.length (.returned (.slice A' s.length c')) w') := Lib.hid fun A' c' w' a b => ⟨A', c', rfl, a, b⟩
    generalize ClPost w 51 2 xs s.length = R at *
    go_enter Tryd.func63, Tryd.ntmps63
    go_wp2_with (first | (at_builtin; refine wpList_appN _ rfl (.tmp 5) (.tmp 6) 24 rfl w.heap.size 51 i0 _ 2 24 Tryd.underlying24 hi0 hz0 hz1 hz2 rfl (by decide) (some ⟨w.heap.size, 0, none⟩) 0 0 [] rfl (World.ownsRow_lit w #[] 0 (Nat.le_refl _) (by simp [maxLen]) rfl) _ (some ad) s.length c xs rfl ?ha hsv h1 ?hb ?hc ?hd ?_))
    case ha => exact hlen
    case hb => simp [maxLen]; omega
    case hc => omega
    case hd => simp
    intro A' c' w' hown hg hc'
    have hb := (below_alloc1 w (.cells #[] 51)).grown hg (by simp) (fun k hk => by simp [Value.ownBlock] at hk; omega)
    try simp only [Nat.zero_add, List.nil_append] at *
    have HR := Lib.hid (HF.out _ _ _ hown hb)
    clear hown hb hg
    go_wp2_with fail
    exact HR.out
theorem results_c26 {fn : Func} {a : Tmp} (h : fn.results = #[.cell a 26]) (tmps : Array Value) (w : World) (g : Nat) (x : Value) (ha : tmps.getD a undef = .pointer (some ⟨g, 0, none⟩)) (hb : w.cell? ⟨g, 0, none⟩ = some x) :
    (results fn tmps).run Tryd.prog w = .ok (.agg #[x]) w := by
  have ha' : tmps[a]?.getD undef = .pointer (some ⟨g, 0, none⟩) := by simpa using ha
  simp [results, h, go_sem, ha', hb]
def CyPost (w : World) (s : List Rf.R) (e : Ending) (w' : World) : Prop := ∃ A' c', e = .returned (.agg #[.slice A' s.length c']) ∧ w'.ownsRow w.heap.size 51 2 (.slice A' s.length c') s.length (rsV s) ∧ Below w.heap.size w w'
set_option maxRecDepth 100000 in
set_option maxHeartbeats 4000000 in
theorem copy_any (w : World) (A : Option Addr) (k : Nat) (s : List Rf.R) (hv : SA w Free A (rsV s)) (hl : s.length * 24 ≤ 140737488351232) :
    Calls Tryd.prog 44 #[.agg #[.slice A s.length k]] w (CyPost w s) := by
  have st0 : Blk ((w.alloc (.cells #[.slice A s.length k] 26)).alloc (.cells #[.slice none 0 0] 26)) (w.heap.size + 1) 26 #[.slice none 0 0] := by simpa using Blk.new (w.alloc (.cells #[.slice A s.length k] 26)) 26 #[.slice none 0 0]
  have HC := Lib.hid (clone63_any ((w.alloc (.cells #[.slice A s.length k] 26)).alloc (.cells #[.slice none 0 0] 26)) A k s (hv.keep ((Keeps.alloc _ _ _).trans (Keeps.alloc _ _ _))) hl)
  have hb0 := below_alloc2 w (.cells #[.slice A s.length k] 26) (.cells #[.slice none 0 0] 26)
  clear hv
  have HF : Hid (∀ A' c' w', w'.ownsRow w.heap.size 51 2 (.slice A' s.length c') s.length (rsV s) → Below w.heap.size w w' → CyPost w s (.returned (.agg #[.slice A' s.length c'])) w') := Lib.hid fun A' c' w' a b => ⟨A', c', rfl, a, b⟩
  generalize CyPost w s = R at *
  generalize rsV s = xs at *
  go_enter Tryd.func44, Tryd.ntmps44
  go_wp2_with fail
  go_at_call 63
  refine HC.out.mono ?_
  rintro e w1 ⟨A', c', rfl, hown, hb1⟩
  have st1 := st0.below hb1 st0.lt
  have c0 : w1.cell? ⟨w.heap.size + 1, 0, none⟩ = some (.slice none 0 0) := (st1.cell 0).trans rfl
  have f0 := st1.frozen 0
  have l0 := st1.lt
  have hne : some (w.heap.size + 1) ≠ (Value.slice A' s.length c').ownBlock := fun e => by have := (hown.lt _ e.symm).1; simp at this; omega
  go_wp2_with fail
  refine bodyPost_ret (results_c26 rfl _ _ (w.heap.size + 1) (.slice A' s.length c') rfl (((st1.set_ 0 (.slice A' s.length c')).cell 0).trans rfl)) rfl ?_
  exact HF.out _ _ _ (own_more (own_setCell hown hne _) (by simp; omega)) ((hb0.trans (hb1.mono hb0.size)).setCell (by simp) _)
end Go.Proofs.YtfbbgnhelannjaaDoor
