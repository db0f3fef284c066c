/-
  File trees: walks of 'paths' and 'Paths'.
  File trees in stores: reading, step by step. No program in sight.
  File trees: the paths in which two of them differ, as they are collected and sorted. No program in sight.
  File trees: walk of 'Paths'.
  File trees: the state of 'Write'.
  File trees: a variable that holds a row of its own, to which elements are appended.
  Objects: walk of the reference's 'StoreFault'.
-/
import Derived.Test.YtjljknocnebnaaaGreatDoorG08
import Derived.Test.YtjljknocnebnaaaGreatDoorG04
import Derived.Test.YtjljknocnebnaaaGreatDoorG05
import Derived.Lib.SlicesS
import Derived.Test.YtjljknocnebnaaaGreatDoorG06
import Derived.Test.YtjljknocnebnaaaGreatDoorG03
namespace Ob
theorem stFrom_ix (s : List S) : ∀ n i, s.length - i ≤ n → 0 ≤ (stFrom s i).2
  | n, i, hn => by
    by_cases hi : i < s.length
    · by_cases hc : code s i = 0
      · obtain _ | n := n
        · omega
        · rw [stFrom_next s i hi hc]; exact stFrom_ix s n (i + 1) (by omega)
      · rw [stFrom_bad s i hi hc]; exact Int.natCast_nonneg i
    · rw [stFrom_end s i (by omega)]; exact Int.le_refl 0
theorem stF_ix (s : List S) : 0 ≤ (stF s).2 := by
  unfold stF
  split
  · exact Int.le_refl 0
  · exact stFrom_ix s _ 0 (Nat.le_refl _)
end Ob
namespace Tr
open Ob (O S StOk stF)
theorem prF_links {o : O} (h : (prF o).2 = 0) : (prF o).1.2 = o.links := by
  unfold prF at h ⊢
  split at h
  · cases h
  · rename_i h1
    rw [if_neg h1]
    split at h
    · cases h
    · rename_i h2
      rw [if_neg h2]
theorem prF_none {o : O} (h : (prF o).2 ≠ 0) : (prF o).1 = ([], []) := by
  unfold prF at h ⊢
  split
  · rfl
  · split
    · rfl
    · rename_i h1 h2
      rw [if_neg h1, if_neg h2] at h
      exact absurd rfl h
theorem ptF_st {s : List S} (d ix : Int) (h : (stF s).1 ≠ 0) : ptF s d ix = (([], []), stF s) := by unfold ptF; rw [if_pos h]
theorem ptF_none {s : List S} {d : Int} (ix : Int) (h : StOk s) (h2 : gtO s d = none) : ptF s d ix = (([], []), (6, ix)) := by unfold ptF; rw [h.f, if_neg (by decide), h2]
theorem ptF_bad {s : List S} {d : Int} {o : O} (ix : Int) (h : StOk s) (h2 : gtO s d = some o) (h3 : (prF o).2 ≠ 0) : ptF s d ix = (([], []), ((prF o).2, ix)) := by
  unfold ptF; rw [h.f, if_neg (by decide), h2]; simp only; rw [if_pos h3]
theorem ptF_ok {s : List S} {d : Int} {o : O} (ix : Int) (h : StOk s) (h2 : gtO s d = some o) (h3 : (prF o).2 = 0) : ptF s d ix = ((prF o).1, (0, 0)) := by
  unfold ptF; rw [h.f, if_neg (by decide), h2]; simp only; rw [if_neg (fun h4 => h4 h3)]
end Tr
namespace Go.Proofs.YtjljknocnebnaaaGreatDoor
open Go.RowKit Go.V Go.Shelf
set_option linter.unusedVariables false

theorem results_tt30 {fn : Func} {a b c : Tmp} (h : fn.results = #[.tmp a, .tmp b, .cell c 28]) (tmps : Array Value) (w : World) (g : Nat) (x y : Value) (hc : tmps.getD c undef = .pointer (some ⟨g, 0, none⟩))
    (hb : Blk w g 28 #[x, y]) : (results fn tmps).run Tryz.prog w = .ok (.tuple #[tmps.getD a undef, tmps.getD b undef, .agg #[x, y]]) w := by
  have k0 := hb.cell 0
  have k1 := hb.cell 1
  simp only [List.getElem?_toArray, List.getElem?_cons_zero, List.getElem?_cons_succ] at k0 k1
  have hc' : tmps[c]?.getD undef = .pointer (some ⟨g, 0, none⟩) := by simpa using hc
  simp [results, h, go_sem, hc', k0, k1]
theorem results_t30 {fn : Func} {a c : Tmp} (h : fn.results = #[.tmp a, .cell c 28]) (tmps : Array Value) (w : World) (g : Nat) (x y : Value) (hc : tmps.getD c undef = .pointer (some ⟨g, 0, none⟩))
    (hb : Blk w g 28 #[x, y]) : (results fn tmps).run Tryz.prog w = .ok (.tuple #[tmps.getD a undef, .agg #[x, y]]) w := by
  have k0 := hb.cell 0
  have k1 := hb.cell 1
  simp only [List.getElem?_toArray, List.getElem?_cons_zero, List.getElem?_cons_succ] at k0 k1
  have hc' : tmps[c]?.getD undef = .pointer (some ⟨g, 0, none⟩) := by simpa using hc
  simp [results, h, go_sem, hc', k0, k1]
theorem sa_put2 {w : World} {X : Nat → Prop} {A : Option Addr} {vs : List Value} (h : SA w X A vs) {g : Nat} (hg : X g) (x y : Value) : SA ((w.setCell ⟨g, 0, none⟩ x).setCell ⟨g, 1, none⟩ y) X A vs :=
  h.keep ((Keeps.setCell w X ⟨g, 0, none⟩ x hg).trans (Keeps.setCell _ X ⟨g, 1, none⟩ y hg))
/-- What 'paths' tells. -/
def PaPost (w : World) (q : (List (List UInt8) × List Int) × (Int × Int)) (e : Ending) (w' : World) : Prop :=
  ∃ A c B m, e = .returned (.tuple #[.slice A q.1.1.length c, .slice B q.1.2.length m, .agg #[.int .i64 q.2.1, .int .i64 q.2.2]]) ∧ LnA w' (Under w.heap.size) q.1.1 A c ∧ SA w' (Under w.heap.size) B (intsV q.1.2) ∧ q.1.2.length ≤ m ∧ Below w.heap.size w w'
theorem PaPost.no {w w' : World} {q : (List (List UInt8) × List Int) × (Int × Int)} {c i : Int} (h : q = (([], []), (c, i))) (hb : Below w.heap.size w w') : PaPost w q (.returned (.tuple #[.slice none 0 0, .slice none 0 0, .agg #[.int .i64 c, .int .i64 i]])) w' := by
  subst h; exact ⟨none, 0, none, 0, rfl, ⟨Nat.le_refl _, Nat.zero_le _, SA.nil⟩, SA.nil, Nat.le_refl _, hb⟩
set_option maxRecDepth 100000 in
set_option maxHeartbeats 4000000 in
theorem paths_any (w : World) (hm : Mx w) (hm2 : M2 w) (A : Option Addr) (k : Nat) (s : List Ob.S) (d ix : Int) (hv : StV w Free A s) (hl64 : s.length ≤ 9223372036854775807) :
    Calls Tryz.prog 12 #[stV A s.length k, .int .i64 d, .int .i64 ix] w (PaPost w (Tr.ptF s d ix)) := by
  have HG := Lib.hid (fun (w1 : World) (hb : Below w.heap.size w w1) => get_any w1 A k s d (hv.keep (free_below hb)) hl64)
  have HX := Lib.hid (Ob.stF_ix s)
  have HM := Lib.hid (fun (w1 : World) (hb : Below w.heap.size w w1) => And.intro (hm.below hb) (hm2.below hb))
  have hb0 := below_alloc2 w (.cells #[.slice A s.length k] 24) (.cells #[.int .i64 0, .int .i64 0] 28)
  have rb0 := blk_new1 w (.cells #[.slice A s.length k] 24) 28 #[.int .i64 0, .int .i64 0]
  have HQa := Lib.hid (Tr.ptF_st (s := s) d ix)
  have HQb := Lib.hid (fun (h : Ob.StOk s) (h2 : Ob.fnd s d = false) => Tr.ptF_none (s := s) (d := d) ix h (by unfold Tr.gtO; rw [if_neg (by rw [h2]; decide)]))
  have HQc := Lib.hid (fun (h : Ob.StOk s) (h2 : Ob.fnd s d = true) => And.intro (Tr.ptF_bad (s := s) (d := d) (o := (Ob.it s (Ob.lb s d)).ob) ix h (by unfold Tr.gtO; rw [if_pos h2])) (Tr.ptF_ok (s := s) (d := d) (o := (Ob.it s (Ob.lb s d)).ob) ix h (by unfold Tr.gtO; rw [if_pos h2])))
  clear hv hm hm2
  generalize Tr.ptF s d ix = q at *
  go_enter Tryz.func12, Tryz.ntmps12
  go_wp2_with fail
  go_at_call 27
  with_reducible refine (HG.out _ hb0).mono ?_
  rintro e w1 ⟨hb1, (⟨hbad, rfl⟩ | ⟨hok, hf, rfl⟩ | ⟨hok, hf, A1, k1, A2, k2, rfl, hob⟩)⟩
  · have H := Lib.hid (HQa.out hbad)
    have hx := HX.out
    have rb1 := rb0.below hb1 rb0.lt
    have hbw := hb0.trans (hb1.mono hb0.size)
    clear HQa HQb HQc HX HM HG hb1 rb0 hb0
    generalize Ob.stF s = f at *
    obtain ⟨c, x⟩ := f
    simp only at hbad hx H
    have HR := Lib.hid (fun w' hb => PaPost.no (w := w) (w' := w') H.out hb)
    generalize PaPost w q = R at *
    have hx1 : (c == 0) = false := by simpa using hbad
    have hx2 : (x == -1) = false := by simp; omega
    have l0 := rb1.lt
    have f0 := rb1.frozen 0
    have f1 := rb1.frozen 1
    have c0 := (rb1.cell 0).trans rfl
    have c1 := (rb1.cell 1).trans rfl
    have l1 : w.heap.size + 1 < w1.heap.size + 1 := Nat.lt_succ_of_lt l0
    clear H hbad hx
    go_wp2_with fail
    go_region
    all_goals
      go_wp2_with fail
      refine bodyPost_ret (results_tt30 rfl _ _ (w.heap.size + 1) (.int .i64 c) (.int .i64 x) rfl ((((blk_put2 rb1 _ _).alloc _).alloc _).drewN 1)) rfl ?_
      refine HR.out _ ?_
      exact below_drewN (((((hbw.setCell (p := ⟨w.heap.size + 1, 0, none⟩) (Nat.le_succ _) _).setCell (p := ⟨w.heap.size + 1, 1, none⟩) (Nat.le_succ _) _).alloc (by simp [World.setCell]; omega) _).alloc (by simp [World.setCell]; omega) _)) 1
  · have H := Lib.hid (HQb.out hok hf)
    have rb1 := rb0.below hb1 rb0.lt
    have hbw := hb0.trans (hb1.mono hb0.size)
    clear HQa HQb HQc HX HM HG hb1 rb0 hb0 hok hf
    have HR := Lib.hid (fun w' hb => PaPost.no (w := w) (w' := w') H.out hb)
    generalize PaPost w q = R at *
    have l0 := rb1.lt
    have f0 := rb1.frozen 0
    have f1 := rb1.frozen 1
    have c0 := (rb1.cell 0).trans rfl
    have c1 := (rb1.cell 1).trans rfl
    have l1 : w.heap.size + 1 < w1.heap.size + 1 := Nat.lt_succ_of_lt l0
    clear H
    go_wp2_with fail
    go_region
    all_goals
      go_wp2_with fail
      refine bodyPost_ret (results_tt30 rfl _ _ (w.heap.size + 1) (.int .i64 6) (.int .i64 ix) rfl ((((blk_put2 rb1 _ _).alloc _).alloc _).drewN 1)) rfl ?_
      refine HR.out _ ?_
      exact below_drewN (((((hbw.setCell (p := ⟨w.heap.size + 1, 0, none⟩) (Nat.le_succ _) _).setCell (p := ⟨w.heap.size + 1, 1, none⟩) (Nat.le_succ _) _).alloc (by simp [World.setCell]; omega) _).alloc (by simp [World.setCell]; omega) _)) 1
  · obtain ⟨HQ1, HQ2⟩ := HQc.out hok hf
    have HQ1 := Lib.hid HQ1
    have HQ2 := Lib.hid HQ2
    have hbo := below_alloc2 w1 (.cells #[.int .i64 (Ob.it s (Ob.lb s d)).ob.kind, .slice A1 (Ob.it s (Ob.lb s d)).ob.links.length k1, .slice A2 (Ob.it s (Ob.lb s d)).ob.data.length k2] 56) (.cells #[.int .i64 0, .int .i64 0] 28)
    have rb1 := (rb0.below hb1 rb0.lt).below hbo (rb0.below hb1 rb0.lt).lt
    have hbw1 := hb0.trans (hb1.mono hb0.size)
    have l1 : w.heap.size + 1 < w1.heap.size := (rb0.below hb1 rb0.lt).lt
    have hbw := hbw1.trans (hbo.mono hbw1.size)
    obtain ⟨h1, h2⟩ := Ob.fnd_at hf
    have HL := Lib.hid (fun (h : (Tr.prF (Ob.it s (Ob.lb s d)).ob).2 = 0) => Tr.prF_links h)
    have hpa := Lib.hid (parse_any _ (HM.out _ hbw).1 (HM.out _ hbw).2 (Ob.it s (Ob.lb s d)).ob A1 k1 A2 k2 ((hob.keep (Keeps.below hbo fun _ _ h => h)).keep ((Keeps.refl _ _).into (X'' := Free) fun _ h => h.elim)) (by have := (hok.ok _ h1).dn; omega))
    have HLS := Lib.hid (fun (w2 : World) (hb2 : Below w1.heap.size w1 w2) => hob.ls.keep (Keeps.below hb2 fun _ _ h => h))
    clear HQa HQb HQc HX HM HG hb1 rb0 hb0 hok hf hob h1 h2 hbw1
    generalize (Ob.it s (Ob.lb s d)).ob = o at *
    obtain ⟨kk, lo, da⟩ := o
    simp only [obV] at hpa hbo hbw rb1 HLS HL
    unfold PrPost at hpa
    generalize Tr.prF ⟨kk, lo, da⟩ = q2 at *
    obtain ⟨⟨L, ls⟩, cd⟩ := q2
    simp only at HQ1 HQ2 HL hpa
    have HR1 := Lib.hid (fun (h : cd ≠ 0) w' hb => PaPost.no (w := w) (w' := w') (HQ1.out h) hb)
    have HR2 : Hid (cd = 0 → ∀ A' c m w', LnA w' (Under w.heap.size) L A' c → SA w' (Under w.heap.size) A1 (intsV ls) → ls.length ≤ m → Below w.heap.size w w' → PaPost w q (.returned (.tuple #[.slice A' L.length c, .slice A1 ls.length m, .agg #[.int .i64 0, .int .i64 0]])) w') := Lib.hid (fun h A' c m w' h1 h2 h3 h4 => by
      rw [HQ2.out h]; exact ⟨A', c, A1, m, rfl, h1, h2, h3, h4⟩)
    generalize PaPost w q = R at *
    clear HQ1 HQ2
    go_wp2_with fail
    go_at_call 28
    with_reducible refine (hpa.out).mono ?_
    rintro e w2 ⟨A', c, Bl, m, rfl, hln, hb2, hlk, hmm⟩
    have rb2 := rb1.below hb2 rb1.lt
    have hszX := hbw.size
    have hbw2 := hbw.trans (hb2.mono hbw.size)
    have hb12 := hbo.trans (hb2.mono hbo.size)
    have l0 := rb2.lt
    have f0 := rb2.frozen 0
    have f1 := rb2.frozen 1
    have c0 := (rb2.cell 0).trans rfl
    have c1 := (rb2.cell 1).trans rfl
    clear hpa hb2 hbw rb1 hbo
    have hset := blk_put2 rb2
    have hbs : ∀ x y, Below w.heap.size w ((w2.setCell ⟨w.heap.size + 1, 0, none⟩ x).setCell ⟨w.heap.size + 1, 1, none⟩ y) := fun x y => (hbw2.setCell (p := ⟨w.heap.size + 1, 0, none⟩) (Nat.le_succ _) _).setCell (p := ⟨w.heap.size + 1, 1, none⟩) (Nat.le_succ _) _
    by_cases hcd : cd = 0
    · subst hcd
      obtain ⟨e1, e2⟩ := hlk rfl
      subst e1
      subst e2
      have H := Lib.hid (HR2.out rfl)
      have hll := HL.out rfl
      subst hll
      have hsl := HLS.out w2 hb12
      clear HR1 HR2 HL HLS hlk
      go_wp2_with fail
      refine bodyPost_ret (results_tt30 rfl _ _ (w.heap.size + 1) (.int .i64 0) (.int .i64 0) rfl (hset _ _)) rfl ?_
      refine H.out A' c _ _ ⟨hln.lk, hln.ll, (sa_put2 hln.ls (by unfold Under; simp; omega) _ _).mono fun b h => ?_⟩ ((sa_put2 hsl (by unfold Under; simp) _ _).mono fun b h => ?_) hmm (hbs _ _)
      · exact Nat.lt_of_lt_of_le h hszX
      · unfold Under at *; simp; omega
    · have H := Lib.hid (HR1.out hcd)
      have hx1 : (cd == 0) = false := by simpa using hcd
      have hx2 : (cd != 0) = true := by simpa using hcd
      clear HR1 HR2 HL HLS hlk hcd
      go_wp2_with fail
      refine bodyPost_ret (results_tt30 rfl _ _ (w.heap.size + 1) (.int .i64 cd) (.int .i64 ix) rfl (hset _ _)) rfl ?_
      exact H.out _ (hbs _ _)
end Go.Proofs.YtjljknocnebnaaaGreatDoor
namespace Tr
open Ob (O S StOk stF fnd lb)
theorem gtO_no {s : List S} {d : Int} (h : fnd s d = false) : gtO s d = none := by unfold gtO; rw [if_neg (by rw [h]; decide)]
theorem gtO_yes {s : List S} {d : Int} (h : fnd s d = true) : gtO s d = some (Ob.it s (lb s d)).ob := by unfold gtO; rw [if_pos h]
theorem prF_kind {o : O} (h : o.kind ≠ 2) : prF o = (([], []), 8) := by unfold prF; rw [if_pos h]
theorem prF_mal {o : O} (h : o.kind = 2) (h2 : (cut o.data).2 ≠ [] ∨ (cut o.data).1.length ≠ o.links.length ∨ (vlF ((cut o.data).1.map fun p => (⟨p, []⟩ : F))).1 ≠ 0) : prF o = (([], []), 5) := by
  unfold prF; rw [if_neg (fun h3 => h3 h), if_pos h2]
theorem prF_ok {o : O} (h : o.kind = 2) (h1 : (cut o.data).2 = []) (h2 : (cut o.data).1.length = o.links.length) (h3 : (vlF ((cut o.data).1.map fun p => (⟨p, []⟩ : F))).1 = 0) : prF o = (((cut o.data).1, o.links), 0) := by
  unfold prF; rw [if_neg (fun h3 => h3 h), if_neg]
  rintro (h4 | h4 | h4)
  · exact h4 h1
  · exact h4 h2
  · exact h4 h3
/-- What 'paths' answers without a fault. -/
theorem ptF_good {s : List S} {d ix : Int} (h : (ptF s d ix).2.1 = 0) : StOk s ∧ (ptF s d ix).2 = (0, 0) ∧ (ptF s d ix).1.1.length = (ptF s d ix).1.2.length ∧ (ptF s d ix).1.1.length ≤ 24 := by
  unfold ptF at h ⊢
  by_cases h1 : (stF s).1 ≠ 0
  · rw [if_pos h1] at h; exact absurd h h1
  · obtain ⟨_, hs⟩ := Ob.stF_ok (s := s) (by omega)
    rw [if_neg h1] at h ⊢
    rcases hg : gtO s d with _ | o
    · rw [hg] at h; cases h
    · rw [hg] at h
      simp only at h ⊢
      by_cases h2 : (prF o).2 ≠ 0
      · rw [if_pos h2] at h; exact absurd h h2
      · rw [if_neg h2] at h ⊢
        refine ⟨hs, rfl, ?_⟩
        unfold prF at h2 ⊢
        by_cases h3 : o.kind ≠ 2
        · rw [if_pos h3] at h2; exact absurd (by decide) h2
        · rw [if_neg h3] at h2 ⊢
          by_cases h4 : (cut o.data).2 ≠ [] ∨ (cut o.data).1.length ≠ o.links.length ∨ (vlF ((cut o.data).1.map fun p => (⟨p, []⟩ : F))).1 ≠ 0
          · rw [if_pos h4] at h2; exact absurd (by decide) h2
          · rw [if_neg h4]
            have h5 : (cut o.data).1.length = o.links.length := Classical.byContradiction fun hc => h4 (.inr (.inl hc))
            have h6 : (vlF ((cut o.data).1.map fun p => (⟨p, []⟩ : F))).1 = 0 := Classical.byContradiction fun hc => h4 (.inr (.inr hc))
            have h7 := (vlF_ok h6).2.len
            rw [List.length_map] at h7
            exact ⟨h5, h7⟩
theorem ptF_fault {s : List S} {d ix : Int} (h : (ptF s d ix).2.1 ≠ 0) : (ptF s d ix).1 = ([], []) := by
  unfold ptF at h ⊢
  by_cases h1 : (stF s).1 ≠ 0
  · rw [if_pos h1]
  · rw [if_neg h1] at h ⊢
    rcases hg : gtO s d with _ | o
    · rfl
    · rw [hg] at h
      simp only at h ⊢
      by_cases h2 : (prF o).2 ≠ 0
      · rw [if_pos h2]
      · rw [if_neg h2] at h; exact absurd rfl h
theorem cut_len2 (b : List UInt8) : (cut b).1.length ≤ b.length := by
  have h1 := cut_join b.length b (Nat.le_refl _)
  have h2 : ∀ l : List Nm, l.length ≤ (joined l).length := by
    intro l
    induction l with
    | nil => simp [joined]
    | cons a l ih => rw [joined_cons]; simp; omega
  have h3 := congrArg List.length h1
  have h4 := h2 (cut b).1
  rw [List.length_append] at h3
  omega
theorem coF_kind {o : O} {p : Nm} (h : o.kind ≠ 1) : coF o p = ([], 8) := by unfold coF; rw [if_pos h]
theorem coF_mal {o : O} {p : Nm} (h : o.kind = 1) (h2 : (cut o.data).2 ≠ [] ∨ (vlF [(⟨p, (cut o.data).1⟩ : F)]).1 ≠ 0) : coF o p = ([], 5) := by unfold coF; rw [if_neg (fun h3 => h3 h), if_pos h2]
theorem coF_ok {o : O} {p : Nm} (h : o.kind = 1) (h1 : (cut o.data).2 = []) (h2 : (vlF [(⟨p, (cut o.data).1⟩ : F)]).1 = 0) : coF o p = ((cut o.data).1, 0) := by
  unfold coF; rw [if_neg (fun h3 => h3 h), if_neg]
  rintro (h4 | h4)
  · exact h4 h1
  · exact h4 h2
section
variable {s : List S} {ps : List Nm} {ls : List Int} {i : Nat} {out : List F}
theorem rdFrom_no (hi : i < ps.length) (h : gtO s (ls[i]?.getD 0) = none) : rdFrom s ps ls i out = ([], (6, (i : Int))) := by rw [rdFrom, if_pos hi, h]
theorem rdFrom_bad {o : O} (hi : i < ps.length) (h : gtO s (ls[i]?.getD 0) = some o) (h2 : (coF o (ps[i]?.getD [])).2 ≠ 0) : rdFrom s ps ls i out = ([], ((coF o (ps[i]?.getD [])).2, (i : Int))) := by
  rw [rdFrom, if_pos hi, h]; simp only; rw [if_pos h2]
theorem rdFrom_next {o : O} (hi : i < ps.length) (h : gtO s (ls[i]?.getD 0) = some o) (h2 : (coF o (ps[i]?.getD [])).2 = 0) : rdFrom s ps ls i out = rdFrom s ps ls (i + 1) (out ++ [⟨ps[i]?.getD [], (coF o (ps[i]?.getD [])).1⟩]) := by
  rw [rdFrom, if_pos hi, h]; simp only; rw [if_neg (fun h3 => h3 h2)]
end
theorem rdF_no {s : List S} {d : Int} (h : (ptF s d (-1)).2.1 ≠ 0) : rdF s d = ([], (ptF s d (-1)).2) := by unfold rdF; rw [if_pos h]
theorem rdF_go {s : List S} {d : Int} (h : (ptF s d (-1)).2.1 = 0) : rdF s d = rdFrom s (ptF s d (-1)).1.1 (ptF s d (-1)).1.2 0 [] := by unfold rdF; rw [if_neg (fun h2 => h2 h)]
end Tr
namespace Tr
open Ob (O S StOk)
/-- What 'Changed' collects of the second side. -/
def bL (p q : List Nm) (k : Nat) : List Nm := ((List.range k).filter fun j => !decide (at_ q j ∈ p)).map (at_ q)
theorem bL_succ (p q : List Nm) (k : Nat) : bL p q (k + 1) = bL p q k ++ if at_ q k ∈ p then [] else [at_ q k] := by
  unfold bL
  rw [List.range_succ, List.filter_append, List.map_append]
  congr 1
  by_cases h : at_ q k ∈ p
  · rw [if_pos h]; simp [h]
  · rw [if_neg h]; simp [h]
theorem bL_len (p q : List Nm) (k : Nat) : (bL p q k).length ≤ k := by
  unfold bL; rw [List.length_map]
  exact Nat.le_trans (List.length_filter_le _ _) (by simp)
theorem aL_len (p : List Nm) (x : List Int) (q : List Nm) (y : List Int) (k : Nat) : (aL p x q y k).length ≤ k := by
  unfold aL; rw [List.length_map]
  exact Nat.le_trans (List.length_filter_le _ _) (by simp)
/-- Both, one behind the other. -/
def oL (al p q : List Nm) (k : Nat) : List Nm := al ++ bL p q k
theorem oL_zero (al p q : List Nm) : oL al p q 0 = al := by simp [oL, bL]
theorem oL_in {al p q : List Nm} {k : Nat} (h : at_ q k ∈ p) : oL al p q (k + 1) = oL al p q k := by unfold oL; rw [bL_succ, if_pos h, List.append_nil]
theorem oL_out {al p q : List Nm} {k : Nat} (h : ¬ at_ q k ∈ p) : oL al p q (k + 1) = oL al p q k ++ [at_ q k] := by unfold oL; rw [bL_succ, if_neg h, List.append_assoc]
theorem oL_len (al p q : List Nm) (k : Nat) : (oL al p q k).length ≤ al.length + k := by unfold oL; rw [List.length_append]; have := bL_len p q k; omega
theorem ins_perm (b : Nm) : ∀ l, (ins b l).Perm (b :: l)
  | [] => List.Perm.refl _
  | a :: l => by
    rw [ins]
    by_cases h : a < b
    · rw [if_pos h]
      exact ((ins_perm b l).cons a).trans (List.Perm.swap b a l)
    · rw [if_neg h]
theorem ch_perm (p : List Nm) (x : List Int) (q : List Nm) (y : List Int) : ∀ k, (chL p x q y k).Perm (aL p x q y p.length ++ bL p q k)
  | 0 => by simp [chL, bL]
  | k + 1 => by
    rw [chL, bL_succ]
    by_cases h : at_ q k ∈ p
    · rw [if_pos h, if_pos h, List.append_nil]; exact ch_perm p x q y k
    · rw [if_neg h, if_neg h, ← List.append_assoc]
      refine ((ins_perm _ _).trans ((ch_perm p x q y k).cons _)).trans ?_
      exact (List.perm_append_singleton _ _).symm
theorem srt_nodup {l : List Nm} (h : Srt l) : l.Nodup := List.Pairwise.imp (fun {a b} (hab : a < b) (e : a = b) => by subst e; exact nlt_irrefl _ hab) h
theorem sort_ch {p q : List Nm} (x y : List Int) (hp : Srt p) (hq : Srt q) : (aL p x q y p.length ++ bL p q q.length).mergeSort (fun a b => decide (a ≤ b)) = chF p x q y := by
  have hs := srt_chF x y hp hq
  have hpm := ch_perm p x q y q.length
  have h1 := List.mergeSort_perm (aL p x q y p.length ++ bL p q q.length) (fun a b => decide (a ≤ b))
  have h2 : ((aL p x q y p.length ++ bL p q q.length).mergeSort (fun a b => decide (a ≤ b))).Pairwise (fun a b => decide (a ≤ b) = true) :=
    List.pairwise_mergeSort (fun a b c h h' => by simp only [decide_eq_true_eq] at *; exact List.le_trans h h') (fun a b => by
      rcases nlt_tri a b with h | h | h
      · simp [List.le_of_lt h]
      · simp [h]
      · simp [List.le_of_lt h]) _
  have h3 : ((aL p x q y p.length ++ bL p q q.length).mergeSort (fun a b => decide (a ≤ b))).Nodup := (h1.trans hpm.symm).nodup_iff.2 (srt_nodup hs)
  refine srt_ext ?_ hs fun c => (h1.trans hpm.symm).mem_iff
  refine (h2.and h3).imp fun {a b} h => ?_
  rcases nlt_tri a b with k | k | k
  · exact k
  · exact absurd k h.2
  · exact absurd k (List.not_lt.2 (of_decide_eq_true h.1))
theorem sort_oL {p q : List Nm} (x y : List Int) (hp : Srt p) (hq : Srt q) : (oL (aL p x q y p.length) p q q.length).mergeSort (fun a b => decide (a ≤ b)) = chF p x q y := sort_ch x y hp hq
theorem ch_oL (p : List Nm) (x : List Int) (q : List Nm) (y : List Int) : (chF p x q y).length = (oL (aL p x q y p.length) p q q.length).length := (ch_perm p x q y q.length).length_eq
theorem srt_of : ∀ {p : List Nm}, (∀ i, i + 1 < p.length → at_ p i < at_ p (i + 1)) → Srt p := by
  intro p h
  have hm : ∀ n i j, j - i ≤ n → i < j → j < p.length → at_ p i < at_ p j := by
    intro n
    induction n with
    | zero => intro i j h1 h2; omega
    | succ n ih =>
      intro i j h1 h2 h3
      by_cases e : j = i + 1
      · subst e; exact h i h3
      · exact nlt_trans (ih i (j - 1) (by omega) (by omega) (by omega)) (by have := h (j - 1) (by omega); rwa [show j - 1 + 1 = j by omega] at this)
  refine List.pairwise_iff_getElem.2 fun i j hi hj hij => ?_
  rw [at_eq p i hi, at_eq p j hj]
  exact hm _ i j (Nat.le_refl _) hij hj
theorem ptF_srt {s : List S} {d ix : Int} (h : (ptF s d ix).2.1 = 0) : Srt (ptF s d ix).1.1 := by
  unfold ptF at h ⊢
  by_cases h1 : (Ob.stF s).1 ≠ 0
  · rw [if_pos h1] at h; exact absurd h h1
  · rw [if_neg h1] at h ⊢
    rcases hg : gtO s d with _ | o
    · rw [hg] at h; cases h
    · rw [hg] at h
      simp only at h ⊢
      by_cases h2 : (prF o).2 ≠ 0
      · rw [if_pos h2] at h; exact absurd h h2
      · rw [if_neg h2]
        unfold prF at h2 ⊢
        by_cases h3 : o.kind ≠ 2
        · rw [if_pos h3] at h2; exact absurd (by decide) h2
        · rw [if_neg h3] at h2 ⊢
          by_cases h4 : (cut o.data).2 ≠ [] ∨ (cut o.data).1.length ≠ o.links.length ∨ (vlF ((cut o.data).1.map fun p => (⟨p, []⟩ : F))).1 ≠ 0
          · rw [if_pos h4] at h2; exact absurd (by decide) h2
          · rw [if_neg h4]
            have h6 : (vlF ((cut o.data).1.map fun p => (⟨p, []⟩ : F))).1 = 0 := Classical.byContradiction fun hc => h4 (.inr (.inr hc))
            have h7 := (vlF_ok h6).2.lt
            refine srt_of fun i hi => ?_
            have hi : i + 1 < (cut o.data).1.length := hi
            have h8 := h7 i (by simpa using hi)
            have e : ∀ j, j < (cut o.data).1.length → (it ((cut o.data).1.map fun p => (⟨p, []⟩ : F)) j).path = at_ (cut o.data).1 j := fun j hj => by
              unfold it at_; rw [List.getElem?_map, List.getElem?_eq_getElem hj]; rfl
            rw [e i (by omega), e (i + 1) hi] at h8
            exact h8
/-- What 'Changed' answers. -/
def chR (s : List S) (a b : Int) : List Nm × (Int × Int) :=
  if (ptF s a (-1)).2.1 ≠ 0 then ([], (ptF s a (-1)).2) else if (ptF s b (-2)).2.1 ≠ 0 then ([], (ptF s b (-2)).2)
  else (chF (ptF s a (-1)).1.1 (ptF s a (-1)).1.2 (ptF s b (-2)).1.1 (ptF s b (-2)).1.2, (0, 0))
theorem chR_a {s : List S} {a b : Int} (h : (ptF s a (-1)).2.1 ≠ 0) : chR s a b = ([], (ptF s a (-1)).2) := by unfold chR; rw [if_pos h]
theorem chR_b {s : List S} {a b : Int} (h : (ptF s a (-1)).2.1 = 0) (h2 : (ptF s b (-2)).2.1 ≠ 0) : chR s a b = ([], (ptF s b (-2)).2) := by unfold chR; rw [if_neg (fun k => k h), if_pos h2]
theorem chR_c {s : List S} {a b : Int} (h : (ptF s a (-1)).2.1 = 0) (h2 : (ptF s b (-2)).2.1 = 0) : chR s a b = (chF (ptF s a (-1)).1.1 (ptF s a (-1)).1.2 (ptF s b (-2)).1.1 (ptF s b (-2)).1.2, (0, 0)) := by
  unfold chR; rw [if_neg (fun k => k h), if_neg (fun k => k h2)]
/-! ### the library's searches -/
def ba (l : Nm) : ByteArray := ⟨l.toArray⟩
theorem ba_inj {a b : Nm} (h : ba a = ba b) : a = b := by
  unfold ba at h
  injection h with h
  have := congrArg Array.toList h
  simpa using this
theorem ba_get (q : List Nm) (j : Nat) (hj : j < q.length) : (q.map ba).getD j ByteArray.empty = ba (at_ q j) := by
  unfold at_
  rw [List.getD_eq_getElem?_getD, List.getElem?_map, List.getElem?_eq_getElem hj]; rfl
theorem idx_hit {q : List Nm} (hq : Srt q) {k : Nat} (hk : k < q.length) : Go.Lib.idxOfS ((q.map ba).take q.length) (ba (at_ q k)) = (k : Int) :=
  Go.Lib.idxOfS_hit (q.map ba) q.length k _ hk (by simp) (ba_get q k hk) (fun j hj e => by
    rw [ba_get q j (by omega)] at e
    have := srt_inj hq (show j < q.length by omega) hk (ba_inj e)
    omega)
theorem idx_miss {q : List Nm} {c : Nm} (h : c ∉ q) : Go.Lib.idxOfS ((q.map ba).take q.length) (ba c) = -1 :=
  Go.Lib.idxOfS_miss (q.map ba) q.length _ (fun j hj e => by
    rw [ba_get q j hj] at e
    exact h (at_mem.2 ⟨j, hj, ba_inj e⟩))
theorem contains_eq (q : List Nm) (c : Nm) : Go.Lib.containsS ((q.map ba).take q.length) (ba c) = decide (c ∈ q) := by
  rw [List.take_of_length_le (by simp), Bool.eq_iff_iff, Go.Lib.containsS_iff, decide_eq_true_eq, List.mem_map]
  constructor
  · rintro ⟨a, h, e⟩; exact ba_inj e ▸ h
  · intro h; exact ⟨c, h, rfl⟩
end Tr
namespace Go.Proofs.YtjljknocnebnaaaGreatDoor
open Go.RowKit Go.V Go.Shelf
set_option linter.unusedVariables false

/-- What 'Paths' tells. -/
def PsPost (w : World) (l : List (List UInt8)) (f : Int × Int) (e : Ending) (w' : World) : Prop :=
  ∃ A c, e = .returned (.tuple #[.slice A l.length c, .agg #[.int .i64 f.1, .int .i64 f.2]]) ∧ LnA w' (Under w.heap.size) l A c ∧ Below w.heap.size w w'
end Go.Proofs.YtjljknocnebnaaaGreatDoor
namespace Go.V
open Go.RowKit
section
variable {P : Program} (w : World)
/-- 'step_appM', and which block the row then owns. -/
theorem step_appMo {ops : Array Oper} {o : Oper} {a : Act} {K : Act → World → Prop} {Q : Exit → Act → World → Prop} {E : Prop} (hgd : o.guard = none) (s x : Operand) (t : TypeId)
    (ho : o.op = .call { callee := .builtin .append, args := #[s, x], argTypes := #[t, t] })
    (base : Nat) (e : TypeId) (i : TypeInfo) (z : Value) (size bytes : Nat) (ht : P.underlying t = some (.slice e)) (hi : P.info? e = some i) (hz : i.zero = some z)
    (hsize : i.size = size) (hby : i.bytes = bytes) (hzs : z.cells.size = size) (hsz : 0 < size)
    (A : Option Addr) (n c : Nat) (xs : List Value) (hs : a.eval s = .slice A n c) (hown : w.ownsRow base e size (.slice A n c) n xs)
    (B : Nat) (A2 : Option Addr) (m c2 : Nat) (news : List Value) (hx : a.eval x = .slice A2 m c2) (hl : news.length = m * size) (hr : SV w B A2 news) (h1 : ∀ u ∈ news, u.oneCell' = true)
    (h63 : n + m ≤ maxLen) (hbytes : (n + m) * bytes ≤ 140737488355328) (hbase : base ≤ w.heap.size)
    (h : ∀ A' c' w', w'.ownsRow base e size (.slice A' (n + m) c') (n + m) (xs ++ news) → w.grownBy w' (Value.slice A n c).ownBlock →
      ((Value.slice A' (n + m) c').ownBlock = (Value.slice A n c).ownBlock ∨ (Value.slice A' (n + m) c').ownBlock = some w.heap.size) → K (a.put o.dst (.slice A' (n + m) c')) w') :
    if Region.wanted o (yielded ops a.tmps) = true then Oper.wp P o a w K Q else E := by
  have hw : Region.wanted o (yielded ops a.tmps) = true := by simp [Region.wanted, hgd]
  rw [if_pos hw]
  refine wp_append_sv w s x t ho base e i z size bytes ht hi hz hsize hby hzs hsz (.slice A n c) n xs hs hown B A2 m c2 news hx hl hr h1 h63 hbytes hbase fun v' w' h2 h3 h4 => ?_
  obtain ⟨A', c', rfl, hc', _⟩ := own_form h2
  exact h A' c' w' h2 h3 h4
end
end Go.V
namespace Go.Proofs.YtjljknocnebnaaaGreatDoor
open Go.RowKit Go.V Go.Shelf
set_option linter.unusedVariables false

/-- What 'Write' may still change. -/
abbrev Wx (w : World) (g : Nat) (Al : Option Addr) (nl cl : Nat) (Ad : Option Addr) (nd cd : Nat) : Nat → Prop := Or2 (fun b => w.heap.size ≤ b ∧ b ≤ g) (.slice Al nl cl) (.slice Ad nd cd)
/-- The state of 'Write': its boxes and results, the object that is being made, the store at hand. -/
structure WrSt (w wr : World) (g : Nat) (At : Option Addr) (n kt : Nat) (A : Option Addr) (k : Nat) (s : List Ob.S) (ls : List Int) (da : List UInt8) (Al : Option Addr) (cl : Nat) (Ad : Option Addr) (cd : Nat) : Prop where
  bx : Blk wr w.heap.size 24 #[.slice A s.length k]
  bt : Blk wr (w.heap.size + 1) 41 #[.slice At n kt]
  r1 : Blk wr (w.heap.size + 2) 24 #[.slice none 0 0]
  r2 : Blk wr (w.heap.size + 3) 28 #[.int .i64 0, .int .i64 0]
  bn : Blk wr (w.heap.size + 4) 24 #[.slice none 0 0]
  rt : RtSt w wr g ls da Al cl Ad cd
  hg5 : w.heap.size + 5 ≤ g
  sv : StV wr (Wx w g Al ls.length cl Ad da.length cd) A s
/-- The state of 'Write' ahead of that: its boxes and results. -/
structure WrB (w wr : World) (At : Option Addr) (n kt : Nat) (A : Option Addr) (k m : Nat) : Prop where
  bx : Blk wr w.heap.size 24 #[.slice A m k]
  bt : Blk wr (w.heap.size + 1) 41 #[.slice At n kt]
  r1 : Blk wr (w.heap.size + 2) 24 #[.slice none 0 0]
  r2 : Blk wr (w.heap.size + 3) 28 #[.int .i64 0, .int .i64 0]
  bn : Blk wr (w.heap.size + 4) 24 #[.slice none 0 0]
  bel : Below w.heap.size w wr
theorem WrB.below {w wr w' : World} {At : Option Addr} {n kt : Nat} {A : Option Addr} {k m : Nat} (h : WrB w wr At n kt A k m) (hb : Below wr.heap.size wr w') : WrB w w' At n kt A k m :=
  ⟨h.bx.below hb h.bx.lt, h.bt.below hb h.bt.lt, h.r1.below hb h.r1.lt, h.r2.below hb h.r2.lt, h.bn.below hb h.bn.lt, h.bel.trans (hb.mono h.bel.size)⟩
theorem WrB.facts {w wr : World} {At : Option Addr} {n kt : Nat} {A : Option Addr} {k m : Nat} (h : WrB w wr At n kt A k m) :
    wr.cell? ⟨w.heap.size, 0, none⟩ = some (.slice A m k) ∧ wr.cell? ⟨w.heap.size + 1, 0, none⟩ = some (.slice At n kt) ∧ wr.cell? ⟨w.heap.size + 2, 0, none⟩ = some (.slice none 0 0) ∧ wr.frozen? ⟨w.heap.size + 2, 0, none⟩ = false ∧
    wr.cell? ⟨w.heap.size + 3, 0, none⟩ = some (.int .i64 0) ∧ wr.cell? ⟨w.heap.size + 3, 1, none⟩ = some (.int .i64 0) ∧ wr.frozen? ⟨w.heap.size + 3, 0, none⟩ = false ∧ wr.frozen? ⟨w.heap.size + 3, 1, none⟩ = false ∧
    wr.cell? ⟨w.heap.size + 4, 0, none⟩ = some (.slice none 0 0) ∧
    w.heap.size < wr.heap.size ∧ w.heap.size + 1 < wr.heap.size ∧ w.heap.size + 2 < wr.heap.size ∧ w.heap.size + 3 < wr.heap.size ∧ w.heap.size + 4 < wr.heap.size :=
  ⟨(h.bx.cell 0).trans rfl, (h.bt.cell 0).trans rfl, (h.r1.cell 0).trans rfl, h.r1.frozen 0, (h.r2.cell 0).trans rfl, (h.r2.cell 1).trans rfl, h.r2.frozen 0, h.r2.frozen 1, (h.bn.cell 0).trans rfl, h.bx.lt, h.bt.lt, h.r1.lt, h.r2.lt, h.bn.lt⟩
section
variable {w wr w' : World} {g : Nat} {At : Option Addr} {n kt : Nat} {A : Option Addr} {k : Nat} {s : List Ob.S} {ls : List Int} {da : List UInt8} {Al : Option Addr} {cl : Nat} {Ad : Option Addr} {cd : Nat}
theorem WrSt.below (h : WrSt w wr g At n kt A k s ls da Al cl Ad cd) (hb : Below wr.heap.size wr w') : WrSt w w' g At n kt A k s ls da Al cl Ad cd :=
  ⟨h.bx.below hb h.bx.lt, h.bt.below hb h.bt.lt, h.r1.below hb h.r1.lt, h.r2.below hb h.r2.lt, h.bn.below hb h.bn.lt, h.rt.below hb, h.hg5, h.sv.keep (Keeps.below hb fun _ _ h => h)⟩
theorem WrSt.under (h : WrSt w wr g At n kt A k s ls da Al cl Ad cd) : ∀ b, Wx w g Al ls.length cl Ad da.length cd b → b < wr.heap.size := by
  have hg := h.rt.sb.lt
  rintro b (hb | hb | hb)
  · omega
  · exact (h.rt.ol.lt b hb).2
  · exact (h.rt.od.lt b hb).2
theorem WrSt.bb (h : WrSt w wr g At n kt A k s ls da Al cl Ad cd) : WrB w wr At n kt A k s.length := ⟨h.bx, h.bt, h.r1, h.r2, h.bn, h.rt.bel⟩
theorem WrB.start (h : WrB w wr At n kt A k s.length) (hv : StV w Free A s) : WrSt w (wr.alloc (.cells #[.int .i64 2, .slice none 0 0, .slice none 0 0] 56)) wr.heap.size At n kt A k s [] [] none 0 none 0 := by
  have hl := h.bn.lt
  have hb := h.bel.trans ((below_alloc1 wr (.cells #[.int .i64 2, .slice none 0 0, .slice none 0 0] 56)).mono h.bel.size)
  refine ⟨h.bx.alloc _, h.bt.alloc _, h.r1.alloc _, h.r2.alloc _, h.bn.alloc _, RtSt.start _ _ hb _ h.bel.size (Blk.new _ _ _), by omega, ?_⟩
  refine hv.keep (Keeps.below hb fun b hb hx => ?_)
  rcases hx with ⟨h1, _⟩ | h1 | h1
  · omega
  · cases h1
  · cases h1
/-- Another store. -/
theorem WrSt.setS (h : WrSt w wr g At n kt A k s ls da Al cl Ad cd) {A' : Option Addr} {s' : List Ob.S} (hs : StV wr (Wx w g Al ls.length cl Ad da.length cd) A' s') (k' : Nat) :
    WrSt w (wr.setCell ⟨w.heap.size, 0, none⟩ (.slice A' s'.length k')) g At n kt A' k' s' ls da Al cl Ad cd := by
  have hg5 := h.hg5
  have hb := h.rt.bel.setCell (p := ⟨w.heap.size, 0, none⟩) (Nat.le_refl _) (.slice A' s'.length k')
  refine ⟨by simpa using h.bx.set_ 0 (.slice A' s'.length k'), h.bt.far (p := ⟨w.heap.size, 0, none⟩) (by simp) _, h.r1.far (p := ⟨w.heap.size, 0, none⟩) (by simp) _, h.r2.far (p := ⟨w.heap.size, 0, none⟩) (by simp) _, h.bn.far (p := ⟨w.heap.size, 0, none⟩) (by simp) _, ?_, h.hg5, ?_⟩
  · refine ⟨h.rt.sb.far (p := ⟨w.heap.size, 0, none⟩) (by simp; omega) _, own_setCell h.rt.ol (fun e => ?_) _, own_setCell h.rt.od (fun e => ?_) _, h.rt.hg, hb⟩
    · have := (h.rt.ol.lt _ e.symm).1; simp at this; omega
    · have := (h.rt.od.lt _ e.symm).1; simp at this; omega
  · exact hs.keep (Keeps.setCell wr _ ⟨w.heap.size, 0, none⟩ _ (.inl ⟨Nat.le_refl _, by show w.heap.size ≤ g; omega⟩))
/-- A link has been appended. -/
theorem WrSt.appL (h : WrSt w wr g At n kt A k s ls da Al cl Ad cd) {w4 : World} {A4 : Option Addr} {c4 : Nat} {d : Int} (hg : wr.grownBy w4 (Value.slice Al ls.length cl).ownBlock)
    (hown : w4.ownsRow (g + 1) 3 1 (.slice A4 (ls.length + 1) c4) (ls.length + 1) (intsV ls ++ [.int .i64 d]))
    (hob : (Value.slice A4 (ls.length + 1) c4).ownBlock = (Value.slice Al ls.length cl).ownBlock ∨ (Value.slice A4 (ls.length + 1) c4).ownBlock = some wr.heap.size) :
    WrSt w (w4.setCell ⟨g, 1, none⟩ (.slice A4 (ls.length + 1) c4)) g At n kt A k s (ls ++ [d]) da A4 c4 Ad cd := by
  have hg5 := h.hg5
  have hl : (ls ++ [d]).length = ls.length + 1 := by simp
  refine ⟨(h.bx.grown hg (own_blk_ne h.rt.ol h.bx (by decide))).far (p := ⟨g, 1, none⟩) (by simp; omega) _, (h.bt.grown hg (own_blk_ne h.rt.ol h.bt (by decide))).far (p := ⟨g, 1, none⟩) (by simp; omega) _,
    (h.r1.grown hg (own_blk_ne h.rt.ol h.r1 (by decide))).far (p := ⟨g, 1, none⟩) (by simp; omega) _, (h.r2.grown hg (own_blk_ne h.rt.ol h.r2 (by decide))).far (p := ⟨g, 1, none⟩) (by simp; omega) _,
    (h.bn.grown hg (own_blk_ne h.rt.ol h.bn (by decide))).far (p := ⟨g, 1, none⟩) (by simp; omega) _, h.rt.appL hg hown, h.hg5, ?_⟩
  rw [hl]
  exact h.sv.keep ((Keeps.or2a hg rfl hob).trans (Keeps.setCell w4 _ ⟨g, 1, none⟩ _ (.inl ⟨by show w.heap.size ≤ g; omega, Nat.le_refl _⟩)))
/-- Bytes have been appended. -/
theorem WrSt.appD (h : WrSt w wr g At n kt A k s ls da Al cl Ad cd) {w4 : World} {A4 : Option Addr} {c4 : Nat} {x : List UInt8} (hg : wr.grownBy w4 (Value.slice Ad da.length cd).ownBlock)
    (hown : w4.ownsRow (g + 1) 5 1 (.slice A4 (da.length + x.length) c4) (da.length + x.length) (bytesV da ++ bytesV x))
    (hob : (Value.slice A4 (da.length + x.length) c4).ownBlock = (Value.slice Ad da.length cd).ownBlock ∨ (Value.slice A4 (da.length + x.length) c4).ownBlock = some wr.heap.size) :
    WrSt w (w4.setCell ⟨g, 2, none⟩ (.slice A4 (da.length + x.length) c4)) g At n kt A k s ls (da ++ x) Al cl A4 c4 := by
  have hg5 := h.hg5
  have hl : (da ++ x).length = da.length + x.length := by simp
  refine ⟨(h.bx.grown hg (own_blk_ne h.rt.od h.bx (by decide))).far (p := ⟨g, 2, none⟩) (by simp; omega) _, (h.bt.grown hg (own_blk_ne h.rt.od h.bt (by decide))).far (p := ⟨g, 2, none⟩) (by simp; omega) _,
    (h.r1.grown hg (own_blk_ne h.rt.od h.r1 (by decide))).far (p := ⟨g, 2, none⟩) (by simp; omega) _, (h.r2.grown hg (own_blk_ne h.rt.od h.r2 (by decide))).far (p := ⟨g, 2, none⟩) (by simp; omega) _,
    (h.bn.grown hg (own_blk_ne h.rt.od h.bn (by decide))).far (p := ⟨g, 2, none⟩) (by simp; omega) _, h.rt.appD hg hown, h.hg5, ?_⟩
  rw [hl]
  exact h.sv.keep ((Keeps.or2b hg rfl hob).trans (Keeps.setCell w4 _ ⟨g, 2, none⟩ _ (.inl ⟨by show w.heap.size ≤ g; omega, Nat.le_refl _⟩)))
end
/-- What 'Write' tells. -/
def WrPost (w : World) (q : (List Ob.S × Int) × (Int × Int)) (e : Ending) (w' : World) : Prop :=
  ∃ A c, e = .returned (.tuple #[stV A q.1.1.length c, .int .i64 q.1.2, .agg #[.int .i64 q.2.1, .int .i64 q.2.2]]) ∧ q.1.1.length ≤ c ∧ StV w' (Under w.heap.size) A q.1.1 ∧ Below w.heap.size w w'
theorem WrPost.no {w w' : World} {q : (List Ob.S × Int) × (Int × Int)} {c i : Int} (h : q = (([], 0), (c, i))) (hb : Below w.heap.size w w') : WrPost w q (.returned (.tuple #[.agg #[.slice none 0 0], .int .i64 0, .agg #[.int .i64 c, .int .i64 i]])) w' := by
  subst h; exact ⟨none, 0, rfl, Nat.le_refl _, ⟨[], SA.nil, rfl⟩, hb⟩
theorem st_cap {w : World} {A : Option Addr} {s : List Ob.S} {n : Nat} (h : StV w (Under n) A s) : StV w (fun b => b < n ∨ w.heap.size ≤ b) A s :=
  h.keep ⟨Nat.le_refl _, fun _ _ _ => rfl, fun b hb hx hx' => hx'.elim hx (fun h => by omega)⟩
/-- What 'Put' has answered, in two variables of its own. -/
def StOut (wq wx : World) (r : List Ob.S × Int × (Int × Int)) (p d q : Value) : Prop :=
  ∃ gA gB A c, p = .pointer (some ⟨gA, 0, none⟩) ∧ d = .int .i64 r.2.1 ∧ q = .pointer (some ⟨gB, 0, none⟩) ∧ wq.heap.size ≤ gA ∧ wq.heap.size ≤ gB ∧ Blk wx gA 24 #[.slice A r.1.length c] ∧ Blk wx gB 28 #[.int .i64 r.2.2.1, .int .i64 r.2.2.2] ∧ r.1.length ≤ c ∧ StV wx (Under wq.heap.size) A r.1 ∧ Below wq.heap.size wq wx
theorem StOut.mk {wq W : World} {r : List Ob.S × Int × (Int × Int)} {gA gB : Nat} {A : Option Addr} {c : Nat} {X : Nat → Prop} {x u v : Value} (hq : Below wq.heap.size wq W) (hs : StV W X A r.1) (hX : ∀ b, b < wq.heap.size → X b) (hc : r.1.length ≤ c)
    (bA : Blk W gA 24 #[x]) (bB : Blk W gB 28 #[u, v]) (hne : gA ≠ gB) (hgA : wq.heap.size ≤ gA) (hgB : wq.heap.size ≤ gB) (hXA : X gA) (hXB : X gB) :
    StOut wq (((W.setCell ⟨gA, 0, none⟩ (.slice A r.1.length c)).setCell ⟨gB, 0, none⟩ (.int .i64 r.2.2.1)).setCell ⟨gB, 1, none⟩ (.int .i64 r.2.2.2)) r (.pointer (some ⟨gA, 0, none⟩)) (.int .i64 r.2.1) (.pointer (some ⟨gB, 0, none⟩)) := by
  obtain ⟨k1, k2, k3⟩ := put12 bA bB hne (.slice A r.1.length c) (.int .i64 r.2.2.1) (.int .i64 r.2.2.2)
  refine ⟨gA, gB, A, c, rfl, rfl, rfl, hgA, hgB, k1, k2, hc, ?_, k3 _ _ hgA hgB hq⟩
  refine (hs.keep (((Keeps.setCell W X ⟨gA, 0, none⟩ _ hXA).trans (Keeps.setCell _ X ⟨gB, 0, none⟩ _ hXB)).trans (Keeps.setCell _ X ⟨gB, 1, none⟩ _ hXB))).keep ((Keeps.refl _ X).into fun b hb => hX b hb)
end Go.Proofs.YtjljknocnebnaaaGreatDoor
namespace Go.Proofs.YtjljknocnebnaaaGreatDoor
open Go.RowKit Go.V Go.Shelf
set_option linter.unusedVariables false

/-- A variable of one slice in the block g, and its row. -/
structure RwSt (w0 wr : World) (g : Nat) (t e : TypeId) (sz : Nat) (A : Option Addr) (n c : Nat) (xs : List Value) : Prop where
  sb : Blk wr g t #[.slice A n c]
  own : wr.ownsRow g e sz (.slice A n c) n xs
  hg : w0.heap.size ≤ g
  bel : Below w0.heap.size w0 wr
section
variable {w0 wr w' : World} {g : Nat} {t e : TypeId} {sz : Nat} {A : Option Addr} {n c : Nat} {xs : List Value}
theorem RwSt.start (wr : World) (t e : TypeId) (sz : Nat) {w0 : World} (hb : Below w0.heap.size w0 wr) : RwSt w0 (wr.alloc (.cells #[.slice none 0 0] t)) wr.heap.size t e sz none 0 0 [] :=
  ⟨Blk.new _ _ _, World.ownsRow_nil _ _ _ _, hb.size, hb.trans ((below_alloc1 _ _).mono hb.size)⟩
theorem RwSt.below (h : RwSt w0 wr g t e sz A n c xs) (hb : Below wr.heap.size wr w') : RwSt w0 w' g t e sz A n c xs :=
  ⟨h.sb.below hb h.sb.lt, h.own.kept (only_of_below hb none) (by cases hv : (Value.slice A n c).ownBlock <;> simp), h.hg, h.bel.trans (hb.mono h.bel.size)⟩
/-- Blocks that a later append may change. -/
abbrev RwX (g : Nat) (A : Option Addr) (n c : Nat) : Nat → Prop := Or1 (fun b => b = g) (.slice A n c)
theorem RwSt.app (h : RwSt w0 wr g t e sz A n c xs) (hte : e ≠ t) {w4 : World} {A4 : Option Addr} {m c4 : Nat} {xs4 : List Value} (hg : wr.grownBy w4 (Value.slice A n c).ownBlock) (hown : w4.ownsRow g e sz (.slice A4 m c4) m xs4) :
    RwSt w0 (w4.setCell ⟨g, 0, none⟩ (.slice A4 m c4)) g t e sz A4 m c4 xs4 := by
  have sb4 := h.sb.grown hg (own_blk_ne h.own h.sb hte)
  refine ⟨by simpa using sb4.set_ 0 (.slice A4 m c4), own_setCell hown (own_blk_ne hown sb4 hte) _, h.hg, ?_⟩
  exact (h.bel.grown hg h.bel.size (fun b hb => by have := (h.own.lt b hb).1; have := h.hg; omega)).setCell h.hg _
theorem RwSt.keep (h : RwSt w0 wr g t e sz A n c xs) {w4 : World} {A4 : Option Addr} {m c4 : Nat} {u : Value} (hg : wr.grownBy w4 (Value.slice A n c).ownBlock)
    (hob : (Value.slice A4 m c4).ownBlock = (Value.slice A n c).ownBlock ∨ (Value.slice A4 m c4).ownBlock = some wr.heap.size) : Keeps wr (RwX g A n c) (w4.setCell ⟨g, 0, none⟩ u) (RwX g A4 m c4) :=
  (Keeps.or1 hg rfl hob).trans (Keeps.setCell w4 _ ⟨g, 0, none⟩ u (.inl rfl))
theorem RwSt.facts (h : RwSt w0 wr g t e sz A n c xs) : wr.cell? ⟨g, 0, none⟩ = some (.slice A n c) ∧ g < wr.heap.size ∧ wr.frozen? ⟨g, 0, none⟩ = false := ⟨(h.sb.cell 0).trans rfl, h.sb.lt, h.sb.frozen 0⟩
end
end Go.Proofs.YtjljknocnebnaaaGreatDoor
namespace Go.Proofs.YtjljknocnebnaaaGreatDoor
open Go.RowKit Go.V
set_option linter.unusedVariables false

set_option maxRecDepth 100000 in
set_option maxHeartbeats 16000000 in
theorem storeFault_any (w : World) (A : Option Addr) (k : Nat) (s : List Ob.S) (hv : StV w Free A s) (hl64 : s.length ≤ 9223372036854775807) :
    Calls Tryz.prog 16 #[stV A s.length k] w (FaultPost w (Ob.stF s)) := by
  by_cases hl : 40 < s.length
  · have H := Lib.hid (show Ob.stF s = (2, 0) from by unfold Ob.stF; rw [if_pos hl])
    have hl' : (40 : Int) < s.length := by omega
    clear hv
    go_enter Tryz.func16, Tryz.ntmps16
    go_wp2_with (go_at_call 18; refine (fault_any _ _ _).mono ?_; rintro e w' ⟨rfl, rfl⟩)
    refine bodyPost_ret (results_c rfl _ _ (w.heap.size + 1) (.int .i64 2) (.int .i64 0) rfl ((blk_new1 _ _ _ _).alloc _)) rfl (FaultPost.mk_ H.out ?_)
    exact below_alloc3 _ _ _ _
  · have hl' : (s.length : Int) ≤ 40 := by omega
    have H := Lib.hid (show Ob.stF s = Ob.stFrom s 0 from by unfold Ob.stF; rw [if_neg hl])
    have HROW := Lib.hid (fun (w' : World) (hb : Below w.heap.size w w') i hi => (hv.keep (free_below hb)).row (w := w') i hi)
    clear hv hl
    go_enter Tryz.func16, Tryz.ntmps16
    go_wp2_with fail
    go_loopw [3] (fun v wr => ∃ i : Nat, i ≤ s.length ∧ v = .int .i64 i ∧ VaSt w wr A s.length k ∧ Hid (Ob.stFrom s 0 = Ob.stFrom s i)) (fun v _ => s.length - (intOf v).toNat)
    case atStart => exact ⟨0, Nat.zero_le _, rfl, ⟨(Blk.new _ _ _).alloc _, blk_new1 _ _ _ _, below_alloc2 _ _ _⟩, Lib.hid rfl⟩
    case round =>
      obtain ⟨i, hi, rfl, st, HJ⟩ := hrel
      obtain ⟨wo, rfl⟩ : ∃ wo : World, wo = wr := ⟨_, rfl⟩
      have hsz := st.bel.size
      have hlt0 := st.res.lt
      have hlb0 := st.box.lt
      have hbx := st.box.cell 0
      simp only [List.getElem?_toArray, List.getElem?_cons_zero] at hbx
      by_cases hlt : i < s.length
      · have hlt' : (i : Int) < s.length := by omega
        obtain ⟨b, off, Al, kl, Ad, kd, e, hb, _, d0, d1, d2, d3, hx, hob⟩ := HROW.out _ st.bel i hlt
        subst e
        have HC1 := Lib.hid (Ob.stFrom_next s i hlt)
        have HC2 := Lib.hid (Ob.stFrom_bad s i hlt)
        have HCO := Lib.hid (Ob.code.eq_1 s i)
        have HBAD := Lib.hid (fun (h : Ob.code s i ≠ 0) => show Ob.stF s = (Ob.code s i, (i : Int)) from by rw [H.out, HJ.out, HC2.out h])
        have HF30 := Lib.hid (obFault_any wo (Ob.it s i).ob Al kl Ad kd hob)
        unfold I64 at hx
        by_cases hf : (Ob.obF (Ob.it s i).ob).1 ≠ 0
        · have hcc : Ob.code s i = (Ob.obF (Ob.it s i).ob).1 := by rw [HCO.out, if_pos hf]
          have HB := Lib.hid (show Ob.stF s = ((Ob.obF (Ob.it s i).ob).1, (i : Int)) from by rw [HBAD.out (by rw [hcc]; exact hf), hcc])
          have hf1 : ((Ob.obF (Ob.it s i).ob).1 == 0) = false := by simpa using hf
          have hf2 : ((Ob.obF (Ob.it s i).ob).1 != 0) = true := by simpa using hf
          clear HC1 HC2 HCO HBAD hcc hob hf
          generalize Ob.it s i = x at *
          generalize Ob.obF x.ob = r at *
          obtain ⟨cd, ix⟩ := r
          obtain ⟨xd, kk, ls, da⟩ := x
          simp only at *
          go_wp2_with fail
          go_at_call 31
          refine HF30.out.mono ?_
          rintro e w2 ⟨rfl, hb2⟩
          have st2 := st.below hb2
          have hlt2 := st2.res.lt
          have hlt2b : w.heap.size < w2.heap.size := Nat.lt_of_succ_lt hlt2
          have hf0 := st2.res.frozen 0
          have hf1' := st2.res.frozen 1
          have hc0 := st2.res.cell 0
          have hc1 := st2.res.cell 1
          simp only [List.getElem?_toArray, List.getElem?_cons_zero, List.getElem?_cons_succ] at hc0 hc1
          have hsz2 := st2.bel.size
          clear hb2 st HF30
          go_wp2_with (go_at_call 18; refine (fault_any _ _ _).mono ?_; rintro e w' ⟨rfl, rfl⟩)
          refine bodyPost_ret (results_c rfl _ _ (w.heap.size + 1) (.int .i64 cd) (.int .i64 i) rfl (((blk_put2 st2.res _ _).alloc _).alloc _)) rfl (FaultPost.mk_ HB.out ?_)
          exact ((((st2.bel.setCell (by simp) _).setCell (by simp) _).alloc (by simp; omega) _).alloc (by simp; omega) _)
        · have hok : Ob.Ok (Ob.it s i).ob := (Ob.obF_ok (by simpa using hf)).2
          have hofz := hok.f
          have HD := Lib.hid (fun (w' : World) (hb : Below wo.heap.size wo w') => objDigest_any w' (Ob.it s i).ob Al kl Ad kd (hob.keep (free_below hb)) hok)
          have hcp := Lib.hid (HCO.out.trans (if_neg hf))
          rw [hofz] at HF30
          clear HCO hob hok hf hofz
          by_cases hd : ((Ob.dig (Ob.it s i).ob : Nat) : Int) ≠ (Ob.it s i).dig
          · have hcc : Ob.code s i = 18 := by rw [hcp.out, if_pos hd]
            have HB := Lib.hid (show Ob.stF s = (18, (i : Int)) from by rw [HBAD.out (by rw [hcc]; decide), hcc])
            have hd1 : (((Ob.dig (Ob.it s i).ob : Nat) : Int) == (Ob.it s i).dig) = false := by simpa using hd
            have hd2 : (((Ob.dig (Ob.it s i).ob : Nat) : Int) != (Ob.it s i).dig) = true := bne_iff_ne.2 hd
            clear HC1 HC2 HBAD hcp hcc hd
            generalize Ob.it s i = x at *
            generalize Ob.dig x.ob = dg at *
            obtain ⟨xd, kk, ls, da⟩ := x
            simp only at *
            go_wp2_with fail
            go_at_call 31
            refine HF30.out.mono ?_
            rintro e w2 ⟨rfl, hb2'⟩
            have hb2 : Below wo.heap.size wo (w2.alloc (.cells #[.int .i64 0, .int .i64 0] 28)) := hb2'.alloc hb2'.size _
            have HK : Hid (∀ w6 : World, Below wo.heap.size wo w6 → w6.cell? ⟨w.heap.size, 0, none⟩ = some (.slice (some ⟨b, off, none⟩) s.length k) ∧ w6.cell? ⟨b, off + i * 4, none⟩ = some (.int .i64 xd) ∧ w6.cell? ⟨b, off + i * 4 + 1, none⟩ = some (.int .i64 kk) ∧ w6.cell? ⟨b, off + i * 4 + 2, none⟩ = some (.slice Al ls.length kl) ∧ w6.cell? ⟨b, off + i * 4 + 3, none⟩ = some (.slice Ad da.length kd)) := Lib.hid fun w6 h6 =>
              ⟨(h6.cell (p := ⟨w.heap.size, 0, none⟩) hlb0).trans hbx, (h6.cell (p := ⟨b, _, none⟩) hb).trans d0, (h6.cell (p := ⟨b, _, none⟩) hb).trans d1, (h6.cell (p := ⟨b, _, none⟩) hb).trans d2, (h6.cell (p := ⟨b, _, none⟩) hb).trans d3⟩
            have hk0 : Below wo.heap.size wo (w2.alloc (.cells #[.int .i64 0, .int .i64 0] 28)).drew := below_drew' hb2
            go_wp2_with fail
            go_region_held3 (fun w6 => w6.cell? ⟨w.heap.size, 0, none⟩ = some (.slice (some ⟨b, off, none⟩) s.length k) ∧ w6.cell? ⟨b, off + i * 4, none⟩ = some (.int .i64 xd) ∧ w6.cell? ⟨b, off + i * 4 + 1, none⟩ = some (.int .i64 kk) ∧ w6.cell? ⟨b, off + i * 4 + 2, none⟩ = some (.slice Al ls.length kl) ∧ w6.cell? ⟨b, off + i * 4 + 3, none⟩ = some (.slice Ad da.length kd))
              (first | exact HK.out _ hk0 | exact HK.out _ hk7)
              (first | (go_at_call 32; (with_reducible refine (HD.out _ hk0).mono ?_); rintro e w3 ⟨rfl, hb3⟩; have hk7 : Below wo.heap.size wo w3 := hk0.trans (hb3.mono hk0.size)))
            have st3 := st.below hk7
            have hlt2 := st3.res.lt
            have hf0 := st3.res.frozen 0
            have hf1' := st3.res.frozen 1
            have hc0 := st3.res.cell 0
            have hc1 := st3.res.cell 1
            have hbx3 := st3.box.cell 0
            simp only [List.getElem?_toArray, List.getElem?_cons_zero, List.getElem?_cons_succ] at hc0 hc1 hbx3
            have hsz2 := st3.bel.size
            have hlbx := st3.box.lt
            have hd0 := (HK.out _ hk7).2.1
            clear hb2 hb2' st HD HK hk0
            go_wp2_with (go_at_call 18; refine (fault_any _ _ _).mono ?_; rintro e w' ⟨rfl, rfl⟩)
            refine bodyPost_ret (results_c rfl _ _ (w.heap.size + 1) (.int .i64 18) (.int .i64 i) rfl ((blk_put2 st3.res _ _).alloc _)) rfl (FaultPost.mk_ HB.out ?_)
            exact (((st3.bel.setCell (by simp) _).setCell (by simp) _).alloc (by simp; omega) _)
          · have hcq := Lib.hid (hcp.out.trans (if_neg hd))
            have hde : ((Ob.dig (Ob.it s i).ob : Nat) : Int) = (Ob.it s i).dig := by omega
            by_cases hi0 : i = 0
            · have hcc : Ob.code s i = 0 := by rw [hcq.out, if_neg (by omega)]
              have HJ2 := Lib.hid (HJ.out.trans (HC1.out hcc))
              have hz1 : decide ((0 : Int) < (i : Int)) = false := by simp; omega
              have hz2 : decide (0 < i) = false := by simp; omega
              clear HC1 HC2 HBAD hcp hcq hcc hd hi0
              generalize Ob.it s i = x at *
              generalize Ob.dig x.ob = dg at *
              obtain ⟨xd, kk, ls, da⟩ := x
              simp only at *
              subst hde
              have hd1 : ((dg : Int) == (dg : Int)) = true := by simp
              have hd2 : ((dg : Int) != (dg : Int)) = false := by simp
              go_wp2_with fail
              go_at_call 31
              refine HF30.out.mono ?_
              rintro e w2 ⟨rfl, hb2'⟩
              have hb2 : Below wo.heap.size wo (w2.alloc (.cells #[.int .i64 0, .int .i64 0] 28)) := hb2'.alloc hb2'.size _
              have HK : Hid (∀ w6 : World, Below wo.heap.size wo w6 → w6.cell? ⟨w.heap.size, 0, none⟩ = some (.slice (some ⟨b, off, none⟩) s.length k) ∧ w6.cell? ⟨b, off + i * 4, none⟩ = some (.int .i64 (dg : Int)) ∧ w6.cell? ⟨b, off + i * 4 + 1, none⟩ = some (.int .i64 kk) ∧ w6.cell? ⟨b, off + i * 4 + 2, none⟩ = some (.slice Al ls.length kl) ∧ w6.cell? ⟨b, off + i * 4 + 3, none⟩ = some (.slice Ad da.length kd)) := Lib.hid fun w6 h6 =>
                ⟨(h6.cell (p := ⟨w.heap.size, 0, none⟩) hlb0).trans hbx, (h6.cell (p := ⟨b, _, none⟩) hb).trans d0, (h6.cell (p := ⟨b, _, none⟩) hb).trans d1, (h6.cell (p := ⟨b, _, none⟩) hb).trans d2, (h6.cell (p := ⟨b, _, none⟩) hb).trans d3⟩
              have hk0 : Below wo.heap.size wo (w2.alloc (.cells #[.int .i64 0, .int .i64 0] 28)).drew := below_drew' hb2
              go_wp2_with fail
              go_region_held3 (fun w6 => w6.cell? ⟨w.heap.size, 0, none⟩ = some (.slice (some ⟨b, off, none⟩) s.length k) ∧ w6.cell? ⟨b, off + i * 4, none⟩ = some (.int .i64 (dg : Int)) ∧ w6.cell? ⟨b, off + i * 4 + 1, none⟩ = some (.int .i64 kk) ∧ w6.cell? ⟨b, off + i * 4 + 2, none⟩ = some (.slice Al ls.length kl) ∧ w6.cell? ⟨b, off + i * 4 + 3, none⟩ = some (.slice Ad da.length kd))
                (first | exact HK.out _ hk0 | exact HK.out _ hk7)
                (first | (go_at_call 32; (with_reducible refine (HD.out _ hk0).mono ?_); rintro e w3 ⟨rfl, hb3⟩; have hk7 : Below wo.heap.size wo w3 := hk0.trans (hb3.mono hk0.size)))
              have st3 := st.below hk7
              have hlt2 := st3.res.lt
              have hf0 := st3.res.frozen 0
              have hf1' := st3.res.frozen 1
              have hc0 := st3.res.cell 0
              have hc1 := st3.res.cell 1
              have hbx3 := st3.box.cell 0
              simp only [List.getElem?_toArray, List.getElem?_cons_zero, List.getElem?_cons_succ] at hc0 hc1 hbx3
              have hsz2 := st3.bel.size
              have hlbx := st3.box.lt
              have hd0 := (HK.out _ hk7).2.1
              clear hb2 hb2' st HD HK hk0
              go_wp2_with fail
              go_quiet (fail)
              go_wp2_with fail
              go_roundw
              case rel => exact ⟨i + 1, by omega, by go_num, st3.drewN _, HJ2⟩
              case measure => simp [intOf]; omega
            · have hz1 : decide ((0 : Int) < (i : Int)) = true := by simp; omega
              have hz2 : decide (0 < i) = true := by simp; omega
              have hz3 : (0 : Int) ≤ (i : Int) - 1 := by omega
              have hz4 : (i : Int) - 1 < s.length := by omega
              have hz5 : IntKind.i64.wrap ((i : Int) - 1) = (i : Int) - 1 := IntWalk.i64_in _ (by omega)
              have hz6 : ((i : Int) - 1).toNat = i - 1 := by omega
              obtain ⟨b', off', Al', kl', Ad', kd', e', hb', _, d0', _, _, _, hx', _⟩ := HROW.out _ st.bel (i - 1) (by omega)
              cases e'
              by_cases hle : (Ob.it s i).dig ≤ (Ob.it s (i - 1)).dig
              · have hcc : Ob.code s i = 5 := by rw [hcq.out, if_pos ⟨by omega, hle⟩]
                have HB := Lib.hid (show Ob.stF s = (5, (i : Int)) from by rw [HBAD.out (by rw [hcc]; decide), hcc])
                have hle' : decide ((Ob.it s i).dig ≤ (Ob.it s (i - 1)).dig) = true := by simpa using hle
                clear HC1 HC2 HBAD hcp hcq hcc hd hi0 hle
                generalize (Ob.it s (i - 1)).dig = pd at *
                generalize Ob.it s i = x at *
                generalize Ob.dig x.ob = dg at *
                obtain ⟨xd, kk, ls, da⟩ := x
                simp only at *
                subst hde
                have hd1 : ((dg : Int) == (dg : Int)) = true := by simp
                have hd2 : ((dg : Int) != (dg : Int)) = false := by simp
                go_wp2_with fail
                go_at_call 31
                refine HF30.out.mono ?_
                rintro e w2 ⟨rfl, hb2'⟩
                have hb2 : Below wo.heap.size wo (w2.alloc (.cells #[.int .i64 0, .int .i64 0] 28)) := hb2'.alloc hb2'.size _
                have HK : Hid (∀ w6 : World, Below wo.heap.size wo w6 → w6.cell? ⟨w.heap.size, 0, none⟩ = some (.slice (some ⟨b, off, none⟩) s.length k) ∧ w6.cell? ⟨b, off + i * 4, none⟩ = some (.int .i64 (dg : Int)) ∧ w6.cell? ⟨b, off + i * 4 + 1, none⟩ = some (.int .i64 kk) ∧ w6.cell? ⟨b, off + i * 4 + 2, none⟩ = some (.slice Al ls.length kl) ∧ w6.cell? ⟨b, off + i * 4 + 3, none⟩ = some (.slice Ad da.length kd)) := Lib.hid fun w6 h6 =>
                  ⟨(h6.cell (p := ⟨w.heap.size, 0, none⟩) hlb0).trans hbx, (h6.cell (p := ⟨b, _, none⟩) hb).trans d0, (h6.cell (p := ⟨b, _, none⟩) hb).trans d1, (h6.cell (p := ⟨b, _, none⟩) hb).trans d2, (h6.cell (p := ⟨b, _, none⟩) hb).trans d3⟩
                have hk0 : Below wo.heap.size wo (w2.alloc (.cells #[.int .i64 0, .int .i64 0] 28)).drew := below_drew' hb2
                go_wp2_with fail
                go_region_held3 (fun w6 => w6.cell? ⟨w.heap.size, 0, none⟩ = some (.slice (some ⟨b, off, none⟩) s.length k) ∧ w6.cell? ⟨b, off + i * 4, none⟩ = some (.int .i64 (dg : Int)) ∧ w6.cell? ⟨b, off + i * 4 + 1, none⟩ = some (.int .i64 kk) ∧ w6.cell? ⟨b, off + i * 4 + 2, none⟩ = some (.slice Al ls.length kl) ∧ w6.cell? ⟨b, off + i * 4 + 3, none⟩ = some (.slice Ad da.length kd))
                  (first | exact HK.out _ hk0 | exact HK.out _ hk7)
                  (first | (go_at_call 32; (with_reducible refine (HD.out _ hk0).mono ?_); rintro e w3 ⟨rfl, hb3⟩; have hk7 : Below wo.heap.size wo w3 := hk0.trans (hb3.mono hk0.size)))
                have hpd := (hk7.cell (p := ⟨b, off + (i - 1) * 4, none⟩) hb).trans d0'
                have hbb : b < w3.heap.size := Nat.lt_of_lt_of_le hb hk7.size
                have st3 := st.below hk7
                have hlt2 := st3.res.lt
                have hf0 := st3.res.frozen 0
                have hf1' := st3.res.frozen 1
                have hc0 := st3.res.cell 0
                have hc1 := st3.res.cell 1
                have hbx3 := st3.box.cell 0
                simp only [List.getElem?_toArray, List.getElem?_cons_zero, List.getElem?_cons_succ] at hc0 hc1 hbx3
                have hsz2 := st3.bel.size
                have hlbx := st3.box.lt
                have hd0 := (HK.out _ hk7).2.1
                clear hb2 hb2' st HD HK hk0
                go_wp2_with fail
                go_quiet (fail)
                refine gen_world (C := fun w9 => Exit.then _ _ _ _ w9) (fun w9 => VaSt w w9 _ s.length k) (st3.drewN _) ?_
                intro w9 st9
                have nlt2 := st9.res.lt
                have nf0 := st9.res.frozen 0
                have nf1' := st9.res.frozen 1
                have nc0 := st9.res.cell 0
                have nc1 := st9.res.cell 1
                have nsz2 := st9.bel.size
                simp only [List.getElem?_toArray, List.getElem?_cons_zero, List.getElem?_cons_succ] at nc0 nc1
                go_wp2_with (go_at_call 18; refine (fault_any _ _ _).mono ?_; rintro e w' ⟨rfl, rfl⟩)
                refine bodyPost_ret (results_c rfl _ _ (w.heap.size + 1) (.int .i64 5) (.int .i64 i) rfl ((blk_put2 st9.res _ _).alloc _)) rfl (FaultPost.mk_ HB.out ?_)
                exact (((st9.bel.setCell (by simp) _).setCell (by simp) _).alloc (by simp; omega) _)
              · have hcc : Ob.code s i = 0 := by rw [hcq.out, if_neg (by rintro ⟨_, h⟩; exact hle h)]
                have HJ2 := Lib.hid (HJ.out.trans (HC1.out hcc))
                have hle' : decide ((Ob.it s i).dig ≤ (Ob.it s (i - 1)).dig) = false := by simpa using hle
                clear HC1 HC2 HBAD hcp hcq hcc hd hi0 hle
                generalize (Ob.it s (i - 1)).dig = pd at *
                generalize Ob.it s i = x at *
                generalize Ob.dig x.ob = dg at *
                obtain ⟨xd, kk, ls, da⟩ := x
                simp only at *
                subst hde
                have hd1 : ((dg : Int) == (dg : Int)) = true := by simp
                have hd2 : ((dg : Int) != (dg : Int)) = false := by simp
                go_wp2_with fail
                go_at_call 31
                refine HF30.out.mono ?_
                rintro e w2 ⟨rfl, hb2'⟩
                have hb2 : Below wo.heap.size wo (w2.alloc (.cells #[.int .i64 0, .int .i64 0] 28)) := hb2'.alloc hb2'.size _
                have HK : Hid (∀ w6 : World, Below wo.heap.size wo w6 → w6.cell? ⟨w.heap.size, 0, none⟩ = some (.slice (some ⟨b, off, none⟩) s.length k) ∧ w6.cell? ⟨b, off + i * 4, none⟩ = some (.int .i64 (dg : Int)) ∧ w6.cell? ⟨b, off + i * 4 + 1, none⟩ = some (.int .i64 kk) ∧ w6.cell? ⟨b, off + i * 4 + 2, none⟩ = some (.slice Al ls.length kl) ∧ w6.cell? ⟨b, off + i * 4 + 3, none⟩ = some (.slice Ad da.length kd)) := Lib.hid fun w6 h6 =>
                  ⟨(h6.cell (p := ⟨w.heap.size, 0, none⟩) hlb0).trans hbx, (h6.cell (p := ⟨b, _, none⟩) hb).trans d0, (h6.cell (p := ⟨b, _, none⟩) hb).trans d1, (h6.cell (p := ⟨b, _, none⟩) hb).trans d2, (h6.cell (p := ⟨b, _, none⟩) hb).trans d3⟩
                have hk0 : Below wo.heap.size wo (w2.alloc (.cells #[.int .i64 0, .int .i64 0] 28)).drew := below_drew' hb2
                go_wp2_with fail
                go_region_held3 (fun w6 => w6.cell? ⟨w.heap.size, 0, none⟩ = some (.slice (some ⟨b, off, none⟩) s.length k) ∧ w6.cell? ⟨b, off + i * 4, none⟩ = some (.int .i64 (dg : Int)) ∧ w6.cell? ⟨b, off + i * 4 + 1, none⟩ = some (.int .i64 kk) ∧ w6.cell? ⟨b, off + i * 4 + 2, none⟩ = some (.slice Al ls.length kl) ∧ w6.cell? ⟨b, off + i * 4 + 3, none⟩ = some (.slice Ad da.length kd))
                  (first | exact HK.out _ hk0 | exact HK.out _ hk7)
                  (first | (go_at_call 32; (with_reducible refine (HD.out _ hk0).mono ?_); rintro e w3 ⟨rfl, hb3⟩; have hk7 : Below wo.heap.size wo w3 := hk0.trans (hb3.mono hk0.size)))
                have hpd := (hk7.cell (p := ⟨b, off + (i - 1) * 4, none⟩) hb).trans d0'
                have hbb : b < w3.heap.size := Nat.lt_of_lt_of_le hb hk7.size
                have st3 := st.below hk7
                have hlt2 := st3.res.lt
                have hf0 := st3.res.frozen 0
                have hf1' := st3.res.frozen 1
                have hc0 := st3.res.cell 0
                have hc1 := st3.res.cell 1
                have hbx3 := st3.box.cell 0
                simp only [List.getElem?_toArray, List.getElem?_cons_zero, List.getElem?_cons_succ] at hc0 hc1 hbx3
                have hsz2 := st3.bel.size
                have hlbx := st3.box.lt
                have hd0 := (HK.out _ hk7).2.1
                clear hb2 hb2' st HD HK hk0
                go_wp2_with fail
                go_quiet (fail)
                go_wp2_with fail
                go_roundw
                case rel => exact ⟨i + 1, by omega, by go_num, st3.drewN _, HJ2⟩
                case measure => simp [intOf]; omega
      · obtain rfl : i = s.length := by omega
        have hf0 := st.res.frozen 0
        have hf1' := st.res.frozen 1
        have hc0 := st.res.cell 0
        have hc1 := st.res.cell 1
        simp only [List.getElem?_toArray, List.getElem?_cons_zero, List.getElem?_cons_succ] at hc0 hc1
        go_wp2_with fail
        refine bodyPost_ret (results_c rfl _ _ (w.heap.size + 1) (.int .i64 0) (.int .i64 0) rfl (blk_put2 st.res _ _)) rfl (FaultPost.mk_ ?_ ?_)
        · rw [H.out, HJ.out, Ob.stFrom_end s _ (Nat.le_refl _)]
        · exact (st.bel.setCell (by simp) _).setCell (by simp) _
end Go.Proofs.YtjljknocnebnaaaGreatDoor
