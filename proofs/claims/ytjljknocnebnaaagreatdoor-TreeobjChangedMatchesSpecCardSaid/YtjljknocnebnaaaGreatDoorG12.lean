/-
  File trees: walk of 'Read'.
-/
import Derived.Test.YtjljknocnebnaaaGreatDoorG09
import Derived.Test.YtjljknocnebnaaaGreatDoorG08
namespace Go.Proofs.YtjljknocnebnaaaGreatDoor
open Go.RowKit Go.V Go.Shelf
set_option linter.unusedVariables false

theorem results_27_30 {fn : Func} {a b : Tmp} (h : fn.results = #[.cell a 41, .cell b 28]) (tmps : Array Value) (w : World) (g g' : Nat) (x c i : Value) (ha : tmps.getD a undef = .pointer (some ⟨g, 0, none⟩)) (hb' : tmps.getD b undef = .pointer (some ⟨g', 0, none⟩))
    (hb : Blk w g 41 #[x]) (hc : Blk w g' 28 #[c, i]) : (results fn tmps).run Tryz.prog w = .ok (.tuple #[.agg #[x], .agg #[c, i]]) w := by
  have h0 := hb.cell 0
  have k0 := hc.cell 0
  have k1 := hc.cell 1
  simp only [List.getElem?_toArray, List.getElem?_cons_zero, List.getElem?_cons_succ] at h0 k0 k1
  have ha' : tmps[a]?.getD undef = .pointer (some ⟨g, 0, none⟩) := by simpa using ha
  have hb'' : tmps[b]?.getD undef = .pointer (some ⟨g', 0, none⟩) := by simpa using hb'
  simp [results, h, go_sem, ha', hb'', h0, k0, k1]
/-- The boxes and results of 'Read' and 'ReadTree'. -/
structure RdB (w wr : World) (A : Option Addr) (n k : Nat) : Prop where
  bx : Blk wr w.heap.size 24 #[.slice A n k]
  r1 : Blk wr (w.heap.size + 1) 41 #[.slice none 0 0]
  r2 : Blk wr (w.heap.size + 2) 28 #[.int .i64 0, .int .i64 0]
  bel : Below w.heap.size w wr
theorem RdB.below {w wr w' : World} {A : Option Addr} {n k : Nat} (h : RdB w wr A n k) (hb : Below wr.heap.size wr w') : RdB w w' A n k :=
  ⟨h.bx.below hb h.bx.lt, h.r1.below hb h.r1.lt, h.r2.below hb h.r2.lt, h.bel.trans (hb.mono h.bel.size)⟩
theorem RdB.facts {w wr : World} {A : Option Addr} {n k : Nat} (h : RdB w wr A n k) :
    wr.cell? ⟨w.heap.size, 0, none⟩ = some (.slice A n k) ∧ wr.cell? ⟨w.heap.size + 1, 0, none⟩ = some (.slice none 0 0) ∧ wr.frozen? ⟨w.heap.size + 1, 0, none⟩ = false ∧
    wr.cell? ⟨w.heap.size + 2, 0, none⟩ = some (.int .i64 0) ∧ wr.cell? ⟨w.heap.size + 2, 1, none⟩ = some (.int .i64 0) ∧ wr.frozen? ⟨w.heap.size + 2, 0, none⟩ = false ∧ wr.frozen? ⟨w.heap.size + 2, 1, none⟩ = false ∧
    w.heap.size < wr.heap.size ∧ w.heap.size + 1 < wr.heap.size ∧ w.heap.size + 2 < wr.heap.size :=
  ⟨(h.bx.cell 0).trans rfl, (h.r1.cell 0).trans rfl, h.r1.frozen 0, (h.r2.cell 0).trans rfl, (h.r2.cell 1).trans rfl, h.r2.frozen 0, h.r2.frozen 1, h.bx.lt, h.r1.lt, h.r2.lt⟩
/-- What 'Read' tells. -/
def RdPost (w : World) (q : List Tr.F × (Int × Int)) (e : Ending) (w' : World) : Prop :=
  ∃ A c, e = .returned (.tuple #[.agg #[.slice A q.1.length c], .agg #[.int .i64 q.2.1, .int .i64 q.2.2]]) ∧ q.1.length ≤ c ∧ VfV w' (Under w.heap.size) A q.1 ∧ Below w.heap.size w w'
theorem RdPost.no {w w' : World} {q : List Tr.F × (Int × Int)} {c i : Int} (h : q = ([], (c, i))) (hb : Below w.heap.size w w') : RdPost w q (.returned (.tuple #[.agg #[.slice none 0 0], .agg #[.int .i64 c, .int .i64 i]])) w' := by
  subst h; exact ⟨none, 0, rfl, Nat.le_refl _, VfV.nil, hb⟩
/-- What an append to the row, and its store, keep. -/
theorem RwSt.keepX {w0 wr : World} {g : Nat} {t e : TypeId} {sz : Nat} {A : Option Addr} {n c : Nat} {xs : List Value} (h : RwSt w0 wr g t e sz A n c xs) {w4 : World} {A4 : Option Addr} {m c4 : Nat} {u : Value} (hg : wr.grownBy w4 (Value.slice A n c).ownBlock)
    (hob : (Value.slice A4 m c4).ownBlock = (Value.slice A n c).ownBlock ∨ (Value.slice A4 m c4).ownBlock = some wr.heap.size) : Keeps wr (Or1 (fun b => b ≤ g) (.slice A n c)) (w4.setCell ⟨g, 0, none⟩ u) (Or1 (fun b => b ≤ g) (.slice A4 m c4)) :=
  (Keeps.or1 hg rfl hob).trans (Keeps.setCell w4 _ ⟨g, 0, none⟩ u (.inl (Nat.le_refl _)))
theorem rows_keep {w w' : World} {X X' : Nat → Prop} {fs : List Tr.F} {xs : List Value} (h : RowsR (FlR w X) fs xs) (k : Keeps w X w' X') : RowsR (FlR w' X') fs xs := h.mono (FlR.keep k)
/-- The end: the row is the answer. -/
theorem RdPost.yes {w wr wl : World} {g : Nat} {B : Option Addr} {c : Nat} {fs : List Tr.F} {xs : List Value} {q : List Tr.F × (Int × Int)} (h : q = (fs, (0, 0))) (hg : w.heap.size + 3 ≤ g) (hbel : Below w.heap.size w wr) (rs : RwSt wl wr g 41 38 2 B fs.length c xs) (hr : RowsR (FlR wr (Or1 (fun b => b ≤ g) (.slice B fs.length c))) fs xs) :
    RdPost w q (.returned (.tuple #[.agg #[.slice B fs.length c], .agg #[.int .i64 0, .int .i64 0]])) (((wr.setCell ⟨w.heap.size + 1, 0, none⟩ (.slice B fs.length c)).setCell ⟨w.heap.size + 2, 0, none⟩ (.int .i64 0)).setCell ⟨w.heap.size + 2, 1, none⟩ (.int .i64 0)) := by
  subst h
  obtain ⟨_, _, e, h8, _⟩ := own_form rs.own
  injection e with _ _ e
  subst e
  have hne : ∀ j, j < 3 → some (w.heap.size + j) ≠ (Value.slice B fs.length c).ownBlock := fun j hj e => by have := (rs.own.lt _ e.symm).1; omega
  have hk : Keeps wr (Or1 (fun b => b ≤ g) (.slice B fs.length c)) (((wr.setCell ⟨w.heap.size + 1, 0, none⟩ (.slice B fs.length c)).setCell ⟨w.heap.size + 2, 0, none⟩ (.int .i64 0)).setCell ⟨w.heap.size + 2, 1, none⟩ (.int .i64 0)) (Under w.heap.size) :=
    (((Keeps.setCell wr _ ⟨w.heap.size + 1, 0, none⟩ _ (.inl (by show w.heap.size + 1 ≤ g; omega))).trans (Keeps.setCell _ _ ⟨w.heap.size + 2, 0, none⟩ _ (.inl (by show w.heap.size + 2 ≤ g; omega)))).trans (Keeps.setCell _ _ ⟨w.heap.size + 2, 1, none⟩ _ (.inl (by show w.heap.size + 2 ≤ g; omega)))).into
      (fun b hb => .inl (by unfold Under at hb; show b ≤ g; omega))
  refine ⟨B, c, rfl, h8, ⟨xs, SA.of_own' (own_setCell (own_setCell (own_setCell rs.own (hne 1 (by omega)) _) (hne 2 (by omega)) _) (hne 2 (by omega)) _) (fun b hb hU => ?_), rows_keep hr hk⟩, ?_⟩
  · have := (rs.own.lt b hb).1; unfold Under at hU; omega
  · exact ((hbel.setCell (p := ⟨w.heap.size + 1, 0, none⟩) (by simp) _).setCell (p := ⟨w.heap.size + 2, 0, none⟩) (by simp) _).setCell (p := ⟨w.heap.size + 2, 1, none⟩) (by simp) _
set_option maxRecDepth 100000 in
set_option maxHeartbeats 16000000 in
theorem read_any (w : World) (hm : Mx w) (hm2 : M2 w) (A : Option Addr) (k : Nat) (s : List Ob.S) (d : Int) (hv : StV w Free A s) (hl64 : s.length ≤ 9223372036854775807) :
    Calls Tryz.prog 10 #[stV A s.length k, .int .i64 d] w (RdPost w (Tr.rdF s d)) := by
  have HV := Lib.hid (fun (w1 : World) (hb : Below w.heap.size w w1) => hv.keep (free_below hb))
  have HM := Lib.hid (fun (w1 : World) (hb : Below w.heap.size w w1) => And.intro (hm.below hb) (hm2.below hb))
  have st0 : RdB w (((w.alloc (.cells #[.slice A s.length k] 24)).alloc (.cells #[.slice none 0 0] 41)).alloc (.cells #[.int .i64 0, .int .i64 0] 28)) A s.length k :=
    ⟨((Blk.new _ _ _).alloc _).alloc _, (blk_new1 _ _ _ _).alloc _, blk_new2 _ _ _ _ _, below_alloc3 _ _ _ _⟩
  have HP := Lib.hid (paths_any _ (HM.out _ st0.bel).1 (HM.out _ st0.bel).2 A k s d (-1) (HV.out _ st0.bel) hl64)
  have HNO := Lib.hid (Tr.rdF_no (s := s) (d := d))
  have HGO := Lib.hid (Tr.rdF_go (s := s) (d := d))
  have HG := Lib.hid (fun (h : (Tr.ptF s d (-1)).2.1 = 0) => Tr.ptF_good h)
  clear hv hm hm2
  generalize hq : Tr.rdF s d = q at *
  clear hq
  generalize Tr.ptF s d (-1) = q1 at *
  obtain ⟨⟨L, ls⟩, cd, ix⟩ := q1
  simp only at *
  go_enter Tryz.func10, Tryz.ntmps10
  go_wp2_with fail
  go_at_call 12
  with_reducible refine (HP.out).mono ?_
  rintro e w1 ⟨A1, c1, B1, m1, rfl, hln, hls, hmm, hb1⟩
  try simp only at hln
  try simp only at hls
  try simp only at hmm
  have st1 := st0.below hb1
  clear hb1 HP st0
  obtain ⟨p0, p1, p2, p3, p4, p5, p6, l0, l1, l2⟩ := st1.facts
  by_cases hcd : cd = 0
  · obtain ⟨hok, hz, hlen, h24⟩ := HG.out hcd
    injection hz with _ hz
    subst hcd
    subst hz
    have HQ0 := Lib.hid (HGO.out rfl)
    have hs40 := hok.len
    have HFD := Lib.hid (fun (W : World) (y : Int) (hb : Below w.heap.size w W) => find_any W A k s y (HV.out _ hb) (by omega) hok.sorted)
    have HOD := Lib.hid (fun i hi => (hok.ok i hi).dn)
    have stl := st1.below (below_alloc1 w1 (.cells #[.int .i64 0, .int .i64 0] 28))
    have rs0 := RwSt.start (w1.alloc (.cells #[.int .i64 0, .int .i64 0] 28)) 41 38 2 (Below.refl (w1.alloc (.cells #[.int .i64 0, .int .i64 0] 28)).heap.size _)
    have hgl : w.heap.size + 3 ≤ (w1.alloc (.cells #[.int .i64 0, .int .i64 0] 28)).heap.size := by simp; omega
    have hgs : (w1.alloc (.cells #[.int .i64 0, .int .i64 0] 28)).heap.size = w1.heap.size + 1 := by simp
    have hlnl := hln.keep (Keeps.alloc w1 _ (.cells #[.int .i64 0, .int .i64 0] 28))
    have hlsl := hls.keep (Keeps.alloc w1 _ (.cells #[.int .i64 0, .int .i64 0] 28))
    obtain ⟨i0, hi0, hz0, hz1, hz2⟩ := info_parts info49
    have HLEN := Lib.hid hlen
    clear HNO HG HGO hok hln hls hlen
    go_wp2_with fail
    rw [hgs] at rs0
    obtain ⟨wl, hwl⟩ : ∃ W : World, W = w1.alloc (.cells #[.int .i64 0, .int .i64 0] 28) := ⟨_, rfl⟩
    rw [← hwl] at rs0 hgs hgl hlnl hlsl stl
    have HW : Hid (((w1.alloc (.cells #[.int .i64 0, .int .i64 0] 28)).alloc (.cells #[.slice none 0 0] 41)) = wl.alloc (.cells #[.slice none 0 0] 41)) := Lib.hid (by rw [hwl])
    rw [hgs] at hgl
    generalize hg : w1.heap.size + 1 = g at *
    clear hg hwl st1 p0 p1 p2 p3 p4 p5 p6 l0 l1 l2
    go_loopw [30] (fun iv wr => ∃ (i : Nat) (B : Option Addr) (c : Nat) (fs : List Tr.F) (xs : List Value), i ≤ L.length ∧ iv = .int .i64 i ∧ fs.length = i ∧ RwSt wl wr g 41 38 2 B fs.length c xs ∧ RowsR (FlR wr (Or1 (fun b => b ≤ g) (.slice B fs.length c))) fs xs ∧ Hid (q = Tr.rdFrom s L ls i fs)) (fun iv _ => L.length - (intOf iv).toNat)
    case atStart => exact ⟨0, none, 0, [], [], Nat.zero_le _, rfl, rfl, by rw [HW.out]; exact rs0, rfl, HQ0⟩
    case round =>
      obtain ⟨i, B, c, fs, xs, hi, rfl, hfl, rs, hrows, HQ⟩ := hrel
      obtain ⟨wo, rfl⟩ : ∃ wo : World, wo = wr := ⟨_, rfl⟩
      clear rs0 HW HQ0
      have HFL := Lib.hid hfl
      clear hfl
      have sto := stl.below rs.bel
      obtain ⟨p0, p1, p2, p3, p4, p5, p6, l0, l1, l2⟩ := sto.facts
      by_cases hlt : i < L.length
      · have hlt' : (i : Int) < L.length := by omega
        have hi0' : (0 : Int) ≤ i := by omega
        have hlt2 : i < ls.length := by have := HLEN.out; omega
        have hlt2' : (i : Int) < ls.length := by omega
        obtain ⟨b1, off1, e1, hb1, _, d1⟩ := ssV_row hlnl.ls i hlt
        obtain ⟨b2, off2, e2, hb2, _, d2⟩ := hlsl.get i (by simpa using hlt2)
        subst e1
        subst e2
        have d2 : wl.cell? ⟨b2, off2 + i, none⟩ = some (.int .i64 ls[i]) := by rw [d2]; simp [intsV]
        have HLI : Hid (ls[i]?.getD 0 = ls[i]) := Lib.hid (by rw [List.getElem?_eq_getElem hlt2]; rfl)
        have HPI : Hid (L[i]?.getD [] = L[i]) := Lib.hid (by rw [List.getElem?_eq_getElem hlt]; rfl)
        have HN1 := Lib.hid (fun h => Tr.rdFrom_no (s := s) (ps := L) (ls := ls) (i := i) (out := fs) hlt h)
        have HN2 := Lib.hid (fun o h h2 => Tr.rdFrom_bad (s := s) (ps := L) (ls := ls) (i := i) (out := fs) (o := o) hlt h h2)
        have HN3 := Lib.hid (fun o h h2 => Tr.rdFrom_next (s := s) (ps := L) (ls := ls) (i := i) (out := fs) (o := o) hlt h h2)
        rw [HLI.out] at HN1 HN2 HN3
        rw [HPI.out] at HN2 HN3
        have hbwo := stl.bel.trans (rs.bel.mono stl.bel.size)
        have p11 : wo.cell? ⟨b1, off1 + i, none⟩ = some (strV L[i]) := (rs.bel.cell (p := ⟨b1, off1 + i, none⟩) hb1).trans d1
        have HK : Hid (∀ w6 : World, Below wo.heap.size wo w6 → w6.cell? ⟨w.heap.size, 0, none⟩ = some (.slice A s.length k) ∧ w6.cell? ⟨b2, off2 + i, none⟩ = some (.int .i64 ls[i])) :=
          Lib.hid fun w6 h6 => ⟨((sto.bx.below h6 sto.bx.lt).cell 0).trans rfl, ((rs.bel.trans (h6.mono rs.bel.size)).cell (p := ⟨b2, off2 + i, none⟩) hb2).trans d2⟩
        generalize ls[i] = y at *
        generalize L[i] = p at *
        have HFD2 := Lib.hid (fun (W : World) (hb : Below wo.heap.size wo W) => HFD.out W y (hbwo.trans (hb.mono hbwo.size)))
        clear HLI HPI d1 d2 hbwo HFD
        go_wp2_with fail
        refine wp_region_noPanic ?_
        refine wp_region_held_drew (S := (fun w6 : World => w6.cell? ⟨w.heap.size, 0, none⟩ = some (.slice A s.length k) ∧ w6.cell? ⟨b2, off2 + i, none⟩ = some (.int .i64 y))) (by kernel_rfl) ?_ (fun hSF => ?_)
        · exact HK.out _ (below_drew' (Below.refl _ _))
        have hq : Below wo.heap.size wo wo.drew := below_drew' (Below.refl _ _)
        have hszb : wo.heap.size ≤ wo.drew.heap.size := Nat.le_refl _
        generalize hWg : wo.drew = WD at *
        clear hWg
        refine wpAnyH_take (i := 0) (v := .agg #[.slice A s.length k]) rfl (by kernel_rfl) (by kernel_rfl) (by kernel_rfl) (fun _ _ _ h => h) (Or.inl ⟨by kernel_rfl, ?qF1⟩) (by assumption) ?rqF1
        case qF1 => (intro w hSw; (try dsimp only at hSw); go_simp)
        try simp only [Act.put, List.setIfInBounds_toArray]
        refine wpAnyH_take (i := 1) (v := .slice (some ⟨b2, off2, none⟩) ls.length m1) rfl (by kernel_rfl) (by kernel_rfl) (by kernel_rfl) (fun _ _ _ h => h) (Or.inl ⟨by kernel_rfl, ?qF2⟩) (by assumption) ?rqF2
        case qF2 => (intro w hSw; (try dsimp only at hSw); go_simp)
        try simp only [Act.put]
        refine wpAnyH_take (i := 2) (v := .int .i64 (i : Int)) rfl (by kernel_rfl) (by kernel_rfl) (by kernel_rfl) (fun _ _ _ h => h) (Or.inl ⟨by kernel_rfl, ?qF3⟩) (by assumption) ?rqF3
        case qF3 => (intro w hSw; (try dsimp only at hSw); go_simp)
        try simp only [Act.put]
        refine wpAnyH_take (i := 3) (v := .pointer (some ⟨b2, off2 + i, none⟩)) rfl (by kernel_rfl) (by kernel_rfl) (by kernel_rfl) (fun _ _ _ h => h) (Or.inl ⟨by kernel_rfl, ?qF4⟩) (by assumption) ?rqF4
        case qF4 => (intro w hSw; (try dsimp only at hSw); go_simp)
        try simp only [Act.put]
        refine wpAnyH_take (i := 4) (v := .int .i64 y) rfl (by kernel_rfl) (by kernel_rfl) (by kernel_rfl) (fun _ _ _ h => h) (Or.inl ⟨by kernel_rfl, ?qF5⟩) (by assumption) ?rqF5
        case qF5 => (intro w hSw; (try dsimp only at hSw); go_simp)
        try simp only [Act.put]
        refine wpAnyH_ready (rs := [5]) (by kernel_rfl) (by simp) ?_
        refine AllReadyH.cons rfl (fun K hK => ?nF6) (AllReadyH.nil)
        go_simp
        go_at_call 25
        with_reducible refine (HFD2.out _ hq).mono ?_
        rintro e WF7 ⟨rfl, hb9⟩
        try go_wp2_with fail
        refine hK.out _ _ ?_ (fun hSF8 => ?_)
        · exact HK.out _ (hq.trans (hb9.mono hq.size))
        clear hK K
        try simp only [Act.put, List.setIfInBounds_toArray]
        replace hq := hq.trans (hb9.mono hq.size)
        have zF9 : WD.heap.size ≤ WF7.heap.size := hb9.size
        clear hb9
        refine wpAnyH_take (i := 6) (v := .tuple #[.int .i64 ((Ob.lb s y : Nat) : Int), .bool (Ob.fnd s y)]) rfl (by kernel_rfl) (by kernel_rfl) (by kernel_rfl) (fun _ _ _ h => h) (Or.inl ⟨by kernel_rfl, ?qF10⟩) (by assumption) ?rqF10
        case qF10 => (intro w hSw; (try dsimp only at hSw); go_simp)
        try simp only [Act.put, List.setIfInBounds_toArray]
        refine wpAnyH_take (i := 7) (v := .int .i64 ((Ob.lb s y : Nat) : Int)) rfl (by kernel_rfl) (by kernel_rfl) (by kernel_rfl) (fun _ _ _ h => h) (Or.inl ⟨by kernel_rfl, ?qF11⟩) (by assumption) ?rqF11
        case qF11 => (intro w hSw; (try dsimp only at hSw); go_simp)
        try simp only [Act.put]
        refine wpAnyH_take (i := 8) (v := .bool (Ob.fnd s y)) rfl (by kernel_rfl) (by kernel_rfl) (by kernel_rfl) (fun _ _ _ h => h) (Or.inl ⟨by kernel_rfl, ?qF12⟩) (by assumption) ?rqF12
        case qF12 => (intro w hSw; (try dsimp only at hSw); go_simp)
        try simp only [Act.put]
        refine wpAnyH_take (i := 9) (v := .int .i64 ((Ob.lb s y : Nat) : Int)) rfl (by kernel_rfl) (by kernel_rfl) (by kernel_rfl) (fun _ _ _ h => h) (Or.inl ⟨by kernel_rfl, ?qF13⟩) (by assumption) ?rqF13
        case qF13 => (intro w hSw; (try dsimp only at hSw); go_simp)
        try simp only [Act.put]
        refine wpAnyH_take (i := 10) (v := .bool (Ob.fnd s y)) rfl (by kernel_rfl) (by kernel_rfl) (by kernel_rfl) (fun _ _ _ h => h) (Or.inl ⟨by kernel_rfl, ?qF14⟩) (by assumption) ?rqF14
        case qF14 => (intro w hSw; (try dsimp only at hSw); go_simp)
        try simp only [Act.put]
        refine wpAnyH_done (by kernel_rfl) ?_ _
        refine NoPanic.normal ?_
        have rs6 := rs.below hq
        have hr6 := rows_keep hrows (Keeps.below hq fun _ _ h => h)
        have st6 := sto.below hq
        clear HK HFD2 rs hrows sto hq hszb p0 p1 p2 p3 p4 p5 p6 l0 l1 l2 p11
        obtain ⟨p0, p1, p2, p3, p4, p5, p6, l0, l1, l2⟩ := st6.facts
        by_cases hf : Ob.fnd s y = true
        · obtain ⟨hlb, hdy⟩ := Ob.fnd_at hf
          have hgy := Tr.gtO_yes (s := s) (d := y) hf
          have hlb' : ((Ob.lb s y : Nat) : Int) < s.length := by omega
          obtain ⟨b3, off3, Al, kl, Ad, kd, e3, hb3, _, q0, q1, q2, q3, hx3, hob⟩ := (HV.out _ st6.bel).row _ hlb
          have hdn := HOD.out _ hlb
          subst e3
          have HN2 := Lib.hid (HN2.out _ hgy)
          have HN3 := Lib.hid (HN3.out _ hgy)
          have HCO := Lib.hid (contents_any WF7 (HM.out _ st6.bel).1 (HM.out _ st6.bel).2 (Ob.it s (Ob.lb s y)).ob Al kl Ad kd p hob (by omega))
          rw [hf]
          clear hf hdy hgy hob hdn HN1
          generalize Ob.lb s y = m at *
          generalize (Ob.it s m).ob = o at *
          generalize Tr.coF o p = r at *
          obtain ⟨ln, cd⟩ := r
          obtain ⟨kk, lo, da⟩ := o
          simp only at *
          go_wp2_with fail
          go_at_call 26
          with_reducible refine (HCO.out).mono ?_
          rintro e w7 ⟨A4, c4, rfl, hln4, hb7⟩
          try simp only at hln4
          have st7 := st6.below hb7
          have rs7 := rs6.below hb7
          have hr7 := rows_keep hr6 (Keeps.below hb7 fun _ _ h => h)
          have hXu : ∀ b, Or1 (fun b => b ≤ g) (.slice B fs.length c) b → b < WF7.heap.size := fun b hb => by
            have := rs6.sb.lt
            rcases hb with hb | hb
            · have : b ≤ g := hb; omega
            · exact (rs6.own.lt b hb).2
          clear HCO rs6 hr6 st6 hb7 p0 p1 p2 p3 p4 p5 p6 l0 l1 l2 q0 q1 q2 q3 hx3
          obtain ⟨p0, p1, p2, p3, p4, p5, p6, l0, l1, l2⟩ := st7.facts
          by_cases hc0 : cd = 0
          · subst hc0
            have HQN := Lib.hid (HQ.out.trans (HN3.out rfl))
            have h63 : fs.length + 1 ≤ maxLen := by have := HFL.out; unfold maxLen; omega
            have hby : (fs.length + 1) * 40 ≤ 140737488355328 := by have := HFL.out; omega
            obtain ⟨t0, t1, t2⟩ := rs7.facts
            have rs8 := rs7.below (below_alloc1 w7 (.cells #[strV p, .slice A4 ln.length c4] 38))
            have hr8 := rows_keep hr7 (Keeps.alloc w7 _ (.cells #[strV p, .slice A4 ln.length c4] 38))
            have hl8 := (hln4.keep (Keeps.alloc w7 _ (.cells #[strV p, .slice A4 ln.length c4] 38))).mono (X' := Or1 (fun b => b ≤ g) (.slice B fs.length c)) hXu
            have hsv : SV (w7.alloc (.cells #[strV p, .slice A4 ln.length c4] 38)) (w7.heap.size + 1) (some ⟨w7.heap.size, 0, none⟩) [strV p, .slice A4 ln.length c4] := by simpa using SV.lit w7 #[strV p, .slice A4 ln.length c4] 38
            clear HN2 HN3 HQ hln4 hr7 hXu
            go_wp2_with (first | (at_builtin; refine wpList_appNo _ rfl (.tmp 67) (.tmp 71) 39 rfl g 38 i0 _ 2 40 Tryz.underlying39 hi0 hz0 hz1 hz2 rfl (by decide) B fs.length c xs rfl rs8.own _ (some ⟨w7.heap.size, 0, none⟩) 1 1 [strV p, .slice A4 ln.length c4] rfl rfl hsv (by intro u hu; simp at hu; rcases hu with rfl | rfl <;> rfl) h63 hby (Nat.le_of_lt rs8.sb.lt) ?_))
            intro A9 c9 w9 hown9 hg9 hc9 hob9
            have hob9' : (Value.slice A9 (fs.length + 1) c9).ownBlock = (Value.slice B fs.length c).ownBlock ∨ (Value.slice A9 (fs.length + 1) c9).ownBlock = some (w7.alloc (.cells #[strV p, .slice A4 ln.length c4] 38)).heap.size := by simpa using hob9
            have rs9 := rs8.app (by decide) hg9 hown9
            have hk9 := rs8.keepX (u := .slice A9 (fs.length + 1) c9) hg9 hob9'
            have hr9 := (rows_keep hr8 hk9).append (RowsR.one (R := FlR (w9.setCell ⟨g, 0, none⟩ (.slice A9 (fs.length + 1) c9)) (Or1 (fun b => b ≤ g) (.slice A9 (fs.length + 1) c9))) (a := ⟨p, ln⟩) ⟨A4, c4, rfl, hl8.keep hk9⟩)
            have bk9 := rs8.sb.grown hg9 (own_blk_ne rs8.own rs8.sb (by decide))
            have v0 := bk9.frozen 0
            have v1 := bk9.lt
            have v2 := (bk9.cell 0).trans rfl
            have hfl9 : (fs ++ [(⟨p, ln⟩ : Tr.F)]).length = fs.length + 1 := by simp
            clear hown9 hg9 hc9 hob9 hob9' hk9 bk9 rs8 hr8 hl8 hsv rs7 t0 t1 t2 st7 p0 p1 p2 p3 p4 p5 p6 l0 l1 l2
            go_wp2_with fail
            go_roundw
            case rel => exact ⟨i + 1, A9, c9, fs ++ [⟨p, ln⟩], _, by omega, by go_num, by rw [hfl9, HFL.out], by rw [hfl9]; exact rs9, by rw [hfl9]; exact hr9, HQN⟩
            case measure => simp [intOf]; omega
          · have HR : Hid (∀ w', Below w.heap.size w w' → RdPost w q (.returned (.tuple #[.agg #[.slice none 0 0], .agg #[.int .i64 cd, .int .i64 i]])) w') := Lib.hid fun w' hb => RdPost.no (HQ.out.trans (HN2.out hc0)) hb
            have hx2 : (cd != 0) = true := by simpa using hc0
            clear HN2 HN3 HQ hc0 hr7 rs7 hln4 hXu
            go_wp2_with fail
            obtain ⟨k1, k2, k3⟩ := put12 st7.r1 st7.r2 (by omega) (.slice none 0 0) (.int .i64 cd) (.int .i64 i)
            refine bodyPost_ret (results_27_30 rfl _ _ (w.heap.size + 1) (w.heap.size + 2) (.slice none 0 0) (.int .i64 cd) (.int .i64 i) rfl rfl k1 k2) rfl ?_
            exact HR.out _ (k3 _ _ (by omega) (by omega) st7.bel)
        · have hf2 : Ob.fnd s y = false := by simpa using hf
          have HR : Hid (∀ w', Below w.heap.size w w' → RdPost w q (.returned (.tuple #[.agg #[.slice none 0 0], .agg #[.int .i64 6, .int .i64 i]])) w') := Lib.hid fun w' hb => RdPost.no (HQ.out.trans (HN1.out (Tr.gtO_no hf2))) hb
          rw [hf2]
          clear HN1 HN2 HN3 HQ hf hf2 hr6 rs6
          go_wp2_with fail
          obtain ⟨k1, k2, k3⟩ := put12 st6.r1 st6.r2 (by omega) (.slice none 0 0) (.int .i64 6) (.int .i64 i)
          refine bodyPost_ret (results_27_30 rfl _ _ (w.heap.size + 1) (w.heap.size + 2) (.slice none 0 0) (.int .i64 6) (.int .i64 i) rfl rfl k1 k2) rfl ?_
          exact HR.out _ (k3 _ _ (by omega) (by omega) st6.bel)
      · obtain rfl : i = L.length := by omega
        have HE := Lib.hid (HQ.out.trans (Tr.rdFrom_end s L ls L.length fs (Nat.le_refl _)))
        obtain ⟨t0, t1, t2⟩ := rs.facts
        have hfin := Lib.hid (RdPost.yes (w := w) HE.out hgl sto.bel rs hrows)
        obtain ⟨k1, k2, k3⟩ := put12 sto.r1 sto.r2 (by omega) (.slice B fs.length c) (.int .i64 0) (.int .i64 0)
        have k1 := Lib.hid k1
        have k2 := Lib.hid k2
        clear HE HQ rs hrows k3
        go_wp2_with fail
        refine bodyPost_ret (results_27_30 rfl _ _ (w.heap.size + 1) (w.heap.size + 2) (.slice B fs.length c) (.int .i64 0) (.int .i64 0) rfl rfl k1.out k2.out) rfl ?_
        exact hfin.out
  · have H := Lib.hid (HNO.out hcd)
    have hx1 : (cd == 0) = false := by simpa using hcd
    have hx2 : (cd != 0) = true := by simpa using hcd
    clear hcd HNO HGO HG HV HM
    have HR : Hid (∀ w', Below w.heap.size w w' → RdPost w q (.returned (.tuple #[.agg #[.slice none 0 0], .agg #[.int .i64 cd, .int .i64 ix]])) w') := Lib.hid fun w' hb => RdPost.no H.out hb
    clear H
    generalize RdPost w q = R at *
    go_wp2_with fail
    go_region
    all_goals
      go_wp2_with fail
      obtain ⟨k1, k2, k3⟩ := put12 st1.r1 st1.r2 (by omega) (.slice none 0 0) (.int .i64 cd) (.int .i64 ix)
      refine bodyPost_ret (results_27_30 rfl _ _ (w.heap.size + 1) (w.heap.size + 2) (.slice none 0 0) (.int .i64 cd) (.int .i64 ix) rfl rfl (k1.alloc _).drew (k2.alloc _).drew) rfl ?_
      exact HR.out _ (below_drew' ((k3 _ _ (by omega) (by omega) st1.bel).alloc (by simp [World.setCell]; omega) _))
end Go.Proofs.YtjljknocnebnaaaGreatDoor
