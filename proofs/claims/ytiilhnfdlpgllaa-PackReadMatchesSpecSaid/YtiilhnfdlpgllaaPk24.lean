/-
  Packs: walk of the reference's 'ReadPack'.
-/
import Derived.Test.YtiilhnfdlpgllaaPk21
import Derived.Test.YtiilhnfdlpgllaaPk12
import Derived.Deep.RegionWith
import Derived.Deep.RegionHeld3
import Derived.IntWalk
namespace Go.Proofs.Ytiilhnfdlpgllaa
open Go.RowKit Go.V
set_option linter.unusedVariables false

/-- What 'ReadPack' answers. -/
def RqPost (w : World) (r : List Ob.S × List PE × (Int × Int)) (e : Ending) (w' : World) : Prop :=
  ∃ A c, e = .returned (.tuple #[stV A r.1.length c, .agg #[.int .i64 r.2.2.1, .int .i64 r.2.2.2]]) ∧ r.1.length ≤ c ∧ StV w' (Under w.heap.size) A r.1 ∧ Below w.heap.size w w'
theorem RqPost.no {w w' : World} {r : List Ob.S × List PE × (Int × Int)} {c : Int} (h : r = ([], [], (c, 0))) (hb : Below w.heap.size w w') : RqPost w r (.returned (.tuple #[.agg #[.slice none 0 0], .agg #[.int .i64 c, .int .i64 0]])) w' := by
  subst h; exact ⟨none, 0, rfl, Nat.le_refl _, ⟨[], SA.nil, rfl⟩, hb⟩
/-- The results' cells of 'ReadPack', ahead of its store. -/
structure RqSt (w wr : World) : Prop where
  r1 : Blk wr w.heap.size 24 #[.slice none 0 0]
  r2 : Blk wr (w.heap.size + 1) 28 #[.int .i64 0, .int .i64 0]
  bel : Below w.heap.size w wr
theorem RqSt.below {w wr w' : World} (h : RqSt w wr) (hb : Below wr.heap.size wr w') : RqSt w w' := ⟨h.r1.below hb h.r1.lt, h.r2.below hb h.r2.lt, h.bel.trans (hb.mono h.bel.size)⟩
/-- The state of the loop of 'ReadPack'. -/
structure RpSt (w wr : World) (g : Nat) (out : List Ob.S) (Ao : Option Addr) (co : Nat) (xs : List Value) : Prop where
  r1 : Blk wr w.heap.size 24 #[.slice none 0 0]
  r2 : Blk wr (w.heap.size + 1) 28 #[.int .i64 0, .int .i64 0]
  sb : Blk wr g 24 #[.slice Ao out.length co]
  hg : w.heap.size + 1 < g
  own : wr.ownsRow (g + 1) 46 4 (.slice Ao out.length co) out.length xs
  rows : RowsR (StR wr (Or1 (Under (g + 1)) (.slice Ao out.length co))) out xs
  bel : Below w.heap.size w wr
section
variable {w wr w' : World} {g : Nat} {out : List Ob.S} {Ao : Option Addr} {co : Nat} {xs : List Value}
theorem RpSt.below (h : RpSt w wr g out Ao co xs) (hb : Below wr.heap.size wr w') : RpSt w w' g out Ao co xs :=
  ⟨h.r1.below hb h.r1.lt, h.r2.below hb h.r2.lt, h.sb.below hb h.sb.lt, h.hg, h.own.kept (only_of_below hb none) (by cases hv : (Value.slice Ao out.length co).ownBlock <;> simp),
    h.rows.mono (StR.keep (Keeps.below hb (fun _ _ h => h))), h.bel.trans (hb.mono h.bel.size)⟩
theorem RpSt.app (h : RpSt w wr g out Ao co xs) {o0 : Obj} {w4 : World} {A4 : Option Addr} {c4 : Nat} {x : Ob.S} {Al : Option Addr} {kl : Nat} {Ad : Option Addr} {kd : Nat}
    (hg : (wr.alloc o0).grownBy w4 (Value.slice Ao out.length co).ownBlock)
    (hown : w4.ownsRow (g + 1) 46 4 (.slice A4 (out.length + 1) c4) (out.length + 1) (xs ++ [.int .i64 x.dig, .int .i64 x.ob.kind, .slice Al x.ob.links.length kl, .slice Ad x.ob.data.length kd]))
    (hb : (Value.slice A4 (out.length + 1) c4).ownBlock = (Value.slice Ao out.length co).ownBlock ∨ (Value.slice A4 (out.length + 1) c4).ownBlock = some (wr.alloc o0).heap.size)
    (hx : I64 x.dig) (hob : ObA wr (Or1 (Under (g + 1)) (.slice Ao out.length co)) x.ob Al kl Ad kd) :
    RpSt w (w4.setCell ⟨g, 0, none⟩ (.slice A4 (out.length + 1) c4)) g (out ++ [x]) A4 c4 (xs ++ [.int .i64 x.dig, .int .i64 x.ob.kind, .slice Al x.ob.links.length kl, .slice Ad x.ob.data.length kd]) := by
  have own3 := h.own.alloc o0
  have hlo : ∀ q, (Value.slice Ao out.length co).ownBlock = some q → g + 1 ≤ q := fun q hq => (h.own.lt q hq).1
  have hl : (out ++ [x]).length = out.length + 1 := by simp
  have hgg := h.hg
  have f : ∀ {b : Nat} {t : TypeId} {cs : Array Value}, Blk wr b t cs → b < g → Blk (w4.setCell ⟨g, 0, none⟩ (.slice A4 (out.length + 1) c4)) b t cs := fun hb hlt =>
    (((hb.alloc o0).grown hg (fun e => by have := hlo _ e.symm; omega)).far (by simp; omega) _)
  have sb4 := (h.sb.alloc o0).grown hg (fun e => by have := hlo _ e.symm; omega)
  have hkp := ((Keeps.alloc wr (Or1 (Under (g + 1)) (.slice Ao out.length co)) o0).trans (Keeps.or1 hg rfl hb)).trans (Keeps.setCell w4 _ ⟨g, 0, none⟩ (.slice A4 (out.length + 1) c4) (.inl (by show g < g + 1; omega)))
  refine ⟨f h.r1 (by omega), f h.r2 (by omega), by rw [hl]; simpa using sb4.set_ 0 (.slice A4 (out.length + 1) c4), hgg, ?_, ?_, ?_⟩
  · rw [hl]; exact own_setCell hown (fun e => by have := (hown.lt _ e.symm).1; simp only at this; omega) _
  · rw [hl]; exact (h.rows.mono (StR.keep hkp)).append (RowsR.one ⟨Al, kl, Ad, kd, rfl, hx, hob.keep hkp⟩)
  · refine Below.setCell ?_ (by show w.heap.size ≤ g; omega) _
    exact (h.bel.alloc h.bel.size o0).grown hg (by have := h.bel.size; simp; omega) (fun b hb => by have := hlo b hb; omega)
theorem RpSt.view (h : RpSt w wr g out Ao co xs) : StV wr Free Ao out :=
  ⟨xs, SA.of_own h.own (fun b hb => hb.elim), h.rows.mono (StR.keep ((Keeps.refl wr _).into fun b hb => hb.elim))⟩
theorem RpSt.rq (h : RpSt w wr g out Ao co xs) : RqSt w wr := ⟨h.r1, h.r2, h.bel⟩
theorem RpSt.fin (h : RpSt w wr g out Ao co xs) (x y z : Value) :
    StV (((wr.setCell ⟨w.heap.size, 0, none⟩ x).setCell ⟨w.heap.size + 1, 0, none⟩ y).setCell ⟨w.heap.size + 1, 1, none⟩ z) (Under w.heap.size) Ao out := by
  have hgg := h.hg
  have hu0 : Under (g + 1) w.heap.size := by unfold Under; omega
  have hu1 : Under (g + 1) (w.heap.size + 1) := by unfold Under; omega
  have k1 := ((Keeps.setCell wr (Under (g + 1)) ⟨w.heap.size, 0, none⟩ x hu0).trans (Keeps.setCell _ _ ⟨w.heap.size + 1, 0, none⟩ y hu1)).trans (Keeps.setCell _ _ ⟨w.heap.size + 1, 1, none⟩ z hu1)
  have k2 := k1.into (X'' := Under w.heap.size) (fun b hb => by unfold Under at *; omega)
  refine ⟨xs, (SA.of_own h.own (fun b hb => hb)).keep k2, ?_⟩
  exact (h.rows.mono (StR.keep ((Keeps.refl wr _).into (X'' := Under (g + 1)) fun b hb => .inl hb))).mono (StR.keep k2)
end
/-- The state of the inner loop: the object being read. -/
structure RoSt (wo wr : World) (b : List UInt8) (j : Nat) (Al : Option Addr) (kl : Nat) : Prop where
  bo : Blk wr wo.heap.size 44 #[.int .i64 (Ob.bt b 0), .slice Al j kl, .slice none 0 0]
  own : wr.ownsRow (wo.heap.size + 1) 3 1 (.slice Al j kl) j (intsV (Ob.lks b j))
  bel : Below wo.heap.size wo wr
theorem RoSt.app {w wr : World} {b : List UInt8} {j : Nat} {Al : Option Addr} {kl : Nat} (h : RoSt w wr b j Al kl) {o0 : Obj} {w4 : World} {gd c' : Nat} (hg : (wr.alloc o0).grownBy w4 (Value.slice Al j kl).ownBlock)
    (hown : w4.ownsRow (w.heap.size + 1) 3 1 (.slice (some ⟨gd, 0, none⟩) (j + 1) c') (j + 1) (intsV (Ob.lks b j) ++ [.int .i64 (Ob.numI (b.drop (4 + 8 * j)))])) : RoSt w (w4.setCell ⟨w.heap.size, 1, none⟩ (.slice (some ⟨gd, 0, none⟩) (j + 1) c')) b (j + 1) (some ⟨gd, 0, none⟩) c' := by
  have own3 := h.own.alloc o0
  have b4 := (h.bo.alloc o0).grown hg (fun e => by have := (own3.lt _ e.symm).1; omega)
  refine ⟨by simpa using b4.set_ 1 (.slice (some ⟨gd, 0, none⟩) (j + 1) c'), ?_, ?_⟩
  · refine own_setCell ?_ (fun e => by have := (hown.lt _ e.symm).1; simp at this <;> omega) _
    simpa [Ob.lks, intsV] using hown
  · refine Below.setCell ?_ (by show w.heap.size ≤ w.heap.size; exact Nat.le_refl _) _
    exact (h.bel.alloc h.bel.size o0).grown hg (by have := h.bel.size; simp <;> omega) (fun b hb => by have := (own3.lt b hb).1; omega)
theorem RoSt.below {w wr w' : World} {b : List UInt8} {j : Nat} {Al : Option Addr} {kl : Nat} (h : RoSt w wr b j Al kl) (hb : Below wr.heap.size wr w') : RoSt w w' b j Al kl :=
  ⟨h.bo.below hb h.bo.lt, h.own.kept (only_of_below hb none) (by cases hv : (Value.slice Al j kl).ownBlock <;> simp), h.bel.trans (hb.mono h.bel.size)⟩
/-- What was read before the data is put in. -/
theorem ro_ob {wo w6 : World} {b : List UInt8} {j ds bs kl c5 : Nat} {Al A5 : Option Addr} (hp : Ob.obP b = ⟨Ob.bt b 0, Ob.lks b j, (b.drop (4 + 8 * j)).take ds⟩) (hdl : 4 + 8 * j + ds ≤ b.length) (hbl : b.length ≤ 4096)
    (hlo : w6.ownsRow (wo.heap.size + 1) 3 1 (.slice Al j kl) j (intsV (Ob.lks b j))) (hda : w6.ownsRow bs 5 1 (.slice A5 ds c5) ds (bytesV ((b.drop (4 + 8 * j)).take ds))) (hbs : wo.heap.size ≤ bs) :
    obV (Ob.obP b) Al kl A5 c5 = .agg #[.int .i64 (Ob.bt b 0), .slice Al j kl, .slice A5 ds c5] ∧ ObA w6 (Under wo.heap.size) (Ob.obP b) Al kl A5 c5 := by
  have e1 := Ob.lks_length b j
  have e2 : ((b.drop (4 + 8 * j)).take ds).length = ds := by simp; omega
  have hq := Ob.bt_lt b 0
  rw [hp]
  refine ⟨by simp only [obV, e1, e2], ?_⟩
  obtain ⟨_, _, f1, f2, _⟩ := own_form hlo
  obtain ⟨_, _, g1, g2, _⟩ := own_form hda
  injection f1 with _ _ f3
  injection g1 with _ _ g3
  subst f3 g3
  exact ⟨by unfold I64; simp only; omega, fun i hi => by have := Ob.lks_64 b j _ (List.getElem_mem hi); unfold I64; omega, by simp only [e1]; exact f2, by simp only [e2]; exact g2, by simp only [e1]; omega, by simp only [e2]; omega,
    SA.of_own hlo (fun b hb => by unfold Under at hb; omega), SA.of_own hda (fun b hb => by unfold Under at hb; omega)⟩
theorem bt_drop (b : List UInt8) (n a i : Nat) (h : a + i < n) (hl : n ≤ b.length) : Ob.bt ((b.take n).drop a) i = Ob.bt b (a + i) := by
  unfold Ob.bt; rw [List.getElem?_drop, List.getElem?_take_of_lt h]
theorem not_isP {b : List UInt8} {n a : Nat} (hl : n ≤ b.length) (h : n < a + 4 ∨ n < a + Ob.enL ((b.take n).drop a)) (ha : a ≤ n) : ¬ Ob.isP ((b.take n).drop a) := by
  have e : ((b.take n).drop a).length = n - a := by simp; omega
  unfold Ob.isP
  rw [e]
  omega
set_option maxRecDepth 100000 in
set_option maxHeartbeats 8000000 in
theorem readPack_size (w : World) (A : Option Addr) (n k : Nat) (b : List UInt8) (hln : b.length = n) (h : 4096 < n ∨ n < 11) : Calls Try.prog 25 #[.slice A n k] w (RqPost w (readF b)) := by
  have st0 : RqSt w ((w.alloc (.cells #[.slice none 0 0] 24)).alloc (.cells #[.int .i64 0, .int .i64 0] 28)) := ⟨(Blk.new _ _ _).alloc _, blk_new1 _ _ _ _, below_alloc2 _ _ _⟩
  rcases h with h | h
  · have HNO := Lib.hid (fun (w' : World) (hb : Below w.heap.size w w') => RqPost.no (r := readF b) (c := 2) (by unfold readF; rw [if_pos (by omega)]) hb)
    have h' : (4096 : Int) < n := by omega
    clear hln
    generalize RqPost w (readF b) = R at *
    go_enter Try.func25, Try.ntmps25
    go_wp2_with fail
    go_at_call 18
    refine (fault_b _ 2 0).mono ?_
    rintro e w9 ⟨rfl, hb9⟩
    have st9 := st0.below hb9
    have y0 := (st9.r1.cell 0).trans (rfl : _ = some (Value.slice none 0 0))
    have y1 := st9.r1.lt
    have y2 := st9.r1.frozen 0
    have z0 := (st9.r2.cell 0).trans (rfl : _ = some (Value.int .i64 0))
    have z1 := (st9.r2.cell 1).trans (rfl : _ = some (Value.int .i64 0))
    have z2 := st9.r2.lt
    have z3 := st9.r2.frozen 0
    have z4 := st9.r2.frozen 1
    clear hb9
    go_wp2_with fail
    obtain ⟨k1, k2, k3⟩ := put12 st9.r1 st9.r2 (by omega) (.slice none 0 0) (.int .i64 2) (.int .i64 0)
    refine bodyPost_ret (results_24_28 rfl _ _ w.heap.size (w.heap.size + 1) (.slice none 0 0) (.int .i64 2) (.int .i64 0) rfl rfl k1 k2) rfl ?_
    exact HNO.out _ (k3 _ _ (by omega) (by omega) st9.bel)
  · have HNO := Lib.hid (fun (w' : World) (hb : Below w.heap.size w w') => RqPost.no (r := readF b) (c := 18) (by unfold readF; rw [if_neg (by omega), if_pos (by omega)]) hb)
    have h' : (n : Int) < 11 := by omega
    have h2 : ¬ (4096 : Int) < n := by omega
    have h3 : decide ((n : Int) < 11) = true := decide_eq_true h'
    clear hln
    generalize RqPost w (readF b) = R at *
    go_enter Try.func25, Try.ntmps25
    go_wp2_with fail
    go_region
    all_goals
      have st1 := st0.below (below_drewN (Below.refl _ _) 1)
      go_wp2_with fail
      go_at_call 18
      refine (fault_b _ 18 0).mono ?_
      rintro e w9 ⟨rfl, hb9⟩
      have st9 := st1.below hb9
      have y0 := (st9.r1.cell 0).trans (rfl : _ = some (Value.slice none 0 0))
      have y1 := st9.r1.lt
      have y2 := st9.r1.frozen 0
      have z0 := (st9.r2.cell 0).trans (rfl : _ = some (Value.int .i64 0))
      have z1 := (st9.r2.cell 1).trans (rfl : _ = some (Value.int .i64 0))
      have z2 := st9.r2.lt
      have z3 := st9.r2.frozen 0
      have z4 := st9.r2.frozen 1
      clear hb9
      go_wp2_with fail
      obtain ⟨k1, k2, k3⟩ := put12 st9.r1 st9.r2 (by omega) (.slice none 0 0) (.int .i64 18) (.int .i64 0)
      refine bodyPost_ret (results_24_28 rfl _ _ w.heap.size (w.heap.size + 1) (.slice none 0 0) (.int .i64 18) (.int .i64 0) rfl rfl k1 k2) rfl ?_
      exact HNO.out _ (k3 _ _ (by omega) (by omega) st9.bel)
set_option maxRecDepth 100000 in
set_option maxHeartbeats 8000000 in
theorem readPack_broken (w : World) (A : Option Addr) (k n : Nat) (b : List UInt8) (hv : SA w Free A (bytesV b)) (hln : b.length = n + 8) (h3 : 3 ≤ n) (h4 : n + 8 ≤ 4096) (hk : n + 8 ≤ k) (hbr : Broken b) :
    Calls Try.prog 25 #[.slice A (n + 8) k] w (RqPost w (readF b)) := by
  have st0 : RqSt w ((w.alloc (.cells #[.slice none 0 0] 24)).alloc (.cells #[.int .i64 0, .int .i64 0] 28)) := ⟨(Blk.new _ _ _).alloc _, blk_new1 _ _ _ _, below_alloc2 _ _ _⟩
  obtain ⟨ab, ao, e, hab, hc2⟩ := hv.sv.byte 2 (by omega)
  subst e
  rw [Ob.bt_eq] at hc2
  have ht : (b.take n).length = n := by simp; omega
  have hd : (b.drop n).length = 8 := by simp; omega
  have hofl : Dg.ofL (b.take n) < 2305843009213693951 := Dg.ofTo_lt _ _ (Nat.le_refl _)
  have hSA1 := hv.take n
  have hSA2 := hv.drop n False (fun h => h.elim)
  rw [if_neg (fun h => h)] at hSA2
  have HV1 : Hid (SA w Free (some ⟨ab, ao, none⟩) (bytesV (b.take n))) := Lib.hid (by unfold bytesV at hSA1 ⊢; rwa [List.map_take])
  have HV2 : Hid (SA w Free (some ⟨ab, ao + n, none⟩) (bytesV (b.drop n))) := Lib.hid (by unfold bytesV at hSA2 ⊢; rw [List.map_drop]; simpa [Addr.add, show n ≠ 0 by omega] using hSA2)
  have H41 : Hid (∀ w1 : World, Below w.heap.size w w1 → Calls Try.prog 41 #[.slice (some ⟨ab, ao, none⟩) n k] w1 fun e w' => e = .returned (.int .i64 ((Dg.ofL (b.take n) : Nat) : Int)) ∧ Below w1.heap.size w1 w') := Lib.hid fun w1 hb => by
    have h := digestOf_any w1 (some ⟨ab, ao, none⟩) k (b.take n) (HV1.out.keep (free_below hb)).sv (by omega)
    rw [ht] at h
    exact h.mono fun e w' ⟨h1, m, h2⟩ => ⟨h1, by rw [h2]; exact below_drewN (Below.refl _ _) m⟩
  have H40 : Hid (∀ w1 : World, Calls Try.prog 40 #[.int .i64 ((Dg.ofL (b.take n) : Nat) : Int)] w1 fun e w' => ∃ A2 c2, e = .returned (.slice A2 8 c2) ∧ Below w1.heap.size w1 w' ∧ (convert 26 9 (.slice A2 8 c2)).run Try.prog w' = .ok (.string ⟨(Ob.wide (Dg.ofL (b.take n))).toArray⟩) w') := Lib.hid fun w1 => (wide_any w1 (Dg.ofL (b.take n)) hofl).mono fun e w' h => by
    obtain ⟨A2, c2, rfl, _, hs, hb⟩ := h
    have := run_conv_str (P := Try.prog) 26 9 5 c2 Try.underlying26 Try.underlying5 Try.underlying9 hs.sv
    rw [Ob.wide_length] at this ⊢
    exact ⟨A2, c2, rfl, hb, this⟩
  have HCV : Hid (∀ (w1 : World) (cc : Nat), Below w.heap.size w w1 → (convert 26 9 (.slice (some ⟨ab, ao + n, none⟩) 8 cc)).run Try.prog w1 = .ok (.string ⟨(b.drop n).toArray⟩) w1) := Lib.hid fun w1 cc hb => by
    have := run_conv_str (P := Try.prog) 26 9 5 cc Try.underlying26 Try.underlying5 Try.underlying9 (HV2.out.keep (free_below hb)).sv
    rwa [hd] at this
  have HNO := Lib.hid (fun (w' : World) (hb : Below w.heap.size w w') => RqPost.no (r := readF b) (c := 18) (by unfold readF; rw [if_neg (by omega), if_neg (by omega), if_pos hbr]) hb)
  have hne : Ob.wide (Dg.ofL (b.take n)) ≠ b.drop n := by unfold Broken at hbr; rw [hln, Nat.add_sub_cancel] at hbr; exact hbr
  have hs1 : (Ob.wide (Dg.ofL (b.take n)) == b.drop n) = false := by simpa using hne
  have hs2 : (Ob.wide (Dg.ofL (b.take n)) != b.drop n) = true := by simpa using hne
  clear hne ht hd hv hbr hSA1 hSA2 HV1 HV2 hc2 hln
  generalize RqPost w (readF b) = R at *
  generalize b.drop n = tl at *
  generalize Dg.ofL (b.take n) = d at *
  generalize Ob.wide d = wd at *
  have hd0 : (0 : Int) ≤ d := by omega
  have hn8 : ((n : Int) + 8 - 8) = n := by omega
  have hi0 : (0 : Int) ≤ n := by omega
  have hi1 : (n : Int) ≤ (n : Int) + 8 := by omega
  have hi2 : (n : Int) + 8 ≤ k := by omega
  have hi3 : (n : Int) ≤ k := by omega
  have h11 : decide ((n : Int) + 8 < 11) = false := by simp; omega
  have h12 : ¬ (n : Int) + 8 < 11 := by omega
  have h41 : ¬ (4096 : Int) < (n : Int) + 8 := by omega
  have b0 := st0.bel
  have hkn : ¬ k = n := by omega
  have hkn2 : ¬ (k : Int) = n := by omega
  have hi4 : (n : Int) + 8 ≤ (n : Int) + 8 := Int.le_refl _
  have hwn : IntKind.i64.wrap (n : Int) = n := IntWalk.i64_in _ (by omega)
  go_enter Try.func25, Try.ntmps25
  go_wp2_with fail
  generalize hW0 : (w.alloc (.cells #[.slice none 0 0] 24)).alloc (.cells #[.int .i64 0, .int .i64 0] 28) = w0 at *
  clear hW0
  have hk0 : Below w0.heap.size w0 w0.drew := below_drew' (Below.refl _ _)
  have HS : Hid (∀ w6 : World, Below w0.heap.size w0 w6 → (convert 26 9 (.slice (some ⟨ab, ao + n, none⟩) 8 (k - n))).run Try.prog w6 = .ok (.string ⟨tl.toArray⟩) w6) := Lib.hid fun w6 h6 => HCV.out w6 _ (b0.trans (h6.mono b0.size))
  refine wp_region_noPanic ?_
  refine wp_region_held_drew (S := (fun w6 : World => (convert 26 9 (.slice (some ⟨ab, ao + n, none⟩) 8 (k - n))).run Try.prog w6 = .ok (.string ⟨tl.toArray⟩) w6)) (by kernel_rfl) ?_ (fun hH => ?_)
  · exact HS.out _ hk0
  refine wpAnyH_take (i := 0) (v := .slice (some ⟨ab, ao, none⟩) (n + 8) k) rfl (by kernel_rfl) (by kernel_rfl) (by kernel_rfl) (fun _ _ _ h => h) (Or.inl ⟨by kernel_rfl, ?qH0⟩) (by assumption) ?rH0
  case qH0 => (intro w hSw; (try dsimp only at hSw); go_simp)
  try simp only [Act.put, List.setIfInBounds_toArray]
  refine wpAnyH_take (i := 1) (v := .int .i64 ((n : Int) + 8)) rfl (by kernel_rfl) (by kernel_rfl) (by kernel_rfl) (fun _ _ _ h => h) (Or.inl ⟨by kernel_rfl, ?qH1⟩) (by assumption) ?rH1
  case qH1 => (intro w hSw; (try dsimp only at hSw); go_simp)
  try simp only [Act.put]
  refine wpAnyH_take (i := 2) (v := .bool false) rfl (by kernel_rfl) (by kernel_rfl) (by kernel_rfl) (fun _ _ _ h => h) (Or.inl ⟨by kernel_rfl, ?qH2⟩) (by assumption) ?rH2
  case qH2 => (intro w hSw; (try dsimp only at hSw); go_simp)
  try simp only [Act.put]
  refine wpAnyH_take (i := 3) (v := .bool false) rfl (by kernel_rfl) (by kernel_rfl) (by kernel_rfl) (fun _ _ _ h => h) (Or.inl ⟨by kernel_rfl, ?qH3⟩) (by assumption) ?rH3
  case qH3 => (intro w hSw; (try dsimp only at hSw); go_simp)
  try simp only [Act.put]
  refine wpAnyH_take (i := 4) (v := .slice (some ⟨ab, ao, none⟩) (n + 8) k) rfl (by kernel_rfl) (by kernel_rfl) (by kernel_rfl) (fun _ _ _ h => h) (Or.inl ⟨by kernel_rfl, ?qH4⟩) (by assumption) ?rH4
  case qH4 => (intro w hSw; (try dsimp only at hSw); go_simp)
  try simp only [Act.put]
  refine wpAnyH_take (i := 5) (v := .slice (some ⟨ab, ao, none⟩) (n + 8) k) rfl (by kernel_rfl) (by kernel_rfl) (by kernel_rfl) (fun _ _ _ h => h) (Or.inl ⟨by kernel_rfl, ?qH5⟩) (by assumption) ?rH5
  case qH5 => (intro w hSw; (try dsimp only at hSw); go_simp)
  try simp only [Act.put]
  refine wpAnyH_take (i := 6) (v := .int .i64 ((n : Int) + 8)) rfl (by kernel_rfl) (by kernel_rfl) (by kernel_rfl) (fun _ _ _ h => h) (Or.inl ⟨by kernel_rfl, ?qH6⟩) (by assumption) ?rH6
  case qH6 => (intro w hSw; (try dsimp only at hSw); go_simp)
  try simp only [Act.put]
  refine wpAnyH_take (i := 7) (v := .int .i64 (n : Int)) rfl (by kernel_rfl) (by kernel_rfl) (by kernel_rfl) (fun _ _ _ h => h) (Or.inl ⟨by kernel_rfl, ?qH7⟩) (by assumption) ?rH7
  case qH7 => (intro w hSw; (try dsimp only at hSw); go_simp)
  try simp only [Act.put]
  refine wpAnyH_take (i := 8) (v := .slice (some ⟨ab, ao, none⟩) n k) rfl (by kernel_rfl) (by kernel_rfl) (by kernel_rfl) (fun _ _ _ h => h) (Or.inl ⟨by kernel_rfl, ?qH8⟩) (by assumption) ?rH8
  case qH8 => (intro w hSw; (try dsimp only at hSw); go_simp)
  try simp only [Act.put]
  refine wpAnyH_take (i := 12) (v := .slice (some ⟨ab, ao, none⟩) (n + 8) k) rfl (by kernel_rfl) (by kernel_rfl) (by kernel_rfl) (fun _ _ _ h => h) (Or.inl ⟨by kernel_rfl, ?qH12⟩) (by assumption) ?rH12
  case qH12 => (intro w hSw; (try dsimp only at hSw); go_simp)
  try simp only [Act.put]
  refine wpAnyH_take (i := 13) (v := .slice (some ⟨ab, ao, none⟩) (n + 8) k) rfl (by kernel_rfl) (by kernel_rfl) (by kernel_rfl) (fun _ _ _ h => h) (Or.inl ⟨by kernel_rfl, ?qH13⟩) (by assumption) ?rH13
  case qH13 => (intro w hSw; (try dsimp only at hSw); go_simp)
  try simp only [Act.put]
  refine wpAnyH_take (i := 14) (v := .int .i64 ((n : Int) + 8)) rfl (by kernel_rfl) (by kernel_rfl) (by kernel_rfl) (fun _ _ _ h => h) (Or.inl ⟨by kernel_rfl, ?qH14⟩) (by assumption) ?rH14
  case qH14 => (intro w hSw; (try dsimp only at hSw); go_simp)
  try simp only [Act.put]
  refine wpAnyH_take (i := 15) (v := .int .i64 (n : Int)) rfl (by kernel_rfl) (by kernel_rfl) (by kernel_rfl) (fun _ _ _ h => h) (Or.inl ⟨by kernel_rfl, ?qH15⟩) (by assumption) ?rH15
  case qH15 => (intro w hSw; (try dsimp only at hSw); go_simp)
  try simp only [Act.put]
  refine wpAnyH_take (i := 16) (v := .slice (some ⟨ab, ao + n, none⟩) 8 (k - n)) rfl (by kernel_rfl) (by kernel_rfl) (by kernel_rfl) (fun _ _ _ h => h) (Or.inl ⟨by kernel_rfl, ?qH16⟩) (by assumption) ?rH16
  case qH16 => (intro w hSw; (try dsimp only at hSw); go_simp)
  try simp only [Act.put]
  refine wpAnyH_take (i := 17) (v := .string ⟨tl.toArray⟩) rfl (by kernel_rfl) (by kernel_rfl) (by kernel_rfl) (fun _ _ _ h => h) (Or.inl ⟨by kernel_rfl, ?qH17⟩) (by assumption) ?rH17
  case qH17 => (intro w hSw; (try dsimp only at hSw); go_simp)
  try simp only [Act.put]
  refine wpAnyH_ready (rs := [9]) (by kernel_rfl) (by simp) ?_
  refine AllReadyH.cons rfl (fun K hK => ?sH9) AllReadyH.nil
  (go_simp; go_at_call 41; (with_reducible refine (H41.out _ (b0.trans (hk0.mono b0.size))).mono ?_); rintro e v1 ⟨rfl, hv1⟩; try go_wp2_with fail)
  refine hK.out _ _ ?_ (fun hH9 => ?_)
  · exact HS.out _ (hk0.trans (hv1.mono hk0.size))
  clear hK K
  try simp only [Act.put, List.setIfInBounds_toArray]
  refine wpAnyH_ready (rs := [10]) (by kernel_rfl) (by simp) ?_
  refine AllReadyH.cons rfl (fun K hK => ?sH10) AllReadyH.nil
  (go_simp; go_at_call 40; (with_reducible refine (H40.out _).mono ?_); rintro e v2 ⟨A2, c2, rfl, hv2, hcv⟩; try go_wp2_with fail)
  refine hK.out _ _ ?_ (fun hH10 => ?_)
  · exact HS.out _ ((hk0.trans (hv1.mono hk0.size)).trans (hv2.mono (hk0.trans (hv1.mono hk0.size)).size))
  clear hK K
  try simp only [Act.put, List.setIfInBounds_toArray]
  refine wpAnyH_ready (rs := [11]) (by kernel_rfl) (by simp) ?_
  refine AllReadyH.cons rfl (fun K hK => ?sH11) AllReadyH.nil
  go_simp
  refine hK.out _ _ ?_ (fun hH11 => ?_)
  · exact HS.out _ ((hk0.trans (hv1.mono hk0.size)).trans (hv2.mono (hk0.trans (hv1.mono hk0.size)).size))
  clear hK K
  try simp only [Act.put, List.setIfInBounds_toArray]
  refine wpAnyH_ready (rs := [18]) (by kernel_rfl) (by simp) ?_
  refine AllReadyH.cons rfl (fun K hK => ?sH18) AllReadyH.nil
  go_simp
  refine hK.out _ _ ?_ (fun hH18 => ?_)
  · exact HS.out _ ((hk0.trans (hv1.mono hk0.size)).trans (hv2.mono (hk0.trans (hv1.mono hk0.size)).size))
  clear hK K
  try simp only [Act.put, List.setIfInBounds_toArray]
  refine wpAnyH_ready (rs := [19]) (by kernel_rfl) (by simp) ?_
  refine AllReadyH.cons rfl (fun K hK => ?sH19) AllReadyH.nil
  go_simp
  refine hK.out _ _ ?_ (fun hH19 => ?_)
  · exact HS.out _ ((hk0.trans (hv1.mono hk0.size)).trans (hv2.mono (hk0.trans (hv1.mono hk0.size)).size))
  clear hK K
  try simp only [Act.put, List.setIfInBounds_toArray]
  refine wpAnyH_done (by kernel_rfl) ?_ _
  refine NoPanic.normal ?_
  have st1 := st0.below ((hk0.trans (hv1.mono hk0.size)).trans (hv2.mono (hk0.trans (hv1.mono hk0.size)).size))
  go_wp2_with fail
  go_at_call 18
  refine (fault_b _ 18 0).mono ?_
  rintro e w9 ⟨rfl, hb9⟩
  have st9 := st1.below hb9
  have y0 := (st9.r1.cell 0).trans (rfl : _ = some (Value.slice none 0 0))
  have y1 := st9.r1.lt
  have y2 := st9.r1.frozen 0
  have z0 := (st9.r2.cell 0).trans (rfl : _ = some (Value.int .i64 0))
  have z1 := (st9.r2.cell 1).trans (rfl : _ = some (Value.int .i64 0))
  have z2 := st9.r2.lt
  have z3 := st9.r2.frozen 0
  have z4 := st9.r2.frozen 1
  clear hb9
  go_wp2_with fail
  obtain ⟨k1, k2, k3⟩ := put12 st9.r1 st9.r2 (by omega) (.slice none 0 0) (.int .i64 18) (.int .i64 0)
  refine bodyPost_ret (results_24_28 rfl _ _ w.heap.size (w.heap.size + 1) (.slice none 0 0) (.int .i64 18) (.int .i64 0) rfl rfl k1 k2) rfl ?_
  exact HNO.out _ (k3 _ _ (by omega) (by omega) st9.bel)
theorem rdF_no {b : List UInt8} {n c : Nat} {rest : List UInt8} {out : List Ob.S} {ix : List PE} {r : List Ob.S × List PE × (Int × Int)} (h : r = rdFin b (rdL n (c + 1) rest out ix)) (hb : ¬ (Ob.isP rest ∧ (Ob.obF (Ob.obP rest)).1 = 0)) : r = ([], [], (1, 0)) := by
  rw [h, rdL_bad hb]; rfl
theorem rdF_next {b : List UInt8} {n c : Nat} {rest : List UInt8} {out : List Ob.S} {ix : List PE} {r : List Ob.S × List PE × (Int × Int)} (h : r = rdFin b (rdL n (c + 1) rest out ix)) (hp : Ob.isP rest) (hf : (Ob.obF (Ob.obP rest)).1 = 0) :
    r = rdFin b (rdL n c (rest.drop (Ob.enL rest)) (out ++ [⟨Ob.dig (Ob.obP rest), Ob.obP rest⟩]) (ix ++ [⟨Ob.dig (Ob.obP rest), n - rest.length, Ob.enL rest⟩])) := by
  rw [h, rdL_next hp hf]
set_option maxRecDepth 100000 in
set_option maxHeartbeats 8000000 in
theorem readPack_any (w : World) (A : Option Addr) (k n : Nat) (b : List UInt8) (hv : SA w Free A (bytesV b)) (hln : b.length = n + 8) (h3 : 3 ≤ n) (h4 : n + 8 ≤ 4096) (hk : n + 8 ≤ k) (hbr : ¬ Broken b) :
    Calls Try.prog 25 #[.slice A (n + 8) k] w (RqPost w (readF b)) := by
  have st0 : RqSt w ((w.alloc (.cells #[.slice none 0 0] 24)).alloc (.cells #[.int .i64 0, .int .i64 0] 28)) := ⟨(Blk.new _ _ _).alloc _, blk_new1 _ _ _ _, below_alloc2 _ _ _⟩
  obtain ⟨ab, ao, e, hab, hc2⟩ := hv.sv.byte 2 (by omega)
  subst e
  rw [Ob.bt_eq] at hc2
  have ht : (b.take n).length = n := by simp; omega
  have hd : (b.drop n).length = 8 := by simp; omega
  have hofl : Dg.ofL (b.take n) < 2305843009213693951 := Dg.ofTo_lt _ _ (Nat.le_refl _)
  have hSA1 := hv.take n
  have hSA2 := hv.drop n False (fun h => h.elim)
  rw [if_neg (fun h => h)] at hSA2
  have HV1 : Hid (SA w Free (some ⟨ab, ao, none⟩) (bytesV (b.take n))) := Lib.hid (by unfold bytesV at hSA1 ⊢; rwa [List.map_take])
  have HV2 : Hid (SA w Free (some ⟨ab, ao + n, none⟩) (bytesV (b.drop n))) := Lib.hid (by unfold bytesV at hSA2 ⊢; rw [List.map_drop]; simpa [Addr.add, show n ≠ 0 by omega] using hSA2)
  have H41 : Hid (∀ w1 : World, Below w.heap.size w w1 → Calls Try.prog 41 #[.slice (some ⟨ab, ao, none⟩) n k] w1 fun e w' => e = .returned (.int .i64 ((Dg.ofL (b.take n) : Nat) : Int)) ∧ Below w1.heap.size w1 w') := Lib.hid fun w1 hb => by
    have h := digestOf_any w1 (some ⟨ab, ao, none⟩) k (b.take n) (HV1.out.keep (free_below hb)).sv (by omega)
    rw [ht] at h
    exact h.mono fun e w' ⟨h1, m, h2⟩ => ⟨h1, by rw [h2]; exact below_drewN (Below.refl _ _) m⟩
  have H40 : Hid (∀ w1 : World, Calls Try.prog 40 #[.int .i64 ((Dg.ofL (b.take n) : Nat) : Int)] w1 fun e w' => ∃ A2 c2, e = .returned (.slice A2 8 c2) ∧ Below w1.heap.size w1 w' ∧ (convert 26 9 (.slice A2 8 c2)).run Try.prog w' = .ok (.string ⟨(Ob.wide (Dg.ofL (b.take n))).toArray⟩) w') := Lib.hid fun w1 => (wide_any w1 (Dg.ofL (b.take n)) hofl).mono fun e w' h => by
    obtain ⟨A2, c2, rfl, _, hs, hb⟩ := h
    have := run_conv_str (P := Try.prog) 26 9 5 c2 Try.underlying26 Try.underlying5 Try.underlying9 hs.sv
    rw [Ob.wide_length] at this ⊢
    exact ⟨A2, c2, rfl, hb, this⟩
  have HCV : Hid (∀ (w1 : World) (cc : Nat), Below w.heap.size w w1 → (convert 26 9 (.slice (some ⟨ab, ao + n, none⟩) 8 cc)).run Try.prog w1 = .ok (.string ⟨(b.drop n).toArray⟩) w1) := Lib.hid fun w1 cc hb => by
    have := run_conv_str (P := Try.prog) 26 9 5 cc Try.underlying26 Try.underlying5 Try.underlying9 (HV2.out.keep (free_below hb)).sv
    rwa [hd] at this
  have HF := Lib.hid (readF_fin n b hln h3 h4 hbr)
  have heq : Ob.wide (Dg.ofL (b.take n)) = b.drop n := by unfold Broken at hbr; rw [hln, Nat.add_sub_cancel] at hbr; exact Classical.not_not.1 hbr
  rw [heq] at H40
  have HBY : Hid (∀ w1 : World, Below w.heap.size w w1 → ∀ i, i < n + 8 → w1.cell? ⟨ab, ao + i, none⟩ = some (.int .u8 ((Ob.bt b i : Nat) : Int))) := Lib.hid fun w1 hb i hi => by
    obtain ⟨_, _, e, _, hc⟩ := hv.sv.byte i (by omega)
    injection e with e; injection e with e1 e2; subst e1 e2
    rw [Ob.bt_eq] at hc
    exact (hb.cell (p := ⟨ab, ao + i, none⟩) hab).trans hc
  have HSV : Hid (∀ w1 : World, Below w.heap.size w w1 → ∀ i ds, i + ds ≤ n → i ≤ n → SV w1 w1.heap.size (some ⟨ab, ao + i, none⟩) (bytesV (((b.take n).drop i).take ds))) := Lib.hid fun w1 hb i ds hi hi2 => by
    by_cases h0 : i = 0
    · subst h0
      have := (((HV1.out.keep (free_below hb)).take ds)).sv
      unfold bytesV at this ⊢
      rw [List.map_take, List.drop_zero]
      exact this
    · have := ((((HV1.out.keep (free_below hb)).drop i False (fun h => h.elim))).take ds).sv
      rw [if_neg (fun h => h)] at this
      unfold bytesV at this ⊢
      rw [List.map_take, List.map_drop]
      simpa [Addr.add, h0] using this
  have HCB : Hid (∀ w1 : World, Below w.heap.size w w1 → (convert 26 9 (.slice (some ⟨ab, ao, none⟩) (n + 8) k)).run Try.prog w1 = .ok (.string ⟨b.toArray⟩) w1) := Lib.hid fun w1 hb => by
    have := run_conv_str (P := Try.prog) 26 9 5 k Try.underlying26 Try.underlying5 Try.underlying9 (hv.keep (free_below hb)).sv
    rwa [hln] at this
  have HTL := Lib.hid hln
  have hcnt := Ob.bt_lt b 2
  clear heq ht hd hv hbr hSA1 hSA2 HV1 HV2 hln
  obtain ⟨r, hr⟩ : ∃ r, r = readF b := ⟨_, rfl⟩
  rw [← hr] at HF ⊢
  clear hr
  generalize b.drop n = tl at *
  generalize Dg.ofL (b.take n) = d at *
  generalize hcc : Ob.bt b 2 = cnt at *
  clear hcc
  have hs1 : (tl == tl) = true := by simp
  have hs2 : (tl != tl) = false := by simp
  have hd0 : (0 : Int) ≤ d := by omega
  have hn8 : ((n : Int) + 8 - 8) = n := by omega
  have hi0 : (0 : Int) ≤ n := by omega
  have hi1 : (n : Int) ≤ (n : Int) + 8 := by omega
  have hi2 : (n : Int) + 8 ≤ k := by omega
  have hi3 : (n : Int) ≤ k := by omega
  have h11 : decide ((n : Int) + 8 < 11) = false := by simp; omega
  have h12 : ¬ (n : Int) + 8 < 11 := by omega
  have h41 : ¬ (4096 : Int) < (n : Int) + 8 := by omega
  have b0 := st0.bel
  have hkn : ¬ k = n := by omega
  have hkn2 : ¬ (k : Int) = n := by omega
  have hi4 : (n : Int) + 8 ≤ (n : Int) + 8 := Int.le_refl _
  have hwn : IntKind.i64.wrap (n : Int) = n := IntWalk.i64_in _ (by omega)
  go_enter Try.func25, Try.ntmps25
  go_wp2_with fail
  generalize hW0 : (w.alloc (.cells #[.slice none 0 0] 24)).alloc (.cells #[.int .i64 0, .int .i64 0] 28) = w0 at *
  clear hW0
  have hk0 : Below w0.heap.size w0 w0.drew := below_drew' (Below.refl _ _)
  have HS : Hid (∀ w6 : World, Below w0.heap.size w0 w6 → (convert 26 9 (.slice (some ⟨ab, ao + n, none⟩) 8 (k - n))).run Try.prog w6 = .ok (.string ⟨tl.toArray⟩) w6) := Lib.hid fun w6 h6 => HCV.out w6 _ (b0.trans (h6.mono b0.size))
  refine wp_region_noPanic ?_
  refine wp_region_held_drew (S := (fun w6 : World => (convert 26 9 (.slice (some ⟨ab, ao + n, none⟩) 8 (k - n))).run Try.prog w6 = .ok (.string ⟨tl.toArray⟩) w6)) (by kernel_rfl) ?_ (fun hH => ?_)
  · exact HS.out _ hk0
  refine wpAnyH_take (i := 0) (v := .slice (some ⟨ab, ao, none⟩) (n + 8) k) rfl (by kernel_rfl) (by kernel_rfl) (by kernel_rfl) (fun _ _ _ h => h) (Or.inl ⟨by kernel_rfl, ?qH0⟩) (by assumption) ?rH0
  case qH0 => (intro w hSw; (try dsimp only at hSw); go_simp)
  try simp only [Act.put, List.setIfInBounds_toArray]
  refine wpAnyH_take (i := 1) (v := .int .i64 ((n : Int) + 8)) rfl (by kernel_rfl) (by kernel_rfl) (by kernel_rfl) (fun _ _ _ h => h) (Or.inl ⟨by kernel_rfl, ?qH1⟩) (by assumption) ?rH1
  case qH1 => (intro w hSw; (try dsimp only at hSw); go_simp)
  try simp only [Act.put]
  refine wpAnyH_take (i := 2) (v := .bool false) rfl (by kernel_rfl) (by kernel_rfl) (by kernel_rfl) (fun _ _ _ h => h) (Or.inl ⟨by kernel_rfl, ?qH2⟩) (by assumption) ?rH2
  case qH2 => (intro w hSw; (try dsimp only at hSw); go_simp)
  try simp only [Act.put]
  refine wpAnyH_take (i := 3) (v := .bool false) rfl (by kernel_rfl) (by kernel_rfl) (by kernel_rfl) (fun _ _ _ h => h) (Or.inl ⟨by kernel_rfl, ?qH3⟩) (by assumption) ?rH3
  case qH3 => (intro w hSw; (try dsimp only at hSw); go_simp)
  try simp only [Act.put]
  refine wpAnyH_take (i := 4) (v := .slice (some ⟨ab, ao, none⟩) (n + 8) k) rfl (by kernel_rfl) (by kernel_rfl) (by kernel_rfl) (fun _ _ _ h => h) (Or.inl ⟨by kernel_rfl, ?qH4⟩) (by assumption) ?rH4
  case qH4 => (intro w hSw; (try dsimp only at hSw); go_simp)
  try simp only [Act.put]
  refine wpAnyH_take (i := 5) (v := .slice (some ⟨ab, ao, none⟩) (n + 8) k) rfl (by kernel_rfl) (by kernel_rfl) (by kernel_rfl) (fun _ _ _ h => h) (Or.inl ⟨by kernel_rfl, ?qH5⟩) (by assumption) ?rH5
  case qH5 => (intro w hSw; (try dsimp only at hSw); go_simp)
  try simp only [Act.put]
  refine wpAnyH_take (i := 6) (v := .int .i64 ((n : Int) + 8)) rfl (by kernel_rfl) (by kernel_rfl) (by kernel_rfl) (fun _ _ _ h => h) (Or.inl ⟨by kernel_rfl, ?qH6⟩) (by assumption) ?rH6
  case qH6 => (intro w hSw; (try dsimp only at hSw); go_simp)
  try simp only [Act.put]
  refine wpAnyH_take (i := 7) (v := .int .i64 (n : Int)) rfl (by kernel_rfl) (by kernel_rfl) (by kernel_rfl) (fun _ _ _ h => h) (Or.inl ⟨by kernel_rfl, ?qH7⟩) (by assumption) ?rH7
  case qH7 => (intro w hSw; (try dsimp only at hSw); go_simp)
  try simp only [Act.put]
  refine wpAnyH_take (i := 8) (v := .slice (some ⟨ab, ao, none⟩) n k) rfl (by kernel_rfl) (by kernel_rfl) (by kernel_rfl) (fun _ _ _ h => h) (Or.inl ⟨by kernel_rfl, ?qH8⟩) (by assumption) ?rH8
  case qH8 => (intro w hSw; (try dsimp only at hSw); go_simp)
  try simp only [Act.put]
  refine wpAnyH_take (i := 12) (v := .slice (some ⟨ab, ao, none⟩) (n + 8) k) rfl (by kernel_rfl) (by kernel_rfl) (by kernel_rfl) (fun _ _ _ h => h) (Or.inl ⟨by kernel_rfl, ?qH12⟩) (by assumption) ?rH12
  case qH12 => (intro w hSw; (try dsimp only at hSw); go_simp)
  try simp only [Act.put]
  refine wpAnyH_take (i := 13) (v := .slice (some ⟨ab, ao, none⟩) (n + 8) k) rfl (by kernel_rfl) (by kernel_rfl) (by kernel_rfl) (fun _ _ _ h => h) (Or.inl ⟨by kernel_rfl, ?qH13⟩) (by assumption) ?rH13
  case qH13 => (intro w hSw; (try dsimp only at hSw); go_simp)
  try simp only [Act.put]
  refine wpAnyH_take (i := 14) (v := .int .i64 ((n : Int) + 8)) rfl (by kernel_rfl) (by kernel_rfl) (by kernel_rfl) (fun _ _ _ h => h) (Or.inl ⟨by kernel_rfl, ?qH14⟩) (by assumption) ?rH14
  case qH14 => (intro w hSw; (try dsimp only at hSw); go_simp)
  try simp only [Act.put]
  refine wpAnyH_take (i := 15) (v := .int .i64 (n : Int)) rfl (by kernel_rfl) (by kernel_rfl) (by kernel_rfl) (fun _ _ _ h => h) (Or.inl ⟨by kernel_rfl, ?qH15⟩) (by assumption) ?rH15
  case qH15 => (intro w hSw; (try dsimp only at hSw); go_simp)
  try simp only [Act.put]
  refine wpAnyH_take (i := 16) (v := .slice (some ⟨ab, ao + n, none⟩) 8 (k - n)) rfl (by kernel_rfl) (by kernel_rfl) (by kernel_rfl) (fun _ _ _ h => h) (Or.inl ⟨by kernel_rfl, ?qH16⟩) (by assumption) ?rH16
  case qH16 => (intro w hSw; (try dsimp only at hSw); go_simp)
  try simp only [Act.put]
  refine wpAnyH_take (i := 17) (v := .string ⟨tl.toArray⟩) rfl (by kernel_rfl) (by kernel_rfl) (by kernel_rfl) (fun _ _ _ h => h) (Or.inl ⟨by kernel_rfl, ?qH17⟩) (by assumption) ?rH17
  case qH17 => (intro w hSw; (try dsimp only at hSw); go_simp)
  try simp only [Act.put]
  refine wpAnyH_ready (rs := [9]) (by kernel_rfl) (by simp) ?_
  refine AllReadyH.cons rfl (fun K hK => ?sH9) AllReadyH.nil
  (go_simp; go_at_call 41; (with_reducible refine (H41.out _ (b0.trans (hk0.mono b0.size))).mono ?_); rintro e v1 ⟨rfl, hv1⟩; try go_wp2_with fail)
  refine hK.out _ _ ?_ (fun hH9 => ?_)
  · exact HS.out _ (hk0.trans (hv1.mono hk0.size))
  clear hK K
  try simp only [Act.put, List.setIfInBounds_toArray]
  refine wpAnyH_ready (rs := [10]) (by kernel_rfl) (by simp) ?_
  refine AllReadyH.cons rfl (fun K hK => ?sH10) AllReadyH.nil
  (go_simp; go_at_call 40; (with_reducible refine (H40.out _).mono ?_); rintro e v2 ⟨A2, c2, rfl, hv2, hcv⟩; try go_wp2_with fail)
  refine hK.out _ _ ?_ (fun hH10 => ?_)
  · exact HS.out _ ((hk0.trans (hv1.mono hk0.size)).trans (hv2.mono (hk0.trans (hv1.mono hk0.size)).size))
  clear hK K
  try simp only [Act.put, List.setIfInBounds_toArray]
  refine wpAnyH_ready (rs := [11]) (by kernel_rfl) (by simp) ?_
  refine AllReadyH.cons rfl (fun K hK => ?sH11) AllReadyH.nil
  go_simp
  refine hK.out _ _ ?_ (fun hH11 => ?_)
  · exact HS.out _ ((hk0.trans (hv1.mono hk0.size)).trans (hv2.mono (hk0.trans (hv1.mono hk0.size)).size))
  clear hK K
  try simp only [Act.put, List.setIfInBounds_toArray]
  refine wpAnyH_ready (rs := [18]) (by kernel_rfl) (by simp) ?_
  refine AllReadyH.cons rfl (fun K hK => ?sH18) AllReadyH.nil
  go_simp
  refine hK.out _ _ ?_ (fun hH18 => ?_)
  · exact HS.out _ ((hk0.trans (hv1.mono hk0.size)).trans (hv2.mono (hk0.trans (hv1.mono hk0.size)).size))
  clear hK K
  try simp only [Act.put, List.setIfInBounds_toArray]
  refine wpAnyH_ready (rs := [19]) (by kernel_rfl) (by simp) ?_
  refine AllReadyH.cons rfl (fun K hK => ?sH19) AllReadyH.nil
  go_simp
  refine hK.out _ _ ?_ (fun hH19 => ?_)
  · exact HS.out _ ((hk0.trans (hv1.mono hk0.size)).trans (hv2.mono (hk0.trans (hv1.mono hk0.size)).size))
  clear hK K
  try simp only [Act.put, List.setIfInBounds_toArray]
  refine wpAnyH_done (by kernel_rfl) ?_ _
  refine NoPanic.normal ?_
  have st1 := st0.below ((hk0.trans (hv1.mono hk0.size)).trans (hv2.mono (hk0.trans (hv1.mono hk0.size)).size))
  have st2 : RpSt w (v2.alloc (.cells #[.slice none 0 0] 24)) v2.heap.size [] none 0 [] := ⟨st1.r1.alloc _, st1.r2.alloc _, Blk.new _ _ _, st1.r2.lt, World.ownsRow_nil _ _ _ _, rfl, st1.bel.alloc st1.bel.size _⟩
  have hcb := (st2.bel.cell (p := ⟨ab, ao + 2, none⟩) hab).trans hc2
  have habw : ab < (v2.alloc (.cells #[.slice none 0 0] 24)).heap.size := Nat.lt_of_lt_of_le hab st2.bel.size
  rw [World.size_alloc] at habw
  obtain ⟨i0, hI0, hZ0, hZ1, hZ2⟩ := info_parts info46
  obtain ⟨j0, hJ0, hY0, hY1, hY2⟩ := info_parts info3
  obtain ⟨uu0, hU0, hX0, hX1, hX2⟩ := info_parts info5
  have hfld : ∀ (x y : Value) W, (Instr.field 28 (.agg #[x, y]) 0).run Try.prog W = .ok x W := fun _ _ _ => by kernel_rfl
  clear hH hH9 hH10 hH11 hH18 hH19 hcv HS hk0 hv1 hv2 st0 st1 b0 H40 H41 HCV hs1 hs2 hc2
  go_wp2_with fail
  generalize hww : v2.alloc (.cells #[.slice none 0 0] 24) = w5 at *
  clear hww
  generalize v2.heap.size = g at *
  have HRE : Hid ((b.take n).drop 3 = (b.take n).drop 3) := Lib.hid rfl
  go_loopw [5, 6] (fun av cv wr => ∃ (a c : Nat) (Ao : Option Addr) (co : Nat) (xs : List Value) (out : List Ob.S) (ix : List PE), a ≤ n ∧ av = .int .i64 a ∧ cv = .int .i64 c ∧ c ≤ cnt ∧ Hid (out.length + c = cnt) ∧
      RpSt w wr g out Ao co xs ∧ Hid (∀ j, j < out.length → Ob.Ok (Ob.it out j).ob) ∧ Hid (r = rdFin b (rdL n c ((b.take n).drop a) out ix))) (fun _ cv _ => (intOf cv).toNat)
  case atStart => exact ⟨3, cnt, none, 0, [], [], [], by omega, rfl, rfl, Nat.le_refl _, Lib.hid (by simp), st2, Lib.hid (fun j h => by cases h), HF⟩
  case round =>
    obtain ⟨a, c, Ao, co, xs, out, ix, ha, rfl, rfl, hcl, HOL, st, HOK, HRD⟩ := hrel
    obtain ⟨wo, rfl⟩ : ∃ wo : World, wo = wr := ⟨_, rfl⟩
    clear st2 HF hcb habw
    have hsz := st.bel.size
    have habw : ab < wo.heap.size := Nat.lt_of_lt_of_le hab hsz
    by_cases hc0 : c = 0
    · subst hc0
      have HR0 : Hid (r = if (Ob.stF out).1 ≠ 0 ∨ packB out ≠ b then ([], [], (1, 0)) else (out, ix, (0, 0))) := Lib.hid HRD.out
      have hcp : ¬ ((0 : Nat) : Int) > 0 := by omega
      have hl40 : out.length ≤ 255 := by have := HOL.out; omega
      have HFA := Lib.hid (fun (w' : World) (hb : Below wo.heap.size wo w') => storeFault_any w' Ao co out (st.below hb).view (by omega))
      have HPB : Hid (∀ (w' : World), Below wo.heap.size wo w' → Calls Try.prog 17 #[.agg #[.slice Ao out.length co]] w' fun e w2 => ∃ A3 n3 c3, e = .returned (.slice A3 n3 c3) ∧ Below w'.heap.size w' w2 ∧ (convert 26 9 (.slice A3 n3 c3)).run Try.prog w2 = .ok (.string ⟨(packB out).toArray⟩) w2) := Lib.hid fun w' hb => (packBytes_any w' Ao co out (st.below hb).view hl40 HOK.out).mono fun e w2 h => by
        obtain ⟨A3, c3, rfl, _, hs, hb⟩ := h
        exact ⟨A3, _, c3, rfl, hb, run_conv_str (P := Try.prog) 26 9 5 c3 Try.underlying26 Try.underlying5 Try.underlying9 hs.sv⟩
      have sb0 := (st.sb.cell 0).trans (rfl : _ = some (Value.slice Ao out.length co))
      have sb1 := st.sb.lt
      have hk0 : Below wo.heap.size wo wo.drew := below_drew' (Below.refl _ _)
      have HSK : Hid (∀ w6 : World, Below wo.heap.size wo w6 → w6.cell? ⟨g, 0, none⟩ = some (.slice Ao out.length co) ∧ (convert 26 9 (.slice (some ⟨ab, ao, none⟩) (n + 8) k)).run Try.prog w6 = .ok (.string ⟨b.toArray⟩) w6) := Lib.hid fun w6 h6 => ⟨(h6.cell (p := ⟨_, _, none⟩) sb1).trans sb0, HCB.out w6 (st.bel.trans (h6.mono hsz))⟩
      clear HRD HSV HBY HCB
      by_cases hv0 : (Ob.stF out).1 = 0
      · have hv1 := (Ob.stF_ok hv0).1
        rw [hv1] at HFA
        have hz1 : ((0 : Int) == 0) = true := rfl
        have hz2 : ((0 : Int) != 0) = false := rfl
        by_cases heq : packB out = b
        · have hr : r = (out, ix, (0, 0)) := by rw [HR0.out, if_neg (fun h => by rcases h with h | h; exact h hv0; exact h heq)]
          have HEND : Hid (∀ w' : World, RpSt w w' g out Ao co xs → RqPost w r (.returned (.tuple #[.agg #[.slice Ao out.length co], .agg #[.int .i64 0, .int .i64 0]])) (((w'.setCell ⟨w.heap.size, 0, none⟩ (.slice Ao out.length co)).setCell ⟨w.heap.size + 1, 0, none⟩ (.int .i64 0)).setCell ⟨w.heap.size + 1, 1, none⟩ (.int .i64 0))) := Lib.hid fun w' h => by
            subst hr
            obtain ⟨_, _, k3⟩ := put12 h.r1 h.r2 (by omega) (.slice Ao out.length co) (.int .i64 0) (.int .i64 0)
            obtain ⟨_, _, f1, f2, _⟩ := own_form h.own
            injection f1 with _ _ f3
            subst f3
            exact ⟨Ao, co, rfl, f2, h.fin (.slice Ao out.length co) (.int .i64 0) (.int .i64 0), k3 _ _ (by omega) (by omega) h.bel⟩
          rw [heq] at HPB
          have hs1 : (b == b) = true := by simp
          have hs2 : (b != b) = false := by simp
          clear HR0 hr hv0 hv1 heq
          go_wp2_with fail
          refine wp_region_noPanic ?_
          refine wp_region_held_drew (S := (fun w6 : World => w6.cell? ⟨g, 0, none⟩ = some (.slice Ao out.length co) ∧ (convert 26 9 (.slice (some ⟨ab, ao, none⟩) (n + 8) k)).run Try.prog w6 = .ok (.string ⟨b.toArray⟩) w6)) (by kernel_rfl) ?_ (fun hE => ?_)
          · exact HSK.out _ hk0
          refine wpAnyH_take (i := 0) (v := .agg #[.slice Ao out.length co]) rfl (by kernel_rfl) (by kernel_rfl) (by kernel_rfl) (fun _ _ _ h => h) (Or.inl ⟨by kernel_rfl, ?qE0⟩) (by assumption) ?rE0
          case qE0 => (intro w hSw; (try dsimp only at hSw); go_simp)
          try simp only [Act.put, List.setIfInBounds_toArray]
          refine wpAnyH_ready (rs := [1]) (by kernel_rfl) (by simp) ?_
          refine AllReadyH.cons rfl (fun K hK => ?sE1) AllReadyH.nil
          (go_simp; go_at_call 16; (with_reducible refine (HFA.out _ hk0).mono ?_); rintro e f1 ⟨rfl, hf1⟩; try go_wp2_with fail)
          refine hK.out _ _ ?_ (fun hE1 => ?_)
          · exact HSK.out _ (hk0.trans (hf1.mono hk0.size))
          clear hK K
          try simp only [Act.put, List.setIfInBounds_toArray]
          refine wpAnyH_ready (rs := [2]) (by kernel_rfl) (by simp) ?_
          refine AllReadyH.cons rfl (fun K hK => ?sE2) AllReadyH.nil
          go_simp
          refine hK.out _ _ ?_ (fun hE2 => ?_)
          · exact HSK.out _ (hk0.trans (hf1.mono hk0.size))
          clear hK K
          try simp only [Act.put, List.setIfInBounds_toArray]
          refine wpAnyH_ready (rs := [3]) (by kernel_rfl) (by simp) ?_
          refine AllReadyH.cons rfl (fun K hK => ?sE3) AllReadyH.nil
          go_simp
          refine hK.out _ _ ?_ (fun hE3 => ?_)
          · exact HSK.out _ (hk0.trans (hf1.mono hk0.size))
          clear hK K
          try simp only [Act.put, List.setIfInBounds_toArray]
          refine wpAnyH_ready (rs := [4]) (by kernel_rfl) (by simp) ?_
          refine AllReadyH.cons rfl (fun K hK => ?sE4) AllReadyH.nil
          go_simp
          refine hK.out _ _ ?_ (fun hE4 => ?_)
          · exact HSK.out _ (hk0.trans (hf1.mono hk0.size))
          clear hK K
          try simp only [Act.put, List.setIfInBounds_toArray]
          refine wpAnyH_take (i := 5) (v := .agg #[.slice Ao out.length co]) rfl (by kernel_rfl) (by kernel_rfl) (by kernel_rfl) (fun _ _ _ h => h) (Or.inl ⟨by kernel_rfl, ?qE5⟩) (by assumption) ?rE5
          case qE5 => (intro w hSw; (try dsimp only at hSw); go_simp)
          try simp only [Act.put, List.setIfInBounds_toArray]
          refine wpAnyH_take (i := 8) (v := .slice (some ⟨ab, ao, none⟩) (n + 8) k) rfl (by kernel_rfl) (by kernel_rfl) (by kernel_rfl) (fun _ _ _ h => h) (Or.inl ⟨by kernel_rfl, ?qE8⟩) (by assumption) ?rE8
          case qE8 => (intro w hSw; (try dsimp only at hSw); go_simp)
          try simp only [Act.put]
          refine wpAnyH_take (i := 9) (v := .string ⟨b.toArray⟩) rfl (by kernel_rfl) (by kernel_rfl) (by kernel_rfl) (fun _ _ _ h => h) (Or.inl ⟨by kernel_rfl, ?qE9⟩) (by assumption) ?rE9
          case qE9 => (intro w hSw; (try dsimp only at hSw); go_simp)
          try simp only [Act.put]
          refine wpAnyH_ready (rs := [6]) (by kernel_rfl) (by simp) ?_
          refine AllReadyH.cons rfl (fun K hK => ?sE6) AllReadyH.nil
          (go_simp; go_at_call 17; (with_reducible refine (HPB.out _ (hk0.trans (hf1.mono hk0.size))).mono ?_); rintro e f2 ⟨A3, n3, c3, rfl, hf2, hcv⟩; try go_wp2_with fail)
          refine hK.out _ _ ?_ (fun hE6 => ?_)
          · exact HSK.out _ ((hk0.trans (hf1.mono hk0.size)).trans (hf2.mono (hk0.trans (hf1.mono hk0.size)).size))
          clear hK K
          try simp only [Act.put, List.setIfInBounds_toArray]
          refine wpAnyH_ready (rs := [7]) (by kernel_rfl) (by simp) ?_
          refine AllReadyH.cons rfl (fun K hK => ?sE7) AllReadyH.nil
          go_simp
          refine hK.out _ _ ?_ (fun hE7 => ?_)
          · exact HSK.out _ ((hk0.trans (hf1.mono hk0.size)).trans (hf2.mono (hk0.trans (hf1.mono hk0.size)).size))
          clear hK K
          try simp only [Act.put, List.setIfInBounds_toArray]
          refine wpAnyH_ready (rs := [10]) (by kernel_rfl) (by simp) ?_
          refine AllReadyH.cons rfl (fun K hK => ?sE10) AllReadyH.nil
          go_simp
          refine hK.out _ _ ?_ (fun hE10 => ?_)
          · exact HSK.out _ ((hk0.trans (hf1.mono hk0.size)).trans (hf2.mono (hk0.trans (hf1.mono hk0.size)).size))
          clear hK K
          try simp only [Act.put, List.setIfInBounds_toArray]
          refine wpAnyH_ready (rs := [11]) (by kernel_rfl) (by simp) ?_
          refine AllReadyH.cons rfl (fun K hK => ?sE11) AllReadyH.nil
          go_simp
          refine hK.out _ _ ?_ (fun hE11 => ?_)
          · exact HSK.out _ ((hk0.trans (hf1.mono hk0.size)).trans (hf2.mono (hk0.trans (hf1.mono hk0.size)).size))
          clear hK K
          try simp only [Act.put, List.setIfInBounds_toArray]
          refine wpAnyH_done (by kernel_rfl) ?_ _
          refine NoPanic.normal ?_
          have st9 := st.below ((hk0.trans (hf1.mono hk0.size)).trans (hf2.mono (hk0.trans (hf1.mono hk0.size)).size))
          have y0 := (st9.r1.cell 0).trans (rfl : _ = some (Value.slice none 0 0))
          have y1 := st9.r1.lt
          have y2 := st9.r1.frozen 0
          have z0 := (st9.r2.cell 0).trans (rfl : _ = some (Value.int .i64 0))
          have z1 := (st9.r2.cell 1).trans (rfl : _ = some (Value.int .i64 0))
          have z2 := st9.r2.lt
          have z3 := st9.r2.frozen 0
          have z4 := st9.r2.frozen 1
          have sb0 := (st9.sb.cell 0).trans (rfl : _ = some (Value.slice Ao out.length co))
          have sb1 := st9.sb.lt
          clear hf1 hf2 hcv st
          go_wp2_with fail
          obtain ⟨k1, k2, k3⟩ := put12 st9.r1 st9.r2 (by omega) (.slice Ao out.length co) (.int .i64 0) (.int .i64 0)
          refine bodyPost_ret (results_24_28 rfl _ _ w.heap.size (w.heap.size + 1) (.slice Ao out.length co) (.int .i64 0) (.int .i64 0) rfl rfl k1 k2) rfl ?_
          exact HEND.out _ st9
        · have hr : r = ([], [], (1, 0)) := by rw [HR0.out, if_pos (.inr heq)]
          have HNO := Lib.hid (fun (w' : World) (hb : Below w.heap.size w w') => RqPost.no hr hb)
          have hs1 : (packB out == b) = false := by simpa using heq
          have hs2 : (packB out != b) = true := by simpa using heq
          clear HR0 hr hv0 hv1 heq
          generalize packB out = pb at *
          go_wp2_with fail
          refine wp_region_noPanic ?_
          refine wp_region_held_drew (S := (fun w6 : World => w6.cell? ⟨g, 0, none⟩ = some (.slice Ao out.length co) ∧ (convert 26 9 (.slice (some ⟨ab, ao, none⟩) (n + 8) k)).run Try.prog w6 = .ok (.string ⟨b.toArray⟩) w6)) (by kernel_rfl) ?_ (fun hF => ?_)
          · exact HSK.out _ hk0
          refine wpAnyH_take (i := 0) (v := .agg #[.slice Ao out.length co]) rfl (by kernel_rfl) (by kernel_rfl) (by kernel_rfl) (fun _ _ _ h => h) (Or.inl ⟨by kernel_rfl, ?qF0⟩) (by assumption) ?rF0
          case qF0 => (intro w hSw; (try dsimp only at hSw); go_simp)
          try simp only [Act.put, List.setIfInBounds_toArray]
          refine wpAnyH_ready (rs := [1]) (by kernel_rfl) (by simp) ?_
          refine AllReadyH.cons rfl (fun K hK => ?sF1) AllReadyH.nil
          (go_simp; go_at_call 16; (with_reducible refine (HFA.out _ hk0).mono ?_); rintro e f1 ⟨rfl, hf1⟩; try go_wp2_with fail)
          refine hK.out _ _ ?_ (fun hF1 => ?_)
          · exact HSK.out _ (hk0.trans (hf1.mono hk0.size))
          clear hK K
          try simp only [Act.put, List.setIfInBounds_toArray]
          refine wpAnyH_ready (rs := [2]) (by kernel_rfl) (by simp) ?_
          refine AllReadyH.cons rfl (fun K hK => ?sF2) AllReadyH.nil
          go_simp
          refine hK.out _ _ ?_ (fun hF2 => ?_)
          · exact HSK.out _ (hk0.trans (hf1.mono hk0.size))
          clear hK K
          try simp only [Act.put, List.setIfInBounds_toArray]
          refine wpAnyH_ready (rs := [3]) (by kernel_rfl) (by simp) ?_
          refine AllReadyH.cons rfl (fun K hK => ?sF3) AllReadyH.nil
          go_simp
          refine hK.out _ _ ?_ (fun hF3 => ?_)
          · exact HSK.out _ (hk0.trans (hf1.mono hk0.size))
          clear hK K
          try simp only [Act.put, List.setIfInBounds_toArray]
          refine wpAnyH_ready (rs := [4]) (by kernel_rfl) (by simp) ?_
          refine AllReadyH.cons rfl (fun K hK => ?sF4) AllReadyH.nil
          go_simp
          refine hK.out _ _ ?_ (fun hF4 => ?_)
          · exact HSK.out _ (hk0.trans (hf1.mono hk0.size))
          clear hK K
          try simp only [Act.put, List.setIfInBounds_toArray]
          refine wpAnyH_take (i := 5) (v := .agg #[.slice Ao out.length co]) rfl (by kernel_rfl) (by kernel_rfl) (by kernel_rfl) (fun _ _ _ h => h) (Or.inl ⟨by kernel_rfl, ?qF5⟩) (by assumption) ?rF5
          case qF5 => (intro w hSw; (try dsimp only at hSw); go_simp)
          try simp only [Act.put, List.setIfInBounds_toArray]
          refine wpAnyH_take (i := 8) (v := .slice (some ⟨ab, ao, none⟩) (n + 8) k) rfl (by kernel_rfl) (by kernel_rfl) (by kernel_rfl) (fun _ _ _ h => h) (Or.inl ⟨by kernel_rfl, ?qF8⟩) (by assumption) ?rF8
          case qF8 => (intro w hSw; (try dsimp only at hSw); go_simp)
          try simp only [Act.put]
          refine wpAnyH_take (i := 9) (v := .string ⟨b.toArray⟩) rfl (by kernel_rfl) (by kernel_rfl) (by kernel_rfl) (fun _ _ _ h => h) (Or.inl ⟨by kernel_rfl, ?qF9⟩) (by assumption) ?rF9
          case qF9 => (intro w hSw; (try dsimp only at hSw); go_simp)
          try simp only [Act.put]
          refine wpAnyH_ready (rs := [6]) (by kernel_rfl) (by simp) ?_
          refine AllReadyH.cons rfl (fun K hK => ?sF6) AllReadyH.nil
          (go_simp; go_at_call 17; (with_reducible refine (HPB.out _ (hk0.trans (hf1.mono hk0.size))).mono ?_); rintro e f2 ⟨A3, n3, c3, rfl, hf2, hcv⟩; try go_wp2_with fail)
          refine hK.out _ _ ?_ (fun hF6 => ?_)
          · exact HSK.out _ ((hk0.trans (hf1.mono hk0.size)).trans (hf2.mono (hk0.trans (hf1.mono hk0.size)).size))
          clear hK K
          try simp only [Act.put, List.setIfInBounds_toArray]
          refine wpAnyH_ready (rs := [7]) (by kernel_rfl) (by simp) ?_
          refine AllReadyH.cons rfl (fun K hK => ?sF7) AllReadyH.nil
          go_simp
          refine hK.out _ _ ?_ (fun hF7 => ?_)
          · exact HSK.out _ ((hk0.trans (hf1.mono hk0.size)).trans (hf2.mono (hk0.trans (hf1.mono hk0.size)).size))
          clear hK K
          try simp only [Act.put, List.setIfInBounds_toArray]
          refine wpAnyH_ready (rs := [10]) (by kernel_rfl) (by simp) ?_
          refine AllReadyH.cons rfl (fun K hK => ?sF10) AllReadyH.nil
          go_simp
          refine hK.out _ _ ?_ (fun hF10 => ?_)
          · exact HSK.out _ ((hk0.trans (hf1.mono hk0.size)).trans (hf2.mono (hk0.trans (hf1.mono hk0.size)).size))
          clear hK K
          try simp only [Act.put, List.setIfInBounds_toArray]
          refine wpAnyH_ready (rs := [11]) (by kernel_rfl) (by simp) ?_
          refine AllReadyH.cons rfl (fun K hK => ?sF11) AllReadyH.nil
          go_simp
          refine hK.out _ _ ?_ (fun hF11 => ?_)
          · exact HSK.out _ ((hk0.trans (hf1.mono hk0.size)).trans (hf2.mono (hk0.trans (hf1.mono hk0.size)).size))
          clear hK K
          try simp only [Act.put, List.setIfInBounds_toArray]
          refine wpAnyH_done (by kernel_rfl) ?_ _
          refine NoPanic.normal ?_
          have st8 := st.below ((hk0.trans (hf1.mono hk0.size)).trans (hf2.mono (hk0.trans (hf1.mono hk0.size)).size))
          clear hf1 hf2 hcv
          go_wp2_with fail
          go_at_call 18
          refine (fault_b _ 1 0).mono ?_
          rintro e w9 ⟨rfl, hb9⟩
          have st9 := st8.below hb9
          have y0 := (st9.r1.cell 0).trans (rfl : _ = some (Value.slice none 0 0))
          have y1 := st9.r1.lt
          have y2 := st9.r1.frozen 0
          have z0 := (st9.r2.cell 0).trans (rfl : _ = some (Value.int .i64 0))
          have z1 := (st9.r2.cell 1).trans (rfl : _ = some (Value.int .i64 0))
          have z2 := st9.r2.lt
          have z3 := st9.r2.frozen 0
          have z4 := st9.r2.frozen 1
          clear hb9
          go_wp2_with fail
          obtain ⟨k1, k2, k3⟩ := put12 st9.r1 st9.r2 (by omega) (.slice none 0 0) (.int .i64 1) (.int .i64 0)
          refine bodyPost_ret (results_24_28 rfl _ _ w.heap.size (w.heap.size + 1) (.slice none 0 0) (.int .i64 1) (.int .i64 0) rfl rfl k1 k2) rfl ?_
          exact HNO.out _ (k3 _ _ (by omega) (by omega) st9.bel)
      · have hr : r = ([], [], (1, 0)) := by rw [HR0.out, if_pos (.inl hv0)]
        have HNO := Lib.hid (fun (w' : World) (hb : Below w.heap.size w w') => RqPost.no hr hb)
        have hx1 : ((Ob.stF out).1 == 0) = false := by simpa using hv0
        have hx2 : ((Ob.stF out).1 != 0) = true := by simpa using hv0
        clear HR0 hr hv0 HPB
        unfold FaultPost at HFA
        generalize (Ob.stF out).1 = x1 at *
        generalize (Ob.stF out).2 = x2 at *
        go_wp2_with fail
        refine wp_region_noPanic ?_
        refine wp_region_held_drew (S := (fun w6 : World => w6.cell? ⟨g, 0, none⟩ = some (.slice Ao out.length co) ∧ (convert 26 9 (.slice (some ⟨ab, ao, none⟩) (n + 8) k)).run Try.prog w6 = .ok (.string ⟨b.toArray⟩) w6)) (by kernel_rfl) ?_ (fun hG => ?_)
        · exact HSK.out _ hk0
        refine wpAnyH_take (i := 0) (v := .agg #[.slice Ao out.length co]) rfl (by kernel_rfl) (by kernel_rfl) (by kernel_rfl) (fun _ _ _ h => h) (Or.inl ⟨by kernel_rfl, ?qG0⟩) (by assumption) ?rG0
        case qG0 => (intro w hSw; (try dsimp only at hSw); go_simp)
        try simp only [Act.put, List.setIfInBounds_toArray]
        refine wpAnyH_ready (rs := [1]) (by kernel_rfl) (by simp) ?_
        refine AllReadyH.cons rfl (fun K hK => ?sG1) AllReadyH.nil
        (go_simp; go_at_call 16; (with_reducible refine (HFA.out _ hk0).mono ?_); rintro e f1 ⟨rfl, hf1⟩; try go_wp2_with fail)
        refine hK.out _ _ ?_ (fun hG1 => ?_)
        · exact HSK.out _ (hk0.trans (hf1.mono hk0.size))
        clear hK K
        try simp only [Act.put, List.setIfInBounds_toArray]
        refine wpAnyH_ready (rs := [2]) (by kernel_rfl) (by simp) ?_
        refine AllReadyH.cons rfl (fun K hK => ?sG2) AllReadyH.nil
        go_simp
        refine hK.out _ _ ?_ (fun hG2 => ?_)
        · exact HSK.out _ (hk0.trans (hf1.mono hk0.size))
        clear hK K
        try simp only [Act.put, List.setIfInBounds_toArray]
        refine wpAnyH_ready (rs := [3]) (by kernel_rfl) (by simp) ?_
        refine AllReadyH.cons rfl (fun K hK => ?sG3) AllReadyH.nil
        go_simp
        refine hK.out _ _ ?_ (fun hG3 => ?_)
        · exact HSK.out _ (hk0.trans (hf1.mono hk0.size))
        clear hK K
        try simp only [Act.put, List.setIfInBounds_toArray]
        refine wpAnyH_ready (rs := [4]) (by kernel_rfl) (by simp) ?_
        refine AllReadyH.cons rfl (fun K hK => ?sG4) AllReadyH.nil
        go_simp
        refine hK.out _ _ ?_ (fun hG4 => ?_)
        · exact HSK.out _ (hk0.trans (hf1.mono hk0.size))
        clear hK K
        try simp only [Act.put, List.setIfInBounds_toArray]
        refine wpAnyH_take (i := 5) (v := undef) rfl (by kernel_rfl) (by kernel_rfl) (by kernel_rfl) (fun _ _ _ h => h) (Or.inr ⟨by kernel_rfl, rfl⟩) (by assumption) ?rG5
        try simp only [Act.put, List.setIfInBounds_toArray]
        refine wpAnyH_take (i := 6) (v := undef) rfl (by kernel_rfl) (by kernel_rfl) (by kernel_rfl) (fun _ _ _ h => h) (Or.inr ⟨by kernel_rfl, rfl⟩) (by assumption) ?rG6
        try simp only [Act.put]
        refine wpAnyH_take (i := 7) (v := undef) rfl (by kernel_rfl) (by kernel_rfl) (by kernel_rfl) (fun _ _ _ h => h) (Or.inr ⟨by kernel_rfl, rfl⟩) (by assumption) ?rG7
        try simp only [Act.put]
        refine wpAnyH_take (i := 8) (v := undef) rfl (by kernel_rfl) (by kernel_rfl) (by kernel_rfl) (fun _ _ _ h => h) (Or.inr ⟨by kernel_rfl, rfl⟩) (by assumption) ?rG8
        try simp only [Act.put]
        refine wpAnyH_take (i := 9) (v := undef) rfl (by kernel_rfl) (by kernel_rfl) (by kernel_rfl) (fun _ _ _ h => h) (Or.inr ⟨by kernel_rfl, rfl⟩) (by assumption) ?rG9
        try simp only [Act.put]
        refine wpAnyH_take (i := 10) (v := undef) rfl (by kernel_rfl) (by kernel_rfl) (by kernel_rfl) (fun _ _ _ h => h) (Or.inr ⟨by kernel_rfl, rfl⟩) (by assumption) ?rG10
        try simp only [Act.put]
        refine wpAnyH_ready (rs := [11]) (by kernel_rfl) (by simp) ?_
        refine AllReadyH.cons rfl (fun K hK => ?sG11) AllReadyH.nil
        go_simp
        refine hK.out _ _ ?_ (fun hG11 => ?_)
        · exact HSK.out _ (hk0.trans (hf1.mono hk0.size))
        clear hK K
        try simp only [Act.put, List.setIfInBounds_toArray]
        refine wpAnyH_done (by kernel_rfl) ?_ _
        refine NoPanic.normal ?_
        have st8 := st.below (hk0.trans (hf1.mono hk0.size))
        clear hf1
        go_wp2_with fail
        go_at_call 18
        refine (fault_b _ 1 0).mono ?_
        rintro e w9 ⟨rfl, hb9⟩
        have st9 := st8.below hb9
        have y0 := (st9.r1.cell 0).trans (rfl : _ = some (Value.slice none 0 0))
        have y1 := st9.r1.lt
        have y2 := st9.r1.frozen 0
        have z0 := (st9.r2.cell 0).trans (rfl : _ = some (Value.int .i64 0))
        have z1 := (st9.r2.cell 1).trans (rfl : _ = some (Value.int .i64 0))
        have z2 := st9.r2.lt
        have z3 := st9.r2.frozen 0
        have z4 := st9.r2.frozen 1
        clear hb9
        go_wp2_with fail
        obtain ⟨k1, k2, k3⟩ := put12 st9.r1 st9.r2 (by omega) (.slice none 0 0) (.int .i64 1) (.int .i64 0)
        refine bodyPost_ret (results_24_28 rfl _ _ w.heap.size (w.heap.size + 1) (.slice none 0 0) (.int .i64 1) (.int .i64 0) rfl rfl k1 k2) rfl ?_
        exact HNO.out _ (k3 _ _ (by omega) (by omega) st9.bel)
    · obtain ⟨c, rfl⟩ : ∃ c', c = c' + 1 := ⟨c - 1, by omega⟩
      have hcp : (0 : Int) < (c : Int) + 1 := by omega
      have hce : ((c + 1 : Nat) : Int) = (c : Int) + 1 := by omega
      rw [hce]
      clear hce hc0
      have hbl : n ≤ b.length := by have := HTL.out; omega
      have hrl : ((b.take n).drop a).length = n - a := by simp; omega
      by_cases h4a : n < a + 4
      · have HNO := Lib.hid (fun (w' : World) (hb : Below w.heap.size w w') => RqPost.no (rdF_no HRD.out (fun h => not_isP hbl (.inl h4a) ha h.1)) hb)
        have h4a' : (n : Int) < (a : Int) + 4 := by omega
        clear HRD HOK hrl hbl
        generalize RqPost w r = R at *
        go_wp2_with fail
        go_at_call 18
        refine (fault_b _ 1 0).mono ?_
        rintro e w9 ⟨rfl, hb9⟩
        have st9 := st.below hb9
        have y0 := (st9.r1.cell 0).trans (rfl : _ = some (Value.slice none 0 0))
        have y1 := st9.r1.lt
        have y2 := st9.r1.frozen 0
        have z0 := (st9.r2.cell 0).trans (rfl : _ = some (Value.int .i64 0))
        have z1 := (st9.r2.cell 1).trans (rfl : _ = some (Value.int .i64 0))
        have z2 := st9.r2.lt
        have z3 := st9.r2.frozen 0
        have z4 := st9.r2.frozen 1
        clear hb9
        go_wp2_with fail
        obtain ⟨k1, k2, k3⟩ := put12 st9.r1 st9.r2 (by omega) (.slice none 0 0) (.int .i64 1) (.int .i64 0)
        refine bodyPost_ret (results_24_28 rfl _ _ w.heap.size (w.heap.size + 1) (.slice none 0 0) (.int .i64 1) (.int .i64 0) rfl rfl k1 k2) rfl ?_
        exact HNO.out _ (k3 _ _ (by omega) (by omega) st9.bel)
      · have h4a' : ¬ (n : Int) < (a : Int) + 4 := by omega
        have e0 := bt_drop b n a 0 (by omega) hbl
        have e1 := bt_drop b n a 1 (by omega) hbl
        have e2 := bt_drop b n a 2 (by omega) hbl
        have e3 := bt_drop b n a 3 (by omega) hbl
        rw [Nat.add_zero] at e0
        have c0 := HBY.out wo st.bel a (by omega)
        have c1 := HBY.out wo st.bel (a + 1) (by omega)
        have c2 := HBY.out wo st.bel (a + 2) (by omega)
        have c3 := HBY.out wo st.bel (a + 3) (by omega)
        have HDR : Hid (∀ i, ((b.take n).drop a).drop i = (b.take n).drop (a + i)) := Lib.hid fun i => List.drop_drop
        have HRB := Lib.hid (fun i (h : a + i < n) => bt_drop b n a i h hbl)
        have HIP := Lib.hid (fun h => not_isP hbl (a := a) (.inr h) ha)
        generalize hrest : (b.take n).drop a = rest at *
        have HRS := Lib.hid hrest
        clear hrest
        have HL0 : Hid (Ob.enL rest = 4 + 8 * Ob.bt b (a + 1) + (Ob.bt b (a + 2) * 256 + Ob.bt b (a + 3))) := Lib.hid (by unfold Ob.enL; rw [e1, e2, e3])
        have HP0 : Hid (Ob.obP rest = ⟨Ob.bt rest 0, Ob.lks rest (Ob.bt b (a + 1)), (rest.drop (4 + 8 * Ob.bt b (a + 1))).take (Ob.bt b (a + 2) * 256 + Ob.bt b (a + 3))⟩) := Lib.hid (by unfold Ob.obP; rw [e1, e2, e3])
        have HB0 := Lib.hid e0
        have q0 := Ob.bt_lt b a
        have q1 := Ob.bt_lt b (a + 1)
        have q2 := Ob.bt_lt b (a + 2)
        have q3 := Ob.bt_lt b (a + 3)
        clear e0 e1 e2 e3
        generalize Ob.bt b a = k0 at *
        generalize Ob.bt b (a + 1) = nl at *
        generalize Ob.bt b (a + 2) = d2 at *
        generalize Ob.bt b (a + 3) = d3 at *
        obtain ⟨ds, hds⟩ : ∃ ds, ds = d2 * 256 + d3 := ⟨_, rfl⟩
        rw [← hds] at HL0 HP0
        have hdse : 256 * (d2 : Int) + (d3 : Int) = (ds : Int) := by omega
        have hdl : ds < 65536 := by omega
        have HRL := Lib.hid hrl
        clear hds hrl
        have t1 : ((a : Int) + 1).toNat = a + 1 := by omega
        have t2 : ((a : Int) + 2).toNat = a + 2 := by omega
        have t3 : ((a : Int) + 3).toNat = a + 3 := by omega
        have p0 : (0 : Int) ≤ a := by omega
        have p1 : (0 : Int) ≤ (a : Int) + 1 := by omega
        have p2 : (0 : Int) ≤ (a : Int) + 2 := by omega
        have p3 : (0 : Int) ≤ (a : Int) + 3 := by omega
        have l0 : (a : Int) < (n : Int) + 8 := by omega
        have l1 : (a : Int) + 1 < (n : Int) + 8 := by omega
        have l2 : (a : Int) + 2 < (n : Int) + 8 := by omega
        have l3 : (a : Int) + 3 < (n : Int) + 8 := by omega
        have hbx := below_alloc1 wo (.cells #[.int .i64 (k0 : Int), .slice none 0 0, .slice none 0 0] 44)
        by_cases hfit : n < a + 4 + 8 * nl + ds
        · have HNO := Lib.hid (fun (w' : World) (hb : Below w.heap.size w w') => RqPost.no (rdF_no HRD.out (fun h => HIP.out (by rw [HL0.out]; omega) h.1)) hb)
          have hfit' : (n : Int) < (a : Int) + 4 + 8 * (nl : Int) + (ds : Int) := by omega
          have st6 := st.below hbx
          clear HRD HOK HIP HRB HDR HBY HSV HCB HL0 HP0 HRS st
          generalize RqPost w r = R at *
          go_wp2_with fail
          go_quiet (fail)
          go_wp2_with fail
          go_at_call 18
          refine (fault_b _ 1 0).mono ?_
          rintro e w9 ⟨rfl, hb9⟩
          have st9 := (st6.below (below_drewN (Below.refl _ _) _)).below hb9
          have y0 := (st9.r1.cell 0).trans (rfl : _ = some (Value.slice none 0 0))
          have y1 := st9.r1.lt
          have y2 := st9.r1.frozen 0
          have z0 := (st9.r2.cell 0).trans (rfl : _ = some (Value.int .i64 0))
          have z1 := (st9.r2.cell 1).trans (rfl : _ = some (Value.int .i64 0))
          have z2 := st9.r2.lt
          have z3 := st9.r2.frozen 0
          have z4 := st9.r2.frozen 1
          clear hb9
          go_wp2_with fail
          obtain ⟨k1, k2, k3⟩ := put12 st9.r1 st9.r2 (by omega) (.slice none 0 0) (.int .i64 1) (.int .i64 0)
          refine bodyPost_ret (results_24_28 rfl _ _ w.heap.size (w.heap.size + 1) (.slice none 0 0) (.int .i64 1) (.int .i64 0) rfl rfl k1 k2) rfl ?_
          exact HNO.out _ (k3 _ _ (by omega) (by omega) st9.bel)
        · have hfit' : ¬ (n : Int) < (a : Int) + 4 + 8 * (nl : Int) + (ds : Int) := by omega
          have ro0 : RoSt wo (wo.alloc (.cells #[.int .i64 (k0 : Int), .slice none 0 0, .slice none 0 0] 44)) rest 0 none 0 := ⟨by rw [HB0.out]; exact Blk.new _ _ _, World.ownsRow_nil _ _ _ _, hbx⟩
          clear HIP
          go_wp2_with fail
          go_quiet (fail)
          go_wp2_with fail
          clear c0 c1 c2 c3 t1 t2 t3 p1 p2 p3 l0 l1 l2 l3 hdse hbx q0 q2 q3
          go_loopw [5, 10] (fun av kv wr => ∃ (j : Nat) (Al : Option Addr) (kl : Nat), j ≤ nl ∧ av = .int .i64 ((a + 4 + 8 * j : Nat) : Int) ∧ kv = .int .i64 j ∧ RoSt wo wr rest j Al kl) (fun _ kv _ => nl - (intOf kv).toNat)
          case atStart => exact ⟨0, none, 0, Nat.zero_le _, by congr 1, rfl, ro0.below (below_drewN (Below.refl _ _) _)⟩
          case round =>
            obtain ⟨j, Al, kl, hj, rfl, rfl, ro⟩ := hrel
            obtain ⟨wi, rfl⟩ : ∃ wi : World, wi = wr := ⟨_, rfl⟩
            clear ro0
            have hbw := st.bel.trans (ro.bel.mono hsz)
            have habi : ab < wi.heap.size := Nat.lt_of_lt_of_le hab hbw.size
            by_cases hjl : j < nl
            · have hjl' : (j : Int) < nl := by omega
              have hld : (rest.drop (4 + 8 * j)).length = n - (a + (4 + 8 * j)) := by rw [List.length_drop, HRL.out]; omega
              obtain ⟨a1, ha1⟩ : ∃ a1, a1 = a + 4 + 8 * j := ⟨_, rfl⟩
              have ha8 : a1 + 8 ≤ n := by omega
              have hae : a + 4 + 8 * (j + 1) = a1 + 8 := by omega
              have HAE := Lib.hid hae
              have HBT : Hid (∀ q, q < 8 → ∀ h : q < (rest.drop (4 + 8 * j)).length, (rest.drop (4 + 8 * j))[q].toNat = Ob.bt b (a1 + q)) := Lib.hid fun q hq h => by
                rw [List.getElem_drop, Ob.bt_eq, HRB.out _ (by omega)]
                congr 1; omega
              have HNI : Hid (Ob.numI (rest.drop (4 + 8 * j)) = Ob.i64 (Ob.numN ((rest.drop (4 + 8 * j)).take 8))) := Lib.hid rfl
              rw [← ha1]
              have hl8 : 8 ≤ (rest.drop (4 + 8 * j)).length := by omega
              clear hae hld ha1
              generalize hll : rest.drop (4 + 8 * j) = l at *
              have HLL := Lib.hid hll
              clear hll
              go_wp2_with fail
              go_loop [11, 12] (fun dv qv => ∃ q : Nat, q ≤ 8 ∧ dv = .int .i64 (Ob.i64 (Ob.numN (l.take q))) ∧ qv = .int .i64 q) (fun _ qv => 8 - (intOf qv).toNat)
              case atStart => exact ⟨0, by omega, rfl, rfl⟩
              case round =>
                obtain ⟨q, hq, rfl, rfl⟩ := hrel
                by_cases hq8 : q < 8
                · have hql : q < l.length := by omega
                  have hq8' : (q : Int) < 8 := by omega
                  have hq0 : (0 : Int) ≤ q := by omega
                  have hby := HBY.out wi hbw (a1 + q) (by omega)
                  have hlt := Ob.numN_lt l q
                  have hp : 256 ^ q ≤ 256 ^ 7 := Nat.pow_le_pow_right (by omega) (by omega)
                  have hs := Ob.numN_succ l q hql
                  rw [HBT.out q hq8 hql] at hs
                  have hb1 := Ob.bt_lt b (a1 + q)
                  generalize Ob.numN (l.take q) = m at *
                  generalize hme : Ob.numN (l.take (q + 1)) = m2 at *
                  have HE := Lib.hid hme
                  clear hme
                  generalize Ob.bt b (a1 + q) = x at *
                  have hm : m < 72057594037927936 := by omega
                  have hi64 : Ob.i64 m = m := by unfold Ob.i64; rw [if_pos (by omega)]
                  rw [hi64]
                  have u1 : ((a1 : Int) + (q : Int)).toNat = a1 + q := by omega
                  have u2 : (0 : Int) ≤ (a1 : Int) + (q : Int) := by omega
                  have u3 : (a1 : Int) + (q : Int) < (n : Int) + 8 := by omega
                  by_cases h55 : m < 36028797018963968
                  · have hm2 : Ob.i64 m2 = 256 * (m : Int) + x := by unfold Ob.i64; rw [if_pos (by omega)]; omega
                    have HM := Lib.hid hm2
                    clear hm2 hs hlt hp hi64
                    go_wp2_with fail
                    go_round
                    case rel => exact ⟨q + 1, by omega, by rw [HE.out, HM.out], by go_num⟩
                    case measure => simp [intOf]; omega
                  · have hw : IntKind.i64.wrap (256 * (m : Int)) = 256 * (m : Int) - 18446744073709551616 := by rw [IntKind.wrap_i64]; omega
                    have hw2 : IntKind.i64.wrap (256 * (m : Int) + x) = 256 * (m : Int) - 18446744073709551616 + x := by rw [IntKind.wrap_i64]; omega
                    have hm2 : Ob.i64 m2 = 256 * (m : Int) - 18446744073709551616 + x := by unfold Ob.i64; rw [if_neg (by omega)]; omega
                    have HM := Lib.hid hm2
                    clear hm2 hs hlt hp hi64
                    go_wp2_with fail
                    go_round
                    case rel => exact ⟨q + 1, by omega, by rw [HE.out, HM.out], by go_num⟩
                    case measure => simp [intOf]; omega
                · obtain rfl : q = 8 := by omega
                  rw [← HNI.out]
                  obtain ⟨v, hv⟩ : ∃ v, v = Ob.numI l := ⟨_, rfl⟩
                  rw [← hv]
                  have HVV := Lib.hid hv
                  clear hv
                  have x0 := (ro.bo.cell 1).trans (rfl : _ = some (Value.slice Al j kl))
                  have x1 := ro.bo.lt
                  have hsv : SV (wi.alloc (.cells #[.int .i64 v] 3)) (wi.heap.size + 1) (some ⟨wi.heap.size, 0, none⟩) [.int .i64 v] := by
                    have := SV.lit wi #[.int .i64 v] 3
                    simpa using this
                  go_wp2_with (first | (at_builtin; go_loud (refine wpList_appNo _ rfl (.tmp 117) (.tmp 119) 42 rfl (wo.heap.size + 1) 3 j0 _ 1 8 Try.underlying42 hJ0 hY0 hY1 hY2 rfl (by decide) Al j kl (intsV (Ob.lks rest j)) rfl (ro.own.alloc _) _ (some ⟨wi.heap.size, 0, none⟩) 1 1 [.int .i64 v] rfl rfl hsv (fun u hu => by simp at hu; subst hu; rfl) ?ha1 ?hb1 ?hc1 ?_)))
                  case ha1 => unfold maxLen; omega
                  case hb1 => omega
                  case hc1 => have := ro.bo.lt; simp; omega
                  intro A4 c4 w4 hown4 hg4 _ _
                  obtain ⟨gd, _, rfl, _⟩ := own_blk hown4 (by omega)
                  rw [HVV.out, ← HLL.out] at hown4
                  have ro6 := ro.app (o0 := .cells #[.int .i64 v] 3) hg4 hown4
                  have out4 := (ro.bo.alloc (.cells #[.int .i64 v] 3)).grown hg4 (fun e => by have := (ro.own.lt _ e.symm).1; omega)
                  have r5 := (out4.cell 1).trans (rfl : _ = some (Value.slice Al j kl))
                  have r6 := out4.frozen 1
                  have r7 := out4.lt
                  clear hown4 hg4 out4 hsv
                  go_wp2_with fail
                  go_roundw
                  case rel => exact ⟨j + 1, _, _, by omega, by rw [HAE.out]; go_num, by go_num, ro6⟩
                  case measure => simp [intOf]; omega
            · obtain rfl : j = nl := by omega
              obtain ⟨a1, ha1⟩ : ∃ a1, a1 = a + 4 + 8 * j := ⟨_, rfl⟩
              have hd4 : rest.drop (4 + 8 * j) = (b.take n).drop a1 := by rw [HDR.out, ha1, Nat.add_assoc]
              have hdat : ((rest.drop (4 + 8 * j)).take ds).length = ds := by rw [List.length_take, List.length_drop, HRL.out]; omega
              have hsv : SV wi wi.heap.size (some ⟨ab, ao + a1, none⟩) (bytesV ((rest.drop (4 + 8 * j)).take ds)) := by rw [hd4]; exact HSV.out wi hbw a1 ds (by omega) (by omega)
              have HA1 := Lib.hid ha1
              have hpp : Ob.isP rest := ⟨by rw [HRL.out]; omega, by rw [HL0.out, HRL.out]; omega⟩
              have hen : rest.drop (Ob.enL rest) = (b.take n).drop (a1 + ds) := by rw [HL0.out, HDR.out]; congr 1; omega
              have HPP := Lib.hid hpp
              have HEN := Lib.hid hen
              have hfd : 4 + 8 * j + ds ≤ rest.length := by rw [HRL.out]; omega
              have hrl4 : rest.length ≤ 4096 := by rw [HRL.out]; omega
              rw [← ha1]
              have u0 : (0 : Int) ≤ a1 := by omega
              have u1 : ((a1 : Int) + (ds : Int)).toNat = a1 + ds := by omega
              have u2 : (a1 : Int) ≤ (a1 : Int) + (ds : Int) := by omega
              have u3 : (a1 : Int) + (ds : Int) ≤ k := by omega
              have u4 : (a1 : Int) ≤ k := by omega
              have u5 : ¬ k = a1 := by omega
              have u6 : (0 : Int) ≤ (a1 : Int) + (ds : Int) := by omega
              have had : a1 + ds ≤ n := by omega
              have hwr : IntKind.i64.wrap ((a1 : Int) + (ds : Int)) = (a1 : Int) + (ds : Int) := IntWalk.i64_in _ (by omega)
              have q0 := (ro.bo.cell 0).trans (rfl : _ = some (Value.int .i64 (Ob.bt rest 0)))
              have q1 := (ro.bo.cell 1).trans (rfl : _ = some (Value.slice Al j kl))
              have q2 := (ro.bo.cell 2).trans (rfl : _ = some (Value.slice none 0 0))
              have q3 := ro.bo.lt
              have hby : (0 + ds) * 1 ≤ 140737488355328 := by omega
              have h63 : 0 + ds ≤ maxLen := by unfold maxLen; omega
              have hlen : (bytesV ((rest.drop (4 + 8 * j)).take ds)).length = ds * 1 := by rw [bytesV_length, hdat]; omega
              have HDAT := Lib.hid hdat
              clear ha1 hd4 hdat hpp hen
              go_wp2_with fail
              go_region_law
                (refine step_appM _ rfl (.tmp 125) (.tmp 131) 26 rfl wi.heap.size 5 uu0 _ 1 1 Try.underlying26 hU0 hX0 hX1 hX2 rfl (by decide) none 0 0 [] rfl (World.ownsRow_nil _ _ _ _) wi.heap.size (some ⟨ab, ao + a1, none⟩) ds (k - a1) (bytesV ((rest.drop (4 + 8 * j)).take ds)) rfl hlen hsv (bytesV_one _) h63 hby (Nat.le_refl _) ?_; intro A5 c5 w5 hown5 hg5 hc5; have bo5 := ro.bo.drew.grown hg5 (fun e => by cases e); have r0 := (bo5.cell 0).trans (rfl : _ = some (Value.int .i64 (Ob.bt rest 0))); have r1 := (bo5.cell 1).trans (rfl : _ = some (Value.slice Al j kl)); have r2 := (bo5.cell 2).trans (rfl : _ = some (Value.slice none 0 0)); have r3 := bo5.frozen 2; have r4 := bo5.lt)
              all_goals
                have b5 := (below_drew' ro.bel).grown hg5 (by have := ro.bel.size; simp <;> omega) (fun b hb => by cases hb)
                have l5 := own_kept (base' := wi.heap.size) ro.own.drew hg5 (fun g hg => by cases hg) (fun g hg => (ro.own.lt g hg).2)
                rw [Nat.zero_add, List.nil_append] at hown5
                have hlo := ro.bo.lt
                obtain ⟨w6, hw6⟩ : ∃ w6 : World, w6 = w5.setCell ⟨wo.heap.size, 2, none⟩ (.slice A5 ds c5) := ⟨_, rfl⟩
                rw [← hw6]
                have bo6 : Blk w6 wo.heap.size 44 #[.int .i64 (Ob.bt rest 0), .slice Al j kl, .slice A5 ds c5] := by rw [hw6]; simpa using bo5.set_ 2 (.slice A5 ds c5)
                have b6 := b5.setCell (p := ⟨wo.heap.size, 2, none⟩) (Nat.le_refl _) (.slice A5 ds c5)
                have l6 := own_setCell (p := ⟨wo.heap.size, 2, none⟩) l5 (fun e => by have := (l5.lt _ e.symm).1; simp only at this; omega) (.slice A5 ds c5)
                have d6 := own_setCell (p := ⟨wo.heap.size, 2, none⟩) hown5 (fun e => by have := (hown5.lt _ e.symm).1; simp only at this; omega) (.slice A5 ds c5)
                rw [← hw6] at b6 l6 d6
                clear hw6 r0 r1 r2 r3 r4 bo5 b5 l5 hown5 hg5 hc5 q0 q1 q2 q3 hsv hlen
                have hob6 := (ro_ob HP0.out hfd hrl4 l6 d6 ro.bel.size).2
                have st6 := st.below b6
                have bo7 : Blk w6 wo.heap.size 44 #[.int .i64 (Ob.obP rest).kind, .slice Al (Ob.obP rest).links.length kl, .slice A5 (Ob.obP rest).data.length c5] := by
                  rw [HP0.out]; simp only [Ob.lks_length, HDAT.out]; exact bo6
                have HFT := Lib.hid (obFault_any w6 (Ob.obP rest) Al kl A5 c5 (hob6.mono_ (fun _ h => h.elim)))
                clear l6 d6 bo6 ro hlo HP0 HDAT hrl4 hfd u0 u1 u2 u3 u4 u5 u6 hwr hby h63 HSV HBY HCB HB0 HRB HDR
                by_cases hf : (Ob.obF (Ob.obP rest)).1 = 0
                · have hok := (Ob.obF_ok hf).2
                  have HNX := Lib.hid (rdF_next HRD.out HPP.out hf)
                  rw [HEN.out] at HNX
                  have hdg := Ob.dig_lt (Ob.obP rest)
                  have HOK2 := Lib.hid (ok_app (x := ⟨((Ob.dig (Ob.obP rest) : Nat) : Int), Ob.obP rest⟩) HOK.out hok)
                  have HDG : Hid (∀ w' : World, ObA w' Free (Ob.obP rest) Al kl A5 c5 → Calls Try.prog 31 #[obV (Ob.obP rest) Al kl A5 c5] w' fun e w2 => e = .returned (.int .i64 ((Ob.dig (Ob.obP rest) : Nat) : Int)) ∧ Below w'.heap.size w' w2) := Lib.hid fun w' h => objDigest_any w' (Ob.obP rest) Al kl A5 c5 h hok
                  rw [(Ob.obF_ok hf).1] at HFT
                  have hUN : ∀ b', Or1 (Under (g + 1)) (.slice Ao out.length co) b' → Under wo.heap.size b' := fun b' hb => by
                    have h3 := st.sb.lt
                    rcases hb with hb | hb
                    · unfold Under at *; omega
                    · exact (st.own.lt _ hb).2
                  have hob7 := hob6.mono_ hUN
                  clear HRD HOK hf hok HEN HPP hUN hob6 st b6
                  generalize Ob.dig (Ob.obP rest) = dg at *
                  generalize Ob.obP rest = o at *
                  obtain ⟨kk, ls, da⟩ := o
                  simp only [obV] at HFT HDG
                  have h64 : I64 (dg : Int) := by unfold I64; omega
                  have n0 := (bo7.cell 0).trans (rfl : _ = some (Value.int .i64 kk))
                  have n1 := (bo7.cell 1).trans (rfl : _ = some (Value.slice Al ls.length kl))
                  have n2 := (bo7.cell 2).trans (rfl : _ = some (Value.slice A5 da.length c5))
                  have n3 := bo7.lt
                  go_wp2_with fail
                  go_at_call 30
                  refine HFT.out.mono ?_
                  rintro e w7 ⟨rfl, hb7⟩
                  have st7 := st6.below hb7
                  have bo8 := bo7.below hb7 bo7.lt
                  have hob8 := hob7.keep (any_below hb7)
                  clear hb7 HFT st6 bo7 hob7 n0 n1 n2 n3
                  have n0 := (bo8.cell 0).trans (rfl : _ = some (Value.int .i64 kk))
                  have n1 := (bo8.cell 1).trans (rfl : _ = some (Value.slice Al ls.length kl))
                  have n2 := (bo8.cell 2).trans (rfl : _ = some (Value.slice A5 da.length c5))
                  have n3 := bo8.lt
                  have q0 := (st7.sb.cell 0).trans (rfl : _ = some (Value.slice Ao out.length co))
                  have q1 := st7.sb.lt
                  have hk0 : Below w7.heap.size w7 w7.drew := below_drew' (Below.refl _ _)
                  have HD7 := Lib.hid (HDG.out w7.drew ((hob8.keep (any_below hk0)).mono_ (fun _ h => h.elim)))
                  have hne46 : (46 : TypeId) ≠ 24 := by decide
                  have holn : out.length ≤ 300 := by have := HOL.out; omega
                  have h63 : out.length + 1 ≤ maxLen := by unfold maxLen; omega
                  have hby : (out.length + 1) * 64 ≤ 140737488355328 := by omega
                  clear HDG
                  go_wp2_with fail
                  go_region_law
                    (first
                      | (go_simp; go_at_call 31; (with_reducible refine HD7.out.mono ?_); rintro e w8 ⟨rfl, hb8⟩; have hk8 := hk0.trans (hb8.mono hk0.size); have st8 := st7.below hk8; have bo9 := bo8.below hk8 n3; have p0 := (st8.sb.cell 0).trans (rfl : _ = some (Value.slice Ao out.length co)); have z3 := st8.sb.lt; have m0 := (bo9.cell 0).trans (rfl : _ = some (Value.int .i64 kk)); have m1 := (bo9.cell 1).trans (rfl : _ = some (Value.slice Al ls.length kl)); have m2 := (bo9.cell 2).trans (rfl : _ = some (Value.slice A5 da.length c5)); have m3 := bo9.lt; go_wp2_with fail)
                      | (refine step_appNo _ rfl (.tmp 144) (.tmp 149) 22 rfl (g + 1) 46 i0 _ 4 64 Try.underlying22 hI0 hZ0 hZ1 hZ2 rfl (by decide) Ao out.length co xs rfl (st8.own.alloc _) w8.heap.size 1 [.int .i64 (dg : Int), .int .i64 kk, .slice Al ls.length kl, .slice A5 da.length c5] rfl rfl (fun j' v hj => cells_new w8 #[.int .i64 (dg : Int), .int .i64 kk, .slice Al ls.length kl, .slice A5 da.length c5] 46 j' v hj) (st_one _ _ _ _ _ _ _ _) h63 hby (Nat.le_trans (Nat.succ_le_of_lt st8.sb.lt) (size_alloc_le _ _)) ?_; intro gd c9 w9 hown9 hg9 hob9; have out9 := (st8.sb.alloc (.cells #[.int .i64 (dg : Int), .int .i64 kk, .slice Al ls.length kl, .slice A5 da.length c5] 46)).grown hg9 (own_blk_ne st8.own st8.sb hne46); have r5 := (out9.cell 0).trans (rfl : _ = some (Value.slice Ao out.length co)); have r6 := out9.frozen 0))
                  all_goals
                    have st10 := st8.app (o0 := .cells #[.int .i64 (dg : Int), .int .i64 kk, .slice Al ls.length kl, .slice A5 da.length c5] 46) (x := ⟨(dg : Int), ⟨kk, ls, da⟩⟩) hg9 hown9 (by simpa using hob9) h64 (hob8.keep (any_below hk8))
                    clear hown9 hg9 hob9 out9 r5 r6 st8 bo9 hob8
                    go_wp2_with fail
                    go_roundw
                    case rel => exact ⟨a1 + ds, c, _, c9, _, _, _, had, by go_num, by go_num, by omega, Lib.hid (by have := HOL.out; simp; omega), st10, HOK2, HNX⟩
                    case measure => simp [intOf] <;> omega
                · have HNO := Lib.hid (fun (w' : World) (hb : Below w.heap.size w w') => RqPost.no (rdF_no HRD.out (fun h => hf h.2)) hb)
                  have hc1 : ((Ob.obF (Ob.obP rest)).1 == 0) = false := by simpa using hf
                  have hc2 : ((Ob.obF (Ob.obP rest)).1 != 0) = true := by simpa using hf
                  clear HRD HOK hf HEN HPP hob6 st b6
                  unfold FaultPost at HFT
                  generalize (Ob.obF (Ob.obP rest)).1 = f1 at *
                  generalize (Ob.obF (Ob.obP rest)).2 = f2 at *
                  generalize Ob.obP rest = o at *
                  obtain ⟨kk, ls, da⟩ := o
                  simp only [obV] at HFT
                  have n0 := (bo7.cell 0).trans (rfl : _ = some (Value.int .i64 kk))
                  have n1 := (bo7.cell 1).trans (rfl : _ = some (Value.slice Al ls.length kl))
                  have n2 := (bo7.cell 2).trans (rfl : _ = some (Value.slice A5 da.length c5))
                  have n3 := bo7.lt
                  go_wp2_with fail
                  go_at_call 30
                  refine HFT.out.mono ?_
                  rintro e w7 ⟨rfl, hb7⟩
                  have st7 := st6.below hb7
                  clear hb7 HFT st6 bo7 n0 n1 n2 n3
                  go_wp2_with fail
                  go_at_call 18
                  refine (fault_b _ 1 0).mono ?_
                  rintro e w9 ⟨rfl, hb9⟩
                  have st9 := st7.below hb9
                  have y0 := (st9.r1.cell 0).trans (rfl : _ = some (Value.slice none 0 0))
                  have y1 := st9.r1.lt
                  have y2 := st9.r1.frozen 0
                  have z0 := (st9.r2.cell 0).trans (rfl : _ = some (Value.int .i64 0))
                  have z1 := (st9.r2.cell 1).trans (rfl : _ = some (Value.int .i64 0))
                  have z2 := st9.r2.lt
                  have z3 := st9.r2.frozen 0
                  have z4 := st9.r2.frozen 1
                  clear hb9
                  go_wp2_with fail
                  obtain ⟨k1, k2, k3⟩ := put12 st9.r1 st9.r2 (by omega) (.slice none 0 0) (.int .i64 1) (.int .i64 0)
                  refine bodyPost_ret (results_24_28 rfl _ _ w.heap.size (w.heap.size + 1) (.slice none 0 0) (.int .i64 1) (.int .i64 0) rfl rfl k1 k2) rfl ?_
                  exact HNO.out _ (k3 _ _ (by omega) (by omega) st9.bel)
theorem readPack_all (w : World) (A : Option Addr) (n k : Nat) (b : List UInt8) (hv : SA w Free A (bytesV b)) (hln : b.length = n) (hk : n ≤ k) : Calls Try.prog 25 #[.slice A n k] w (RqPost w (readF b)) := by
  by_cases h1 : 4096 < n
  · exact readPack_size w A n k b hln (.inl h1)
  by_cases h2 : n < 11
  · exact readPack_size w A n k b hln (.inr h2)
  obtain ⟨m, rfl⟩ : ∃ m, n = m + 8 := ⟨n - 8, by omega⟩
  by_cases h3 : Broken b
  · exact readPack_broken w A k m b hv hln (by omega) (by omega) hk h3
  · exact readPack_any w A k m b hv hln (by omega) (by omega) hk h3
end Go.Proofs.Ytiilhnfdlpgllaa
