/-
  Delta chains: walk of 'unpack'.
-/
import Derived.Test.YtiphcpibhffdjaaWalk12
import Derived.Test.YtiphcpibhffdjaaWalk10
namespace Go.Proofs.Ytiphcpibhffdjaa
open Go.RowKit Go.V
set_option linter.unusedVariables false

theorem info22 : (Try.prog.info? 22).map (fun i => (i.zero, i.size, i.bytes)) = some (some (.slice none 0 0), 1, 24) := by kernel_rfl
theorem info3 : (Try.prog.info? 3).map (fun i => (i.zero, i.size, i.bytes)) = some (some (.int .i64 0), 1, 8) := by kernel_rfl
/-- Two results in slots, the fault in a cell. -/
theorem results_ttc {fn : Func} {s t a : Tmp} (h : fn.results = #[.tmp s, .tmp t, .cell a 26]) (tmps : Array Value) (w : World) (g : Nat) (x y : Value) (ha : tmps.getD a undef = .pointer (some ⟨g, 0, none⟩)) (hb : Blk w g 26 #[x, y]) :
    (results fn tmps).run Try.prog w = .ok (.tuple #[tmps.getD s undef, tmps.getD t undef, .agg #[x, y]]) w := by
  have h0 := hb.cell 0
  have h1 := hb.cell 1
  simp only [List.getElem?_toArray, List.getElem?_cons_zero, List.getElem?_cons_succ] at h0 h1
  have ha' : tmps[a]?.getD undef = .pointer (some ⟨g, 0, none⟩) := by simpa using ha
  simp [results, h, go_sem, ha', h0, h1]
def depsI (c : List Dc.En) (i : Nat) : List Int := (Dc.deps c i).map (fun n : Nat => (n : Int))
@[simp] theorem depsI_length (c : List Dc.En) (i : Nat) : (depsI c i).length = i := by simp [depsI]
theorem depsI_succ (c : List Dc.En) (i : Nat) : depsI c (i + 1) = depsI c i ++ [((Dc.dep c i : Nat) : Int)] := by simp [depsI, Dc.deps_succ]
/-- The state of the loop of 'unpack'. -/
structure UpSt (w wr : World) (c : List Dc.En) (i j : Nat) (Av : Option Addr) (cv : Nat) (Ap : Option Addr) (cp : Nat) (xs : List Value) : Prop where
  ownV : wr.ownsRow (w.heap.size + 1) 22 1 (.slice Av i cv) i xs
  ownD : wr.ownsRow (w.heap.size + 1) 3 1 (.slice Ap j cp) j (intsV (depsI c j))
  rows : RowsR (BsR wr (Or2 (Under (w.heap.size + 1)) (.slice Av i cv) (.slice Ap j cp))) (Dc.vers c i) xs
  res : Blk wr w.heap.size 26 #[.int .i64 0, .int .i64 0]
  bel : Below w.heap.size w wr
section
variable {w wr w' : World} {c : List Dc.En} {i j : Nat} {Av : Option Addr} {cv : Nat} {Ap : Option Addr} {cp : Nat} {xs : List Value}
theorem UpSt.hi (h : UpSt w wr c i j Av cv Ap cp xs) : w.heap.size + 1 ≤ wr.heap.size := h.res.lt
theorem UpSt.below (h : UpSt w wr c i j Av cv Ap cp xs) (hb : Below wr.heap.size wr w') : UpSt w w' c i j Av cv Ap cp xs :=
  ⟨h.ownV.kept (only_of_below hb none) (by cases hv : (Value.slice Av i cv).ownBlock <;> simp), h.ownD.kept (only_of_below hb none) (by cases hv : (Value.slice Ap j cp).ownBlock <;> simp),
    h.rows.mono (BsR.keep (Keeps.below hb fun _ _ hx => hx)), h.res.below hb h.res.lt, h.bel.trans (hb.mono h.bel.size)⟩
theorem UpSt.lt (h : UpSt w wr c i j Av cv Ap cp xs) (b : Nat) (hx : Or2 (Under (w.heap.size + 1)) (.slice Av i cv) (.slice Ap j cp) b) : b < wr.heap.size := by
  rcases hx with hx | hx | hx
  · exact Nat.lt_of_lt_of_le hx h.hi
  · exact (h.ownV.lt b hx).2
  · exact (h.ownD.lt b hx).2
theorem UpSt.appV {A' : Option Addr} {c' : Nat} {cs : List Value} (h : UpSt w wr c i j Av cv Ap cp xs)
    (hc : BsR wr (Or2 (Under (w.heap.size + 1)) (.slice Av i cv) (.slice Ap j cp)) (Dc.ver c i) cs)
    (hg : wr.grownBy w' (Value.slice Av i cv).ownBlock) (hown : w'.ownsRow (w.heap.size + 1) 22 1 (.slice A' (i + 1) c') (i + 1) (xs ++ cs)) {H : Nat} (hH : wr.heap.size = H)
    (hb : (Value.slice A' (i + 1) c').ownBlock = (Value.slice Av i cv).ownBlock ∨ (Value.slice A' (i + 1) c').ownBlock = some H) : UpSt w w' c (i + 1) j A' c' Ap cp (xs ++ cs) := by
  have hk : Keeps wr (Or2 (Under (w.heap.size + 1)) (.slice Av i cv) (.slice Ap j cp)) w' (Or2 (Under (w.heap.size + 1)) (.slice A' (i + 1) c') (.slice Ap j cp)) := Keeps.or2a hg hH hb
  refine ⟨hown, h.ownD.kept hg (own_ne_own h.ownD h.ownV (by decide)), ?_, h.res.grown hg (own_blk_ne h.ownV h.res (by decide)), h.bel.grown hg h.bel.size (fun k hk => by have := (h.ownV.lt k hk).1; omega)⟩
  rw [Dc.vers_succ]
  exact (h.rows.mono (BsR.keep hk)).append (RowsR.one (BsR.keep hk _ _ hc))
theorem UpSt.appD {A' : Option Addr} {c' : Nat} (h : UpSt w wr c i j Av cv Ap cp xs)
    (hg : wr.grownBy w' (Value.slice Ap j cp).ownBlock) (hown : w'.ownsRow (w.heap.size + 1) 3 1 (.slice A' (j + 1) c') (j + 1) (intsV (depsI c j) ++ [.int .i64 ((Dc.dep c j : Nat) : Int)])) {H : Nat} (hH : wr.heap.size = H)
    (hb : (Value.slice A' (j + 1) c').ownBlock = (Value.slice Ap j cp).ownBlock ∨ (Value.slice A' (j + 1) c').ownBlock = some H) : UpSt w w' c i (j + 1) Av cv A' c' xs := by
  have hk : Keeps wr (Or2 (Under (w.heap.size + 1)) (.slice Av i cv) (.slice Ap j cp)) w' (Or2 (Under (w.heap.size + 1)) (.slice Av i cv) (.slice A' (j + 1) c')) := Keeps.or2b hg hH hb
  refine ⟨h.ownV.kept hg (own_ne_own h.ownV h.ownD (by decide)), ?_, h.rows.mono (BsR.keep hk), h.res.grown hg (own_blk_ne h.ownD h.res (by decide)), h.bel.grown hg h.bel.size (fun k hk => by have := (h.ownD.lt k hk).1; omega)⟩
  rw [depsI_succ]; unfold intsV at hown ⊢; rw [List.map_append]; exact hown
/-- A version that lies in the row. -/
theorem UpSt.ver (h : UpSt w wr c i j Av cv Ap cp xs) (q : Nat) (hq : q < i) : ∃ b off Ad kd, Av = some ⟨b, off, none⟩ ∧ b < wr.heap.size ∧ wr.cell? ⟨b, off + q, none⟩ = some (.slice Ad (Dc.ver c q).length kd) ∧ (Dc.ver c q).length ≤ kd ∧ SA wr Free Ad (bytesV (Dc.ver c q)) := by
  have hv : VsV wr Free Av (Dc.vers c i) := ⟨xs, SA.of_own h.ownV (fun b hb => hb.elim), h.rows.mono (BsR.keep ((Keeps.refl _ _).into fun b hb => hb.elim))⟩
  have hg := Dc.vers_get c q i hq
  obtain ⟨b, off, Ad, kd, e, hb, _, hc, h1, _, h3⟩ := hv.row q (by simpa using hq)
  rw [List.getElem?_eq_getElem (by simpa using hq)] at hg
  injection hg with hg
  rw [hg] at hc h1 h3
  exact ⟨b, off, Ad, kd, e, hb, hc, h1, h3⟩
theorem UpSt.dep (h : UpSt w wr c i j Av cv Ap cp xs) (q : Nat) (hq : q < j) : ∃ b off, Ap = some ⟨b, off, none⟩ ∧ b < wr.heap.size ∧ wr.cell? ⟨b, off + q, none⟩ = some (.int .i64 ((Dc.dep c q : Nat) : Int)) := by
  have hg := Dc.deps_get c q j hq
  have hl : q < (Dc.deps c j).length := by simpa using hq
  rw [List.getElem?_eq_getElem hl] at hg
  injection hg with hg
  obtain ⟨b, off, e, hb, hc⟩ := (SV.of_own h.ownD).int q (by simpa using hq)
  refine ⟨b, off, e, hb, ?_⟩
  rw [hc]; simp [depsI, hg]
end
/-- Versions, depths and a fault. -/
def UnPost (w : World) (c : List Dc.En) (e : Ending) (w' : World) : Prop :=
  Below w.heap.size w w' ∧ (((Dc.chFault c).1 ≠ 0 ∧ e = .returned (.tuple #[.slice none 0 0, .slice none 0 0, .agg #[.int .i64 (Dc.chFault c).1, .int .i64 (Dc.chFault c).2]])) ∨
    ((Dc.chFault c) = (0, 0) ∧ ∃ Av cv Ap cp, e = .returned (.tuple #[.slice Av c.length cv, .slice Ap c.length cp, .agg #[.int .i64 0, .int .i64 0]]) ∧ c.length ≤ cv ∧ c.length ≤ cp ∧ VsV w' (Under w.heap.size) Av (Dc.vers c c.length) ∧ SA w' (Under w.heap.size) Ap (intsV (depsI c c.length))))
theorem UnPost.fail_ {w w' : World} {c : List Dc.En} {x y : Int} (h : Dc.chFault c = (x, y)) (hx : x ≠ 0) (hb : Below w.heap.size w w') : UnPost w c (.returned (.tuple #[.slice none 0 0, .slice none 0 0, .agg #[.int .i64 x, .int .i64 y]])) w' :=
  ⟨hb, .inl (by rw [h]; exact ⟨hx, rfl⟩)⟩
set_option maxRecDepth 100000 in
set_option maxHeartbeats 8000000 in
theorem unpack_any (w : World) (A : Option Addr) (k : Nat) (c : List Dc.En) (hv : ChV w Free A c) (hl64 : c.length ≤ 9223372036854775807) :
    Calls Try.prog 27 #[.slice A c.length k] w (UnPost w c) := by
  obtain ⟨i0, hi0, hz0, hz1, hz2⟩ := info_parts info22
  obtain ⟨i3, hi3, hy0, hy1, hy2⟩ := info_parts info3
  by_cases hl : 20 < c.length
  · have H := Lib.hid (show Dc.chFault c = (2, -1) from by unfold Dc.chFault; rw [if_pos hl])
    have hl' : (20 : Int) < c.length := by omega
    clear hv
    go_enter Try.func27, Try.ntmps27
    go_wp2_with fail
    refine bodyPost_ret (results_ttc rfl _ _ w.heap.size (.int .i64 2) (.int .i64 (-1)) rfl (Blk.new _ _ _)) rfl (UnPost.fail_ H.out (by decide) ?_)
    exact below_alloc1 w _
  · have hl' : (c.length : Int) ≤ 20 := by omega
    have hl2 : c.length ≤ 20 := by omega
    have H := Lib.hid (show Dc.chFault c = Dc.chFrom c 0 from by unfold Dc.chFault; rw [if_neg hl])
    have HROW := Lib.hid (fun (w' : World) (hb : Below w.heap.size w w') i hi => (hv.keep (free_below hb)).row (w := w') i hi)
    clear hv hl
    go_enter Try.func27, Try.ntmps27
    go_wp2_with fail
    go_loopw [5, 6, 20] (fun vv dv v wr => ∃ (i : Nat) (Av : Option Addr) (cv : Nat) (Ap : Option Addr) (cp : Nat) (xs : List Value), i ≤ c.length ∧ vv = .slice Av i cv ∧ dv = .slice Ap i cp ∧ v = .int .i64 i ∧ UpSt w wr c i i Av cv Ap cp xs ∧ Hid (Dc.chFrom c 0 = Dc.chFrom c i) ∧ Hid (∀ j, j < i → Dc.code c j = 0)) (fun _ _ v _ => c.length - (intOf v).toNat)
    case atStart => exact ⟨0, none, 0, none, 0, [], Nat.zero_le _, rfl, rfl, rfl, ⟨World.ownsRow_nil _ _ _ _, World.ownsRow_nil _ _ _ _, rfl, Blk.new _ _ _, below_alloc1 _ _⟩, Lib.hid rfl, Lib.hid (fun j h => absurd h (Nat.not_lt_zero _))⟩
    case round =>
      obtain ⟨i, Av, cv, Ap, cp, xs, hi, rfl, rfl, rfl, st, HJ, HZ⟩ := hrel
      obtain ⟨wo, rfl⟩ : ∃ wo : World, wo = wr := ⟨_, rfl⟩
      have hblk := st.res
      have hbel := st.bel
      have hsz := hbel.size
      have hlt0 := hblk.lt
      have hc0 := hblk.cell 0
      have hc1 := hblk.cell 1
      have hf0 := hblk.frozen 0
      have hf1 := hblk.frozen 1
      simp only [List.getElem?_toArray, List.getElem?_cons_zero, List.getElem?_cons_succ] at hc0 hc1
      by_cases hlt : i < c.length
      · have hlt' : (i : Int) < c.length := by omega
        obtain ⟨b, off, Ad, kd, Ao, ko, us, e, hb, _, d0, d1, d2, j0, j1, j2, j3, j4, hsd, hso, hrows⟩ := HROW.out _ hbel i hlt
        subst e
        rw [Dc.en_eq c i hlt] at d0 d1 d2 j0 j1 j2 j3 j4 hsd hrows
        have HC1 := Lib.hid (Dc.chFrom_next c i hlt)
        have HC2 := Lib.hid (Dc.chFrom_bad c i hlt)
        have HCO := Lib.hid (show Dc.code c i = _ from Dc.code.eq_1 c i)
        have HSH := Lib.hid (Dc.shape.eq_1 (Dc.en c i) i)
        have HBAD := Lib.hid (fun (h : Dc.shape (Dc.en c i) i ≠ 0) => show Dc.chFault c = (Dc.shape (Dc.en c i) i, (i : Int)) from by
          have hcc : Dc.code c i = Dc.shape (Dc.en c i) i := by rw [HCO.out, if_pos h]
          rw [H.out, HJ.out, HC2.out (by rw [hcc]; exact h), hcc])
        unfold I64 at j0
        by_cases h3 : (Dc.en c i).base < -1 ∨ (i : Int) ≤ (Dc.en c i).base
        · have HS := Lib.hid (show Dc.shape (Dc.en c i) i = 3 from by rw [HSH.out, if_pos h3])
          have HB := Lib.hid (show Dc.chFault c = (3, (i : Int)) from by rw [HBAD.out (by rw [HS.out]; decide), HS.out])
          clear hrows hso hsd HSH HCO HBAD HS HC1 HC2 j0 j1 j2 j3 j4
          generalize Dc.en c i = x at *
          obtain ⟨bb, dat, del⟩ := x
          simp only at *
          by_cases h3a : bb < -1
          · clear h3
            have h3b : decide (bb < -1) = true := by simpa using h3a
            go_wp2_with fail
            refine bodyPost_ret (results_ttc rfl _ _ w.heap.size (.int .i64 3) (.int .i64 i) rfl ((blk_put2 hblk _ _).alloc _)) rfl (UnPost.fail_ HB.out (by decide) ?_)
            exact ((hbel.setCell (by simp) _).setCell (by simp) _).alloc (by simp; omega) _
          · have h3b : decide (bb < -1) = false := by simpa using h3a
            have h3c : decide ((i : Int) ≤ bb) = true := by simp; omega
            clear h3
            go_wp2_with fail
            refine bodyPost_ret (results_ttc rfl _ _ w.heap.size (.int .i64 3) (.int .i64 i) rfl ((blk_put2 hblk _ _).alloc _)) rfl (UnPost.fail_ HB.out (by decide) ?_)
            exact ((hbel.setCell (by simp) _).setCell (by simp) _).alloc (by simp; omega) _
        · have h3b : decide ((Dc.en c i).base < -1) = false := by simp; omega
          have h3c : decide ((i : Int) ≤ (Dc.en c i).base) = false := by simp; omega
          by_cases h5 : ((Dc.en c i).base = -1 ∧ 0 < (Dc.en c i).delta.length) ∨ ((Dc.en c i).base ≠ -1 ∧ 0 < (Dc.en c i).data.length)
          · have HS := Lib.hid (show Dc.shape (Dc.en c i) i = 5 from by rw [HSH.out, if_neg h3, if_pos h5])
            have HB := Lib.hid (show Dc.chFault c = (5, (i : Int)) from by rw [HBAD.out (by rw [HS.out]; decide), HS.out])
            clear hrows hso hsd HSH HCO HBAD HS HC1 HC2 j1 j2 j3 j4 h3
            generalize Dc.en c i = x at *
            obtain ⟨bb, dat, del⟩ := x
            simp only at *
            rcases h5 with ⟨hm, hd⟩ | ⟨hm, hd⟩
            · subst hm
              have hd' : decide ((0 : Int) < del.length) = true := by simp; omega
              go_wp2_with fail
              refine bodyPost_ret (results_ttc rfl _ _ w.heap.size (.int .i64 5) (.int .i64 i) rfl ((blk_put2 hblk _ _).alloc _)) rfl (UnPost.fail_ HB.out (by decide) ?_)
              exact ((hbel.setCell (by simp) _).setCell (by simp) _).alloc (by simp; omega) _
            · have hm1 : (bb == -1) = false := by simpa using hm
              have hm2 : (bb != -1) = true := by simpa using hm
              have hd' : decide ((0 : Int) < dat.length) = true := by simp; omega
              go_wp2_with fail
              refine bodyPost_ret (results_ttc rfl _ _ w.heap.size (.int .i64 5) (.int .i64 i) rfl ((blk_put2 hblk _ _).alloc _)) rfl (UnPost.fail_ HB.out (by decide) ?_)
              exact ((hbel.setCell (by simp) _).setCell (by simp) _).alloc (by simp; omega) _
          · by_cases hneg : (Dc.en c i).base = -1
            · have hdel : (Dc.en c i).delta = [] := List.eq_nil_of_length_eq_zero (by have := fun h' => h5 (.inl ⟨hneg, h'⟩); omega)
              by_cases h10 : 1000 < (Dc.en c i).data.length
              · have HS := Lib.hid (show Dc.shape (Dc.en c i) i = 10 from by rw [HSH.out, if_neg h3, if_neg h5, if_pos h10])
                have HB := Lib.hid (show Dc.chFault c = (10, (i : Int)) from by rw [HBAD.out (by rw [HS.out]; decide), HS.out])
                clear hrows hso hsd HSH HCO HBAD HS HC1 HC2 j0 j1 j2 j3 j4 h3 h5 h3b h3c
                generalize Dc.en c i = x at *
                obtain ⟨bb, dat, del⟩ := x
                simp only at *
                subst hneg hdel
                have h10' : (1000 : Int) < dat.length := by omega
                go_wp2_with fail
                refine bodyPost_ret (results_ttc rfl _ _ w.heap.size (.int .i64 10) (.int .i64 i) rfl ((blk_put2 hblk _ _).alloc _)) rfl (UnPost.fail_ HB.out (by decide) ?_)
                exact ((hbel.setCell (by simp) _).setCell (by simp) _).alloc (by simp; omega) _
              · have hz : Dc.code c i = 0 := by
                  rw [HCO.out, if_neg (by rw [HSH.out, if_neg h3, if_neg h5, if_neg h10]; simp), if_neg (by omega)]
                have HB := Lib.hid (HJ.out.trans (HC1.out hz))
                have HZ2 := Lib.hid (show ∀ j, j < i + 1 → Dc.code c j = 0 from fun j hj => by
                  rcases Nat.lt_or_ge j i with h | h
                  · exact HZ.out j h
                  · obtain rfl : j = i := by omega
                    exact hz)
                have HVER := Lib.hid (Dc.ver_full c i (by omega))
                have HDEP := Lib.hid (Dc.dep_full c i (by omega))
                have HCL := Lib.hid (fun (w1 : World) (hb1 : Below wo.heap.size wo w1) => clone_any w1 Ad kd (Dc.en c i).data (hsd.keep (free_below hb1)).sv (by omega))
                clear hrows hso hsd HSH HCO HBAD HC1 HC2 j0 j1 j2 j3 j4 h3 h5 hz h3b h3c
                generalize Dc.en c i = x at *
                obtain ⟨bb, dat, del⟩ := x
                simp only at *
                subst hneg hdel
                have h10' : (dat.length : Int) ≤ 1000 := by omega
                go_wp2_with fail
                go_at_call 26
                refine (HCL.out _ (below_alloc1 _ _)).mono ?_
                rintro e w2 ⟨A2, c2, rfl, hc2, hown2, hb2⟩
                have hbW := (below_alloc1 wo (.cells #[.int .i64 (-1), .slice Ad dat.length kd, .slice Ao 0 ko] 45)).trans (hb2.mono (by simp))
                have hBk := (Blk.new wo 45 #[.int .i64 (-1), .slice Ad dat.length kd, .slice Ao 0 ko]).below hb2 (by simp)
                have st2 := st.below hbW
                have hnew : BsR w2 (Or2 (Under (w.heap.size + 1)) (.slice Av i cv) (.slice Ap i cp)) (Dc.ver c i) [.slice A2 dat.length c2] := by
                  rw [HVER.out]
                  exact ⟨A2, c2, rfl, hc2, by omega, SA.of_own hown2 (fun b hb => by have := st.lt b hb; simp; omega)⟩
                have hdv : Hid (((Dc.dep c i : Nat) : Int) = 0) := Lib.hid (by rw [HDEP.out]; rfl)
                have e0 := hBk.cell 0
                simp only [List.getElem?_toArray, List.getElem?_cons_zero, List.getElem?_cons_succ] at e0
                clear hown2 hb2 hbW HCL hc0 hc1 hf0 hf1 hblk hbel hsz hlt0 st
                have hb3 := below_alloc1 w2 (.cells #[.slice A2 dat.length c2] 22)
                have st3 := st2.below hb3
                have hnew3 := BsR.keep (Keeps.alloc _ _ (.cells #[.slice A2 dat.length c2] 22)) _ _ hnew
                have hsv3 : SV (w2.alloc (.cells #[.slice A2 dat.length c2] 22)) (w2.heap.size + 1) (some ⟨w2.heap.size, 0, none⟩) [.slice A2 dat.length c2] := by
                  have := SV.lit w2 #[.slice A2 dat.length c2] 22
                  simpa using this
                have hlo3 := st3.hi
                clear hb3 hnew st2
                go_wp2_with (first | (at_builtin; refine wpList_appNo _ rfl (.tmp 97) (.tmp 99) 39 rfl (w.heap.size + 1) 22 i0 _ 1 24 Try.underlying39 hi0 hz0 hz1 hz2 rfl (by decide) _ i cv xs rfl st3.ownV _ (some ⟨w2.heap.size, 0, none⟩) 1 1 [.slice A2 dat.length c2] rfl rfl hsv3 (by intro u hu; simp at hu; rcases hu with rfl; rfl) ?han ?hbn hlo3 ?_))
                case han => simp [maxLen]; omega
                case hbn => omega
                intro A4 c4 w4 hown4 hg4 _ hob4
                have st4 := st3.appV (H := w2.heap.size + 1) hnew3 hg4 hown4 (by simp) hob4
                clear hown4 hg4 hob4 st3 hnew3 hsv3 hlo3
                have hb5 := below_alloc1 w4 (.cells #[.int .i64 (0 : Int)] 3)
                have st5 := st4.below hb5
                have hsv5 : SV (w4.alloc (.cells #[.int .i64 (0 : Int)] 3)) (w4.heap.size + 1) (some ⟨w4.heap.size, 0, none⟩) [.int .i64 (0 : Int)] := by
                  have := SV.lit w4 #[.int .i64 (0 : Int)] 3
                  simpa using this
                have hlo5 := st5.hi
                clear hb5 st4
                go_wp2_with (first | (at_builtin; refine wpList_appNo _ rfl (.tmp 101) (.tmp 103) 48 rfl (w.heap.size + 1) 3 i3 _ 1 8 Try.underlying48 hi3 hy0 hy1 hy2 rfl (by decide) _ i cp (intsV (depsI c i)) rfl st5.ownD _ (some ⟨w4.heap.size, 0, none⟩) 1 1 [.int .i64 (0 : Int)] rfl rfl hsv5 (by intro u hu; simp at hu; rcases hu with rfl; rfl) ?hcn ?hdn hlo5 ?_))
                case hcn => simp [maxLen]; omega
                case hdn => omega
                intro A6 c6 w6 hown6 hg6 _ hob6
                rw [← hdv.out] at hown6
                have st6 := st5.appD (H := w4.heap.size + 1) hg6 hown6 (by simp) hob6
                clear hown6 hg6 hob6 st5 hsv5 hlo5
                go_wp2_with fail
                go_roundw
                case rel => exact ⟨i + 1, _, _, _, _, _, by omega, rfl, rfl, by go_num, st6, HB, HZ2⟩
                case measure => simp [intOf]; omega
            · have hdat : (Dc.en c i).data = [] := List.eq_nil_of_length_eq_zero (by have := fun h' => h5 (.inr ⟨hneg, h'⟩); omega)
              have hneg1 : ((Dc.en c i).base == -1) = false := by simpa using hneg
              have hneg2 : ((Dc.en c i).base != -1) = true := by simpa using hneg
              obtain ⟨q, hq⟩ := Int.eq_ofNat_of_zero_le (show 0 ≤ (Dc.en c i).base by omega)
              have hqi : q < i := by omega
              have hS0 : Dc.shape (Dc.en c i) i = 0 := by rw [HSH.out, if_neg h3, if_neg h5, if_neg (by rw [hdat]; simp)]
              have hcode : Dc.code c i = (Dc.apply (Dc.ver c q) (Dc.en c i).delta).2.1 := by rw [HCO.out, if_neg (by rw [hS0]; simp), if_pos (by omega), hq]; rfl
              have hvl := Dc.ver_len (HZ.out q hqi)
              have HVER := Lib.hid (Dc.ver_delta c i q hq hqi)
              have HDEP := Lib.hid (Dc.dep_delta c i q hq hqi)
              have HAZ := Lib.hid (Dc.apply_zero (Dc.ver c q) (Dc.en c i).delta)
              have HBAD2 := Lib.hid (fun (h : Dc.code c i ≠ 0) => show Dc.chFault c = (Dc.code c i, (i : Int)) from by rw [H.out, HJ.out, HC2.out h])
              have HOKN := Lib.hid (fun (h : Dc.code c i = 0) => HJ.out.trans (HC1.out h))
              have HZ2 := Lib.hid (fun (hz : Dc.code c i = 0) => show ∀ j, j < i + 1 → Dc.code c j = 0 from fun j hj => by
                  rcases Nat.lt_or_ge j i with h | h
                  · exact HZ.out j h
                  · obtain rfl : j = i := by omega
                    exact hz)
              have HCL := Lib.hid (fun (w1 : World) (hb1 : Below wo.heap.size wo w1) => clone_any w1 Ad kd (Dc.en c i).data (hsd.keep (free_below hb1)).sv (by omega))
              rw [hq] at d0 h3b h3c hneg1 hneg2
              rw [hdat] at d1 HCL
              obtain ⟨bv, ov, Aq, kq, ev, hbv, hcv, hkq, hsq⟩ := st.ver q hqi
              obtain ⟨bp, op_, ep, hbp, hcp⟩ := st.dep q hqi
              subst ev
              subst ep
              have hdl : Dc.dep c q ≤ 20 := Nat.le_trans (Dc.dep_le c (q + 1) q (Nat.lt_succ_self _) (fun j hj => (Dc.shape_zero (Dc.code_shape (HZ.out j (by omega)))).2.1)) (by omega)
              have HC15 := Lib.hid (fun (w1 : World) (hb1 : Below wo.heap.size wo w1) =>
                apply_any (w := w1) (A1 := Aq) (A2 := Ao) (c1 := kq) (c2 := ko) (base := Dc.ver c q) (ops := (Dc.en c i).delta) (vs := us) (hsq.keep (free_below hb1)).sv hkq ((hrows.mono (OpA.keep (free_below hb1))).mono OpA.toR) (hso.keep (free_below hb1)).sv (by omega) (by omega))
              rw [hcode] at HBAD2 HOKN HZ2
              clear HCO HSH HC1 HC2 h3 h5 hneg hS0 HBAD HROW hso hrows hcode hdat hq j0 j1 j2 j3 j4 hsd H HJ HZ hsq
              generalize (Dc.en c i).delta = del at *
              generalize Dc.ver c q = vq at *
              generalize Dc.dep c q = dq at *
              generalize Dc.apply vq del = r at *
              obtain ⟨out, cd, ix⟩ := r
              simp only at HBAD2 HOKN HZ2 HAZ HVER
              go_wp2_with fail
              go_at_call 26
              refine (HCL.out _ (below_alloc1 _ _)).mono ?_
              rintro e w2 ⟨A2, c2, rfl, hc2, hown2, hb2⟩
              have hbW := (below_alloc1 wo (.cells #[.int .i64 q, .slice Ad 0 kd, .slice Ao del.length ko] 45)).trans (hb2.mono (by simp))
              have hBk := (Blk.new wo 45 #[.int .i64 q, .slice Ad 0 kd, .slice Ao del.length ko]).below hb2 (by simp)
              have st2 := st.below hbW
              have hzW := hbW.size
              have hBl := hBk.lt
              have hcv2 := (hbW.cell (p := ⟨bv, ov + q, none⟩) hbv).trans hcv
              have HS : Hid (∀ (w6 : World), Below w2.heap.size w2 w6 → w6.cell? ⟨wo.heap.size, 0, none⟩ = some (.int .i64 (q : Int)) ∧ w6.cell? ⟨wo.heap.size, 2, none⟩ = some (.slice Ao del.length ko) ∧ w6.cell? ⟨bv, ov + q, none⟩ = some (.slice Aq vq.length kq)) := Lib.hid fun w6 hb6 =>
                ⟨(hBk.below hb6 hBl).cell 0, (hBk.below hb6 hBl).cell 2, (hb6.cell (p := ⟨bv, ov + q, none⟩) (by simp; omega)).trans hcv2⟩
              have HX := Lib.hid (fun w6 (h : Below w2.heap.size w2 w6) => hbW.trans (h.mono hzW))
              have HCP := Lib.hid (fun w6 (h : Below w2.heap.size w2 w6) => ((HX.out w6 h).cell (p := ⟨bp, op_ + q, none⟩) hbp).trans hcp)
              have e0 := hBk.cell 0
              simp only [List.getElem?_toArray, List.getElem?_cons_zero, List.getElem?_cons_succ] at e0
              have hk0 : Below w2.heap.size w2 w2.drew := below_drew' (Below.refl _ _)
              have hk3 : Below w2.heap.size w2 (w2.alloc (.cells #[.int .i64 0, .int .i64 0] 26)).drew := below_drew' (below_alloc1 w2 _)
              clear hown2 hb2 HCL hc0 hc1 hf0 hf1 hblk hbel hsz st hcv hcp d0 d1 d2
              go_wp2_with fail
              go_region_held3 (fun w' => w'.cell? ⟨wo.heap.size, 0, none⟩ = some (.int .i64 (q : Int)) ∧ w'.cell? ⟨wo.heap.size, 2, none⟩ = some (.slice Ao del.length ko) ∧ w'.cell? ⟨bv, ov + q, none⟩ = some (.slice Aq vq.length kq))
                (first | exact HS.out _ hk0 | exact HS.out _ hk3 | exact HS.out _ hk6 | exact HS.out _ (hk6.alloc hk6.size _) | exact HS.out _ ((hk6.setCell (by first | omega | (simp; done) | (simp; omega)) _).setCell (by first | omega | (simp; done) | (simp; omega)) _))
                (first | (go_at_call 15; first | ((with_reducible refine (HC15.out _ (HX.out _ hk0)).mono ?_); rintro e w7 ⟨v7, rfl, hown7, hb7⟩; have hk6 : Below w2.heap.size w2 w7 := hk0.trans (hb7.mono hk0.size); have hz7 := hk6.size) | ((with_reducible refine (HC15.out _ (HX.out _ hk3)).mono ?_); rintro e w7 ⟨v7, rfl, hown7, hb7⟩; have hk6 : Below w2.heap.size w2 w7 := hk3.trans (hb7.mono hk3.size); have hz7 := hk6.size; have nk2 := (Blk.new w2 26 #[.int .i64 0, .int .i64 0]).drew.below hb7 (by simp); have n0 := nk2.cell 0; have n1 := nk2.cell 1; have n2 := nk2.frozen 0; have n3 := nk2.frozen 1; have n4 := nk2.lt; simp only [List.getElem?_toArray, List.getElem?_cons_zero, List.getElem?_cons_succ] at n0 n1)))
              · obtain ⟨A7, c7, rfl, hc7, _⟩ := own_form hown7
                refine gen_world (C := fun wz => Exit.then _ _ _ _ wz) (fun wz => Below w2.heap.size w2 wz ∧ Blk wz (w7.heap.size) 26 #[.int .i64 cd, .int .i64 ix] ∧ SA wz (Under w2.heap.size) A7 (bytesV out)) ?_ ?_
                · exact ⟨hk6.alloc hk6.size _, Blk.new _ _ _, (SA.of_own (X := Under w2.heap.size) hown7 (fun b h => h)).keep (Keeps.alloc _ _ _)⟩
                intro wz hz
                have z0 := hz.2.1.cell 0
                have z1 := hz.2.1.cell 1
                have st3 := st2.below hz.1
                have hbl3 := st3.bel
                have r0 := st3.res.cell 0
                have r1 := st3.res.cell 1
                have r2 := st3.res.frozen 0
                have r3 := st3.res.frozen 1
                have r4 := st3.res.lt
                have e0 := (hBk.below hz.1 hBl).cell 0
                have p0 := HCP.out _ hz.1
                simp only [List.getElem?_toArray, List.getElem?_cons_zero, List.getElem?_cons_succ] at z0 z1 r0 r1 e0
                have hqi' : (q : Int) < i := by omega
                by_cases hcd : cd = 0
                · obtain ⟨hix, hol⟩ := HAZ.out hcd
                  injection hix with _ hix
                  subst hcd hix
                  have HB := Lib.hid (HOKN.out rfl)
                  have HZ3 := Lib.hid (HZ2.out rfl)
                  clear HZ2
                  go_wp2_with fail
                  go_quiet (fail)
                  refine gen_world (C := fun w9 => Exit.then _ _ _ _ w9) (fun w9 => UpSt w w9 c i i (some ⟨bv, ov, none⟩) cv (some ⟨bp, op_, none⟩) cp xs ∧ BsR w9 (Or2 (Under (w.heap.size + 1)) (.slice (some ⟨bv, ov, none⟩) i cv) (.slice (some ⟨bp, op_, none⟩) i cp)) (Dc.ver c i) [.slice A7 out.length c7]) ?_ ?_
                  · refine ⟨st3.below (below_drewN (Below.refl _ _) _), ?_⟩
                    rw [HVER.out]
                    exact ⟨A7, c7, rfl, hc7, by omega, (hz.2.2.keep (Keeps.drewN _ _ _)).mono (fun b hb => st2.lt b hb)⟩
                  intro w9 hz9
                  obtain ⟨st2, hnew⟩ := hz9
                  have hdv : Hid (((Dc.dep c i : Nat) : Int) = (dq : Int) + 1) := Lib.hid (by rw [HDEP.out]; rfl)
                  clear HS HX HCP HC15 hk0 hk3 z0 z1 st3 hbl3 r0 r1 r2 r3 r4 e0 p0 HBAD2 HOKN HAZ hz hk6 hb7 hown7
                  have hb3 := below_alloc1 w9 (.cells #[.slice A7 out.length c7] 22)
                  have st3 := st2.below hb3
                  have hnew3 := BsR.keep (Keeps.alloc _ _ (.cells #[.slice A7 out.length c7] 22)) _ _ hnew
                  have hsv3 : SV (w9.alloc (.cells #[.slice A7 out.length c7] 22)) (w9.heap.size + 1) (some ⟨w9.heap.size, 0, none⟩) [.slice A7 out.length c7] := by
                    have := SV.lit w9 #[.slice A7 out.length c7] 22
                    simpa using this
                  have hlo3 := st3.hi
                  clear hb3 hnew st2
                  go_wp2_with (first | (at_builtin; refine wpList_appNo _ rfl (.tmp 97) (.tmp 99) 39 rfl (w.heap.size + 1) 22 i0 _ 1 24 Try.underlying39 hi0 hz0 hz1 hz2 rfl (by decide) _ i cv xs rfl st3.ownV _ (some ⟨w9.heap.size, 0, none⟩) 1 1 [.slice A7 out.length c7] rfl rfl hsv3 (by intro u hu; simp at hu; rcases hu with rfl; rfl) ?had ?hbd hlo3 ?_))
                  case had => simp [maxLen]; omega
                  case hbd => omega
                  intro A4 c4 w4 hown4 hg4 _ hob4
                  have st4 := st3.appV (H := w9.heap.size + 1) hnew3 hg4 hown4 (by simp) hob4
                  clear hown4 hg4 hob4 st3 hnew3 hsv3 hlo3
                  have hb5 := below_alloc1 w4 (.cells #[.int .i64 ((dq : Int) + 1)] 3)
                  have st5 := st4.below hb5
                  have hsv5 : SV (w4.alloc (.cells #[.int .i64 ((dq : Int) + 1)] 3)) (w4.heap.size + 1) (some ⟨w4.heap.size, 0, none⟩) [.int .i64 ((dq : Int) + 1)] := by
                    have := SV.lit w4 #[.int .i64 ((dq : Int) + 1)] 3
                    simpa using this
                  have hlo5 := st5.hi
                  clear hb5 st4
                  go_wp2_with (first | (at_builtin; refine wpList_appNo _ rfl (.tmp 101) (.tmp 103) 48 rfl (w.heap.size + 1) 3 i3 _ 1 8 Try.underlying48 hi3 hy0 hy1 hy2 rfl (by decide) _ i cp (intsV (depsI c i)) rfl st5.ownD _ (some ⟨w4.heap.size, 0, none⟩) 1 1 [.int .i64 ((dq : Int) + 1)] rfl rfl hsv5 (by intro u hu; simp at hu; rcases hu with rfl; rfl) ?hcd ?hdd hlo5 ?_))
                  case hcd => simp [maxLen]; omega
                  case hdd => omega
                  intro A6 c6 w6 hown6 hg6 _ hob6
                  rw [← hdv.out] at hown6
                  have st6 := st5.appD (H := w4.heap.size + 1) hg6 hown6 (by simp) hob6
                  clear hown6 hg6 hob6 st5 hsv5 hlo5
                  go_wp2_with fail
                  go_roundw
                  case rel => exact ⟨i + 1, _, _, _, _, _, by omega, rfl, rfl, by go_num, st6, HB, HZ3⟩
                  case measure => simp [intOf]; omega
                · have hb0 : (cd == 0) = false := by simpa using hcd
                  have hb1 : (cd != 0) = true := by simpa using hcd
                  have HB := Lib.hid (HBAD2.out hcd)
                  clear hk6
                  go_wp2_with fail
                  go_region
                  all_goals
                    go_wp2_with fail
                    refine bodyPost_ret (results_ttc rfl _ _ w.heap.size (.int .i64 cd) (.int .i64 i) rfl ((blk_put2 st3.res _ _).drewN 1)) rfl (UnPost.fail_ HB.out hcd ?_)
                    exact below_drewN ((hbl3.setCell (by simp) _).setCell (by simp) _) 1
              · obtain ⟨A7, c7, rfl, hc7, _⟩ := own_form hown7
                refine gen_world (C := fun wz => Exit.then _ _ _ _ wz) (fun wz => Below w2.heap.size w2 wz ∧ Blk wz (w2.heap.size) 26 #[.int .i64 cd, .int .i64 ix] ∧ SA wz (Under w2.heap.size) A7 (bytesV out)) ?_ ?_
                · exact ⟨(hk6.setCell (by simp) _).setCell (by simp) _, blk_put2 nk2 _ _, (((SA.of_own (X := Under (w2.heap.size + 1)) hown7 (fun b h => by simpa [Under] using h)).keep (Keeps.setCell _ _ _ _ (by simp [Under]))).keep (Keeps.setCell _ _ _ _ (by simp [Under]))).mono (fun b h => by unfold Under at *; omega)⟩
                intro wz hz
                have z0 := hz.2.1.cell 0
                have z1 := hz.2.1.cell 1
                have st3 := st2.below hz.1
                have hbl3 := st3.bel
                have r0 := st3.res.cell 0
                have r1 := st3.res.cell 1
                have r2 := st3.res.frozen 0
                have r3 := st3.res.frozen 1
                have r4 := st3.res.lt
                have e0 := (hBk.below hz.1 hBl).cell 0
                have p0 := HCP.out _ hz.1
                simp only [List.getElem?_toArray, List.getElem?_cons_zero, List.getElem?_cons_succ] at z0 z1 r0 r1 e0
                have hqi' : (q : Int) < i := by omega
                by_cases hcd : cd = 0
                · obtain ⟨hix, hol⟩ := HAZ.out hcd
                  injection hix with _ hix
                  subst hcd hix
                  have HB := Lib.hid (HOKN.out rfl)
                  have HZ3 := Lib.hid (HZ2.out rfl)
                  clear HZ2
                  go_wp2_with fail
                  go_quiet (fail)
                  refine gen_world (C := fun w9 => Exit.then _ _ _ _ w9) (fun w9 => UpSt w w9 c i i (some ⟨bv, ov, none⟩) cv (some ⟨bp, op_, none⟩) cp xs ∧ BsR w9 (Or2 (Under (w.heap.size + 1)) (.slice (some ⟨bv, ov, none⟩) i cv) (.slice (some ⟨bp, op_, none⟩) i cp)) (Dc.ver c i) [.slice A7 out.length c7]) ?_ ?_
                  · refine ⟨st3.below (below_drewN (Below.refl _ _) _), ?_⟩
                    rw [HVER.out]
                    exact ⟨A7, c7, rfl, hc7, by omega, (hz.2.2.keep (Keeps.drewN _ _ _)).mono (fun b hb => st2.lt b hb)⟩
                  intro w9 hz9
                  obtain ⟨st2, hnew⟩ := hz9
                  have hdv : Hid (((Dc.dep c i : Nat) : Int) = (dq : Int) + 1) := Lib.hid (by rw [HDEP.out]; rfl)
                  clear HS HX HCP HC15 hk0 hk3 z0 z1 st3 hbl3 r0 r1 r2 r3 r4 e0 p0 HBAD2 HOKN HAZ hz hk6 hb7 hown7
                  have hb3 := below_alloc1 w9 (.cells #[.slice A7 out.length c7] 22)
                  have st3 := st2.below hb3
                  have hnew3 := BsR.keep (Keeps.alloc _ _ (.cells #[.slice A7 out.length c7] 22)) _ _ hnew
                  have hsv3 : SV (w9.alloc (.cells #[.slice A7 out.length c7] 22)) (w9.heap.size + 1) (some ⟨w9.heap.size, 0, none⟩) [.slice A7 out.length c7] := by
                    have := SV.lit w9 #[.slice A7 out.length c7] 22
                    simpa using this
                  have hlo3 := st3.hi
                  clear hb3 hnew st2
                  go_wp2_with (first | (at_builtin; refine wpList_appNo _ rfl (.tmp 97) (.tmp 99) 39 rfl (w.heap.size + 1) 22 i0 _ 1 24 Try.underlying39 hi0 hz0 hz1 hz2 rfl (by decide) _ i cv xs rfl st3.ownV _ (some ⟨w9.heap.size, 0, none⟩) 1 1 [.slice A7 out.length c7] rfl rfl hsv3 (by intro u hu; simp at hu; rcases hu with rfl; rfl) ?had ?hbd hlo3 ?_))
                  case had => simp [maxLen]; omega
                  case hbd => omega
                  intro A4 c4 w4 hown4 hg4 _ hob4
                  have st4 := st3.appV (H := w9.heap.size + 1) hnew3 hg4 hown4 (by simp) hob4
                  clear hown4 hg4 hob4 st3 hnew3 hsv3 hlo3
                  have hb5 := below_alloc1 w4 (.cells #[.int .i64 ((dq : Int) + 1)] 3)
                  have st5 := st4.below hb5
                  have hsv5 : SV (w4.alloc (.cells #[.int .i64 ((dq : Int) + 1)] 3)) (w4.heap.size + 1) (some ⟨w4.heap.size, 0, none⟩) [.int .i64 ((dq : Int) + 1)] := by
                    have := SV.lit w4 #[.int .i64 ((dq : Int) + 1)] 3
                    simpa using this
                  have hlo5 := st5.hi
                  clear hb5 st4
                  go_wp2_with (first | (at_builtin; refine wpList_appNo _ rfl (.tmp 101) (.tmp 103) 48 rfl (w.heap.size + 1) 3 i3 _ 1 8 Try.underlying48 hi3 hy0 hy1 hy2 rfl (by decide) _ i cp (intsV (depsI c i)) rfl st5.ownD _ (some ⟨w4.heap.size, 0, none⟩) 1 1 [.int .i64 ((dq : Int) + 1)] rfl rfl hsv5 (by intro u hu; simp at hu; rcases hu with rfl; rfl) ?hcd ?hdd hlo5 ?_))
                  case hcd => simp [maxLen]; omega
                  case hdd => omega
                  intro A6 c6 w6 hown6 hg6 _ hob6
                  rw [← hdv.out] at hown6
                  have st6 := st5.appD (H := w4.heap.size + 1) hg6 hown6 (by simp) hob6
                  clear hown6 hg6 hob6 st5 hsv5 hlo5
                  go_wp2_with fail
                  go_roundw
                  case rel => exact ⟨i + 1, _, _, _, _, _, by omega, rfl, rfl, by go_num, st6, HB, HZ3⟩
                  case measure => simp [intOf]; omega
                · have hb0 : (cd == 0) = false := by simpa using hcd
                  have hb1 : (cd != 0) = true := by simpa using hcd
                  have HB := Lib.hid (HBAD2.out hcd)
                  clear hk6
                  go_wp2_with fail
                  go_region
                  all_goals
                    go_wp2_with fail
                    refine bodyPost_ret (results_ttc rfl _ _ w.heap.size (.int .i64 cd) (.int .i64 i) rfl ((blk_put2 st3.res _ _).drewN 1)) rfl (UnPost.fail_ HB.out hcd ?_)
                    exact below_drewN ((hbl3.setCell (by simp) _).setCell (by simp) _) 1
      · obtain rfl : i = c.length := by omega
        go_wp2_with fail
        refine bodyPost_ret (results_ttc rfl _ _ w.heap.size (.int .i64 0) (.int .i64 0) rfl (blk_put2 hblk _ _)) rfl ?_
        refine ⟨(hbel.setCell (by simp) _).setCell (by simp) _, .inr ⟨by rw [H.out, HJ.out, Dc.chFrom_end c _ (Nat.le_refl _)], ?_⟩⟩
        obtain ⟨A', c', e1, hcc, _⟩ := own_form st.ownV
        obtain ⟨A'', c'', e2, hcc2, _⟩ := own_form st.ownD
        injection e1 with _ _ e3
        injection e2 with _ _ e4
        subst e3
        subst e4
        have hu : (Under (w.heap.size + 1)) w.heap.size := by unfold Under; omega
        have hk := (Keeps.setCell wo (Or2 (Under (w.heap.size + 1)) (.slice Av c.length cv) (.slice Ap c.length cp)) ⟨w.heap.size, 0, none⟩ (.int .i64 0) (.inl hu)).trans (Keeps.setCell _ (Or2 (Under (w.heap.size + 1)) (.slice Av c.length cv) (.slice Ap c.length cp)) ⟨w.heap.size, 1, none⟩ (.int .i64 0) (.inl hu))
        have hk2 := hk.into (X'' := Under w.heap.size) fun b hb => .inl (by unfold Under at *; omega)
        refine ⟨Av, cv, Ap, cp, rfl, hcc, hcc2, ⟨xs, ?_, st.rows.mono (BsR.keep hk2)⟩, ?_⟩
        · exact SA.of_own (own_setCell (own_setCell st.ownV (own_blk_ne st.ownV st.res (by decide)) _) (own_blk_ne st.ownV st.res (by decide)) _) (fun b hb => by unfold Under at hb; omega)
        · exact SA.of_own (own_setCell (own_setCell st.ownD (own_blk_ne st.ownD st.res (by decide)) _) (own_blk_ne st.ownD st.res (by decide)) _) (fun b hb => by unfold Under at hb; omega)
end Go.Proofs.Ytiphcpibhffdjaa
