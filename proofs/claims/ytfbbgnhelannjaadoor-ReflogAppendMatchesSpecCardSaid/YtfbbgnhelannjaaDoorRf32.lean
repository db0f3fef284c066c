/-
  Logs: walk of the reference's 'ReplayRefs'.
-/
import Derived.Test.YtfbbgnhelannjaaDoorRf21
import Derived.Test.YtfbbgnhelannjaaDoorRf29
import Derived.StillTailTactics
namespace Rf
/-- What 'ReplayRefs' answers. -/
def rrF (b : List R) (l : List E) (n : Int) : List R × (Int × Int) := if (lgF b l).1 ≠ 0 then ([], lgF b l) else (stAt b l n.toNat, (0, 0))
theorem stAt_min (b : List R) (l : List E) (n : Nat) : stAt b l (min l.length n) = stAt b l n := by
  unfold stAt
  by_cases h : n ≤ l.length
  · rw [Nat.min_eq_right h]
  · rw [Nat.min_eq_left (by omega), List.take_of_length_le (Nat.le_refl _), List.take_of_length_le (by omega)]
end Rf
namespace Go.Proofs.YtfbbgnhelannjaaDoor
open Go.RowKit Go.V Go.Shelf Go.Lib
set_option linter.unusedVariables false

/-- A set (of the argument's, or a new one) and a fault. -/
def RrPost (w : World) (r : List Rf.R × (Int × Int)) (e : Ending) (w' : World) : Prop := ∃ A c, e = .returned (.tuple #[.agg #[.slice A r.1.length c], .agg #[.int .i64 r.2.1, .int .i64 r.2.2]]) ∧ r.1.length ≤ c ∧ SA w' Free A (rsV r.1) ∧ Below w.heap.size w w'
theorem RrPost.no {w w' : World} {r : List Rf.R × (Int × Int)} {c i : Int} (h : r = ([], (c, i))) (hb : Below w.heap.size w w') : RrPost w r (.returned (.tuple #[.agg #[.slice none 0 0], .agg #[.int .i64 c, .int .i64 i]])) w' := by
  subst h; exact ⟨none, 0, rfl, Nat.le_refl _, SA.nil, hb⟩
theorem RrPost.yes {w w' : World} {r : List Rf.R × (Int × Int)} {x : List Rf.R} {A : Option Addr} {c : Nat} (h : r = (x, (0, 0))) (hc : x.length ≤ c) (hs : SA w' Free A (rsV x)) (hb : Below w.heap.size w w') : RrPost w r (.returned (.tuple #[.agg #[.slice A x.length c], .agg #[.int .i64 0, .int .i64 0]])) w' := by
  subst h; exact ⟨A, c, rfl, hc, hs, hb⟩
/-- The variables of the loop. -/
def Vr (n g h : Nat) : Nat → Prop := fun b => b = n + 1 ∨ b = n + 2 ∨ b = g ∨ b = h
structure LrSt (w wr : World) (g h : Nat) (A : Option Addr) (n k : Nat) (Ax : Option Addr) (cx : Nat) (xs : List Rf.R) (Ao : Option Addr) (co : Nat) (os : List Rf.R) : Prop where
  bt : BtSt w wr A n k
  bn : Blk wr g 26 #[.slice Ax xs.length cx]
  bo : Blk wr h 26 #[.slice Ao os.length co]
  rn : SA wr (Vr w.heap.size g h) Ax (rsV xs)
  ro : SA wr (Vr w.heap.size g h) Ao (rsV os)
  ord : w.heap.size + 2 < g ∧ g < h
  cap : xs.length ≤ cx ∧ os.length ≤ co
section
variable {w wr w' : World} {g h : Nat} {A : Option Addr} {n k : Nat} {Ax : Option Addr} {cx : Nat} {xs : List Rf.R} {Ao : Option Addr} {co : Nat} {os : List Rf.R}
theorem LrSt.below (st : LrSt w wr g h A n k Ax cx xs Ao co os) (hb : Below wr.heap.size wr w') : LrSt w w' g h A n k Ax cx xs Ao co os :=
  ⟨st.bt.below hb, st.bn.below hb st.bn.lt, st.bo.below hb st.bo.lt, st.rn.keep (Keeps.below hb fun _ _ h => h), st.ro.keep (Keeps.below hb fun _ _ h => h), st.ord, st.cap⟩
theorem LrSt.setn (st : LrSt w wr g h A n k Ax cx xs Ao co os) {Ay : Option Addr} {cy : Nat} {ys : List Rf.R} (hr : SA wr (Vr w.heap.size g h) Ay (rsV ys)) (hc : ys.length ≤ cy) : LrSt w (wr.setCell ⟨g, 0, none⟩ (.slice Ay ys.length cy)) g h A n k Ay cy ys Ao co os := by
  obtain ⟨o1, o2⟩ := st.ord
  have kp := Keeps.setCell wr (Vr w.heap.size g h) ⟨g, 0, none⟩ (.slice Ay ys.length cy) (.inr (.inr (.inl rfl)))
  exact ⟨⟨st.bt.bx.far (p := ⟨g, 0, none⟩) (by simp only; omega) _, st.bt.r1.far (p := ⟨g, 0, none⟩) (by simp only; omega) _, st.bt.r2.far (p := ⟨g, 0, none⟩) (by simp only; omega) _, st.bt.bel.setCell (p := ⟨g, 0, none⟩) (show w.heap.size ≤ g by omega) _⟩,
    by simpa using st.bn.set_ 0 (.slice Ay ys.length cy), st.bo.far (p := ⟨g, 0, none⟩) (by simp only; omega) _, hr.keep kp, st.ro.keep kp, st.ord, hc, st.cap.2⟩
theorem LrSt.seto (st : LrSt w wr g h A n k Ax cx xs Ao co os) : LrSt w (wr.setCell ⟨h, 0, none⟩ (.slice Ax xs.length cx)) g h A n k Ax cx xs Ax cx xs := by
  obtain ⟨o1, o2⟩ := st.ord
  have kp := Keeps.setCell wr (Vr w.heap.size g h) ⟨h, 0, none⟩ (.slice Ax xs.length cx) (.inr (.inr (.inr rfl)))
  exact ⟨⟨st.bt.bx.far (p := ⟨h, 0, none⟩) (by simp only; omega) _, st.bt.r1.far (p := ⟨h, 0, none⟩) (by simp only; omega) _, st.bt.r2.far (p := ⟨h, 0, none⟩) (by simp only; omega) _, st.bt.bel.setCell (p := ⟨h, 0, none⟩) (show w.heap.size ≤ h by omega) _⟩,
    st.bn.far (p := ⟨h, 0, none⟩) (by simp only; omega) _, by simpa using st.bo.set_ 0 (.slice Ax xs.length cx), st.rn.keep kp, st.rn.keep kp, st.ord, st.cap.1, st.cap.1⟩
theorem LrSt.facts (st : LrSt w wr g h A n k Ax cx xs Ao co os) : wr.cell? ⟨g, 0, none⟩ = some (.slice Ax xs.length cx) ∧ wr.cell? ⟨h, 0, none⟩ = some (.slice Ao os.length co) ∧ wr.frozen? ⟨g, 0, none⟩ = false ∧ wr.frozen? ⟨h, 0, none⟩ = false ∧ g < wr.heap.size ∧ h < wr.heap.size :=
  ⟨(st.bn.cell 0).trans rfl, (st.bo.cell 0).trans rfl, st.bn.frozen 0, st.bo.frozen 0, st.bn.lt, st.bo.lt⟩
end
set_option maxRecDepth 100000 in
set_option maxHeartbeats 64000000 in
theorem replayRefs_any (w : World) (A : Option Addr) (k : Nat) (s : List Rf.R) (hv : SA w Free A (rsV s)) (hl64 : s.length ≤ 9223372036854775807) (hk : s.length ≤ k)
    (A2 : Option Addr) (k2 : Nat) (l : List Rf.E) (hv2 : SA w Free A2 (esV l)) (n : Int) :
    Calls Tryd.prog 35 #[.agg #[.slice A s.length k], .slice A2 l.length k2, .int .i64 n] w (RrPost w (Rf.rrF s l n)) := by
  have HV := Lib.hid (fun (w1 : World) (hb : Below w.heap.size w w1) => hv.keep (free_below hb))
  have HV0 := Lib.hid hv
  have HV2 := Lib.hid (fun (w1 : World) (hb : Below w.heap.size w w1) => hv2.keep (free_below hb))
  have HRF := Lib.hid (Rf.rrF.eq_1 s l n)
  have HPF := Lib.hid (Rf.lgF.eq_1 s l)
  have HNO : Hid (∀ c i w', Rf.lgF s l = (c, i) → c ≠ 0 → Below w.heap.size w w' → RrPost w (Rf.rrF s l n) (.returned (.tuple #[.agg #[.slice none 0 0], .agg #[.int .i64 c, .int .i64 i]])) w') := Lib.hid fun c i w' h1 h2 h3 => RrPost.no (by rw [HRF.out, if_pos (by rw [h1]; exact h2), h1]) h3
  have HYES : Hid (∀ A c x w', Rf.lgF s l = (0, 0) → x = Rf.stAt s l n.toNat → x.length ≤ c → SA w' Free A (rsV x) → Below w.heap.size w w' → RrPost w (Rf.rrF s l n) (.returned (.tuple #[.agg #[.slice A x.length c], .agg #[.int .i64 0, .int .i64 0]])) w') :=
    Lib.hid fun A c x w' h1 h2 h3 h4 h5 => RrPost.yes (by rw [HRF.out, if_neg (by rw [h1]; simp), h2]) h3 h4 h5
  have H20 := Lib.hid (fun (xs : List Rf.R) (u : Rf.U) (hok : Rf.Ok xs) (w1 : World) (Ax : Option Addr) (cx : Nat) (hv : SA w1 Free Ax (rsV xs)) => updateCode_any w1 Ax cx xs u hv (by have := hok.len; omega) (Rf.ok_names hok))
  have H23 := Lib.hid (fun (xs : List Rf.R) (u : Rf.U) (hok : Rf.Ok xs) (w1 : World) (Ax : Option Addr) (cx : Nat) (hv : SA w1 Free Ax (rsV xs)) => by
    have := updateRefs_any w1 Ax cx xs u hv (by have := hok.len; omega)
    rw [Rf.upR_eq hok.srt u] at this
    exact this)
  clear hv hv2 HRF
  generalize RrPost w (Rf.rrF s l n) = R at *
  generalize hr : Rf.lgF s l = r at *
  clear hr
  have st0 := BtSt.new w A s.length k
  have HC := Lib.hid (refsFault_any _ A k s (HV.out _ st0.bel) hl64)
  have hsz0 : (((w.alloc (.cells #[.slice A s.length k] 26)).alloc (.cells #[.slice none 0 0] 26)).alloc (.cells #[.int .i64 0, .int .i64 0] 30)).heap.size = w.heap.size + 3 := by simp
  go_enter Tryd.func35, Tryd.ntmps35
  go_wp2_with fail
  go_at_call 19
  refine HC.out.mono ?_
  rintro e w1 ⟨rfl, hb1⟩
  have st1 := st0.below hb1
  have hsz1 : w.heap.size + 3 ≤ w1.heap.size := by have := hb1.size; omega
  obtain ⟨p0, p1, p2, p3, p4, p5, p6, l0, l1, l2⟩ := st1.facts
  clear hb1 HC st0 hsz0
  by_cases hbad : (Rf.rfF s).1 ≠ 0
  · have H := Lib.hid (show r = ((Rf.rfF s).1, -2) from by rw [HPF.out, if_pos hbad])
    have hb1 : ((Rf.rfF s).1 == 0) = false := by simpa using hbad
    have hb2 : ((Rf.rfF s).1 != 0) = true := by simpa using hbad
    have HR := Lib.hid (fun w' h => HNO.out _ _ w' H.out hbad h)
    clear hbad HPF HV HV0 HV2 H HNO HYES H20 H23
    generalize Rf.rfF s = q at *
    obtain ⟨cd, ix⟩ := q
    simp only at hb1 hb2 HR
    have hal := below_alloc1 w1 (.cells #[.int .i64 cd, .int .i64 ix] 30)
    go_wp2_with fail
    go_at_call 21
    refine (fault_b _ _ _).mono ?_
    rintro e w9 ⟨rfl, hb9⟩
    have st9 := (st1.below hal).below hb9
    clear p0 p1 p2 p3 p4 p5 p6 l0 l1 l2 st1
    obtain ⟨p0, p1, p2, p3, p4, p5, p6, l0, l1, l2⟩ := st9.facts
    go_wp2_with fail
    obtain ⟨k1, k2, k3⟩ := put12 st9.r1 st9.r2 (by omega) (.slice none 0 0) (.int .i64 cd) (.int .i64 (-2))
    exact bodyPost_ret (results_26_30 rfl _ _ (w.heap.size + 1) (w.heap.size + 2) (.slice none 0 0) (.int .i64 cd) (.int .i64 (-2)) rfl rfl k1 k2) rfl (HR.out _ (k3 _ _ (by omega) (by omega) st9.bel))
  · obtain ⟨hz, hok⟩ := Rf.rfF_ok (by simpa using hbad)
    have HP2 := Lib.hid (HPF.out.trans (if_neg hbad))
    rw [hz]
    have st2 := st1.below (below_alloc1 w1 (.cells #[.int .i64 0, .int .i64 0] 30))
    clear hz hbad p0 p1 p2 p3 p4 p5 p6 l0 l1 l2 HPF
    obtain ⟨p0, p1, p2, p3, p4, p5, p6, l0, l1, l2⟩ := st2.facts
    by_cases h60 : 60 < l.length
    · have HR := Lib.hid (fun w' h => HNO.out 2 (-1) w' (HP2.out.trans (if_pos h60)) (by decide) h)
      have h60' : (60 : Int) < l.length := by omega
      clear HP2 h60 HNO HYES H20 H23
      go_wp2_with fail
      go_at_call 21
      refine (fault_b _ _ _).mono ?_
      rintro e w9 ⟨rfl, hb9⟩
      have st9 := st2.below hb9
      clear p0 p1 p2 p3 p4 p5 p6 l0 l1 l2 st2 st1
      obtain ⟨p0, p1, p2, p3, p4, p5, p6, l0, l1, l2⟩ := st9.facts
      go_wp2_with fail
      obtain ⟨k1, k2, k3⟩ := put12 st9.r1 st9.r2 (by omega) (.slice none 0 0) (.int .i64 2) (.int .i64 (-1))
      exact bodyPost_ret (results_26_30 rfl _ _ (w.heap.size + 1) (w.heap.size + 2) (.slice none 0 0) (.int .i64 2) (.int .i64 (-1)) rfl rfl k1 k2) rfl (HR.out _ (k3 _ _ (by omega) (by omega) st9.bel))
    have h60' : ¬ (60 : Int) < l.length := by omega
    have HP3 := Lib.hid (HP2.out.trans (if_neg h60))
    have HSG : Hid (Rf.Sg s l r 0 0 s) := Lib.hid (by rw [HP3.out]; exact Rf.Sg.start hok)
    have hz2 : (w1.alloc (.cells #[.int .i64 0, .int .i64 0] 30)).heap.size = w1.heap.size + 1 := by simp
    have HVA : Hid (SA (((w1.alloc (.cells #[.int .i64 0, .int .i64 0] 30)).alloc (.cells #[.slice A s.length k] 26)).alloc (.cells #[.slice A s.length k] 26)) (Vr w.heap.size (w1.heap.size + 1) (w1.heap.size + 1 + 1)) A (rsV s)) := Lib.hid (by
      have hb := st2.bel.trans ((below_alloc2 (w1.alloc (.cells #[.int .i64 0, .int .i64 0] 30)) (.cells #[.slice A s.length k] 26) (.cells #[.slice A s.length k] 26)).mono st2.bel.size)
      exact HV0.out.keep (Keeps.below hb (fun b hb' hX => by unfold Vr at hX; omega)))
    have s0 : LrSt w (((w1.alloc (.cells #[.int .i64 0, .int .i64 0] 30)).alloc (.cells #[.slice A s.length k] 26)).alloc (.cells #[.slice A s.length k] 26)) (w1.heap.size + 1) (w1.heap.size + 1 + 1) A s.length k A k s A k s :=
      ⟨st2.below (below_alloc2 _ _ _), (by rw [← hz2]; exact (Blk.new _ _ _).alloc _), (by rw [← hz2]; exact blk_new1 _ _ _ _), HVA.out, HVA.out, ⟨by omega, by omega⟩, hk, hk⟩
    clear HP2 HP3 h60 HV HV0 hok HVA
    obtain ⟨u0, u1, u2, u3, u4, u5, u6, v0, v1, v2⟩ := st1.facts
    have v3 : w.heap.size < w1.heap.size + 1 := by omega
    have v4 : w.heap.size < w1.heap.size + 1 + 1 := by omega
    go_wp2_with fail
    clear u0 u1 u2 u3 u4 u5 u6 v0 v1 v2 v3 v4
    clear p0 p1 p2 p3 p4 p5 p6 l0 l1 l2 st2 st1
    obtain ⟨g, hg⟩ : ∃ g, g = w1.heap.size + 1 := ⟨_, rfl⟩
    simp only [← hg] at *
    go_loopw [11, 12] (fun pv iv wr => ∃ (i : Nat) (t : Int) (Ax : Option Addr) (cx : Nat) (xs : List Rf.R) (Ao : Option Addr) (co : Nat) (os : List Rf.R), i ≤ l.length ∧ iv = .int .i64 i ∧ pv = .int .i64 t ∧ LrSt w wr g (g + 1) A s.length k Ax cx xs Ao co os ∧ Hid (Rf.Sg s l r i t xs) ∧ Hid (os = Rf.stAt s l (min i n.toNat))) (fun _ iv _ => l.length - (intOf iv).toNat)
    case atStart => exact ⟨0, 0, A, k, s, A, k, s, Nat.zero_le _, rfl, rfl, s0, HSG, Lib.hid (by rw [Nat.zero_min, Rf.stAt_zero])⟩
    case round =>
      obtain ⟨i, t, Ax, cx, xs, Ao, co, os, hi, rfl, rfl, st, HB, HO⟩ := hrel
      obtain ⟨wo, rfl⟩ : ∃ wo : World, wo = wr := ⟨_, rfl⟩
      obtain ⟨a0, a1, a2, a3, m0, m1⟩ := st.facts
      by_cases hlt : i < l.length
      · have hlt' : (i : Int) < l.length := by omega
        obtain ⟨b, off, e, hb, _, d0, d1, d2, d3⟩ := esV_row (HV2.out _ st.bt.bel) i hlt
        subst e
        have HEV := Lib.hid (fun (w1 : World) (h1 : Below wo.heap.size wo w1) => show b < w1.heap.size ∧ w1.cell? ⟨b, off + i * 4, none⟩ = some (.int .i64 l[i].time) ∧ w1.cell? ⟨b, off + i * 4 + 1, none⟩ = some (strV l[i].upd.name) ∧ w1.cell? ⟨b, off + i * 4 + 2, none⟩ = some (.int .i64 l[i].upd.old) ∧ w1.cell? ⟨b, off + i * 4 + 3, none⟩ = some (.int .i64 l[i].upd.new) from
          ⟨Nat.lt_of_lt_of_le hb h1.size, (h1.cell (p := ⟨b, _, none⟩) hb).trans d0, (h1.cell (p := ⟨b, _, none⟩) hb).trans d1, (h1.cell (p := ⟨b, _, none⟩) hb).trans d2, (h1.cell (p := ⟨b, _, none⟩) hb).trans d3⟩)
        have HT1 := Lib.hid (fun h => HB.out.tm hlt h)
        have HT2 := Lib.hid (fun h h2 => HB.out.bad hlt h h2)
        have HT3 := Lib.hid (fun h h2 => HB.out.next hlt h h2)
        have HC20 := Lib.hid (H20.out xs l[i].upd HB.out.ok)
        have HC23 := Lib.hid (H23.out xs l[i].upd HB.out.ok)
        clear HB
        generalize l[i] = en at *
        obtain ⟨et, un, uo, uw⟩ := en
        simp only at d0 d1 d2 d3 HT1 HT2 HT3 HC20 HC23 HEV
        have HIN := Lib.hid (in_any wo et t 100000)
        by_cases htm : et < t ∨ 100000 < et
        · have hin : (decide (t ≤ et) && decide (et ≤ (100000 : Int))) = false := by
            rw [Bool.and_eq_false_iff]
            rcases htm with h | h
            · left; simpa using h
            · right; simpa using h
          have HR := Lib.hid (fun w' h => HNO.out 3 i w' (HT1.out htm) (by decide) h)
          rw [hin] at HIN
          have sb := st.bt
          clear HT1 HT2 HT3 HC20 HC23 htm st HNO HYES hin
          go_wp2_with fail
          go_at_call 26
          refine HIN.out.mono ?_
          rintro e w9 ⟨rfl, hw9⟩
          have hw9 := hw9.symm
          subst hw9
          go_wp2_with fail
          go_at_call 21
          refine (fault_b _ _ _).mono ?_
          rintro e w9 ⟨rfl, hb9⟩
          have st9 := sb.below hb9
          clear a0 a1 a2 a3 m0 m1 d0 d1 d2 d3
          obtain ⟨p0, p1, p2, p3, p4, p5, p6, l0, l1, l2⟩ := st9.facts
          go_wp2_with fail
          obtain ⟨k1, k2, k3⟩ := put12 st9.r1 st9.r2 (by omega) (.slice none 0 0) (.int .i64 3) (.int .i64 i)
          exact bodyPost_ret (results_26_30 rfl _ _ (w.heap.size + 1) (w.heap.size + 2) (.slice none 0 0) (.int .i64 3) (.int .i64 i) rfl rfl k1 k2) rfl (HR.out _ (k3 _ _ (by omega) (by omega) st9.bel))
        · have hin : (decide (t ≤ et) && decide (et ≤ (100000 : Int))) = true := by
            rw [Bool.and_eq_true]
            exact ⟨by simp; omega, by simp; omega⟩
          have HT2b := Lib.hid (HT2.out htm)
          have HT3b := Lib.hid (HT3.out htm)
          rw [hin] at HIN
          have hd1 := below_drew' (Below.refl wo.heap.size wo)
          have std := st.below hd1
          clear HT1 HT2 HT3 htm st hin
          go_wp2_with fail
          go_at_call 26
          refine HIN.out.mono ?_
          rintro e w9 ⟨rfl, hw9⟩
          have hw9 := hw9.symm
          subst hw9
          clear HIN
          go_wp2_with fail
          go_still_tail 6, (by kernel_rfl)
          change wpList _ _ _ _ _ wo.drew
          go_wp2_with fail
          go_at_call 20
          refine (HC20.out wo.drew _ _ (std.rn.mono (fun _ h => h.elim))).mono ?_
          rintro e w5 ⟨rfl, hb5⟩
          have st5 := std.below hb5
          have hud := hd1.trans (hb5.mono hd1.size)
          clear HC20 std hb5 a0 a1 a2 a3 m0 m1 d0 d1 d2 d3 hb
          obtain ⟨a0, a1, a2, a3, m0, m1⟩ := st5.facts
          obtain ⟨hb, d0, d1, d2, d3⟩ := HEV.out _ hud
          by_cases hc : Rf.upC xs ⟨un, uo, uw⟩ = 0
          · have HE := Lib.hid (HT3b.out hc)
            rw [hc]
            clear HT2b HT3b hc
            have hd5 := below_drew' (Below.refl w5.heap.size w5)
            have std := st5.below hd5
            go_wp2_with fail
            go_still_tail 6, (by kernel_rfl)
            change wpList _ _ _ _ _ w5.drew
            go_wp2_with fail
            go_at_call 23
            refine (HC23.out w5.drew _ _ (std.rn.mono (fun _ h => h.elim))).mono ?_
            rintro e w6 ⟨Ay, cy, rfl, hown, hb6⟩
            have st6 := std.below hb6
            have hcy : (Rf.upS xs ⟨un, uo, uw⟩).length ≤ cy := by
              obtain ⟨A'', c'', e1, hcc, _⟩ := own_form hown
              injection e1 with _ _ e3
              subst e3; exact hcc
            have q0 := std.bt.r2.lt
            have q1 : g < w5.drew.heap.size := std.bn.lt
            have q2 : g + 1 < w5.drew.heap.size := std.bo.lt
            have st7 := st6.setn (Ay := Ay) (cy := cy) (SA.of_own' hown (fun b' hb' hX => by have h1 : w5.drew.heap.size ≤ b' := (hown.lt b' hb').1; unfold Vr at hX; omega)) hcy
            clear std a0 a1 a2 a3 m0 m1 d0 d1 d2 d3 hb st5
            obtain ⟨a0, a1, a2, a3, m0, m1⟩ := st6.facts
            clear st6 hown hb6 q0 q1 q2
            by_cases hin : (i : Int) < n
            · have HO2 : Hid (Rf.upS xs ⟨un, uo, uw⟩ = Rf.stAt s l (min (i + 1) n.toNat)) := Lib.hid (by rw [HE.out.st, Nat.min_eq_left (by omega)])
              have st8 := st7.seto
              clear HO st7
              go_wp2_with fail
              go_roundw
              case rel => exact ⟨i + 1, et, Ay, cy, _, Ay, cy, _, by omega, by go_num, rfl, st8, HE, HO2⟩
              case measure => simp [intOf]; omega
            · have HO2 : Hid (os = Rf.stAt s l (min (i + 1) n.toNat)) := Lib.hid (by rw [HO.out, Nat.min_eq_right (by omega), Nat.min_eq_right (by omega)])
              clear HO
              go_wp2_with fail
              go_roundw
              case rel => exact ⟨i + 1, et, Ay, cy, _, Ao, co, os, by omega, by go_num, rfl, st7, HE, HO2⟩
              case measure => simp [intOf]; omega
          · have HR := Lib.hid (fun w' h => HNO.out _ i w' (HT2b.out hc) hc h)
            have hc1 : (Rf.upC xs ⟨un, uo, uw⟩ != 0) = true := by simpa using hc
            have hc2 : (Rf.upC xs ⟨un, uo, uw⟩ == 0) = false := by simpa using hc
            have sb := st5.bt
            clear HT2b HT3b hc HC23 HNO HYES st5
            generalize Rf.upC xs ⟨un, uo, uw⟩ = cc at *
            go_wp2_with fail
            go_at_call 21
            refine (fault_b _ _ _).mono ?_
            rintro e w9 ⟨rfl, hb9⟩
            have st9 := sb.below hb9
            clear a0 a1 a2 a3 m0 m1 d0 d1 d2 d3
            obtain ⟨p0, p1, p2, p3, p4, p5, p6, l0, l1, l2⟩ := st9.facts
            go_wp2_with fail
            obtain ⟨k1, k2, k3⟩ := put12 st9.r1 st9.r2 (by omega) (.slice none 0 0) (.int .i64 cc) (.int .i64 i)
            exact bodyPost_ret (results_26_30 rfl _ _ (w.heap.size + 1) (w.heap.size + 2) (.slice none 0 0) (.int .i64 cc) (.int .i64 i) rfl rfl k1 k2) rfl (HR.out _ (k3 _ _ (by omega) (by omega) st9.bel))
      · obtain rfl : i = l.length := by omega
        obtain ⟨p0, p1, p2, p3, p4, p5, p6, l0, l1, l2⟩ := st.bt.facts
        have hos : os = Rf.stAt s l n.toNat := by rw [HO.out, Rf.stAt_min]
        obtain ⟨k1, k2, k3⟩ := put12 st.bt.r1 st.bt.r2 (by omega) (.slice Ao os.length co) (.int .i64 0) (.int .i64 0)
        have hK : Keeps wo (Vr w.heap.size g (g + 1)) (((wo.setCell ⟨w.heap.size + 1, 0, none⟩ (.slice Ao os.length co)).setCell ⟨w.heap.size + 2, 0, none⟩ (.int .i64 0)).setCell ⟨w.heap.size + 2, 1, none⟩ (.int .i64 0)) (Vr w.heap.size g (g + 1)) :=
          ((Keeps.setCell wo _ ⟨w.heap.size + 1, 0, none⟩ _ (.inl rfl)).trans (Keeps.setCell _ _ ⟨w.heap.size + 2, 0, none⟩ _ (.inr (.inl rfl)))).trans (Keeps.setCell _ _ ⟨w.heap.size + 2, 1, none⟩ _ (.inr (.inl rfl)))
        have HR := Lib.hid (HYES.out Ao co os _ HB.out.end_ hos st.cap.2 ((st.ro.keep hK).mono (fun _ h => h.elim)) (k3 _ _ (by omega) (by omega) st.bt.bel))
        clear HB HO hos HNO HYES hK st H20 H23
        go_wp2_with fail
        exact bodyPost_ret (results_26_30 rfl _ _ (w.heap.size + 1) (w.heap.size + 2) (.slice Ao os.length co) (.int .i64 0) (.int .i64 0) rfl rfl k1 k2) rfl HR.out
end Go.Proofs.YtfbbgnhelannjaaDoor
