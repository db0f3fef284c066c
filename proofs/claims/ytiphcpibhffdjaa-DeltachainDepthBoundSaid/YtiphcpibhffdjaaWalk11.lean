/-
  Delta chains: walks of the reference's 'ChainDepth' and 'ChainVersion'.
-/
import Derived.Test.YtiphcpibhffdjaaChV
import Derived.Test.YtiphcpibhffdjaaWalk5
import Derived.Deep.RegionHeld3
namespace Go.Proofs.Ytiphcpibhffdjaa
open Go.RowKit Go.V
set_option linter.unusedVariables false

theorem below_drew' {B : Nat} {a w : World} (h : Below B a w) : Below B a w.drew := below_drewN h 1
theorem free_below {w w' : World} (hb : Below w.heap.size w w') : Keeps w Free w' Free := Keeps.below hb (fun _ _ h => h)
set_option maxRecDepth 100000 in
set_option maxHeartbeats 4000000 in
theorem chainDepth_any (w : World) (A : Option Addr) (k : Nat) (c : List Dc.En) (i : Nat) (hv : ChV w Free A c) (hl : c.length ≤ 20) (hi : i < c.length) (hs : ∀ j, j ≤ i → Dc.code c j = 0) :
    Calls Try.prog 22 #[.slice A c.length k, .int .i64 (i : Int)] w fun e w' => e = .returned (.int .i64 ((Dc.dep c i : Nat) : Int)) ∧ w = w' := by
  have HROW := Lib.hid (fun i hi => hv.row (w := w) i hi)
  have hdl := Dc.dep_le c (i + 1) i (Nat.lt_succ_self _) (fun j hj => (Dc.shape_zero (Dc.code_shape (hs j hj))).2.1)
  have HS := Lib.hid hs
  have HEQ := Lib.hid (Dc.en_eq c)
  have HDL := Lib.hid (fun j (hj : j ≤ i) => Dc.dep_le c (j + 1) j (Nat.lt_succ_self _) (fun q hq => (Dc.shape_zero (Dc.code_shape (hs q (Nat.le_trans hq hj)))).2.1))
  have HF := Lib.hid (Dc.dep_full c)
  have HD := Lib.hid (Dc.dep_delta c)
  clear hs
  go_enter Try.func22, Try.ntmps22
  go_wp2_with fail
  go_loop [1, 5] (fun jv nv => ∃ (j n : Nat), j ≤ i ∧ jv = .int .i64 j ∧ nv = .int .i64 n ∧ Hid (Dc.dep c i = n + Dc.dep c j) ∧ n + j ≤ i) (fun jv _ => (intOf jv).toNat)
  case atStart => exact ⟨i, 0, Nat.le_refl _, rfl, rfl, Lib.hid (by simp), by omega⟩
  case round =>
    obtain ⟨j, n, hj, rfl, rfl, HJ, hnj⟩ := hrel
    have hjl : j < c.length := by omega
    have hjl' : (j : Int) < c.length := by omega
    obtain ⟨b, off, Ad, kd, Ao, ko, us, e, hb, _, d0, d1, d2, j0, j1, j2, j3, j4, hsd, hso, hrows⟩ := HROW.out j hjl
    subst e
    have hsh := Dc.shape_zero (Dc.code_shape (HS.out j hj))
    rw [HEQ.out j hjl] at d0
    rcases Int.lt_or_le (Dc.en c j).base 0 with hneg | hpos
    · have HFE := Lib.hid (HF.out j hneg)
      have hneg' : decide (0 ≤ (Dc.en c j).base) = false := by simpa using hneg
      have hb1 : -1 ≤ (Dc.en c j).base := hsh.1
      clear hsh d1 d2 hsd hso hrows j0 j1 j2 j3 j4
      generalize (Dc.en c j).base = bb at *
      go_wp2_with fail
      go_ret
      exact ⟨ret_eq (int_eq (by rw [HJ.out, HFE.out]; rfl)), rfl⟩
    · obtain ⟨q, hq⟩ := Int.eq_ofNat_of_zero_le hpos
      have hqj : q < j := by omega
      have HDE := Lib.hid (HD.out j q hq hqj)
      rw [hq] at d0
      clear hsh d1 d2 hsd hso hrows j0 j1 j2 j3 j4 hpos hq
      go_wp2_with fail
      go_round
      case rel => exact ⟨q, n + 1, by omega, rfl, by go_num, Lib.hid (by rw [HJ.out, HDE.out]; omega), by omega⟩
      case measure => simp [intOf]; omega

/-- Bytes. -/
def VerPost (w : World) (l : List UInt8) (e : Ending) (w' : World) : Prop := ∃ A' c', e = .returned (.slice A' l.length c') ∧ l.length ≤ c' ∧ SA w' Free A' (bytesV l) ∧ Below w.heap.size w w'
set_option maxRecDepth 100000 in
set_option maxHeartbeats 8000000 in
theorem chainVersion_any (A : Option Addr) (k : Nat) (c : List Dc.En) (hl : c.length ≤ 20) : ∀ (n i : Nat) (w : World), i < n → ChV w Free A c → i < c.length → (∀ j, j ≤ i → Dc.code c j = 0) →
    Calls Try.prog 23 #[.slice A c.length k, .int .i64 (i : Int)] w (VerPost w (Dc.ver c i)) := by
  intro n
  induction n with
  | zero => intro i w h; omega
  | succ n ih =>
    intro i w hn hv hi hs
    have hi' : (i : Int) < c.length := by omega
    have hi0 : (0 : Int) ≤ i := by omega
    obtain ⟨b, off, Ad, kd, Ao, ko, us, e, hb, _, d0, d1, d2, j0, j1, j2, j3, j4, hsd, hso, hrows⟩ := hv.row i hi
    have hsh := Dc.shape_zero (Dc.code_shape (hs i (Nat.le_refl _)))
    rw [Dc.en_eq c i hi] at d0 d1 d2 j0 j1 j2 j3 j4 hsd hrows
    rcases Int.lt_or_le (Dc.en c i).base 0 with hneg | hpos
    · have HE := Lib.hid (Dc.ver_full c i hneg)
      clear hso hrows ih hs hsh
      subst e
      generalize Dc.en c i = x at *
      obtain ⟨bb, dat, del⟩ := x
      simp only at *
      go_enter Try.func23, Try.ntmps23
      go_wp2_with fail
      go_ret
      rw [HE.out]
      exact ⟨Ad, kd, rfl, j1, hsd, Below.refl _ _⟩
    · obtain ⟨q, hq⟩ := Int.eq_ofNat_of_zero_le hpos
      have hqi : q < i := by omega
      have HE := Lib.hid (Dc.ver_delta c i q hq hqi)
      have hcq := hs q (by omega)
      have hvl := Dc.ver_len hcq
      have HC23 := Lib.hid (fun (w1 : World) (hb1 : Below w.heap.size w w1) => ih q w1 (by omega) (hv.keep (free_below hb1)) (by omega) (fun j hj => hs j (by omega)))
      have HC16 := Lib.hid (fun (w1 : World) (A6 : Option Addr) (c6 : Nat) (hb1 : Below w.heap.size w w1) (hs6 : SA w1 Free A6 (bytesV (Dc.ver c q))) (hc6 : (Dc.ver c q).length ≤ c6) =>
        applyDelta_any w1 A6 Ao c6 ko (Dc.ver c q) (Dc.en c i).delta us hs6.sv hc6 ((hrows.mono (OpA.keep (free_below hb1))).mono OpA.toR) (hso.keep (free_below hb1)).sv (by omega) (by omega))
      have HS : Hid (∀ (w6 : World), Below w.heap.size w w6 → w6.cell? ⟨b, off + i * 3, none⟩ = some (.int .i64 (q : Int)) ∧ w6.cell? ⟨b, off + i * 3 + 2, none⟩ = some (.slice Ao (Dc.en c i).delta.length ko)) := Lib.hid fun w6 hb6 =>
        ⟨(hb6.cell (p := ⟨b, _, none⟩) hb).trans (hq ▸ d0), (hb6.cell (p := ⟨b, _, none⟩) hb).trans d2⟩
      have hk0 : Below w.heap.size w w.drew := below_drew' (Below.refl _ _)
      have hk3 : Below w.heap.size w (w.alloc (.cells #[.int .i64 0, .int .i64 0] 26)).drew := below_drew' (below_alloc1 w _)
      rw [hq] at d0
      clear hsd hso hrows ih hs hsh hcq hv j0 j1 j2 j3 j4 hpos d1 hq
      subst e
      generalize (Dc.en c i).delta = del at *
      generalize Dc.ver c q = vq at *
      generalize Dc.ver c i = vi at *
      have HE2 := Lib.hid (congrArg (fun x => x.length) HE.out)
      generalize Dc.apply vq del = r at *
      obtain ⟨out, cd, ix⟩ := r
      obtain rfl : vi = out := HE.out
      clear HE HE2
      go_enter Try.func23, Try.ntmps23
      go_wp2_with fail
      go_region_held3 (fun w' => w'.cell? ⟨b, off + i * 3, none⟩ = some (.int .i64 (q : Int)) ∧ w'.cell? ⟨b, off + i * 3 + 2, none⟩ = some (.slice Ao del.length ko))
        (first | exact HS.out _ hk0 | exact HS.out _ hk3 | exact HS.out _ hk4 | exact HS.out _ hk5 | exact HS.out _ hk6 | exact HS.out _ (hk6.alloc hk6.size _) | exact HS.out _ ((hk6.setCell (by first | omega | (simp; done) | (simp; omega)) _).setCell (by first | omega | (simp; done) | (simp; omega)) _))
        (first | (go_at_call 23; first | ((with_reducible refine (HC23.out _ hk0).mono ?_); rintro e w6 ⟨A6, c6, rfl, hc6, hs6, hb6⟩; have hk4 : Below w.heap.size w w6 := hk0.trans (hb6.mono hk0.size); have hk5 := hk4.alloc hk4.size (.cells #[.int .i64 0, .int .i64 0] 26); have hs6' := hs6.keep (Keeps.alloc w6 Free (.cells #[.int .i64 0, .int .i64 0] 26))) | ((with_reducible refine (HC23.out _ hk3).mono ?_); rintro e w6 ⟨A6, c6, rfl, hc6, hs6, hb6⟩; have hk4 : Below w.heap.size w w6 := hk3.trans (hb6.mono hk3.size); have nk : Blk w6 w.heap.size 26 #[.int .i64 0, .int .i64 0] := (Blk.new w 26 #[.int .i64 0, .int .i64 0]).drew.below hb6 (by simp))) | (go_at_call 16; first | ((with_reducible refine (HC16.out _ A6 c6 hk4 hs6 hc6).mono ?_); rintro e w7 ⟨v7, rfl, hown7, hb7⟩; have hk6 : Below w.heap.size w w7 := hk4.trans (hb7.mono hk4.size); have hz7 := hk6.size; try (have nk2 := nk.below hb7 nk.lt; have n0 := nk2.cell 0; have n1 := nk2.cell 1; have n2 := nk2.frozen 0; have n3 := nk2.frozen 1; have n4 := nk2.lt; simp only [List.getElem?_toArray, List.getElem?_cons_zero, List.getElem?_cons_succ] at n0 n1)) | ((with_reducible refine (HC16.out _ A6 c6 hk5 hs6' hc6).mono ?_); rintro e w7 ⟨v7, rfl, hown7, hb7⟩; have hk6 : Below w.heap.size w w7 := hk5.trans (hb7.mono hk5.size); have hz7 := hk6.size; have hz4 := hk4.size; have nk2 := (Blk.new w6 26 #[.int .i64 0, .int .i64 0]).below hb7 (by simp); have n0 := nk2.cell 0; have n1 := nk2.cell 1; have n2 := nk2.frozen 0; have n3 := nk2.frozen 1; have n4 := nk2.lt; simp only [List.getElem?_toArray, List.getElem?_cons_zero, List.getElem?_cons_succ] at n0 n1)))
      all_goals go_wp2_with fail
      all_goals go_ret
      all_goals (obtain ⟨A', c', rfl, hc'⟩ := own_form hown7)
      · exact ⟨A', c', rfl, hc'.1, (SA.of_own hown7 (fun b h => h.elim)).keep (Keeps.alloc _ _ _), hk6.alloc hk6.size _⟩
      all_goals refine ⟨A', c', rfl, hc'.1, (((SA.of_own (X := Under _) hown7 (fun b h => h)).keep (Keeps.setCell _ _ _ _ ?_)).keep (Keeps.setCell _ _ _ _ ?_)).mono (fun _ h => h.elim), (hk6.setCell ?_ _).setCell ?_ _⟩
      all_goals (have hz4' := hk4.size; have hz6 := hb6.size; (try simp at hz6); try simp only [Under]; first | omega | (simp; done) | (simp; omega))
end Go.Proofs.Ytiphcpibhffdjaa
