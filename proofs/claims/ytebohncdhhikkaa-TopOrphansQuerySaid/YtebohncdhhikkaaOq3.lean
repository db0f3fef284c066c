/-
  Markers: walks of 'Obsolete' and of 'gone'.
-/
import Derived.Test.YtebohncdhhikkaaOq2
import Derived.Deep.MidRow
namespace Oq
/-- A change is the old one of a marker. -/
def lost (l : List Mk) (n : Int) : Bool := l.any fun m => decide (m.old = n)
theorem lost_take (l : List Mk) (i : Nat) (n : Int) (h : i < l.length) : lost (l.take (i + 1)) n = (lost (l.take i) n || decide (l[i].old = n)) := by
  unfold lost; rw [List.take_succ_eq_append_getElem h, List.any_append]; simp
end Oq
namespace Go.Proofs.Ytebohncdhhikkaa
open Go.RowKit Go.V
set_option linter.unusedVariables false

theorem results_arr {fn : Func} {a : Tmp} {T e : TypeId} {n : Nat} (h : fn.results = #[.cell a T]) (hu : Try.prog.underlying T = some (.array n e)) (tmps : Array Value) (w : World) (g : Nat) (cs : Array Value) (ha : tmps.getD a undef = .pointer (some ⟨g, 0, none⟩)) (hb : Blk w g T cs) (hi : (Try.prog.info? T).map (·.size) = some cs.size) :
    (results fn tmps).run Try.prog w = .ok (.agg cs) w := by
  have ha' : tmps[a]?.getD undef = .pointer (some ⟨g, 0, none⟩) := by simpa using ha
  have hl := run_loadVar_row (P := Try.prog) w g T T cs (0, 0) _ hb hu rfl hi
  simp [results, h, ha', hl, Sem.run_bind, asAddr]
theorem below_setRow {B : Nat} {a w : World} (h : Below B a w) {g : Nat} (hg : B ≤ g) (cs : Array Value) : Below B a (w.setRow g cs) :=
  ⟨h.os, h.tape, h.output, by rw [setRow_size]; exact h.size, fun b hb => (setRow_other w g b cs (by omega)).trans (h.block b hb)⟩
theorem obsolete_any (w : World) (A : Option Addr) (k : Nat) (l : List Oq.Mk) (n : Int) (hv : MV w A l) (hl : l.length ≤ 9223372036854775807) :
    Calls Try.prog 8 #[.slice A l.length k, .int .i64 n] w fun e w' => e = .returned (.bool (Oq.lost l n)) ∧ w' = w := by
  have HV := Lib.hid hv
  generalize hr : Oq.lost l n = r
  have HR := Lib.hid hr.symm
  have HT := Lib.hid (fun i h => Oq.lost_take l i n h)
  have HA := Lib.hid (show ∀ i (h : i < l.length), l[i].old = n → Oq.lost l n = true from fun i h e => List.any_eq_true.2 ⟨l[i], List.getElem_mem h, by simpa using e⟩)
  clear hr hv
  go_enter Try.func8, Try.ntmps8
  go_wp2_with fail
  go_loopw [5] (fun iv wr => ∃ i : Nat, i ≤ l.length ∧ iv = .int .i64 i ∧ wr = w ∧ Hid (Oq.lost (l.take i) n = false)) (fun iv _ => l.length - (intOf iv).toNat)
  case atStart => exact ⟨0, Nat.zero_le _, rfl, (by first | exact rfl | trivial), Lib.hid rfl⟩
  case round =>
    obtain ⟨i, hi, rfl, rfl, H⟩ := hrel
    by_cases hlt : i < l.length
    · have hlt' : (i : Int) < l.length := by omega
      obtain ⟨b, off, Ap, kp, e, hb, d0, d1, _, _⟩ := HV.out.row i hlt
      subst e
      have HT2 := Lib.hid (HT.out i hlt)
      have HA2 := Lib.hid (HA.out i hlt)
      generalize l[i] = x at *
      obtain ⟨xo, xn⟩ := x
      simp only at *
      by_cases hx : xo = n
      · have H2 := Lib.hid (HR.out.trans (HA2.out hx))
        subst hx
        have he : (xo == xo) = true := by simp
        clear HT2 HA2 H
        go_wp2_with fail
        go_ret
        exact ⟨by rw [H2.out]; rfl, rfl⟩
      · have H2 : Hid (Oq.lost (l.take (i + 1)) n = false) := Lib.hid (by rw [HT2.out, H.out, decide_eq_false hx]; rfl)
        have he : (xo == n) = false := by simpa using hx
        clear HT2 HA2 H hx
        go_wp2_with fail
        go_roundw
        case rel => exact ⟨i + 1, by omega, by go_num, (by first | exact rfl | trivial), H2⟩
        case measure => simp [intOf]; omega
    · obtain rfl : i = l.length := by omega
      have H2 : Hid (r = false) := Lib.hid (by rw [HR.out]; have := H.out; rwa [List.take_length] at this)
      go_wp2_with fail
      go_ret
      exact ⟨by rw [H2.out]; rfl, rfl⟩
/-- What 'gone' tells. -/
def GonePost (w : World) (l : List Oq.Mk) (e : Ending) (w' : World) : Prop := e = .returned (.agg (boolsA (tab 60 fun i => Oq.lost l (i : Int)))) ∧ Below w.heap.size w w'
/-- The state of the loop. -/
structure GnSt (w wr : World) (f : Nat → Bool) : Prop where
  res : Blk wr w.heap.size 52 (boolsA (tab 60 fun _ => false))
  out : Blk wr (w.heap.size + 1) 52 (boolsA (tab 60 f))
  bel : Below w.heap.size w wr
theorem boolsA_size (n : Nat) (f : Nat → Bool) : (boolsA (tab n f)).size = n := by simp [boolsA, tab]
theorem boolsA_one (l : List Bool) : (boolsA l).all (·.oneCell') = true := by
  rw [Array.all_eq_true_iff_forall_mem]; intro x hx
  simp [boolsA] at hx
  rcases hx with ⟨_, rfl⟩ | ⟨_, rfl⟩ <;> rfl
theorem zero60 : (#[Value.bool false, .bool false, .bool false, .bool false, .bool false, .bool false, .bool false, .bool false, .bool false, .bool false, .bool false, .bool false, .bool false, .bool false, .bool false, .bool false, .bool false, .bool false, .bool false, .bool false, .bool false, .bool false, .bool false, .bool false, .bool false, .bool false, .bool false, .bool false, .bool false, .bool false, .bool false, .bool false, .bool false, .bool false, .bool false, .bool false, .bool false, .bool false, .bool false, .bool false, .bool false, .bool false, .bool false, .bool false, .bool false, .bool false, .bool false, .bool false, .bool false, .bool false, .bool false, .bool false, .bool false, .bool false, .bool false, .bool false, .bool false, .bool false, .bool false, .bool false] : Array Value) = boolsA (tab 60 fun _ => false) := by kernel_rfl
set_option maxRecDepth 100000 in
set_option maxHeartbeats 8000000 in
theorem gone_any (w : World) (A : Option Addr) (k : Nat) (l : List Oq.Mk) (hv : MV w A l) (hl : l.length ≤ 9223372036854775807) (hok : ∀ i (h : i < l.length), 0 ≤ l[i].old ∧ l[i].old ≤ 59) :
    Calls Try.prog 18 #[.slice A l.length k] w (GonePost w l) := by
  have HV := Lib.hid (fun (w1 : World) (hb : Below w.heap.size w w1) => hv.below hb)
  have HOK := Lib.hid hok
  have HT := Lib.hid (fun i n h => Oq.lost_take l i n h)
  have st0 : GnSt w ((w.alloc (.cells (boolsA (tab 60 fun _ => false)) 52)).alloc (.cells (boolsA (tab 60 fun _ => false)) 52)) (fun i => Oq.lost (l.take 0) (i : Int)) :=
    ⟨(Blk.new _ _ _).alloc _, blk_new1 _ _ _ _, below_alloc2 _ _ _⟩
  clear hv hok
  go_enter Try.func18, Try.ntmps18
  go_wp2_with fail
  rw [zero60] at *
  go_loopw [8] (fun iv wr => ∃ i : Nat, i ≤ l.length ∧ iv = .int .i64 i ∧ GnSt w wr (fun j => Oq.lost (l.take i) (j : Int))) (fun iv _ => l.length - (intOf iv).toNat)
  case atStart => exact ⟨0, Nat.zero_le _, rfl, st0⟩
  case round =>
    clear st0
    obtain ⟨i, hi, rfl, st⟩ := hrel
    obtain ⟨wo, rfl⟩ : ∃ wo : World, wo = wr := ⟨_, rfl⟩
    by_cases hlt : i < l.length
    · have hlt' : (i : Int) < l.length := by omega
      obtain ⟨b, off, Ap, kp, e, hb, d0, d1, _, _⟩ := (HV.out _ st.bel).row i hlt
      subst e
      obtain ⟨ok1, ok2⟩ := HOK.out i hlt
      have HT2 := Lib.hid (fun n => HT.out i n hlt)
      generalize l[i] = x at *
      obtain ⟨xo, xn⟩ := x
      simp only at *
      obtain ⟨o, rfl⟩ := Int.eq_ofNat_of_zero_le ok1
      have ho60 : o < 60 := by omega
      have ho60' : (o : Int) < 60 := by omega
      have ok2' : (o : Int) ≤ 59 := by omega
      have q0 := blk_tabB st.out o ho60
      have f0 := st.out.frozen o
      have l0 := st.out.lt
      have l1 := st.res.lt
      have hn := below_alloc1 wo (.cells #[.int .i64 (o : Int), .slice Ap xn.length kp] 57)
      have st2 : GnSt w ((wo.setCell ⟨w.heap.size + 1, o, none⟩ (.bool true)).alloc (.cells #[.int .i64 (o : Int), .slice Ap xn.length kp] 57)) (fun j => Oq.lost (l.take (i + 1)) (j : Int)) :=
        ⟨(st.res.far (by simp) _).alloc _, (blk_tabB_set st.out o true (fun j _ => by
          rw [HT2.out]
          by_cases e : j = o
          · subst e; simp
          · have : ¬ (o : Int) = (j : Int) := by omega
            simp [this, e])).alloc _, (st.bel.setCell (by simp) _).alloc (by simp [World.setCell]; exact st.bel.size) _⟩
      go_wp2_with fail
      go_roundw
      case rel => exact ⟨i + 1, by omega, by go_num, st2⟩
      case measure => simp [intOf]; omega
    · obtain rfl : i = l.length := by omega
      have l0 := st.out.lt
      have l1 := st.res.lt
      have hF : (fun j : Nat => Oq.lost (l.take l.length) (j : Int)) = fun j : Nat => Oq.lost l (j : Int) := by rw [List.take_length]
      rw [hF] at st
      clear hF
      have hrng : wo.rangeAt (w.heap.size + 1) 0 (boolsA (tab 60 fun j => Oq.lost l (j : Int))).toList := fun j v hv => by rw [Nat.zero_add, st.out.cell j, ← Array.getElem?_toList]; exact hv
      have hsz : (Try.prog.info? 52).map (·.size) = some (boolsA (tab 60 fun j => Oq.lost l (j : Int))).toList.length := by rw [Array.length_toList, boolsA_size]; kernel_rfl
      have hsz2 : (Try.prog.info? 52).map (·.size) = some (boolsA (tab 60 fun j => Oq.lost l (j : Int))).size := by rw [boolsA_size]; kernel_rfl
      have hsz3 : (boolsA (tab 60 fun _ => false)).size = (boolsA (tab 60 fun j => Oq.lost l (j : Int))).size := by rw [boolsA_size, boolsA_size]
      have hone := boolsA_one (tab 60 fun j => Oq.lost l (j : Int))
      have res2 : Blk (wo.setRow w.heap.size (boolsA (tab 60 fun j => Oq.lost l (j : Int)))) w.heap.size 52 (boolsA (tab 60 fun j => Oq.lost l (j : Int))) := setRow_heap wo _ _ _ _ _ st.res
      have bel2 := below_setRow st.bel (Nat.le_refl w.heap.size) (boolsA (tab 60 fun j => Oq.lost l (j : Int)))
      have HG := Lib.hid (fun (W : World) (hb : Below w.heap.size w W) => (show GonePost w l (.returned (.agg (boolsA (tab 60 fun j => Oq.lost l (j : Int))))) W from ⟨rfl, hb⟩))
      generalize boolsA (tab 60 fun j => Oq.lost l (j : Int)) = CS at *
      go_wp2_with (first | (refine wpList_load_mid rfl 52 (.tmp 3) rfl (w.heap.size + 1) 0 rfl CS.toList _ hrng Try.underlying52 rfl hsz ?_; rw [Array.toArray_toList]) | (refine wpList_store_row rfl 52 (.tmp 2) (.tmp 16) rfl w.heap.size CS rfl rfl 52 _ st.res hsz2 hsz3 hone ?_))
      refine bodyPost_ret (results_arr rfl Try.underlying52 _ _ w.heap.size CS rfl res2 hsz2) rfl ?_
      exact HG.out _ bel2
end Go.Proofs.Ytebohncdhhikkaa
