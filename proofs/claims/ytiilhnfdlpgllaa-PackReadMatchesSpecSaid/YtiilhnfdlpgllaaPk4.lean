/-
  Objects: walk of 'Digest'.
-/
import Derived.Test.YtiilhnfdlpgllaaPk3
namespace Go.Proofs.Ytiilhnfdlpgllaa
open Go.RowKit Go.V
set_option linter.unusedVariables false

/-- A number, a fault, and nothing that lay has turned. -/
def NumPost (w : World) (n : Int) (r : Int × Int) (e : Ending) (w' : World) : Prop := e = .returned (.tuple #[.int .i64 n, .agg #[.int .i64 r.1, .int .i64 r.2]]) ∧ Below w.heap.size w w'
set_option maxRecDepth 100000 in
set_option maxHeartbeats 8000000 in
theorem digest_bad (w : World) (o : Ob.O) (Al : Option Addr) (kl : Nat) (Ad : Option Addr) (kd : Nat) (ho : ObA w Free o Al kl Ad kd) (hbad : (Ob.obF o).1 ≠ 0) :
    Calls Try.prog 29 #[obV o Al kl Ad kd] w (NumPost w 0 (Ob.obF o)) := by
  have HC := Lib.hid (fun (w' : World) (hb : Below w.heap.size w w') => check_any w' o Al kl Ad kd (ho.keep (free_below hb)))
  have hb1 : ((Ob.obF o).1 == 0) = false := by simpa using hbad
  have hb2 : ((Ob.obF o).1 != 0) = true := by simpa using hbad
  clear ho hbad
  generalize Ob.obF o = r at *
  obtain ⟨cd, ix⟩ := r
  obtain ⟨kk, ls, da⟩ := o
  simp only at *
  go_enter Try.func29, Try.ntmps29
  go_wp2_with fail
  go_at_call 45
  refine (HC.out _ (below_alloc2 _ _ _)).mono ?_
  rintro e w1 ⟨rfl, hbel⟩
  have hblk := (blk_new1 w (.cells #[.int .i64 kk, .slice Al ls.length kl, .slice Ad da.length kd] 44) 28 #[.int .i64 0, .int .i64 0]).below hbel (by simp)
  have hbw := (below_alloc2 w (.cells #[.int .i64 kk, .slice Al ls.length kl, .slice Ad da.length kd] 44) (.cells #[.int .i64 0, .int .i64 0] 28)).trans (hbel.mono (by simp; omega))
  have hsz := hbw.size
  have hlt := hblk.lt
  have hc0 := hblk.cell 0
  have hc1 := hblk.cell 1
  have hf0 := hblk.frozen 0
  have hf1 := hblk.frozen 1
  simp only [List.getElem?_toArray, List.getElem?_cons_zero, List.getElem?_cons_succ] at hc0 hc1
  clear hbel HC
  go_wp2_with fail
  go_region
  all_goals
    go_wp2_with fail
    refine bodyPost_ret (results_tc rfl _ _ (w.heap.size + 1) (.int .i64 cd) (.int .i64 ix) rfl (((blk_put2 hblk _ _).alloc _).drewN 1)) rfl ⟨rfl, ?_⟩
    exact below_drewN (((hbw.setCell (by simp) _).setCell (by simp) _).alloc (by simp; omega) _) 1
set_option maxRecDepth 100000 in
set_option maxHeartbeats 8000000 in
theorem digest_ok (w : World) (o : Ob.O) (Al : Option Addr) (kl : Nat) (Ad : Option Addr) (kd : Nat) (ho : ObA w Free o Al kl Ad kd) (hok : Ob.Ok o) :
    Calls Try.prog 29 #[obV o Al kl Ad kd] w (NumPost w ((Ob.dig o : Nat) : Int) (0, 0)) := by
  have HC := Lib.hid (fun (w' : World) (hb : Below w.heap.size w w') => check_any w' o Al kl Ad kd (ho.keep (free_below hb)))
  have HB := Lib.hid (fun (w' : World) (hb : Below w.heap.size w w') => bytes_any w' o Al kl Ad kd (ho.keep (free_below hb)) hok)
  have HF := Lib.hid hok.f
  have hbl : (Ob.bytes o).length ≤ 4096 := by
    have h1 := hok.ln
    have h2 := hok.dn
    rw [Ob.bytes_length]; omega
  have HO := Lib.hid (fun (w' : World) A k h => of_bytes w' A k (Ob.bytes o) h hbl)
  have HD := Lib.hid (show Ob.dig o = Dg.ofL (Ob.bytes o) from rfl)
  clear ho hok hbl
  generalize Ob.dig o = dg at *
  generalize Ob.bytes o = by_ at *
  obtain ⟨kk, ls, da⟩ := o
  try simp only at *
  go_enter Try.func29, Try.ntmps29
  go_wp2_with fail
  go_at_call 45
  refine (HC.out _ (below_alloc2 _ _ _)).mono ?_
  rw [HF.out]
  rintro e w1 ⟨rfl, hbel⟩
  have hblk := (blk_new1 w (.cells #[.int .i64 kk, .slice Al ls.length kl, .slice Ad da.length kd] 44) 28 #[.int .i64 0, .int .i64 0]).below hbel (by simp)
  have hbox := ((Blk.new w 44 #[.int .i64 kk, .slice Al ls.length kl, .slice Ad da.length kd]).alloc (.cells #[.int .i64 0, .int .i64 0] 28)).below hbel (by simp; omega)
  have hbw := (below_alloc2 w (.cells #[.int .i64 kk, .slice Al ls.length kl, .slice Ad da.length kd] 44) (.cells #[.int .i64 0, .int .i64 0] 28)).trans (hbel.mono (by simp; omega))
  have hsz := hbw.size
  have hlt := hblk.lt
  have hlx := hbox.lt
  have p0 := hbox.cell 0
  have p1 := hbox.cell 1
  have p2 := hbox.cell 2
  simp only [List.getElem?_toArray, List.getElem?_cons_zero, List.getElem?_cons_succ] at p0 p1 p2
  have hbw2 := hbw.alloc hsz (.cells #[.int .i64 0, .int .i64 0] 28)
  have hblk2 := hblk.alloc (.cells #[.int .i64 0, .int .i64 0] 28)
  clear hbel HC
  go_wp2_with fail
  go_at_call 47
  refine (HB.out _ hbw2).mono ?_
  rintro e w2 ⟨A2, c2, rfl, hc2, _, hown2, hb2⟩
  have hbw3 := hbw2.trans (hb2.mono hbw2.size)
  have hblk3 := hblk2.below hb2 hblk2.lt
  have hsv := SV.of_own hown2
  clear hown2 hb2 hblk2 hbw2 hbw hblk
  go_wp2_with fail
  go_at_call 46
  refine (HO.out _ _ _ hsv).mono ?_
  rintro e w3 ⟨rfl, hb3⟩
  rw [← HD.out]
  have hbw4 := hbw3.trans (hb3.mono hbw3.size)
  have hblk4 := hblk3.below hb3 hblk3.lt
  have hlt := hblk4.lt
  have hf0 := hblk4.frozen 0
  have hf1 := hblk4.frozen 1
  have hc0 := hblk4.cell 0
  have hc1 := hblk4.cell 1
  simp only [List.getElem?_toArray, List.getElem?_cons_zero, List.getElem?_cons_succ] at hc0 hc1
  clear hb3 hblk3 hsv
  go_wp2_with fail
  refine bodyPost_ret (results_tc rfl _ _ (w.heap.size + 1) (.int .i64 0) (.int .i64 0) rfl (blk_put2 hblk4 _ _)) rfl ⟨rfl, ?_⟩
  exact (hbw4.setCell (by simp) _).setCell (by simp) _
end Go.Proofs.Ytiilhnfdlpgllaa
