/-
  ObjectsPutMatchesSpec: the law's walk.
-/
import Derived.Test.YtiilhnfdlpgllaaOb13
import Derived.Test.YtiilhnfdlpgllaaOb14
namespace Ob
theorem putR_len (s : List S) (o : O) (h : s.length ≤ 40) : (putR s o).1.length ≤ 41 := by
  unfold putR
  have := lb_le s (dig o)
  split
  · split
    · simp only; omega
    · simp
  · rename_i hf
    split
    · simp
    · simp only [addS]; rw [if_neg hf]; simp; omega
/-- 'Put' answers as 'PutObject' says. -/
theorem put_put {s : List S} {o : O} (hs : StOk s) (ho : Ok o) : ((putR s o).2.2 = 0 ∧ putF s o = ((putR s o).1, (putR s o).2.1, (0, 0))) ∨ ((putR s o).2.2 ≠ 0 ∧ putR s o = ([], 0, (putR s o).2.2) ∧ putF s o = ([], 0, ((putR s o).2.2, -1))) := by
  have hl := hs.len
  unfold putF
  rw [hs.f, ho.f, if_neg (by simp), if_neg (by simp)]
  by_cases hf : fnd s (dig o) = true
  · have h1 : addOk s (dig o) o = Go.Proofs.Ytiilhnfdlpgllaa.eqO (it s (lb s (dig o))).ob o := by unfold addOk; rw [if_pos hf]
    have h2 : addS s (dig o) o = s := by unfold addS; rw [if_pos hf]
    by_cases he : Go.Proofs.Ytiilhnfdlpgllaa.eqO (it s (lb s (dig o))).ob o = true
    · have hr : putR s o = (s, ((dig o : Nat) : Int), 0) := by unfold putR; rw [if_pos hf, if_pos he]
      rw [h1, he, h2, hr, if_neg (by simp), if_neg (by omega)]
      exact .inl ⟨rfl, rfl⟩
    · have hr : putR s o = ([], 0, 19) := by unfold putR; rw [if_pos hf, if_neg he]
      rw [h1, hr, if_pos (by simpa using he)]
      exact .inr ⟨by decide, rfl, rfl⟩
  · have h1 : addOk s (dig o) o = true := by unfold addOk; rw [if_neg hf]
    have hple := lb_le s (dig o)
    have h2 : (addS s (dig o) o).length = s.length + 1 := by unfold addS; rw [if_neg hf]; simp; omega
    by_cases h40 : 40 ≤ s.length
    · have hr : putR s o = ([], 0, 14) := by unfold putR; rw [if_neg hf, if_pos h40]
      rw [h1, hr, if_neg (by simp), if_pos (by omega)]
      exact .inr ⟨by decide, rfl, rfl⟩
    · have hr : putR s o = (addS s (dig o) o, ((dig o : Nat) : Int), 0) := by unfold putR; rw [if_neg hf, if_neg h40]
      rw [h1, hr, if_neg (by simp), if_neg (by omega)]
      exact .inl ⟨rfl, rfl⟩
end Ob
namespace Go.Proofs.Ytiilhnfdlpgllaa
open Go.RowKit Go.V
set_option linter.unusedVariables false

theorem stores_nil (w : World) : Calls Try.prog 22 #[.agg #[.slice none 0 0], .agg #[.slice none 0 0]] w fun e w' => e = .returned (.bool true) ∧ Below w.heap.size w w' :=
  stores_any w none none 0 0 [] ⟨[], SA.nil, rfl⟩ ⟨[], SA.nil, rfl⟩ (by simp)
set_option maxRecDepth 100000 in
set_option maxHeartbeats 16000000 in
theorem law9_any (w : World) (A : Option Addr) (k : Nat) (s : List Ob.S) (o : Ob.O) (Al : Option Addr) (kl : Nat) (Ad : Option Addr) (kd : Nat) (hv : StV w Free A s) (hl64 : s.length ≤ 9223372036854775807) (ho : ObA w Free o Al kl Ad kd) :
    Calls Try.prog 9 #[stV A s.length k, obV o Al kl Ad kd] w fun e w' => e = .returned (.bool true) ∧ Below w.heap.size w w' := by
  have HV := Lib.hid (fun (w1 : World) (hb : Below w.heap.size w w1) => hv.keep (free_below hb))
  have HO := Lib.hid (fun (w1 : World) (hb : Below w.heap.size w w1) => ho.keep (free_below hb))
  have H16 := Lib.hid (fun (w1 : World) (hb : Below w.heap.size w w1) => storeFault_any w1 A k s (HV.out _ hb) hl64)
  have H32 := Lib.hid (fun (w1 : World) (hb : Below w.heap.size w w1) => validate_any w1 A k s (HV.out _ hb) hl64)
  have H33 := Lib.hid (fun (w1 : World) (hb : Below w.heap.size w w1) => put_any w1 A k s o Al kl Ad kd (HV.out _ hb) hl64 (HO.out _ hb))
  have H30 := Lib.hid (fun (w1 : World) (hb : Below w.heap.size w w1) => obFault_any w1 o Al kl Ad kd (HO.out _ hb))
  have H34 := Lib.hid (fun (w1 : World) (hb : Below w.heap.size w w1) (g : Nat) (hg : w.heap.size ≤ g ∧ g < w1.heap.size) (hs : Ob.StOk s) (hok : Ob.Ok o) => putObject_any w1 A k s o Al kl Ad kd (HV.out _ hb) hs (HO.out _ hb) hok (fun b => b = g)
    (hv.keep (Keeps.of_below hb (Nat.le_refl _) (fun b h _ => h) (fun b h (e : b = g) => absurd h (by omega))))
    (ho.keep (Keeps.of_below hb (Nat.le_refl _) (fun b h _ => h) (fun b h (e : b = g) => absurd h (by omega)))) (fun b e => by omega))
  have HPP := Lib.hid (fun (hs : Ob.StOk s) (hok : Ob.Ok o) => Ob.put_put hs hok)
  have HPF := Lib.hid (Ob.putF.eq_1 s o)
  have hfld : ∀ (x y : Value) W, (Instr.field 28 (.agg #[x, y]) 0).run Try.prog W = .ok x W := fun _ _ _ => by kernel_rfl
  have hb0 : Below w.heap.size w w := Below.refl _ _
  have HB0 := Lib.hid (Ob.obF_ok (o := o))
  clear hv ho
  obtain ⟨kk, ls, da⟩ := o
  go_enter Try.func9, Try.ntmps9
  have bx := Blk.new w 24 #[.slice A s.length k]
  have B0a0 := hb0.alloc hb0.size (.cells #[.slice A s.length k] 24)
  replace bx := bx.alloc (.cells #[.int .i64 kk, .slice Al ls.length kl, .slice Ad da.length kd] 44)
  have bo : Blk ((w.alloc (.cells #[.slice A s.length k] 24)).alloc (.cells #[.int .i64 kk, .slice Al ls.length kl, .slice Ad da.length kd] 44)) (w.heap.size + 1) 44 #[.int .i64 kk, .slice Al ls.length kl, .slice Ad da.length kd] := by simpa using Blk.new (w.alloc (.cells #[.slice A s.length k] 24)) 44 #[.int .i64 kk, .slice Al ls.length kl, .slice Ad da.length kd]
  have B0a1 := B0a0.alloc B0a0.size (.cells #[.int .i64 kk, .slice Al ls.length kl, .slice Ad da.length kd] 44)
  go_wp2_with fail
  go_at_call 28
  refine (oexample_any _).mono ?_
  rintro e w1 ⟨rfl, hb1'⟩
  have B1 := B0a1.trans (hb1'.mono B0a1.size)
  replace bx := bx.below hb1' bx.lt
  replace bo := bo.below hb1' bo.lt
  have bx_l : w.heap.size < w1.heap.size := bx.lt
  have bx_l2 : w.heap.size < w1.heap.size + 1 + 1 := Nat.lt_succ_of_lt (Nat.lt_succ_of_lt bx_l)
  have bx_0 : w1.cell? ⟨w.heap.size, 0, none⟩ = some (.slice A s.length k) := (bx.cell 0).trans rfl
  have bo_l : w.heap.size + 1 < w1.heap.size := bo.lt
  have bo_l2 : w.heap.size + 1 < w1.heap.size + 1 + 1 := Nat.lt_succ_of_lt (Nat.lt_succ_of_lt bo_l)
  have bo_0 : w1.cell? ⟨w.heap.size + 1, 0, none⟩ = some (.int .i64 kk) := (bo.cell 0).trans rfl
  have bo_1 : w1.cell? ⟨w.heap.size + 1, 1, none⟩ = some (.slice Al ls.length kl) := (bo.cell 1).trans rfl
  have bo_2 : w1.cell? ⟨w.heap.size + 1, 2, none⟩ = some (.slice Ad da.length kd) := (bo.cell 2).trans rfl
  clear hb1'
  by_cases hbad : (Ob.stF s).1 ≠ 0
  · have HR := Lib.hid (HPF.out.trans (if_pos hbad))
    have hx1 : ((Ob.stF s).1 == 0) = false := by simpa using hbad
    have hx2 : ((Ob.stF s).1 != 0) = true := by simpa using hbad
    rw [HR.out] at H33
    clear hbad HPF HPP HR H34 HB0 HV HO H30
    generalize Ob.stF s = q at *
    obtain ⟨cd, ix⟩ := q
    simp only at hx1 hx2
    have hq2 : (cd != cd) = false := by simp
    have hq3 : (ix != ix) = false := by simp
    go_wp2_with fail
    go_at_call 16
    refine (H16.out _ B1).mono ?_
    rintro e w2 ⟨rfl, hb2'⟩
    have B2 := B1.trans (hb2'.mono B1.size)
    replace bx := bx.below hb2' bx.lt
    replace bo := bo.below hb2' bo.lt
    clear bo_0 bo_1 bo_2 bo_l bo_l2 bx_0 bx_l bx_l2
    have bx_l : w.heap.size < w2.heap.size := bx.lt
    have bx_l2 : w.heap.size < w2.heap.size + 1 + 1 := Nat.lt_succ_of_lt (Nat.lt_succ_of_lt bx_l)
    have bx_0 : w2.cell? ⟨w.heap.size, 0, none⟩ = some (.slice A s.length k) := (bx.cell 0).trans rfl
    have bo_l : w.heap.size + 1 < w2.heap.size := bo.lt
    have bo_l2 : w.heap.size + 1 < w2.heap.size + 1 + 1 := Nat.lt_succ_of_lt (Nat.lt_succ_of_lt bo_l)
    have bo_0 : w2.cell? ⟨w.heap.size + 1, 0, none⟩ = some (.int .i64 kk) := (bo.cell 0).trans rfl
    have bo_1 : w2.cell? ⟨w.heap.size + 1, 1, none⟩ = some (.slice Al ls.length kl) := (bo.cell 1).trans rfl
    have bo_2 : w2.cell? ⟨w.heap.size + 1, 2, none⟩ = some (.slice Ad da.length kd) := (bo.cell 2).trans rfl
    clear hb2'
    replace bx := bx.alloc (.cells #[.int .i64 cd, .int .i64 ix] 28)
    replace bo := bo.alloc (.cells #[.int .i64 cd, .int .i64 ix] 28)
    have v := Blk.new w2 28 #[.int .i64 cd, .int .i64 ix]
    have B2a0 := B2.alloc B2.size (.cells #[.int .i64 cd, .int .i64 ix] 28)
    have bx_l' : w.heap.size < (w2.alloc (.cells #[.int .i64 cd, .int .i64 ix] 28)).heap.size := bx.lt
    have bx_0' : (w2.alloc (.cells #[.int .i64 cd, .int .i64 ix] 28)).cell? ⟨w.heap.size, 0, none⟩ = some (.slice A s.length k) := (bx.cell 0).trans rfl
    have bo_l' : w.heap.size + 1 < (w2.alloc (.cells #[.int .i64 cd, .int .i64 ix] 28)).heap.size := bo.lt
    have bo_0' : (w2.alloc (.cells #[.int .i64 cd, .int .i64 ix] 28)).cell? ⟨w.heap.size + 1, 0, none⟩ = some (.int .i64 kk) := (bo.cell 0).trans rfl
    have bo_1' : (w2.alloc (.cells #[.int .i64 cd, .int .i64 ix] 28)).cell? ⟨w.heap.size + 1, 1, none⟩ = some (.slice Al ls.length kl) := (bo.cell 1).trans rfl
    have bo_2' : (w2.alloc (.cells #[.int .i64 cd, .int .i64 ix] 28)).cell? ⟨w.heap.size + 1, 2, none⟩ = some (.slice Ad da.length kd) := (bo.cell 2).trans rfl
    have v_l' : w2.heap.size < (w2.alloc (.cells #[.int .i64 cd, .int .i64 ix] 28)).heap.size := v.lt
    have v_0' : (w2.alloc (.cells #[.int .i64 cd, .int .i64 ix] 28)).cell? ⟨w2.heap.size, 0, none⟩ = some (.int .i64 cd) := (v.cell 0).trans rfl
    have v_1' : (w2.alloc (.cells #[.int .i64 cd, .int .i64 ix] 28)).cell? ⟨w2.heap.size, 1, none⟩ = some (.int .i64 ix) := (v.cell 1).trans rfl
    have hk0 : Below (w2.alloc (.cells #[.int .i64 cd, .int .i64 ix] 28)).heap.size (w2.alloc (.cells #[.int .i64 cd, .int .i64 ix] 28)) (w2.alloc (.cells #[.int .i64 cd, .int .i64 ix] 28)).drew := below_drew' (Below.refl _ _)
    have HK : Hid (∀ w6 : World, Below (w2.alloc (.cells #[.int .i64 cd, .int .i64 ix] 28)).heap.size (w2.alloc (.cells #[.int .i64 cd, .int .i64 ix] 28)) w6 → w6.cell? ⟨w.heap.size, 0, none⟩ = some (.slice A s.length k) ∧ w6.cell? ⟨w2.heap.size, 0, none⟩ = some (.int .i64 cd) ∧ w6.cell? ⟨w2.heap.size, 1, none⟩ = some (.int .i64 ix)) := Lib.hid fun w6 h6 => ⟨(h6.cell (p := ⟨_, _, none⟩) bx_l').trans bx_0', (h6.cell (p := ⟨_, _, none⟩) v_l').trans v_0', (h6.cell (p := ⟨_, _, none⟩) v_l').trans v_1'⟩
    clear bx_l' bx_0' bo_l' bo_0' bo_1' bo_2' v_l' v_0' v_1'
    go_wp2_with fail
    go_region_held3 (fun w6 => w6.cell? ⟨w.heap.size, 0, none⟩ = some (.slice A s.length k) ∧ w6.cell? ⟨w2.heap.size, 0, none⟩ = some (.int .i64 cd) ∧ w6.cell? ⟨w2.heap.size, 1, none⟩ = some (.int .i64 ix))
      (first | exact HK.out _ hk0 | exact HK.out _ hk1)
      (first | (go_at_call 32; (with_reducible refine (H32.out _ (B2a0.trans (hk0.mono B2a0.size))).mono ?_); rintro e wz ⟨rfl, hz1⟩; have hk1 : Below (w2.alloc (.cells #[.int .i64 cd, .int .i64 ix] 28)).heap.size (w2.alloc (.cells #[.int .i64 cd, .int .i64 ix] 28)) wz := hk0.trans (hz1.mono hk0.size)))
    have B3 := B2a0.trans (hk1.mono B2a0.size)
    replace bx := bx.below hk1 bx.lt
    replace bo := bo.below hk1 bo.lt
    replace v := v.below hk1 v.lt
    clear bo_0 bo_1 bo_2 bo_l bo_l2 bx_0 bx_l bx_l2
    have bx_l : w.heap.size < wz.heap.size := bx.lt
    have bx_l2 : w.heap.size < wz.heap.size + 1 + 1 := Nat.lt_succ_of_lt (Nat.lt_succ_of_lt bx_l)
    have bx_0 : wz.cell? ⟨w.heap.size, 0, none⟩ = some (.slice A s.length k) := (bx.cell 0).trans rfl
    have bo_l : w.heap.size + 1 < wz.heap.size := bo.lt
    have bo_l2 : w.heap.size + 1 < wz.heap.size + 1 + 1 := Nat.lt_succ_of_lt (Nat.lt_succ_of_lt bo_l)
    have bo_0 : wz.cell? ⟨w.heap.size + 1, 0, none⟩ = some (.int .i64 kk) := (bo.cell 0).trans rfl
    have bo_1 : wz.cell? ⟨w.heap.size + 1, 1, none⟩ = some (.slice Al ls.length kl) := (bo.cell 1).trans rfl
    have bo_2 : wz.cell? ⟨w.heap.size + 1, 2, none⟩ = some (.slice Ad da.length kd) := (bo.cell 2).trans rfl
    have v_l : w2.heap.size < wz.heap.size := v.lt
    have v_l2 : w2.heap.size < wz.heap.size + 1 + 1 := Nat.lt_succ_of_lt (Nat.lt_succ_of_lt v_l)
    have v_0 : wz.cell? ⟨w2.heap.size, 0, none⟩ = some (.int .i64 cd) := (v.cell 0).trans rfl
    have v_1 : wz.cell? ⟨w2.heap.size, 1, none⟩ = some (.int .i64 ix) := (v.cell 1).trans rfl
    clear HK hk0 hz1
    go_wp2_with fail
    go_at_call 33
    refine (H33.out _ B3).mono ?_
    rintro e wp ⟨Ax, cx, rfl, _, hsx, hbp'⟩
    have B4 := B3.trans (hbp'.mono B3.size)
    replace bx := bx.below hbp' bx.lt
    replace bo := bo.below hbp' bo.lt
    replace v := v.below hbp' v.lt
    clear bo_0 bo_1 bo_2 bo_l bo_l2 bx_0 bx_l bx_l2 v_0 v_1 v_l v_l2
    have bx_l : w.heap.size < wp.heap.size := bx.lt
    have bx_l2 : w.heap.size < wp.heap.size + 1 + 1 := Nat.lt_succ_of_lt (Nat.lt_succ_of_lt bx_l)
    have bx_0 : wp.cell? ⟨w.heap.size, 0, none⟩ = some (.slice A s.length k) := (bx.cell 0).trans rfl
    have bo_l : w.heap.size + 1 < wp.heap.size := bo.lt
    have bo_l2 : w.heap.size + 1 < wp.heap.size + 1 + 1 := Nat.lt_succ_of_lt (Nat.lt_succ_of_lt bo_l)
    have bo_0 : wp.cell? ⟨w.heap.size + 1, 0, none⟩ = some (.int .i64 kk) := (bo.cell 0).trans rfl
    have bo_1 : wp.cell? ⟨w.heap.size + 1, 1, none⟩ = some (.slice Al ls.length kl) := (bo.cell 1).trans rfl
    have bo_2 : wp.cell? ⟨w.heap.size + 1, 2, none⟩ = some (.slice Ad da.length kd) := (bo.cell 2).trans rfl
    have v_l : w2.heap.size < wp.heap.size := v.lt
    have v_l2 : w2.heap.size < wp.heap.size + 1 + 1 := Nat.lt_succ_of_lt (Nat.lt_succ_of_lt v_l)
    have v_0 : wp.cell? ⟨w2.heap.size, 0, none⟩ = some (.int .i64 cd) := (v.cell 0).trans rfl
    have v_f0 : wp.frozen? ⟨w2.heap.size, 0, none⟩ = false := v.frozen 0
    have v_1 : wp.cell? ⟨w2.heap.size, 1, none⟩ = some (.int .i64 ix) := (v.cell 1).trans rfl
    have v_f1 : wp.frozen? ⟨w2.heap.size, 1, none⟩ = false := v.frozen 1
    clear hbp'
    have n1 : ¬ (wp.heap.size + 1 = w2.heap.size) := by have := v.lt; omega
    have n2 : ¬ (wp.heap.size = w2.heap.size) := by have := v.lt; omega
    replace bx := bx.alloc (.cells #[.slice Ax 0 cx] 24)
    replace bo := bo.alloc (.cells #[.slice Ax 0 cx] 24)
    replace v := v.alloc (.cells #[.slice Ax 0 cx] 24)
    have x := Blk.new wp 24 #[.slice Ax 0 cx]
    have B4a0 := B4.alloc B4.size (.cells #[.slice Ax 0 cx] 24)
    replace bx := bx.alloc (.cells #[.int .i64 cd, .int .i64 ix] 28)
    replace bo := bo.alloc (.cells #[.int .i64 cd, .int .i64 ix] 28)
    replace v := v.alloc (.cells #[.int .i64 cd, .int .i64 ix] 28)
    replace x := x.alloc (.cells #[.int .i64 cd, .int .i64 ix] 28)
    have f : Blk ((wp.alloc (.cells #[.slice Ax 0 cx] 24)).alloc (.cells #[.int .i64 cd, .int .i64 ix] 28)) (wp.heap.size + 1) 28 #[.int .i64 cd, .int .i64 ix] := by simpa using Blk.new (wp.alloc (.cells #[.slice Ax 0 cx] 24)) 28 #[.int .i64 cd, .int .i64 ix]
    have B4a1 := B4a0.alloc B4a0.size (.cells #[.int .i64 cd, .int .i64 ix] 28)
    replace bx := bx.alloc (.cells #[.slice none 0 0] 24)
    replace bo := bo.alloc (.cells #[.slice none 0 0] 24)
    replace v := v.alloc (.cells #[.slice none 0 0] 24)
    replace x := x.alloc (.cells #[.slice none 0 0] 24)
    replace f := f.alloc (.cells #[.slice none 0 0] 24)
    have y : Blk (((wp.alloc (.cells #[.slice Ax 0 cx] 24)).alloc (.cells #[.int .i64 cd, .int .i64 ix] 28)).alloc (.cells #[.slice none 0 0] 24)) (wp.heap.size + 2) 24 #[.slice none 0 0] := by simpa using Blk.new ((wp.alloc (.cells #[.slice Ax 0 cx] 24)).alloc (.cells #[.int .i64 cd, .int .i64 ix] 28)) 24 #[.slice none 0 0]
    have B4a2 := B4a1.alloc B4a1.size (.cells #[.slice none 0 0] 24)
    have hsx1 := hsx.keep (X' := Free) (Keeps.below ((below_alloc2 wp (.cells #[.slice Ax 0 cx] 24) (.cells #[.int .i64 cd, .int .i64 ix] 28)).alloc (by simp; omega) (.cells #[.slice none 0 0] 24)) (fun _ _ h => h.elim))
    go_wp2_with fail
    go_at_call 22
    refine (stores_any _ Ax none cx 0 [] hsx1 ⟨[], SA.nil, rfl⟩ (by simp)).mono ?_
    rintro e wq ⟨rfl, hbq⟩
    go_wp2_with fail
    go_ret
    exact ⟨by simp, B4a2.trans (hbq.mono B4a2.size)⟩
  · have hz := (Ob.stF_ok (by simpa using hbad)).1
    have hok := (Ob.stF_ok (by simpa using hbad)).2
    have HP2 := Lib.hid (HPF.out.trans (if_neg hbad))
    rw [hz] at H16 H32
    clear hbad HPF hz
    by_cases hob : (Ob.obF ⟨kk, ls, da⟩).1 ≠ 0
    · have HR := Lib.hid (HP2.out.trans (if_pos hob))
      have hx1 : ((Ob.obF ⟨kk, ls, da⟩).1 == 0) = false := by simpa using hob
      have hx2 : ((Ob.obF ⟨kk, ls, da⟩).1 != 0) = true := by simpa using hob
      rw [HR.out] at H33
      clear hob HPP HR H34 HB0 HV HO hok HP2
      generalize Ob.obF ⟨kk, ls, da⟩ = q at *
      obtain ⟨cd, ix⟩ := q
      simp only at hx1 hx2
      go_wp2_with fail
      go_at_call 16
      refine (H16.out _ B1).mono ?_
      rintro e w2 ⟨rfl, hb2'⟩
      have B2 := B1.trans (hb2'.mono B1.size)
      replace bx := bx.below hb2' bx.lt
      replace bo := bo.below hb2' bo.lt
      clear bo_0 bo_1 bo_2 bo_l bo_l2 bx_0 bx_l bx_l2
      have bx_l : w.heap.size < w2.heap.size := bx.lt
      have bx_l2 : w.heap.size < w2.heap.size + 1 + 1 := Nat.lt_succ_of_lt (Nat.lt_succ_of_lt bx_l)
      have bx_0 : w2.cell? ⟨w.heap.size, 0, none⟩ = some (.slice A s.length k) := (bx.cell 0).trans rfl
      have bo_l : w.heap.size + 1 < w2.heap.size := bo.lt
      have bo_l2 : w.heap.size + 1 < w2.heap.size + 1 + 1 := Nat.lt_succ_of_lt (Nat.lt_succ_of_lt bo_l)
      have bo_0 : w2.cell? ⟨w.heap.size + 1, 0, none⟩ = some (.int .i64 kk) := (bo.cell 0).trans rfl
      have bo_1 : w2.cell? ⟨w.heap.size + 1, 1, none⟩ = some (.slice Al ls.length kl) := (bo.cell 1).trans rfl
      have bo_2 : w2.cell? ⟨w.heap.size + 1, 2, none⟩ = some (.slice Ad da.length kd) := (bo.cell 2).trans rfl
      clear hb2'
      replace bx := bx.alloc (.cells #[.int .i64 0, .int .i64 0] 28)
      replace bo := bo.alloc (.cells #[.int .i64 0, .int .i64 0] 28)
      have v := Blk.new w2 28 #[.int .i64 0, .int .i64 0]
      have B2a0 := B2.alloc B2.size (.cells #[.int .i64 0, .int .i64 0] 28)
      have bx_l' : w.heap.size < (w2.alloc (.cells #[.int .i64 0, .int .i64 0] 28)).heap.size := bx.lt
      have bx_0' : (w2.alloc (.cells #[.int .i64 0, .int .i64 0] 28)).cell? ⟨w.heap.size, 0, none⟩ = some (.slice A s.length k) := (bx.cell 0).trans rfl
      have bo_l' : w.heap.size + 1 < (w2.alloc (.cells #[.int .i64 0, .int .i64 0] 28)).heap.size := bo.lt
      have bo_0' : (w2.alloc (.cells #[.int .i64 0, .int .i64 0] 28)).cell? ⟨w.heap.size + 1, 0, none⟩ = some (.int .i64 kk) := (bo.cell 0).trans rfl
      have bo_1' : (w2.alloc (.cells #[.int .i64 0, .int .i64 0] 28)).cell? ⟨w.heap.size + 1, 1, none⟩ = some (.slice Al ls.length kl) := (bo.cell 1).trans rfl
      have bo_2' : (w2.alloc (.cells #[.int .i64 0, .int .i64 0] 28)).cell? ⟨w.heap.size + 1, 2, none⟩ = some (.slice Ad da.length kd) := (bo.cell 2).trans rfl
      have v_l' : w2.heap.size < (w2.alloc (.cells #[.int .i64 0, .int .i64 0] 28)).heap.size := v.lt
      have v_0' : (w2.alloc (.cells #[.int .i64 0, .int .i64 0] 28)).cell? ⟨w2.heap.size, 0, none⟩ = some (.int .i64 0) := (v.cell 0).trans rfl
      have v_1' : (w2.alloc (.cells #[.int .i64 0, .int .i64 0] 28)).cell? ⟨w2.heap.size, 1, none⟩ = some (.int .i64 0) := (v.cell 1).trans rfl
      have hk0 : Below (w2.alloc (.cells #[.int .i64 0, .int .i64 0] 28)).heap.size (w2.alloc (.cells #[.int .i64 0, .int .i64 0] 28)) (w2.alloc (.cells #[.int .i64 0, .int .i64 0] 28)).drew := below_drew' (Below.refl _ _)
      have HK : Hid (∀ w6 : World, Below (w2.alloc (.cells #[.int .i64 0, .int .i64 0] 28)).heap.size (w2.alloc (.cells #[.int .i64 0, .int .i64 0] 28)) w6 → w6.cell? ⟨w.heap.size, 0, none⟩ = some (.slice A s.length k) ∧ w6.cell? ⟨w2.heap.size, 0, none⟩ = some (.int .i64 0) ∧ w6.cell? ⟨w2.heap.size, 1, none⟩ = some (.int .i64 0)) := Lib.hid fun w6 h6 => ⟨(h6.cell (p := ⟨_, _, none⟩) bx_l').trans bx_0', (h6.cell (p := ⟨_, _, none⟩) v_l').trans v_0', (h6.cell (p := ⟨_, _, none⟩) v_l').trans v_1'⟩
      clear bx_l' bx_0' bo_l' bo_0' bo_1' bo_2' v_l' v_0' v_1'
      go_wp2_with fail
      go_region_held3 (fun w6 => w6.cell? ⟨w.heap.size, 0, none⟩ = some (.slice A s.length k) ∧ w6.cell? ⟨w2.heap.size, 0, none⟩ = some (.int .i64 0) ∧ w6.cell? ⟨w2.heap.size, 1, none⟩ = some (.int .i64 0))
        (first | exact HK.out _ hk0 | exact HK.out _ hk1)
        (first | (go_at_call 32; (with_reducible refine (H32.out _ (B2a0.trans (hk0.mono B2a0.size))).mono ?_); rintro e wz ⟨rfl, hz1⟩; have hk1 : Below (w2.alloc (.cells #[.int .i64 0, .int .i64 0] 28)).heap.size (w2.alloc (.cells #[.int .i64 0, .int .i64 0] 28)) wz := hk0.trans (hz1.mono hk0.size)))
      have B3 := B2a0.trans (hk1.mono B2a0.size)
      replace bx := bx.below hk1 bx.lt
      replace bo := bo.below hk1 bo.lt
      replace v := v.below hk1 v.lt
      clear bo_0 bo_1 bo_2 bo_l bo_l2 bx_0 bx_l bx_l2
      have bx_l : w.heap.size < wz.heap.size := bx.lt
      have bx_l2 : w.heap.size < wz.heap.size + 1 + 1 := Nat.lt_succ_of_lt (Nat.lt_succ_of_lt bx_l)
      have bx_0 : wz.cell? ⟨w.heap.size, 0, none⟩ = some (.slice A s.length k) := (bx.cell 0).trans rfl
      have bo_l : w.heap.size + 1 < wz.heap.size := bo.lt
      have bo_l2 : w.heap.size + 1 < wz.heap.size + 1 + 1 := Nat.lt_succ_of_lt (Nat.lt_succ_of_lt bo_l)
      have bo_0 : wz.cell? ⟨w.heap.size + 1, 0, none⟩ = some (.int .i64 kk) := (bo.cell 0).trans rfl
      have bo_1 : wz.cell? ⟨w.heap.size + 1, 1, none⟩ = some (.slice Al ls.length kl) := (bo.cell 1).trans rfl
      have bo_2 : wz.cell? ⟨w.heap.size + 1, 2, none⟩ = some (.slice Ad da.length kd) := (bo.cell 2).trans rfl
      have v_l : w2.heap.size < wz.heap.size := v.lt
      have v_l2 : w2.heap.size < wz.heap.size + 1 + 1 := Nat.lt_succ_of_lt (Nat.lt_succ_of_lt v_l)
      have v_0 : wz.cell? ⟨w2.heap.size, 0, none⟩ = some (.int .i64 0) := (v.cell 0).trans rfl
      have v_1 : wz.cell? ⟨w2.heap.size, 1, none⟩ = some (.int .i64 0) := (v.cell 1).trans rfl
      clear HK hk0 hz1
      have hvlo : w.heap.size ≤ w2.heap.size := by have := B2.size; omega
      go_wp2_with fail
      go_at_call 33
      refine (H33.out _ B3).mono ?_
      rintro e wp ⟨Ax, cx, rfl, _, hsx, hbp'⟩
      have B4 := B3.trans (hbp'.mono B3.size)
      replace bx := bx.below hbp' bx.lt
      replace bo := bo.below hbp' bo.lt
      replace v := v.below hbp' v.lt
      clear bo_0 bo_1 bo_2 bo_l bo_l2 bx_0 bx_l bx_l2 v_0 v_1 v_l v_l2
      have bx_l : w.heap.size < wp.heap.size := bx.lt
      have bx_l2 : w.heap.size < wp.heap.size + 1 + 1 := Nat.lt_succ_of_lt (Nat.lt_succ_of_lt bx_l)
      have bx_0 : wp.cell? ⟨w.heap.size, 0, none⟩ = some (.slice A s.length k) := (bx.cell 0).trans rfl
      have bo_l : w.heap.size + 1 < wp.heap.size := bo.lt
      have bo_l2 : w.heap.size + 1 < wp.heap.size + 1 + 1 := Nat.lt_succ_of_lt (Nat.lt_succ_of_lt bo_l)
      have bo_0 : wp.cell? ⟨w.heap.size + 1, 0, none⟩ = some (.int .i64 kk) := (bo.cell 0).trans rfl
      have bo_1 : wp.cell? ⟨w.heap.size + 1, 1, none⟩ = some (.slice Al ls.length kl) := (bo.cell 1).trans rfl
      have bo_2 : wp.cell? ⟨w.heap.size + 1, 2, none⟩ = some (.slice Ad da.length kd) := (bo.cell 2).trans rfl
      have v_l : w2.heap.size < wp.heap.size := v.lt
      have v_l2 : w2.heap.size < wp.heap.size + 1 + 1 := Nat.lt_succ_of_lt (Nat.lt_succ_of_lt v_l)
      have v_0 : wp.cell? ⟨w2.heap.size, 0, none⟩ = some (.int .i64 0) := (v.cell 0).trans rfl
      have v_f0 : wp.frozen? ⟨w2.heap.size, 0, none⟩ = false := v.frozen 0
      have v_1 : wp.cell? ⟨w2.heap.size, 1, none⟩ = some (.int .i64 0) := (v.cell 1).trans rfl
      have v_f1 : wp.frozen? ⟨w2.heap.size, 1, none⟩ = false := v.frozen 1
      clear hbp'
      have n1 : ¬ (wp.heap.size + 1 = w2.heap.size) := by have := v.lt; omega
      have n2 : ¬ (wp.heap.size = w2.heap.size) := by have := v.lt; omega
      replace bx := bx.alloc (.cells #[.slice Ax 0 cx] 24)
      replace bo := bo.alloc (.cells #[.slice Ax 0 cx] 24)
      replace v := v.alloc (.cells #[.slice Ax 0 cx] 24)
      have x := Blk.new wp 24 #[.slice Ax 0 cx]
      have B4a0 := B4.alloc B4.size (.cells #[.slice Ax 0 cx] 24)
      replace bx := bx.alloc (.cells #[.int .i64 cd, .int .i64 (-1)] 28)
      replace bo := bo.alloc (.cells #[.int .i64 cd, .int .i64 (-1)] 28)
      replace v := v.alloc (.cells #[.int .i64 cd, .int .i64 (-1)] 28)
      replace x := x.alloc (.cells #[.int .i64 cd, .int .i64 (-1)] 28)
      have f : Blk ((wp.alloc (.cells #[.slice Ax 0 cx] 24)).alloc (.cells #[.int .i64 cd, .int .i64 (-1)] 28)) (wp.heap.size + 1) 28 #[.int .i64 cd, .int .i64 (-1)] := by simpa using Blk.new (wp.alloc (.cells #[.slice Ax 0 cx] 24)) 28 #[.int .i64 cd, .int .i64 (-1)]
      have B4a1 := B4a0.alloc B4a0.size (.cells #[.int .i64 cd, .int .i64 (-1)] 28)
      have HX := Lib.hid hsx
      clear hsx
      go_wp2_with fail
      go_at_call 30
      refine (H30.out _ B4a1).mono ?_
      rintro e wr ⟨rfl, hbr'⟩
      have HXr := Lib.hid (HX.out.keep (X' := Free) (Keeps.below ((below_alloc2 wp (.cells #[.slice Ax 0 cx] 24) (.cells #[.int .i64 cd, .int .i64 (-1)] 28)).trans (hbr'.mono (by simp; omega))) (fun _ _ h => h.elim)))
      have B5 := B4a1.trans (hbr'.mono B4a1.size)
      replace bx := bx.below hbr' bx.lt
      replace bo := bo.below hbr' bo.lt
      replace v := v.below hbr' v.lt
      replace x := x.below hbr' x.lt
      replace f := f.below hbr' f.lt
      clear bo_0 bo_1 bo_2 bo_l bo_l2 bx_0 bx_l bx_l2 v_0 v_1 v_f0 v_f1 v_l v_l2
      have bx_l : w.heap.size < wr.heap.size := bx.lt
      have bx_l2 : w.heap.size < wr.heap.size + 1 + 1 := Nat.lt_succ_of_lt (Nat.lt_succ_of_lt bx_l)
      have bx_0 : wr.cell? ⟨w.heap.size, 0, none⟩ = some (.slice A s.length k) := (bx.cell 0).trans rfl
      have bo_l : w.heap.size + 1 < wr.heap.size := bo.lt
      have bo_l2 : w.heap.size + 1 < wr.heap.size + 1 + 1 := Nat.lt_succ_of_lt (Nat.lt_succ_of_lt bo_l)
      have bo_0 : wr.cell? ⟨w.heap.size + 1, 0, none⟩ = some (.int .i64 kk) := (bo.cell 0).trans rfl
      have bo_1 : wr.cell? ⟨w.heap.size + 1, 1, none⟩ = some (.slice Al ls.length kl) := (bo.cell 1).trans rfl
      have bo_2 : wr.cell? ⟨w.heap.size + 1, 2, none⟩ = some (.slice Ad da.length kd) := (bo.cell 2).trans rfl
      have v_l : w2.heap.size < wr.heap.size := v.lt
      have v_l2 : w2.heap.size < wr.heap.size + 1 + 1 := Nat.lt_succ_of_lt (Nat.lt_succ_of_lt v_l)
      have v_0 : wr.cell? ⟨w2.heap.size, 0, none⟩ = some (.int .i64 0) := (v.cell 0).trans rfl
      have v_f0 : wr.frozen? ⟨w2.heap.size, 0, none⟩ = false := v.frozen 0
      have v_1 : wr.cell? ⟨w2.heap.size, 1, none⟩ = some (.int .i64 0) := (v.cell 1).trans rfl
      have v_f1 : wr.frozen? ⟨w2.heap.size, 1, none⟩ = false := v.frozen 1
      have x_l : wp.heap.size < wr.heap.size := x.lt
      have x_l2 : wp.heap.size < wr.heap.size + 1 + 1 := Nat.lt_succ_of_lt (Nat.lt_succ_of_lt x_l)
      have x_0 : wr.cell? ⟨wp.heap.size, 0, none⟩ = some (.slice Ax 0 cx) := (x.cell 0).trans rfl
      have f_l : wp.heap.size + 1 < wr.heap.size := f.lt
      have f_l2 : wp.heap.size + 1 < wr.heap.size + 1 + 1 := Nat.lt_succ_of_lt (Nat.lt_succ_of_lt f_l)
      have f_0 : wr.cell? ⟨wp.heap.size + 1, 0, none⟩ = some (.int .i64 cd) := (f.cell 0).trans rfl
      have f_1 : wr.cell? ⟨wp.heap.size + 1, 1, none⟩ = some (.int .i64 (-1)) := (f.cell 1).trans rfl
      clear hbr'
      go_wp2_with fail
      go_at_call 30
      refine (H30.out _ B5).mono ?_
      rintro e ws ⟨rfl, hbs'⟩
      have HXs := Lib.hid (HXr.out.keep (free_below hbs'))
      have B6 := B5.trans (hbs'.mono B5.size)
      replace bx := bx.below hbs' bx.lt
      replace bo := bo.below hbs' bo.lt
      replace v := v.below hbs' v.lt
      replace x := x.below hbs' x.lt
      replace f := f.below hbs' f.lt
      clear bo_0 bo_1 bo_2 bo_l bo_l2 bx_0 bx_l bx_l2 f_0 f_1 f_l f_l2 v_0 v_1 v_f0 v_f1 v_l v_l2 x_0 x_l x_l2
      have bx_l : w.heap.size < ws.heap.size := bx.lt
      have bx_l2 : w.heap.size < ws.heap.size + 1 + 1 := Nat.lt_succ_of_lt (Nat.lt_succ_of_lt bx_l)
      have bx_0 : ws.cell? ⟨w.heap.size, 0, none⟩ = some (.slice A s.length k) := (bx.cell 0).trans rfl
      have bo_l : w.heap.size + 1 < ws.heap.size := bo.lt
      have bo_l2 : w.heap.size + 1 < ws.heap.size + 1 + 1 := Nat.lt_succ_of_lt (Nat.lt_succ_of_lt bo_l)
      have bo_0 : ws.cell? ⟨w.heap.size + 1, 0, none⟩ = some (.int .i64 kk) := (bo.cell 0).trans rfl
      have bo_1 : ws.cell? ⟨w.heap.size + 1, 1, none⟩ = some (.slice Al ls.length kl) := (bo.cell 1).trans rfl
      have bo_2 : ws.cell? ⟨w.heap.size + 1, 2, none⟩ = some (.slice Ad da.length kd) := (bo.cell 2).trans rfl
      have v_l : w2.heap.size < ws.heap.size := v.lt
      have v_l2 : w2.heap.size < ws.heap.size + 1 + 1 := Nat.lt_succ_of_lt (Nat.lt_succ_of_lt v_l)
      have v_0 : ws.cell? ⟨w2.heap.size, 0, none⟩ = some (.int .i64 0) := (v.cell 0).trans rfl
      have v_f0 : ws.frozen? ⟨w2.heap.size, 0, none⟩ = false := v.frozen 0
      have v_1 : ws.cell? ⟨w2.heap.size, 1, none⟩ = some (.int .i64 0) := (v.cell 1).trans rfl
      have v_f1 : ws.frozen? ⟨w2.heap.size, 1, none⟩ = false := v.frozen 1
      have x_l : wp.heap.size < ws.heap.size := x.lt
      have x_l2 : wp.heap.size < ws.heap.size + 1 + 1 := Nat.lt_succ_of_lt (Nat.lt_succ_of_lt x_l)
      have x_0 : ws.cell? ⟨wp.heap.size, 0, none⟩ = some (.slice Ax 0 cx) := (x.cell 0).trans rfl
      have f_l : wp.heap.size + 1 < ws.heap.size := f.lt
      have f_l2 : wp.heap.size + 1 < ws.heap.size + 1 + 1 := Nat.lt_succ_of_lt (Nat.lt_succ_of_lt f_l)
      have f_0 : ws.cell? ⟨wp.heap.size + 1, 0, none⟩ = some (.int .i64 cd) := (f.cell 0).trans rfl
      have f_1 : ws.cell? ⟨wp.heap.size + 1, 1, none⟩ = some (.int .i64 (-1)) := (f.cell 1).trans rfl
      clear hbs'
      go_wp2_with fail
      go_at_call 18
      refine (fault_b _ _ _).mono ?_
      rintro e wt ⟨rfl, hbt'⟩
      have HXt := Lib.hid (HXs.out.keep (free_below hbt'))
      have B7 := B6.trans (hbt'.mono B6.size)
      replace bx := bx.below hbt' bx.lt
      replace bo := bo.below hbt' bo.lt
      replace v := v.below hbt' v.lt
      replace x := x.below hbt' x.lt
      replace f := f.below hbt' f.lt
      clear bo_0 bo_1 bo_2 bo_l bo_l2 bx_0 bx_l bx_l2 f_0 f_1 f_l f_l2 v_0 v_1 v_f0 v_f1 v_l v_l2 x_0 x_l x_l2
      have bx_l : w.heap.size < wt.heap.size := bx.lt
      have bx_l2 : w.heap.size < wt.heap.size + 1 + 1 := Nat.lt_succ_of_lt (Nat.lt_succ_of_lt bx_l)
      have bx_0 : wt.cell? ⟨w.heap.size, 0, none⟩ = some (.slice A s.length k) := (bx.cell 0).trans rfl
      have bo_l : w.heap.size + 1 < wt.heap.size := bo.lt
      have bo_l2 : w.heap.size + 1 < wt.heap.size + 1 + 1 := Nat.lt_succ_of_lt (Nat.lt_succ_of_lt bo_l)
      have bo_0 : wt.cell? ⟨w.heap.size + 1, 0, none⟩ = some (.int .i64 kk) := (bo.cell 0).trans rfl
      have bo_1 : wt.cell? ⟨w.heap.size + 1, 1, none⟩ = some (.slice Al ls.length kl) := (bo.cell 1).trans rfl
      have bo_2 : wt.cell? ⟨w.heap.size + 1, 2, none⟩ = some (.slice Ad da.length kd) := (bo.cell 2).trans rfl
      have v_l : w2.heap.size < wt.heap.size := v.lt
      have v_l2 : w2.heap.size < wt.heap.size + 1 + 1 := Nat.lt_succ_of_lt (Nat.lt_succ_of_lt v_l)
      have v_0 : wt.cell? ⟨w2.heap.size, 0, none⟩ = some (.int .i64 0) := (v.cell 0).trans rfl
      have v_f0 : wt.frozen? ⟨w2.heap.size, 0, none⟩ = false := v.frozen 0
      have v_1 : wt.cell? ⟨w2.heap.size, 1, none⟩ = some (.int .i64 0) := (v.cell 1).trans rfl
      have v_f1 : wt.frozen? ⟨w2.heap.size, 1, none⟩ = false := v.frozen 1
      have x_l : wp.heap.size < wt.heap.size := x.lt
      have x_l2 : wp.heap.size < wt.heap.size + 1 + 1 := Nat.lt_succ_of_lt (Nat.lt_succ_of_lt x_l)
      have x_0 : wt.cell? ⟨wp.heap.size, 0, none⟩ = some (.slice Ax 0 cx) := (x.cell 0).trans rfl
      have f_l : wp.heap.size + 1 < wt.heap.size := f.lt
      have f_l2 : wp.heap.size + 1 < wt.heap.size + 1 + 1 := Nat.lt_succ_of_lt (Nat.lt_succ_of_lt f_l)
      have f_0 : wt.cell? ⟨wp.heap.size + 1, 0, none⟩ = some (.int .i64 cd) := (f.cell 0).trans rfl
      have f_1 : wt.cell? ⟨wp.heap.size + 1, 1, none⟩ = some (.int .i64 (-1)) := (f.cell 1).trans rfl
      clear hbt'
      go_wp2_with fail
      go_at_call 22
      refine (stores_any _ Ax none cx 0 [] ⟨[], SA.nil, rfl⟩ ⟨[], SA.nil, rfl⟩ (by simp)).mono ?_
      rintro e wq ⟨rfl, hbq⟩
      go_wp2_with fail
      go_ret
      have hbv := ((B7.setCell (p := ⟨w2.heap.size, 0, none⟩) hvlo (.int .i64 cd)).setCell (p := ⟨w2.heap.size, 1, none⟩) hvlo (.int .i64 (-1))).alloc (by simpa [World.setCell] using B7.size) (.cells #[.slice none 0 0] 24)
      exact ⟨by simp, hbv.trans (hbq.mono hbv.size)⟩
    · have hobk := (Ob.obF_ok (by simpa using hob)).2
      have hobz := (Ob.obF_ok (by simpa using hob)).1
      rw [hobz] at H30
      have HQ := HPP.out hok hobk
      have hrl64 := Ob.putR_len s ⟨kk, ls, da⟩ hok.len
      have HK34 := Lib.hid (fun w1 hb g hg => H34.out w1 hb g hg hok hobk)
      clear hob hobk hobz hok HPP HP2 H34 HB0 HV HO
      generalize Ob.putR s ⟨kk, ls, da⟩ = rr at *
      obtain ⟨rl, rn, rc⟩ := rr
      simp only at HQ
      rcases HQ with ⟨hc0, hq⟩ | ⟨hc0, hrr, hq⟩
      · subst hc0
        rw [hq] at H33
        clear hq
        go_wp2_with fail
        go_at_call 16
        refine (H16.out _ B1).mono ?_
        rintro e w2 ⟨rfl, hb2'⟩
        have B2 := B1.trans (hb2'.mono B1.size)
        replace bx := bx.below hb2' bx.lt
        replace bo := bo.below hb2' bo.lt
        clear bo_0 bo_1 bo_2 bo_l bo_l2 bx_0 bx_l bx_l2
        have bx_l : w.heap.size < w2.heap.size := bx.lt
        have bx_l2 : w.heap.size < w2.heap.size + 1 + 1 := Nat.lt_succ_of_lt (Nat.lt_succ_of_lt bx_l)
        have bx_0 : w2.cell? ⟨w.heap.size, 0, none⟩ = some (.slice A s.length k) := (bx.cell 0).trans rfl
        have bo_l : w.heap.size + 1 < w2.heap.size := bo.lt
        have bo_l2 : w.heap.size + 1 < w2.heap.size + 1 + 1 := Nat.lt_succ_of_lt (Nat.lt_succ_of_lt bo_l)
        have bo_0 : w2.cell? ⟨w.heap.size + 1, 0, none⟩ = some (.int .i64 kk) := (bo.cell 0).trans rfl
        have bo_1 : w2.cell? ⟨w.heap.size + 1, 1, none⟩ = some (.slice Al ls.length kl) := (bo.cell 1).trans rfl
        have bo_2 : w2.cell? ⟨w.heap.size + 1, 2, none⟩ = some (.slice Ad da.length kd) := (bo.cell 2).trans rfl
        clear hb2'
        replace bx := bx.alloc (.cells #[.int .i64 0, .int .i64 0] 28)
        replace bo := bo.alloc (.cells #[.int .i64 0, .int .i64 0] 28)
        have v := Blk.new w2 28 #[.int .i64 0, .int .i64 0]
        have B2a0 := B2.alloc B2.size (.cells #[.int .i64 0, .int .i64 0] 28)
        have bx_l' : w.heap.size < (w2.alloc (.cells #[.int .i64 0, .int .i64 0] 28)).heap.size := bx.lt
        have bx_0' : (w2.alloc (.cells #[.int .i64 0, .int .i64 0] 28)).cell? ⟨w.heap.size, 0, none⟩ = some (.slice A s.length k) := (bx.cell 0).trans rfl
        have bo_l' : w.heap.size + 1 < (w2.alloc (.cells #[.int .i64 0, .int .i64 0] 28)).heap.size := bo.lt
        have bo_0' : (w2.alloc (.cells #[.int .i64 0, .int .i64 0] 28)).cell? ⟨w.heap.size + 1, 0, none⟩ = some (.int .i64 kk) := (bo.cell 0).trans rfl
        have bo_1' : (w2.alloc (.cells #[.int .i64 0, .int .i64 0] 28)).cell? ⟨w.heap.size + 1, 1, none⟩ = some (.slice Al ls.length kl) := (bo.cell 1).trans rfl
        have bo_2' : (w2.alloc (.cells #[.int .i64 0, .int .i64 0] 28)).cell? ⟨w.heap.size + 1, 2, none⟩ = some (.slice Ad da.length kd) := (bo.cell 2).trans rfl
        have v_l' : w2.heap.size < (w2.alloc (.cells #[.int .i64 0, .int .i64 0] 28)).heap.size := v.lt
        have v_0' : (w2.alloc (.cells #[.int .i64 0, .int .i64 0] 28)).cell? ⟨w2.heap.size, 0, none⟩ = some (.int .i64 0) := (v.cell 0).trans rfl
        have v_1' : (w2.alloc (.cells #[.int .i64 0, .int .i64 0] 28)).cell? ⟨w2.heap.size, 1, none⟩ = some (.int .i64 0) := (v.cell 1).trans rfl
        have hk0 : Below (w2.alloc (.cells #[.int .i64 0, .int .i64 0] 28)).heap.size (w2.alloc (.cells #[.int .i64 0, .int .i64 0] 28)) (w2.alloc (.cells #[.int .i64 0, .int .i64 0] 28)).drew := below_drew' (Below.refl _ _)
        have HK : Hid (∀ w6 : World, Below (w2.alloc (.cells #[.int .i64 0, .int .i64 0] 28)).heap.size (w2.alloc (.cells #[.int .i64 0, .int .i64 0] 28)) w6 → w6.cell? ⟨w.heap.size, 0, none⟩ = some (.slice A s.length k) ∧ w6.cell? ⟨w2.heap.size, 0, none⟩ = some (.int .i64 0) ∧ w6.cell? ⟨w2.heap.size, 1, none⟩ = some (.int .i64 0)) := Lib.hid fun w6 h6 => ⟨(h6.cell (p := ⟨_, _, none⟩) bx_l').trans bx_0', (h6.cell (p := ⟨_, _, none⟩) v_l').trans v_0', (h6.cell (p := ⟨_, _, none⟩) v_l').trans v_1'⟩
        clear bx_l' bx_0' bo_l' bo_0' bo_1' bo_2' v_l' v_0' v_1'
        go_wp2_with fail
        go_region_held3 (fun w6 => w6.cell? ⟨w.heap.size, 0, none⟩ = some (.slice A s.length k) ∧ w6.cell? ⟨w2.heap.size, 0, none⟩ = some (.int .i64 0) ∧ w6.cell? ⟨w2.heap.size, 1, none⟩ = some (.int .i64 0))
          (first | exact HK.out _ hk0 | exact HK.out _ hk1)
          (first | (go_at_call 32; (with_reducible refine (H32.out _ (B2a0.trans (hk0.mono B2a0.size))).mono ?_); rintro e wz ⟨rfl, hz1⟩; have hk1 : Below (w2.alloc (.cells #[.int .i64 0, .int .i64 0] 28)).heap.size (w2.alloc (.cells #[.int .i64 0, .int .i64 0] 28)) wz := hk0.trans (hz1.mono hk0.size)))
        have B3 := B2a0.trans (hk1.mono B2a0.size)
        replace bx := bx.below hk1 bx.lt
        replace bo := bo.below hk1 bo.lt
        replace v := v.below hk1 v.lt
        clear bo_0 bo_1 bo_2 bo_l bo_l2 bx_0 bx_l bx_l2
        have bx_l : w.heap.size < wz.heap.size := bx.lt
        have bx_l2 : w.heap.size < wz.heap.size + 1 + 1 := Nat.lt_succ_of_lt (Nat.lt_succ_of_lt bx_l)
        have bx_0 : wz.cell? ⟨w.heap.size, 0, none⟩ = some (.slice A s.length k) := (bx.cell 0).trans rfl
        have bo_l : w.heap.size + 1 < wz.heap.size := bo.lt
        have bo_l2 : w.heap.size + 1 < wz.heap.size + 1 + 1 := Nat.lt_succ_of_lt (Nat.lt_succ_of_lt bo_l)
        have bo_0 : wz.cell? ⟨w.heap.size + 1, 0, none⟩ = some (.int .i64 kk) := (bo.cell 0).trans rfl
        have bo_1 : wz.cell? ⟨w.heap.size + 1, 1, none⟩ = some (.slice Al ls.length kl) := (bo.cell 1).trans rfl
        have bo_2 : wz.cell? ⟨w.heap.size + 1, 2, none⟩ = some (.slice Ad da.length kd) := (bo.cell 2).trans rfl
        have v_l : w2.heap.size < wz.heap.size := v.lt
        have v_l2 : w2.heap.size < wz.heap.size + 1 + 1 := Nat.lt_succ_of_lt (Nat.lt_succ_of_lt v_l)
        have v_0 : wz.cell? ⟨w2.heap.size, 0, none⟩ = some (.int .i64 0) := (v.cell 0).trans rfl
        have v_1 : wz.cell? ⟨w2.heap.size, 1, none⟩ = some (.int .i64 0) := (v.cell 1).trans rfl
        clear HK hk0 hz1
        go_wp2_with fail
        go_at_call 33
        refine (H33.out _ B3).mono ?_
        rintro e wp ⟨Ax, cx, rfl, _, hsx, hbp'⟩
        have B4 := B3.trans (hbp'.mono B3.size)
        replace bx := bx.below hbp' bx.lt
        replace bo := bo.below hbp' bo.lt
        replace v := v.below hbp' v.lt
        clear bo_0 bo_1 bo_2 bo_l bo_l2 bx_0 bx_l bx_l2 v_0 v_1 v_l v_l2
        have bx_l : w.heap.size < wp.heap.size := bx.lt
        have bx_l2 : w.heap.size < wp.heap.size + 1 + 1 := Nat.lt_succ_of_lt (Nat.lt_succ_of_lt bx_l)
        have bx_0 : wp.cell? ⟨w.heap.size, 0, none⟩ = some (.slice A s.length k) := (bx.cell 0).trans rfl
        have bo_l : w.heap.size + 1 < wp.heap.size := bo.lt
        have bo_l2 : w.heap.size + 1 < wp.heap.size + 1 + 1 := Nat.lt_succ_of_lt (Nat.lt_succ_of_lt bo_l)
        have bo_0 : wp.cell? ⟨w.heap.size + 1, 0, none⟩ = some (.int .i64 kk) := (bo.cell 0).trans rfl
        have bo_1 : wp.cell? ⟨w.heap.size + 1, 1, none⟩ = some (.slice Al ls.length kl) := (bo.cell 1).trans rfl
        have bo_2 : wp.cell? ⟨w.heap.size + 1, 2, none⟩ = some (.slice Ad da.length kd) := (bo.cell 2).trans rfl
        have v_l : w2.heap.size < wp.heap.size := v.lt
        have v_l2 : w2.heap.size < wp.heap.size + 1 + 1 := Nat.lt_succ_of_lt (Nat.lt_succ_of_lt v_l)
        have v_0 : wp.cell? ⟨w2.heap.size, 0, none⟩ = some (.int .i64 0) := (v.cell 0).trans rfl
        have v_f0 : wp.frozen? ⟨w2.heap.size, 0, none⟩ = false := v.frozen 0
        have v_1 : wp.cell? ⟨w2.heap.size, 1, none⟩ = some (.int .i64 0) := (v.cell 1).trans rfl
        have v_f1 : wp.frozen? ⟨w2.heap.size, 1, none⟩ = false := v.frozen 1
        clear hbp'
        have n1 : ¬ (wp.heap.size + 1 = w2.heap.size) := by have := v.lt; omega
        have n2 : ¬ (wp.heap.size = w2.heap.size) := by have := v.lt; omega
        replace bx := bx.alloc (.cells #[.slice Ax rl.length cx] 24)
        replace bo := bo.alloc (.cells #[.slice Ax rl.length cx] 24)
        replace v := v.alloc (.cells #[.slice Ax rl.length cx] 24)
        have x := Blk.new wp 24 #[.slice Ax rl.length cx]
        have B4a0 := B4.alloc B4.size (.cells #[.slice Ax rl.length cx] 24)
        replace bx := bx.alloc (.cells #[.int .i64 0, .int .i64 0] 28)
        replace bo := bo.alloc (.cells #[.int .i64 0, .int .i64 0] 28)
        replace v := v.alloc (.cells #[.int .i64 0, .int .i64 0] 28)
        replace x := x.alloc (.cells #[.int .i64 0, .int .i64 0] 28)
        have f : Blk ((wp.alloc (.cells #[.slice Ax rl.length cx] 24)).alloc (.cells #[.int .i64 0, .int .i64 0] 28)) (wp.heap.size + 1) 28 #[.int .i64 0, .int .i64 0] := by simpa using Blk.new (wp.alloc (.cells #[.slice Ax rl.length cx] 24)) 28 #[.int .i64 0, .int .i64 0]
        have B4a1 := B4a0.alloc B4a0.size (.cells #[.int .i64 0, .int .i64 0] 28)
        have HX := Lib.hid hsx
        clear hsx
        simp only at *
        go_wp2_with fail
        go_at_call 30
        refine (H30.out _ B4a1).mono ?_
        rintro e wr ⟨rfl, hbr'⟩
        have HXr := Lib.hid (HX.out.keep (X' := Free) (Keeps.below ((below_alloc2 wp (.cells #[.slice Ax rl.length cx] 24) (.cells #[.int .i64 0, .int .i64 0] 28)).trans (hbr'.mono (by simp; omega))) (fun _ _ h => h.elim)))
        have B5 := B4a1.trans (hbr'.mono B4a1.size)
        replace bx := bx.below hbr' bx.lt
        replace bo := bo.below hbr' bo.lt
        replace v := v.below hbr' v.lt
        replace x := x.below hbr' x.lt
        replace f := f.below hbr' f.lt
        clear bo_0 bo_1 bo_2 bo_l bo_l2 bx_0 bx_l bx_l2 v_0 v_1 v_f0 v_f1 v_l v_l2
        have bx_l : w.heap.size < wr.heap.size := bx.lt
        have bx_l2 : w.heap.size < wr.heap.size + 1 + 1 := Nat.lt_succ_of_lt (Nat.lt_succ_of_lt bx_l)
        have bx_0 : wr.cell? ⟨w.heap.size, 0, none⟩ = some (.slice A s.length k) := (bx.cell 0).trans rfl
        have bo_l : w.heap.size + 1 < wr.heap.size := bo.lt
        have bo_l2 : w.heap.size + 1 < wr.heap.size + 1 + 1 := Nat.lt_succ_of_lt (Nat.lt_succ_of_lt bo_l)
        have bo_0 : wr.cell? ⟨w.heap.size + 1, 0, none⟩ = some (.int .i64 kk) := (bo.cell 0).trans rfl
        have bo_1 : wr.cell? ⟨w.heap.size + 1, 1, none⟩ = some (.slice Al ls.length kl) := (bo.cell 1).trans rfl
        have bo_2 : wr.cell? ⟨w.heap.size + 1, 2, none⟩ = some (.slice Ad da.length kd) := (bo.cell 2).trans rfl
        have v_l : w2.heap.size < wr.heap.size := v.lt
        have v_l2 : w2.heap.size < wr.heap.size + 1 + 1 := Nat.lt_succ_of_lt (Nat.lt_succ_of_lt v_l)
        have v_0 : wr.cell? ⟨w2.heap.size, 0, none⟩ = some (.int .i64 0) := (v.cell 0).trans rfl
        have v_f0 : wr.frozen? ⟨w2.heap.size, 0, none⟩ = false := v.frozen 0
        have v_1 : wr.cell? ⟨w2.heap.size, 1, none⟩ = some (.int .i64 0) := (v.cell 1).trans rfl
        have v_f1 : wr.frozen? ⟨w2.heap.size, 1, none⟩ = false := v.frozen 1
        have x_l : wp.heap.size < wr.heap.size := x.lt
        have x_l2 : wp.heap.size < wr.heap.size + 1 + 1 := Nat.lt_succ_of_lt (Nat.lt_succ_of_lt x_l)
        have x_0 : wr.cell? ⟨wp.heap.size, 0, none⟩ = some (.slice Ax rl.length cx) := (x.cell 0).trans rfl
        have f_l : wp.heap.size + 1 < wr.heap.size := f.lt
        have f_l2 : wp.heap.size + 1 < wr.heap.size + 1 + 1 := Nat.lt_succ_of_lt (Nat.lt_succ_of_lt f_l)
        have f_0 : wr.cell? ⟨wp.heap.size + 1, 0, none⟩ = some (.int .i64 0) := (f.cell 0).trans rfl
        have f_1 : wr.cell? ⟨wp.heap.size + 1, 1, none⟩ = some (.int .i64 0) := (f.cell 1).trans rfl
        clear hbr'
        have n3 : ¬ (wp.heap.size + 1 = wr.heap.size) := Nat.ne_of_lt f.lt
        have n4 : ¬ (wp.heap.size = wr.heap.size) := Nat.ne_of_lt x.lt
        have n5 : ¬ (w2.heap.size = wr.heap.size) := Nat.ne_of_lt v.lt
        replace bx := bx.alloc (.cells #[.slice none 0 0] 24)
        replace bo := bo.alloc (.cells #[.slice none 0 0] 24)
        replace v := v.alloc (.cells #[.slice none 0 0] 24)
        replace x := x.alloc (.cells #[.slice none 0 0] 24)
        replace f := f.alloc (.cells #[.slice none 0 0] 24)
        have y := Blk.new wr 24 #[.slice none 0 0]
        have B5a0 := B5.alloc B5.size (.cells #[.slice none 0 0] 24)
        have hyl : w.heap.size ≤ wr.heap.size ∧ wr.heap.size < (wr.alloc (.cells #[.slice none 0 0] 24)).heap.size := ⟨B5.size, by simp⟩
        go_wp2_with fail
        go_at_call 34
        refine (HK34.out _ B5a0 wr.heap.size hyl).mono ?_
        rintro e ws ⟨Ay, cy, rfl, hsy, hbs'⟩
        have HXs := Lib.hid ((HXr.out.keep (free_below (below_alloc1 wr (.cells #[.slice none 0 0] 24)))).keep (free_below hbs'))
        have hylt := y.lt
        have HXo := Lib.hid (HXr.out.keep (X' := fun b => b = wr.heap.size) (Keeps.below (below_alloc1 wr (.cells #[.slice none 0 0] 24)) (fun b h e => absurd h (by omega))))
        have HXp := Lib.hid (HXo.out.keep (X' := fun b => b = wr.heap.size) (Keeps.below hbs' (fun b _ h => h)))
        have B6 := B5a0.trans (hbs'.mono B5a0.size)
        replace bx := bx.below hbs' bx.lt
        replace bo := bo.below hbs' bo.lt
        replace v := v.below hbs' v.lt
        replace x := x.below hbs' x.lt
        replace f := f.below hbs' f.lt
        replace y := y.below hbs' y.lt
        clear bo_0 bo_1 bo_2 bo_l bo_l2 bx_0 bx_l bx_l2 f_0 f_1 f_l f_l2 v_0 v_1 v_f0 v_f1 v_l v_l2 x_0 x_l x_l2
        have bx_l : w.heap.size < ws.heap.size := bx.lt
        have bx_l2 : w.heap.size < ws.heap.size + 1 + 1 := Nat.lt_succ_of_lt (Nat.lt_succ_of_lt bx_l)
        have bx_0 : ws.cell? ⟨w.heap.size, 0, none⟩ = some (.slice A s.length k) := (bx.cell 0).trans rfl
        have bo_l : w.heap.size + 1 < ws.heap.size := bo.lt
        have bo_l2 : w.heap.size + 1 < ws.heap.size + 1 + 1 := Nat.lt_succ_of_lt (Nat.lt_succ_of_lt bo_l)
        have bo_0 : ws.cell? ⟨w.heap.size + 1, 0, none⟩ = some (.int .i64 kk) := (bo.cell 0).trans rfl
        have bo_1 : ws.cell? ⟨w.heap.size + 1, 1, none⟩ = some (.slice Al ls.length kl) := (bo.cell 1).trans rfl
        have bo_2 : ws.cell? ⟨w.heap.size + 1, 2, none⟩ = some (.slice Ad da.length kd) := (bo.cell 2).trans rfl
        have v_l : w2.heap.size < ws.heap.size := v.lt
        have v_l2 : w2.heap.size < ws.heap.size + 1 + 1 := Nat.lt_succ_of_lt (Nat.lt_succ_of_lt v_l)
        have v_0 : ws.cell? ⟨w2.heap.size, 0, none⟩ = some (.int .i64 0) := (v.cell 0).trans rfl
        have v_f0 : ws.frozen? ⟨w2.heap.size, 0, none⟩ = false := v.frozen 0
        have v_1 : ws.cell? ⟨w2.heap.size, 1, none⟩ = some (.int .i64 0) := (v.cell 1).trans rfl
        have v_f1 : ws.frozen? ⟨w2.heap.size, 1, none⟩ = false := v.frozen 1
        have x_l : wp.heap.size < ws.heap.size := x.lt
        have x_l2 : wp.heap.size < ws.heap.size + 1 + 1 := Nat.lt_succ_of_lt (Nat.lt_succ_of_lt x_l)
        have x_0 : ws.cell? ⟨wp.heap.size, 0, none⟩ = some (.slice Ax rl.length cx) := (x.cell 0).trans rfl
        have f_l : wp.heap.size + 1 < ws.heap.size := f.lt
        have f_l2 : wp.heap.size + 1 < ws.heap.size + 1 + 1 := Nat.lt_succ_of_lt (Nat.lt_succ_of_lt f_l)
        have f_0 : ws.cell? ⟨wp.heap.size + 1, 0, none⟩ = some (.int .i64 0) := (f.cell 0).trans rfl
        have f_1 : ws.cell? ⟨wp.heap.size + 1, 1, none⟩ = some (.int .i64 0) := (f.cell 1).trans rfl
        have y_l : wr.heap.size < ws.heap.size := y.lt
        have y_l2 : wr.heap.size < ws.heap.size + 1 + 1 := Nat.lt_succ_of_lt (Nat.lt_succ_of_lt y_l)
        have y_0 : ws.cell? ⟨wr.heap.size, 0, none⟩ = some (.slice none 0 0) := (y.cell 0).trans rfl
        have y_f0 : ws.frozen? ⟨wr.heap.size, 0, none⟩ = false := y.frozen 0
        clear hbs'
        have hst := Keeps.setCell ws (fun b => b = wr.heap.size) ⟨wr.heap.size, 0, none⟩ (.slice Ay rl.length cy) rfl
        have HV1 := Lib.hid ((HXp.out.keep hst).keep (X' := Free) ((Keeps.refl _ _).into (fun _ h => h.elim)))
        have HV2 := Lib.hid ((hsy.keep hst).keep (X' := Free) ((Keeps.refl _ _).into (fun _ h => h.elim)))
        have hrl : rl.length ≤ 9223372036854775807 := by omega
        clear hsy hst
        go_wp2_with fail
        go_at_call 22
        refine (stores_any _ Ax Ay cx cy rl HV1.out HV2.out hrl).mono ?_
        rintro e wq ⟨rfl, hbq⟩
        go_wp2_with fail
        go_ret
        have hbv := B6.setCell (p := ⟨wr.heap.size, 0, none⟩) hyl.1 (.slice Ay rl.length cy)
        exact ⟨by simp, hbv.trans (hbq.mono hbv.size)⟩
      · injection hrr with e1 e2
        injection e2 with e2 e3
        subst e1 e2
        rw [hq] at H33
        have hx1 : (rc == 0) = false := by simpa using hc0
        have hx2 : (rc != 0) = true := by simpa using hc0
        clear hq hc0
        go_wp2_with fail
        go_at_call 16
        refine (H16.out _ B1).mono ?_
        rintro e w2 ⟨rfl, hb2'⟩
        have B2 := B1.trans (hb2'.mono B1.size)
        replace bx := bx.below hb2' bx.lt
        replace bo := bo.below hb2' bo.lt
        clear bo_0 bo_1 bo_2 bo_l bo_l2 bx_0 bx_l bx_l2
        have bx_l : w.heap.size < w2.heap.size := bx.lt
        have bx_l2 : w.heap.size < w2.heap.size + 1 + 1 := Nat.lt_succ_of_lt (Nat.lt_succ_of_lt bx_l)
        have bx_0 : w2.cell? ⟨w.heap.size, 0, none⟩ = some (.slice A s.length k) := (bx.cell 0).trans rfl
        have bo_l : w.heap.size + 1 < w2.heap.size := bo.lt
        have bo_l2 : w.heap.size + 1 < w2.heap.size + 1 + 1 := Nat.lt_succ_of_lt (Nat.lt_succ_of_lt bo_l)
        have bo_0 : w2.cell? ⟨w.heap.size + 1, 0, none⟩ = some (.int .i64 kk) := (bo.cell 0).trans rfl
        have bo_1 : w2.cell? ⟨w.heap.size + 1, 1, none⟩ = some (.slice Al ls.length kl) := (bo.cell 1).trans rfl
        have bo_2 : w2.cell? ⟨w.heap.size + 1, 2, none⟩ = some (.slice Ad da.length kd) := (bo.cell 2).trans rfl
        clear hb2'
        replace bx := bx.alloc (.cells #[.int .i64 0, .int .i64 0] 28)
        replace bo := bo.alloc (.cells #[.int .i64 0, .int .i64 0] 28)
        have v := Blk.new w2 28 #[.int .i64 0, .int .i64 0]
        have B2a0 := B2.alloc B2.size (.cells #[.int .i64 0, .int .i64 0] 28)
        have bx_l' : w.heap.size < (w2.alloc (.cells #[.int .i64 0, .int .i64 0] 28)).heap.size := bx.lt
        have bx_0' : (w2.alloc (.cells #[.int .i64 0, .int .i64 0] 28)).cell? ⟨w.heap.size, 0, none⟩ = some (.slice A s.length k) := (bx.cell 0).trans rfl
        have bo_l' : w.heap.size + 1 < (w2.alloc (.cells #[.int .i64 0, .int .i64 0] 28)).heap.size := bo.lt
        have bo_0' : (w2.alloc (.cells #[.int .i64 0, .int .i64 0] 28)).cell? ⟨w.heap.size + 1, 0, none⟩ = some (.int .i64 kk) := (bo.cell 0).trans rfl
        have bo_1' : (w2.alloc (.cells #[.int .i64 0, .int .i64 0] 28)).cell? ⟨w.heap.size + 1, 1, none⟩ = some (.slice Al ls.length kl) := (bo.cell 1).trans rfl
        have bo_2' : (w2.alloc (.cells #[.int .i64 0, .int .i64 0] 28)).cell? ⟨w.heap.size + 1, 2, none⟩ = some (.slice Ad da.length kd) := (bo.cell 2).trans rfl
        have v_l' : w2.heap.size < (w2.alloc (.cells #[.int .i64 0, .int .i64 0] 28)).heap.size := v.lt
        have v_0' : (w2.alloc (.cells #[.int .i64 0, .int .i64 0] 28)).cell? ⟨w2.heap.size, 0, none⟩ = some (.int .i64 0) := (v.cell 0).trans rfl
        have v_1' : (w2.alloc (.cells #[.int .i64 0, .int .i64 0] 28)).cell? ⟨w2.heap.size, 1, none⟩ = some (.int .i64 0) := (v.cell 1).trans rfl
        have hk0 : Below (w2.alloc (.cells #[.int .i64 0, .int .i64 0] 28)).heap.size (w2.alloc (.cells #[.int .i64 0, .int .i64 0] 28)) (w2.alloc (.cells #[.int .i64 0, .int .i64 0] 28)).drew := below_drew' (Below.refl _ _)
        have HK : Hid (∀ w6 : World, Below (w2.alloc (.cells #[.int .i64 0, .int .i64 0] 28)).heap.size (w2.alloc (.cells #[.int .i64 0, .int .i64 0] 28)) w6 → w6.cell? ⟨w.heap.size, 0, none⟩ = some (.slice A s.length k) ∧ w6.cell? ⟨w2.heap.size, 0, none⟩ = some (.int .i64 0) ∧ w6.cell? ⟨w2.heap.size, 1, none⟩ = some (.int .i64 0)) := Lib.hid fun w6 h6 => ⟨(h6.cell (p := ⟨_, _, none⟩) bx_l').trans bx_0', (h6.cell (p := ⟨_, _, none⟩) v_l').trans v_0', (h6.cell (p := ⟨_, _, none⟩) v_l').trans v_1'⟩
        clear bx_l' bx_0' bo_l' bo_0' bo_1' bo_2' v_l' v_0' v_1'
        go_wp2_with fail
        go_region_held3 (fun w6 => w6.cell? ⟨w.heap.size, 0, none⟩ = some (.slice A s.length k) ∧ w6.cell? ⟨w2.heap.size, 0, none⟩ = some (.int .i64 0) ∧ w6.cell? ⟨w2.heap.size, 1, none⟩ = some (.int .i64 0))
          (first | exact HK.out _ hk0 | exact HK.out _ hk1)
          (first | (go_at_call 32; (with_reducible refine (H32.out _ (B2a0.trans (hk0.mono B2a0.size))).mono ?_); rintro e wz ⟨rfl, hz1⟩; have hk1 : Below (w2.alloc (.cells #[.int .i64 0, .int .i64 0] 28)).heap.size (w2.alloc (.cells #[.int .i64 0, .int .i64 0] 28)) wz := hk0.trans (hz1.mono hk0.size)))
        have B3 := B2a0.trans (hk1.mono B2a0.size)
        replace bx := bx.below hk1 bx.lt
        replace bo := bo.below hk1 bo.lt
        replace v := v.below hk1 v.lt
        clear bo_0 bo_1 bo_2 bo_l bo_l2 bx_0 bx_l bx_l2
        have bx_l : w.heap.size < wz.heap.size := bx.lt
        have bx_l2 : w.heap.size < wz.heap.size + 1 + 1 := Nat.lt_succ_of_lt (Nat.lt_succ_of_lt bx_l)
        have bx_0 : wz.cell? ⟨w.heap.size, 0, none⟩ = some (.slice A s.length k) := (bx.cell 0).trans rfl
        have bo_l : w.heap.size + 1 < wz.heap.size := bo.lt
        have bo_l2 : w.heap.size + 1 < wz.heap.size + 1 + 1 := Nat.lt_succ_of_lt (Nat.lt_succ_of_lt bo_l)
        have bo_0 : wz.cell? ⟨w.heap.size + 1, 0, none⟩ = some (.int .i64 kk) := (bo.cell 0).trans rfl
        have bo_1 : wz.cell? ⟨w.heap.size + 1, 1, none⟩ = some (.slice Al ls.length kl) := (bo.cell 1).trans rfl
        have bo_2 : wz.cell? ⟨w.heap.size + 1, 2, none⟩ = some (.slice Ad da.length kd) := (bo.cell 2).trans rfl
        have v_l : w2.heap.size < wz.heap.size := v.lt
        have v_l2 : w2.heap.size < wz.heap.size + 1 + 1 := Nat.lt_succ_of_lt (Nat.lt_succ_of_lt v_l)
        have v_0 : wz.cell? ⟨w2.heap.size, 0, none⟩ = some (.int .i64 0) := (v.cell 0).trans rfl
        have v_1 : wz.cell? ⟨w2.heap.size, 1, none⟩ = some (.int .i64 0) := (v.cell 1).trans rfl
        clear HK hk0 hz1
        have hvlo : w.heap.size ≤ w2.heap.size := by have := B2.size; omega
        go_wp2_with fail
        go_at_call 33
        refine (H33.out _ B3).mono ?_
        rintro e wp ⟨Ax, cx, rfl, _, hsx, hbp'⟩
        have B4 := B3.trans (hbp'.mono B3.size)
        replace bx := bx.below hbp' bx.lt
        replace bo := bo.below hbp' bo.lt
        replace v := v.below hbp' v.lt
        clear bo_0 bo_1 bo_2 bo_l bo_l2 bx_0 bx_l bx_l2 v_0 v_1 v_l v_l2
        have bx_l : w.heap.size < wp.heap.size := bx.lt
        have bx_l2 : w.heap.size < wp.heap.size + 1 + 1 := Nat.lt_succ_of_lt (Nat.lt_succ_of_lt bx_l)
        have bx_0 : wp.cell? ⟨w.heap.size, 0, none⟩ = some (.slice A s.length k) := (bx.cell 0).trans rfl
        have bo_l : w.heap.size + 1 < wp.heap.size := bo.lt
        have bo_l2 : w.heap.size + 1 < wp.heap.size + 1 + 1 := Nat.lt_succ_of_lt (Nat.lt_succ_of_lt bo_l)
        have bo_0 : wp.cell? ⟨w.heap.size + 1, 0, none⟩ = some (.int .i64 kk) := (bo.cell 0).trans rfl
        have bo_1 : wp.cell? ⟨w.heap.size + 1, 1, none⟩ = some (.slice Al ls.length kl) := (bo.cell 1).trans rfl
        have bo_2 : wp.cell? ⟨w.heap.size + 1, 2, none⟩ = some (.slice Ad da.length kd) := (bo.cell 2).trans rfl
        have v_l : w2.heap.size < wp.heap.size := v.lt
        have v_l2 : w2.heap.size < wp.heap.size + 1 + 1 := Nat.lt_succ_of_lt (Nat.lt_succ_of_lt v_l)
        have v_0 : wp.cell? ⟨w2.heap.size, 0, none⟩ = some (.int .i64 0) := (v.cell 0).trans rfl
        have v_f0 : wp.frozen? ⟨w2.heap.size, 0, none⟩ = false := v.frozen 0
        have v_1 : wp.cell? ⟨w2.heap.size, 1, none⟩ = some (.int .i64 0) := (v.cell 1).trans rfl
        have v_f1 : wp.frozen? ⟨w2.heap.size, 1, none⟩ = false := v.frozen 1
        clear hbp'
        have n1 : ¬ (wp.heap.size + 1 = w2.heap.size) := by have := v.lt; omega
        have n2 : ¬ (wp.heap.size = w2.heap.size) := by have := v.lt; omega
        replace bx := bx.alloc (.cells #[.slice Ax 0 cx] 24)
        replace bo := bo.alloc (.cells #[.slice Ax 0 cx] 24)
        replace v := v.alloc (.cells #[.slice Ax 0 cx] 24)
        have x := Blk.new wp 24 #[.slice Ax 0 cx]
        have B4a0 := B4.alloc B4.size (.cells #[.slice Ax 0 cx] 24)
        replace bx := bx.alloc (.cells #[.int .i64 rc, .int .i64 (-1)] 28)
        replace bo := bo.alloc (.cells #[.int .i64 rc, .int .i64 (-1)] 28)
        replace v := v.alloc (.cells #[.int .i64 rc, .int .i64 (-1)] 28)
        replace x := x.alloc (.cells #[.int .i64 rc, .int .i64 (-1)] 28)
        have f : Blk ((wp.alloc (.cells #[.slice Ax 0 cx] 24)).alloc (.cells #[.int .i64 rc, .int .i64 (-1)] 28)) (wp.heap.size + 1) 28 #[.int .i64 rc, .int .i64 (-1)] := by simpa using Blk.new (wp.alloc (.cells #[.slice Ax 0 cx] 24)) 28 #[.int .i64 rc, .int .i64 (-1)]
        have B4a1 := B4a0.alloc B4a0.size (.cells #[.int .i64 rc, .int .i64 (-1)] 28)
        clear hsx
        simp only at *
        go_wp2_with fail
        go_at_call 30
        refine (H30.out _ B4a1).mono ?_
        rintro e wr ⟨rfl, hbr'⟩
        have B5 := B4a1.trans (hbr'.mono B4a1.size)
        replace bx := bx.below hbr' bx.lt
        replace bo := bo.below hbr' bo.lt
        replace v := v.below hbr' v.lt
        replace x := x.below hbr' x.lt
        replace f := f.below hbr' f.lt
        clear bo_0 bo_1 bo_2 bo_l bo_l2 bx_0 bx_l bx_l2 v_0 v_1 v_f0 v_f1 v_l v_l2
        have bx_l : w.heap.size < wr.heap.size := bx.lt
        have bx_l2 : w.heap.size < wr.heap.size + 1 + 1 := Nat.lt_succ_of_lt (Nat.lt_succ_of_lt bx_l)
        have bx_0 : wr.cell? ⟨w.heap.size, 0, none⟩ = some (.slice A s.length k) := (bx.cell 0).trans rfl
        have bo_l : w.heap.size + 1 < wr.heap.size := bo.lt
        have bo_l2 : w.heap.size + 1 < wr.heap.size + 1 + 1 := Nat.lt_succ_of_lt (Nat.lt_succ_of_lt bo_l)
        have bo_0 : wr.cell? ⟨w.heap.size + 1, 0, none⟩ = some (.int .i64 kk) := (bo.cell 0).trans rfl
        have bo_1 : wr.cell? ⟨w.heap.size + 1, 1, none⟩ = some (.slice Al ls.length kl) := (bo.cell 1).trans rfl
        have bo_2 : wr.cell? ⟨w.heap.size + 1, 2, none⟩ = some (.slice Ad da.length kd) := (bo.cell 2).trans rfl
        have v_l : w2.heap.size < wr.heap.size := v.lt
        have v_l2 : w2.heap.size < wr.heap.size + 1 + 1 := Nat.lt_succ_of_lt (Nat.lt_succ_of_lt v_l)
        have v_0 : wr.cell? ⟨w2.heap.size, 0, none⟩ = some (.int .i64 0) := (v.cell 0).trans rfl
        have v_f0 : wr.frozen? ⟨w2.heap.size, 0, none⟩ = false := v.frozen 0
        have v_1 : wr.cell? ⟨w2.heap.size, 1, none⟩ = some (.int .i64 0) := (v.cell 1).trans rfl
        have v_f1 : wr.frozen? ⟨w2.heap.size, 1, none⟩ = false := v.frozen 1
        have x_l : wp.heap.size < wr.heap.size := x.lt
        have x_l2 : wp.heap.size < wr.heap.size + 1 + 1 := Nat.lt_succ_of_lt (Nat.lt_succ_of_lt x_l)
        have x_0 : wr.cell? ⟨wp.heap.size, 0, none⟩ = some (.slice Ax 0 cx) := (x.cell 0).trans rfl
        have f_l : wp.heap.size + 1 < wr.heap.size := f.lt
        have f_l2 : wp.heap.size + 1 < wr.heap.size + 1 + 1 := Nat.lt_succ_of_lt (Nat.lt_succ_of_lt f_l)
        have f_0 : wr.cell? ⟨wp.heap.size + 1, 0, none⟩ = some (.int .i64 rc) := (f.cell 0).trans rfl
        have f_1 : wr.cell? ⟨wp.heap.size + 1, 1, none⟩ = some (.int .i64 (-1)) := (f.cell 1).trans rfl
        clear hbr'
        have n3 : ¬ (wp.heap.size + 1 = wr.heap.size) := Nat.ne_of_lt f.lt
        have n4 : ¬ (wp.heap.size = wr.heap.size) := Nat.ne_of_lt x.lt
        have n5 : ¬ (w2.heap.size = wr.heap.size) := Nat.ne_of_lt v.lt
        have n6 : ¬ (wr.heap.size = w2.heap.size) := Ne.symm n5
        have xne : wp.heap.size ≠ wr.heap.size := Nat.ne_of_lt x.lt
        have fne : wp.heap.size + 1 ≠ wr.heap.size := Nat.ne_of_lt f.lt
        have vne : w2.heap.size ≠ wr.heap.size := Nat.ne_of_lt v.lt
        replace bx := bx.alloc (.cells #[.slice none 0 0] 24)
        replace bo := bo.alloc (.cells #[.slice none 0 0] 24)
        replace v := v.alloc (.cells #[.slice none 0 0] 24)
        replace x := x.alloc (.cells #[.slice none 0 0] 24)
        replace f := f.alloc (.cells #[.slice none 0 0] 24)
        have y := Blk.new wr 24 #[.slice none 0 0]
        have B5a0 := B5.alloc B5.size (.cells #[.slice none 0 0] 24)
        have hyl : w.heap.size ≤ wr.heap.size ∧ wr.heap.size < (wr.alloc (.cells #[.slice none 0 0] 24)).heap.size := ⟨B5.size, by simp⟩
        go_wp2_with fail
        go_at_call 34
        refine (HK34.out _ B5a0 wr.heap.size hyl).mono ?_
        rintro e ws ⟨Ay, cy, rfl, hsy, hbs'⟩
        have B6 := B5a0.trans (hbs'.mono B5a0.size)
        replace bx := bx.below hbs' bx.lt
        replace bo := bo.below hbs' bo.lt
        replace v := v.below hbs' v.lt
        replace x := x.below hbs' x.lt
        replace f := f.below hbs' f.lt
        replace y := y.below hbs' y.lt
        clear bo_0 bo_1 bo_2 bo_l bo_l2 bx_0 bx_l bx_l2 f_0 f_1 f_l f_l2 v_0 v_1 v_f0 v_f1 v_l v_l2 x_0 x_l x_l2
        have bx_l : w.heap.size < ws.heap.size := bx.lt
        have bx_l2 : w.heap.size < ws.heap.size + 1 + 1 := Nat.lt_succ_of_lt (Nat.lt_succ_of_lt bx_l)
        have bx_0 : ws.cell? ⟨w.heap.size, 0, none⟩ = some (.slice A s.length k) := (bx.cell 0).trans rfl
        have bo_l : w.heap.size + 1 < ws.heap.size := bo.lt
        have bo_l2 : w.heap.size + 1 < ws.heap.size + 1 + 1 := Nat.lt_succ_of_lt (Nat.lt_succ_of_lt bo_l)
        have bo_0 : ws.cell? ⟨w.heap.size + 1, 0, none⟩ = some (.int .i64 kk) := (bo.cell 0).trans rfl
        have bo_1 : ws.cell? ⟨w.heap.size + 1, 1, none⟩ = some (.slice Al ls.length kl) := (bo.cell 1).trans rfl
        have bo_2 : ws.cell? ⟨w.heap.size + 1, 2, none⟩ = some (.slice Ad da.length kd) := (bo.cell 2).trans rfl
        have v_l : w2.heap.size < ws.heap.size := v.lt
        have v_l2 : w2.heap.size < ws.heap.size + 1 + 1 := Nat.lt_succ_of_lt (Nat.lt_succ_of_lt v_l)
        have v_0 : ws.cell? ⟨w2.heap.size, 0, none⟩ = some (.int .i64 0) := (v.cell 0).trans rfl
        have v_f0 : ws.frozen? ⟨w2.heap.size, 0, none⟩ = false := v.frozen 0
        have v_1 : ws.cell? ⟨w2.heap.size, 1, none⟩ = some (.int .i64 0) := (v.cell 1).trans rfl
        have v_f1 : ws.frozen? ⟨w2.heap.size, 1, none⟩ = false := v.frozen 1
        have x_l : wp.heap.size < ws.heap.size := x.lt
        have x_l2 : wp.heap.size < ws.heap.size + 1 + 1 := Nat.lt_succ_of_lt (Nat.lt_succ_of_lt x_l)
        have x_0 : ws.cell? ⟨wp.heap.size, 0, none⟩ = some (.slice Ax 0 cx) := (x.cell 0).trans rfl
        have f_l : wp.heap.size + 1 < ws.heap.size := f.lt
        have f_l2 : wp.heap.size + 1 < ws.heap.size + 1 + 1 := Nat.lt_succ_of_lt (Nat.lt_succ_of_lt f_l)
        have f_0 : ws.cell? ⟨wp.heap.size + 1, 0, none⟩ = some (.int .i64 rc) := (f.cell 0).trans rfl
        have f_1 : ws.cell? ⟨wp.heap.size + 1, 1, none⟩ = some (.int .i64 (-1)) := (f.cell 1).trans rfl
        have y_l : wr.heap.size < ws.heap.size := y.lt
        have y_l2 : wr.heap.size < ws.heap.size + 1 + 1 := Nat.lt_succ_of_lt (Nat.lt_succ_of_lt y_l)
        have y_0 : ws.cell? ⟨wr.heap.size, 0, none⟩ = some (.slice none 0 0) := (y.cell 0).trans rfl
        have y_f0 : ws.frozen? ⟨wr.heap.size, 0, none⟩ = false := y.frozen 0
        clear hbs'
        clear hsy
        obtain ⟨wt, hwt⟩ : ∃ wt : World, wt = ws.setCell ⟨wr.heap.size, 0, none⟩ (.slice Ay 0 cy) := ⟨_, rfl⟩
        go_wp2_with fail
        go_at_call 18
        rw [← hwt]
        have xn : wp.heap.size ≠ wr.heap.size := xne
        have xs := x.far (p := ⟨wr.heap.size, 0, none⟩) xn (.slice Ay 0 cy)
        rw [← hwt] at xs
        have fn : wp.heap.size + 1 ≠ wr.heap.size := fne
        have fs := f.far (p := ⟨wr.heap.size, 0, none⟩) fn (.slice Ay 0 cy)
        rw [← hwt] at fs
        have vn : w2.heap.size ≠ wr.heap.size := vne
        have vs := v.far (p := ⟨wr.heap.size, 0, none⟩) vn (.slice Ay 0 cy)
        rw [← hwt] at vs
        have ys := y.set_ 0 (.slice Ay 0 cy)
        rw [← hwt] at ys
        have bs := B6.setCell (p := ⟨wr.heap.size, 0, none⟩) hyl.1 (.slice Ay 0 cy)
        rw [← hwt] at bs
        refine (fault_b _ _ _).mono ?_
        rintro e wu ⟨rfl, hbu'⟩
        have xu := xs.below hbu' xs.lt
        have xu_l := xu.lt
        have xu_0 : wu.cell? ⟨wp.heap.size, 0, none⟩ = some (.slice Ax 0 cx) := (xu.cell 0).trans rfl
        have xu_f0 := xu.frozen 0
        have fu := fs.below hbu' fs.lt
        have fu_l := fu.lt
        have fu_0 : wu.cell? ⟨wp.heap.size + 1, 0, none⟩ = some (.int .i64 rc) := (fu.cell 0).trans rfl
        have fu_f0 := fu.frozen 0
        have fu_1 : wu.cell? ⟨wp.heap.size + 1, 1, none⟩ = some (.int .i64 (-1)) := (fu.cell 1).trans rfl
        have fu_f1 := fu.frozen 1
        have vu := vs.below hbu' vs.lt
        have vu_l := vu.lt
        have vu_0 : wu.cell? ⟨w2.heap.size, 0, none⟩ = some (.int .i64 0) := (vu.cell 0).trans rfl
        have vu_f0 := vu.frozen 0
        have vu_1 : wu.cell? ⟨w2.heap.size, 1, none⟩ = some (.int .i64 0) := (vu.cell 1).trans rfl
        have vu_f1 := vu.frozen 1
        have yu := ys.below hbu' ys.lt
        have yu_l := yu.lt
        have yu_0 : wu.cell? ⟨wr.heap.size, 0, none⟩ = some (.slice Ay 0 cy) := (yu.cell 0).trans rfl
        have bu := bs.trans (hbu'.mono bs.size)
        clear hwt
        go_wp2_with fail
        go_at_call 22
        refine (stores_any _ Ax Ay cx cy [] ⟨[], SA.nil, rfl⟩ ⟨[], SA.nil, rfl⟩ (by simp)).mono ?_
        rintro e wq ⟨rfl, hbq⟩
        go_wp2_with fail
        go_ret
        have hbv := (bu.setCell (p := ⟨w2.heap.size, 0, none⟩) hvlo (.int .i64 rc)).setCell (p := ⟨w2.heap.size, 1, none⟩) hvlo (.int .i64 (-1))
        exact ⟨by simp, hbv.trans (hbq.mono hbv.size)⟩
end Go.Proofs.Ytiilhnfdlpgllaa
