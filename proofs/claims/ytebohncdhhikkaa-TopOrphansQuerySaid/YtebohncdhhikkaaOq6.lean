/-
  Queries: what a slice of nodes reads as; walks of 'Operands', 'Most', and of 'check' at a node that is right.
-/
import Derived.Test.YtebohncdhhikkaaOq5
import Derived.Test.YtebohncdhhikkaaView15
import Derived.RegionTactic
import Derived.Deep.RegionLaw
import Derived.Deep.MidRow
namespace Go.Proofs.Ytebohncdhhikkaa
open Go.RowKit Go.V
set_option linter.unusedVariables false

def nC (n : Oq.N) : List Value := [.int .i64 n.kind, .int .i64 n.num, .int .i64 n.left, .int .i64 n.right]
theorem nC_len (n : Oq.N) : (nC n).length = 4 := rfl
abbrev nV (n : Oq.N) : Value := .agg #[.int .i64 n.kind, .int .i64 n.num, .int .i64 n.left, .int .i64 n.right]
abbrev nsV (l : List Oq.N) : List Value := l.flatMap nC
theorem operands_any (w : World) (k : Int) : Calls Try.prog 28 #[.int .i64 k] w fun e w' => e = .returned (.int .i64 (Oq.ar k : Nat)) ∧ w' = w := by
  by_cases h1 : 14 ≤ k
  · have H : Hid (Oq.ar k = 2) := Lib.hid (if_pos h1)
    go_enter Try.func28, Try.ntmps28
    go_wp2_with fail
    go_ret
    exact ⟨by rw [H.out]; rfl, rfl⟩
  · by_cases h2 : 7 ≤ k
    · have H : Hid (Oq.ar k = 1) := Lib.hid (by unfold Oq.ar; rw [if_neg h1, if_pos h2])
      go_enter Try.func28, Try.ntmps28
      go_wp2_with fail
      go_ret
      exact ⟨by rw [H.out]; rfl, rfl⟩
    · have H : Hid (Oq.ar k = 0) := Lib.hid (by unfold Oq.ar; rw [if_neg h1, if_neg h2])
      go_enter Try.func28, Try.ntmps28
      go_wp2_with fail
      go_ret
      exact ⟨by rw [H.out]; rfl, rfl⟩
theorem most_any (w : World) (k : Int) : Calls Try.prog 50 #[.int .i64 k] w fun e w' => e = .returned (.int .i64 (Oq.most k)) ∧ w' = w := by
  by_cases h1 : k = 3
  · have H : Hid (Oq.most k = 59) := Lib.hid (if_pos h1)
    subst h1
    go_enter Try.func50, Try.ntmps50
    go_wp2_with fail
    go_ret
    exact ⟨by rw [H.out]; rfl, rfl⟩
  · have g1 : (k == 3) = false := by simpa using h1
    by_cases h2 : k = 4
    · have H : Hid (Oq.most k = 7) := Lib.hid (by unfold Oq.most; rw [if_neg h1, if_pos h2])
      subst h2
      go_enter Try.func50, Try.ntmps50
      go_wp2_with fail
      go_ret
      exact ⟨by rw [H.out]; rfl, rfl⟩
    · have g2 : (k == 4) = false := by simpa using h2
      by_cases h3 : k = 5
      · have H : Hid (Oq.most k = 100000) := Lib.hid (by unfold Oq.most; rw [if_neg h1, if_neg h2, if_pos h3])
        subst h3
        go_enter Try.func50, Try.ntmps50
        go_wp2_with fail
        go_ret
        exact ⟨by rw [H.out]; rfl, rfl⟩
      · have g3 : (k == 5) = false := by simpa using h3
        have H : Hid (Oq.most k = 0) := Lib.hid (by unfold Oq.most; rw [if_neg h1, if_neg h2, if_neg h3])
        go_enter Try.func50, Try.ntmps50
        go_wp2_with fail
        go_ret
        exact ⟨by rw [H.out]; rfl, rfl⟩
theorem slice_fr26 (W : World) (A : Option Addr) (n k m : Nat) (h : m ≤ n) (hk : n ≤ k) : (Instr.slice 26 (.slice A n k) (some (.int .i64 (m : Int))) none none).run Try.prog W = .ok (.slice (if k = m then A else A.map (·.add m)) (n - m) (k - m)) W := by
  have hu := Try.underlying26
  rw [run_slice_l W 26 A n k (by rw [hu]; rfl) .i64 (m : Int) (by omega) (by omega)]
  simp [go_sem]
theorem step_copy0 {P : Program} {w : World} {ops : Array Oper} {o : Oper} {a : Act} {K : Act → World → Prop} {Q : Exit → Act → World → Prop} {E : Prop} (hgd : o.guard = none) (d s : Operand) (dT sT : TypeId)
    (ho : o.op = .call { callee := .builtin .copy, args := #[d, s], argTypes := #[dT, sT] })
    (da : Option Addr) (dLen dCap : Nat) (hd : a.eval d = .slice da dLen dCap) (sa : Option Addr) (sCap : Nat) (hs : a.eval s = .slice sa 0 sCap)
    (hr : (Builtin.copy_ #[dT, sT] o.type #[.slice da dLen dCap, .slice sa 0 sCap]).run P w = .ok (goInt 0) w)
    (h : K (a.put o.dst (goInt 0)) w) :
    if Region.wanted o (yielded ops a.tmps) = true then Oper.wp P o a w K Q else E := by
  have hw : Region.wanted o (yielded ops a.tmps) = true := by simp [Region.wanted, hgd]
  rw [if_pos hw]
  unfold Oper.wp
  simp [execOp, ho, resolve, invoke, builtin, hd, hs, hr, Result.andThen]
  exact h
set_option maxRecDepth 100000 in
set_option maxHeartbeats 8000000 in
theorem ncheck_ok (w : World) (n : Oq.N) (i : Nat) (A : Option Addr) (k : Nat) (rs : List Int) (hv : IV w A rs) (hl : rs.length ≤ 1000) (hk : rs.length ≤ k) (hc : Oq.chk n rs = 0) :
    Calls Try.prog 38 #[nV n, .int .i64 (i : Int), .slice A rs.length k] w fun e w' => e = .returned (.int .i64 0) ∧ Below w.heap.size w w' := by
  obtain ⟨c1, c2, c3, c4, c5, c6, c7⟩ := Oq.chk_zero hc
  obtain ⟨i0, hi0, hz0, hz1, hz2⟩ := info_parts info3
  obtain ⟨kd, nu, le, ri⟩ := n
  simp only at *
  have HO := Lib.hid (fun w1 => operands_any w1 kd)
  have HM := Lib.hid (fun w1 => most_any w1 kd)
  have HC6 := Lib.hid c6
  have HC7 := Lib.hid c7
  have HV := Lib.hid (fun (w1 : World) (hb : Below w.heap.size w w1) => hv.below hb)
  have ha := Oq.ar_le kd
  have b0 := Blk.new w 50 #[.int .i64 kd, .int .i64 nu, .int .i64 le, .int .i64 ri]
  have hb0 := below_alloc1 w (.cells #[.int .i64 kd, .int .i64 nu, .int .i64 le, .int .i64 ri] 50)
  have hk1 : ¬ kd < 1 := by omega
  have hk16 : ¬ (16 : Int) < kd := by omega
  have hn0 : ¬ nu < 0 := by omega
  have hdn : decide (nu < 0) = false := decide_eq_false hn0
  have hnm : ¬ Oq.most kd < nu := by omega
  clear hc hv c6 c7 c3 c4
  generalize Oq.most kd = mo at *
  have har := Lib.hid (show Oq.w0 rs kd = (if Oq.ar kd = 0 then 0 else Oq.at_ rs (rs.length - Oq.ar kd)) ∧ Oq.w1 rs kd = (if Oq.ar kd = 2 then Oq.at_ rs (rs.length - 1) else 0) from ⟨rfl, rfl⟩)
  generalize Oq.w0 rs kd = x0 at *
  generalize Oq.w1 rs kd = x1 at *
  generalize Oq.ar kd = ar at *
  have hlm : ¬ (rs.length : Int) < (ar : Nat) := by omega
  have hsub : IntKind.i64.wrap ((rs.length : Int) - (ar : Nat)) = ((rs.length - ar : Nat) : Int) := by rw [IntWalk.i64_in _ (by omega)]; omega
  have hsl := fun W => slice_fr26 W A rs.length k (rs.length - ar) (by omega) hk
  have hsub2 : rs.length - (rs.length - ar) = ar := by omega
  rw [hsub2] at hsl
  go_enter Try.func38, Try.ntmps38
  go_wp2_with (first | (go_at_call 28; with_reducible refine (HO.out _).mono ?_; rintro e w' ⟨rfl, rfl⟩))
  go_quiet ((go_at_call 50; exact (HM.out _).mono fun e w2 h => ⟨h.1, _, h.2⟩))
  go_wp2_with fail
  have b1 : Blk (((w.alloc (.cells #[.int .i64 kd, .int .i64 nu, .int .i64 le, .int .i64 ri] 50)).drewN nq).alloc (.cells #[.int .i64 0, .int .i64 0] 84)) w.heap.size 50 #[.int .i64 kd, .int .i64 nu, .int .i64 le, .int .i64 ri] := (b0.drewN nq).alloc _
  have bN : Blk (((w.alloc (.cells #[.int .i64 kd, .int .i64 nu, .int .i64 le, .int .i64 ri] 50)).drewN nq).alloc (.cells #[.int .i64 0, .int .i64 0] 84)) (w.heap.size + 1) 84 #[.int .i64 0, .int .i64 0] := by
    have := Blk.new ((w.alloc (.cells #[.int .i64 kd, .int .i64 nu, .int .i64 le, .int .i64 ri] 50)).drewN nq) 84 #[.int .i64 0, .int .i64 0]
    simpa using this
  have hb1 := (below_drewN hb0 nq).alloc (by simp) (.cells #[.int .i64 0, .int .i64 0] 84)
  have hvW := HV.out _ hb1
  generalize (((w.alloc (.cells #[.int .i64 kd, .int .i64 nu, .int .i64 le, .int .i64 ri] 50)).drewN nq).alloc (.cells #[.int .i64 0, .int .i64 0] 84)) = W at *
  have bD := bN.drew
  have bE := b1.drew
  have hbD := below_drew' hb1
  have lN := bN.lt
  clear b0 hb0 HV hk1 hk16 hn0 hdn hnm
  rcases Nat.lt_or_ge 0 ar with hap | hap
  · obtain ⟨b, off, eA, hb, e0⟩ := hvW.at_ (rs.length - ar) (by omega)
    subst eA
    have hne : ¬ k = rs.length - ar := by omega
    have hadd : (⟨b, off, none⟩ : Addr).add (rs.length - ar) = ⟨b, off + (rs.length - ar), none⟩ := Addr.add_mid _ _ _
    rw [if_neg hne, Option.map_some, hadd] at hsl
    rcases (show ar = 1 ∨ ar = 2 by omega) with rfl | rfl
    · have hsb : IntKind.i64.wrap ((rs.length : Int) - 1) = ((rs.length - 1 : Nat) : Int) := by rw [IntWalk.i64_in _ (by omega)]; omega
      clear hsub
      have hx0 := HC6.out.trans (har.out.1.trans (if_neg (by decide)))
      have hx1 := HC7.out.trans (har.out.2.trans (if_neg (by decide)))
      have hat : Oq.at_ rs (rs.length - 1) = rs[rs.length - 1]'(by omega) := by unfold Oq.at_; rw [List.getElem?_eq_getElem (by omega)]; rfl
      rw [← hat, ← hx0] at e0
      subst hx1
      clear hat HC6 HC7 har
      generalize rs.length - 1 = m at *
      have hsrc : ∀ j v, [Value.int .i64 le][j]? = some v → W.drew.cell? ((⟨b, off + m, none⟩ : Addr).add j) = some v := fun j v hj => by
        match j, hj with
        | 0, hj => rw [Addr.add_mid]; simp at hj; subst hj; exact e0
      go_region_law
        (refine step_copy_into _ rfl (.tmp 38) (.tmp 44) 26 26 rfl 3 i0 1 Try.underlying26 hi0 hz1 (w.heap.size + 1) 0 2 2 (by simp [Act.eval, Act.put]) ⟨b, off + m, none⟩ 1 (k - m) (by simp [Act.eval, Act.put]) #[.int .i64 0, .int .i64 0] 84 [.int .i64 le] bD rfl hsrc (by simp) (by simp [Value.oneCell']) ?_; intro w2 hb2 hg2 hz2)
      all_goals
        have b2 := bE.grown hg2 (by simp)
        have hb3 := hbD.grown hg2 hbD.size (fun g e => by injection e with e; omega)
        have q2 := (b2.cell 2).trans rfl
        have q3 := (b2.cell 3).trans rfl
        have r0 := (hb2.cell 0).trans (rfl : _ = some (Value.int .i64 le))
        have r1 := (hb2.cell 1).trans (rfl : _ = some (Value.int .i64 0))
        have m0 := b2.lt
        have m1 := hb2.lt
        go_wp2_with fail
        go_ret
        exact ⟨rfl, hb3⟩
    · have hsb : IntKind.i64.wrap ((rs.length : Int) - 2) = ((rs.length - 2 : Nat) : Int) := by rw [IntWalk.i64_in _ (by omega)]; omega
      clear hsub
      have hx0 := HC6.out.trans (har.out.1.trans (if_neg (by decide)))
      have hx1 := HC7.out.trans (har.out.2.trans (if_pos rfl))
      obtain ⟨b', off', eA', _, e1⟩ := hvW.at_ (rs.length - 1) (by omega)
      injection eA' with eA'
      injection eA' with e2 e3 _
      subst e2
      subst e3
      have hat : Oq.at_ rs (rs.length - 2) = rs[rs.length - 2]'(by omega) := by unfold Oq.at_; rw [List.getElem?_eq_getElem (by omega)]; rfl
      have hat1 : Oq.at_ rs (rs.length - 1) = rs[rs.length - 1]'(by omega) := by unfold Oq.at_; rw [List.getElem?_eq_getElem (by omega)]; rfl
      rw [← hat, ← hx0] at e0
      rw [← hat1, ← hx1] at e1
      have hm1 : rs.length - 1 = rs.length - 2 + 1 := by omega
      rw [hm1] at e1
      clear hat hat1 HC6 HC7 har hx0 hx1 hm1
      generalize rs.length - 2 = m at *
      have hsrc : ∀ j v, [Value.int .i64 le, .int .i64 ri][j]? = some v → W.drew.cell? ((⟨b, off + m, none⟩ : Addr).add j) = some v := fun j v hj => by
        match j, hj with
        | 0, hj => rw [Addr.add_mid]; simp at hj; subst hj; exact e0
        | 1, hj => rw [Addr.add_mid]; simp at hj; subst hj; exact e1
      go_region_law
        (refine step_copy_into _ rfl (.tmp 38) (.tmp 44) 26 26 rfl 3 i0 1 Try.underlying26 hi0 hz1 (w.heap.size + 1) 0 2 2 (by simp [Act.eval, Act.put]) ⟨b, off + m, none⟩ 2 (k - m) (by simp [Act.eval, Act.put]) #[.int .i64 0, .int .i64 0] 84 [.int .i64 le, .int .i64 ri] bD rfl hsrc (by simp) (by simp [Value.oneCell']) ?_; intro w2 hb2 hg2 hz2)
      all_goals
        have b2 := bE.grown hg2 (by simp)
        have hb3 := hbD.grown hg2 hbD.size (fun g e => by injection e with e; omega)
        have q2 := (b2.cell 2).trans rfl
        have q3 := (b2.cell 3).trans rfl
        have r0 := (hb2.cell 0).trans (rfl : _ = some (Value.int .i64 le))
        have r1 := (hb2.cell 1).trans (rfl : _ = some (Value.int .i64 ri))
        have m0 := b2.lt
        have m1 := hb2.lt
        go_wp2_with fail
        go_ret
        exact ⟨rfl, hb3⟩
  · obtain rfl : ar = 0 := by omega
    have hsb : IntKind.i64.wrap (rs.length : Int) = ((rs.length : Nat) : Int) := by rw [IntWalk.i64_in _ (by omega)]
    clear hsub
    have hx0 := HC6.out.trans (har.out.1.trans (if_pos rfl))
    have hx1 := HC7.out.trans (har.out.2.trans (if_neg (by decide)))
    subst hx0
    subst hx1
    clear HC6 HC7 har
    have q2 := (bE.cell 2).trans rfl
    have q3 := (bE.cell 3).trans rfl
    have r0 := (bD.cell 0).trans rfl
    have r1 := (bD.cell 1).trans rfl
    have m0 := bE.lt
    have m1 := bD.lt
    obtain ⟨A', hsl'⟩ : ∃ A' : Option Addr, ∀ V : World, (Instr.slice 26 (.slice A rs.length k) (some (.int .i64 (rs.length : Int))) none none).run Try.prog V = .ok (.slice A' 0 (k - rs.length)) V := ⟨_, fun V => hsl V⟩
    clear hsl
    have hcp : ∀ (ad : Option Addr) (kk : Nat), (Builtin.copy_ #[26, 26] 3 #[.slice (some ⟨w.heap.size + 1, 0, none⟩) 2 2, .slice ad 0 kk]).run Try.prog W.drew = .ok (goInt 0) W.drew := fun ad kk => by
      cases ad with
      | none => simp [Builtin.copy_, run_underlying Try.underlying26, Builtin.lenOf, Builtin.firstCells, sizeOf, typeInfo, hi0, storeCells]
      | some a' =>
        have hl := run_loadCells_list (P := Try.prog) W.drew a' [] (fun j v h => by simp at h)
        simp only [List.length_nil] at hl
        simp [Builtin.copy_, run_underlying Try.underlying26, Builtin.lenOf, Builtin.firstCells, sizeOf, typeInfo, hi0, hl, storeCells]
    go_region_law
      (refine step_copy0 _ rfl (.tmp 38) (.tmp 44) 26 26 rfl _ 2 2 (by simp [Act.eval, Act.put]) _ (k - rs.length) (by simp [Act.eval, Act.put]) (hcp _ _) ?_)
    all_goals
      go_wp2_with fail
      go_ret
      exact ⟨rfl, hbD⟩
end Go.Proofs.Ytebohncdhhikkaa
