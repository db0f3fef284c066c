/-
  The merge queue: walk of slices.DeleteFunc at the list of an entry.
-/
import Derived.Test.YtinebbleilnejaaMqX
import Derived.Lib.SliceRun
namespace Go.V
open Go.RowKit
/-- 'clear' of a slice of n numbers. -/
theorem run_clear_row {P : Program} (w : World) (t e ty : TypeId) (z : Value) (ht : P.underlying t = some (.slice e)) (hz : ∀ w, (zeroValue e).run P w = .ok z w) (hzc : z.cells = #[z]) (h1 : z.oneCell' = true)
    (g o n c : Nat) (hn : 0 < n) (cur : Array Value) (tt : TypeId) (hg : Blk w g tt cur) (hfit : o + n ≤ cur.size) :
    ∃ w', (Builtin.clear_ #[t] ty #[.slice (some ⟨g, o, none⟩) n c]).run P w = .ok (.tuple #[]) w' ∧ Blk w' g tt (cur.toList.take o ++ List.replicate n z ++ cur.toList.drop (o + n)).toArray ∧ w.grownBy w' (some g) := by
  have hzz : (Builtin.zeroCells z.cells n).toList = List.replicate n z := by
    rw [hzc]
    simp [Builtin.zeroCells]
    apply List.ext_getElem
    · simp
    · intro i h1 h2
      simp [Nat.mod_one]
  have hst := run_storeCells_at P g o tt (List.replicate n z) 0 cur w hg (by simpa using hfit) (by intro v hv'; rw [List.eq_of_mem_replicate hv']; exact h1)
  simp only [Nat.add_zero, List.length_replicate] at hst
  obtain ⟨m, rfl⟩ : ∃ m, n = m + 1 := ⟨n - 1, by omega⟩
  refine ⟨w.setRow g (cur.toList.take o ++ List.replicate (m + 1) z ++ cur.toList.drop (o + (m + 1))).toArray, ?_, setRow_heap w g cur _ tt (0, 0) hg, ⟨rfl, rfl, rfl, by simp, fun k _ hk => setRow_other w g k _ (fun e => hk (by rw [e]))⟩⟩
  simp [Builtin.clear_, run_underlying ht, hz, hzz, hst]
end Go.V
namespace Go.Proofs.Ytinebbleilnejaa
open Go.RowKit Go.V
set_option linter.unusedVariables false
theorem f44_any (w : World) (a : Nat) (x n : Int) (hc : w.cell? ⟨a, 0, none⟩ = some (.int .i64 x)) :
    Calls Try.prog 44 #[.int .i64 n, .pointer (some ⟨a, 0, none⟩)] w fun e w' => e = .returned (.bool (n == x)) ∧ w = w' := by
  generalize hq : (n == x) = q
  go_enter Try.func44, Try.ntmps44
  go_wp2_with fail
  go_ret
  exact ⟨rfl, rfl⟩
/-- The first place of a number, or -1. -/
def FnAt (l : List Int) (x r : Int) : Prop :=
  (r = -1 ∧ ∀ j (h : j < l.length), l[j] ≠ x) ∨ ∃ j : Nat, ∃ h : j < l.length, r = (j : Int) ∧ l[j] = x ∧ ∀ i (hi : i < j), l[i] ≠ x
set_option maxHeartbeats 4000000 in
theorem f46b_any (w : World) (A : Option Addr) (k : Nat) (l : List Int) (g : Nat) (x : Int) (fn : Value) (hfn : fn = .func (.func 44) #[] #[.pointer (some ⟨g, 0, none⟩)]) (hv : IV w A l) (hl : l.length ≤ 9223372036854775807)
    (hc : w.cell? ⟨g, 0, none⟩ = some (.int .i64 x)) :
    Calls Try.prog 46 #[.slice A l.length k, fn] w fun e w' => (∃ r : Int, e = .returned (.int .i64 r) ∧ FnAt l x r) ∧ w = w' := by
  have HV := Lib.hid hv
  have HP := Lib.hid (fun n => f44_any w g x n hc)
  clear hv hc
  subst hfn
  go_enter Try.func46, Try.ntmps46
  go_wp2_with fail
  go_loopw [8] (fun iv wr => ∃ i : Nat, i ≤ l.length ∧ iv = .int .i64 i ∧ w = wr ∧ Hid (∀ (j : Nat) (h : j < l.length), j < i → l[j] ≠ x)) (fun iv _ => l.length - (intOf iv).toNat)
  case atStart => exact ⟨0, Nat.zero_le _, rfl, rfl, Lib.hid (fun j _ h => by omega)⟩
  case round =>
    obtain ⟨i, hi, rfl, rfl, H⟩ := hrel
    by_cases hlt : i < l.length
    · have hlt' : (i : Int) < l.length := by omega
      obtain ⟨b, off, e, hb, d0⟩ := HV.out.at_ i hlt
      subst e
      have HC := Lib.hid (HP.out l[i])
      have HN : Hid (l[i] ≠ x → ∀ (j : Nat) (h : j < l.length), j < i + 1 → l[j] ≠ x) := Lib.hid (fun hq j h hj => by
        by_cases e : j = i
        · subst e; exact hq
        · exact H.out j h (by omega))
      have HY : Hid (l[i] = x → FnAt l x (i : Int)) := Lib.hid (fun hq => .inr ⟨i, hlt, rfl, hq, fun j hj => H.out j (by omega) hj⟩)
      generalize l[i] = y at *
      by_cases hxy : y = x
      · have hb2 : (y == x) = true := by simp [hxy]
        rw [hb2] at HC
        have HY2 := Lib.hid (HY.out hxy)
        clear HN HY hxy hb2
        go_wp2_with (first | (go_at_call 44; with_reducible refine HC.out.mono ?_; rintro e w' ⟨rfl, rfl⟩))
        go_ret
        exact ⟨⟨_, rfl, HY2.out⟩, rfl⟩
      · have hb2 : (y == x) = false := by simp [hxy]
        rw [hb2] at HC
        have HN2 := Lib.hid (HN.out hxy)
        clear HN HY hxy hb2
        go_wp2_with (first | (go_at_call 44; with_reducible refine HC.out.mono ?_; rintro e w' ⟨rfl, rfl⟩))
        go_roundw
        case rel => exact ⟨i + 1, by omega, by go_num, (by first | exact rfl | trivial), HN2⟩
        case measure => simp [intOf]; omega
    · obtain rfl : i = l.length := by omega
      go_wp2_with fail
      go_ret
      exact ⟨⟨_, rfl, .inl ⟨rfl, fun j h => H.out j h h⟩⟩, rfl⟩
/-- What DeleteFunc tells. -/
def DfPost (B : Nat) (w : World) (v : Value) (l : List Int) (x : Int) (e : Ending) (w' : World) : Prop :=
  ∃ v', e = .returned v' ∧ v'.ownBlock = v.ownBlock ∧ IR B w' v' (l.filter fun n => !(n == x)) ∧ w.grownBy w' v.ownBlock
theorem intsV_set (l : List Int) (i : Nat) (x : Int) : (intsV l).set i (.int .i64 x) = intsV (l.set i x) := by unfold intsV; rw [List.map_set]
set_option maxRecDepth 100000 in
set_option maxHeartbeats 8000000 in
theorem deleteFunc_any (B : Nat) (w : World) (v : Value) (l : List Int) (gF : Nat) (fc : Array Value) (x : Int) (fn : Value) (hfn : fn = .func (.func 44) #[] #[.pointer (some ⟨gF, 0, none⟩)]) (hv : IR B w v l) (hl : l.length ≤ 1000)
    (bF : Blk w gF 38 fc) (hx : fc[0]? = some (.int .i64 x)) :
    Calls Try.prog 43 #[v, fn] w (DfPost B w v l x) := by
  obtain ⟨A, c, rfl, hnc, hcm⟩ := own_form hv
  have HI := Lib.hid (f46b_any w A c l gF x fn hfn (SV.of_own hv) (by omega) ((bF.cell 0).trans hx))
  have HV := Lib.hid hv
  subst hfn
  clear hv
  go_enter Try.func43, Try.ntmps43
  go_wp2_with fail
  go_at_call 46
  with_reducible refine HI.out.mono ?_
  rintro e w1 ⟨⟨r, rfl, hr⟩, hw⟩
  subst hw
  rcases hr with ⟨rfl, hno⟩ | ⟨j0, hj0, rfl, hj1, hj2⟩
  · have HF := Lib.hid (show DfPost B w (.slice A l.length c) l x (.returned (.slice A l.length c)) w from by
      refine ⟨_, rfl, rfl, ?_, World.grownBy.refl _ _⟩
      rw [List.filter_eq_self.2 (fun a ha => by
        obtain ⟨i, hi, rfl⟩ := List.getElem_of_mem ha
        have := hno i hi
        simp [this])]
      exact HV.out)
    clear hno HI
    go_wp2_with fail
    go_ret
    exact HF.out
  · obtain ⟨g, c', cur, e, hBg, _⟩ := own_some HV.out (by omega)
    injection e with e1 e2 e3
    subst e1
    subst e3
    clear e2
    have hj0' : (j0 : Int) < l.length := by omega
    have hne1 : ((j0 : Int) == -1) = false := by rw [beq_eq_false_iff_ne]; omega
    have hcat : (l.take (j0 + 1)).filter (fun n => !(n == x)) = l.take j0 := by
      rw [List.take_succ_eq_append_getElem hj0, List.filter_append, List.filter_eq_self.2 (fun a ha => by
        obtain ⟨i, hi, rfl⟩ := List.getElem_of_mem ha
        have hi' : i < j0 := by simp at hi; omega
        have := hj2 i hi'
        simp [List.getElem_take, this])]
      simp [hj1]
    have HS := Lib.hid (fun (j : Nat) (hj : j < l.length) => (show (l.take (j + 1)).filter (fun n => !(n == x)) = (l.take j).filter (fun n => !(n == x)) ++ (if l[j] = x then [] else [l[j]]) from by
      rw [List.take_succ_eq_append_getElem hj, List.filter_append]
      congr 1
      by_cases e : l[j] = x
      · simp [e]
      · simp [e]))
    clear HI hj1 hj2
    go_wp2_with fail
    go_loopw [5, 6] (fun iv jv wr => ∃ (i j : Nat) (cj : List Int), i < j ∧ j ≤ l.length ∧ iv = .int .i64 i ∧ jv = .int .i64 j ∧ cj.length = l.length ∧ Hid (IR B wr (.slice (some ⟨g, 0, none⟩) l.length c) cj) ∧ Hid (cj.take i = (l.take j).filter fun n => !(n == x)) ∧ Hid (cj.drop j = l.drop j) ∧ w.grownBy wr (some g) ∧ Blk wr gF 38 fc) (fun _ jv _ => l.length - (intOf jv).toNat)
    case atStart => exact ⟨j0, j0 + 1, l, by omega, by omega, rfl, by go_num, rfl, HV, Lib.hid hcat.symm, Lib.hid rfl, World.grownBy.refl _ _, bF⟩
    case round =>
      clear bF hcat HV
      obtain ⟨i, j, cj, hij, hj, rfl, rfl, hcl, HR, HT, HD, hg, bF⟩ := hrel
      obtain ⟨wo, rfl⟩ : ∃ wo : World, wo = wr := ⟨_, rfl⟩
      by_cases hlt : j < l.length
      · have hlt' : (j : Int) < l.length := by omega
        have hil' : (i : Int) < l.length := by omega
        have hro : wo.ownsRow B 3 1 (.slice (some ⟨g, 0, none⟩) cj.length c) cj.length (intsV cj) := by rw [hcl]; have := HR.out; unfold IR at this; rwa [hcl] at this
        have hcj : cj[j]'(by omega) = l[j] := by
          have e1 : (cj.drop j)[0]? = (l.drop j)[0]? := by rw [HD.out]
          rw [List.getElem?_drop, List.getElem?_drop, List.getElem?_eq_getElem (by omega), List.getElem?_eq_getElem (by omega)] at e1
          simpa using e1
        have hsv : IV wo (some ⟨g, 0, none⟩) cj := SV.of_own hro
        obtain ⟨b1, o1, e1, hb1, d1⟩ := hsv.at_ j (by omega)
        injection e1 with e1
        injection e1 with e1 e4 _
        subst e1
        subst e4
        rw [Nat.zero_add, hcj] at d1
        obtain ⟨d2, f2, hgl, _⟩ := own_cell hro i (.int .i64 (cj[i]'(by omega))) (by unfold intsV; rw [List.getElem?_map, List.getElem?_eq_getElem (by omega)]; rfl)
        have HC := Lib.hid (f44_any wo gF x l[j] ((bF.cell 0).trans hx))
        have hgF : gF ≠ g := fun e => by
          obtain ⟨g', c2, cur2, e2, _, e5, _⟩ := own_some hro (by omega)
          injection e2 with e2 _ _
          injection e2 with e2
          injection e2 with e2 _ _
          subst e2
          exact Blk.ne_ bF e5 (by decide) e
        have HPUT := Lib.hid (own_put hro i (.int .i64 l[j]) (by simp; omega))
        have HS2 := Lib.hid (HS.out j hlt)
        have HD2 := Lib.hid (show ∀ y, (cj.set i y).drop (j + 1) = l.drop (j + 1) ∧ cj.drop (j + 1) = l.drop (j + 1) from fun y => by
          have e : cj.drop (j + 1) = l.drop (j + 1) := by
            have := congrArg (List.drop 1) HD.out
            simpa [List.drop_drop, Nat.add_comm] using this
          refine ⟨?_, e⟩
          rw [List.drop_set_of_lt (by omega)]; exact e)
        have HT2 := Lib.hid (show ∀ y, (cj.set i y).take (i + 1) = cj.take i ++ [y] from fun y => by
          rw [List.take_succ_eq_append_getElem (by simp; omega)]
          simp [List.take_set_of_le])
        clear hro hsv hcj HS HD
        generalize hy : l[j] = y at *
        generalize cj[i]'(by omega) = u0 at *
        by_cases hxy : y = x
        · have hb2 : (y == x) = true := by simp [hxy]
          rw [hb2] at HC
          have HE : Hid ((l.take (j + 1)).filter (fun n => !(n == x)) = (l.take j).filter fun n => !(n == x)) := Lib.hid (by rw [HS2.out, if_pos hxy, List.append_nil])
          clear hxy hb2 HS2 HPUT HT2
          go_wp2_with (first | (go_at_call 44; with_reducible refine HC.out.mono ?_; rintro e w' ⟨rfl, rfl⟩))
          go_roundw
          case rel => exact ⟨i, j + 1, cj, by omega, by omega, rfl, by go_num, hcl, HR, Lib.hid (by rw [HT.out, HE.out]), Lib.hid (HD2.out 0).2, hg, bF⟩
          case measure => simp [intOf]; omega
        · have hb2 : (y == x) = false := by simp [hxy]
          rw [hb2] at HC
          have HE : Hid ((l.take (j + 1)).filter (fun n => !(n == x)) = (l.take j).filter (fun n => !(n == x)) ++ [y]) := Lib.hid (by rw [HS2.out, if_neg hxy])
          clear hxy hb2 HS2
          go_wp2_with (first | (go_at_call 44; with_reducible refine HC.out.mono ?_; rintro e w' ⟨rfl, rfl⟩))
          go_roundw
          case rel =>
            refine ⟨i + 1, j + 1, cj.set i y, by omega, by omega, by go_num, by go_num, by simpa using hcl, ?_, Lib.hid (by rw [HT2.out, HT.out, HE.out]), Lib.hid (HD2.out y).1, only_setCell hg (.inl rfl) _, bF.far hgF _⟩
            have := HPUT.out
            rw [intsV_set, hcl] at this
            refine Lib.hid ?_
            unfold IR
            rw [List.length_set, hcl]
            exact this
          case measure => simp [intOf]; omega
      · obtain rfl : j = l.length := by omega
        have hil : i ≤ l.length := by omega
        have hilI : (i : Int) ≤ l.length := by omega
        have hicI : (i : Int) ≤ c := by omega
        have hM : cj.take i = l.filter fun n => !(n == x) := by rw [HT.out, List.take_length]
        have hMl : (l.filter fun n => !(n == x)).length = i := by rw [← hM, List.length_take]; omega
        obtain ⟨g', c2, cur, e, hBg2, hb, h4, h5, h6, h7⟩ := own_some HR.out (by omega)
        injection e with e1 e2 e3
        injection e1 with e1
        injection e1 with e1 _ _
        subst e1
        subst e3
        have hz3 : ∀ w : World, (zeroValue 3).run Try.prog w = .ok (.int .i64 0) w := fun w => by kernel_rfl
        have hcs : cur.size = c := by simpa using h6
        obtain ⟨w3, hr3, hb3, hg3⟩ := run_clear_row (P := Try.prog) wo 23 3 0 (.int .i64 0) Try.underlying23 hz3 rfl rfl g i (l.length - i) (c - i) (by omega) cur 3 hb (by omega)
        have HF : Hid (DfPost B w (.slice (some ⟨g, 0, none⟩) l.length c) l x (.returned (.slice (some ⟨g, 0, none⟩) i c)) w3) := by
          have hcl2 : cur.toList.length = c := by simpa using hcs
          refine Lib.hid ⟨_, rfl, rfl, ?_, ⟨hg3.os.trans hg.os, hg3.tape.trans hg.tape, hg3.output.trans hg.output, Nat.le_trans hg.size hg3.size, fun k hk hne => (hg3.block k (Nat.lt_of_lt_of_le hk hg.size) hne).trans (hg.block k hk hne)⟩⟩
          unfold IR
          rw [hMl]
          refine own_of_blk hb3 hBg2 (by omega) hcm ?_ ?_
          · have : ((cur.toList.take i ++ List.replicate (l.length - i) (Value.int .i64 0) ++ cur.toList.drop (i + (l.length - i))).toArray).size = c := by
              rw [List.size_toArray, List.length_append, List.length_append, List.length_take, List.length_drop, List.length_replicate, hcl2]; omega
            rw [this]; omega
          · rw [Nat.mul_one]
            show (cur.toList.take i ++ _ ++ _).take i = _
            rw [List.append_assoc, List.take_left' (by rw [List.length_take, hcl2]; omega)]
            have h8 : cur.toList.take i = (intsV cj).take i := by
              rw [← h7, List.take_take, Nat.min_eq_left (by omega)]
            rw [h8, ← hM]
            unfold intsV
            rw [List.map_take]
        clear hb3 hg3 h4 h5 h6 h7 hcs hb hM hMl HT HD HR hg bF hBg2 hcl e2
        go_wp2_with fail
        go_ret
        exact HF.out
end Go.Proofs.Ytinebbleilnejaa
