/-
  References: small walks; walk of 'Validate'.
-/
import Derived.Test.YtfbbgnhelannjaaDoorRf4
namespace Go.Proofs.YtfbbgnhelannjaaDoor
open Go.RowKit Go.V Go.Shelf Go.Lib
set_option linter.unusedVariables false

theorem results_c30 {fn : Func} {a : Tmp} (h : fn.results = #[.cell a 30]) (tmps : Array Value) (w : World) (g : Nat) (x y : Value) (ha : tmps.getD a undef = .pointer (some ⟨g, 0, none⟩)) (hb : Blk w g 30 #[x, y]) :
    (results fn tmps).run Tryd.prog w = .ok (.agg #[x, y]) w := by
  have h0 := hb.cell 0
  have h1 := hb.cell 1
  simp only [List.getElem?_toArray, List.getElem?_cons_zero, List.getElem?_cons_succ] at h0 h1
  have ha' : tmps[a]?.getD undef = .pointer (some ⟨g, 0, none⟩) := by simpa using ha
  simp [results, h, go_sem, ha', h0, h1]
theorem fault_any (w : World) (c i : Int) : Calls Tryd.prog 21 #[.int .i64 c, .int .i64 i] w fun e w' => e = .returned (.agg #[.int .i64 c, .int .i64 i]) ∧ w.alloc (.cells #[.int .i64 c, .int .i64 i] 30) = w' := by
  go_enter Tryd.func21, Tryd.ntmps21
  go_wp2
  refine bodyPost_ret (v := .agg #[.int .i64 c, .int .i64 i]) (by simp [results, Tryd.results21, go_sem]) rfl ⟨rfl, ?_⟩
  rfl
theorem in_any (w : World) (n l h : Int) : Calls Tryd.prog 26 #[.int .i64 n, .int .i64 l, .int .i64 h] w fun e w' => e = .returned (.bool (decide (l ≤ n) && decide (n ≤ h))) ∧ w' = w := by
  by_cases h1 : l ≤ n
  · go_enter Tryd.func26, Tryd.ntmps26
    go_wp2
    go_ret
    exact ⟨by simp [h1], rfl⟩
  · have h1' : decide (l ≤ n) = false := by simpa using h1
    go_enter Tryd.func26, Tryd.ntmps26
    go_wp2
    go_ret
    exact ⟨by simp, rfl⟩
theorem isDigest50_any (w : World) (n : Int) : Calls Tryd.prog 50 #[.int .i64 n] w fun e w' => e = .returned (.bool (Rf.dgOk n)) ∧ w' = w := by
  by_cases h1 : 0 ≤ n
  · have H : Hid (Rf.dgOk n = decide (n < 2305843009213693951)) := Lib.hid (by unfold Rf.dgOk; rw [decide_eq_true h1]; rfl)
    have h1' : decide (0 ≤ n) = true := by simpa using h1
    go_enter Tryd.func50, Tryd.ntmps50
    go_wp2
    go_ret
    exact ⟨by rw [H.out]; rfl, rfl⟩
  · have H : Hid (Rf.dgOk n = false) := Lib.hid (by unfold Rf.dgOk; rw [decide_eq_false h1]; rfl)
    have h1' : decide (0 ≤ n) = false := by simpa using h1
    go_enter Tryd.func50, Tryd.ntmps50
    go_wp2
    go_ret
    exact ⟨by rw [H.out]; rfl, rfl⟩
theorem isDigest46_any (w : World) (n : Int) : Calls Tryd.prog 46 #[.int .i64 n] w fun e w' => e = .returned (.bool (Rf.dgOk n)) ∧ w' = w := by
  have HI := Lib.hid (in_any w n 0 2305843009213693950)
  have H : Hid (Rf.dgOk n = (decide (0 ≤ n) && decide (n ≤ 2305843009213693950))) := Lib.hid (by
    unfold Rf.dgOk; congr 1; rw [Bool.eq_iff_iff]; simp only [decide_eq_true_eq]; omega)
  generalize Rf.dgOk n = q at *
  go_enter Tryd.func46, Tryd.ntmps46
  go_wp2_with (first | (go_at_call 26; with_reducible refine HI.out.mono ?_; rintro e w' ⟨rfl, rfl⟩))
  go_ret
  exact ⟨by rw [H.out]; rfl, rfl⟩
/-- A fault and nothing that lay has turned. -/
def FaultPost (w : World) (r : Int × Int) (e : Ending) (w' : World) : Prop := e = .returned (.agg #[.int .i64 r.1, .int .i64 r.2]) ∧ Below w.heap.size w w'
theorem FaultPost.mk_ {w w' : World} {r : Int × Int} {a b : Int} (h : r = (a, b)) (hb : Below w.heap.size w w') : FaultPost w r (.returned (.agg #[.int .i64 a, .int .i64 b])) w' := by
  subst h; exact ⟨rfl, hb⟩
theorem less_eq : ∀ a b : List UInt8, Op.bytesLess a b = decide (a < b)
  | a, [] => by cases a <;> simp [Op.bytesLess]
  | [], y :: b => by simp [Op.bytesLess]
  | x :: a, y :: b => by
    rw [Op.bytesLess, less_eq a b, Bool.eq_iff_iff]
    simp [List.cons_lt_cons_iff]
theorem leq_true {a b : List UInt8} (h : ¬ a < b) : (Op.bytesLess b a || b == a) = true := by
  rw [less_eq, Bool.or_eq_true, decide_eq_true_iff, beq_iff_eq]
  rcases Rf.nlt_tri a b with k | k | k
  · exact absurd k h
  · exact .inr k.symm
  · exact .inl k
theorem leq_false {a b : List UInt8} (h : a < b) : (Op.bytesLess b a || b == a) = false := by
  rw [less_eq, Bool.or_eq_false_iff, decide_eq_false_iff_not, beq_eq_false_iff_ne]
  exact ⟨Rf.nlt_asymm h, fun e => Rf.nlt_irrefl a (by rw [e] at h; exact h)⟩
theorem below_drewN' {B : Nat} {a w : World} (h : Below B a w) (n : Nat) : Below B a (w.drewN n) := Go.V.below_drewN h n
/-- The box of the argument and the cell of the result. -/
structure VaSt (w wr : World) (A : Option Addr) (n k : Nat) : Prop where
  bx : Blk wr w.heap.size 26 #[.slice A n k]
  br : Blk wr (w.heap.size + 1) 30 #[.int .i64 0, .int .i64 0]
  bel : Below w.heap.size w wr
theorem VaSt.below {w wr w' : World} {A : Option Addr} {n k : Nat} (h : VaSt w wr A n k) (hb : Below wr.heap.size wr w') : VaSt w w' A n k :=
  ⟨h.bx.below hb h.bx.lt, h.br.below hb h.br.lt, h.bel.trans (hb.mono h.bel.size)⟩
theorem blk_put2' {w : World} {g : Nat} {t : TypeId} {a b : Value} (h : Blk w g t #[a, b]) (x y : Value) : Blk ((w.setCell ⟨g, 0, none⟩ x).setCell ⟨g, 1, none⟩ y) g t #[x, y] := blk_put2 h x y
set_option maxRecDepth 100000 in
set_option maxHeartbeats 8000000 in
theorem validate_any (w : World) (hm : Mx w) (A : Option Addr) (k : Nat) (s : List Rf.R) (hv : SA w Free A (rsV s)) (hl : s.length ≤ 9223372036854775807) (hk : s.length ≤ k) :
    Calls Tryd.prog 29 #[.agg #[.slice A s.length k]] w (FaultPost w (Rf.rfF s)) := by
  have HV := Lib.hid hv
  have HM := Lib.hid hm
  have hF := Rf.rfF.eq_1 s
  generalize Rf.rfF s = r at *
  have st0 : VaSt w ((w.alloc (.cells #[.slice A s.length k] 26)).alloc (.cells #[.int .i64 0, .int .i64 0] 30)) A s.length k :=
    ⟨(Blk.new _ _ _).alloc _, by simpa using Blk.new (w.alloc (.cells #[.slice A s.length k] 26)) 30 #[.int .i64 0, .int .i64 0], below_alloc2 _ _ _⟩
  clear hv hm
  by_cases h30 : 30 < s.length
  · have H := Lib.hid (hF.trans (if_pos h30))
    have h30' : (30 : Int) < s.length := by omega
    clear hF h30
    go_enter Tryd.func29, Tryd.ntmps29
    go_wp2_with fail
    refine bodyPost_ret (results_c30 rfl _ _ (w.heap.size + 1) (.int .i64 2) (.int .i64 (-1)) rfl (by simpa using Blk.new (w.alloc (.cells #[.slice A s.length k] 26)) 30 #[.int .i64 2, .int .i64 (-1)])) rfl ?_
    exact FaultPost.mk_ H.out (below_alloc2 _ _ _)
  · have H := Lib.hid (hF.trans (if_neg h30))
    have h30' : ¬ (30 : Int) < s.length := by omega
    clear hF h30
    go_enter Tryd.func29, Tryd.ntmps29
    go_wp2_with fail
    go_loopw [14] (fun iv wr => ∃ i : Nat, i ≤ s.length ∧ iv = .int .i64 i ∧ Hid (r = Rf.rfFrom s i ∧ ∀ j, j < i → (Rf.it s j).name.length ≤ 60) ∧ VaSt w wr A s.length k) (fun iv _ => s.length - (intOf iv).toNat)
    case atStart => exact ⟨0, Nat.zero_le _, rfl, Lib.hid ⟨H.out, fun j hj => by omega⟩, st0⟩
    case round =>
      obtain ⟨i, hi, rfl, HR, st⟩ := hrel
      by_cases hlt : i < s.length
      · have hlt' : (i : Int) < s.length := by omega
        obtain ⟨b, off, e, hb, _, d0, d1⟩ := rsV_row (HV.out.keep (free_below st.bel)) i hlt
        subst e
        have HN := Lib.hid (fun w1 h => name_any w1 ((HM.out.below st.bel).below h) (Rf.it s i).name)
        have hc := Rf.code.eq_1 s i
        have c0 : wr.cell? ⟨w.heap.size, 0, none⟩ = some (.slice (some ⟨b, off, none⟩) s.length k) := (st.bx.cell 0).trans rfl
        have hbl := st.bx.lt
        have HBAD : Hid (Rf.code s i ≠ 0 → r = (Rf.code s i, (i : Int))) := Lib.hid fun h => by rw [HR.out.1, Rf.rfFrom_bad s i hlt h]
        have HNX : Hid (Rf.code s i = 0 → r = Rf.rfFrom s (i + 1)) := Lib.hid fun h => by rw [HR.out.1, Rf.rfFrom_next s i hlt h]
        have HLN := Lib.hid HR.out.2
        have rb0 := Blk.new wr 51 #[strV (Rf.it s i).name, .int .i64 (Rf.it s i).tgt]
        clear HR
        by_cases hn : Rf.nameOk (Rf.it s i).name = false
        · rw [if_pos hn] at hc
          have HB := Lib.hid (show r = (12, (i : Int)) from by rw [HBAD.out (by rw [hc]; decide), hc])
          rw [hn] at HN
          clear hc hn HBAD HNX HLN
          go_wp2_with fail
          go_at_call 16
          refine (HN.out _ (below_alloc1 _ _)).mono ?_
          rintro e w2 ⟨rfl, hb2'⟩
          have hb2 : Below wr.heap.size wr w2 := (below_alloc1 wr (.cells #[strV (Rf.it s i).name, .int .i64 (Rf.it s i).tgt] 51)).trans (hb2'.mono (by simp))
          have rb := rb0.below hb2' rb0.lt
          have st2 := st.below hb2
          clear hb2' HN c0 rb0
          generalize Rf.it s i = x at *
          have c0 : w2.cell? ⟨w.heap.size, 0, none⟩ = some (.slice (some ⟨b, off, none⟩) s.length k) := (st2.bx.cell 0).trans rfl
          have c1 : w2.cell? ⟨w.heap.size + 1, 0, none⟩ = some (.int .i64 0) := (st2.br.cell 0).trans rfl
          have c2 : w2.cell? ⟨w.heap.size + 1, 1, none⟩ = some (.int .i64 0) := (st2.br.cell 1).trans rfl
          have f1 := st2.br.frozen 0
          have f2 := st2.br.frozen 1
          have c3 : w2.cell? ⟨wr.heap.size, 0, none⟩ = some (strV x.name) := (rb.cell 0).trans rfl
          have c4 : w2.cell? ⟨wr.heap.size, 1, none⟩ = some (.int .i64 x.tgt) := (rb.cell 1).trans rfl
          have l0 := st2.bx.lt
          have l1 := st2.br.lt
          have l2 := rb.lt
          go_wp2_with fail
          refine bodyPost_ret (results_c30 rfl _ _ (w.heap.size + 1) (.int .i64 12) (.int .i64 i) rfl (blk_put2 st2.br _ _)) rfl (FaultPost.mk_ HB.out ?_)
          exact (st2.bel.setCell (by simp) _).setCell (by simp) _
        · rw [if_neg hn] at hc
          have hn2 : Rf.nameOk (Rf.it s i).name = true := by simpa using hn
          have hx60 : (Rf.it s i).name.length ≤ 60 := by have := hn2; unfold Rf.nameOk at this; rw [Bool.and_eq_true] at this; simpa using this.1
          have HLN2 := Lib.hid (show ∀ j, j < i + 1 → (Rf.it s j).name.length ≤ 60 from fun j hj => by
            by_cases e : j = i
            · rw [e]; exact hx60
            · exact HLN.out j (by omega))
          rw [hn2] at HN
          clear hn hn2
          go_wp2_with fail
          go_at_call 16
          refine (HN.out _ (below_alloc1 _ _)).mono ?_
          rintro e w2 ⟨rfl, hb2'⟩
          have hb2 : Below wr.heap.size wr w2 := (below_alloc1 wr (.cells #[strV (Rf.it s i).name, .int .i64 (Rf.it s i).tgt] 51)).trans (hb2'.mono (by simp))
          have rb := rb0.below hb2' rb0.lt
          have st2 := st.below hb2
          clear hb2' HN c0 rb0
          have HD := Lib.hid (isDigest50_any w2 (Rf.it s i).tgt)
          by_cases hd : Rf.dgOk (Rf.it s i).tgt = false
          · rw [if_pos hd] at hc
            have HB := Lib.hid (show r = (3, (i : Int)) from by rw [HBAD.out (by rw [hc]; decide), hc])
            rw [hd] at HD
            clear hc hd HBAD HNX HLN HLN2 hx60
            generalize Rf.it s i = x at *
            have c0 : w2.cell? ⟨w.heap.size, 0, none⟩ = some (.slice (some ⟨b, off, none⟩) s.length k) := (st2.bx.cell 0).trans rfl
            have c1 : w2.cell? ⟨w.heap.size + 1, 0, none⟩ = some (.int .i64 0) := (st2.br.cell 0).trans rfl
            have c2 : w2.cell? ⟨w.heap.size + 1, 1, none⟩ = some (.int .i64 0) := (st2.br.cell 1).trans rfl
            have f1 := st2.br.frozen 0
            have f2 := st2.br.frozen 1
            have c3 : w2.cell? ⟨wr.heap.size, 0, none⟩ = some (strV x.name) := (rb.cell 0).trans rfl
            have c4 : w2.cell? ⟨wr.heap.size, 1, none⟩ = some (.int .i64 x.tgt) := (rb.cell 1).trans rfl
            have l0 := st2.bx.lt
            have l1 := st2.br.lt
            have l2 := rb.lt
            go_wp2_with fail
            go_at_call 50
            refine HD.out.mono ?_
            rintro e w3 ⟨rfl, rfl⟩
            go_wp2_with fail
            refine bodyPost_ret (results_c30 rfl _ _ (w.heap.size + 1) (.int .i64 3) (.int .i64 i) rfl (blk_put2 st2.br _ _)) rfl (FaultPost.mk_ HB.out ?_)
            exact (st2.bel.setCell (by simp) _).setCell (by simp) _
          · rw [if_neg hd] at hc
            have hd2 : Rf.dgOk (Rf.it s i).tgt = true := by simpa using hd
            rw [hd2] at HD
            clear hd hd2
            have HCL := Lib.hid (fun (w1 : World) (hb : Below w2.heap.size w2 w1) => by
              have := clash_any w1 (some ⟨b, off, none⟩) k (s.take i) (Rf.it s i).name (by
                have hh := (HV.out.keep (free_below (st2.bel.trans (hb.mono st2.bel.size)))).take (i * 2)
                rw [← Fl.take rC_len] at hh; exact hh) (by simp; omega) (fun y hy => by
                obtain ⟨j, hj, rfl⟩ := List.mem_iff_getElem.1 hy
                simp at hj
                have := HLN.out j (by omega)
                rw [← Rf.it_eq s j (by omega)] at this
                simpa using this) hx60
              rw [List.length_take, Nat.min_eq_left hi] at this
              exact this)
            have HT := Lib.hid (show ∀ j, j < s.length → ∃ b' off', some (⟨b, off, none⟩ : Addr) = some ⟨b', off', none⟩ ∧ w2.cell? ⟨b', off' + j * 2, none⟩ = some (strV (Rf.it s j).name) from fun j hj => by
              obtain ⟨b', off', e', _, _, h1, _⟩ := rsV_row (HV.out.keep (free_below st2.bel)) j hj
              exact ⟨b', off', e', h1⟩)
            clear HLN hx60
            by_cases hi0 : i = 0
            · obtain rfl := hi0
              have hcl : (s.take 0).any (fun r => Rf.conf r.name (Rf.it s 0).name) = false := by simp
              rw [if_neg (by rintro ⟨h, _⟩; omega), if_neg (by rw [hcl]; simp)] at hc
              have HJ := Lib.hid (HNX.out hc)
              rw [hcl] at HCL
              clear hc hcl HBAD HNX
              have hz1 : decide ((0 : Int) < ((0 : Nat) : Int)) = false := by simp
              generalize Rf.it s 0 = x at *
              have c0 : w2.cell? ⟨w.heap.size, 0, none⟩ = some (.slice (some ⟨b, off, none⟩) s.length k) := (st2.bx.cell 0).trans rfl
              have c1 : w2.cell? ⟨w.heap.size + 1, 0, none⟩ = some (.int .i64 0) := (st2.br.cell 0).trans rfl
              have c2 : w2.cell? ⟨w.heap.size + 1, 1, none⟩ = some (.int .i64 0) := (st2.br.cell 1).trans rfl
              have f1 := st2.br.frozen 0
              have f2 := st2.br.frozen 1
              have c3 : w2.cell? ⟨wr.heap.size, 0, none⟩ = some (strV x.name) := (rb.cell 0).trans rfl
              have c4 : w2.cell? ⟨wr.heap.size, 1, none⟩ = some (.int .i64 x.tgt) := (rb.cell 1).trans rfl
              have l0 := st2.bx.lt
              have l1 := st2.br.lt
              have l2 := rb.lt
              go_wp2_with fail
              go_at_call 50
              refine HD.out.mono ?_
              rintro e w3 ⟨rfl, rfl⟩
              go_wp2_with fail
              go_quiet (fail)
              have hq : Below w3.heap.size w3 (w3.drewN nq) := below_drewN' (Below.refl _ _) nq
              have st3 := st2.below hq
              have rb3 := rb.below hq rb.lt
              generalize hw3 : w3.drewN nq = w5 at *
              clear hw3
              clear c0 c1 c2 c3 c4 f1 f2 l0 l1 l2 HT HD st2 rb
              have c0 : w5.cell? ⟨w.heap.size, 0, none⟩ = some (.slice (some ⟨b, off, none⟩) s.length k) := (st3.bx.cell 0).trans rfl
              have c1 : w5.cell? ⟨w.heap.size + 1, 0, none⟩ = some (.int .i64 0) := (st3.br.cell 0).trans rfl
              have c2 : w5.cell? ⟨w.heap.size + 1, 1, none⟩ = some (.int .i64 0) := (st3.br.cell 1).trans rfl
              have f1 := st3.br.frozen 0
              have f2 := st3.br.frozen 1
              have c3 : w5.cell? ⟨wr.heap.size, 0, none⟩ = some (strV x.name) := (rb3.cell 0).trans rfl
              have c4 : w5.cell? ⟨wr.heap.size, 1, none⟩ = some (.int .i64 x.tgt) := (rb3.cell 1).trans rfl
              have l0 := st3.bx.lt
              have l1 := st3.br.lt
              have l2 := rb3.lt
              go_wp2_with fail
              have hk0 : Below w5.heap.size w5 w5.drew := below_drew' (Below.refl _ _)
              have HK : Hid (∀ w6 : World, Below w5.heap.size w5 w6 → w6.cell? ⟨w.heap.size, 0, none⟩ = some (.slice (some ⟨b, off, none⟩) s.length k) ∧ w6.cell? ⟨wr.heap.size, 0, none⟩ = some (strV x.name)) := Lib.hid fun w6 h6 => ⟨(h6.cell (p := ⟨_, _, none⟩) l0).trans c0, (h6.cell (p := ⟨_, _, none⟩) l2).trans c3⟩
              go_region_held3 (fun w6 => w6.cell? ⟨w.heap.size, 0, none⟩ = some (.slice (some ⟨b, off, none⟩) s.length k) ∧ w6.cell? ⟨wr.heap.size, 0, none⟩ = some (strV x.name))
                (first | exact HK.out _ hk0 | exact HK.out _ hk1)
                (first | (go_at_call 51; (with_reducible refine (HCL.out _ (hq.trans (hk0.mono hq.size))).mono ?_); rintro e w4 ⟨rfl, hv⟩; have hk1 : Below w5.heap.size w5 w4 := hk0.trans (hv.mono hk0.size)))
              have st4 := st3.below hk1
              clear c0 c1 c2 c3 c4 f1 f2 l0 l1 l2 HK
              have e0 : w4.cell? ⟨w.heap.size + 1, 0, none⟩ = some (.int .i64 0) := (st4.br.cell 0).trans rfl
              have e1 : w4.cell? ⟨w.heap.size + 1, 1, none⟩ = some (.int .i64 0) := (st4.br.cell 1).trans rfl
              have g1 := st4.br.frozen 0
              have g2 := st4.br.frozen 1
              have m1 := st4.br.lt
              go_wp2_with fail
              go_roundw
              case rel => exact ⟨0 + 1, by omega, by go_num, Lib.hid ⟨HJ.out, HLN2.out⟩, st4⟩
              case measure => simp [intOf]; omega
            · have hz1 : decide ((0 : Int) < (i : Int)) = true := by simp; omega
              have hz2 : decide (0 < i) = true := by simp; omega
              have hz5 : (i : Int) ≤ k := by omega
              have hz3 : (0 : Int) ≤ (i : Int) - 1 := by omega
              have hz4 : (i : Int) - 1 < s.length := by omega
              obtain ⟨b', off', e', hp⟩ := HT.out (i - 1) (by omega)
              cases e'
              by_cases hle : (Rf.it s (i - 1)).name < (Rf.it s i).name
              · rw [if_neg (by rintro ⟨_, h⟩; exact h hle)] at hc
                have hcmp := leq_false hle
                by_cases hcl : (s.take i).any (fun r => Rf.conf r.name (Rf.it s i).name) = true
                · rw [if_pos hcl] at hc
                  have HB := Lib.hid (show r = (19, (i : Int)) from by rw [HBAD.out (by rw [hc]; decide), hc])
                  rw [hcl] at HCL
                  clear hc hcl HBAD HNX hle HLN2
                  generalize Rf.it s (i - 1) = y at *
                  generalize Rf.it s i = x at *
                  have c0 : w2.cell? ⟨w.heap.size, 0, none⟩ = some (.slice (some ⟨b, off, none⟩) s.length k) := (st2.bx.cell 0).trans rfl
                  have c1 : w2.cell? ⟨w.heap.size + 1, 0, none⟩ = some (.int .i64 0) := (st2.br.cell 0).trans rfl
                  have c2 : w2.cell? ⟨w.heap.size + 1, 1, none⟩ = some (.int .i64 0) := (st2.br.cell 1).trans rfl
                  have f1 := st2.br.frozen 0
                  have f2 := st2.br.frozen 1
                  have c3 : w2.cell? ⟨wr.heap.size, 0, none⟩ = some (strV x.name) := (rb.cell 0).trans rfl
                  have c4 : w2.cell? ⟨wr.heap.size, 1, none⟩ = some (.int .i64 x.tgt) := (rb.cell 1).trans rfl
                  have l0 := st2.bx.lt
                  have l1 := st2.br.lt
                  have l2 := rb.lt
                  go_wp2_with fail
                  go_at_call 50
                  refine HD.out.mono ?_
                  rintro e w3 ⟨rfl, rfl⟩
                  go_wp2_with fail
                  go_quiet (fail)
                  have hq : Below w3.heap.size w3 (w3.drewN nq) := below_drewN' (Below.refl _ _) nq
                  have st3 := st2.below hq
                  have rb3 := rb.below hq rb.lt
                  generalize hw3 : w3.drewN nq = w5 at *
                  clear hw3
                  clear c0 c1 c2 c3 c4 f1 f2 l0 l1 l2 HT HD st2 rb
                  have c0 : w5.cell? ⟨w.heap.size, 0, none⟩ = some (.slice (some ⟨b, off, none⟩) s.length k) := (st3.bx.cell 0).trans rfl
                  have c1 : w5.cell? ⟨w.heap.size + 1, 0, none⟩ = some (.int .i64 0) := (st3.br.cell 0).trans rfl
                  have c2 : w5.cell? ⟨w.heap.size + 1, 1, none⟩ = some (.int .i64 0) := (st3.br.cell 1).trans rfl
                  have f1 := st3.br.frozen 0
                  have f2 := st3.br.frozen 1
                  have c3 : w5.cell? ⟨wr.heap.size, 0, none⟩ = some (strV x.name) := (rb3.cell 0).trans rfl
                  have c4 : w5.cell? ⟨wr.heap.size, 1, none⟩ = some (.int .i64 x.tgt) := (rb3.cell 1).trans rfl
                  have l0 := st3.bx.lt
                  have l1 := st3.br.lt
                  have l2 := rb3.lt
                  go_wp2_with fail
                  have hk0 : Below w5.heap.size w5 w5.drew := below_drew' (Below.refl _ _)
                  have HK : Hid (∀ w6 : World, Below w5.heap.size w5 w6 → w6.cell? ⟨w.heap.size, 0, none⟩ = some (.slice (some ⟨b, off, none⟩) s.length k) ∧ w6.cell? ⟨wr.heap.size, 0, none⟩ = some (strV x.name)) := Lib.hid fun w6 h6 => ⟨(h6.cell (p := ⟨_, _, none⟩) l0).trans c0, (h6.cell (p := ⟨_, _, none⟩) l2).trans c3⟩
                  go_region_held3 (fun w6 => w6.cell? ⟨w.heap.size, 0, none⟩ = some (.slice (some ⟨b, off, none⟩) s.length k) ∧ w6.cell? ⟨wr.heap.size, 0, none⟩ = some (strV x.name))
                    (first | exact HK.out _ hk0 | exact HK.out _ hk1)
                    (first | (go_at_call 51; (with_reducible refine (HCL.out _ (hq.trans (hk0.mono hq.size))).mono ?_); rintro e w4 ⟨rfl, hv⟩; have hk1 : Below w5.heap.size w5 w4 := hk0.trans (hv.mono hk0.size)))
                  have st4 := st3.below hk1
                  clear c0 c1 c2 c3 c4 f1 f2 l0 l1 l2 HK
                  have e0 : w4.cell? ⟨w.heap.size + 1, 0, none⟩ = some (.int .i64 0) := (st4.br.cell 0).trans rfl
                  have e1 : w4.cell? ⟨w.heap.size + 1, 1, none⟩ = some (.int .i64 0) := (st4.br.cell 1).trans rfl
                  have g1 := st4.br.frozen 0
                  have g2 := st4.br.frozen 1
                  have m1 := st4.br.lt
                  go_wp2_with fail
                  refine bodyPost_ret (results_c30 rfl _ _ (w.heap.size + 1) (.int .i64 19) (.int .i64 i) rfl (blk_put2 st4.br _ _)) rfl (FaultPost.mk_ HB.out ?_)
                  exact (st4.bel.setCell (by simp) _).setCell (by simp) _
                · rw [if_neg hcl] at hc
                  have HJ := Lib.hid (HNX.out hc)
                  rw [show (s.take i).any (fun r => Rf.conf r.name (Rf.it s i).name) = false by simpa using hcl] at HCL
                  clear hc hcl HBAD HNX hle
                  generalize Rf.it s (i - 1) = y at *
                  generalize Rf.it s i = x at *
                  have c0 : w2.cell? ⟨w.heap.size, 0, none⟩ = some (.slice (some ⟨b, off, none⟩) s.length k) := (st2.bx.cell 0).trans rfl
                  have c1 : w2.cell? ⟨w.heap.size + 1, 0, none⟩ = some (.int .i64 0) := (st2.br.cell 0).trans rfl
                  have c2 : w2.cell? ⟨w.heap.size + 1, 1, none⟩ = some (.int .i64 0) := (st2.br.cell 1).trans rfl
                  have f1 := st2.br.frozen 0
                  have f2 := st2.br.frozen 1
                  have c3 : w2.cell? ⟨wr.heap.size, 0, none⟩ = some (strV x.name) := (rb.cell 0).trans rfl
                  have c4 : w2.cell? ⟨wr.heap.size, 1, none⟩ = some (.int .i64 x.tgt) := (rb.cell 1).trans rfl
                  have l0 := st2.bx.lt
                  have l1 := st2.br.lt
                  have l2 := rb.lt
                  go_wp2_with fail
                  go_at_call 50
                  refine HD.out.mono ?_
                  rintro e w3 ⟨rfl, rfl⟩
                  go_wp2_with fail
                  go_quiet (fail)
                  have hq : Below w3.heap.size w3 (w3.drewN nq) := below_drewN' (Below.refl _ _) nq
                  have st3 := st2.below hq
                  have rb3 := rb.below hq rb.lt
                  generalize hw3 : w3.drewN nq = w5 at *
                  clear hw3
                  clear c0 c1 c2 c3 c4 f1 f2 l0 l1 l2 HT HD st2 rb
                  have c0 : w5.cell? ⟨w.heap.size, 0, none⟩ = some (.slice (some ⟨b, off, none⟩) s.length k) := (st3.bx.cell 0).trans rfl
                  have c1 : w5.cell? ⟨w.heap.size + 1, 0, none⟩ = some (.int .i64 0) := (st3.br.cell 0).trans rfl
                  have c2 : w5.cell? ⟨w.heap.size + 1, 1, none⟩ = some (.int .i64 0) := (st3.br.cell 1).trans rfl
                  have f1 := st3.br.frozen 0
                  have f2 := st3.br.frozen 1
                  have c3 : w5.cell? ⟨wr.heap.size, 0, none⟩ = some (strV x.name) := (rb3.cell 0).trans rfl
                  have c4 : w5.cell? ⟨wr.heap.size, 1, none⟩ = some (.int .i64 x.tgt) := (rb3.cell 1).trans rfl
                  have l0 := st3.bx.lt
                  have l1 := st3.br.lt
                  have l2 := rb3.lt
                  go_wp2_with fail
                  have hk0 : Below w5.heap.size w5 w5.drew := below_drew' (Below.refl _ _)
                  have HK : Hid (∀ w6 : World, Below w5.heap.size w5 w6 → w6.cell? ⟨w.heap.size, 0, none⟩ = some (.slice (some ⟨b, off, none⟩) s.length k) ∧ w6.cell? ⟨wr.heap.size, 0, none⟩ = some (strV x.name)) := Lib.hid fun w6 h6 => ⟨(h6.cell (p := ⟨_, _, none⟩) l0).trans c0, (h6.cell (p := ⟨_, _, none⟩) l2).trans c3⟩
                  go_region_held3 (fun w6 => w6.cell? ⟨w.heap.size, 0, none⟩ = some (.slice (some ⟨b, off, none⟩) s.length k) ∧ w6.cell? ⟨wr.heap.size, 0, none⟩ = some (strV x.name))
                    (first | exact HK.out _ hk0 | exact HK.out _ hk1)
                    (first | (go_at_call 51; (with_reducible refine (HCL.out _ (hq.trans (hk0.mono hq.size))).mono ?_); rintro e w4 ⟨rfl, hv⟩; have hk1 : Below w5.heap.size w5 w4 := hk0.trans (hv.mono hk0.size)))
                  have st4 := st3.below hk1
                  clear c0 c1 c2 c3 c4 f1 f2 l0 l1 l2 HK
                  have e0 : w4.cell? ⟨w.heap.size + 1, 0, none⟩ = some (.int .i64 0) := (st4.br.cell 0).trans rfl
                  have e1 : w4.cell? ⟨w.heap.size + 1, 1, none⟩ = some (.int .i64 0) := (st4.br.cell 1).trans rfl
                  have g1 := st4.br.frozen 0
                  have g2 := st4.br.frozen 1
                  have m1 := st4.br.lt
                  go_wp2_with fail
                  go_roundw
                  case rel => exact ⟨i + 1, by omega, by go_num, Lib.hid ⟨HJ.out, HLN2.out⟩, st4⟩
                  case measure => simp [intOf]; omega
              · rw [if_pos ⟨by omega, hle⟩] at hc
                have HB := Lib.hid (show r = (5, (i : Int)) from by rw [HBAD.out (by rw [hc]; decide), hc])
                have hcmp := leq_true hle
                clear hc HBAD HNX hle HLN2 HCL
                generalize Rf.it s (i - 1) = y at *
                generalize Rf.it s i = x at *
                have c0 : w2.cell? ⟨w.heap.size, 0, none⟩ = some (.slice (some ⟨b, off, none⟩) s.length k) := (st2.bx.cell 0).trans rfl
                have c1 : w2.cell? ⟨w.heap.size + 1, 0, none⟩ = some (.int .i64 0) := (st2.br.cell 0).trans rfl
                have c2 : w2.cell? ⟨w.heap.size + 1, 1, none⟩ = some (.int .i64 0) := (st2.br.cell 1).trans rfl
                have f1 := st2.br.frozen 0
                have f2 := st2.br.frozen 1
                have c3 : w2.cell? ⟨wr.heap.size, 0, none⟩ = some (strV x.name) := (rb.cell 0).trans rfl
                have c4 : w2.cell? ⟨wr.heap.size, 1, none⟩ = some (.int .i64 x.tgt) := (rb.cell 1).trans rfl
                have l0 := st2.bx.lt
                have l1 := st2.br.lt
                have l2 := rb.lt
                go_wp2_with fail
                go_at_call 50
                refine HD.out.mono ?_
                rintro e w3 ⟨rfl, rfl⟩
                go_wp2_with fail
                go_quiet (fail)
                have hq : Below w3.heap.size w3 (w3.drewN nq) := below_drewN' (Below.refl _ _) nq
                have st3 := st2.below hq
                go_wp2_with fail
                refine bodyPost_ret (results_c30 rfl _ _ (w.heap.size + 1) (.int .i64 5) (.int .i64 i) rfl (blk_put2 st3.br _ _)) rfl (FaultPost.mk_ HB.out ?_)
                exact (st3.bel.setCell (by simp) _).setCell (by simp) _
      · obtain rfl : i = s.length := by omega
        have c1 : wr.cell? ⟨w.heap.size + 1, 0, none⟩ = some (.int .i64 0) := (st.br.cell 0).trans rfl
        have c2 : wr.cell? ⟨w.heap.size + 1, 1, none⟩ = some (.int .i64 0) := (st.br.cell 1).trans rfl
        have f1 := st.br.frozen 0
        have f2 := st.br.frozen 1
        have l1 := st.br.lt
        have HB := Lib.hid (show r = (0, 0) from by rw [HR.out.1, Rf.rfFrom_end s _ (Nat.le_refl _)])
        go_wp2_with fail
        refine bodyPost_ret (results_c30 rfl _ _ (w.heap.size + 1) (.int .i64 0) (.int .i64 0) rfl (blk_put2 st.br _ _)) rfl (FaultPost.mk_ HB.out ?_)
        exact (st.bel.setCell (by simp) _).setCell (by simp) _
end Go.Proofs.YtfbbgnhelannjaaDoor
