/-
  References: small walks; walk of 'Validate'.
  Objects: walk of 'CopyObject'.
  Objects: walk of 'Copy'.
  Views, fifteenth part: 'copy' into a block that is known whole; 'append(s[:i], make(S, k)...)' that grows.
-/
import Derived.Test.YtipjejnncnndeaaGreatDoorG07
import Derived.Test.YtipjejnncnndeaaGreatDoorG04
import Derived.Test.YtipjejnncnndeaaGreatDoorG03
import Derived.Test.YtipjejnncnndeaaGreatDoorG06
import Derived.Test.YtipjejnncnndeaaGreatDoorG01
import Derived.Laws.CopyRow
import Derived.Laws.Externs
import Derived.Lib.Overlaps
import Derived.Lib.AppendZerosOnto
namespace Go.Proofs.YtipjejnncnndeaaGreatDoor.RF
open Go.RowKit Go.V Go.Shelf Go.Lib
set_option linter.unusedVariables false

theorem results_c30 {fn : Func} {a : Tmp} (h : fn.results = #[.cell a 33]) (tmps : Array Value) (w : World) (g : Nat) (x y : Value) (ha : tmps.getD a undef = .pointer (some ⟨g, 0, none⟩)) (hb : Blk w g 33 #[x, y]) :
    (results fn tmps).run Tryz.prog w = .ok (.agg #[x, y]) w := by
  have h0 := hb.cell 0
  have h1 := hb.cell 1
  simp only [List.getElem?_toArray, List.getElem?_cons_zero, List.getElem?_cons_succ] at h0 h1
  have ha' : tmps[a]?.getD undef = .pointer (some ⟨g, 0, none⟩) := by simpa using ha
  simp [results, h, go_sem, ha', h0, h1]
theorem isDigest50_any (w : World) (n : Int) : Calls Tryz.prog 27 #[.int .i64 n] w fun e w' => e = .returned (.bool (Rf.dgOk n)) ∧ w' = w := by
  by_cases h1 : 0 ≤ n
  · have H : Hid (Rf.dgOk n = decide (n < 2305843009213693951)) := Lib.hid (by unfold Rf.dgOk; rw [decide_eq_true h1]; rfl)
    have h1' : decide (0 ≤ n) = true := by simpa using h1
    go_enter Tryz.func27, Tryz.ntmps27
    go_wp2
    go_ret
    exact ⟨by rw [H.out]; rfl, rfl⟩
  · have H : Hid (Rf.dgOk n = false) := Lib.hid (by unfold Rf.dgOk; rw [decide_eq_false h1]; rfl)
    have h1' : decide (0 ≤ n) = false := by simpa using h1
    go_enter Tryz.func27, Tryz.ntmps27
    go_wp2
    go_ret
    exact ⟨by rw [H.out]; rfl, rfl⟩
/-- A fault and nothing that lay has turned. -/
def FaultPost (w : World) (r : Int × Int) (e : Ending) (w' : World) : Prop := e = .returned (.agg #[.int .i64 r.1, .int .i64 r.2]) ∧ Below w.heap.size w w'
theorem FaultPost.mk_ {w w' : World} {r : Int × Int} {a b : Int} (h : r = (a, b)) (hb : Below w.heap.size w w') : FaultPost w r (.returned (.agg #[.int .i64 a, .int .i64 b])) w' := by
  subst h; exact ⟨rfl, hb⟩
theorem less_eq : ∀ a b : List UInt8, Op.bytesLess a b = decide (a < b)
  | a, [] => by cases a <;> simp [Op.bytesLess]
  | [], y :: b => by simp [Op.bytesLess]
  | x :: a, y :: b => by
    rw [Op.bytesLess, less_eq a b, Bool.eq_iff_iff]
    simp [List.cons_lt_cons_iff]
theorem leq_true {a b : List UInt8} (h : ¬ a < b) : (Op.bytesLess b a || b == a) = true := by
  rw [less_eq, Bool.or_eq_true, decide_eq_true_iff, beq_iff_eq]
  rcases Rf.nlt_tri a b with k | k | k
  · exact absurd k h
  · exact .inr k.symm
  · exact .inl k
theorem leq_false {a b : List UInt8} (h : a < b) : (Op.bytesLess b a || b == a) = false := by
  rw [less_eq, Bool.or_eq_false_iff, decide_eq_false_iff_not, beq_eq_false_iff_ne]
  exact ⟨Rf.nlt_asymm h, fun e => Rf.nlt_irrefl a (by rw [e] at h; exact h)⟩
theorem below_drewN' {B : Nat} {a w : World} (h : Below B a w) (n : Nat) : Below B a (w.drewN n) := Go.V.below_drewN h n
/-- The box of the argument and the cell of the result. -/
structure VaSt (w wr : World) (A : Option Addr) (n k : Nat) : Prop where
  bx : Blk wr w.heap.size 27 #[.slice A n k]
  br : Blk wr (w.heap.size + 1) 33 #[.int .i64 0, .int .i64 0]
  bel : Below w.heap.size w wr
theorem VaSt.below {w wr w' : World} {A : Option Addr} {n k : Nat} (h : VaSt w wr A n k) (hb : Below wr.heap.size wr w') : VaSt w w' A n k :=
  ⟨h.bx.below hb h.bx.lt, h.br.below hb h.br.lt, h.bel.trans (hb.mono h.bel.size)⟩
theorem blk_put2' {w : World} {g : Nat} {t : TypeId} {a b : Value} (h : Blk w g t #[a, b]) (x y : Value) : Blk ((w.setCell ⟨g, 0, none⟩ x).setCell ⟨g, 1, none⟩ y) g t #[x, y] := blk_put2 h x y
set_option maxRecDepth 100000 in
set_option maxHeartbeats 8000000 in
theorem validate_any (w : World) (hm : Mx w) (A : Option Addr) (k : Nat) (s : List Rf.R) (hv : SA w Free A (rsV s)) (hl : s.length ≤ 9223372036854775807) (hk : s.length ≤ k) :
    Calls Tryz.prog 15 #[.agg #[.slice A s.length k]] w (FaultPost w (Rf.rfF s)) := by
  have HV := Lib.hid hv
  have HM := Lib.hid hm
  have hF := Rf.rfF.eq_1 s
  generalize Rf.rfF s = r at *
  have st0 : VaSt w ((w.alloc (.cells #[.slice A s.length k] 27)).alloc (.cells #[.int .i64 0, .int .i64 0] 33)) A s.length k :=
    ⟨(Blk.new _ _ _).alloc _, by simpa using Blk.new (w.alloc (.cells #[.slice A s.length k] 27)) 33 #[.int .i64 0, .int .i64 0], below_alloc2 _ _ _⟩
  clear hv hm
  by_cases h30 : 30 < s.length
  · have H := Lib.hid (hF.trans (if_pos h30))
    have h30' : (30 : Int) < s.length := by omega
    clear hF h30
    go_enter Tryz.func15, Tryz.ntmps15
    go_wp2_with fail
    refine bodyPost_ret (results_c30 rfl _ _ (w.heap.size + 1) (.int .i64 2) (.int .i64 (-1)) rfl (by simpa using Blk.new (w.alloc (.cells #[.slice A s.length k] 27)) 33 #[.int .i64 2, .int .i64 (-1)])) rfl ?_
    exact FaultPost.mk_ H.out (below_alloc2 _ _ _)
  · have H := Lib.hid (hF.trans (if_neg h30))
    have h30' : ¬ (30 : Int) < s.length := by omega
    clear hF h30
    go_enter Tryz.func15, Tryz.ntmps15
    go_wp2_with fail
    go_loopw [14] (fun iv wr => ∃ i : Nat, i ≤ s.length ∧ iv = .int .i64 i ∧ Hid (r = Rf.rfFrom s i ∧ ∀ j, j < i → (Rf.it s j).name.length ≤ 60) ∧ VaSt w wr A s.length k) (fun iv _ => s.length - (intOf iv).toNat)
    case atStart => exact ⟨0, Nat.zero_le _, rfl, Lib.hid ⟨H.out, fun j hj => by omega⟩, st0⟩
    case round =>
      obtain ⟨i, hi, rfl, HR, st⟩ := hrel
      by_cases hlt : i < s.length
      · have hlt' : (i : Int) < s.length := by omega
        obtain ⟨b, off, e, hb, _, d0, d1⟩ := rsV_row (HV.out.keep (free_below st.bel)) i hlt
        subst e
        have HN := Lib.hid (fun w1 h => name_any w1 ((HM.out.below st.bel).below h) (Rf.it s i).name)
        have hc := Rf.code.eq_1 s i
        have c0 : wr.cell? ⟨w.heap.size, 0, none⟩ = some (.slice (some ⟨b, off, none⟩) s.length k) := (st.bx.cell 0).trans rfl
        have hbl := st.bx.lt
        have HBAD : Hid (Rf.code s i ≠ 0 → r = (Rf.code s i, (i : Int))) := Lib.hid fun h => by rw [HR.out.1, Rf.rfFrom_bad s i hlt h]
        have HNX : Hid (Rf.code s i = 0 → r = Rf.rfFrom s (i + 1)) := Lib.hid fun h => by rw [HR.out.1, Rf.rfFrom_next s i hlt h]
        have HLN := Lib.hid HR.out.2
        have rb0 := Blk.new wr 41 #[strV (Rf.it s i).name, .int .i64 (Rf.it s i).tgt]
        clear HR
        by_cases hn : Rf.nameOk (Rf.it s i).name = false
        · rw [if_pos hn] at hc
          have HB := Lib.hid (show r = (12, (i : Int)) from by rw [HBAD.out (by rw [hc]; decide), hc])
          rw [hn] at HN
          clear hc hn HBAD HNX HLN
          go_wp2_with fail
          go_at_call 26
          refine (HN.out _ (below_alloc1 _ _)).mono ?_
          rintro e w2 ⟨rfl, hb2'⟩
          have hb2 : Below wr.heap.size wr w2 := (below_alloc1 wr (.cells #[strV (Rf.it s i).name, .int .i64 (Rf.it s i).tgt] 41)).trans (hb2'.mono (by simp))
          have rb := rb0.below hb2' rb0.lt
          have st2 := st.below hb2
          clear hb2' HN c0 rb0
          generalize Rf.it s i = x at *
          have c0 : w2.cell? ⟨w.heap.size, 0, none⟩ = some (.slice (some ⟨b, off, none⟩) s.length k) := (st2.bx.cell 0).trans rfl
          have c1 : w2.cell? ⟨w.heap.size + 1, 0, none⟩ = some (.int .i64 0) := (st2.br.cell 0).trans rfl
          have c2 : w2.cell? ⟨w.heap.size + 1, 1, none⟩ = some (.int .i64 0) := (st2.br.cell 1).trans rfl
          have f1 := st2.br.frozen 0
          have f2 := st2.br.frozen 1
          have c3 : w2.cell? ⟨wr.heap.size, 0, none⟩ = some (strV x.name) := (rb.cell 0).trans rfl
          have c4 : w2.cell? ⟨wr.heap.size, 1, none⟩ = some (.int .i64 x.tgt) := (rb.cell 1).trans rfl
          have l0 := st2.bx.lt
          have l1 := st2.br.lt
          have l2 := rb.lt
          go_wp2_with fail
          refine bodyPost_ret (results_c30 rfl _ _ (w.heap.size + 1) (.int .i64 12) (.int .i64 i) rfl (blk_put2 st2.br _ _)) rfl (FaultPost.mk_ HB.out ?_)
          exact (st2.bel.setCell (by simp) _).setCell (by simp) _
        · rw [if_neg hn] at hc
          have hn2 : Rf.nameOk (Rf.it s i).name = true := by simpa using hn
          have hx60 : (Rf.it s i).name.length ≤ 60 := by have := hn2; unfold Rf.nameOk at this; rw [Bool.and_eq_true] at this; simpa using this.1
          have HLN2 := Lib.hid (show ∀ j, j < i + 1 → (Rf.it s j).name.length ≤ 60 from fun j hj => by
            by_cases e : j = i
            · rw [e]; exact hx60
            · exact HLN.out j (by omega))
          rw [hn2] at HN
          clear hn hn2
          go_wp2_with fail
          go_at_call 26
          refine (HN.out _ (below_alloc1 _ _)).mono ?_
          rintro e w2 ⟨rfl, hb2'⟩
          have hb2 : Below wr.heap.size wr w2 := (below_alloc1 wr (.cells #[strV (Rf.it s i).name, .int .i64 (Rf.it s i).tgt] 41)).trans (hb2'.mono (by simp))
          have rb := rb0.below hb2' rb0.lt
          have st2 := st.below hb2
          clear hb2' HN c0 rb0
          have HD := Lib.hid (isDigest50_any w2 (Rf.it s i).tgt)
          by_cases hd : Rf.dgOk (Rf.it s i).tgt = false
          · rw [if_pos hd] at hc
            have HB := Lib.hid (show r = (3, (i : Int)) from by rw [HBAD.out (by rw [hc]; decide), hc])
            rw [hd] at HD
            clear hc hd HBAD HNX HLN HLN2 hx60
            generalize Rf.it s i = x at *
            have c0 : w2.cell? ⟨w.heap.size, 0, none⟩ = some (.slice (some ⟨b, off, none⟩) s.length k) := (st2.bx.cell 0).trans rfl
            have c1 : w2.cell? ⟨w.heap.size + 1, 0, none⟩ = some (.int .i64 0) := (st2.br.cell 0).trans rfl
            have c2 : w2.cell? ⟨w.heap.size + 1, 1, none⟩ = some (.int .i64 0) := (st2.br.cell 1).trans rfl
            have f1 := st2.br.frozen 0
            have f2 := st2.br.frozen 1
            have c3 : w2.cell? ⟨wr.heap.size, 0, none⟩ = some (strV x.name) := (rb.cell 0).trans rfl
            have c4 : w2.cell? ⟨wr.heap.size, 1, none⟩ = some (.int .i64 x.tgt) := (rb.cell 1).trans rfl
            have l0 := st2.bx.lt
            have l1 := st2.br.lt
            have l2 := rb.lt
            go_wp2_with fail
            go_at_call 27
            refine HD.out.mono ?_
            rintro e w3 ⟨rfl, rfl⟩
            go_wp2_with fail
            refine bodyPost_ret (results_c30 rfl _ _ (w.heap.size + 1) (.int .i64 3) (.int .i64 i) rfl (blk_put2 st2.br _ _)) rfl (FaultPost.mk_ HB.out ?_)
            exact (st2.bel.setCell (by simp) _).setCell (by simp) _
          · rw [if_neg hd] at hc
            have hd2 : Rf.dgOk (Rf.it s i).tgt = true := by simpa using hd
            rw [hd2] at HD
            clear hd hd2
            have HCL := Lib.hid (fun (w1 : World) (hb : Below w2.heap.size w2 w1) => by
              have := clash_any w1 (some ⟨b, off, none⟩) k (s.take i) (Rf.it s i).name (by
                have hh := (HV.out.keep (free_below (st2.bel.trans (hb.mono st2.bel.size)))).take (i * 2)
                rw [← Fl.take rC_len] at hh; exact hh) (by simp; omega) (fun y hy => by
                obtain ⟨j, hj, rfl⟩ := List.mem_iff_getElem.1 hy
                simp at hj
                have := HLN.out j (by omega)
                rw [← Rf.it_eq s j (by omega)] at this
                simpa using this) hx60
              rw [List.length_take, Nat.min_eq_left hi] at this
              exact this)
            have HT := Lib.hid (show ∀ j, j < s.length → ∃ b' off', some (⟨b, off, none⟩ : Addr) = some ⟨b', off', none⟩ ∧ w2.cell? ⟨b', off' + j * 2, none⟩ = some (strV (Rf.it s j).name) from fun j hj => by
              obtain ⟨b', off', e', _, _, h1, _⟩ := rsV_row (HV.out.keep (free_below st2.bel)) j hj
              exact ⟨b', off', e', h1⟩)
            clear HLN hx60
            by_cases hi0 : i = 0
            · obtain rfl := hi0
              have hcl : (s.take 0).any (fun r => Rf.conf r.name (Rf.it s 0).name) = false := by simp
              rw [if_neg (by rintro ⟨h, _⟩; omega), if_neg (by rw [hcl]; simp)] at hc
              have HJ := Lib.hid (HNX.out hc)
              rw [hcl] at HCL
              clear hc hcl HBAD HNX
              have hz1 : decide ((0 : Int) < ((0 : Nat) : Int)) = false := by simp
              generalize Rf.it s 0 = x at *
              have c0 : w2.cell? ⟨w.heap.size, 0, none⟩ = some (.slice (some ⟨b, off, none⟩) s.length k) := (st2.bx.cell 0).trans rfl
              have c1 : w2.cell? ⟨w.heap.size + 1, 0, none⟩ = some (.int .i64 0) := (st2.br.cell 0).trans rfl
              have c2 : w2.cell? ⟨w.heap.size + 1, 1, none⟩ = some (.int .i64 0) := (st2.br.cell 1).trans rfl
              have f1 := st2.br.frozen 0
              have f2 := st2.br.frozen 1
              have c3 : w2.cell? ⟨wr.heap.size, 0, none⟩ = some (strV x.name) := (rb.cell 0).trans rfl
              have c4 : w2.cell? ⟨wr.heap.size, 1, none⟩ = some (.int .i64 x.tgt) := (rb.cell 1).trans rfl
              have l0 := st2.bx.lt
              have l1 := st2.br.lt
              have l2 := rb.lt
              go_wp2_with fail
              go_at_call 27
              refine HD.out.mono ?_
              rintro e w3 ⟨rfl, rfl⟩
              go_wp2_with fail
              go_quiet (fail)
              have hq : Below w3.heap.size w3 (w3.drewN nq) := below_drewN' (Below.refl _ _) nq
              have st3 := st2.below hq
              have rb3 := rb.below hq rb.lt
              generalize hw3 : w3.drewN nq = w5 at *
              clear hw3
              clear c0 c1 c2 c3 c4 f1 f2 l0 l1 l2 HT HD st2 rb
              have c0 : w5.cell? ⟨w.heap.size, 0, none⟩ = some (.slice (some ⟨b, off, none⟩) s.length k) := (st3.bx.cell 0).trans rfl
              have c1 : w5.cell? ⟨w.heap.size + 1, 0, none⟩ = some (.int .i64 0) := (st3.br.cell 0).trans rfl
              have c2 : w5.cell? ⟨w.heap.size + 1, 1, none⟩ = some (.int .i64 0) := (st3.br.cell 1).trans rfl
              have f1 := st3.br.frozen 0
              have f2 := st3.br.frozen 1
              have c3 : w5.cell? ⟨wr.heap.size, 0, none⟩ = some (strV x.name) := (rb3.cell 0).trans rfl
              have c4 : w5.cell? ⟨wr.heap.size, 1, none⟩ = some (.int .i64 x.tgt) := (rb3.cell 1).trans rfl
              have l0 := st3.bx.lt
              have l1 := st3.br.lt
              have l2 := rb3.lt
              go_wp2_with fail
              have hk0 : Below w5.heap.size w5 w5.drew := below_drew' (Below.refl _ _)
              have HK : Hid (∀ w6 : World, Below w5.heap.size w5 w6 → w6.cell? ⟨w.heap.size, 0, none⟩ = some (.slice (some ⟨b, off, none⟩) s.length k) ∧ w6.cell? ⟨wr.heap.size, 0, none⟩ = some (strV x.name)) := Lib.hid fun w6 h6 => ⟨(h6.cell (p := ⟨_, _, none⟩) l0).trans c0, (h6.cell (p := ⟨_, _, none⟩) l2).trans c3⟩
              go_region_held3 (fun w6 => w6.cell? ⟨w.heap.size, 0, none⟩ = some (.slice (some ⟨b, off, none⟩) s.length k) ∧ w6.cell? ⟨wr.heap.size, 0, none⟩ = some (strV x.name))
                (first | exact HK.out _ hk0 | exact HK.out _ hk1)
                (first | (go_at_call 28; (with_reducible refine (HCL.out _ (hq.trans (hk0.mono hq.size))).mono ?_); rintro e w4 ⟨rfl, hv⟩; have hk1 : Below w5.heap.size w5 w4 := hk0.trans (hv.mono hk0.size)))
              have st4 := st3.below hk1
              clear c0 c1 c2 c3 c4 f1 f2 l0 l1 l2 HK
              have e0 : w4.cell? ⟨w.heap.size + 1, 0, none⟩ = some (.int .i64 0) := (st4.br.cell 0).trans rfl
              have e1 : w4.cell? ⟨w.heap.size + 1, 1, none⟩ = some (.int .i64 0) := (st4.br.cell 1).trans rfl
              have g1 := st4.br.frozen 0
              have g2 := st4.br.frozen 1
              have m1 := st4.br.lt
              go_wp2_with fail
              go_roundw
              case rel => exact ⟨0 + 1, by omega, by go_num, Lib.hid ⟨HJ.out, HLN2.out⟩, st4⟩
              case measure => simp [intOf]; omega
            · have hz1 : decide ((0 : Int) < (i : Int)) = true := by simp; omega
              have hz2 : decide (0 < i) = true := by simp; omega
              have hz5 : (i : Int) ≤ k := by omega
              have hz3 : (0 : Int) ≤ (i : Int) - 1 := by omega
              have hz4 : (i : Int) - 1 < s.length := by omega
              obtain ⟨b', off', e', hp⟩ := HT.out (i - 1) (by omega)
              cases e'
              by_cases hle : (Rf.it s (i - 1)).name < (Rf.it s i).name
              · rw [if_neg (by rintro ⟨_, h⟩; exact h hle)] at hc
                have hcmp := leq_false hle
                by_cases hcl : (s.take i).any (fun r => Rf.conf r.name (Rf.it s i).name) = true
                · rw [if_pos hcl] at hc
                  have HB := Lib.hid (show r = (19, (i : Int)) from by rw [HBAD.out (by rw [hc]; decide), hc])
                  rw [hcl] at HCL
                  clear hc hcl HBAD HNX hle HLN2
                  generalize Rf.it s (i - 1) = y at *
                  generalize Rf.it s i = x at *
                  have c0 : w2.cell? ⟨w.heap.size, 0, none⟩ = some (.slice (some ⟨b, off, none⟩) s.length k) := (st2.bx.cell 0).trans rfl
                  have c1 : w2.cell? ⟨w.heap.size + 1, 0, none⟩ = some (.int .i64 0) := (st2.br.cell 0).trans rfl
                  have c2 : w2.cell? ⟨w.heap.size + 1, 1, none⟩ = some (.int .i64 0) := (st2.br.cell 1).trans rfl
                  have f1 := st2.br.frozen 0
                  have f2 := st2.br.frozen 1
                  have c3 : w2.cell? ⟨wr.heap.size, 0, none⟩ = some (strV x.name) := (rb.cell 0).trans rfl
                  have c4 : w2.cell? ⟨wr.heap.size, 1, none⟩ = some (.int .i64 x.tgt) := (rb.cell 1).trans rfl
                  have l0 := st2.bx.lt
                  have l1 := st2.br.lt
                  have l2 := rb.lt
                  go_wp2_with fail
                  go_at_call 27
                  refine HD.out.mono ?_
                  rintro e w3 ⟨rfl, rfl⟩
                  go_wp2_with fail
                  go_quiet (fail)
                  have hq : Below w3.heap.size w3 (w3.drewN nq) := below_drewN' (Below.refl _ _) nq
                  have st3 := st2.below hq
                  have rb3 := rb.below hq rb.lt
                  generalize hw3 : w3.drewN nq = w5 at *
                  clear hw3
                  clear c0 c1 c2 c3 c4 f1 f2 l0 l1 l2 HT HD st2 rb
                  have c0 : w5.cell? ⟨w.heap.size, 0, none⟩ = some (.slice (some ⟨b, off, none⟩) s.length k) := (st3.bx.cell 0).trans rfl
                  have c1 : w5.cell? ⟨w.heap.size + 1, 0, none⟩ = some (.int .i64 0) := (st3.br.cell 0).trans rfl
                  have c2 : w5.cell? ⟨w.heap.size + 1, 1, none⟩ = some (.int .i64 0) := (st3.br.cell 1).trans rfl
                  have f1 := st3.br.frozen 0
                  have f2 := st3.br.frozen 1
                  have c3 : w5.cell? ⟨wr.heap.size, 0, none⟩ = some (strV x.name) := (rb3.cell 0).trans rfl
                  have c4 : w5.cell? ⟨wr.heap.size, 1, none⟩ = some (.int .i64 x.tgt) := (rb3.cell 1).trans rfl
                  have l0 := st3.bx.lt
                  have l1 := st3.br.lt
                  have l2 := rb3.lt
                  go_wp2_with fail
                  have hk0 : Below w5.heap.size w5 w5.drew := below_drew' (Below.refl _ _)
                  have HK : Hid (∀ w6 : World, Below w5.heap.size w5 w6 → w6.cell? ⟨w.heap.size, 0, none⟩ = some (.slice (some ⟨b, off, none⟩) s.length k) ∧ w6.cell? ⟨wr.heap.size, 0, none⟩ = some (strV x.name)) := Lib.hid fun w6 h6 => ⟨(h6.cell (p := ⟨_, _, none⟩) l0).trans c0, (h6.cell (p := ⟨_, _, none⟩) l2).trans c3⟩
                  go_region_held3 (fun w6 => w6.cell? ⟨w.heap.size, 0, none⟩ = some (.slice (some ⟨b, off, none⟩) s.length k) ∧ w6.cell? ⟨wr.heap.size, 0, none⟩ = some (strV x.name))
                    (first | exact HK.out _ hk0 | exact HK.out _ hk1)
                    (first | (go_at_call 28; (with_reducible refine (HCL.out _ (hq.trans (hk0.mono hq.size))).mono ?_); rintro e w4 ⟨rfl, hv⟩; have hk1 : Below w5.heap.size w5 w4 := hk0.trans (hv.mono hk0.size)))
                  have st4 := st3.below hk1
                  clear c0 c1 c2 c3 c4 f1 f2 l0 l1 l2 HK
                  have e0 : w4.cell? ⟨w.heap.size + 1, 0, none⟩ = some (.int .i64 0) := (st4.br.cell 0).trans rfl
                  have e1 : w4.cell? ⟨w.heap.size + 1, 1, none⟩ = some (.int .i64 0) := (st4.br.cell 1).trans rfl
                  have g1 := st4.br.frozen 0
                  have g2 := st4.br.frozen 1
                  have m1 := st4.br.lt
                  go_wp2_with fail
                  refine bodyPost_ret (results_c30 rfl _ _ (w.heap.size + 1) (.int .i64 19) (.int .i64 i) rfl (blk_put2 st4.br _ _)) rfl (FaultPost.mk_ HB.out ?_)
                  exact (st4.bel.setCell (by simp) _).setCell (by simp) _
                · rw [if_neg hcl] at hc
                  have HJ := Lib.hid (HNX.out hc)
                  rw [show (s.take i).any (fun r => Rf.conf r.name (Rf.it s i).name) = false by simpa using hcl] at HCL
                  clear hc hcl HBAD HNX hle
                  generalize Rf.it s (i - 1) = y at *
                  generalize Rf.it s i = x at *
                  have c0 : w2.cell? ⟨w.heap.size, 0, none⟩ = some (.slice (some ⟨b, off, none⟩) s.length k) := (st2.bx.cell 0).trans rfl
                  have c1 : w2.cell? ⟨w.heap.size + 1, 0, none⟩ = some (.int .i64 0) := (st2.br.cell 0).trans rfl
                  have c2 : w2.cell? ⟨w.heap.size + 1, 1, none⟩ = some (.int .i64 0) := (st2.br.cell 1).trans rfl
                  have f1 := st2.br.frozen 0
                  have f2 := st2.br.frozen 1
                  have c3 : w2.cell? ⟨wr.heap.size, 0, none⟩ = some (strV x.name) := (rb.cell 0).trans rfl
                  have c4 : w2.cell? ⟨wr.heap.size, 1, none⟩ = some (.int .i64 x.tgt) := (rb.cell 1).trans rfl
                  have l0 := st2.bx.lt
                  have l1 := st2.br.lt
                  have l2 := rb.lt
                  go_wp2_with fail
                  go_at_call 27
                  refine HD.out.mono ?_
                  rintro e w3 ⟨rfl, rfl⟩
                  go_wp2_with fail
                  go_quiet (fail)
                  have hq : Below w3.heap.size w3 (w3.drewN nq) := below_drewN' (Below.refl _ _) nq
                  have st3 := st2.below hq
                  have rb3 := rb.below hq rb.lt
                  generalize hw3 : w3.drewN nq = w5 at *
                  clear hw3
                  clear c0 c1 c2 c3 c4 f1 f2 l0 l1 l2 HT HD st2 rb
                  have c0 : w5.cell? ⟨w.heap.size, 0, none⟩ = some (.slice (some ⟨b, off, none⟩) s.length k) := (st3.bx.cell 0).trans rfl
                  have c1 : w5.cell? ⟨w.heap.size + 1, 0, none⟩ = some (.int .i64 0) := (st3.br.cell 0).trans rfl
                  have c2 : w5.cell? ⟨w.heap.size + 1, 1, none⟩ = some (.int .i64 0) := (st3.br.cell 1).trans rfl
                  have f1 := st3.br.frozen 0
                  have f2 := st3.br.frozen 1
                  have c3 : w5.cell? ⟨wr.heap.size, 0, none⟩ = some (strV x.name) := (rb3.cell 0).trans rfl
                  have c4 : w5.cell? ⟨wr.heap.size, 1, none⟩ = some (.int .i64 x.tgt) := (rb3.cell 1).trans rfl
                  have l0 := st3.bx.lt
                  have l1 := st3.br.lt
                  have l2 := rb3.lt
                  go_wp2_with fail
                  have hk0 : Below w5.heap.size w5 w5.drew := below_drew' (Below.refl _ _)
                  have HK : Hid (∀ w6 : World, Below w5.heap.size w5 w6 → w6.cell? ⟨w.heap.size, 0, none⟩ = some (.slice (some ⟨b, off, none⟩) s.length k) ∧ w6.cell? ⟨wr.heap.size, 0, none⟩ = some (strV x.name)) := Lib.hid fun w6 h6 => ⟨(h6.cell (p := ⟨_, _, none⟩) l0).trans c0, (h6.cell (p := ⟨_, _, none⟩) l2).trans c3⟩
                  go_region_held3 (fun w6 => w6.cell? ⟨w.heap.size, 0, none⟩ = some (.slice (some ⟨b, off, none⟩) s.length k) ∧ w6.cell? ⟨wr.heap.size, 0, none⟩ = some (strV x.name))
                    (first | exact HK.out _ hk0 | exact HK.out _ hk1)
                    (first | (go_at_call 28; (with_reducible refine (HCL.out _ (hq.trans (hk0.mono hq.size))).mono ?_); rintro e w4 ⟨rfl, hv⟩; have hk1 : Below w5.heap.size w5 w4 := hk0.trans (hv.mono hk0.size)))
                  have st4 := st3.below hk1
                  clear c0 c1 c2 c3 c4 f1 f2 l0 l1 l2 HK
                  have e0 : w4.cell? ⟨w.heap.size + 1, 0, none⟩ = some (.int .i64 0) := (st4.br.cell 0).trans rfl
                  have e1 : w4.cell? ⟨w.heap.size + 1, 1, none⟩ = some (.int .i64 0) := (st4.br.cell 1).trans rfl
                  have g1 := st4.br.frozen 0
                  have g2 := st4.br.frozen 1
                  have m1 := st4.br.lt
                  go_wp2_with fail
                  go_roundw
                  case rel => exact ⟨i + 1, by omega, by go_num, Lib.hid ⟨HJ.out, HLN2.out⟩, st4⟩
                  case measure => simp [intOf]; omega
              · rw [if_pos ⟨by omega, hle⟩] at hc
                have HB := Lib.hid (show r = (5, (i : Int)) from by rw [HBAD.out (by rw [hc]; decide), hc])
                have hcmp := leq_true hle
                clear hc HBAD HNX hle HLN2 HCL
                generalize Rf.it s (i - 1) = y at *
                generalize Rf.it s i = x at *
                have c0 : w2.cell? ⟨w.heap.size, 0, none⟩ = some (.slice (some ⟨b, off, none⟩) s.length k) := (st2.bx.cell 0).trans rfl
                have c1 : w2.cell? ⟨w.heap.size + 1, 0, none⟩ = some (.int .i64 0) := (st2.br.cell 0).trans rfl
                have c2 : w2.cell? ⟨w.heap.size + 1, 1, none⟩ = some (.int .i64 0) := (st2.br.cell 1).trans rfl
                have f1 := st2.br.frozen 0
                have f2 := st2.br.frozen 1
                have c3 : w2.cell? ⟨wr.heap.size, 0, none⟩ = some (strV x.name) := (rb.cell 0).trans rfl
                have c4 : w2.cell? ⟨wr.heap.size, 1, none⟩ = some (.int .i64 x.tgt) := (rb.cell 1).trans rfl
                have l0 := st2.bx.lt
                have l1 := st2.br.lt
                have l2 := rb.lt
                go_wp2_with fail
                go_at_call 27
                refine HD.out.mono ?_
                rintro e w3 ⟨rfl, rfl⟩
                go_wp2_with fail
                go_quiet (fail)
                have hq : Below w3.heap.size w3 (w3.drewN nq) := below_drewN' (Below.refl _ _) nq
                have st3 := st2.below hq
                go_wp2_with fail
                refine bodyPost_ret (results_c30 rfl _ _ (w.heap.size + 1) (.int .i64 5) (.int .i64 i) rfl (blk_put2 st3.br _ _)) rfl (FaultPost.mk_ HB.out ?_)
                exact (st3.bel.setCell (by simp) _).setCell (by simp) _
      · obtain rfl : i = s.length := by omega
        have c1 : wr.cell? ⟨w.heap.size + 1, 0, none⟩ = some (.int .i64 0) := (st.br.cell 0).trans rfl
        have c2 : wr.cell? ⟨w.heap.size + 1, 1, none⟩ = some (.int .i64 0) := (st.br.cell 1).trans rfl
        have f1 := st.br.frozen 0
        have f2 := st.br.frozen 1
        have l1 := st.br.lt
        have HB := Lib.hid (show r = (0, 0) from by rw [HR.out.1, Rf.rfFrom_end s _ (Nat.le_refl _)])
        go_wp2_with fail
        refine bodyPost_ret (results_c30 rfl _ _ (w.heap.size + 1) (.int .i64 0) (.int .i64 0) rfl (blk_put2 st.br _ _)) rfl (FaultPost.mk_ HB.out ?_)
        exact (st.bel.setCell (by simp) _).setCell (by simp) _
end Go.Proofs.YtipjejnncnndeaaGreatDoor.RF
namespace Go.Proofs.YtipjejnncnndeaaGreatDoor
open Go.RowKit Go.V
set_option linter.unusedVariables false

theorem results_c44 {fn : Func} {a : Tmp} (h : fn.results = #[.cell a 48]) (tmps : Array Value) (w : World) (g : Nat) (x y z : Value) (ha : tmps.getD a undef = .pointer (some ⟨g, 0, none⟩)) (hb : Blk w g 48 #[x, y, z]) :
    (results fn tmps).run Tryz.prog w = .ok (.agg #[x, y, z]) w := by
  have h0 := hb.cell 0
  have h1 := hb.cell 1
  have h2 := hb.cell 2
  simp only [List.getElem?_toArray, List.getElem?_cons_zero, List.getElem?_cons_succ] at h0 h1 h2
  have ha' : tmps[a]?.getD undef = .pointer (some ⟨g, 0, none⟩) := by simpa using ha
  simp [results, h, go_sem, ha', h0, h1, h2]
theorem results_c24 {fn : Func} {a : Tmp} (h : fn.results = #[.cell a 24]) (tmps : Array Value) (w : World) (g : Nat) (x : Value) (ha : tmps.getD a undef = .pointer (some ⟨g, 0, none⟩)) (hb : Blk w g 24 #[x]) :
    (results fn tmps).run Tryz.prog w = .ok (.agg #[x]) w := by
  have h0 := hb.cell 0
  simp only [List.getElem?_toArray, List.getElem?_cons_zero] at h0
  have ha' : tmps[a]?.getD undef = .pointer (some ⟨g, 0, none⟩) := by simpa using ha
  simp [results, h, go_sem, ha', h0]
theorem blk_put3 {w : World} {g : Nat} {t : TypeId} {a b c : Value} (h : Blk w g t #[a, b, c]) (x y z : Value) : Blk (((w.setCell ⟨g, 0, none⟩ x).setCell ⟨g, 1, none⟩ y).setCell ⟨g, 2, none⟩ z) g t #[x, y, z] := by
  have := ((h.set_ 0 x).set_ 1 y).set_ 2 z
  simpa using this
/-- What 'CopyObject' answers. -/
def CoPost (w : World) (o : Ob.O) (e : Ending) (w' : World) : Prop := ∃ A1 k1 A2 k2, e = .returned (obV o A1 k1 A2 k2) ∧ ObA w' (Under w.heap.size) o A1 k1 A2 k2 ∧ Below w.heap.size w w'
set_option maxRecDepth 100000 in
set_option maxHeartbeats 8000000 in
theorem copyObject_any (w : World) (o : Ob.O) (Al : Option Addr) (kl : Nat) (Ad : Option Addr) (kd : Nat) (h : ObA w Free o Al kl Ad kd) (hl : o.links.length * 8 ≤ 140737488351232) :
    Calls Tryz.prog 29 #[obV o Al kl Ad kd] w (CoPost w o) := by
  have HC61 := Lib.hid (fun (w' : World) (hb : Below w.heap.size w w') => clone61_any w' Al kl o.links (h.ls.keep (free_below hb)).sv hl)
  have HC62 := Lib.hid (fun (w' : World) (hb : Below w.heap.size w w') => clone62_any w' Ad kd o.data (h.ds.keep (free_below hb)).sv (by have := h.dl; omega))
  have HF : Hid (∀ (w' : World) A1 k1 A2 k2, o.links.length ≤ k1 → o.data.length ≤ k2 → SA w' (Under w.heap.size) A1 (intsV o.links) → SA w' (Under w.heap.size) A2 (bytesV o.data) → Below w.heap.size w w' → CoPost w o (.returned (obV o A1 k1 A2 k2)) w') :=
    Lib.hid fun w' A1 k1 A2 k2 g1 g2 s1 s2 hb => ⟨A1, k1, A2, k2, rfl, ⟨h.kind, h.all, g1, g2, h.ll, h.dl, s1, s2⟩, hb⟩
  clear h
  obtain ⟨kk, ls, da⟩ := o
  simp only at HC61 HC62 HF hl ⊢
  generalize CoPost w _ = R at *
  have hbw : Below w.heap.size w ((w.alloc (.cells #[.int .i64 kk, .slice Al ls.length kl, .slice Ad da.length kd] 48)).alloc (.cells #[.int .i64 0, .slice none 0 0, .slice none 0 0] 48)) := below_alloc2 _ _ _
  have hbox := (Blk.new w 48 #[.int .i64 kk, .slice Al ls.length kl, .slice Ad da.length kd]).alloc (.cells #[.int .i64 0, .slice none 0 0, .slice none 0 0] 48)
  have hres := blk_new1 w (.cells #[.int .i64 kk, .slice Al ls.length kl, .slice Ad da.length kd] 48) 48 #[.int .i64 0, .slice none 0 0, .slice none 0 0]
  go_enter Tryz.func29, Tryz.ntmps29
  go_wp2_with fail
  generalize hwo : (w.alloc (.cells #[.int .i64 kk, .slice Al ls.length kl, .slice Ad da.length kd] 48)).alloc (.cells #[.int .i64 0, .slice none 0 0, .slice none 0 0] 48) = wo at *
  have hsz : wo.heap.size = w.heap.size + 2 := by rw [← hwo]; simp
  have HSZ := Lib.hid hsz
  clear hwo hsz
  have HK : Hid (∀ w6 : World, Below wo.heap.size wo w6 → w6.cell? ⟨w.heap.size, 0, none⟩ = some (.int .i64 kk) ∧ w6.cell? ⟨w.heap.size, 1, none⟩ = some (.slice Al ls.length kl) ∧ w6.cell? ⟨w.heap.size, 2, none⟩ = some (.slice Ad da.length kd)) := Lib.hid fun w6 h6 =>
    ⟨((hbox.below h6 hbox.lt).cell 0).trans rfl, ((hbox.below h6 hbox.lt).cell 1).trans rfl, ((hbox.below h6 hbox.lt).cell 2).trans rfl⟩
  have hk0 : Below wo.heap.size wo wo.drew := below_drew' (Below.refl _ _)
  have HR : Hid (∀ w6 : World, Below wo.heap.size wo w6 → w6.cell? ⟨w.heap.size + 1, 0, none⟩ = some (.int .i64 0) ∧ w6.cell? ⟨w.heap.size + 1, 1, none⟩ = some (.slice none 0 0) ∧ w6.cell? ⟨w.heap.size + 1, 2, none⟩ = some (.slice none 0 0) ∧
      w6.frozen? ⟨w.heap.size + 1, 0, none⟩ = false ∧ w6.frozen? ⟨w.heap.size + 1, 1, none⟩ = false ∧ w6.frozen? ⟨w.heap.size + 1, 2, none⟩ = false) := Lib.hid fun w6 h6 =>
    have hr := hres.below h6 hres.lt
    ⟨(hr.cell 0).trans rfl, (hr.cell 1).trans rfl, (hr.cell 2).trans rfl, hr.frozen 0, hr.frozen 1, hr.frozen 2⟩
  have HBX := Lib.hid (fun (w6 : World) (h6 : Below wo.heap.size wo w6) => hbox.below h6 hbox.lt)
  clear hbox
  go_region_held3 (fun w6 => w6.cell? ⟨w.heap.size, 0, none⟩ = some (.int .i64 kk) ∧ w6.cell? ⟨w.heap.size, 1, none⟩ = some (.slice Al ls.length kl) ∧ w6.cell? ⟨w.heap.size, 2, none⟩ = some (.slice Ad da.length kd))
    (first | exact HK.out _ hk0 | exact HK.out _ hk7 | exact HK.out _ hk8 | (have hbb := (((HBX.out _ hk8).far (p := ⟨w.heap.size + 1, 0, none⟩) (by simp) (.int .i64 kk)).far (p := ⟨w.heap.size + 1, 1, none⟩) (by simp) (.slice A1 ls.length c1)).far (p := ⟨w.heap.size + 1, 2, none⟩) (by simp) (.slice A2 da.length c2); exact ⟨(hbb.cell 0).trans rfl, (hbb.cell 1).trans rfl, (hbb.cell 2).trans rfl⟩))
    (first
      | (go_at_call 22; first
          | ((with_reducible refine (HC61.out _ (hbw.trans (hk0.mono hbw.size))).mono ?_); rintro e w3 ⟨A1, c1, rfl, hc1, hs1, hb3⟩; have hk7 : Below wo.heap.size wo w3 := hk0.trans (hb3.mono hk0.size))
          | ((with_reducible refine (HC61.out _ (hbw.trans (hk7.mono hbw.size))).mono ?_); rintro e w4 ⟨A1, c1, rfl, hc1, hs1, hb4⟩; have hk8 : Below wo.heap.size wo w4 := hk7.trans (hb4.mono hk7.size); obtain ⟨p0, p1, p2, f0, f1, f2⟩ := HR.out _ hk8))
      | (go_at_call 50; first
          | ((with_reducible refine (HC62.out _ (hbw.trans (hk0.mono hbw.size))).mono ?_); rintro e w3 ⟨A2, c2, rfl, hc2, hs2, hb3⟩; have hk7 : Below wo.heap.size wo w3 := hk0.trans (hb3.mono hk0.size))
          | ((with_reducible refine (HC62.out _ (hbw.trans (hk7.mono hbw.size))).mono ?_); rintro e w4 ⟨A2, c2, rfl, hc2, hs2, hb4⟩; have hk8 : Below wo.heap.size wo w4 := hk7.trans (hb4.mono hk7.size); obtain ⟨p0, p1, p2, f0, f1, f2⟩ := HR.out _ hk8)))
  all_goals
    go_wp2_with fail
    have hz3 := hk7.size
    have hz4 := hb4.size
    have hu : Under (w.heap.size + 2) (w.heap.size + 1) := by unfold Under; omega
    have HU := HSZ.out
    have hle1 : w.heap.size + 2 ≤ wo.drew.heap.size := by show _ ≤ wo.heap.size; omega
    have hle2 : w.heap.size + 2 ≤ w3.heap.size := by have : wo.heap.size ≤ w3.heap.size := hz3; omega
    have hr4 := hres.below hk8 hres.lt
    have hkp : Keeps w4 (Under (w.heap.size + 2)) _ (Under (w.heap.size + 2)) := ((Keeps.setCell w4 _ ⟨w.heap.size + 1, 0, none⟩ (.int .i64 kk) hu).trans (Keeps.setCell _ _ ⟨w.heap.size + 1, 1, none⟩ (.slice A1 ls.length c1) hu)).trans (Keeps.setCell _ _ ⟨w.heap.size + 1, 2, none⟩ (.slice A2 da.length c2) hu)
    refine bodyPost_ret (results_c44 rfl _ _ (w.heap.size + 1) (.int .i64 kk) (.slice A1 ls.length c1) (.slice A2 da.length c2) rfl (blk_put3 hr4 _ _ _)) rfl ?_
    refine HF.out _ _ _ _ _ hc1 hc2 ?_ ?_ ?_
    · first
        | exact (((hs1.mono (X' := Under (w.heap.size + 2)) (fun b hb => Nat.lt_of_lt_of_le hb (by first | exact hle1 | exact hle2))).keep (Keeps.below hb4 (fun _ _ h => h))).keep hkp).mono (fun b hb => Nat.lt_of_lt_of_le hb (Nat.le_add_right _ _))
        | exact ((hs1.mono (X' := Under (w.heap.size + 2)) (fun b hb => Nat.lt_of_lt_of_le hb (by first | exact hle1 | exact hle2))).keep hkp).mono (fun b hb => Nat.lt_of_lt_of_le hb (Nat.le_add_right _ _))
    · first
        | exact (((hs2.mono (X' := Under (w.heap.size + 2)) (fun b hb => Nat.lt_of_lt_of_le hb (by first | exact hle1 | exact hle2))).keep (Keeps.below hb4 (fun _ _ h => h))).keep hkp).mono (fun b hb => Nat.lt_of_lt_of_le hb (Nat.le_add_right _ _))
        | exact ((hs2.mono (X' := Under (w.heap.size + 2)) (fun b hb => Nat.lt_of_lt_of_le hb (by first | exact hle1 | exact hle2))).keep hkp).mono (fun b hb => Nat.lt_of_lt_of_le hb (Nat.le_add_right _ _))
    · exact (((hbw.trans (hk8.mono hbw.size)).setCell (by simp) _).setCell (by simp) _).setCell (by simp) _
end Go.Proofs.YtipjejnncnndeaaGreatDoor
namespace Go.Proofs.YtipjejnncnndeaaGreatDoor
open Go.RowKit Go.V
set_option linter.unusedVariables false

theorem info46 : (Tryz.prog.info? 65).map (fun i => (i.zero, i.size, i.bytes)) = some (some (.agg #[.int .i64 0, .int .i64 0, .slice none 0 0, .slice none 0 0]), 4, 64) := by kernel_rfl
theorem ObA.mono_ {w : World} {X X' : Nat → Prop} {o : Ob.O} {Al : Option Addr} {kl : Nat} {Ad : Option Addr} {kd : Nat} (h : ObA w X o Al kl Ad kd) (hX : ∀ b, X' b → X b) : ObA w X' o Al kl Ad kd := h.keep ((Keeps.refl w X).into hX)
theorem size_alloc_le (w : World) (o : Obj) : w.heap.size ≤ (w.alloc o).heap.size := by simp
theorem st_one (d k : Int) (A1 : Option Addr) (n1 k1 : Nat) (A2 : Option Addr) (n2 k2 : Nat) : ∀ u ∈ [Value.int .i64 d, .int .i64 k, .slice A1 n1 k1, .slice A2 n2 k2], u.oneCell' = true := by
  intro u hu; simp at hu; rcases hu with rfl | rfl | rfl | rfl <;> rfl
/-- A store of the call's own: nothing of it lies in a block that X names. -/
structure OwnSt (w : World) (base : Nat) (X : Nat → Prop) (A : Option Addr) (c : Nat) (s : List Ob.S) (xs : List Value) : Prop where
  own : w.ownsRow base 65 4 (.slice A s.length c) s.length xs
  rows : RowsR (StR w (Or1 X (.slice A s.length c))) s xs
/-- The state of the loop of 'Copy'. -/
structure CySt (w wr : World) (A : Option Addr) (n k : Nat) (s : List Ob.S) (i : Nat) (Ao : Option Addr) (co : Nat) (xs : List Value) : Prop where
  res : Blk wr (w.heap.size + 1) 24 #[.slice none 0 0]
  out : Blk wr (w.heap.size + 2) 24 #[.slice Ao i co]
  own : wr.ownsRow (w.heap.size + 3) 65 4 (.slice Ao i co) i xs
  rows : RowsR (StR wr (Or1 (Under (w.heap.size + 3)) (.slice Ao i co))) (s.take i) xs
  bel : Below w.heap.size w wr
  hi : w.heap.size + 3 ≤ wr.heap.size
theorem CySt.below {w wr w' : World} {A : Option Addr} {n k : Nat} {s : List Ob.S} {i : Nat} {Ao : Option Addr} {co : Nat} {xs : List Value} (h : CySt w wr A n k s i Ao co xs) (hb : Below wr.heap.size wr w') : CySt w w' A n k s i Ao co xs :=
  ⟨h.res.below hb h.res.lt, h.out.below hb h.out.lt, h.own.kept (only_of_below hb none) (by cases hv : (Value.slice Ao i co).ownBlock <;> simp), h.rows.mono (StR.keep (Keeps.below hb (fun _ _ h => h))), h.bel.trans (hb.mono h.bel.size), Nat.le_trans h.hi hb.size⟩
theorem CySt.app {w w3 w4 : World} {A : Option Addr} {n k : Nat} {s : List Ob.S} {i : Nat} {Ao : Option Addr} {co : Nat} {xs : List Value} (st : CySt w w3 A n k s i Ao co xs) {x : Int} {o : Ob.O} {A1 A2 : Option Addr} {k1 k2 : Nat} {o0 : Obj} {gd c' : Nat}
    (hk : I64 o.kind) (hx : I64 x) (hob : ObA w3 (Or1 (Under (w.heap.size + 3)) (.slice Ao i co)) o A1 k1 A2 k2) (hs : s.take (i + 1) = s.take i ++ [⟨x, o⟩]) (own3 : (w3.alloc o0).ownsRow (w.heap.size + 3) 65 4 (.slice Ao i co) i xs)
    (hg : (w3.alloc o0).grownBy w4 (Value.slice Ao i co).ownBlock)
    (hown : w4.ownsRow (w.heap.size + 3) 65 4 (.slice (some ⟨gd, 0, none⟩) (i + 1) c') (i + 1) (xs ++ [.int .i64 x, .int .i64 o.kind, .slice A1 o.links.length k1, .slice A2 o.data.length k2]))
    (hb : (Value.slice (some ⟨gd, 0, none⟩) (i + 1) c').ownBlock = (Value.slice Ao i co).ownBlock ∨ (Value.slice (some ⟨gd, 0, none⟩) (i + 1) c').ownBlock = some (w3.alloc o0).heap.size) :
    CySt w (w4.setCell ⟨w.heap.size + 2, 0, none⟩ (.slice (some ⟨gd, 0, none⟩) (i + 1) c')) A n k s (i + 1) (some ⟨gd, 0, none⟩) c' (xs ++ [.int .i64 x, .int .i64 o.kind, .slice A1 o.links.length k1, .slice A2 o.data.length k2]) := by
  have res4 := (st.res.alloc o0).grown hg (own_blk_ne own3 (st.res.alloc o0) (by decide))
  have out4 := (st.out.alloc o0).grown hg (own_blk_ne own3 (st.out.alloc o0) (by decide))
  have hkp := ((Keeps.alloc w3 (Or1 (Under (w.heap.size + 3)) (.slice Ao i co)) o0).trans (Keeps.or1 hg rfl hb)).trans (Keeps.setCell w4 _ ⟨w.heap.size + 2, 0, none⟩ (.slice (some ⟨gd, 0, none⟩) (i + 1) c') (.inl (by show w.heap.size + 2 < w.heap.size + 3; omega)))
  have hsz := hg.size
  have hhi := st.hi
  refine ⟨res4.far (by simp) _, by simpa using out4.set_ 0 (.slice (some ⟨gd, 0, none⟩) (i + 1) c'), own_setCell hown (own_blk_ne hown out4 (by decide)) _, ?_, ?_, ?_⟩
  · rw [hs]
    exact (st.rows.mono (StR.keep hkp)).append (RowsR.one ⟨A1, k1, A2, k2, rfl, hx, hob.keep hkp⟩)
  · refine Below.setCell ?_ (by simp) _
    exact (st.bel.alloc st.bel.size o0).grown hg (by have := st.bel.size; simp; omega) (fun b hb => by have := (own3.lt b hb).1; omega)
  · simp at hsz ⊢; omega
def CyPost (w : World) (s : List Ob.S) (e : Ending) (w' : World) : Prop := ∃ A c xs, e = .returned (stV A s.length c) ∧ OwnSt w' w.heap.size (Under w.heap.size) A c s xs ∧ Below w.heap.size w w'
set_option maxRecDepth 100000 in
set_option maxHeartbeats 16000000 in
theorem copy_any (w : World) (A : Option Addr) (k : Nat) (s : List Ob.S) (hv : StV w Free A s) (hl : s.length ≤ 1000000) (hlk : ∀ i, i < s.length → (Ob.it s i).ob.links.length * 8 ≤ 140737488351232) :
    Calls Tryz.prog 17 #[stV A s.length k] w (CyPost w s) := by
  obtain ⟨i0, hi0, hz0, hz1, hz2⟩ := info_parts info46
  have HROW := Lib.hid (fun (w' : World) (hb : Below w.heap.size w w') i hi => (hv.keep (free_below hb)).row (w := w') i hi)
  have HLK := Lib.hid hlk
  have hl' : (s.length : Int) ≤ 1000000 := by omega
  have st0 : CySt w (((w.alloc (.cells #[.slice A s.length k] 24)).alloc (.cells #[.slice none 0 0] 24)).alloc (.cells #[.slice none 0 0] 24)) A s.length k s 0 none 0 [] :=
    ⟨(blk_new1 _ _ _ _).alloc _, by simpa using Blk.new ((w.alloc (.cells #[.slice A s.length k] 24)).alloc (.cells #[.slice none 0 0] 24)) 24 #[.slice none 0 0], World.ownsRow_nil _ _ _ _, rfl, below_alloc3 _ _ _ _, by simp⟩
  clear hv hlk
  go_enter Tryz.func17, Tryz.ntmps17
  go_wp2_with fail
  go_loopw [9] (fun iv wr => ∃ (i : Nat) (Ao : Option Addr) (co : Nat) (xs : List Value), i ≤ s.length ∧ iv = .int .i64 i ∧ CySt w wr A s.length k s i Ao co xs) (fun iv _ => s.length - (intOf iv).toNat)
  case atStart => exact ⟨0, none, 0, [], Nat.zero_le _, rfl, st0⟩
  case round =>
    obtain ⟨i, Ao, co, xs, hi, rfl, st⟩ := hrel
    obtain ⟨wo, rfl⟩ : ∃ wo : World, wo = wr := ⟨_, rfl⟩
    clear st0
    have hsz := st.bel.size
    have hhi := st.hi
    by_cases hil : i < s.length
    · have hil' : (i : Int) < s.length := by omega
      obtain ⟨b, off, Al, kl, Ad, kd, e, hb, _, d0, d1, d2, d3, hx, hob⟩ := HROW.out _ st.bel i hil
      subst e
      have hlki := HLK.out i hil
      have HTK := Lib.hid (show s.take (i + 1) = s.take i ++ [Ob.it s i] by rw [List.take_succ_eq_append_getElem hil, Ob.it_eq s i hil])
      have hobk := hob.kind
      generalize hxx : Ob.it s i = x at *
      clear hxx
      have HCO := Lib.hid (fun (w' : World) (hb : Below wo.heap.size wo w') => copyObject_any w' x.ob Al kl Ad kd (hob.keep (free_below hb)) hlki)
      clear hob hlki
      obtain ⟨xd, kk, ls, da⟩ := x
      simp only at *
      have hbx := below_alloc1 wo (.cells #[.int .i64 xd, .int .i64 kk, .slice Al ls.length kl, .slice Ad da.length kd] 65)
      have stx := st.below hbx
      have hk0 : Below wo.heap.size wo (wo.alloc (.cells #[.int .i64 xd, .int .i64 kk, .slice Al ls.length kl, .slice Ad da.length kd] 65)).drew := below_drew' hbx
      have q0 := stx.out.cell 0
      have blx := Blk.new wo 65 #[.int .i64 xd, .int .i64 kk, .slice Al ls.length kl, .slice Ad da.length kd]
      simp only [List.getElem?_toArray, List.getElem?_cons_zero] at q0
      have hne46 : (65 : TypeId) ≠ 24 := by decide
      have h63 : i + 1 ≤ maxLen := by unfold maxLen; omega
      have hby : (i + 1) * 64 ≤ 140737488355328 := by omega
      go_wp2_with fail
      go_region_law
        (first
          | (go_simp; go_at_call 29; (with_reducible refine (HCO.out _ hk0).mono ?_); rintro e w3 ⟨A1, k1, A2, k2, rfl, hob3, hb3⟩; have hk3 : Below wo.heap.size wo w3 := hk0.trans (hb3.mono hk0.size); have st3 := st.below hk3; have z3 : w.heap.size + 1 + 1 < w3.heap.size := st3.out.lt; have p0 := (st3.out.cell 0).trans (rfl : _ = some (Value.slice Ao i co)); have x0 := ((blx.drew.below hb3 blx.drew.lt).cell 0).trans (rfl : _ = some (Value.int .i64 xd)); go_wp2_with fail)
          | (refine step_appNo _ rfl (.tmp 14) (.tmp 21) 22 rfl (w.heap.size + 3) 65 i0 _ 4 64 Tryz.underlying22 hi0 hz0 hz1 hz2 rfl (by decide) Ao i co xs rfl (st3.own.alloc _) w3.heap.size 1 [.int .i64 xd, .int .i64 kk, .slice A1 ls.length k1, .slice A2 da.length k2] rfl rfl (fun j v hj => cells_new w3 #[.int .i64 xd, .int .i64 kk, .slice A1 ls.length k1, .slice A2 da.length k2] 65 j v hj) (st_one _ _ _ _ _ _ _ _) h63 hby (Nat.le_trans st3.hi (size_alloc_le _ _)) ?_; intro gd c' w4 hown4 hg4 hob4; have own3 := st3.own.alloc (.cells #[.int .i64 xd, .int .i64 kk, .slice A1 ls.length k1, .slice A2 da.length k2] 65); have out3 := st3.out.alloc (.cells #[.int .i64 xd, .int .i64 kk, .slice A1 ls.length k1, .slice A2 da.length k2] 65); have out4 := out3.grown hg4 (own_blk_ne own3 out3 hne46); have r0 := (out4.cell 0).trans (rfl : _ = some (Value.slice Ao i co)); have r1 := out4.frozen 0))
      all_goals
        have hob5 := hob3.mono_ (X' := Or1 (Under (w.heap.size + 3)) (.slice Ao i co)) (fun b hb => by
          rcases hb with hb | hb
          · unfold Under at *; exact Nat.lt_of_lt_of_le hb (Nat.le_trans hhi hk0.size)
          · exact Nat.lt_of_lt_of_le ((st.own.lt b hb).2) hk0.size)
        have st5 := st3.app hobk hx hob5 HTK.out own3 hg4 hown4 hob4
        clear hob5 hown4 hg4 hob4 own3 out3 out4 st3 st stx hob3 hb3 hk3
        go_wp2_with fail
        go_roundw
        case rel => exact ⟨i + 1, _, _, _, by omega, by go_num, st5⟩
        case measure => simp [intOf]; omega
    · obtain rfl : i = s.length := by omega
      have o0 := st.out.cell 0
      have r0 := st.res.cell 0
      have r1 := st.res.frozen 0
      have l0 := st.out.lt
      simp only [List.getElem?_toArray, List.getElem?_cons_zero] at o0 r0
      go_wp2_with fail
      have hu : (Under (w.heap.size + 3)) (w.heap.size + 1) := by unfold Under; omega
      have hk := Keeps.setCell wo (Or1 (Under (w.heap.size + 3)) (.slice Ao s.length co)) ⟨w.heap.size + 1, 0, none⟩ (.slice Ao s.length co) (.inl hu)
      have hb1 := st.res.set_ 0 (.slice Ao s.length co)
      refine bodyPost_ret (results_c24 rfl _ _ (w.heap.size + 1) (.slice Ao s.length co) rfl (by simpa using hb1)) rfl ?_
      refine ⟨Ao, co, xs, rfl, ⟨own_more (own_setCell st.own (own_blk_ne st.own st.res (by decide)) _) (by omega), ?_⟩, st.bel.setCell (by simp) _⟩
      have hr := st.rows
      rw [List.take_length] at hr
      exact hr.mono (StR.keep (hk.into (X'' := Or1 (Under w.heap.size) (.slice Ao s.length co)) fun b hb => by
        rcases hb with hb | hb
        · exact .inl (by unfold Under at *; omega)
        · exact .inr hb))
end Go.Proofs.YtipjejnncnndeaaGreatDoor
namespace Go.V
set_option linter.unusedVariables false
open Go.RowKit

/-- cs put over the cells from off on. -/
def spl (cur : Array Value) (off : Nat) (cs : List Value) : Array Value := (cur.toList.take off ++ cs ++ cur.toList.drop (off + cs.length)).toArray
section
variable {P : Program} (w : World)
theorem run_copy_into (dT sT ty elem : TypeId) (i : TypeInfo) (size : Nat) (hu : P.underlying dT = some (.slice elem)) (hi : P.info? elem = some i) (hsz : i.size = size)
    (g o dLen dCap : Nat) (ad : Addr) (sLen sCap : Nat) (cur : Array Value) (t : TypeId) (cs : List Value) (hg : Blk w g t cur) (hn : cs.length = Nat.min sLen dLen * size)
    (hsrc : ∀ j v, cs[j]? = some v → w.cell? (ad.add j) = some v) (hfit : o + cs.length ≤ cur.size) (h1 : ∀ v ∈ cs, v.oneCell' = true) :
    ∃ w', (Builtin.copy_ #[dT, sT] ty #[.slice (some ⟨g, o, none⟩) dLen dCap, .slice (some ad) sLen sCap]).run P w = .ok (goInt (Nat.min sLen dLen)) w' ∧
      Blk w' g t (spl cur o cs) ∧ w.grownBy w' (some g) ∧ w'.heap.size = w.heap.size := by
  have hl := run_loadCells_list (P := P) w ad cs hsrc
  have hst := run_storeCells_at P g o t cs 0 cur w hg (by simpa using hfit) h1
  simp only [Nat.add_zero] at hst
  refine ⟨w.setRow g (cur.toList.take o ++ cs ++ cur.toList.drop (o + cs.length)).toArray, ?_, setRow_heap w g cur _ t (0, 0) hg, ⟨rfl, rfl, rfl, by simp, fun k _ hk => setRow_other w g k _ (fun e => hk (by rw [e]))⟩, by simp⟩
  subst hsz
  simp [Builtin.copy_, run_underlying hu, Builtin.lenOf, Builtin.firstCells, sizeOf, typeInfo, hi, ← hn, hl, hst]
theorem wpList_copy_into {ops : Array Oper} {rest : List Oper} {o : Oper} {a : Act} {Q : Exit → Act → World → Prop} (hgd : o.guard = none) (d s : Operand) (dT sT : TypeId)
    (ho : o.op = .call { callee := .builtin .copy, args := #[d, s], argTypes := #[dT, sT] })
    (elem : TypeId) (i : TypeInfo) (size : Nat) (hu : P.underlying dT = some (.slice elem)) (hi : P.info? elem = some i) (hsz : i.size = size)
    (g off dLen dCap : Nat) (hd : a.eval d = .slice (some ⟨g, off, none⟩) dLen dCap) (ad : Addr) (sLen sCap : Nat) (hs : a.eval s = .slice (some ad) sLen sCap) (cur : Array Value) (t : TypeId) (cs : List Value) (hg : Blk w g t cur) (hn : cs.length = Nat.min sLen dLen * size)
    (hsrc : ∀ j v, cs[j]? = some v → w.cell? (ad.add j) = some v) (hfit : off + cs.length ≤ cur.size) (h1 : ∀ v ∈ cs, v.oneCell' = true)
    (h : ∀ w', Blk w' g t (spl cur off cs) → w.grownBy w' (some g) → w'.heap.size = w.heap.size → wpList P ops Q rest (a.put o.dst (goInt (Nat.min sLen dLen))) w') : wpList P ops Q (o :: rest) a w := by
  refine wpList_plain hgd fun K hK => ?_
  obtain ⟨w', hr, h2, h3, h4⟩ := run_copy_into (P := P) w dT sT o.type elem i size hu hi hsz g off dLen dCap ad sLen sCap cur t cs hg hn hsrc hfit h1
  unfold Oper.wp execOp
  simp only [ho, resolve, invoke, builtin, Sem.run_bind, Sem.run_pure, Result.andThen_ok, List.map_toArray, List.map_cons, List.map_nil, hd, hs, hr]
  exact hK _ _ (h w' h2 h3 h4)
theorem step_copy_into {ops : Array Oper} {o : Oper} {a : Act} {K : Act → World → Prop} {Q : Exit → Act → World → Prop} {E : Prop} (hgd : o.guard = none) (d s : Operand) (dT sT : TypeId)
    (ho : o.op = .call { callee := .builtin .copy, args := #[d, s], argTypes := #[dT, sT] })
    (elem : TypeId) (i : TypeInfo) (size : Nat) (hu : P.underlying dT = some (.slice elem)) (hi : P.info? elem = some i) (hsz : i.size = size)
    (g off dLen dCap : Nat) (hd : a.eval d = .slice (some ⟨g, off, none⟩) dLen dCap) (ad : Addr) (sLen sCap : Nat) (hs : a.eval s = .slice (some ad) sLen sCap) (cur : Array Value) (t : TypeId) (cs : List Value) (hg : Blk w g t cur) (hn : cs.length = Nat.min sLen dLen * size)
    (hsrc : ∀ j v, cs[j]? = some v → w.cell? (ad.add j) = some v) (hfit : off + cs.length ≤ cur.size) (h1 : ∀ v ∈ cs, v.oneCell' = true)
    (h : ∀ w', Blk w' g t (spl cur off cs) → w.grownBy w' (some g) → w'.heap.size = w.heap.size → K (a.put o.dst (goInt (Nat.min sLen dLen))) w') :
    if Region.wanted o (yielded ops a.tmps) = true then Oper.wp P o a w K Q else E := by
  have hw : Region.wanted o (yielded ops a.tmps) = true := by simp [Region.wanted, hgd]
  rw [if_pos hw]
  obtain ⟨w', hr, h2, h3, h4⟩ := run_copy_into (P := P) w dT sT o.type elem i size hu hi hsz g off dLen dCap ad sLen sCap cur t cs hg hn hsrc hfit h1
  unfold Oper.wp
  simp [execOp, ho, resolve, invoke, builtin, hd, hs, hr, Result.andThen]
  exact h w' h2 h3 h4
/-- 'append(s[:i], make(S, k)...)' that grows: a new block. -/
theorem wpList_app_zeros {ops : Array Oper} {rest : List Oper} {o : Oper} {a : Act} {Q : Exit → Act → World → Prop} (hgd : o.guard = none) (s x : Operand) (t tn : TypeId)
    (ho : o.op = .call { callee := .builtin .append, args := #[s, x], argTypes := #[t, tn] })
    (e : TypeId) (i : TypeInfo) (z : Value) (kn : IntKind) (size bytes : Nat) (ht : P.underlying t = some (.slice e)) (htn : P.underlying tn = some (.int kn)) (hi : P.info? e = some i) (hz : i.zero = some z) (hsize : i.size = size) (hby : i.bytes = bytes) (hzs : z.cells.size = size) (hsz : 0 < size)
    (ad : Addr) (n c : Nat) (olds : List Value) (hs : a.eval s = .slice (some ad) n c) (hl : olds.length = n * size) (hsrc : ∀ j v, olds[j]? = some v → w.cell? (ad.add j) = some v)
    (kq : IntKind) (k : Nat) (hx : a.eval x = .int kq k) (h0 : 0 < k) (hroom : c < n + k) (hnc : n ≤ c) (h63 : n + k ≤ 9223372036854775807) (hb : (n + k) * bytes ≤ 140737488355328)
    (h : ∀ q cur w', n + k ≤ q → q ≤ 9223372036854775807 → cur.size = q * size → cur.toList.take (n * size) = olds → Blk w' w.heap.size e cur → w.grownBy w' none → w'.heap.size = w.heap.size + 1 → wpList P ops Q rest (a.put o.dst (.slice (some ⟨w.heap.size, 0, none⟩) (n + k) q)) w') : wpList P ops Q (o :: rest) a w := by
  refine wpList_plain hgd fun K hK => ?_
  subst hsize
  subst hby
  have hold : (Builtin.firstCells i.size n (.slice (some ad) n c)).run P w.drew = .ok olds.toArray w.drew := run_firstCells_some w.drew i.size n ad n c olds hl (fun j v hj => hsrc j v hj)
  have hkb : k * i.bytes ≤ (n + k) * i.bytes := Nat.mul_le_mul_right _ (by omega)
  have hr := Lib.run_append_grow_zeros (P := P) w t tn o.type e i z kq kn ht htn hi hz (some ad) n c olds hold k h0 hsz hroom (by omega) (by omega) (growslice_fits hroom hb)
  have hge := grownCap_ge w (n + k) c e
  have hle := grownCap_le_maxLen w (n + k) c e (by unfold maxLen; omega)
  generalize grownCap w (n + k) c e = q at *
  unfold Oper.wp
  simp [execOp, ho, resolve, invoke, builtin, hs, hx, hr, Result.andThen]
  refine hK _ _ (h q _ _ hge (by unfold maxLen at hle; omega) ?_ ?_ (Blk.new w.drew e _) ?_ (by simp))
  · simp only [Array.size_append, List.size_toArray, size_zeroCells, hzs, hl]
    rw [← Nat.add_mul, ← Nat.add_mul]
    congr 1
    omega
  · simp only [Array.toList_append]
    rw [List.take_append_of_le_length (by omega), ← hl, List.take_length]
  · exact ⟨rfl, rfl, rfl, by simp, fun b hb _ => (Below.heap_alloc w.drew _ b hb)⟩
end
/-- Two copies put news in at p. -/
theorem ins_list {cur xs news : List Value} {p : Nat} (hx : cur.take xs.length = xs) (hp : p ≤ xs.length) (hl : xs.length + news.length ≤ cur.length) :
    (((cur.take (p + news.length) ++ xs.drop p ++ cur.drop (p + news.length + (xs.drop p).length)).take p ++ news ++ (cur.take (p + news.length) ++ xs.drop p ++ cur.drop (p + news.length + (xs.drop p).length)).drop (p + news.length)).take (xs.length + news.length)) = xs.take p ++ news ++ xs.drop p := by
  have h1 : (cur.take (p + news.length) ++ xs.drop p ++ cur.drop (p + news.length + (xs.drop p).length)).take p = xs.take p := by
    rw [List.append_assoc, List.take_append_of_le_length (by simp; omega), List.take_take, Nat.min_eq_left (by omega)]
    rw [← hx, List.take_take, Nat.min_eq_left (by omega)]
  have h2 : (cur.take (p + news.length) ++ xs.drop p ++ cur.drop (p + news.length + (xs.drop p).length)).drop (p + news.length) = xs.drop p ++ cur.drop (p + news.length + (xs.drop p).length) := by
    rw [List.append_assoc]
    have hlen : (cur.take (p + news.length)).length = p + news.length := by simp; omega
    exact List.drop_left' hlen
  rw [h1, h2, ← List.append_assoc, List.take_append_of_le_length (by simp; omega), List.take_of_length_le (by simp; omega)]
/-- The other order: first the news, then what follows. -/
theorem ins_list2 {cur xs news : List Value} {p : Nat} (hx : cur.take p = xs.take p) (hp : p ≤ xs.length) (hl : xs.length + news.length ≤ cur.length) :
    (((cur.take p ++ news ++ cur.drop (p + news.length)).take (p + news.length) ++ xs.drop p ++ (cur.take p ++ news ++ cur.drop (p + news.length)).drop (p + news.length + (xs.drop p).length)).take (xs.length + news.length)) = xs.take p ++ news ++ xs.drop p := by
  have h1 : (cur.take p ++ news ++ cur.drop (p + news.length)).take (p + news.length) = xs.take p ++ news := by
    rw [hx]
    have hlen : (xs.take p ++ news).length = p + news.length := by simp; omega
    exact List.take_left' hlen
  rw [h1, List.take_append_of_le_length (by simp; omega), List.take_of_length_le (by simp; omega)]
/-- An owned row out of a block that is known whole. -/
theorem own_of_blk {w : World} {base g : Nat} {e : TypeId} {cur : Array Value} {size n cap : Nat} {xs : List Value} (hb : Blk w g e cur) (hg : base ≤ g) (hn : n ≤ cap) (hm : cap ≤ maxLen) (hs : cur.size = cap * size) (hx : cur.toList.take (n * size) = xs) :
    w.ownsRow base e size (.slice (some ⟨g, 0, none⟩) n cap) n xs := by
  refine ⟨?_, .inr ⟨g, cap, cur, rfl, hg, hb, hn, hm, hs, hx⟩⟩
  rw [← hx, List.length_take, Nat.min_eq_left]
  simp only [Array.length_toList, hs]
  exact Nat.mul_le_mul_right _ hn
/-- The block of an owned row. -/
theorem own_blk {w : World} {base : Nat} {e : TypeId} {size n m cap : Nat} {A : Option Addr} {xs : List Value} (h : w.ownsRow base e size (.slice A m cap) n xs) (h0 : 0 < n) :
    ∃ g cur, A = some ⟨g, 0, none⟩ ∧ m = n ∧ base ≤ g ∧ Blk w g e cur ∧ n ≤ cap ∧ cap ≤ maxLen ∧ cur.size = cap * size ∧ cur.toList.take (n * size) = xs := by
  obtain ⟨_, ⟨_, h1⟩ | ⟨g, cap', cur, e1, h1, h2, h3, h4, h5, h6⟩⟩ := h
  · omega
  · injection e1 with e1 e2 e3
    subst e1 e2 e3
    exact ⟨g, cur, rfl, rfl, h1, h2, h3, h4, h5, h6⟩
end Go.V
