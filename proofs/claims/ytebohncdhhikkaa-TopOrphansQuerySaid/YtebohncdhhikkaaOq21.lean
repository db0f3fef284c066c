/-
  Markers: walk of 'Replaced'.
-/
import Derived.Test.YtebohncdhhikkaaOq20
import Derived.BigRegion
namespace Go.Proofs.Ytebohncdhhikkaa
open Go.RowKit Go.V
set_option linter.unusedVariables false
/-- The state: a table of rows of 60 bools. -/
structure RpSt (w wr : World) (A : Option Addr) (c : Nat) (xs : List Value) : Prop where
  own : wr.ownsRow w.heap.size 46 1 (.slice A xs.length c) xs.length xs
  rows : ∀ i (h : i < xs.length), ∃ g, xs[i] = .slice (some ⟨g, 0, none⟩) 60 60 ∧ BoolBlk wr g 60 ∧ w.heap.size ≤ g
  bel : Below w.heap.size w wr
theorem RpSt.set_ {w wr : World} {A : Option Addr} {c : Nat} {xs : List Value} (h : RpSt w wr A c xs) {g : Nat} (hg : BoolBlk wr g 60) (hw : w.heap.size ≤ g) (i : Nat) (x : Bool) : RpSt w (wr.setCell ⟨g, i, none⟩ (.bool x)) A c xs := by
  obtain ⟨f, hf⟩ := hg
  exact ⟨own_setCell h.own (own_blk_ne h.own hf (by decide)) _, fun j hj => by obtain ⟨g', e, h1, h2⟩ := h.rows j hj; exact ⟨g', e, h1.set_ g i x, h2⟩, h.bel.setCell hw _⟩
theorem RpSt.drew {w wr : World} {A : Option Addr} {c : Nat} {xs : List Value} (h : RpSt w wr A c xs) : RpSt w wr.drew A c xs :=
  ⟨h.own.drew, fun j hj => by obtain ⟨g', e, h1, h2⟩ := h.rows j hj; exact ⟨g', e, h1.below (below_drew' (Below.refl _ _)), h2⟩, below_drew' h.bel⟩
/-- A row of the table, and one of its cells. -/
theorem RpSt.at_ {w wr : World} {A : Option Addr} {c : Nat} {xs : List Value} (h : RpSt w wr A c xs) (i : Nat) (hi : i < xs.length) : ∃ gA g f, A = some ⟨gA, 0, none⟩ ∧ gA < wr.heap.size ∧ wr.cell? ⟨gA, i, none⟩ = some (.slice (some ⟨g, 0, none⟩) 60 60) ∧ Blk wr g 4 (boolsA (tab 60 f)) ∧ w.heap.size ≤ g := by
  obtain ⟨g, e, ⟨f, hf⟩, hw⟩ := h.rows i hi
  obtain ⟨gA, cap, hv, h1, h2⟩ := h.own.form (by omega)
  injection hv with e1 e2 e3
  subst e1
  subst e3
  exact ⟨gA, g, f, rfl, h2, by rw [h.own.cellAt i (by omega), List.getElem?_eq_getElem hi, e], hf, hw⟩
theorem RpSt.post {w wr : World} {A : Option Addr} {c : Nat} {xs : List Value} (h : RpSt w wr A c xs) (hl : xs.length = 60) : RpPost w (.returned (.slice A 60 c)) wr := by
  have ho := SV.of_own h.own
  exact ⟨A, c, xs, rfl, ho, hl, fun i hi => by obtain ⟨g, e, h1, _⟩ := h.rows i hi; exact ⟨g, e, h1⟩, h.bel⟩
theorem info46r : (Try.prog.info? 46).map (fun i => (i.zero, i.size, i.bytes)) = some (some (.slice none 0 0), 1, 24) := by kernel_rfl
set_option maxRecDepth 100000 in
set_option maxHeartbeats 16000000 in
theorem replaced_any (w : World) (A : Option Addr) (k : Nat) (l : List Oq.Mk) (hv : MV w A l) (hl : l.length ≤ 40) (hok : ∀ i (h : i < l.length), MkOk l[i]) :
    Calls Try.prog 36 #[.slice A l.length k] w (RpPost w) := by
  have HV := Lib.hid (fun (w1 : World) (hb : Below w.heap.size w w1) (i : Nat) (hi : i < l.length) => (hv.below hb).row i hi)
  have HOK := Lib.hid hok
  have hmk : ∀ W : World, (Instr.makeSlice 46 (.int .i64 60) (.int .i64 60)).run Try.prog W = .ok (.slice (some ⟨W.heap.size, 0, none⟩) 60 60) (W.alloc (.cells (madeCells #[.bool false] 60) 4)) := fun W => run_make_row' (P := Try.prog) 46 4 (.bool false) 1 Try.underlying46 info4 rfl .i64 .i64 60 (by omega) (by omega) W
  obtain ⟨i0, hi0, hz0, hz1, hz2⟩ := info_parts info46r
  clear hv hok
  go_enter Try.func36, Try.ntmps36
  go_wp2_with fail
  go_loopw [3, 4] (fun ov iv wr => ∃ (i : Nat) (Ao : Option Addr) (co : Nat) (xs : List Value), i ≤ 60 ∧ xs.length = i ∧ ov = .slice Ao i co ∧ iv = .int .i64 i ∧ RpSt w wr Ao co xs) (fun _ iv _ => 60 - (intOf iv).toNat)
  case atStart => exact ⟨0, none, 0, [], Nat.zero_le _, rfl, rfl, rfl, World.ownsRow_nil _ _ _ _, fun i h => absurd h (by simp), Below.refl _ _⟩
  case round =>
    obtain ⟨i, Ao, co, xs, hi, hxl, rfl, rfl, st⟩ := hrel
    obtain ⟨wo, rfl⟩ : ∃ wo : World, wo = wr := ⟨_, rfl⟩
    have hsz := st.bel.size
    by_cases hlt : i < 60
    · have hlt' : (i : Int) ≤ 59 := by omega
      have h63 : i + 1 ≤ maxLen := by unfold maxLen; omega
      have hby : (i + 1) * 24 ≤ 140737488355328 := by omega
      have bB := (blk_made_bool wo 4 60).alloc (.cells #[.slice (some ⟨wo.heap.size, 0, none⟩) 60 60] 46)
      have hown := (st.own.alloc (.cells (madeCells #[.bool false] 60) 4)).alloc (.cells #[.slice (some ⟨wo.heap.size, 0, none⟩) 60 60] 46)
      rw [hxl] at hown
      have hu := ((blk_new1 wo (.cells (madeCells #[.bool false] 60) 4) 46 #[.slice (some ⟨wo.heap.size, 0, none⟩) 60 60]).cell 0).trans (rfl : _ = some (Value.slice (some ⟨wo.heap.size, 0, none⟩) 60 60))
      go_wp2_with (first | (at_builtin; refine wpList_app1 _ rfl (.tmp 14) (.tmp 16) 64 rfl w.heap.size 46 i0 (.slice none 0 0) 24 Try.underlying64 hi0 hz0 hz1 hz2 rfl Ao i co xs rfl hown (wo.heap.size + 1) 1 (.slice (some ⟨wo.heap.size, 0, none⟩) 60 60) rfl hu rfl h63 hby (Nat.le_trans hsz (by simp; omega)) ?_))
      intro A' c' w' hown' hg' hc'
      have hbw := ((st.bel.alloc hsz (.cells (madeCells #[.bool false] 60) 4)).alloc (by simp; omega) (.cells #[.slice (some ⟨wo.heap.size, 0, none⟩) 60 60] 46))
      have st2 : RpSt w w' A' c' (xs ++ [.slice (some ⟨wo.heap.size, 0, none⟩) 60 60]) := ⟨by simpa [hxl] using hown', fun j hj => by
        have keep : ∀ g, BoolBlk ((wo.alloc (.cells (madeCells #[.bool false] 60) 4)).alloc (.cells #[.slice (some ⟨wo.heap.size, 0, none⟩) 60 60] 46)) g 60 → BoolBlk w' g 60 := fun g ⟨f, hf⟩ => ⟨f, hf.grown hg' (own_blk_ne hown hf (by decide))⟩
        by_cases e : j < xs.length
        · obtain ⟨g, e', h1, h2⟩ := st.rows j e
          exact ⟨g, by rw [List.getElem_append_left e]; exact e', keep g (h1.below (below_alloc2 _ _ _)), h2⟩
        · obtain rfl : j = xs.length := by simp at hj; omega
          exact ⟨wo.heap.size, by rw [List.getElem_concat_length rfl], keep _ ⟨_, bB⟩, hsz⟩, hbw.grown hg' (by simp; omega) (fun g e => (hown.lt g e).1)⟩
      have hxl2 : (xs ++ [Value.slice (some ⟨wo.heap.size, 0, none⟩) 60 60]).length = i + 1 := by simp [hxl]
      clear hown' hg' hown hu bB hbw st
      go_wp2_with fail
      go_roundw
      case rel => exact ⟨i + 1, A', c', _, by omega, hxl2, rfl, by go_num, st2⟩
      case measure => simp [intOf]; omega
    · obtain rfl : i = 60 := by omega
      go_wp2_with fail
      go_loopw [5] (fun iv wr => ∃ i : Nat, i ≤ l.length ∧ iv = .int .i64 i ∧ RpSt w wr Ao co xs) (fun iv _ => l.length - (intOf iv).toNat)
      case atStart => exact ⟨0, Nat.zero_le _, rfl, st⟩
      case round =>
        clear st
        obtain ⟨i, hi2, rfl, st⟩ := hrel
        obtain ⟨wq, rfl⟩ : ∃ wo : World, wo = wr := ⟨_, rfl⟩
        by_cases hlt : i < l.length
        · have hlt' : (i : Int) < l.length := by omega
          go_wp2_with fail
          go_loopw [6] (fun jv wr => ∃ j : Nat, j ≤ l[i].new.length ∧ jv = .int .i64 j ∧ RpSt w wr Ao co xs) (fun jv _ => l[i].new.length - (intOf jv).toNat)
          case atStart => exact ⟨0, Nat.zero_le _, rfl, st⟩
          case round =>
            clear st
            obtain ⟨j, hj, rfl, st⟩ := hrel
            obtain ⟨wi, rfl⟩ : ∃ wo : World, wo = wr := ⟨_, rfl⟩
            obtain ⟨b, off, Ap, kp, e, hb, d0, d1, hnl, hiv⟩ := HV.out _ st.bel i hlt
            obtain ⟨⟨ok1, ok2⟩, ok3⟩ := HOK.out i hlt
            subst e
            generalize l[i] = x at *
            obtain ⟨mo, mn⟩ := x
            simp only at hj ok1 ok2 ok3 d0 d1 hnl hiv
            by_cases hjl : j < mn.length
            · have hjl' : (j : Int) < mn.length := by omega
              obtain ⟨b2, o2, e2, hb2, c2⟩ := hiv.at_ j hjl
              subst e2
              obtain ⟨n1, n2⟩ := ok3 j hjl
              generalize mn[j] = y at *
              obtain ⟨o, rfl⟩ := Int.eq_ofNat_of_zero_le ok1
              obtain ⟨z, rfl⟩ := Int.eq_ofNat_of_zero_le n1
              have ho : o < 60 := by omega
              have hz : z < 60 := by omega
              have ho' : (o : Int) < 60 := by omega
              have hz' : (z : Int) < 60 := by omega
              obtain ⟨gA, g, f, eA, hgA, ca, hB, hgw⟩ := st.at_ o (by omega)
              subst eA
              have q0 := blk_tabB hB z hz
              have qf := hB.frozen z
              have ql := hB.lt
              have st2 := (st.set_ ⟨f, hB⟩ hgw z true).drew
              clear st HV HOK hiv
              go_wp2_with fail
              go_region
              all_goals
                go_wp2_with fail
                go_roundw
                case rel => exact ⟨j + 1, by omega, by go_num, st2⟩
                case measure => simp [intOf]; omega
            · obtain rfl : j = mn.length := by omega
              go_wp2_with fail
              go_roundw
              case rel => exact ⟨i + 1, by omega, by go_num, st⟩
              case measure => simp [intOf]; omega
        · obtain rfl : i = l.length := by omega
          go_wp2_with fail
          go_loopw [7] (fun iv wr => ∃ x : Nat, x ≤ 60 ∧ iv = .int .i64 x ∧ RpSt w wr Ao co xs) (fun iv _ => 60 - (intOf iv).toNat)
          case atStart => exact ⟨0, Nat.zero_le _, rfl, st⟩
          case round =>
            clear st
            obtain ⟨x, hx, rfl, st⟩ := hrel
            obtain ⟨wx, rfl⟩ : ∃ wo : World, wo = wr := ⟨_, rfl⟩
            by_cases hx6 : x < 60
            · have hx' : (x : Int) ≤ 59 := by omega
              have hx'' : (x : Int) < 60 := by omega
              go_wp2_with fail
              go_loopw [8] (fun iv wr => ∃ y : Nat, y ≤ 60 ∧ iv = .int .i64 y ∧ RpSt w wr Ao co xs) (fun iv _ => 60 - (intOf iv).toNat)
              case atStart => exact ⟨0, Nat.zero_le _, rfl, st⟩
              case round =>
                clear st
                obtain ⟨y, hy, rfl, st⟩ := hrel
                obtain ⟨wy, rfl⟩ : ∃ wo : World, wo = wr := ⟨_, rfl⟩
                by_cases hy6 : y < 60
                · have hy' : (y : Int) ≤ 59 := by omega
                  have hy'' : (y : Int) < 60 := by omega
                  go_wp2_with fail
                  go_loopw [9] (fun iv wr => ∃ z : Nat, z ≤ 60 ∧ iv = .int .i64 z ∧ RpSt w wr Ao co xs) (fun iv _ => 60 - (intOf iv).toNat)
                  case atStart => exact ⟨0, Nat.zero_le _, rfl, st⟩
                  case round =>
                    clear st
                    obtain ⟨z, hz, rfl, st⟩ := hrel
                    obtain ⟨wz, rfl⟩ : ∃ wo : World, wo = wr := ⟨_, rfl⟩
                    by_cases hz6 : z < 60
                    · have hz' : (z : Int) ≤ 59 := by omega
                      have hz'' : (z : Int) < 60 := by omega
                      have stK := Lib.hid st
                      obtain ⟨gA, g, f, eA, hgA, ca, hB, hgw⟩ := st.at_ y (by omega)
                      subst eA
                      obtain ⟨gA2, g2, f2, eA2, _, ca2, hB2, _⟩ := st.at_ x (by omega)
                      injection eA2 with eA2
                      injection eA2 with eA3 _ _
                      subst eA3
                      have q0 := blk_tabB hB x hx6
                      have q1 := blk_tabB hB z hz6
                      have q2 := blk_tabB hB2 z hz6
                      have qf := hB.frozen z
                      have ql := hB.lt
                      have ql2 := hB2.lt
                      have st2 := Lib.hid (st.set_ ⟨f, hB⟩ hgw z (f z || f2 z)).drew
                      clear st hB hB2
                      generalize f x = v0 at *
                      generalize f z = v1 at *
                      generalize f2 z = v2 at *
                      cases v0 with
                      | false =>
                        clear st2
                        go_wp2_with fail
                        go_roundw
                        case rel => exact ⟨y + 1, by omega, by go_num, stK.out⟩
                        case measure => simp [intOf]; omega
                      | true =>
                        cases v1 with
                        | true =>
                          simp only [Bool.true_or] at st2
                          go_wp2_with fail
                          go_region
                          all_goals
                            go_wp2_with fail
                            go_roundw
                            case rel =>
                              repeat apply Exists.intro
                              refine ⟨?_, rfl⟩
                              exact ⟨z + 1, by omega, by go_num, st2.out⟩
                            case measure => simp [intOf]; omega
                        | false =>
                          simp only [Bool.false_or] at st2
                          go_wp2_with fail
                          go_region
                          all_goals
                            go_wp2_with fail
                            go_roundw
                            case rel =>
                              repeat apply Exists.intro
                              refine ⟨?_, rfl⟩
                              exact ⟨z + 1, by omega, by go_num, st2.out⟩
                            case measure => simp [intOf]; omega
                    · obtain rfl : z = 60 := by omega
                      go_wp2_with fail
                      go_roundw
                      case rel => exact ⟨y + 1, by omega, by go_num, st⟩
                      case measure => simp [intOf]; omega
                · obtain rfl : y = 60 := by omega
                  go_wp2_with fail
                  go_roundw
                  case rel => exact ⟨x + 1, by omega, by go_num, st⟩
                  case measure => simp [intOf]; omega
            · obtain rfl : x = 60 := by omega
              have HF := Lib.hid (st.post hxl)
              go_wp2_with fail
              go_ret
              exact HF.out
end Go.Proofs.Ytebohncdhhikkaa
