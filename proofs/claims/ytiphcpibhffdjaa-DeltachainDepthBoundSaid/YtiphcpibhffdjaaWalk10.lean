/-
  Delta chains: walk of 'Pack'.
-/
import Derived.Test.YtiphcpibhffdjaaChV
namespace Go.Proofs.Ytiphcpibhffdjaa
open Go.RowKit Go.V
set_option linter.unusedVariables false

theorem info45 : (Try.prog.info? 45).map (fun i => (i.zero, i.size, i.bytes)) = some (some (.agg #[.int .i64 0, .slice none 0 0, .slice none 0 0]), 3, 56) := by kernel_rfl
theorem blk_put26' {w : World} {g : Nat} {a b : Value} (h : Blk w g 26 #[a, b]) (x y : Value) : Blk ((w.setCell ⟨g, 0, none⟩ x).setCell ⟨g, 1, none⟩ y) g 26 #[x, y] := blk_put2 h x y
/-- Entries and a fault. -/
def PackPost (w : World) (r : List Dc.En × (Int × Int)) (e : Ending) (w' : World) : Prop :=
  ∃ A c, e = .returned (.tuple #[.slice A r.1.length c, .agg #[.int .i64 r.2.1, .int .i64 r.2.2]]) ∧ r.1.length ≤ c ∧ ChV w' (Under w.heap.size) A r.1 ∧ Below w.heap.size w w'
theorem PackPost.fail_ {w w' : World} {r : List Dc.En × (Int × Int)} {c i : Int} (h : Hid (r = ([], (c, i)))) (hg : Below w.heap.size w w') : PackPost w r (.returned (.tuple #[.slice none 0 0, .agg #[.int .i64 c, .int .i64 i]])) w' := by
  rw [h.out]
  exact ⟨none, 0, rfl, Nat.le_refl _, ⟨[], SA.nil, rfl⟩, hg⟩
structure PkSt (w wr : World) (vs : List (List UInt8)) (d i : Nat) (Ao : Option Addr) (co : Nat) (xs : List Value) : Prop where
  own : wr.ownsRow (w.heap.size + 1) 45 3 (.slice Ao i co) i xs
  rows : RowsR (EnR wr (Or1 (Under (w.heap.size + 1)) (.slice Ao i co))) (Dc.packL vs d i) xs
  res : Blk wr w.heap.size 26 #[.int .i64 0, .int .i64 0]
  bel : Below w.heap.size w wr
theorem PkSt.hi {w wr : World} {vs : List (List UInt8)} {d i : Nat} {Ao : Option Addr} {co : Nat} {xs : List Value} (h : PkSt w wr vs d i Ao co xs) : w.heap.size + 1 ≤ wr.heap.size := h.res.lt
theorem PkSt.below {w wr w' : World} {vs : List (List UInt8)} {d i : Nat} {Ao : Option Addr} {co : Nat} {xs : List Value} (h : PkSt w wr vs d i Ao co xs) (hb : Below wr.heap.size wr w') : PkSt w w' vs d i Ao co xs :=
  ⟨h.own.kept (only_of_below hb none) (by cases hv : (Value.slice Ao i co).ownBlock <;> simp), h.rows.mono (EnR.keep (Keeps.below hb fun _ _ hx => hx)), h.res.below hb h.res.lt, h.bel.trans (hb.mono h.bel.size)⟩
theorem PkSt.app {w wr w' : World} {vs : List (List UInt8)} {d i : Nat} {Ao A' : Option Addr} {co c' : Nat} {xs cs : List Value} (h : PkSt w wr vs d i Ao co xs)
    (hc : EnR wr (Or1 (Under (w.heap.size + 1)) (.slice Ao i co)) (Dc.packAt vs d i) cs)
    (hg : wr.grownBy w' (Value.slice Ao i co).ownBlock) (hown : w'.ownsRow (w.heap.size + 1) 45 3 (.slice A' (i + 1) c') (i + 1) (xs ++ cs)) {H : Nat} (hH : wr.heap.size = H)
    (hb : (Value.slice A' (i + 1) c').ownBlock = (Value.slice Ao i co).ownBlock ∨ (Value.slice A' (i + 1) c').ownBlock = some H) : PkSt w w' vs d (i + 1) A' c' (xs ++ cs) := by
  have hk : Keeps wr (Or1 (Under (w.heap.size + 1)) (.slice Ao i co)) w' (Or1 (Under (w.heap.size + 1)) (.slice A' (i + 1) c')) := Keeps.or1 hg hH hb
  refine ⟨hown, ?_, h.res.grown hg (own_blk_ne h.own h.res (by decide)), h.bel.grown hg h.bel.size (fun k hk => by have := (h.own.lt k hk).1; omega)⟩
  rw [Dc.packL_succ]
  exact (h.rows.mono (EnR.keep hk)).append (RowsR.one (EnR.keep hk _ _ hc))
def packRes (vs : List (List UInt8)) (d : Int) : List Dc.En × (Int × Int) :=
  if (Dc.packFault vs d).1 ≠ 0 then ([], Dc.packFault vs d) else (Dc.packL vs d.toNat vs.length, (0, 0))

set_option maxRecDepth 100000 in
set_option maxHeartbeats 8000000 in
theorem pack_any (w : World) (A : Option Addr) (k : Nat) (vs : List (List UInt8)) (d : Int) (hv : VsV w Free A vs) (hl : vs.length ≤ 9223372036854775807) (hd : I64 d) :
    Calls Try.prog 17 #[.slice A vs.length k, .int .i64 d] w (PackPost w (packRes vs d)) := by
  obtain ⟨i0, hi0, hz0, hz1, hz2⟩ := info_parts info45
  have HR := Lib.hid (show packRes vs d = if (Dc.packFault vs d).1 ≠ 0 then ([], Dc.packFault vs d) else (Dc.packL vs d.toNat vs.length, (0, 0)) from rfl)
  have HF := Lib.hid (show Dc.packFault vs d = if 20 < vs.length then (2, -1) else if d < 0 ∨ 20 < d then (3, -1) else Dc.badFrom vs 0 from rfl)
  by_cases h20 : 20 < vs.length
  · have H := Lib.hid (show packRes vs d = ([], (2, -1)) from by rw [HR.out, HF.out, if_pos h20]; rfl)
    have h20' : (20 : Int) < vs.length := by omega
    clear HR HF
    go_enter Try.func17, Try.ntmps17
    go_wp2
    refine bodyPost_ret (results_tc rfl _ _ w.heap.size (.int .i64 2) (.int .i64 (-1)) rfl (Blk.new _ _ _)) rfl (PackPost.fail_ H ?_)
    exact below_alloc1 _ _
  · have h20' : (vs.length : Int) ≤ 20 := by omega
    have HF2 := Lib.hid (HF.out.trans (if_neg h20))
    clear HF
    by_cases hdb : d < 0 ∨ 20 < d
    · have H := Lib.hid (show packRes vs d = ([], (3, -1)) from by rw [HR.out, HF2.out, if_pos hdb]; rfl)
      clear HR HF2
      rcases hdb with hdb | hdb
      · go_enter Try.func17, Try.ntmps17
        go_wp2
        refine bodyPost_ret (results_tc rfl _ _ w.heap.size (.int .i64 3) (.int .i64 (-1)) rfl (Blk.new _ _ _)) rfl (PackPost.fail_ H ?_)
        exact below_alloc1 _ _
      · have hd0 : decide (d < 0) = false := by simp; omega
        go_enter Try.func17, Try.ntmps17
        go_wp2
        refine bodyPost_ret (results_tc rfl _ _ w.heap.size (.int .i64 3) (.int .i64 (-1)) rfl (Blk.new _ _ _)) rfl (PackPost.fail_ H ?_)
        exact below_alloc1 _ _
    · have HF3 := Lib.hid (HF2.out.trans (if_neg hdb))
      obtain ⟨dn, rfl⟩ := Int.eq_ofNat_of_zero_le (show 0 ≤ d by omega)
      have hd20 : dn ≤ 20 := by omega
      have hd20' : (dn : Int) ≤ 20 := by omega
      have hd0 : decide ((dn : Int) < 0) = false := by simp
      have HROW := Lib.hid (fun (wr : World) (hb : Below w.heap.size w wr) i hi => (hv.keep (Keeps.below hb (fun _ _ h => h))).row (w := wr) i hi)
      have HALL := Lib.hid (Dc.badFrom_code vs vs.length 0 (by omega))
      clear HF2 h20 hdb hd
      go_enter Try.func17, Try.ntmps17
      go_wp2_with fail
      go_loop [26] (fun v => ∃ i : Nat, i ≤ vs.length ∧ v = .int .i64 i ∧ Hid (Dc.badFrom vs 0 = Dc.badFrom vs i)) (fun v => vs.length - (intOf v).toNat)
      case atStart => exact ⟨0, Nat.zero_le _, rfl, rfl⟩
      case round =>
        obtain ⟨i, hi, rfl, HJ⟩ := hrel
        by_cases hil : i < vs.length
        · have hil' : (i : Int) < vs.length := by omega
          obtain ⟨b, off, Ad, kd, e, hb, _, hc, hk1, hk2, hsa⟩ := HROW.out _ (below_alloc1 w (.cells #[.int .i64 0, .int .i64 0] 26)) i hil
          subst e
          by_cases hbig : 1000 < vs[i].length
          · have H := Lib.hid (show packRes vs dn = ([], (10, (i : Int))) from by rw [HR.out, HF3.out, HJ.out, Dc.badFrom_bad vs i hil hbig]; rfl)
            have hbig' : (1000 : Int) < vs[i].length := by omega
            clear hbig
            generalize vs[i] = x at *
            go_wp2_with fail
            refine bodyPost_ret (results_tc rfl _ _ w.heap.size (.int .i64 10) (.int .i64 i) rfl (Blk.new _ _ _)) rfl (PackPost.fail_ H ?_)
            exact below_alloc1 _ _
          · have HJ2 := Lib.hid (HJ.out.trans (Dc.badFrom_next vs i hil (by omega)))
            have hbig' : (vs[i].length : Int) ≤ 1000 := by omega
            clear hbig
            generalize vs[i] = x at *
            go_wp2_with fail
            go_round
            case rel => exact ⟨i + 1, by omega, by go_num, HJ2⟩
            case measure => simp [intOf]; omega
        · obtain rfl : i = vs.length := by omega
          have hz := HJ.out.trans (Dc.badFrom_end vs _ (Nat.le_refl _))
          have hall : ∀ j (h : j < vs.length), vs[j].length ≤ 1000 := by
            rcases HALL.out with ⟨_, h2⟩ | h1
            · exact fun j hj => h2 j hj (Nat.zero_le _)
            · rw [hz] at h1; simp at h1
          have HL := Lib.hid hall
          have H := Lib.hid (show packRes vs dn = (Dc.packL vs dn vs.length, (0, 0)) from by rw [HR.out, HF3.out, hz]; rfl)
          clear hz hall HALL HJ HF3 HR hi hil
          have st0 : PkSt w (w.alloc (.cells #[.int .i64 0, .int .i64 0] 26)) vs dn 0 none 0 [] := ⟨World.ownsRow_nil _ _ _ _, rfl, Blk.new _ _ _, below_alloc1 _ _⟩
          go_wp2_with fail
          go_loopw [8, 39] (fun ov iv wr => ∃ (i : Nat) (Ao : Option Addr) (co : Nat) (xs : List Value), i ≤ vs.length ∧ ov = .slice Ao i co ∧ iv = .int .i64 i ∧ PkSt w wr vs dn i Ao co xs) (fun _ iv _ => vs.length - (intOf iv).toNat)
          case atStart => exact ⟨0, none, 0, [], Nat.zero_le _, rfl, rfl, st0⟩
          case round =>
            obtain ⟨i, Ao, co, xs, hi, rfl, rfl, st⟩ := hrel
            obtain ⟨wo, rfl⟩ : ∃ wo : World, wo = wr := ⟨_, rfl⟩
            clear st0
            have hsz := st.bel.size
            have hhi := st.hi
            by_cases hil : i < vs.length
            · have hil' : (i : Int) < vs.length := by omega
              obtain ⟨b, off, Ad, kd, e, hb, _, hc, hk1, hk2, hsa⟩ := HROW.out _ st.bel i hil
              subst e
              have hlen := HL.out i hil
              have hcast : (i : Int) % ((dn : Int) + 1) = ((i % (dn + 1) : Nat) : Int) := by rw [Int.natCast_emod]; rfl
              by_cases hm : i % (dn + 1) = 0
              · have hm0 : (i : Int) % ((dn : Int) + 1) = 0 := by rw [hcast, hm]; rfl
                have hm' : ((i : Int) % ((dn : Int) + 1) == 0) = true := by rw [hm0]; rfl
                have HP := Lib.hid (show Dc.packAt vs dn i = ⟨-1, vs[i], []⟩ from by unfold Dc.packAt; rw [if_pos hm, List.getElem?_eq_getElem hil]; rfl)
                clear hm hm0 hcast
                generalize vs[i] = x at *
                have HCL := Lib.hid (clone_any wo Ad kd x hsa.sv (by omega))
                go_wp2_with fail
                go_at_call 26
                refine HCL.out.mono ?_
                rintro e w2 ⟨A2, c2, rfl, hc2, hown2, hb2⟩
                have st2 := st.below hb2
                have hsz2 := hb2.size
                have hdat : SA w2 (Or1 (Under (w.heap.size + 1)) (.slice Ao i co)) A2 (bytesV x) := SA.of_own hown2 fun b hb => by
                  rcases hb with hb | hb
                  · unfold Under at hb; omega
                  · exact (st.own.lt b hb).2
                have hen : EnR w2 (Or1 (Under (w.heap.size + 1)) (.slice Ao i co)) ⟨-1, x, []⟩ [.int .i64 (-1), .slice A2 x.length c2, .slice none 0 0] :=
                  ⟨A2, c2, none, 0, [], rfl, by simp [I64], hc2, by simp only; omega, Nat.le_refl _, by simp, hdat, SA.nil, rfl⟩
                clear hown2 hb2 HCL hsa hdat
                have hb3 := below_alloc1 w2 (.cells #[.int .i64 (-1), .slice A2 x.length c2, .slice none 0 0] 45)
                have st3 := st2.below hb3
                have hen3 := EnR.keep (Keeps.alloc _ _ (.cells #[.int .i64 (-1), .slice A2 x.length c2, .slice none 0 0] 45)) _ _ hen
                have hsv3 : SV (w2.alloc (.cells #[.int .i64 (-1), .slice A2 x.length c2, .slice none 0 0] 45)) (w2.heap.size + 1) (some ⟨w2.heap.size, 0, none⟩) [.int .i64 (-1), .slice A2 x.length c2, .slice none 0 0] := by
                  have := SV.lit w2 #[.int .i64 (-1), .slice A2 x.length c2, .slice none 0 0] 45
                  simpa using this
                rw [← HP.out] at hen3
                have hlo3 := st3.hi
                clear hb3 hen st2 st
                go_wp2_with (first | (at_builtin; refine wpList_appNo _ rfl (.tmp 49) (.tmp 53) 40 rfl (w.heap.size + 1) 45 i0 _ 3 56 Try.underlying40 hi0 hz0 hz1 hz2 rfl (by decide) Ao i co xs rfl st3.own _ (some ⟨w2.heap.size, 0, none⟩) 1 1 [.int .i64 (-1), .slice A2 x.length c2, .slice none 0 0] rfl rfl hsv3 (by intro u hu; simp at hu; rcases hu with rfl | rfl | rfl <;> rfl) ?ha1 ?hb1 hlo3 ?_))
                case ha1 => simp [maxLen]; omega
                case hb1 => omega
                intro A4 c4 w4 hown4 hg4 _ hob4
                have st4 := st3.app (H := w2.heap.size + 1) hen3 hg4 hown4 (by simp) hob4
                clear hown4 hg4 hob4 st3 hen3 hsv3 hlo3
                go_wp2_with fail
                go_roundw
                case rel => exact ⟨i + 1, _, _, _, by omega, rfl, by go_num, st4⟩
                case measure => simp [intOf]; omega
              · have hm0 : ¬ (i : Int) % ((dn : Int) + 1) = 0 := by rw [hcast]; omega
                have hm' : ((i : Int) % ((dn : Int) + 1) == 0) = false := by simpa using hm0
                have hi0' : 0 < i := by
                  rcases Nat.eq_zero_or_pos i with h0 | h0
                  · rw [h0] at hm; simp at hm
                  · exact h0
                have hi1 : (1 : Int) ≤ i := by omega
                have hip : i - 1 < vs.length := by omega
                obtain ⟨b', off', Ad', kd', e', hb', _, hc', hk1', hk2', hsa'⟩ := HROW.out _ st.bel (i - 1) hip
                cases e'
                have hlen' := HL.out (i - 1) hip
                have HP := Lib.hid (show Dc.packAt vs dn i = ⟨(i : Int) - 1, [], Dc.encode vs[i - 1] vs[i]⟩ from by unfold Dc.packAt; rw [if_neg hm, List.getElem?_eq_getElem hil, List.getElem?_eq_getElem hip]; rfl)
                have HCL := encode_fresh wo Ad' Ad kd' kd vs[i - 1] vs[i] hsa'.sv hsa.sv hk1 (by omega) (by omega)
                have HE : encF vs[i - 1] vs[i] = (Dc.encode vs[i - 1] vs[i], (0, 0)) := by unfold encF; rw [if_neg (by omega), if_neg (by omega)]
                have hol := Dc.encode_len' vs[i - 1] vs[i] hlen
                rw [HE] at HCL
                have HC := Lib.hid HCL
                clear hm hm0 hcast HE HCL
                generalize Dc.encode vs[i - 1] vs[i] = ops at *
                generalize vs[i - 1] = y at *
                generalize vs[i] = x at *
                go_wp2_with fail
                go_at_call 11
                refine HC.out.mono ?_
                rintro e w2 ⟨v2, rfl, ⟨A3, c3, us, rfl, hc3, hown2, hrows2⟩, hb2'⟩
                have hb2 := hb2'.alloc hb2'.size (.cells #[.int .i64 0, .int .i64 0] 26)
                have st2 := st.below hb2
                have hsz2 := hb2'.size
                have hX : ∀ b, (Or1 (Under (w.heap.size + 1)) (.slice Ao i co)) b → b < wo.heap.size := fun b hb => by
                  rcases hb with hb | hb
                  · unfold Under at hb; omega
                  · exact (st.own.lt b hb).2
                have hen0 : EnR w2 (Or1 (Under (w.heap.size + 1)) (.slice Ao i co)) ⟨(i : Int) - 1, [], ops⟩ [.int .i64 ((i : Int) - 1), .slice none 0 0, .slice A3 ops.length c3] :=
                  ⟨none, 0, A3, c3, us, rfl, by simp [I64]; omega, Nat.le_refl _, by simp, hc3, by simp only; omega, SA.nil, SA.of_own hown2 hX, hrows2.mono (OpA.of_O hX)⟩
                have hen := EnR.keep (Keeps.alloc _ _ (.cells #[.int .i64 0, .int .i64 0] 26)) _ _ hen0
                clear hown2 hb2 hb2' HC hsa hsa' hX hen0 hrows2
                have hb3 := below_alloc1 (w2.alloc (.cells #[.int .i64 0, .int .i64 0] 26)) (.cells #[.int .i64 ((i : Int) - 1), .slice none 0 0, .slice A3 ops.length c3] 45)
                have st3 := st2.below hb3
                have hen3 := EnR.keep (Keeps.alloc _ _ (.cells #[.int .i64 ((i : Int) - 1), .slice none 0 0, .slice A3 ops.length c3] 45)) _ _ hen
                have hsv3 : SV ((w2.alloc (.cells #[.int .i64 0, .int .i64 0] 26)).alloc (.cells #[.int .i64 ((i : Int) - 1), .slice none 0 0, .slice A3 ops.length c3] 45)) (w2.heap.size + 1 + 1) (some ⟨w2.heap.size + 1, 0, none⟩) [.int .i64 ((i : Int) - 1), .slice none 0 0, .slice A3 ops.length c3] := by
                  have := SV.lit (w2.alloc (.cells #[.int .i64 0, .int .i64 0] 26)) #[.int .i64 ((i : Int) - 1), .slice none 0 0, .slice A3 ops.length c3] 45
                  simpa using this
                rw [← HP.out] at hen3
                have hlo3 := st3.hi
                clear hb3 hen st2 st
                go_wp2_with (first | (at_builtin; refine wpList_appNo _ rfl (.tmp 65) (.tmp 70) 40 rfl (w.heap.size + 1) 45 i0 _ 3 56 Try.underlying40 hi0 hz0 hz1 hz2 rfl (by decide) Ao i co xs rfl st3.own _ (some ⟨w2.heap.size + 1, 0, none⟩) 1 1 [.int .i64 ((i : Int) - 1), .slice none 0 0, .slice A3 ops.length c3] rfl rfl hsv3 (by intro u hu; simp at hu; rcases hu with rfl | rfl | rfl <;> rfl) ?ha2 ?hb2 hlo3 ?_))
                case ha2 => simp [maxLen]; omega
                case hb2 => omega
                intro A4 c4 w4 hown4 hg4 _ hob4
                have st4 := st3.app (H := w2.heap.size + 1 + 1) hen3 hg4 hown4 (by simp) hob4
                clear hown4 hg4 hob4 st3 hen3 hsv3 hlo3
                go_wp2_with fail
                go_roundw
                case rel => exact ⟨i + 1, _, _, _, by omega, rfl, by go_num, st4⟩
                case measure => simp [intOf]; omega
            · obtain rfl : i = vs.length := by omega
              have hc0 := st.res.cell 0
              have hc1 := st.res.cell 1
              have hf0 := st.res.frozen 0
              have hf1 := st.res.frozen 1
              simp only [List.getElem?_toArray, List.getElem?_cons_zero, List.getElem?_cons_succ] at hc0 hc1
              go_wp2_with fail
              refine bodyPost_ret (results_tc rfl _ _ w.heap.size (.int .i64 0) (.int .i64 0) rfl (blk_put2 st.res _ _)) rfl ?_
              rw [H.out]
              obtain ⟨A', c', e1, hcc, _⟩ := own_form st.own
              injection e1 with _ _ e3
              subst e3
              have hu : (Under (w.heap.size + 1)) w.heap.size := by unfold Under; omega
              have hk := (Keeps.setCell wo (Or1 (Under (w.heap.size + 1)) (.slice Ao vs.length co)) ⟨w.heap.size, 0, none⟩ (.int .i64 0) (.inl hu)).trans (Keeps.setCell _ (Or1 (Under (w.heap.size + 1)) (.slice Ao vs.length co)) ⟨w.heap.size, 1, none⟩ (.int .i64 0) (.inl hu))
              have hk2 := hk.into (X'' := Under w.heap.size) fun b hb => .inl (by unfold Under at *; omega)
              refine ⟨Ao, co, by rw [Dc.packL_length]; rfl, by rw [Dc.packL_length]; exact hcc, ⟨xs, ?_, st.rows.mono (EnR.keep hk2)⟩, (st.bel.setCell (by simp) _).setCell (by simp) _⟩
              exact SA.of_own (own_setCell (own_setCell st.own (own_blk_ne st.own st.res (by decide)) _) (own_blk_ne st.own st.res (by decide)) _) (fun b hb => by unfold Under at hb; omega)
end Go.Proofs.Ytiphcpibhffdjaa
