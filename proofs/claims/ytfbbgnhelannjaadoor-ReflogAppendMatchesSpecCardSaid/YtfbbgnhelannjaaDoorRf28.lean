/-
  Logs: walks of 'checkTime', 'until', 'Earlier', 'Logs', a log's Clone.
-/
import Derived.Test.YtfbbgnhelannjaaDoorRf25
import Derived.Test.YtfbbgnhelannjaaDoorRfL
namespace Rf
def ctF (t : Int) : Int × Int := if t < 0 ∨ 100000 < t then (3, -3) else (0, 0)
theorem unt_drop1 (l : List E) (t : Int) (i : Nat) (h : i < l.length) : unt (l.drop i) t = if l[i].time < t then unt (l.drop (i + 1)) t + 1 else 0 := by
  rw [List.drop_eq_getElem_cons h, unt]
theorem ear_take (l : List E) (t : Int) (i : Nat) (h : i < l.length) : ear (l.take (i + 1)) t = ear (l.take i) t + (if l[i].time < t then 1 else 0) := by
  unfold ear; rw [List.take_succ_eq_append_getElem h, List.filter_append, List.length_append]
  by_cases hc : l[i].time < t
  · simp [hc]
  · simp [hc]
theorem ear_le (l : List E) (t : Int) : ear l t ≤ l.length := List.length_filter_le _ _
end Rf
namespace Go.Proofs.YtfbbgnhelannjaaDoor
open Go.RowKit Go.V Go.Shelf Go.Lib
set_option linter.unusedVariables false

theorem checkTime_any (w : World) (t : Int) : Calls Tryd.prog 53 #[.int .i64 t] w (FaultPost w (Rf.ctF t)) := by
  have HF := Lib.hid (Rf.ctF.eq_1 t)
  generalize Rf.ctF t = r at *
  have br := Blk.new w 30 #[.int .i64 0, .int .i64 0]
  by_cases h1 : t < 0
  · have H := Lib.hid (HF.out.trans (if_pos (.inl h1)))
    clear HF
    go_enter Tryd.func53, Tryd.ntmps53
    go_wp2_with fail
    refine bodyPost_ret (results_c30 rfl _ _ w.heap.size (.int .i64 3) (.int .i64 (-3)) rfl (Blk.new w 30 #[.int .i64 3, .int .i64 (-3)])) rfl (FaultPost.mk_ H.out (below_alloc1 _ _))
  · by_cases h2 : 100000 < t
    · have H := Lib.hid (HF.out.trans (if_pos (.inr h2)))
      clear HF
      go_enter Tryd.func53, Tryd.ntmps53
      go_wp2_with fail
      refine bodyPost_ret (results_c30 rfl _ _ w.heap.size (.int .i64 3) (.int .i64 (-3)) rfl (Blk.new w 30 #[.int .i64 3, .int .i64 (-3)])) rfl (FaultPost.mk_ H.out (below_alloc1 _ _))
    · have H := Lib.hid (HF.out.trans (if_neg (fun h => h.elim h1 h2)))
      clear HF
      go_enter Tryd.func53, Tryd.ntmps53
      go_wp2_with fail
      refine bodyPost_ret (results_c30 rfl _ _ w.heap.size (.int .i64 0) (.int .i64 0) rfl (Blk.new w 30 #[.int .i64 0, .int .i64 0])) rfl (FaultPost.mk_ H.out (below_alloc1 _ _))
set_option maxHeartbeats 8000000 in
theorem until_any (w : World) (A : Option Addr) (k : Nat) (l : List Rf.E) (t : Int) (hv : SA w Free A (esV l)) (hl : l.length ≤ 9223372036854775806) :
    Calls Tryd.prog 54 #[.slice A l.length k, .int .i64 t] w fun e w' => e = .returned (.int .i64 (Rf.unt l t : Nat)) ∧ w' = w := by
  have HV := Lib.hid (fun i hi => esV_row hv i hi)
  clear hv
  go_enter Tryd.func54, Tryd.ntmps54
  go_wp2_with fail
  go_loopw [5] (fun iv wr => ∃ i : Nat, i ≤ l.length ∧ iv = .int .i64 i ∧ Hid (Rf.unt l t = i + Rf.unt (l.drop i) t) ∧ wr = w) (fun iv _ => l.length - (intOf iv).toNat)
  case atStart => exact ⟨0, Nat.zero_le _, rfl, Lib.hid (by simp), rfl⟩
  case round =>
    obtain ⟨i, hi, rfl, H, rfl⟩ := hrel
    obtain ⟨wo, rfl⟩ : ∃ wo : World, wo = wr := ⟨_, rfl⟩
    by_cases hlt : i < l.length
    · have hlt' : (i : Int) < l.length := by omega
      obtain ⟨b, off, e, hb, _, d0, d1, d2, d3⟩ := HV.out i hlt
      subst e
      have HD := Lib.hid (Rf.unt_drop1 l t i hlt)
      generalize l[i] = x at *
      by_cases hc : x.time < t
      · have HN : Hid (Rf.unt l t = (i + 1 : Nat) + Rf.unt (l.drop (i + 1)) t) := Lib.hid (by rw [H.out, HD.out, if_pos hc]; omega)
        clear H HD
        go_wp2_with fail
        go_roundw
        case rel => exact ⟨i + 1, by omega, by go_num, HN, by first | rfl | trivial⟩
        case measure => simp [intOf]; omega
      · have HN : Hid (Rf.unt l t = i) := Lib.hid (by rw [H.out, HD.out, if_neg hc]; rfl)
        clear H HD
        go_wp2_with fail
        go_ret
        exact ⟨by rw [HN.out]; rfl, rfl⟩
    · obtain rfl : i = l.length := by omega
      have HN : Hid (Rf.unt l t = l.length) := Lib.hid (by rw [H.out, List.drop_length]; rfl)
      clear H
      go_wp2_with fail
      go_ret
      exact ⟨by rw [HN.out]; rfl, rfl⟩
set_option maxHeartbeats 8000000 in
theorem earlier_any (w : World) (A : Option Addr) (k : Nat) (l : List Rf.E) (t : Int) (hv : SA w Free A (esV l)) (hl : l.length ≤ 9223372036854775806) :
    Calls Tryd.prog 36 #[.slice A l.length k, .int .i64 t] w fun e w' => e = .returned (.int .i64 (Rf.ear l t : Nat)) ∧ w' = w := by
  have HV := Lib.hid (fun i hi => esV_row hv i hi)
  clear hv
  go_enter Tryd.func36, Tryd.ntmps36
  go_wp2_with fail
  go_loopw [5, 6] (fun cv iv wr => ∃ (i c : Nat), i ≤ l.length ∧ iv = .int .i64 i ∧ cv = .int .i64 c ∧ c ≤ i ∧ Hid (c = Rf.ear (l.take i) t) ∧ wr = w) (fun _ iv _ => l.length - (intOf iv).toNat)
  case atStart => exact ⟨0, 0, Nat.zero_le _, rfl, rfl, Nat.le_refl _, Lib.hid rfl, rfl⟩
  case round =>
    obtain ⟨i, c, hi, rfl, rfl, hci, H, rfl⟩ := hrel
    obtain ⟨wo, rfl⟩ : ∃ wo : World, wo = wr := ⟨_, rfl⟩
    by_cases hlt : i < l.length
    · have hlt' : (i : Int) < l.length := by omega
      obtain ⟨b, off, e, hb, _, d0, d1, d2, d3⟩ := HV.out i hlt
      subst e
      have HD := Lib.hid (Rf.ear_take l t i hlt)
      generalize l[i] = x at *
      by_cases hc : x.time < t
      · have HN : Hid (c + 1 = Rf.ear (l.take (i + 1)) t) := Lib.hid (by rw [HD.out, if_pos hc, ← H.out])
        clear H HD
        go_wp2_with fail
        go_roundw
        case rel => exact ⟨i + 1, c + 1, by omega, by go_num, by go_num, by omega, HN, by first | rfl | trivial⟩
        case measure => simp [intOf]; omega
      · have HN : Hid (c = Rf.ear (l.take (i + 1)) t) := Lib.hid (by rw [HD.out, if_neg hc, ← H.out]; rfl)
        clear H HD
        go_wp2_with fail
        go_roundw
        case rel => exact ⟨i + 1, c, by omega, by go_num, rfl, by omega, HN, by first | rfl | trivial⟩
        case measure => simp [intOf]; omega
    · obtain rfl : i = l.length := by omega
      have HN : Hid (c = Rf.ear l t) := Lib.hid (by rw [H.out, List.take_length])
      clear H
      go_wp2_with fail
      go_ret
      exact ⟨by rw [HN.out]; rfl, rfl⟩
theorem eq_upto_e {s t : List Rf.E} (hl : s.length = t.length) (h : ∀ j (h1 : j < s.length) (h2 : j < t.length), s[j] = t[j]) : s = t :=
  List.ext_getElem hl fun i h1 h2 => h i h1 h2
set_option maxRecDepth 100000 in
set_option maxHeartbeats 8000000 in
theorem logs_any (w : World) (A1 A2 : Option Addr) (c1 c2 : Nat) (l1 l2 : List Rf.E) (h1 : SA w Free A1 (esV l1)) (h2 : SA w Free A2 (esV l2)) (hl1 : l1.length ≤ 9223372036854775806) (hl2 : l2.length ≤ 9223372036854775806) :
    Calls Tryd.prog 37 #[.slice A1 l1.length c1, .slice A2 l2.length c2] w fun e w' => e = .returned (.bool (decide (l1 = l2))) ∧ Below w.heap.size w w' := by
  by_cases hlen : l1.length = l2.length
  · have hlen' : ((l1.length : Int) != l2.length) = false := by simp [hlen]
    have HR1 := Lib.hid (fun i hi => esV_row h1 i hi)
    have HR2 := Lib.hid (fun i hi => esV_row h2 i hi)
    have HL := Lib.hid hlen
    clear hlen h1 h2
    go_enter Tryd.func37, Tryd.ntmps37
    go_wp2_with fail
    go_loopw [5] (fun k wr => ∃ i : Nat, i ≤ l1.length ∧ k = .int .i64 i ∧ Hid (∀ j (h1 : j < l1.length) (h2 : j < l2.length), j < i → l1[j] = l2[j]) ∧ ∃ n, wr = w.drewN n) (fun k _ => l1.length - (intOf k).toNat)
    case atStart => exact ⟨0, Nat.zero_le _, rfl, Lib.hid (fun j _ _ hj => by omega), 0, rfl⟩
    case round =>
      obtain ⟨i, hi, rfl, H, n, rfl⟩ := hrel
      by_cases hlt : i < l1.length
      · have hlt2 : i < l2.length := by rw [← HL.out]; exact hlt
        obtain ⟨b1, o1, rfl, _, _, x0, x1, x2, x3⟩ := HR1.out i hlt
        obtain ⟨b2, o2, rfl, _, _, y0, y1, y2, y3⟩ := HR2.out i hlt2
        have hlt' : (i : Int) < l1.length := by omega
        have hlt2' : (i : Int) < l2.length := by omega
        by_cases he : l1[i] = l2[i]
        · have H' : Hid (∀ j (h1 : j < l1.length) (h2 : j < l2.length), j < i + 1 → l1[j] = l2[j]) := Lib.hid fun j h1 h2 hj => by
            by_cases e : j = i
            · subst e; exact he
            · exact H.out j h1 h2 (by omega)
          rw [← he] at y0 y1 y2 y3
          clear he
          generalize l1[i] = x at *
          go_wp2_with fail
          go_quiet (fail)
          go_wp2
          go_roundw
          case rel => exact ⟨i + 1, by omega, by go_num, H', _, rfl⟩
          case measure => simp [intOf]; omega
        · have HN : Hid (decide (l1 = l2) = false) := Lib.hid (decide_eq_false fun e => he (by subst e; rfl))
          generalize l1[i] = x at *
          generalize l2[i] = y at *
          obtain ⟨xt, xn, xo, xw⟩ := x
          obtain ⟨yt, yn, yo, yw⟩ := y
          simp only at x0 x1 x2 x3 y0 y1 y2 y3
          by_cases q0 : xt = yt
          · have q0a : (xt == yt) = true := by simpa using q0
            have q0b : (xt != yt) = false := by simpa using q0
            by_cases q1 : xn = yn
            · have q1a : (xn == yn) = true := by simpa using q1
              have q1b : (xn != yn) = false := by simpa using q1
              by_cases q2 : xo = yo
              · have q2a : (xo == yo) = true := by simpa using q2
                have q2b : (xo != yo) = false := by simpa using q2
                by_cases q3 : xw = yw
                · exact absurd (by rw [q0, q1, q2, q3]) he
                · have q3a : (xw == yw) = false := by simpa using q3
                  have q3b : (xw != yw) = true := by simpa using q3
                  clear he q0 q1 q2 q3
                  go_wp2_with fail
                  go_quiet (fail)
                  go_wp2
                  go_ret
                  exact ⟨by rw [HN.out]; rfl, below_drewN' (below_drewN' (Below.refl _ _) n) nq⟩
              · have q2a : (xo == yo) = false := by simpa using q2
                have q2b : (xo != yo) = true := by simpa using q2
                clear he q0 q1 q2
                go_wp2_with fail
                go_quiet (fail)
                go_wp2
                go_ret
                exact ⟨by rw [HN.out]; rfl, below_drewN' (below_drewN' (Below.refl _ _) n) nq⟩
            · have q1a : (xn == yn) = false := by simpa using q1
              have q1b : (xn != yn) = true := by simpa using q1
              clear he q0 q1
              go_wp2_with fail
              go_quiet (fail)
              go_wp2
              go_ret
              exact ⟨by rw [HN.out]; rfl, below_drewN' (below_drewN' (Below.refl _ _) n) nq⟩
          · have q0a : (xt == yt) = false := by simpa using q0
            have q0b : (xt != yt) = true := by simpa using q0
            clear he q0
            go_wp2_with fail
            go_quiet (fail)
            go_wp2
            go_ret
            exact ⟨by rw [HN.out]; rfl, below_drewN' (below_drewN' (Below.refl _ _) n) nq⟩
      · obtain rfl : i = l1.length := by omega
        have HY : Hid (decide (l1 = l2) = true) := Lib.hid (decide_eq_true (eq_upto_e HL.out fun j h1 h2 => H.out j h1 h2 h1))
        go_wp2
        go_ret
        exact ⟨by rw [HY.out]; rfl, below_drewN' (Below.refl _ _) n⟩
  · have hlen' : ((l1.length : Int) != l2.length) = true := by simp; omega
    have HN : Hid (decide (l1 = l2) = false) := Lib.hid (decide_eq_false fun e => hlen (by rw [e]))
    clear hlen h1 h2
    go_enter Tryd.func37, Tryd.ntmps37
    go_wp2_with fail
    go_ret
    exact ⟨by rw [HN.out]; rfl, Below.refl _ _⟩
theorem info69 : (Tryd.prog.info? 69).map (fun i => (i.zero.map (fun z => z.cells.size), i.size, i.bytes)) = some (some 4, 4, 40) := by kernel_rfl
theorem info_parts' {o : Option TypeInfo} {n a b : Nat} (h : o.map (fun i => (i.zero.map (fun z => z.cells.size), i.size, i.bytes)) = some (some n, a, b)) : ∃ i z, o = some i ∧ i.zero = some z ∧ i.size = a ∧ i.bytes = b ∧ z.cells.size = n := by
  obtain ⟨i, hi, he⟩ := Option.map_eq_some_iff.1 h
  injection he with h1 h2
  injection h2 with h2 h3
  obtain ⟨z, hz, hn⟩ := Option.map_eq_some_iff.1 h1
  exact ⟨i, z, hi, hz, h2, h3, hn⟩
theorem esV_one' (s : List Rf.E) : ∀ u ∈ esV s, u.oneCell' = true := by
  intro u hu
  obtain ⟨r, _, hr⟩ := List.mem_flatMap.1 hu
  simp [eC] at hr
  rcases hr with rfl | rfl | rfl | rfl <;> rfl
set_option maxRecDepth 100000 in
set_option maxHeartbeats 4000000 in
theorem clone55_any (w : World) (A : Option Addr) (c : Nat) (s : List Rf.E) (h : SA w Free A (esV s)) (hl : s.length * 40 ≤ 140737488351232) :
    Calls Tryd.prog 55 #[.slice A s.length c] w (ClPost w 69 4 (esV s) s.length) := by
  obtain ⟨i0, z0, hi0, hz0, hz1, hz2, hzs⟩ := info_parts' info69
  have heq : ∀ (W : World) a n c, (binOp .eql 54 (.slice a n c) (.slice none 0 0)).run Tryd.prog W = .ok (.bool a.isNone) W := fun W a n c => Lib.run_eql_slice_nil W 54 69 a n c 0 0 Tryd.underlying54
  rcases A with _ | ad
  · have hl0 : s = [] := by
      rcases h with h | ⟨b, off, h, _⟩
      · have := congrArg List.length h
        rw [Fl.len eC_len] at this
        exact List.eq_nil_of_length_eq_zero (by simp at this; omega)
      · cases h
    subst hl0
    go_enter Tryd.func55, Tryd.ntmps55
    go_wp2_with fail
    go_ret
    exact ⟨none, 0, rfl, World.ownsRow_nil _ _ _ _, Below.refl _ _⟩
  · have hsv := SV.alloc h.sv (Nat.le_refl _) (.cells #[] 69)
    have hlen : (esV s).length = s.length * 4 := Fl.len eC_len s
    clear h
    generalize hxs : esV s = xs at *
    have h1 : ∀ u ∈ xs, u.oneCell' = true := by rw [← hxs]; exact esV_one' s
    clear hxs
    have HF : Hid (∀ A' c' w', w'.ownsRow w.heap.size 69 4 (.slice A' s.length c') s.length xs → Below w.heap.size w w' → ClPost w 69 4 xs s.length (.returned (.slice A' s.length c')) w') := Lib.hid fun A' c' w' a b => ⟨A', c', rfl, a, b⟩
    generalize ClPost w 69 4 xs s.length = R at *
    go_enter Tryd.func55, Tryd.ntmps55
    go_wp2_with (first | (at_builtin; refine wpList_appN _ rfl (.tmp 5) (.tmp 6) 54 rfl w.heap.size 69 i0 _ 4 40 Tryd.underlying54 hi0 hz0 hz1 hz2 hzs (by decide) (some ⟨w.heap.size, 0, none⟩) 0 0 [] rfl (World.ownsRow_lit w #[] 0 (Nat.le_refl _) (by simp [maxLen]) rfl) _ (some ad) s.length c xs rfl ?ha hsv h1 ?hb ?hc ?hd ?_))
    case ha => exact hlen
    case hb => simp [maxLen]; omega
    case hc => omega
    case hd => simp
    intro A' c' w' hown hg hc'
    have hb := (below_alloc1 w (.cells #[] 69)).grown hg (by simp) (fun k hk => by simp [Value.ownBlock] at hk; omega)
    try simp only [Nat.zero_add, List.nil_append] at *
    have HR := Lib.hid (HF.out _ _ _ hown hb)
    clear hown hb hg
    go_wp2_with fail
    exact HR.out
end Go.Proofs.YtfbbgnhelannjaaDoor
