/-
  TopQueueLandsWhatIsAccepted: the law's walk.
-/
import Derived.Test.YtinebbleilnejaaMq18
namespace Mq
theorem adds_take (n : Nat) : adds (n + 1) = adds n ++ [⟨1, (n : Int) + 1⟩] := rfl
/-- What a round tests, among the first n changes. -/
theorem setF_succ (n : Nat) (la a : List Int) (c : Int) : setF (n + 1) la a c = setF n la a c ++ if (la.contains ((n : Int) + 1) || a.contains ((n : Int) + 1) || c == (n : Int) + 1) = true then [(n : Int)] else [] := by
  unfold setF
  rw [List.range_succ, List.filter_append, List.map_append]
  congr 1
  rw [List.filter_cons, List.filter_nil]
  split <;> rfl
theorem setF_len (n : Nat) (la a : List Int) (c : Int) : (setF n la a c).length ≤ n := by
  unfold setF
  rw [List.length_map]
  exact Nat.le_trans (List.length_filter_le _ _) (by simp)
theorem setF_LOk (n : Nat) (la a : List Int) (c : Int) : LOk (n : Int) (setF n la a c) := by
  obtain ⟨h1, h2⟩ := setF_ok n la a c
  intro i h
  obtain ⟨h3, h4⟩ := h1 _ (List.getElem_mem h)
  refine ⟨h3, h4, fun hi => ?_⟩
  exact List.pairwise_iff_getElem.1 h2 (i - 1) i (by omega) h (by omega)
end Mq
namespace Go.Proofs.Ytinebbleilnejaa
open Go.RowKit Go.V
set_option linter.unusedVariables false
theorem evsV_app (l m : List Mq.Ev) : evsV (l ++ m) = evsV l ++ evsV m := List.flatMap_append
theorem info31 : (Try.prog.info? 31).map (fun i => (i.zero, i.size, i.bytes)) = some (some (.agg #[.int .i64 0, .int .i64 0, .int .i64 0]), 3, 24) := by kernel_rfl
theorem ev_one {a b : Int} : ∀ v ∈ ([.int .i64 a, .int .i64 b, .int .i64 0] : List Value), v.oneCell' = true := by
  intro v hv
  rcases List.mem_cons.1 hv with rfl | hv
  · rfl
  rcases List.mem_cons.1 hv with rfl | hv
  · rfl
  rcases List.mem_cons.1 hv with rfl | hv
  · rfl
  exact absurd hv (List.not_mem_nil)
theorem la_bounds {cu : List (List Int)} {w n m : Nat} {q : Mq.Q} (h : Mq.Set cu w n m q) (i : Nat) (hi : i < q.la.length) : 1 ≤ q.la[i] ∧ q.la[i] ≤ n := by
  have hI := h.inv
  have hmn := hI.mn
  have hx : q.la[i] ∈ (Mq.G cu m).map (· + 1) := by rw [← hI.lan]; exact List.getElem_mem hi
  obtain ⟨g, hg, e⟩ := List.mem_map.1 hx
  rw [← e]
  rw [Mq.G_eq cu m] at hg
  obtain ⟨j, hj, e2⟩ := List.mem_map.1 hg
  have := List.mem_range.1 (List.mem_filter.1 hj).1
  omega
/-- The entries that are tested, among the first i. -/
def rnF (L : List (Mq.E × Value)) (i : Nat) : List (Mq.E × Value) := (L.take i).filter fun x => x.1.t
theorem rnF_succ (L : List (Mq.E × Value)) (i : Nat) (h : i < L.length) : rnF L (i + 1) = rnF L i ++ if L[i].1.t = true then [L[i]] else [] := by
  unfold rnF
  rw [List.take_succ_eq_append_getElem h, List.filter_append]
  congr 1
  cases h2 : L[i].1.t <;> simp [h2]
theorem rnF_len (L : List (Mq.E × Value)) (i : Nat) : (rnF L i).length ≤ L.length := by
  unfold rnF
  exact Nat.le_trans (List.length_filter_le _ _) (by simp; omega)
set_option maxRecDepth 100000 in
set_option maxHeartbeats 16000000 in
theorem law_any (w : World) (n : Int) (A1 : Option Addr) (k1 : Nat) (cu : List (List Int)) (hv1 : CuV w A1 cu) (hl1 : cu.length ≤ 9223372036854775807) (win : Int) (A2 : Option Addr) (k2 : Nat) (pk : List Int) (hv2 : IV w A2 pk) (hl2 : pk.length ≤ 9223372036854775807) :
    Calls Try.prog 3 #[.int .i64 n, .slice A1 cu.length k1, .int .i64 win, .slice A2 pk.length k2] w fun e w' => e = .returned (.bool true) ∧ Below w.heap.size w w' := by
  obtain ⟨i0, hi0, hz0, hz1, hz2⟩ := info_parts info3
  obtain ⟨j0, hj0, hy0, hy1, hy2⟩ := info_parts info31
  obtain ⟨m0, hm0, hx0, hx1, hx2⟩ := info_parts info38
  have HNL := Lib.hid (nLands_any w)
  have HGR := Lib.hid (fun (W : World) (hb : Below w.heap.size w W) => greedy_any W A1 k1 cu n (hv1.below hb) hl1)
  have HV1 := Lib.hid (fun (W : World) (hb : Below w.heap.size w W) => hv1.below hb)
  have HV2 := Lib.hid (fun (W : World) (hb : Below w.heap.size w W) => hv2.below hb)
  clear hv1 hv2
  go_enter Try.func3, Try.ntmps3
  go_wp2_with fail
  go_at_call 4
  with_reducible refine HNL.out.mono ?_
  rintro e w1 ⟨rfl, hb1⟩
  clear HNL
  go_wp2_with fail
  go_at_call 5
  with_reducible refine (HGR.out _ hb1).mono ?_
  rintro e w2 ⟨c, ix, Ag, os, kg, rfl, hgr, hivg, hb2'⟩
  have hb2 := hb1.trans (hb2'.mono hb1.size)
  have hb3 := hb2.alloc hb2.size (.cells #[.int .i64 c, .int .i64 ix] 26)
  have hww := hb2.size
  clear hb1 hb2' HGR
  by_cases hc : c = 0
  · obtain ⟨rfl, hok, hos⟩ := hgr.resolve_right (fun h => h.1 hc)
    clear hgr hc
    by_cases hn5 : 5 < n
    · go_wp2_with fail
      go_ret
      exact ⟨rfl, hb3⟩
    · by_cases hw1 : win < 1
      · go_wp2_with fail
        go_ret
        exact ⟨rfl, hb3⟩
      · by_cases hw4 : 4 < win
        · go_wp2_with fail
          go_ret
          exact ⟨rfl, hb3⟩
        · have HOK := Lib.hid hok
          have hn0 := hok.1.1
          obtain ⟨nn, rfl⟩ : ∃ nn : Nat, n = (nn : Int) := ⟨n.toNat, by omega⟩
          obtain ⟨wn, rfl⟩ : ∃ wn : Nat, win = (wn : Int) := ⟨win.toNat, by omega⟩
          have hos2 : os = Mq.G cu nn := by simpa using hos
          have HOS := Lib.hid hos2
          have HIG := Lib.hid (fun (W : World) (hb : Below w2.heap.size w2 W) => hivg.below hb)
          have hbl : Below w2.heap.size w2 (w2.alloc (.cells #[.int .i64 0, .int .i64 ix] 26)) := below_alloc1 w2 _
          clear hok hos hos2 hivg hb2
          go_wp2_with fail
          generalize w2.alloc (.cells #[.int .i64 0, .int .i64 ix] 26) = w3 at *
          go_loopw [11, 12] (fun ov iv wr => ∃ (i : Nat) (Ae : Option Addr) (ce : Nat), i ≤ nn ∧ ov = .slice Ae i ce ∧ iv = .int .i64 i ∧ Below w.heap.size w wr ∧ Below w2.heap.size w2 wr ∧ wr.ownsRow w2.heap.size 31 3 (.slice Ae i ce) i (evsV (Mq.adds i))) (fun _ iv _ => nn - (intOf iv).toNat)
          case atStart => exact ⟨0, none, 0, Nat.zero_le _, rfl, rfl, hb3, hbl, World.ownsRow_nil _ _ _ _⟩
          case round =>
            clear hb3 hbl
            obtain ⟨i, Ae, ce, hi, rfl, rfl, hb, hb2, hown⟩ := hrel
            obtain ⟨wo, rfl⟩ : ∃ wo : World, wo = wr := ⟨_, rfl⟩
            by_cases hlt : i < nn
            · have hltI : (i : Int) < nn := by omega
              have hsz := hb2.size
              have h63 : i + 1 ≤ maxLen := by unfold maxLen; omega
              have hby : (i + 1) * 24 ≤ 140737488355328 := by omega
              have hsv : SV (wo.alloc (.cells #[.int .i64 1, .int .i64 ((i : Int) + 1), .int .i64 0] 31)) (wo.heap.size + 1) (some ⟨wo.heap.size, 0, none⟩) [.int .i64 1, .int .i64 ((i : Int) + 1), .int .i64 0] := SV.lit wo #[.int .i64 1, .int .i64 ((i : Int) + 1), .int .i64 0] 31
              have hev : evsV (Mq.adds (i + 1)) = evsV (Mq.adds i) ++ [.int .i64 1, .int .i64 ((i : Int) + 1), .int .i64 0] := by rw [Mq.adds_take, evsV_app]; rfl
              have HEV := Lib.hid hev
              have hbs : w2.heap.size ≤ (wo.alloc (.cells #[.int .i64 1, .int .i64 ((i : Int) + 1), .int .i64 0] 31)).heap.size := by simp; omega
              have HBX := Lib.hid (fun (w' : World) (hg : (wo.alloc (.cells #[.int .i64 1, .int .i64 ((i : Int) + 1), .int .i64 0] 31)).grownBy w' (Value.slice Ae i ce).ownBlock) => (show Below w.heap.size w w' ∧ Below w2.heap.size w2 w' from
                ⟨below_append (hb.alloc hb.size _) (hown.alloc _) hg hww (by simp; have := hb.size; omega), below_append (hb2.alloc hb2.size _) (hown.alloc _) hg (Nat.le_refl _) (by simp; omega)⟩))
              generalize Mq.adds i = al at *
              clear hev hb hb2
              go_wp2_with (first | (at_builtin; refine wpList_appNo _ rfl (.tmp 54) (.tmp 58) 29 rfl w2.heap.size 31 j0 _ 3 24 Try.underlying29 hj0 hy0 hy1 hy2 rfl (by decide) Ae i ce (evsV al) rfl (hown.alloc _) (wo.heap.size + 1) (some ⟨wo.heap.size, 0, none⟩) 1 1 [.int .i64 1, .int .i64 ((i : Int) + 1), .int .i64 0] rfl rfl hsv ev_one h63 hby hbs ?_))
              intro A' c' w' hown' hg' _ _
              obtain ⟨hb', hb2'⟩ := HBX.out w' hg'
              clear hg' HBX hown hsv
              go_wp2_with fail
              go_roundw
              case rel => exact ⟨i + 1, A', c', by omega, by go_num, by go_num, hb', hb2', by rw [HEV.out]; exact hown'⟩
              case measure => simp [intOf]; omega
            · obtain rfl : i = nn := by omega
              have hltI : ¬ (i : Int) < i := by omega
              have HRD0 := Lib.hid (Mq.Rd.zero cu wn i (by omega))
              have hal := Mq.adds_len i
              have hw1' : 1 ≤ wn := by omega
              have hw4' : wn ≤ 4 := by omega
              have hi5 : i ≤ 5 := by omega
              generalize hadl : Mq.adds i = al at *
              rw [← hal] at hown
              clear hadl hi hlt hltI
              go_wp2_with fail
              go_loopw [11, 13] (fun ov iv wr => ∃ (r : Nat) (l : List Mq.Ev) (Ae : Option Addr) (ce : Nat), ov = .slice Ae l.length ce ∧ iv = .int .i64 r ∧ Hid (Mq.Rd cu wn i r l) ∧ Below w.heap.size w wr ∧ Below w2.heap.size w2 wr ∧ wr.ownsRow w2.heap.size 31 3 (.slice Ae l.length ce) l.length (evsV l)) (fun _ iv _ => 30 - (intOf iv).toNat)
              case atStart => exact ⟨0, al, Ae, ce, by rw [hal], rfl, HRD0, hb, hb2, hown⟩
              case round =>
                clear hb hb2 hown HRD0 hal
                obtain ⟨r, l, Ae, ce, rfl, rfl, HRD, hb, hb2, hown⟩ := hrel
                obtain ⟨wo, rfl⟩ : ∃ wo : World, wo = wr := ⟨_, rfl⟩
                have hr15 := HRD.out.lt
                have hrI : (r : Int) < 30 := by omega
                have hll : l.length ≤ 40 := by have := HRD.out.len; omega
                have HRUN := Lib.hid (run_any wo Ae ce l wn (SV.of_own hown) hll hw1' hw4' HRD.out.vc)
                have HOWN := Lib.hid (fun (W : World) (hbW : Below wo.heap.size wo W) => own_below hown hbW)
                have HBB := Lib.hid (fun (W : World) (hbW : Below wo.heap.size wo W) => And.intro (hb.trans (hbW.mono hb.size)) (hb2.trans (hbW.mono hb2.size)))
                clear hown hb hb2
                generalize hqq : Mq.run wn l = q at *
                have HQQ := Lib.hid hqq
                clear hqq
                go_wp2_with fail
                go_at_call 6
                with_reducible refine HRUN.out.mono ?_
                rintro e w4 ⟨gQ, ve, vl, vr, L, rfl, hq, hm, hb4⟩
                obtain ⟨A3, c3, rfl⟩ := hq.len
                obtain ⟨Al, cl, hvl, _⟩ := own_form hq.l
                obtain ⟨Ar, cr, hvr, _⟩ := own_form hq.r
                subst hvl
                subst hvr
                have HM := Lib.hid hm
                generalize hnl : q.la.length = nl at *
                generalize hnr : q.re.length = nr at *
                have HNL := Lib.hid hnl
                have HNR := Lib.hid hnr
                clear hm hnl hnr
                have hs5 : ((w4.alloc (.cells #[.slice A3 L.length c3, .slice Al nl cl, .slice Ar nr cr] 34)).alloc (.cells #[.int .i64 0, .int .i64 0] 26)).heap.size = w4.heap.size + 1 + 1 := by simp
                have B1 : Blk ((w4.alloc (.cells #[.slice A3 L.length c3, .slice Al nl cl, .slice Ar nr cr] 34)).alloc (.cells #[.int .i64 0, .int .i64 0] 26)) w4.heap.size 34 #[.slice A3 L.length c3, .slice Al nl cl, .slice Ar nr cr] := (Blk.new _ _ _).alloc _
                have hq5 := (hq.alloc (.cells #[.slice A3 L.length c3, .slice Al nl cl, .slice Ar nr cr] 34)).alloc (.cells #[.int .i64 0, .int .i64 0] 26)
                have hb5 : Below wo.heap.size wo ((w4.alloc (.cells #[.slice A3 L.length c3, .slice Al nl cl, .slice Ar nr cr] 34)).alloc (.cells #[.int .i64 0, .int .i64 0] 26)) := (hb4.alloc hb4.size _).alloc (by have := hb4.size; simp; omega) _
                clear hq hb4 HRUN hs5
                go_wp2_with fail
                generalize ((w4.alloc (.cells #[.slice A3 L.length c3, .slice Al nl cl, .slice Ar nr cr] 34)).alloc (.cells #[.int .i64 0, .int .i64 0] 26)) = w5 at *
                have hLl : L.length ≤ 5 := by
                  obtain ⟨mm, hS⟩ := HRD.out.st
                  have h1 := hS.inv.mn
                  have h2 := congrArg List.length HM.out
                  rw [HQQ.out] at h1
                  rw [List.length_map] at h2
                  omega
                have HQ5 := Lib.hid (fun (W : World) (hbW : Below w5.heap.size w5 W) => And.intro (hq5.below hbW) (And.intro (B1.below hbW B1.lt) (hb5.trans (hbW.mono hb5.size))))
                clear hq5 B1 hb5
                go_wp2_with fail
                go_loopw [16, 17] (fun ov iv wr => ∃ (i : Nat) (Rr : Option Addr) (cR : Nat), i ≤ L.length ∧ ov = .slice Rr (rnF L i).length cR ∧ iv = .int .i64 i ∧ Below w5.heap.size w5 wr ∧ wr.ownsRow w5.heap.size 38 6 (.slice Rr (rnF L i).length cR) (rnF L i).length (flat (rnF L i))) (fun _ iv _ => L.length - (intOf iv).toNat)
                case atStart => exact ⟨0, none, 0, Nat.zero_le _, rfl, rfl, Below.refl _ _, World.ownsRow_nil _ _ _ _⟩
                case round =>
                  obtain ⟨j, Rr, cR, hj, rfl, rfl, hbj, hown⟩ := hrel
                  obtain ⟨wp, rfl⟩ : ∃ wp : World, wp = wr := ⟨_, rfl⟩
                  obtain ⟨hqj, B1, hbo⟩ := HQ5.out wp hbj
                  have p0 : wp.cell? ⟨w4.heap.size, 0, none⟩ = some (.slice A3 L.length c3) := (B1.cell 0).trans rfl
                  have hszj := hbj.size
                  by_cases hjl : j < L.length
                  · have hjI : (j : Int) < L.length := by omega
                    obtain ⟨g, c9, e9, hg, _, _, d0, d1, d2, d3, d4, d5, _⟩ := hqj.row j hjl
                    obtain ⟨Av, cv, hxv, _⟩ := own_form (hqj.a j hjl)
                    injection e9 with e1 e2 e3
                    subst e1
                    subst e3
                    clear e2
                    have HS := Lib.hid (rnF_succ L j hjl)
                    have hrl := rnF_len L j
                    obtain ⟨⟨⟨yc, yt, yp, yf, ya⟩, yv⟩, hy⟩ : ∃ y, L[j] = y := ⟨_, rfl⟩
                    rw [hy] at d0 d2 d3 d4 d5 hxv HS
                    simp only at d0 d2 d3 d4 d5 hxv HS
                    subst hxv
                    clear hy hqj B1
                    generalize rnF L j = rn at *
                    cases yt with
                    | false =>
                      have HE : Hid (rnF L (j + 1) = rn) := Lib.hid (by rw [HS.out]; simp)
                      clear HS
                      go_wp2_with fail
                      go_roundw
                      case rel => exact ⟨j + 1, Rr, cR, by omega, by rw [HE.out], by go_num, hbj, by rw [HE.out]; exact hown⟩
                      case measure => simp [intOf]; omega
                    | true =>
                      have HE : Hid (rnF L (j + 1) = rn ++ [(⟨yc, true, yp, yf, ya⟩, .slice Av ya.length cv)]) := Lib.hid (by rw [HS.out]; simp)
                      have h63 : rn.length + 1 ≤ maxLen := by unfold maxLen; omega
                      have hby : (rn.length + 1) * 48 ≤ 140737488355328 := by omega
                      have hsv : SV (wp.alloc (.cells #[.int .i64 yc, .int .i64 0, .bool true, .bool yp, .bool yf, .slice Av ya.length cv] 38)) (wp.heap.size + 1) (some ⟨wp.heap.size, 0, none⟩) [.int .i64 yc, .int .i64 0, .bool true, .bool yp, .bool yf, .slice Av ya.length cv] := SV.lit wp #[.int .i64 yc, .int .i64 0, .bool true, .bool yp, .bool yf, .slice Av ya.length cv] 38
                      have hone : ∀ u ∈ ([.int .i64 yc, .int .i64 0, .bool true, .bool yp, .bool yf, .slice Av ya.length cv] : List Value), u.oneCell' = true := by
                        have := flat_one [((⟨yc, true, yp, yf, ya⟩ : Mq.E), Value.slice Av ya.length cv)] (fun j hj => by
                          have : j = 0 := by simp at hj; omega
                          subst this
                          exact ⟨_, _, _, rfl⟩)
                        exact this
                      have hbs : w5.heap.size ≤ (wp.alloc (.cells #[.int .i64 yc, .int .i64 0, .bool true, .bool yp, .bool yf, .slice Av ya.length cv] 38)).heap.size := by simp; omega
                      have HBX := Lib.hid (fun (w' : World) (hg : (wp.alloc (.cells #[.int .i64 yc, .int .i64 0, .bool true, .bool yp, .bool yf, .slice Av ya.length cv] 38)).grownBy w' (Value.slice Rr rn.length cR).ownBlock) => (show Below w5.heap.size w5 w' from
                        below_append (hbj.alloc hbj.size _) (hown.alloc _) hg (Nat.le_refl _) (by simp; omega)))
                      have hfl : flat (rn ++ [((⟨yc, true, yp, yf, ya⟩ : Mq.E), Value.slice Av ya.length cv)]) = flat rn ++ [.int .i64 yc, .int .i64 0, .bool true, .bool yp, .bool yf, .slice Av ya.length cv] := by rw [flat_app]; rfl
                      have HFL := Lib.hid hfl
                      clear HS hfl hbj hbo
                      go_wp2_with (first | (at_builtin; refine wpList_appNo _ rfl (.tmp 86) (.tmp 92) 32 rfl w5.heap.size 38 m0 _ 6 48 Try.underlying32 hm0 hx0 hx1 hx2 rfl (by decide) Rr rn.length cR (flat rn) rfl (hown.alloc _) (wp.heap.size + 1) (some ⟨wp.heap.size, 0, none⟩) 1 1 [.int .i64 yc, .int .i64 0, .bool true, .bool yp, .bool yf, .slice Av ya.length cv] rfl rfl hsv hone h63 hby hbs ?_))
                      intro A' c' w' hown' hg' _ _
                      have hb' := HBX.out w' hg'
                      clear hg' HBX hown hsv hone
                      go_wp2_with fail
                      go_roundw
                      case rel => exact ⟨j + 1, A', c', by omega, by rw [HE.out]; simp, by go_num, hb', by rw [HE.out, HFL.out]; simpa using hown'⟩
                      case measure => simp [intOf]; omega
                  · obtain rfl : j = L.length := by omega
                    have hjI : ¬ (L.length : Int) < L.length := by omega
                    by_cases hL0 : L.length = 0
                    · obtain rfl := List.eq_nil_of_length_eq_zero hL0
                      have hes : (Mq.run wn l).es = [] := by rw [HQQ.out, ← HM.out]; rfl
                      obtain ⟨hla, hlr⟩ := HRD.out.last hes
                      rw [HQQ.out] at hla hlr
                      rw [HNL.out, HNR.out] at hlr
                      have hbd : ∀ (k : Nat) (hk : k < q.la.length), 1 ≤ q.la[k] ∧ q.la[k] ≤ 5 := fun k hk => by
                        obtain ⟨mm, hS⟩ := HRD.out.st
                        rw [HQQ.out] at hS
                        have := la_bounds hS k hk
                        omega
                      have hivl : IV wp Al q.la := by have := hqj.l; unfold IR at this; rw [HNL.out] at this; exact SV.of_own this
                      have HLA := Lib.hid (fun (W : World) (hbW : Below wp.heap.size wp W) (k : Nat) (hk : k < nl) => (show ∃ b off, Al = some ⟨b, off, none⟩ ∧ b < W.heap.size ∧ W.cell? ⟨b, off + k, none⟩ = some (.int .i64 (q.la[k]'(by rw [HNL.out]; exact hk))) from (hivl.below hbW).at_ k (by rw [HNL.out]; exact hk)))
                      have HBD := Lib.hid (fun (k : Nat) (hk : k < nl) => hbd k (by rw [HNL.out]; exact hk))
                      have HTK := Lib.hid (fun (k : Nat) (hk : k < nl) => (show (q.la.map fun x => x - 1).take (k + 1) = (q.la.map fun x => x - 1).take k ++ [q.la[k]'(by rw [HNL.out]; exact hk) - 1] from by
                        rw [List.take_succ_eq_append_getElem (by rw [List.length_map, HNL.out]; exact hk)]; simp))
                      have HLAX := Lib.hid hla
                      have HBO := Lib.hid (fun (W : World) (hbW : Below wp.heap.size wp W) => And.intro (B1.below hbW B1.lt) (hbo.trans (hbW.mono hbo.size)))
                      have hnl5 : nl ≤ 5 := by omega
                      have hjI0 : ((([] : List (Mq.E × Value)).length : Nat) : Int) = 0 := rfl
                      clear hla hbd hivl hqj hown hes B1 hbo
                      go_wp2_with fail
                      go_loopw [18, 19] (fun ov iv wr => ∃ (k : Nat) (As : Option Addr) (cs : Nat), k ≤ nl ∧ ov = .slice As k cs ∧ iv = .int .i64 k ∧ Below wp.heap.size wp wr ∧ wr.ownsRow wp.heap.size 3 1 (.slice As k cs) k (intsV ((q.la.map fun x => x - 1).take k))) (fun _ iv _ => nl - (intOf iv).toNat)
                      case atStart => exact ⟨0, none, 0, Nat.zero_le _, rfl, rfl, Below.refl _ _, World.ownsRow_nil _ _ _ _⟩
                      case round =>
                        obtain ⟨k, As, cs, hk, rfl, rfl, hbk, hown⟩ := hrel
                        obtain ⟨wz, rfl⟩ : ∃ wz : World, wz = wr := ⟨_, rfl⟩
                        obtain ⟨B1, hwo⟩ := HBO.out wz hbk
                        have p1 : wz.cell? ⟨w4.heap.size, 1, none⟩ = some (.slice Al nl cl) := (B1.cell 1).trans rfl
                        have p2 : wz.cell? ⟨w4.heap.size, 2, none⟩ = some (.slice Ar nr cr) := (B1.cell 2).trans rfl
                        by_cases hkl : k < nl
                        · have hkI : (k : Int) < nl := by omega
                          obtain ⟨b, off, e, hbs, d0⟩ := HLA.out wz hbk k hkl
                          subst e
                          have hx := HBD.out k hkl
                          have HT2 := Lib.hid (HTK.out k hkl)
                          generalize q.la[k]'(by rw [HNL.out]; exact hkl) = x at *
                          have hsub : IntKind.i64.wrap (x - 1) = x - 1 := IntWalk.i64_in _ (by omega)
                          have h63 : k + 1 ≤ maxLen := by unfold maxLen; omega
                          have hby : (k + 1) * 8 ≤ 140737488355328 := by omega
                          have hu : (wz.alloc (.cells #[.int .i64 (x - 1)] 3)).cell? ⟨wz.heap.size, 0, none⟩ = some (.int .i64 (x - 1)) := ((Blk.new wz 3 #[.int .i64 (x - 1)]).cell 0).trans rfl
                          have hszk := hbk.size
                          generalize (q.la.map fun x => x - 1).take k = al2 at *
                          clear hx
                          go_wp2_with (first | (at_builtin; refine wpList_app1 _ rfl (.tmp 105) (.tmp 112) 23 rfl wp.heap.size 3 i0 (.int .i64 0) 8 Try.underlying23 hi0 hz0 hz1 hz2 rfl As k cs (intsV al2) rfl (hown.alloc _) wz.heap.size 1 (.int .i64 (x - 1)) rfl hu rfl h63 hby (Nat.le_trans hszk (by simp)) ?_))
                          intro A' c' w' hown' hg' hc'
                          have hb' := (app_keep hown _ hg' hszk).2.1 wp _ (Nat.le_refl _) hbk
                          clear hg' hown hu hc'
                          go_wp2_with fail
                          go_roundw
                          case rel => exact ⟨k + 1, A', c', by omega, by go_num, by go_num, hb', by rw [HT2.out, intsV_append]; exact hown'⟩
                          case measure => simp [intOf]; omega
                        · obtain rfl : k = nl := by omega
                          have hkI : ¬ (k : Int) < k := by omega
                          have hall : (q.la.map fun x => x - 1).take k = os := by
                            rw [List.take_of_length_le (by rw [List.length_map, HNL.out]; exact Nat.le_refl _), HLAX.out, HOS.out]
                          rw [hall] at hown
                          have hln : os.length = k := by rw [← hall, List.length_take, List.length_map, HNL.out]; omega
                          have HI : Hid (Calls Try.prog 7 #[.slice As k cs, .slice Ag k kg] wz fun e w' => e = .returned (.bool true) ∧ ∃ n, w' = wz.drewN n) := Lib.hid (by
                            have h := ints_any wz As Ag cs kg os (SV.of_own hown) (HIG.out wz (HBB.out wz hwo).2) (by omega)
                            rw [hln] at h
                            exact h)
                          have hadd : IntKind.i64.wrap ((k : Int) + (nr : Int)) = (i : Int) := by rw [IntWalk.i64_in _ (by omega)]; omega
                          have heq : ((i : Int) == (i : Int)) = true := by simp
                          have HLR := Lib.hid hlr
                          have HFW := Lib.hid (HBB.out wz hwo).1
                          clear hall hown HLA HBD HTK HLAX HBO hlr hnl5
                          go_wp2_with fail
                          first | go_at_call 7 | skip
                          with_reducible refine HI.out.mono ?_
                          rintro e wy ⟨rfl, nd, rfl⟩
                          go_wp2_with fail
                          go_ret
                          exact ⟨rfl, Go.V.below_drewN HFW.out nd⟩
                    · have hLp : 0 < L.length := by omega
                      have ht0 : L[0].1.t = true := by
                        have hes : 0 < (Mq.run wn l).es.length := by rw [HQQ.out, ← HM.out, List.length_map]; exact hLp
                        have h := HRD.out.runs hw1' hes
                        have e : (Mq.run wn l).es[0]? = (L.map (·.1))[0]? := by rw [HQQ.out, HM.out]
                        rw [List.getElem?_eq_getElem hes, List.getElem?_eq_getElem (by simpa using hLp)] at e
                        injection e with e
                        rw [e] at h
                        simpa using h
                      have hrn : rnF L L.length = L.filter fun x => x.1.t := by unfold rnF; rw [List.take_length]
                      have hrnp : 0 < (rnF L L.length).length := by
                        rw [hrn]
                        exact List.length_pos_of_mem (List.mem_filter.2 ⟨List.getElem_mem hLp, ht0⟩)
                      have HRNM := Lib.hid (show ∀ (kk : Nat) (hk : kk < (rnF L L.length).length), ∃ (jj : Nat) (hj : jj < L.length), L[jj] = (rnF L L.length)[kk] ∧ L[jj].1.t = true from fun kk hk => by
                        have hmem : (rnF L L.length)[kk] ∈ L.filter fun x => x.1.t := by rw [← hrn]; exact List.getElem_mem hk
                        obtain ⟨h1, h2⟩ := List.mem_filter.1 hmem
                        obtain ⟨jj, hj, e⟩ := List.getElem_of_mem h1
                        exact ⟨jj, hj, e, by rw [e]; exact h2⟩)
                      have hrl : (rnF L L.length).length ≤ 5 := Nat.le_trans (rnF_len L L.length) hLl
                      have HQJ := Lib.hid hqj
                      have HBJ := Lib.hid hbj
                      have HPK := Lib.hid (fun (h : r < pk.length) => (HV2.out wp (HBB.out wp hbo).1).at_ r h)
                      have HW := Lib.hid (HBB.out wp hbo)
                      have HBO := Lib.hid hbo
                      have HB1 := Lib.hid B1
                      have hLI : ((L.length : Nat) : Int) ≠ 0 := by omega
                      have hLb : ((L.length : Int) == 0) = false := by rw [beq_eq_false_iff_ne]; exact hLI
                      clear ht0 hrn hqj hbo B1
                      generalize hrnl : rnF L L.length = rn at *
                      have hrb : ((rn.length : Int) == 0) = false := by rw [beq_eq_false_iff_ne]; omega
                      clear hrnl hLI
                      by_cases hpl : r < pk.length
                      · have hplI : (r : Int) < pk.length := by omega
                        obtain ⟨bp, op, ep, hbp, dp⟩ := HPK.out hpl
                        subst ep
                        generalize pk[r] = x at *
                        by_cases hx0 : 0 < x
                        · obtain ⟨kk, hmod⟩ : ∃ kk : Nat, x % (rn.length : Int) = (kk : Int) := ⟨(x % (rn.length : Int)).toNat, by rw [Int.toNat_of_nonneg (Int.emod_nonneg _ (by omega))]⟩
                          have hkk : kk < rn.length := by have := Int.emod_lt_of_pos x (show (0 : Int) < rn.length by omega); omega
                          have hkI : (kk : Int) < rn.length := by omega
                          obtain ⟨jj, hjj, hLj, htj⟩ := HRNM.out kk hkk
                          obtain ⟨gR, c8, cur8, e8, _⟩ := own_some hown hrnp
                          injection e8 with e8a e8b e8c
                          subst e8a
                          subst e8c
                          clear e8b
                          have haj := HQJ.out.a jj hjj
                          rw [hLj] at haj
                          obtain ⟨Ay, cy, hyv, _⟩ := own_form haj
                          have hr0 := own_cell hown (kk * 6 + 0) _ ((flat_at rn kk 0 hkk (by omega)).trans rfl)
                          have hr5 := own_cell hown (kk * 6 + 5) _ ((flat_at rn kk 5 hkk (by omega)).trans rfl)
                          rw [hyv] at haj hr5
                          have hya : (rn[kk]).1.a.length ≤ 100 := by
                            obtain ⟨mm, hS⟩ := HRD.out.st
                            have h1 := (hS.sz hi5).2.2.2
                            rw [HQQ.out] at h1
                            have h2 : jj < q.es.length := by rw [← HM.out, List.length_map]; exact hjj
                            have h3 := h1 jj h2
                            have e1 : q.es[jj]? = (L.map (·.1))[jj]? := by rw [HM.out]
                            rw [List.getElem?_eq_getElem h2, List.getElem?_eq_getElem (by simpa using hjj)] at e1
                            injection e1 with e1
                            rw [e1, List.getElem_map, hLj] at h3
                            omega
                          have HYC := Lib.hid (show ∃ y, rn[kk] = y from ⟨_, rfl⟩)
                          have HLJ := Lib.hid (And.intro hLj htj)
                          have HAF := Lib.hid (fun (W : World) (hbW : Below wp.heap.size wp W) (z : Int) => has_any W Ay cy (rn[kk]).1.a z ((show IV wp Ay (rn[kk]).1.a from SV.of_own haj).below hbW) (by omega))
                          have HLH := Lib.hid (fun (W : World) (hbW : Below wp.heap.size wp W) (z : Int) => (show Calls Try.prog 8 #[.slice Al nl cl, .int .i64 z] W (fun e w' => e = .returned (.bool (q.la.contains z)) ∧ W = w') from by
                            have h1 := HQJ.out.l
                            have h2 := has_any W Al cl q.la z ((show IV wp Al q.la from by unfold IR at h1; rw [HNL.out] at h1; exact SV.of_own h1).below hbW) (by
                              obtain ⟨mm, hS⟩ := HRD.out.st
                              have h3 := (hS.sz hi5).2.1
                              rw [HQQ.out] at h3
                              omega)
                            rwa [HNL.out] at h2))
                          have HC0 := Lib.hid (fun (W : World) (hbW : Below wp.heap.size wp W) => (show W.cell? ⟨gR, kk * 6, none⟩ = some (.int .i64 (rn[kk]).1.c) ∧ W.cell? ⟨gR, kk * 6 + 5, none⟩ = some (.slice Ay (rn[kk]).1.a.length cy) ∧ W.cell? ⟨w4.heap.size, 1, none⟩ = some (.slice Al nl cl) from
                            ⟨(hbW.cell (p := ⟨gR, kk * 6, none⟩) hr0.2.2.1).trans (by simpa using hr0.1), (hbW.cell (p := ⟨gR, kk * 6 + 5, none⟩) hr0.2.2.1).trans hr5.1, ((HB1.out.below hbW HB1.out.lt).cell 1).trans rfl⟩))
                          clear hr0 hr5 haj hyv hLj htj hown
                          generalize hyy : rn[kk] = y at *
                          obtain ⟨⟨yc, yt, yp, yf, ya⟩, yv⟩ := y
                          try simp only at HAF HC0 hya
                          go_wp2_with fail
                          go_loopw [21, 22] (fun ov iv wr => ∃ (c : Nat) (As : Option Addr) (cs : Nat), c ≤ i ∧ ov = .slice As (Mq.setF c q.la ya yc).length cs ∧ iv = .int .i64 c ∧ Below wp.heap.size wp wr ∧ wr.ownsRow wp.heap.size 3 1 (.slice As (Mq.setF c q.la ya yc).length cs) (Mq.setF c q.la ya yc).length (intsV (Mq.setF c q.la ya yc))) (fun _ iv _ => i - (intOf iv).toNat)
                          case atStart => exact ⟨0, none, 0, Nat.zero_le _, rfl, rfl, Below.refl _ _, World.ownsRow_nil _ _ _ _⟩
                          case round =>
                            obtain ⟨c, As, cs, hci, rfl, rfl, hbc, hows⟩ := hrel
                            obtain ⟨wz, rfl⟩ : ∃ wz : World, wz = wr := ⟨_, rfl⟩
                            by_cases hcl : c < i
                            · have hcI : (c : Int) < i := by omega
                              have HLc := Lib.hid (HLH.out wz hbc ((c : Int) + 1))
                              have HAc := Lib.hid (HAF.out wz hbc ((c : Int) + 1))
                              obtain ⟨c0, c5, c1⟩ := HC0.out wz hbc
                              have HS := Lib.hid (Mq.setF_succ c q.la ya yc)
                              have hsl := Mq.setF_len c q.la ya yc
                              have hszc := hbc.size
                              have h63 : (Mq.setF c q.la ya yc).length + 1 ≤ maxLen := by unfold maxLen; omega
                              have hby : ((Mq.setF c q.la ya yc).length + 1) * 8 ≤ 140737488355328 := by omega
                              try simp only at HAc
                              generalize Mq.setF c q.la ya yc = sl at *
                              generalize q.la.contains ((c : Int) + 1) = b1 at *
                              generalize ya.contains ((c : Int) + 1) = b2 at *
                              generalize hb3 : (yc == (c : Int) + 1) = b3 at *
                              cases b1 with
                              | true =>
                                have HE : Hid (Mq.setF (c + 1) q.la ya yc = sl ++ [(c : Int)]) := Lib.hid (by rw [HS.out]; rfl)
                                clear HS HAc
                                go_wp2_with fail
                                first | go_at_call 8 | skip
                                with_reducible refine HLc.out.mono ?_
                                rintro e w' ⟨rfl, hw⟩
                                subst hw
                                have hu : (wz.alloc (.cells #[.int .i64 (c : Int)] 3)).cell? ⟨wz.heap.size, 0, none⟩ = some (.int .i64 (c : Int)) := ((Blk.new wz 3 #[.int .i64 (c : Int)]).cell 0).trans rfl
                                go_wp2_with (first | (at_builtin; refine wpList_app1 _ rfl (.tmp 179) (.tmp 181) 23 rfl wp.heap.size 3 i0 (.int .i64 0) 8 Try.underlying23 hi0 hz0 hz1 hz2 rfl As sl.length cs (intsV sl) rfl (hows.alloc _) wz.heap.size 1 (.int .i64 (c : Int)) rfl hu rfl h63 hby (Nat.le_trans hszc (by simp)) ?_))
                                intro A' c' w' hown' hg' hc'
                                have hb' := (app_keep hows _ hg' hszc).2.1 wp _ (Nat.le_refl _) hbc
                                clear hg' hows hu hc'
                                go_wp2_with fail
                                go_roundw
                                case rel => exact ⟨c + 1, A', c', by omega, by rw [HE.out]; simp, by go_num, hb', by rw [HE.out, intsV_append, List.length_append]; exact hown'⟩
                                case measure => simp [intOf]; omega
                              | false =>
                                cases b2 with
                                | true =>
                                  have HE : Hid (Mq.setF (c + 1) q.la ya yc = sl ++ [(c : Int)]) := Lib.hid (by rw [HS.out]; rfl)
                                  clear HS
                                  go_wp2_with fail
                                  first | go_at_call 8 | skip
                                  with_reducible refine HLc.out.mono ?_
                                  rintro e w' ⟨rfl, hw⟩
                                  subst hw
                                  go_wp2_with fail
                                  first | go_at_call 8 | skip
                                  with_reducible refine HAc.out.mono ?_
                                  rintro e w' ⟨rfl, hw⟩
                                  subst hw
                                  have hu : (wz.alloc (.cells #[.int .i64 (c : Int)] 3)).cell? ⟨wz.heap.size, 0, none⟩ = some (.int .i64 (c : Int)) := ((Blk.new wz 3 #[.int .i64 (c : Int)]).cell 0).trans rfl
                                  go_wp2_with (first | (at_builtin; refine wpList_app1 _ rfl (.tmp 179) (.tmp 181) 23 rfl wp.heap.size 3 i0 (.int .i64 0) 8 Try.underlying23 hi0 hz0 hz1 hz2 rfl As sl.length cs (intsV sl) rfl (hows.alloc _) wz.heap.size 1 (.int .i64 (c : Int)) rfl hu rfl h63 hby (Nat.le_trans hszc (by simp)) ?_))
                                  intro A' c' w' hown' hg' hc'
                                  have hb' := (app_keep hows _ hg' hszc).2.1 wp _ (Nat.le_refl _) hbc
                                  clear hg' hows hu hc'
                                  go_wp2_with fail
                                  go_roundw
                                  case rel => exact ⟨c + 1, A', c', by omega, by rw [HE.out]; simp, by go_num, hb', by rw [HE.out, intsV_append, List.length_append]; exact hown'⟩
                                  case measure => simp [intOf]; omega
                                | false =>
                                  cases b3 with
                                  | true =>
                                    have HE : Hid (Mq.setF (c + 1) q.la ya yc = sl ++ [(c : Int)]) := Lib.hid (by rw [HS.out]; rfl)
                                    clear HS
                                    go_wp2_with fail
                                    first | go_at_call 8 | skip
                                    with_reducible refine HLc.out.mono ?_
                                    rintro e w' ⟨rfl, hw⟩
                                    subst hw
                                    go_wp2_with fail
                                    first | go_at_call 8 | skip
                                    with_reducible refine HAc.out.mono ?_
                                    rintro e w' ⟨rfl, hw⟩
                                    subst hw
                                    have hu : (wz.alloc (.cells #[.int .i64 (c : Int)] 3)).cell? ⟨wz.heap.size, 0, none⟩ = some (.int .i64 (c : Int)) := ((Blk.new wz 3 #[.int .i64 (c : Int)]).cell 0).trans rfl
                                    go_wp2_with (first | (at_builtin; refine wpList_app1 _ rfl (.tmp 179) (.tmp 181) 23 rfl wp.heap.size 3 i0 (.int .i64 0) 8 Try.underlying23 hi0 hz0 hz1 hz2 rfl As sl.length cs (intsV sl) rfl (hows.alloc _) wz.heap.size 1 (.int .i64 (c : Int)) rfl hu rfl h63 hby (Nat.le_trans hszc (by simp)) ?_))
                                    intro A' c' w' hown' hg' hc'
                                    have hb' := (app_keep hows _ hg' hszc).2.1 wp _ (Nat.le_refl _) hbc
                                    clear hg' hows hu hc'
                                    go_wp2_with fail
                                    go_roundw
                                    case rel => exact ⟨c + 1, A', c', by omega, by rw [HE.out]; simp, by go_num, hb', by rw [HE.out, intsV_append, List.length_append]; exact hown'⟩
                                    case measure => simp [intOf]; omega
                                  | false =>
                                    have HE : Hid (Mq.setF (c + 1) q.la ya yc = sl) := Lib.hid (by rw [HS.out]; simp)
                                    clear HS
                                    go_wp2_with fail
                                    first | go_at_call 8 | skip
                                    with_reducible refine HLc.out.mono ?_
                                    rintro e w' ⟨rfl, hw⟩
                                    subst hw
                                    go_wp2_with fail
                                    first | go_at_call 8 | skip
                                    with_reducible refine HAc.out.mono ?_
                                    rintro e w' ⟨rfl, hw⟩
                                    subst hw
                                    go_wp2_with fail
                                    go_roundw
                                    case rel => exact ⟨c + 1, As, cs, by omega, by rw [HE.out], by go_num, hbc, by rw [HE.out]; exact hows⟩
                                    case measure => simp [intOf]; omega
                            · obtain rfl : c = i := by omega
                              have hcI : ¬ (c : Int) < c := by omega
                              have hwz := HW.out.1.trans (hbc.mono HW.out.1.size)
                              have HFA := Lib.hid (fails_any wz A1 As k1 cs cu (Mq.setF c q.la ya yc) (c : Int) (HV1.out wz hwz) hl1 (SV.of_own hows) (by have := Mq.setF_len c q.la ya yc; omega) HOK.out (Mq.setF_LOk c q.la ya yc))
                              obtain ⟨c0, c5, c1⟩ := HC0.out wz hbc
                              have HNX := Lib.hid (show Mq.Rd cu wn c (r + 1) (l ++ [⟨if Mq.bad cu (Mq.setF c q.la ya yc) = true then 4 else 3, yc⟩]) from by
                                have hjl : jj < (Mq.run wn l).es.length := by rw [HQQ.out, ← HM.out, List.length_map]; exact hjj
                                have hE : (Mq.run wn l).es[jj] = ⟨yc, yt, yp, yf, ya⟩ := by
                                  have e1 : (Mq.run wn l).es[jj]? = (L.map (·.1))[jj]? := by rw [HQQ.out, HM.out]
                                  rw [List.getElem?_eq_getElem hjl, List.getElem?_eq_getElem (by simpa using hjj)] at e1
                                  injection e1 with e1
                                  rw [e1, List.getElem_map, HLJ.out.1]
                                have hT : (Mq.run wn l).es[jj].t = true := by
                                  rw [hE]
                                  have h2 := HLJ.out.2
                                  rw [HLJ.out.1] at h2
                                  exact h2
                                have h3 := HRD.out.next hi5 jj hjl hT
                                rw [hE, HQQ.out] at h3
                                exact h3)
                              have HWZ := Lib.hid (And.intro hwz hbc)
                              clear hows HAF HLH hwz
                              generalize Mq.setF c q.la ya yc = sl at *
                              generalize Mq.bad cu sl = bd at *
                              go_wp2_with fail
                              go_at_call 9
                              with_reducible refine HFA.out.mono ?_
                              rintro e w6 ⟨rfl, hb6⟩
                              have hbp := HWZ.out.2.trans ((hb6.alloc hb6.size (.cells #[.int .i64 0, .int .i64 0] 26)).mono HWZ.out.2.size)
                              obtain ⟨c0, c5, c1⟩ := HC0.out _ hbp
                              have hbo7 := HBO.out.trans (hbp.mono HBO.out.size)
                              have hev := HOWN.out _ hbo7
                              obtain ⟨hw7, hw72⟩ := HBB.out _ hbo7
                              have h63 : l.length + 1 ≤ maxLen := by unfold maxLen; omega
                              have hby : (l.length + 1) * 24 ≤ 140737488355328 := by omega
                              clear hbp hbo7 c5 c1 HC0 HWZ HFA hbc
                              cases bd with
                              | true =>
                                have hsv : SV ((w6.alloc (.cells #[.int .i64 0, .int .i64 0] 26)).alloc (.cells #[.int .i64 4, .int .i64 yc, .int .i64 0] 31)) (w6.heap.size + 1 + 1) (some ⟨w6.heap.size + 1, 0, none⟩) [.int .i64 4, .int .i64 yc, .int .i64 0] := by
                                  have h := SV.lit (w6.alloc (.cells #[.int .i64 0, .int .i64 0] 26)) #[.int .i64 4, .int .i64 yc, .int .i64 0] 31
                                  rw [World.size_alloc] at h
                                  exact h
                                have HBX := Lib.hid (fun (w' : World) (hg : ((w6.alloc (.cells #[.int .i64 0, .int .i64 0] 26)).alloc (.cells #[.int .i64 4, .int .i64 yc, .int .i64 0] 31)).grownBy w' (Value.slice Ae l.length ce).ownBlock) => (show Below w.heap.size w w' ∧ Below w2.heap.size w2 w' from
                                  ⟨below_append (hw7.alloc hw7.size _) (hev.alloc _) hg hww (by have := hw72.size; simp at this ⊢; omega), below_append (hw72.alloc hw72.size _) (hev.alloc _) hg (Nat.le_refl _) (by have := hw72.size; simp at this ⊢; omega)⟩))
                                have hbs : w2.heap.size ≤ ((w6.alloc (.cells #[.int .i64 0, .int .i64 0] 26)).alloc (.cells #[.int .i64 4, .int .i64 yc, .int .i64 0] 31)).heap.size := by have := hw72.size; simp at this ⊢; omega
                                have HEV := Lib.hid (show evsV (l ++ [⟨4, yc⟩]) = evsV l ++ [.int .i64 4, .int .i64 yc, .int .i64 0] from by rw [evsV_app]; rfl)
                                have HNX2 := Lib.hid (show Mq.Rd cu wn c (r + 1) (l ++ [⟨4, yc⟩]) from HNX.out)
                                clear hw7 hw72 HNX
                                go_wp2_with (first | (at_builtin; refine wpList_appNo _ rfl (.tmp 194) (.tmp 202) 29 rfl w2.heap.size 31 j0 _ 3 24 Try.underlying29 hj0 hy0 hy1 hy2 rfl (by decide) Ae l.length ce (evsV l) rfl (hev.alloc _) (w6.heap.size + 1 + 1) (some ⟨w6.heap.size + 1, 0, none⟩) 1 1 [.int .i64 4, .int .i64 yc, .int .i64 0] rfl rfl hsv ev_one h63 hby hbs ?_))
                                intro A' c' w' hown' hg' _ _
                                obtain ⟨hb', hb2'⟩ := HBX.out w' hg'
                                clear hg' HBX hsv hev
                                go_wp2_with fail
                                go_roundw
                                case rel => exact ⟨r + 1, l ++ [⟨4, yc⟩], A', c', by simp, by go_num, HNX2, hb', hb2', by rw [HEV.out, List.length_append]; exact hown'⟩
                                case measure => simp [intOf]; omega
                              | false =>
                                have hsv : SV ((w6.alloc (.cells #[.int .i64 0, .int .i64 0] 26)).alloc (.cells #[.int .i64 3, .int .i64 yc, .int .i64 0] 31)) (w6.heap.size + 1 + 1) (some ⟨w6.heap.size + 1, 0, none⟩) [.int .i64 3, .int .i64 yc, .int .i64 0] := by
                                  have h := SV.lit (w6.alloc (.cells #[.int .i64 0, .int .i64 0] 26)) #[.int .i64 3, .int .i64 yc, .int .i64 0] 31
                                  rw [World.size_alloc] at h
                                  exact h
                                have HBX := Lib.hid (fun (w' : World) (hg : ((w6.alloc (.cells #[.int .i64 0, .int .i64 0] 26)).alloc (.cells #[.int .i64 3, .int .i64 yc, .int .i64 0] 31)).grownBy w' (Value.slice Ae l.length ce).ownBlock) => (show Below w.heap.size w w' ∧ Below w2.heap.size w2 w' from
                                  ⟨below_append (hw7.alloc hw7.size _) (hev.alloc _) hg hww (by have := hw72.size; simp at this ⊢; omega), below_append (hw72.alloc hw72.size _) (hev.alloc _) hg (Nat.le_refl _) (by have := hw72.size; simp at this ⊢; omega)⟩))
                                have hbs : w2.heap.size ≤ ((w6.alloc (.cells #[.int .i64 0, .int .i64 0] 26)).alloc (.cells #[.int .i64 3, .int .i64 yc, .int .i64 0] 31)).heap.size := by have := hw72.size; simp at this ⊢; omega
                                have HEV := Lib.hid (show evsV (l ++ [⟨3, yc⟩]) = evsV l ++ [.int .i64 3, .int .i64 yc, .int .i64 0] from by rw [evsV_app]; rfl)
                                have HNX2 := Lib.hid (show Mq.Rd cu wn c (r + 1) (l ++ [⟨3, yc⟩]) from HNX.out)
                                clear hw7 hw72 HNX
                                go_wp2_with (first | (at_builtin; refine wpList_appNo _ rfl (.tmp 194) (.tmp 202) 29 rfl w2.heap.size 31 j0 _ 3 24 Try.underlying29 hj0 hy0 hy1 hy2 rfl (by decide) Ae l.length ce (evsV l) rfl (hev.alloc _) (w6.heap.size + 1 + 1) (some ⟨w6.heap.size + 1, 0, none⟩) 1 1 [.int .i64 3, .int .i64 yc, .int .i64 0] rfl rfl hsv ev_one h63 hby hbs ?_))
                                intro A' c' w' hown' hg' _ _
                                obtain ⟨hb', hb2'⟩ := HBX.out w' hg'
                                clear hg' HBX hsv hev
                                go_wp2_with fail
                                go_roundw
                                case rel => exact ⟨r + 1, l ++ [⟨3, yc⟩], A', c', by simp, by go_num, HNX2, hb', hb2', by rw [HEV.out, List.length_append]; exact hown'⟩
                                case measure => simp [intOf]; omega
                        · have hkk : 0 < rn.length := hrnp
                          have hkI : (0 : Int) < rn.length := by omega
                          obtain ⟨jj, hjj, hLj, htj⟩ := HRNM.out 0 hkk
                          obtain ⟨gR, c8, cur8, e8, _⟩ := own_some hown hrnp
                          injection e8 with e8a e8b e8c
                          subst e8a
                          subst e8c
                          clear e8b
                          have haj := HQJ.out.a jj hjj
                          rw [hLj] at haj
                          obtain ⟨Ay, cy, hyv, _⟩ := own_form haj
                          have hr0 := own_cell hown (0 * 6 + 0) _ ((flat_at rn 0 0 hkk (by omega)).trans rfl)
                          have hr5 := own_cell hown (0 * 6 + 5) _ ((flat_at rn 0 5 hkk (by omega)).trans rfl)
                          rw [hyv] at haj hr5
                          have hya : (rn[0]).1.a.length ≤ 100 := by
                            obtain ⟨mm, hS⟩ := HRD.out.st
                            have h1 := (hS.sz hi5).2.2.2
                            rw [HQQ.out] at h1
                            have h2 : jj < q.es.length := by rw [← HM.out, List.length_map]; exact hjj
                            have h3 := h1 jj h2
                            have e1 : q.es[jj]? = (L.map (·.1))[jj]? := by rw [HM.out]
                            rw [List.getElem?_eq_getElem h2, List.getElem?_eq_getElem (by simpa using hjj)] at e1
                            injection e1 with e1
                            rw [e1, List.getElem_map, hLj] at h3
                            omega
                          have HYC := Lib.hid (show ∃ y, rn[0] = y from ⟨_, rfl⟩)
                          have HLJ := Lib.hid (And.intro hLj htj)
                          have HAF := Lib.hid (fun (W : World) (hbW : Below wp.heap.size wp W) (z : Int) => has_any W Ay cy (rn[0]).1.a z ((show IV wp Ay (rn[0]).1.a from SV.of_own haj).below hbW) (by omega))
                          have HLH := Lib.hid (fun (W : World) (hbW : Below wp.heap.size wp W) (z : Int) => (show Calls Try.prog 8 #[.slice Al nl cl, .int .i64 z] W (fun e w' => e = .returned (.bool (q.la.contains z)) ∧ W = w') from by
                            have h1 := HQJ.out.l
                            have h2 := has_any W Al cl q.la z ((show IV wp Al q.la from by unfold IR at h1; rw [HNL.out] at h1; exact SV.of_own h1).below hbW) (by
                              obtain ⟨mm, hS⟩ := HRD.out.st
                              have h3 := (hS.sz hi5).2.1
                              rw [HQQ.out] at h3
                              omega)
                            rwa [HNL.out] at h2))
                          have HC0 := Lib.hid (fun (W : World) (hbW : Below wp.heap.size wp W) => (show W.cell? ⟨gR, 0, none⟩ = some (.int .i64 (rn[0]).1.c) ∧ W.cell? ⟨gR, 5, none⟩ = some (.slice Ay (rn[0]).1.a.length cy) ∧ W.cell? ⟨w4.heap.size, 1, none⟩ = some (.slice Al nl cl) from
                            ⟨(hbW.cell (p := ⟨gR, 0, none⟩) hr0.2.2.1).trans (by simpa using hr0.1), (hbW.cell (p := ⟨gR, 5, none⟩) hr0.2.2.1).trans (by simpa using hr5.1), ((HB1.out.below hbW HB1.out.lt).cell 1).trans rfl⟩))
                          clear hr0 hr5 haj hyv hLj htj hown
                          generalize hyy : rn[0] = y at *
                          obtain ⟨⟨yc, yt, yp, yf, ya⟩, yv⟩ := y
                          try simp only at HAF HC0 hya
                          go_wp2_with fail
                          go_loopw [21, 22] (fun ov iv wr => ∃ (c : Nat) (As : Option Addr) (cs : Nat), c ≤ i ∧ ov = .slice As (Mq.setF c q.la ya yc).length cs ∧ iv = .int .i64 c ∧ Below wp.heap.size wp wr ∧ wr.ownsRow wp.heap.size 3 1 (.slice As (Mq.setF c q.la ya yc).length cs) (Mq.setF c q.la ya yc).length (intsV (Mq.setF c q.la ya yc))) (fun _ iv _ => i - (intOf iv).toNat)
                          case atStart => exact ⟨0, none, 0, Nat.zero_le _, rfl, rfl, Below.refl _ _, World.ownsRow_nil _ _ _ _⟩
                          case round =>
                            obtain ⟨c, As, cs, hci, rfl, rfl, hbc, hows⟩ := hrel
                            obtain ⟨wz, rfl⟩ : ∃ wz : World, wz = wr := ⟨_, rfl⟩
                            by_cases hcl : c < i
                            · have hcI : (c : Int) < i := by omega
                              have HLc := Lib.hid (HLH.out wz hbc ((c : Int) + 1))
                              have HAc := Lib.hid (HAF.out wz hbc ((c : Int) + 1))
                              obtain ⟨c0, c5, c1⟩ := HC0.out wz hbc
                              have HS := Lib.hid (Mq.setF_succ c q.la ya yc)
                              have hsl := Mq.setF_len c q.la ya yc
                              have hszc := hbc.size
                              have h63 : (Mq.setF c q.la ya yc).length + 1 ≤ maxLen := by unfold maxLen; omega
                              have hby : ((Mq.setF c q.la ya yc).length + 1) * 8 ≤ 140737488355328 := by omega
                              try simp only at HAc
                              generalize Mq.setF c q.la ya yc = sl at *
                              generalize q.la.contains ((c : Int) + 1) = b1 at *
                              generalize ya.contains ((c : Int) + 1) = b2 at *
                              generalize hb3 : (yc == (c : Int) + 1) = b3 at *
                              cases b1 with
                              | true =>
                                have HE : Hid (Mq.setF (c + 1) q.la ya yc = sl ++ [(c : Int)]) := Lib.hid (by rw [HS.out]; rfl)
                                clear HS HAc
                                go_wp2_with fail
                                first | go_at_call 8 | skip
                                with_reducible refine HLc.out.mono ?_
                                rintro e w' ⟨rfl, hw⟩
                                subst hw
                                have hu : (wz.alloc (.cells #[.int .i64 (c : Int)] 3)).cell? ⟨wz.heap.size, 0, none⟩ = some (.int .i64 (c : Int)) := ((Blk.new wz 3 #[.int .i64 (c : Int)]).cell 0).trans rfl
                                go_wp2_with (first | (at_builtin; refine wpList_app1 _ rfl (.tmp 179) (.tmp 181) 23 rfl wp.heap.size 3 i0 (.int .i64 0) 8 Try.underlying23 hi0 hz0 hz1 hz2 rfl As sl.length cs (intsV sl) rfl (hows.alloc _) wz.heap.size 1 (.int .i64 (c : Int)) rfl hu rfl h63 hby (Nat.le_trans hszc (by simp)) ?_))
                                intro A' c' w' hown' hg' hc'
                                have hb' := (app_keep hows _ hg' hszc).2.1 wp _ (Nat.le_refl _) hbc
                                clear hg' hows hu hc'
                                go_wp2_with fail
                                go_roundw
                                case rel => exact ⟨c + 1, A', c', by omega, by rw [HE.out]; simp, by go_num, hb', by rw [HE.out, intsV_append, List.length_append]; exact hown'⟩
                                case measure => simp [intOf]; omega
                              | false =>
                                cases b2 with
                                | true =>
                                  have HE : Hid (Mq.setF (c + 1) q.la ya yc = sl ++ [(c : Int)]) := Lib.hid (by rw [HS.out]; rfl)
                                  clear HS
                                  go_wp2_with fail
                                  first | go_at_call 8 | skip
                                  with_reducible refine HLc.out.mono ?_
                                  rintro e w' ⟨rfl, hw⟩
                                  subst hw
                                  go_wp2_with fail
                                  first | go_at_call 8 | skip
                                  with_reducible refine HAc.out.mono ?_
                                  rintro e w' ⟨rfl, hw⟩
                                  subst hw
                                  have hu : (wz.alloc (.cells #[.int .i64 (c : Int)] 3)).cell? ⟨wz.heap.size, 0, none⟩ = some (.int .i64 (c : Int)) := ((Blk.new wz 3 #[.int .i64 (c : Int)]).cell 0).trans rfl
                                  go_wp2_with (first | (at_builtin; refine wpList_app1 _ rfl (.tmp 179) (.tmp 181) 23 rfl wp.heap.size 3 i0 (.int .i64 0) 8 Try.underlying23 hi0 hz0 hz1 hz2 rfl As sl.length cs (intsV sl) rfl (hows.alloc _) wz.heap.size 1 (.int .i64 (c : Int)) rfl hu rfl h63 hby (Nat.le_trans hszc (by simp)) ?_))
                                  intro A' c' w' hown' hg' hc'
                                  have hb' := (app_keep hows _ hg' hszc).2.1 wp _ (Nat.le_refl _) hbc
                                  clear hg' hows hu hc'
                                  go_wp2_with fail
                                  go_roundw
                                  case rel => exact ⟨c + 1, A', c', by omega, by rw [HE.out]; simp, by go_num, hb', by rw [HE.out, intsV_append, List.length_append]; exact hown'⟩
                                  case measure => simp [intOf]; omega
                                | false =>
                                  cases b3 with
                                  | true =>
                                    have HE : Hid (Mq.setF (c + 1) q.la ya yc = sl ++ [(c : Int)]) := Lib.hid (by rw [HS.out]; rfl)
                                    clear HS
                                    go_wp2_with fail
                                    first | go_at_call 8 | skip
                                    with_reducible refine HLc.out.mono ?_
                                    rintro e w' ⟨rfl, hw⟩
                                    subst hw
                                    go_wp2_with fail
                                    first | go_at_call 8 | skip
                                    with_reducible refine HAc.out.mono ?_
                                    rintro e w' ⟨rfl, hw⟩
                                    subst hw
                                    have hu : (wz.alloc (.cells #[.int .i64 (c : Int)] 3)).cell? ⟨wz.heap.size, 0, none⟩ = some (.int .i64 (c : Int)) := ((Blk.new wz 3 #[.int .i64 (c : Int)]).cell 0).trans rfl
                                    go_wp2_with (first | (at_builtin; refine wpList_app1 _ rfl (.tmp 179) (.tmp 181) 23 rfl wp.heap.size 3 i0 (.int .i64 0) 8 Try.underlying23 hi0 hz0 hz1 hz2 rfl As sl.length cs (intsV sl) rfl (hows.alloc _) wz.heap.size 1 (.int .i64 (c : Int)) rfl hu rfl h63 hby (Nat.le_trans hszc (by simp)) ?_))
                                    intro A' c' w' hown' hg' hc'
                                    have hb' := (app_keep hows _ hg' hszc).2.1 wp _ (Nat.le_refl _) hbc
                                    clear hg' hows hu hc'
                                    go_wp2_with fail
                                    go_roundw
                                    case rel => exact ⟨c + 1, A', c', by omega, by rw [HE.out]; simp, by go_num, hb', by rw [HE.out, intsV_append, List.length_append]; exact hown'⟩
                                    case measure => simp [intOf]; omega
                                  | false =>
                                    have HE : Hid (Mq.setF (c + 1) q.la ya yc = sl) := Lib.hid (by rw [HS.out]; simp)
                                    clear HS
                                    go_wp2_with fail
                                    first | go_at_call 8 | skip
                                    with_reducible refine HLc.out.mono ?_
                                    rintro e w' ⟨rfl, hw⟩
                                    subst hw
                                    go_wp2_with fail
                                    first | go_at_call 8 | skip
                                    with_reducible refine HAc.out.mono ?_
                                    rintro e w' ⟨rfl, hw⟩
                                    subst hw
                                    go_wp2_with fail
                                    go_roundw
                                    case rel => exact ⟨c + 1, As, cs, by omega, by rw [HE.out], by go_num, hbc, by rw [HE.out]; exact hows⟩
                                    case measure => simp [intOf]; omega
                            · obtain rfl : c = i := by omega
                              have hcI : ¬ (c : Int) < c := by omega
                              have hwz := HW.out.1.trans (hbc.mono HW.out.1.size)
                              have HFA := Lib.hid (fails_any wz A1 As k1 cs cu (Mq.setF c q.la ya yc) (c : Int) (HV1.out wz hwz) hl1 (SV.of_own hows) (by have := Mq.setF_len c q.la ya yc; omega) HOK.out (Mq.setF_LOk c q.la ya yc))
                              obtain ⟨c0, c5, c1⟩ := HC0.out wz hbc
                              have HNX := Lib.hid (show Mq.Rd cu wn c (r + 1) (l ++ [⟨if Mq.bad cu (Mq.setF c q.la ya yc) = true then 4 else 3, yc⟩]) from by
                                have hjl : jj < (Mq.run wn l).es.length := by rw [HQQ.out, ← HM.out, List.length_map]; exact hjj
                                have hE : (Mq.run wn l).es[jj] = ⟨yc, yt, yp, yf, ya⟩ := by
                                  have e1 : (Mq.run wn l).es[jj]? = (L.map (·.1))[jj]? := by rw [HQQ.out, HM.out]
                                  rw [List.getElem?_eq_getElem hjl, List.getElem?_eq_getElem (by simpa using hjj)] at e1
                                  injection e1 with e1
                                  rw [e1, List.getElem_map, HLJ.out.1]
                                have hT : (Mq.run wn l).es[jj].t = true := by
                                  rw [hE]
                                  have h2 := HLJ.out.2
                                  rw [HLJ.out.1] at h2
                                  exact h2
                                have h3 := HRD.out.next hi5 jj hjl hT
                                rw [hE, HQQ.out] at h3
                                exact h3)
                              have HWZ := Lib.hid (And.intro hwz hbc)
                              clear hows HAF HLH hwz
                              generalize Mq.setF c q.la ya yc = sl at *
                              generalize Mq.bad cu sl = bd at *
                              go_wp2_with fail
                              go_at_call 9
                              with_reducible refine HFA.out.mono ?_
                              rintro e w6 ⟨rfl, hb6⟩
                              have hbp := HWZ.out.2.trans ((hb6.alloc hb6.size (.cells #[.int .i64 0, .int .i64 0] 26)).mono HWZ.out.2.size)
                              obtain ⟨c0, c5, c1⟩ := HC0.out _ hbp
                              have hbo7 := HBO.out.trans (hbp.mono HBO.out.size)
                              have hev := HOWN.out _ hbo7
                              obtain ⟨hw7, hw72⟩ := HBB.out _ hbo7
                              have h63 : l.length + 1 ≤ maxLen := by unfold maxLen; omega
                              have hby : (l.length + 1) * 24 ≤ 140737488355328 := by omega
                              clear hbp hbo7 c5 c1 HC0 HWZ HFA hbc
                              cases bd with
                              | true =>
                                have hsv : SV ((w6.alloc (.cells #[.int .i64 0, .int .i64 0] 26)).alloc (.cells #[.int .i64 4, .int .i64 yc, .int .i64 0] 31)) (w6.heap.size + 1 + 1) (some ⟨w6.heap.size + 1, 0, none⟩) [.int .i64 4, .int .i64 yc, .int .i64 0] := by
                                  have h := SV.lit (w6.alloc (.cells #[.int .i64 0, .int .i64 0] 26)) #[.int .i64 4, .int .i64 yc, .int .i64 0] 31
                                  rw [World.size_alloc] at h
                                  exact h
                                have HBX := Lib.hid (fun (w' : World) (hg : ((w6.alloc (.cells #[.int .i64 0, .int .i64 0] 26)).alloc (.cells #[.int .i64 4, .int .i64 yc, .int .i64 0] 31)).grownBy w' (Value.slice Ae l.length ce).ownBlock) => (show Below w.heap.size w w' ∧ Below w2.heap.size w2 w' from
                                  ⟨below_append (hw7.alloc hw7.size _) (hev.alloc _) hg hww (by have := hw72.size; simp at this ⊢; omega), below_append (hw72.alloc hw72.size _) (hev.alloc _) hg (Nat.le_refl _) (by have := hw72.size; simp at this ⊢; omega)⟩))
                                have hbs : w2.heap.size ≤ ((w6.alloc (.cells #[.int .i64 0, .int .i64 0] 26)).alloc (.cells #[.int .i64 4, .int .i64 yc, .int .i64 0] 31)).heap.size := by have := hw72.size; simp at this ⊢; omega
                                have HEV := Lib.hid (show evsV (l ++ [⟨4, yc⟩]) = evsV l ++ [.int .i64 4, .int .i64 yc, .int .i64 0] from by rw [evsV_app]; rfl)
                                have HNX2 := Lib.hid (show Mq.Rd cu wn c (r + 1) (l ++ [⟨4, yc⟩]) from HNX.out)
                                clear hw7 hw72 HNX
                                go_wp2_with (first | (at_builtin; refine wpList_appNo _ rfl (.tmp 194) (.tmp 202) 29 rfl w2.heap.size 31 j0 _ 3 24 Try.underlying29 hj0 hy0 hy1 hy2 rfl (by decide) Ae l.length ce (evsV l) rfl (hev.alloc _) (w6.heap.size + 1 + 1) (some ⟨w6.heap.size + 1, 0, none⟩) 1 1 [.int .i64 4, .int .i64 yc, .int .i64 0] rfl rfl hsv ev_one h63 hby hbs ?_))
                                intro A' c' w' hown' hg' _ _
                                obtain ⟨hb', hb2'⟩ := HBX.out w' hg'
                                clear hg' HBX hsv hev
                                go_wp2_with fail
                                go_roundw
                                case rel => exact ⟨r + 1, l ++ [⟨4, yc⟩], A', c', by simp, by go_num, HNX2, hb', hb2', by rw [HEV.out, List.length_append]; exact hown'⟩
                                case measure => simp [intOf]; omega
                              | false =>
                                have hsv : SV ((w6.alloc (.cells #[.int .i64 0, .int .i64 0] 26)).alloc (.cells #[.int .i64 3, .int .i64 yc, .int .i64 0] 31)) (w6.heap.size + 1 + 1) (some ⟨w6.heap.size + 1, 0, none⟩) [.int .i64 3, .int .i64 yc, .int .i64 0] := by
                                  have h := SV.lit (w6.alloc (.cells #[.int .i64 0, .int .i64 0] 26)) #[.int .i64 3, .int .i64 yc, .int .i64 0] 31
                                  rw [World.size_alloc] at h
                                  exact h
                                have HBX := Lib.hid (fun (w' : World) (hg : ((w6.alloc (.cells #[.int .i64 0, .int .i64 0] 26)).alloc (.cells #[.int .i64 3, .int .i64 yc, .int .i64 0] 31)).grownBy w' (Value.slice Ae l.length ce).ownBlock) => (show Below w.heap.size w w' ∧ Below w2.heap.size w2 w' from
                                  ⟨below_append (hw7.alloc hw7.size _) (hev.alloc _) hg hww (by have := hw72.size; simp at this ⊢; omega), below_append (hw72.alloc hw72.size _) (hev.alloc _) hg (Nat.le_refl _) (by have := hw72.size; simp at this ⊢; omega)⟩))
                                have hbs : w2.heap.size ≤ ((w6.alloc (.cells #[.int .i64 0, .int .i64 0] 26)).alloc (.cells #[.int .i64 3, .int .i64 yc, .int .i64 0] 31)).heap.size := by have := hw72.size; simp at this ⊢; omega
                                have HEV := Lib.hid (show evsV (l ++ [⟨3, yc⟩]) = evsV l ++ [.int .i64 3, .int .i64 yc, .int .i64 0] from by rw [evsV_app]; rfl)
                                have HNX2 := Lib.hid (show Mq.Rd cu wn c (r + 1) (l ++ [⟨3, yc⟩]) from HNX.out)
                                clear hw7 hw72 HNX
                                go_wp2_with (first | (at_builtin; refine wpList_appNo _ rfl (.tmp 194) (.tmp 202) 29 rfl w2.heap.size 31 j0 _ 3 24 Try.underlying29 hj0 hy0 hy1 hy2 rfl (by decide) Ae l.length ce (evsV l) rfl (hev.alloc _) (w6.heap.size + 1 + 1) (some ⟨w6.heap.size + 1, 0, none⟩) 1 1 [.int .i64 3, .int .i64 yc, .int .i64 0] rfl rfl hsv ev_one h63 hby hbs ?_))
                                intro A' c' w' hown' hg' _ _
                                obtain ⟨hb', hb2'⟩ := HBX.out w' hg'
                                clear hg' HBX hsv hev
                                go_wp2_with fail
                                go_roundw
                                case rel => exact ⟨r + 1, l ++ [⟨3, yc⟩], A', c', by simp, by go_num, HNX2, hb', hb2', by rw [HEV.out, List.length_append]; exact hown'⟩
                                case measure => simp [intOf]; omega
                      · have hplI : ¬ (r : Int) < pk.length := by omega
                        have hkk : 0 < rn.length := hrnp
                        have hkI : (0 : Int) < rn.length := by omega
                        obtain ⟨jj, hjj, hLj, htj⟩ := HRNM.out 0 hkk
                        obtain ⟨gR, c8, cur8, e8, _⟩ := own_some hown hrnp
                        injection e8 with e8a e8b e8c
                        subst e8a
                        subst e8c
                        clear e8b
                        have haj := HQJ.out.a jj hjj
                        rw [hLj] at haj
                        obtain ⟨Ay, cy, hyv, _⟩ := own_form haj
                        have hr0 := own_cell hown (0 * 6 + 0) _ ((flat_at rn 0 0 hkk (by omega)).trans rfl)
                        have hr5 := own_cell hown (0 * 6 + 5) _ ((flat_at rn 0 5 hkk (by omega)).trans rfl)
                        rw [hyv] at haj hr5
                        have hya : (rn[0]).1.a.length ≤ 100 := by
                          obtain ⟨mm, hS⟩ := HRD.out.st
                          have h1 := (hS.sz hi5).2.2.2
                          rw [HQQ.out] at h1
                          have h2 : jj < q.es.length := by rw [← HM.out, List.length_map]; exact hjj
                          have h3 := h1 jj h2
                          have e1 : q.es[jj]? = (L.map (·.1))[jj]? := by rw [HM.out]
                          rw [List.getElem?_eq_getElem h2, List.getElem?_eq_getElem (by simpa using hjj)] at e1
                          injection e1 with e1
                          rw [e1, List.getElem_map, hLj] at h3
                          omega
                        have HYC := Lib.hid (show ∃ y, rn[0] = y from ⟨_, rfl⟩)
                        have HLJ := Lib.hid (And.intro hLj htj)
                        have HAF := Lib.hid (fun (W : World) (hbW : Below wp.heap.size wp W) (z : Int) => has_any W Ay cy (rn[0]).1.a z ((show IV wp Ay (rn[0]).1.a from SV.of_own haj).below hbW) (by omega))
                        have HLH := Lib.hid (fun (W : World) (hbW : Below wp.heap.size wp W) (z : Int) => (show Calls Try.prog 8 #[.slice Al nl cl, .int .i64 z] W (fun e w' => e = .returned (.bool (q.la.contains z)) ∧ W = w') from by
                          have h1 := HQJ.out.l
                          have h2 := has_any W Al cl q.la z ((show IV wp Al q.la from by unfold IR at h1; rw [HNL.out] at h1; exact SV.of_own h1).below hbW) (by
                            obtain ⟨mm, hS⟩ := HRD.out.st
                            have h3 := (hS.sz hi5).2.1
                            rw [HQQ.out] at h3
                            omega)
                          rwa [HNL.out] at h2))
                        have HC0 := Lib.hid (fun (W : World) (hbW : Below wp.heap.size wp W) => (show W.cell? ⟨gR, 0, none⟩ = some (.int .i64 (rn[0]).1.c) ∧ W.cell? ⟨gR, 5, none⟩ = some (.slice Ay (rn[0]).1.a.length cy) ∧ W.cell? ⟨w4.heap.size, 1, none⟩ = some (.slice Al nl cl) from
                          ⟨(hbW.cell (p := ⟨gR, 0, none⟩) hr0.2.2.1).trans (by simpa using hr0.1), (hbW.cell (p := ⟨gR, 5, none⟩) hr0.2.2.1).trans (by simpa using hr5.1), ((HB1.out.below hbW HB1.out.lt).cell 1).trans rfl⟩))
                        clear hr0 hr5 haj hyv hLj htj hown
                        generalize hyy : rn[0] = y at *
                        obtain ⟨⟨yc, yt, yp, yf, ya⟩, yv⟩ := y
                        try simp only at HAF HC0 hya
                        go_wp2_with fail
                        go_loopw [21, 22] (fun ov iv wr => ∃ (c : Nat) (As : Option Addr) (cs : Nat), c ≤ i ∧ ov = .slice As (Mq.setF c q.la ya yc).length cs ∧ iv = .int .i64 c ∧ Below wp.heap.size wp wr ∧ wr.ownsRow wp.heap.size 3 1 (.slice As (Mq.setF c q.la ya yc).length cs) (Mq.setF c q.la ya yc).length (intsV (Mq.setF c q.la ya yc))) (fun _ iv _ => i - (intOf iv).toNat)
                        case atStart => exact ⟨0, none, 0, Nat.zero_le _, rfl, rfl, Below.refl _ _, World.ownsRow_nil _ _ _ _⟩
                        case round =>
                          obtain ⟨c, As, cs, hci, rfl, rfl, hbc, hows⟩ := hrel
                          obtain ⟨wz, rfl⟩ : ∃ wz : World, wz = wr := ⟨_, rfl⟩
                          by_cases hcl : c < i
                          · have hcI : (c : Int) < i := by omega
                            have HLc := Lib.hid (HLH.out wz hbc ((c : Int) + 1))
                            have HAc := Lib.hid (HAF.out wz hbc ((c : Int) + 1))
                            obtain ⟨c0, c5, c1⟩ := HC0.out wz hbc
                            have HS := Lib.hid (Mq.setF_succ c q.la ya yc)
                            have hsl := Mq.setF_len c q.la ya yc
                            have hszc := hbc.size
                            have h63 : (Mq.setF c q.la ya yc).length + 1 ≤ maxLen := by unfold maxLen; omega
                            have hby : ((Mq.setF c q.la ya yc).length + 1) * 8 ≤ 140737488355328 := by omega
                            try simp only at HAc
                            generalize Mq.setF c q.la ya yc = sl at *
                            generalize q.la.contains ((c : Int) + 1) = b1 at *
                            generalize ya.contains ((c : Int) + 1) = b2 at *
                            generalize hb3 : (yc == (c : Int) + 1) = b3 at *
                            cases b1 with
                            | true =>
                              have HE : Hid (Mq.setF (c + 1) q.la ya yc = sl ++ [(c : Int)]) := Lib.hid (by rw [HS.out]; rfl)
                              clear HS HAc
                              go_wp2_with fail
                              first | go_at_call 8 | skip
                              with_reducible refine HLc.out.mono ?_
                              rintro e w' ⟨rfl, hw⟩
                              subst hw
                              have hu : (wz.alloc (.cells #[.int .i64 (c : Int)] 3)).cell? ⟨wz.heap.size, 0, none⟩ = some (.int .i64 (c : Int)) := ((Blk.new wz 3 #[.int .i64 (c : Int)]).cell 0).trans rfl
                              go_wp2_with (first | (at_builtin; refine wpList_app1 _ rfl (.tmp 179) (.tmp 181) 23 rfl wp.heap.size 3 i0 (.int .i64 0) 8 Try.underlying23 hi0 hz0 hz1 hz2 rfl As sl.length cs (intsV sl) rfl (hows.alloc _) wz.heap.size 1 (.int .i64 (c : Int)) rfl hu rfl h63 hby (Nat.le_trans hszc (by simp)) ?_))
                              intro A' c' w' hown' hg' hc'
                              have hb' := (app_keep hows _ hg' hszc).2.1 wp _ (Nat.le_refl _) hbc
                              clear hg' hows hu hc'
                              go_wp2_with fail
                              go_roundw
                              case rel => exact ⟨c + 1, A', c', by omega, by rw [HE.out]; simp, by go_num, hb', by rw [HE.out, intsV_append, List.length_append]; exact hown'⟩
                              case measure => simp [intOf]; omega
                            | false =>
                              cases b2 with
                              | true =>
                                have HE : Hid (Mq.setF (c + 1) q.la ya yc = sl ++ [(c : Int)]) := Lib.hid (by rw [HS.out]; rfl)
                                clear HS
                                go_wp2_with fail
                                first | go_at_call 8 | skip
                                with_reducible refine HLc.out.mono ?_
                                rintro e w' ⟨rfl, hw⟩
                                subst hw
                                go_wp2_with fail
                                first | go_at_call 8 | skip
                                with_reducible refine HAc.out.mono ?_
                                rintro e w' ⟨rfl, hw⟩
                                subst hw
                                have hu : (wz.alloc (.cells #[.int .i64 (c : Int)] 3)).cell? ⟨wz.heap.size, 0, none⟩ = some (.int .i64 (c : Int)) := ((Blk.new wz 3 #[.int .i64 (c : Int)]).cell 0).trans rfl
                                go_wp2_with (first | (at_builtin; refine wpList_app1 _ rfl (.tmp 179) (.tmp 181) 23 rfl wp.heap.size 3 i0 (.int .i64 0) 8 Try.underlying23 hi0 hz0 hz1 hz2 rfl As sl.length cs (intsV sl) rfl (hows.alloc _) wz.heap.size 1 (.int .i64 (c : Int)) rfl hu rfl h63 hby (Nat.le_trans hszc (by simp)) ?_))
                                intro A' c' w' hown' hg' hc'
                                have hb' := (app_keep hows _ hg' hszc).2.1 wp _ (Nat.le_refl _) hbc
                                clear hg' hows hu hc'
                                go_wp2_with fail
                                go_roundw
                                case rel => exact ⟨c + 1, A', c', by omega, by rw [HE.out]; simp, by go_num, hb', by rw [HE.out, intsV_append, List.length_append]; exact hown'⟩
                                case measure => simp [intOf]; omega
                              | false =>
                                cases b3 with
                                | true =>
                                  have HE : Hid (Mq.setF (c + 1) q.la ya yc = sl ++ [(c : Int)]) := Lib.hid (by rw [HS.out]; rfl)
                                  clear HS
                                  go_wp2_with fail
                                  first | go_at_call 8 | skip
                                  with_reducible refine HLc.out.mono ?_
                                  rintro e w' ⟨rfl, hw⟩
                                  subst hw
                                  go_wp2_with fail
                                  first | go_at_call 8 | skip
                                  with_reducible refine HAc.out.mono ?_
                                  rintro e w' ⟨rfl, hw⟩
                                  subst hw
                                  have hu : (wz.alloc (.cells #[.int .i64 (c : Int)] 3)).cell? ⟨wz.heap.size, 0, none⟩ = some (.int .i64 (c : Int)) := ((Blk.new wz 3 #[.int .i64 (c : Int)]).cell 0).trans rfl
                                  go_wp2_with (first | (at_builtin; refine wpList_app1 _ rfl (.tmp 179) (.tmp 181) 23 rfl wp.heap.size 3 i0 (.int .i64 0) 8 Try.underlying23 hi0 hz0 hz1 hz2 rfl As sl.length cs (intsV sl) rfl (hows.alloc _) wz.heap.size 1 (.int .i64 (c : Int)) rfl hu rfl h63 hby (Nat.le_trans hszc (by simp)) ?_))
                                  intro A' c' w' hown' hg' hc'
                                  have hb' := (app_keep hows _ hg' hszc).2.1 wp _ (Nat.le_refl _) hbc
                                  clear hg' hows hu hc'
                                  go_wp2_with fail
                                  go_roundw
                                  case rel => exact ⟨c + 1, A', c', by omega, by rw [HE.out]; simp, by go_num, hb', by rw [HE.out, intsV_append, List.length_append]; exact hown'⟩
                                  case measure => simp [intOf]; omega
                                | false =>
                                  have HE : Hid (Mq.setF (c + 1) q.la ya yc = sl) := Lib.hid (by rw [HS.out]; simp)
                                  clear HS
                                  go_wp2_with fail
                                  first | go_at_call 8 | skip
                                  with_reducible refine HLc.out.mono ?_
                                  rintro e w' ⟨rfl, hw⟩
                                  subst hw
                                  go_wp2_with fail
                                  first | go_at_call 8 | skip
                                  with_reducible refine HAc.out.mono ?_
                                  rintro e w' ⟨rfl, hw⟩
                                  subst hw
                                  go_wp2_with fail
                                  go_roundw
                                  case rel => exact ⟨c + 1, As, cs, by omega, by rw [HE.out], by go_num, hbc, by rw [HE.out]; exact hows⟩
                                  case measure => simp [intOf]; omega
                          · obtain rfl : c = i := by omega
                            have hcI : ¬ (c : Int) < c := by omega
                            have hwz := HW.out.1.trans (hbc.mono HW.out.1.size)
                            have HFA := Lib.hid (fails_any wz A1 As k1 cs cu (Mq.setF c q.la ya yc) (c : Int) (HV1.out wz hwz) hl1 (SV.of_own hows) (by have := Mq.setF_len c q.la ya yc; omega) HOK.out (Mq.setF_LOk c q.la ya yc))
                            obtain ⟨c0, c5, c1⟩ := HC0.out wz hbc
                            have HNX := Lib.hid (show Mq.Rd cu wn c (r + 1) (l ++ [⟨if Mq.bad cu (Mq.setF c q.la ya yc) = true then 4 else 3, yc⟩]) from by
                              have hjl : jj < (Mq.run wn l).es.length := by rw [HQQ.out, ← HM.out, List.length_map]; exact hjj
                              have hE : (Mq.run wn l).es[jj] = ⟨yc, yt, yp, yf, ya⟩ := by
                                have e1 : (Mq.run wn l).es[jj]? = (L.map (·.1))[jj]? := by rw [HQQ.out, HM.out]
                                rw [List.getElem?_eq_getElem hjl, List.getElem?_eq_getElem (by simpa using hjj)] at e1
                                injection e1 with e1
                                rw [e1, List.getElem_map, HLJ.out.1]
                              have hT : (Mq.run wn l).es[jj].t = true := by
                                rw [hE]
                                have h2 := HLJ.out.2
                                rw [HLJ.out.1] at h2
                                exact h2
                              have h3 := HRD.out.next hi5 jj hjl hT
                              rw [hE, HQQ.out] at h3
                              exact h3)
                            have HWZ := Lib.hid (And.intro hwz hbc)
                            clear hows HAF HLH hwz
                            generalize Mq.setF c q.la ya yc = sl at *
                            generalize Mq.bad cu sl = bd at *
                            go_wp2_with fail
                            go_at_call 9
                            with_reducible refine HFA.out.mono ?_
                            rintro e w6 ⟨rfl, hb6⟩
                            have hbp := HWZ.out.2.trans ((hb6.alloc hb6.size (.cells #[.int .i64 0, .int .i64 0] 26)).mono HWZ.out.2.size)
                            obtain ⟨c0, c5, c1⟩ := HC0.out _ hbp
                            have hbo7 := HBO.out.trans (hbp.mono HBO.out.size)
                            have hev := HOWN.out _ hbo7
                            obtain ⟨hw7, hw72⟩ := HBB.out _ hbo7
                            have h63 : l.length + 1 ≤ maxLen := by unfold maxLen; omega
                            have hby : (l.length + 1) * 24 ≤ 140737488355328 := by omega
                            clear hbp hbo7 c5 c1 HC0 HWZ HFA hbc
                            cases bd with
                            | true =>
                              have hsv : SV ((w6.alloc (.cells #[.int .i64 0, .int .i64 0] 26)).alloc (.cells #[.int .i64 4, .int .i64 yc, .int .i64 0] 31)) (w6.heap.size + 1 + 1) (some ⟨w6.heap.size + 1, 0, none⟩) [.int .i64 4, .int .i64 yc, .int .i64 0] := by
                                have h := SV.lit (w6.alloc (.cells #[.int .i64 0, .int .i64 0] 26)) #[.int .i64 4, .int .i64 yc, .int .i64 0] 31
                                rw [World.size_alloc] at h
                                exact h
                              have HBX := Lib.hid (fun (w' : World) (hg : ((w6.alloc (.cells #[.int .i64 0, .int .i64 0] 26)).alloc (.cells #[.int .i64 4, .int .i64 yc, .int .i64 0] 31)).grownBy w' (Value.slice Ae l.length ce).ownBlock) => (show Below w.heap.size w w' ∧ Below w2.heap.size w2 w' from
                                ⟨below_append (hw7.alloc hw7.size _) (hev.alloc _) hg hww (by have := hw72.size; simp at this ⊢; omega), below_append (hw72.alloc hw72.size _) (hev.alloc _) hg (Nat.le_refl _) (by have := hw72.size; simp at this ⊢; omega)⟩))
                              have hbs : w2.heap.size ≤ ((w6.alloc (.cells #[.int .i64 0, .int .i64 0] 26)).alloc (.cells #[.int .i64 4, .int .i64 yc, .int .i64 0] 31)).heap.size := by have := hw72.size; simp at this ⊢; omega
                              have HEV := Lib.hid (show evsV (l ++ [⟨4, yc⟩]) = evsV l ++ [.int .i64 4, .int .i64 yc, .int .i64 0] from by rw [evsV_app]; rfl)
                              have HNX2 := Lib.hid (show Mq.Rd cu wn c (r + 1) (l ++ [⟨4, yc⟩]) from HNX.out)
                              clear hw7 hw72 HNX
                              go_wp2_with (first | (at_builtin; refine wpList_appNo _ rfl (.tmp 194) (.tmp 202) 29 rfl w2.heap.size 31 j0 _ 3 24 Try.underlying29 hj0 hy0 hy1 hy2 rfl (by decide) Ae l.length ce (evsV l) rfl (hev.alloc _) (w6.heap.size + 1 + 1) (some ⟨w6.heap.size + 1, 0, none⟩) 1 1 [.int .i64 4, .int .i64 yc, .int .i64 0] rfl rfl hsv ev_one h63 hby hbs ?_))
                              intro A' c' w' hown' hg' _ _
                              obtain ⟨hb', hb2'⟩ := HBX.out w' hg'
                              clear hg' HBX hsv hev
                              go_wp2_with fail
                              go_roundw
                              case rel => exact ⟨r + 1, l ++ [⟨4, yc⟩], A', c', by simp, by go_num, HNX2, hb', hb2', by rw [HEV.out, List.length_append]; exact hown'⟩
                              case measure => simp [intOf]; omega
                            | false =>
                              have hsv : SV ((w6.alloc (.cells #[.int .i64 0, .int .i64 0] 26)).alloc (.cells #[.int .i64 3, .int .i64 yc, .int .i64 0] 31)) (w6.heap.size + 1 + 1) (some ⟨w6.heap.size + 1, 0, none⟩) [.int .i64 3, .int .i64 yc, .int .i64 0] := by
                                have h := SV.lit (w6.alloc (.cells #[.int .i64 0, .int .i64 0] 26)) #[.int .i64 3, .int .i64 yc, .int .i64 0] 31
                                rw [World.size_alloc] at h
                                exact h
                              have HBX := Lib.hid (fun (w' : World) (hg : ((w6.alloc (.cells #[.int .i64 0, .int .i64 0] 26)).alloc (.cells #[.int .i64 3, .int .i64 yc, .int .i64 0] 31)).grownBy w' (Value.slice Ae l.length ce).ownBlock) => (show Below w.heap.size w w' ∧ Below w2.heap.size w2 w' from
                                ⟨below_append (hw7.alloc hw7.size _) (hev.alloc _) hg hww (by have := hw72.size; simp at this ⊢; omega), below_append (hw72.alloc hw72.size _) (hev.alloc _) hg (Nat.le_refl _) (by have := hw72.size; simp at this ⊢; omega)⟩))
                              have hbs : w2.heap.size ≤ ((w6.alloc (.cells #[.int .i64 0, .int .i64 0] 26)).alloc (.cells #[.int .i64 3, .int .i64 yc, .int .i64 0] 31)).heap.size := by have := hw72.size; simp at this ⊢; omega
                              have HEV := Lib.hid (show evsV (l ++ [⟨3, yc⟩]) = evsV l ++ [.int .i64 3, .int .i64 yc, .int .i64 0] from by rw [evsV_app]; rfl)
                              have HNX2 := Lib.hid (show Mq.Rd cu wn c (r + 1) (l ++ [⟨3, yc⟩]) from HNX.out)
                              clear hw7 hw72 HNX
                              go_wp2_with (first | (at_builtin; refine wpList_appNo _ rfl (.tmp 194) (.tmp 202) 29 rfl w2.heap.size 31 j0 _ 3 24 Try.underlying29 hj0 hy0 hy1 hy2 rfl (by decide) Ae l.length ce (evsV l) rfl (hev.alloc _) (w6.heap.size + 1 + 1) (some ⟨w6.heap.size + 1, 0, none⟩) 1 1 [.int .i64 3, .int .i64 yc, .int .i64 0] rfl rfl hsv ev_one h63 hby hbs ?_))
                              intro A' c' w' hown' hg' _ _
                              obtain ⟨hb', hb2'⟩ := HBX.out w' hg'
                              clear hg' HBX hsv hev
                              go_wp2_with fail
                              go_roundw
                              case rel => exact ⟨r + 1, l ++ [⟨3, yc⟩], A', c', by simp, by go_num, HNX2, hb', hb2', by rw [HEV.out, List.length_append]; exact hown'⟩
                              case measure => simp [intOf]; omega
  · have hx : (c != 0) = true := by simpa using hc
    clear hgr hc
    go_wp2_with fail
    go_ret
    exact ⟨rfl, hb3⟩
end Go.Proofs.Ytinebbleilnejaa
