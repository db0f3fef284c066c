/-
  MergebaseCoversCommon: the law's walk.
-/
import Derived.Test.YtoohmkdgimkgoaaW17
import Derived.Test.YtoohmkdgimkgoaaPure5
import Derived.StillTailTactics
namespace Go.Proofs.Ytoohmkdgimkgoaa
open Go.RowKit Go.V
set_option linter.unusedVariables false

theorem mcheck_ok {l : List Hs.Cm} (hok : Hs.Ok l) {m n : Nat} (hm : m < l.length) (hn : n < l.length) : mcheck l m n = (0, 0) := by
  unfold mcheck
  rw [Hs.validate_of_ok hok, if_neg (by simp), if_neg (fun h => h ⟨by omega, by omega⟩), if_neg (fun h => h ⟨by omega, by omega⟩)]
theorem isRes_ok {l : List Hs.Cm} (hok : Hs.Ok l) {m n : Nat} (hm : m < l.length) (hn : n < l.length) : isRes l m n = (Hs.reach l n m, (0, 0)) := by
  unfold isRes
  rw [mcheck_ok hok hm hn, if_neg (by simp)]; simp
theorem isRes_code (l : List Hs.Cm) (a b : Int) : (isRes l a b).2.1 = (mcheck l a b).1 := by
  unfold isRes
  by_cases h : (mcheck l a b).1 = 0
  · rw [if_neg (by simpa using h), h]
  · rw [if_pos h]
theorem basesRes_ok {l : List Hs.Cm} (hok : Hs.Ok l) {m n : Nat} (hm : m < l.length) (hn : n < l.length) : basesRes l m n = (Hs.ints (Hs.best l [m, n]), (0, 0)) := by
  unfold basesRes
  rw [mcheck_ok hok hm hn, if_neg (by simp)]; simp
theorem basesRes_bad {l : List Hs.Cm} {a b : Int} (h : (mcheck l a b).1 ≠ 0) : basesRes l a b = ([], mcheck l a b) := by
  unfold basesRes; rw [if_pos h]
def bestAny (l : List Hs.Cm) (xs : List Nat) (c i : Nat) : Bool := (xs.take i).any fun x => Hs.reach l x c
theorem bestAny_succ (l : List Hs.Cm) (xs : List Nat) (c i : Nat) (h : i < xs.length) : bestAny l xs c (i + 1) = (bestAny l xs c i || Hs.reach l xs[i] c) := by
  unfold bestAny
  rw [List.take_succ_eq_append_getElem h, List.any_append]; simp
theorem bestAny_all {l : List Hs.Cm} (hok : Hs.Ok l) (m n c : Nat) (hc : c < l.length) : bestAny l (Hs.best l [m, n]) c (Hs.best l [m, n]).length = (Hs.reach l m c && Hs.reach l n c) := by
  unfold bestAny
  rw [List.take_length, Bool.eq_iff_iff, List.any_eq_true, Bool.and_eq_true]
  have hcom : ∀ i, Hs.common l [m, n] i = true ↔ Hs.reach l m i = true ∧ Hs.reach l n i = true := fun i => by simp [Hs.common]
  constructor
  · rintro ⟨x, hx, hr⟩
    rw [Hs.mem_best] at hx
    have := (hcom x).1 hx.2.1
    exact ⟨hok.reach_trans _ _ _ this.1 hr, hok.reach_trans _ _ _ this.2 hr⟩
  · intro h
    exact hok.below_best [m, n] _ c (Nat.le_refl _) hc ((hcom c).2 h)
theorem best_nodup (l : List Hs.Cm) (list : List Nat) : (Hs.best l list).Nodup := List.Pairwise.filter _ List.nodup_range
theorem best_lt (l : List Hs.Cm) (list : List Nat) : ∀ x ∈ Hs.best l list, x < l.length := fun x hx => ((Hs.mem_best l list x).1 hx).1
theorem best_other {l : List Hs.Cm} (list : List Nat) (i k : Nat) (hi : i < (Hs.best l list).length) (hk : k < (Hs.best l list).length) (hne : i ≠ k) : Hs.reach l (Hs.best l list)[k] (Hs.best l list)[i] = false := by
  rw [Bool.eq_false_iff]
  intro hr
  have h1 := (Hs.mem_best l list _).1 (List.getElem_mem hi)
  have h2 := (Hs.mem_best l list _).1 (List.getElem_mem hk)
  have := h1.2.2 _ h2.1 h2.2.1 hr
  exact hne (Hs.nodup_get (best_nodup l list) k i hk hi this).symm
theorem best_len (l : List Hs.Cm) (list : List Nat) : (Hs.best l list).length ≤ l.length := by
  have := List.length_filter_le (Hs.isBest l (Hs.common l list)) (List.range l.length)
  simpa [Hs.best] using this

set_option maxRecDepth 100000 in
set_option maxHeartbeats 8000000 in
theorem law7_any (w : World) (A : Option Addr) (k : Nat) (l : List Hs.Cm) (a b c : Int) (hv : CV w A l) (hl : l.length ≤ 9223372036854775807) :
    Calls Try.prog 7 #[.slice A l.length k, .int .i64 a, .int .i64 b, .int .i64 c] w fun e w' => e = .returned (.bool true) ∧ Below w.heap.size w w' := by
  have HI := Lib.hid (fun (w1 : World) (a b : Int) h => isAncestor_any w1 A k l a b h hl)
  have HB := Lib.hid (fun (w1 : World) h => bases_any w1 A k l a b h hl)
  go_enter Try.func7, Try.ntmps7
  go_wp2_with fail
  go_at_call 26
  refine (mexample_any _).mono ?_
  rintro e w1 ⟨rfl, hb1⟩
  have hsz1 := hb1.size
  go_wp2_with fail
  go_at_call 28
  refine (HB.out _ (hv.below hb1)).mono ?_
  generalize hrb : basesRes l a b = rb at *
  obtain ⟨xs, cf, jf⟩ := rb
  have HRB := Lib.hid hrb
  rintro e w2 ⟨A2, c2, rfl, hc2, hv2, hb2'⟩
  have hb2 := hb1.trans (hb2'.mono hsz1)
  have hsz2 := hb2.size
  have hb3 := hb2.alloc hsz2 (.cells #[.int .i64 cf, .int .i64 jf] 26)
  clear hb2' hb1 hsz1 HB hrb
  simp only at hc2 hv2
  go_wp2_with fail
  go_at_call 27
  refine (HI.out _ c a (hv.below hb3)).mono ?_
  have HGC := Lib.hid (isRes_code l c a)
  generalize hrg : isRes l c a = rg at *
  obtain ⟨pg, cg, jg⟩ := rg
  have HRG := Lib.hid hrg
  rintro e w4 ⟨rfl, hb4'⟩
  have hb4 := hb3.trans (hb4'.mono hb3.size)
  have hv4 := (hv2.alloc (.cells #[.int .i64 cf, .int .i64 jf] 26)).below hb4'
  have hk4 := (Blk.new w2 26 #[.int .i64 cf, .int .i64 jf]).below hb4' (by simp)
  have hsz4 := hb4.size
  have hb5 := hb4.alloc hsz4 (.cells #[.int .i64 cg, .int .i64 jg] 26)
  have hlt4 := hk4.lt
  clear hb4' hb3 hv2 hrg
  go_wp2_with fail
  go_at_call 27
  refine (HI.out _ c b (hv.below hb5)).mono ?_
  generalize hrh : isRes l c b = rh at *
  obtain ⟨ph, ch, jh⟩ := rh
  have HRH := Lib.hid hrh
  rintro e w6 ⟨rfl, hb6'⟩
  have hb6 := hb5.trans (hb6'.mono hb5.size)
  have hv6 := ((hv4.alloc (.cells #[.int .i64 cg, .int .i64 jg] 26)).below hb6').alloc (.cells #[.int .i64 ch, .int .i64 jh] 26)
  have hk6 := (hk4.alloc (.cells #[.int .i64 cg, .int .i64 jg] 26)).below hb6' (by simp; omega)
  have hk6g := (Blk.new w4 26 #[.int .i64 cg, .int .i64 jg]).below hb6' (by simp)
  have hsz6 := hb6.size
  have hb7 := hb6.alloc hsz6 (.cells #[.int .i64 ch, .int .i64 jh] 26)
  have q0 := hk6.cell 0
  have q1 := hk6g.cell 0
  simp only [List.getElem?_toArray, List.getElem?_cons_zero] at q0 q1
  have hlt6 := hk6.lt
  have hlt6g := hk6g.lt
  clear hb6' hb5 hv4 hrh hk4 hk6 hk6g
  rcases mcheck_cases l a b with hbad | ⟨hok, he, m, n, rfl, rfl, hm, hn⟩
  · have h2 := HRB.out.symm.trans (basesRes_bad hbad)
    injection h2 with h2 h3
    have hcf : cf = (mcheck l a b).1 := by rw [← h3]
    subst h2
    have ha3 : (cf == 0) = false := by rw [hcf]; simpa using hbad
    have ha4 : (cf != 0) = true := by rw [hcf]; simpa using hbad
    clear hbad h3 hcf
    go_wp2_with fail
    go_ret
    exact ⟨rfl, hb7⟩
  · have h2 := HRB.out.symm.trans (basesRes_ok hok hm hn)
    injection h2 with h2 h3
    injection h3 with h3 h4
    subst h2 h3 h4
    by_cases hcg : cg = 0
    · have hc : ∃ cc : Nat, c = cc ∧ cc < l.length := by
        have h1 := HGC.out
        rcases mcheck_cases l c m with hbad | ⟨_, _, m', n', e1, e2, hm', hn'⟩
        · rw [← h1] at hbad; exact absurd hcg hbad
        · exact ⟨m', e1, hm'⟩
      obtain ⟨cc, rfl, hcc⟩ := hc
      have h1 := HRG.out.symm.trans (isRes_ok hok hcc hm)
      injection h1 with h1 h3
      injection h3 with h3 h4
      subst h1 h3 h4
      have h1 := HRH.out.symm.trans (isRes_ok hok hcc hn)
      injection h1 with h1 h3
      injection h3 with h3 h4
      subst h1 h3 h4
      have HALL := Lib.hid (bestAny_all hok m n cc hcc)
      have HSUC := Lib.hid (bestAny_succ l (Hs.best l [m, n]) cc)
      have HOTH := Lib.hid (best_other (l := l) [m, n])
      have HLT := Lib.hid (best_lt l [m, n])
      have HLEN := best_len l [m, n]
      have HO := Lib.hid (fun (i : Nat) (hi : i < (Hs.best l [m, n]).length) (wr : World) hbel => nat_at (wr := wr) hv6 hbel i hi)
      have HIS := Lib.hid (fun (w1 : World) (x y : Nat) h (hx : x < l.length) (hy : y < l.length) => isRes_ok hok hx hy ▸ HI.out w1 (x : Int) (y : Int) h)
      have HSELF := Lib.hid (Hs.reach_refl l)
      have h60 := hok.len
      simp only [Hs.ints_length] at hc2 ⊢
      clear HGC HRB HRG HRH hcg he
      have hz7 : ∀ o, ∃ w7 : World, w6.alloc o = w7 := fun o => ⟨_, rfl⟩
      go_wp2_with fail
      obtain ⟨w7, hw7⟩ := hz7 (.cells #[.int .i64 0, .int .i64 0] 26)
      rw [hw7] at hb7 HO ⊢
      clear hz7 hw7
      generalize Hs.best l [m, n] = bs at *
      have hsz7 := hb7.size
      go_loopw [15, 16] (fun bv iv wr => ∃ i : Nat, i ≤ bs.length ∧ bv = .bool (bestAny l bs cc i) ∧ iv = .int .i64 i ∧ Below w7.heap.size w7 wr) (fun _ iv _ => bs.length - (intOf iv).toNat)
      case atStart => exact ⟨0, Nat.zero_le _, by simp [bestAny], rfl, Below.refl _ _⟩
      case round =>
        obtain ⟨i, hi, rfl, rfl, hbr⟩ := hrel
        obtain ⟨w8, rfl⟩ : ∃ w8 : World, w8 = wr := ⟨_, rfl⟩
        have hb8 := hb7.trans (hbr.mono hsz7)
        by_cases hil : i < bs.length
        · have hil' : (i : Int) < bs.length := by omega
          obtain ⟨bx, ox, ex, hbx, hcx⟩ := HO.out i hil w8 hbr
          subst ex
          have hxl := HLT.out _ (List.getElem_mem hil)
          have HOTi := Lib.hid (fun kk => HOTH.out i kk hil)
          have HSi := Lib.hid (HSUC.out i hil)
          have HOI := Lib.hid (fun wr hbel => (HO.out i hil wr hbel))
          generalize hgxx : bs[i] = x at *
          have hgx := Lib.hid hgxx
          clear hgxx
          go_wp2_with fail
          go_at_call 27
          refine (HIS.out _ cc x (hv.below hb8) hcc hxl).mono ?_
          rintro e w9 ⟨rfl, hb9'⟩
          have hb9 := (hbr.trans (hb9'.mono hbr.size)).alloc (by have := hbr.size; have := hb9'.size; omega) (.cells #[.int .i64 0, .int .i64 0] 26)
          have hsz9 := hbr.size
          have hsz9' := hb9'.size
          clear hb9'
          have HSi2 := HSi.out
          generalize hv1 : bestAny l bs cc i = v1 at *
          generalize hv2 : Hs.reach l x cc = v2 at *
          have hor : (v1 || v2) = bestAny l bs cc (i + 1) := HSi2.symm
          have HOR := Lib.hid hor
          clear hor HSi2 hv1 hv2
          rcases v1 with _ | _
          all_goals
            go_wp2_with fail
            go_loopw [19] (fun kv wr => ∃ kk : Nat, kk ≤ bs.length ∧ kv = .int .i64 kk ∧ Below w7.heap.size w7 wr) (fun kv _ => bs.length - (intOf kv).toNat)
            case atStart => exact ⟨0, Nat.zero_le _, rfl, hb9⟩
            case round =>
              obtain ⟨kk, hk, rfl, hbk⟩ := hrel
              obtain ⟨wk, rfl⟩ : ∃ wk : World, wk = wr := ⟨_, rfl⟩
              by_cases hkl : kk < bs.length
              · have hkl' : (kk : Int) < bs.length := by omega
                have hyl := HLT.out _ (List.getElem_mem hkl)
                have HOTk := Lib.hid (HOTi.out kk hkl)
                have HOK := Lib.hid (fun wr hbel => (HO.out kk hkl wr hbel))
                have hxy : i = kk → bs[kk] = x := fun h => by subst h; exact hgx.out
                generalize bs[kk] = y at *
                have HK := Lib.hid (show ∀ w', Below w7.heap.size w7 w' → w'.cell? ⟨bx, ox + i, none⟩ = some (.int .i64 x) ∧ w'.cell? ⟨bx, ox + kk, none⟩ = some (.int .i64 y) from fun w' h => by
                  obtain ⟨b1, o1, e1, _, h1⟩ := HOI.out w' h
                  obtain ⟨b2, o2, e2, _, h2⟩ := HOK.out w' h
                  cases e1; cases e2
                  exact ⟨h1, h2⟩)
                have HR : Hid (Hs.reach l y x = decide (i = kk)) := by
                  by_cases hik : i = kk
                  · exact Lib.hid (by rw [hxy hik, HSELF.out]; simp [hik])
                  · exact Lib.hid (by rw [HOTk.out hik]; simp [hik])
                have HC := Lib.hid (show ∀ w1, Below w7.heap.size w7 w1 → Calls Try.prog 27 #[.slice A l.length k, .int .i64 x, .int .i64 y] w1 (B1Res w1 (decide (i = kk), (0, 0))) from fun w1 h => by
                  have := HIS.out w1 x y (hv.below (hb7.trans (h.mono hsz7))) hxl hyl
                  rwa [HR.out] at this)
                have hk0 : Below w7.heap.size w7 wk.drew := below_drew hbk
                obtain ⟨hk1, hk2⟩ := HK.out _ hk0
                have hsk : w7.heap.size ≤ wk.drew.heap.size := hk0.size
                have hk3 := hk0.alloc hsk (.cells #[.int .i64 0, .int .i64 0] 26)
                clear HOK hxy HR HOTk
                have hsk2 := hbk.size
                obtain ⟨g, hr, g1, g2⟩ : ∃ g, decide (i = kk) = g ∧ ((i : Int) == (kk : Int)) = g ∧ (i == kk) = g := ⟨decide (i = kk), rfl, by by_cases h : i = kk <;> simp [h] <;> omega, by by_cases h : i = kk <;> simp [h]⟩
                rw [hr] at HC
                clear hr
                go_wp2_with fail
                go_region_held3 (fun w' => w'.cell? ⟨bx, ox + i, none⟩ = some (.int .i64 x) ∧ w'.cell? ⟨bx, ox + kk, none⟩ = some (.int .i64 y)) (first | exact HK.out _ hk0 | exact HK.out _ hk3 | exact HK.out _ hk4 | exact HK.out _ (hk4.alloc hk5 _) | exact HK.out _ ((hk4.setCell (by first | omega | (simp; omega)) _).setCell (by first | omega | (simp; omega)) _))
                  (first | (go_at_call 27; refine (HC.out _ hk0).mono ?_; rintro e w6 ⟨rfl, hb6⟩; have hk4 := hk0.trans (hb6.mono hsk); have hk5 := hk4.size) | (go_at_call 27; refine (HC.out _ hk3).mono ?_; rintro e w6 ⟨rfl, hb6⟩; have hk4 := hk3.trans (hb6.mono hk3.size); have hk5 := hk4.size; have nk : Blk w6 wk.heap.size 26 #[.int .i64 0, .int .i64 0] := (Blk.new wk.drew 26 #[.int .i64 0, .int .i64 0]).below hb6 (by simp); have n0 := nk.cell 0; have n1 := nk.cell 1; have n2 := nk.frozen 0; have n3 := nk.frozen 1; have n4 := nk.lt; simp only [List.getElem?_toArray, List.getElem?_cons_zero, List.getElem?_cons_succ] at n0 n1))
                all_goals go_wp2_with fail
                all_goals go_roundw
                case rel => exact ⟨kk + 1, by omega, by go_num, by first | exact hk4.alloc hk5 _ | exact (hk4.setCell (by first | omega | (simp; omega)) _).setCell (by first | omega | (simp; omega)) _⟩
                case measure => simp [intOf]; omega
                case rel => exact ⟨kk + 1, by omega, by go_num, by first | exact hk4.alloc hk5 _ | exact (hk4.setCell (by first | omega | (simp; omega)) _).setCell (by first | omega | (simp; omega)) _⟩
                case measure => simp [intOf]; omega
              · obtain rfl : kk = bs.length := by omega
                go_wp2_with fail
                go_roundw
                case rel => exact ⟨i + 1, by omega, by rw [← HOR.out]; rfl, by go_num, hbk⟩
                case measure => simp [intOf]; omega
        · obtain rfl : i = bs.length := by omega
          have ha := HALL.out
          generalize bestAny l bs cc bs.length = v1 at *
          generalize Hs.reach l m cc = p at *
          generalize Hs.reach l n cc = q at *
          subst ha
          cases p <;> cases q
          all_goals
            go_wp2_with fail
            go_ret
            exact ⟨rfl, hb8⟩
    · have ha3 : (cg == 0) = false := by simpa using hcg
      have ha4 : (cg != 0) = true := by simpa using hcg
      clear hcg
      go_wp2_with fail
      go_ret
      exact ⟨rfl, hb7⟩
end Go.Proofs.Ytoohmkdgimkgoaa
