/-
  TopOrphansQuery: the law's walk.
-/
import Derived.Test.YtebohncdhhikkaaW3
import Derived.Test.YtebohncdhhikkaaOq5
import Derived.Test.YtebohncdhhikkaaOq14
import Derived.Test.YtebohncdhhikkaaOq15
import Derived.Test.YtebohncdhhikkaaOq16
import Derived.Test.YtebohncdhhikkaaOq18
import Derived.Test.YtebohncdhhikkaaOq19
import Derived.Test.YtebohncdhhikkaaOq24
import Derived.Test.YtebohncdhhikkaaOq26
import Derived.Test.YtebohncdhhikkaaOq27
namespace Go.Proofs.Ytebohncdhhikkaa
open Go.RowKit Go.V
set_option linter.unusedVariables false
set_option maxRecDepth 100000 in
set_option maxHeartbeats 16000000 in
theorem law_any (w : World) (A1 : Option Addr) (k1 : Nat) (ms : List Oq.Mk) (hv1 : MV w A1 ms) (hl1 : ms.length ≤ 9223372036854775807) (A : Option Addr) (k : Nat) (l : List Hs.Cm) (hv : CV w A l) (hl : l.length ≤ 9223372036854775807) :
    Calls Try.prog 3 #[.slice A1 ms.length k1, .slice A l.length k] w fun e w' => e = .returned (.bool true) ∧ Below w.heap.size w w' := by
  obtain ⟨i0, hi0, hz0, hz1, hz2⟩ := info_parts info3
  have HFK := Lib.hid (mlFork_any w)
  have HOR := Lib.hid (fun (w1 : World) (hb : Below w.heap.size w w1) => orphans_any w1 A1 k1 ms (hv1.below hb) hl1 A k l (hv.below hb) hl (fun w2 hb2 => ovalidate_any w2 A1 k1 ms ((hv1.below hb).below hb2) hl1 (fun w3 hb3 h40 hok => cyclic34_any w3 A1 k1 ms.length (reach_any w3 A1 k1 ms (((hv1.below hb).below hb2).below hb3) h40 hok))))
  have HMF := Lib.hid (fun (w1 : World) (hb : Below w.heap.size w w1) => markersFault_any w1 A1 k1 ms (hv1.below hb) hl1)
  have HHF := Lib.hid (fun (w1 : World) (hb : Below w.heap.size w w1) => historyFault_any w1 A k l (hv.below hb) hl)
  have HOB := Lib.hid (fun (w1 : World) (n : Int) (hb : Below w.heap.size w w1) => obsolete_any w1 A1 k1 ms n (hv1.below hb) hl1)
  have HCV := Lib.hid (fun (w1 : World) (hb : Below w.heap.size w w1) => hv.below hb)
  clear hv hv1
  have hfld : ∀ (W : World) (x y : Int), (Instr.field 28 (.agg #[.int .i64 x, .int .i64 y]) 0).run Try.prog W = .ok (.int .i64 x) W := fun _ _ _ => by kernel_rfl
  go_enter Try.func3, Try.ntmps3
  go_wp2_with fail
  go_at_call 4
  with_reducible refine HFK.out.mono ?_
  rintro e w1 ⟨⟨v0, rfl⟩, hb1⟩
  have hsz1 := hb1.size
  clear HFK
  go_wp2_with fail
  go_at_call 5
  with_reducible refine (HOR.out _ hb1).mono ?_
  rintro e w2 ⟨cd, ix, A9, os, c9, rfl, hn, hz, hio, hb2'⟩
  have hb2 := hb1.trans (hb2'.mono hsz1)
  have hsz2 := hb2.size
  have HN := Lib.hid hn
  have HZ := Lib.hid hz
  have HIO := Lib.hid (fun (w3 : World) (hb : Below w2.heap.size w2 w3) => hio.below hb)
  clear hn hz hio hb2' HOR hb1
  have bF := Blk.new w2 28 #[.int .i64 cd, .int .i64 ix]
  have hb3 := hb2.alloc hsz2 (.cells #[.int .i64 cd, .int .i64 ix] 28)
  have hq3 := below_alloc1 w2 (.cells #[.int .i64 cd, .int .i64 ix] 28)
  have q0 := (bF.cell 0).trans rfl
  have q1 := (bF.cell 1).trans rfl
  by_cases hcd : cd = 0
  · subst hcd
    have HZ2 := Lib.hid (HZ.out rfl)
    clear HZ HN
    go_wp2_with fail
    with_reducible refine (HMF.out _ hb3).mono ?_
    rintro e w4 ⟨⟨c2, i2, rfl⟩, hb4'⟩
    replace bF := bF.below hb4' bF.lt
    replace hq3 := hq3.trans (hb4'.mono hq3.size)
    replace hb3 := hb3.trans (hb4'.mono hb3.size)
    clear hb4' q0 q1 HMF
    have q0 := (bF.cell 0).trans rfl
    have q1 := (bF.cell 1).trans rfl
    by_cases hc2 : c2 = 0
    · subst hc2
      go_wp2_with fail
      with_reducible refine (HHF.out _ hb3).mono ?_
      rintro e w5 ⟨rfl, hb5'⟩
      replace bF := bF.below hb5' bF.lt
      replace hq3 := hq3.trans (hb5'.mono hq3.size)
      replace hb3 := hb3.trans (hb5'.mono hb3.size)
      clear hb5' q0 q1 HHF
      have q0 := (bF.cell 0).trans rfl
      have q1 := (bF.cell 1).trans rfl
      generalize Hs.validate l = r at *
      obtain ⟨c3, i3⟩ := r
      by_cases hc3 : c3 = 0
      · subst hc3
        have hok := HZ2.out.1
        have HEO := Lib.hid HZ2.out.2.2.2
        have hl60 := hok.len
        have HOK := Lib.hid hok
        clear hok HZ2
        generalize hF : Oq.lostN ms = f at *
        have HO2 := Lib.hid (fun (W : World) (i : Nat) (hb : Below w.heap.size w W) => (show Calls Try.prog 8 #[.slice A1 ms.length k1, .int .i64 (i : Int)] W fun e w' => e = .returned (.bool (f i)) ∧ W = w' from by
          subst hF
          exact (HOB.out W i hb).mono fun e w' h => ⟨h.1, h.2.symm⟩))
        clear HOB hF
        have HLE := Lib.hid (fun (gs : List Int) (hg : gs = Hs.ints (Oq.selN f l.length)) (h8 : gs.length ≤ 8) => Oq.law_end HOK.out f gs hg h8)
        have HBD := Lib.hid (fun (gs : List Int) (h8 : gs.length ≤ 8) => Oq.bd_cq gs h8)
        have HIO5 := Lib.hid (fun (W : World) (hb : Below w5.heap.size w5 W) => HIO.out W (hq3.trans (hb.mono hq3.size)))
        clear HIO bF q0 q1 hq3
        go_wp2_with fail
        go_loopw [9, 10] (fun ov iv wr => ∃ (i : Nat) (Ao : Option Addr) (co : Nat), i ≤ l.length ∧ ov = .slice Ao (Oq.selN f i).length co ∧ iv = .int .i64 i ∧ Below w5.heap.size w5 wr ∧ wr.ownsRow w5.heap.size 3 1 (.slice Ao (Oq.selN f i).length co) (Oq.selN f i).length (intsV (Hs.ints (Oq.selN f i)))) (fun _ iv _ => l.length - (intOf iv).toNat)
        case atStart => exact ⟨0, none, 0, Nat.zero_le _, rfl, rfl, Below.refl _ _, World.ownsRow_nil _ _ _ _⟩
        case round =>
          obtain ⟨i, Ao, co, hi, rfl, rfl, hb, hown⟩ := hrel
          obtain ⟨wo, rfl⟩ : ∃ wo : World, wo = wr := ⟨_, rfl⟩
          have hsz := hb.size
          have hb6 := hb3.trans (hb.mono hb3.size)
          by_cases hlt : i < l.length
          · have hlt' : (i : Int) < l.length := by omega
            have HO3 := Lib.hid (HO2.out wo i hb6)
            have HS := Lib.hid (Oq.selN_succ f i)
            have hsl := Oq.selN_len f i
            generalize Oq.selN f i = ns at *
            generalize f i = v at *
            go_wp2_with fail
            go_at_call 8
            with_reducible refine HO3.out.mono ?_
            rintro e w6 ⟨rfl, rfl⟩
            cases v with
            | false =>
              have HE : Hid (Oq.selN f (i + 1) = ns) := Lib.hid (by rw [HS.out]; simp)
              clear HS
              go_wp2_with fail
              go_roundw
              case rel => exact ⟨i + 1, Ao, co, by omega, by rw [HE.out], by go_num, hb, by rw [HE.out]; exact hown⟩
              case measure => simp [intOf]; omega
            | true =>
              have HE : Hid (Oq.selN f (i + 1) = ns ++ [i]) := Lib.hid (by rw [HS.out]; simp)
              clear HS
              have h63 : ns.length + 1 ≤ maxLen := by unfold maxLen; omega
              have hby : (ns.length + 1) * 8 ≤ 140737488355328 := by omega
              have hu : (wo.alloc (.cells #[.int .i64 (i : Int)] 3)).cell? ⟨wo.heap.size, 0, none⟩ = some (.int .i64 (i : Int)) := ((Blk.new wo 3 #[.int .i64 (i : Int)]).cell 0).trans rfl
              go_wp2_with (first | (at_builtin; refine wpList_app1 _ rfl (.tmp 57) (.tmp 59) 26 rfl w5.heap.size 3 i0 (.int .i64 0) 8 Try.underlying26 hi0 hz0 hz1 hz2 rfl Ao ns.length co (intsV (Hs.ints ns)) rfl (hown.alloc _) wo.heap.size 1 (.int .i64 (i : Int)) rfl hu rfl h63 hby (Nat.le_trans hsz (by simp)) ?_))
              intro A' c' w' hown' hg' hc'
              have hb5 := (app_keep hown _ hg' hsz).2.1 w5 _ (Nat.le_refl _) hb
              clear hg' hown hu hc'
              go_wp2_with fail
              go_roundw
              case rel => exact ⟨i + 1, A', c', by omega, by rw [HE.out]; simp, by go_num, hb5, by rw [HE.out, ints_snoc]; simpa using hown'⟩
              case measure => simp [intOf]; omega
          · obtain rfl : i = l.length := by omega
            have hlt' : ¬ (l.length : Int) < l.length := by omega
            have HGL := Lib.hid (show (Hs.ints (Oq.selN f l.length)).length = (Oq.selN f l.length).length from by simp [Hs.ints])
            have hgl := HGL.out
            rw [← hgl]
            have HIG : IV wo Ao (Hs.ints (Oq.selN f l.length)) := SV.of_own hown
            generalize hgs : Hs.ints (Oq.selN f l.length) = gs at *
            have HGS := Lib.hid hgs.symm
            have hbo := hb6
            clear hown hgs HGL hgl HO2
            by_cases h8 : 8 < gs.length
            · have h8' : (8 : Int) < gs.length := by omega
              go_wp2_with fail
              go_ret
              exact ⟨rfl, hb6⟩
            · have h8' : ¬ (8 : Int) < gs.length := by omega
              obtain ⟨hql, hko, hrun, hout⟩ := HLE.out gs rfl (by omega)
              have hbd := HBD.out gs (by omega)
              have HM := Lib.hid (fun (W : World) (hbW : Below wo.heap.size wo W) => mlCommits_any W Ao co gs (HIG.below hbW) (by omega))
              unfold Oq.lawQ at hko hrun hout
              generalize Oq.cq gs = q at *
              have hqw := Oq.wrap_len 9 q
              have hqj := Oq.joined_len 16 (Oq.wrap 9 q) q
              have HEO2 := Lib.hid (HEO.out.trans hout)
              have HKO := Lib.hid hko
              have HRUN := Lib.hid hrun
              have HBQ := Lib.hid hbd
              have HWR := Lib.hid (fun (W : World) (A2 : Option Addr) (c2 : Nat) (hq : QV W A2 q) => wrap_any W 9 A2 c2 q hq (by omega))
              have HJN := Lib.hid (fun (W : World) (A2 A3 : Option Addr) (c2 c3 : Nat) (h2 : QV W A2 (Oq.wrap 9 q)) (h3 : QV W A3 q) => join_any W 16 A2 A3 c2 c3 (Oq.wrap 9 q) q h2 h3 (by omega) (by omega) HBQ.out)
              have HSE := Lib.hid (fun (W : World) (A2 : Option Addr) (c2 : Nat) (hb : Below w.heap.size w W) (h2 : QV W A2 (Oq.joined 16 (Oq.wrap 9 q) q)) => mlSelects_any W A A2 k c2 l (Oq.joined 16 (Oq.wrap 9 q) q) (HCV.out W hb) HOK.out h2 (by omega) (by omega) _ HRUN.out HKO.out)
              clear hko hrun hout hbd HEO HLE HBD HKO HRUN HBQ hql hqw hqj
              generalize Oq.joined 16 (Oq.wrap 9 q) q = q2 at *
              generalize Oq.wrap 9 q = q1 at *
              go_wp2_with fail
              go_at_call 12
              with_reducible refine (HM.out wo (Below.refl _ _)).mono ?_
              rintro e w6 ⟨A2, c2, rfl, ho2, hb6'⟩
              have hv2 : QV w6 A2 q := SV.of_own ho2
              clear ho2
              go_wp2_with fail
              go_at_call 11
              with_reducible refine (HWR.out w6 A2 c2 hv2).mono ?_
              rintro e w7 ⟨A3, c3, rfl, ho3, hb7'⟩
              have hv3 : QV w7 A3 q1 := SV.of_own ho3
              have hb7 := hb6'.trans (hb7'.mono hb6'.size)
              clear ho3 hv2 hb6' hb7' HWR
              go_wp2_with fail
              go_at_call 12
              with_reducible refine (HM.out w7 hb7).mono ?_
              rintro e w8 ⟨A4, c4, rfl, ho4, hb8'⟩
              have hv4 : QV w8 A4 q := SV.of_own ho4
              replace hv3 := hv3.below hb8'
              have hb8 := hb7.trans (hb8'.mono hb7.size)
              clear ho4 hb7 hb8' HM
              go_wp2_with fail
              go_at_call 10
              with_reducible refine (HJN.out w8 A3 A4 c3 c4 hv3 hv4).mono ?_
              rintro e w9 ⟨A5, c5, rfl, ho5, hb9'⟩
              have hv5 : QV w9 A5 q2 := SV.of_own ho5
              have hb9 := hb8.trans (hb9'.mono hb8.size)
              clear ho5 hb8 hb9' hv3 hv4 HJN
              have hw9 := hbo.trans (hb9.mono hbo.size)
              go_wp2_with fail
              go_at_call 9
              with_reducible refine (HSE.out w9 A5 c5 hw9 hv5).mono ?_
              rintro e w10 ⟨A6, c6, he, hi6, hb10'⟩
              have hb10 := hb9.trans (hb10'.mono hb9.size)
              have hw10 := hbo.trans (hb10.mono hbo.size)
              have hlen : (Oq.selN (Oq.val l q2) l.length).length = os.length := by rw [HEO2.out, ints_len]
              rw [hlen] at he
              rw [← HEO2.out] at hi6
              subst he
              have hi0 := HIO5.out w10 (hb.trans (hb10.mono hb.size))
              have hos : os.length ≤ 60 := by rw [HEO2.out, ints_len]; exact Nat.le_trans (Oq.selN_len _ _) hl60
              have HIN := Lib.hid (ints_any w10 A9 A6 c9 c6 os hi0 hi6 (by omega))
              clear hv5 hb9 hb10' hw9 HSE hi0 hi6 HIO5 HEO2
              go_wp2_with fail
              with_reducible refine HIN.out.mono ?_
              rintro e w11 ⟨rfl, n, rfl⟩
              go_wp2_with fail
              go_ret
              exact ⟨rfl, Go.V.below_drewN hw10 n⟩
      · have hx : (c3 != 0) = true := by simpa using hc3
        go_wp2_with fail
        go_ret
        exact ⟨rfl, hb3⟩
    · have hx : (c2 != 0) = true := by simpa using hc2
      go_wp2_with fail
      go_ret
      exact ⟨rfl, hb3⟩
  · have hx : (cd != 0) = true := by simpa using hcd
    have hx2 : (cd == 0) = false := by simpa using hcd
    obtain rfl := HN.out hcd
    go_wp2_with fail
    go_ret
    exact ⟨rfl, hb3⟩
end Go.Proofs.Ytebohncdhhikkaa
