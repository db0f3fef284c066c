/-
  Text patches: walk of 'Raw'.
-/
import Derived.Test.YtjfckjonfpkphaaDoorTq2
namespace Go.Proofs.YtjfckjonfpkphaaDoor
open Go.RowKit Go.V Go.Shelf
set_option linter.unusedVariables false

theorem info9 : (Tryd.prog.info? 9).map (fun i => (i.zero, i.size, i.bytes)) = some (some (.string .empty), 1, 16) := by kernel_rfl
theorem slice_to (W : World) (A : Option Addr) (n k a : Nat) (p : Int) (h : (a : Int) ≤ p) (hp : p ≤ n) (hk : n ≤ k) : (Instr.slice 32 (.slice A n k) (some (.int .i64 (a : Int))) (some (.int .i64 p)) none).run Tryd.prog W = .ok (.slice (if k = a then A else A.map (·.add a)) (p.toNat - a) (k - a)) W := by
  have hu := Tryd.underlying32
  rw [run_slice_lh W 32 A n k (by rw [hu]; rfl) .i64 .i64 (a : Int) p (by omega) (by omega) (by omega)]
  simp [go_sem]
theorem rw_succ (l : List Tp.H) (t : List (List UInt8)) (i : Nat) : Tp.rw_ l t (i + 1) = Tp.rw_ l t i ++ (t.drop (Tp.low l i)).take ((Tp.it l i).pos.toNat - Tp.low l i) ++ (Tp.it l i).new := by
  rw [Tp.rw_, List.drop_take]
set_option maxRecDepth 100000 in
set_option maxHeartbeats 16000000 in
theorem raw_any (w : World) (A : Option Addr) (k : Nat) (l : List Tp.H) (hv : HvV w Free A l) (B : Option Addr) (c : Nat) (t : List (List UInt8)) (ht : SA w Free B (ssV t)) (hok : Tp.VOk l) (hf : Tp.Fits l t) (htl : t.length ≤ 120) (hc : t.length ≤ c) :
    Calls Tryd.prog 16 #[.slice A l.length k, .slice B t.length c, .int .i64 0, .int .i64 t.length] w fun e w' =>
      ∃ A' c', e = .returned (.slice A' (Tp.raw l t).length c') ∧ (Tp.raw l t).length ≤ c' ∧ SA w' (Under w.heap.size) A' (ssV (Tp.raw l t)) ∧ Below w.heap.size w w' := by
  obtain ⟨i0, hi0, hz0, hz1, hz2⟩ := info_parts info9
  have HV := Lib.hid hv
  have HT := Lib.hid (fun (w' : World) (hb : Below w.heap.size w w') a m => (sub_view (ht.keep (free_below hb)) hc a m).sv)
  have HL := Lib.hid (fun i hi => Tp.rw_len (t := t) hok htl i hi)
  have HLOW := Lib.hid (fun i hi => Tp.low_le hf i hi)
  have HOK := Lib.hid (fun i hi => And.intro (hok.h i hi) (And.intro (hok.low i hi) (hf i hi)))
  have HR := Lib.hid (Tp.raw.eq_1 l t)
  have h130 := hok.len
  have hrl := Tp.raw_len hok htl
  generalize Tp.raw l t = r at *
  clear hv ht hok hf
  go_enter Tryd.func16, Tryd.ntmps16
  go_wp2_with fail
  go_loopw [2, 9, 14] (fun lv ov iv wr => ∃ (i : Nat) (A' : Option Addr) (c' : Nat), i ≤ l.length ∧ lv = .int .i64 (Tp.low l i : Nat) ∧ ov = .slice A' (Tp.rw_ l t i).length c' ∧ iv = .int .i64 i ∧ wr.ownsRow w.heap.size 9 1 (.slice A' (Tp.rw_ l t i).length c') (Tp.rw_ l t i).length (ssV (Tp.rw_ l t i)) ∧ Below w.heap.size w wr) (fun _ _ iv _ => l.length - (intOf iv).toNat)
  case atStart => exact ⟨0, none, 0, Nat.zero_le _, rfl, rfl, rfl, World.ownsRow_nil _ _ _ _, Below.refl _ _⟩
  case round =>
    obtain ⟨i, Ao, co, hi, rfl, rfl, rfl, hown, hbw⟩ := hrel
    obtain ⟨wo, rfl⟩ : ∃ wo : World, wo = wr := ⟨_, rfl⟩
    have hsz := hbw.size
    by_cases hlt2 : i < l.length
    · have hlt' : (i : Int) < l.length := by omega
      obtain ⟨b, off, A1, k1, A2, k2, e, hb, _, d0, d1, d2, ho⟩ := HV.out.row i hlt2
      subst e
      replace d0 := (hbw.cell (p := ⟨b, off + i * 3, none⟩) hb).trans d0
      replace d1 := (hbw.cell (p := ⟨b, off + i * 3 + 1, none⟩) hb).trans d1
      replace d2 := (hbw.cell (p := ⟨b, off + i * 3 + 2, none⟩) hb).trans d2
      have hbo : b < wo.heap.size := Nat.lt_of_lt_of_le hb hsz
      obtain ⟨ok, hlow, hfit⟩ := HOK.out i hlt2
      have HS := Lib.hid (rw_succ l t i)
      have HLS := Lib.hid (Tp.low_succ l i)
      have hlen := HL.out i hi
      have HEN := Lib.hid (fun (w1 : World) => end_any w1 (Tp.it l i) A1 k1 A2 k2 ok.lo ok.hi ok.old.len)
      have hnn := ok.new.len
      have hp0 := ok.lo
      have hp120 := ok.hi
      have HE2 := Lib.hid (show Tp.en (Tp.it l i) = (Tp.it l i).pos + (Tp.it l i).old.length from rfl)
      have HN2 := Lib.hid (fun (w1 : World) (hb1 : Below w.heap.size w w1) => (ho.n.ls.keep (free_below hb1)).sv)
      clear ok ho hb
      generalize Tp.it l i = x at *
      generalize Tp.en x = en at *
      generalize Tp.low l i = lw at *
      obtain ⟨pos, old, new⟩ := x
      simp only at *
      have hs : ∀ W, (Instr.slice 32 (.slice B t.length c) (some (.int .i64 (lw : Int))) (some (.int .i64 pos)) none).run Tryd.prog W = .ok (.slice (if c = lw then B else B.map (·.add lw)) (pos.toNat - lw) (c - lw)) W := fun W => slice_to W B t.length c lw pos (by omega) (by omega) hc
      have HN1 := Lib.hid (fun (w1 : World) (hb1 : Below w.heap.size w w1) => HT.out w1 hb1 lw (pos.toNat - lw))
      have hm1 : (ssV ((t.drop lw).take (pos.toNat - lw))).length = (pos.toNat - lw) * 1 := by rw [ssV_len, List.length_take, List.length_drop]; omega
      have hm2 : (ssV new).length = new.length * 1 := by rw [ssV_len]; omega
      have hmt : pos.toNat - lw ≤ 120 := by omega
      generalize hmm : pos.toNat - lw = m at *
      generalize hBB : (if c = lw then B else B.map (·.add lw)) = BB at *
      generalize hn1 : (t.drop lw).take m = n1 at *
      generalize hxs : Tp.rw_ l t i = xs at *
      have h63a : xs.length + m ≤ maxLen := by unfold maxLen; omega
      have hbya : (xs.length + m) * 16 ≤ 140737488355328 := by omega
      have h63b : xs.length + m + new.length ≤ maxLen := by unfold maxLen; omega
      have hbyb : (xs.length + m + new.length) * 16 ≤ 140737488355328 := by omega
      clear hmm hBB hn1 hxs
      have hownW : ((wo.alloc (.cells #[.int .i64 pos, .slice A1 old.length k1, .slice A2 new.length k2] 49)).drew).ownsRow w.heap.size 9 1 (.slice Ao xs.length co) xs.length (ssV xs) := hown.alloc _
      have hbW : Below w.heap.size w (wo.alloc (.cells #[.int .i64 pos, .slice A1 old.length k1, .slice A2 new.length k2] 49)).drew := below_drew' (hbw.alloc hbw.size _)
      have bW : Blk (wo.alloc (.cells #[.int .i64 pos, .slice A1 old.length k1, .slice A2 new.length k2] 49)).drew wo.heap.size 49 #[.int .i64 pos, .slice A1 old.length k1, .slice A2 new.length k2] := Blk.new wo 49 _
      have hbaseW := hbW.size
      have hne49 : (9 : TypeId) ≠ 49 := by decide
      go_wp2_with fail
      go_region_law
        (first
          | (refine step_appM _ rfl (.tmp 18) (.tmp 23) 32 rfl w.heap.size 9 i0 (.string .empty) 1 16 Tryd.underlying32 hi0 hz0 hz1 hz2 rfl (by decide) Ao xs.length co (ssV xs) rfl hownW _ BB m (c - lw) (ssV n1) rfl hm1 (HN1.out _ hbW) (ssV_one _) h63a hbya hbaseW ?_; intro A5 c5 w5 hown5 hg5 hc5; have hb5 := hbW.grown hg5 hbaseW (fun g hgE => (hownW.lt g hgE).1); have b5 := bW.grown hg5 (own_blk_ne hownW bW hne49); have hbase5 := hb5.size; have r0 := (b5.cell 0).trans (rfl : _ = some (Value.int .i64 pos)); have r1 := (b5.cell 1).trans (rfl : _ = some (Value.slice A1 old.length k1)); have r2 := (b5.cell 2).trans (rfl : _ = some (Value.slice A2 new.length k2)); have r3 := b5.lt)
          | (refine step_appM _ rfl (.tmp 24) (.tmp 26) 32 rfl w.heap.size 9 i0 (.string .empty) 1 16 Tryd.underlying32 hi0 hz0 hz1 hz2 rfl (by decide) A5 (xs.length + m) c5 (ssV xs ++ ssV n1) rfl hown5 _ A2 new.length k2 (ssV new) rfl hm2 (HN2.out _ hb5) (ssV_one _) h63b hbyb hbase5 ?_; intro A6 c6 w6 hown6 hg6 hc6))
      all_goals
        have hb6 := hb5.grown hg6 hbase5 (fun g hgE => (hown5.lt g hgE).1)
        have b6 := b5.grown hg6 (own_blk_ne hown5 b5 hne49)
        clear r0 r1 r2 r3
        have r0 := (b6.cell 0).trans (rfl : _ = some (Value.int .i64 pos))
        have r1 := (b6.cell 1).trans (rfl : _ = some (Value.slice A1 old.length k1))
        have r2 := (b6.cell 2).trans (rfl : _ = some (Value.slice A2 new.length k2))
        have r3 := b6.lt
        clear hown5 hg5 hb5 b5 hg6 hownW hbW bW hown d0 d1 d2
        go_wp2_with fail
        go_at_call 26
        refine (HEN.out _).mono ?_
        rintro e w7 ⟨rfl, rfl⟩
        have hown7 := hown6.alloc (.cells #[.int .i64 pos, .slice A1 old.length k1, .slice A2 new.length k2] 49)
        have hb7 := hb6.alloc hb6.size (.cells #[.int .i64 pos, .slice A1 old.length k1, .slice A2 new.length k2] 49)
        clear hown6 hb6 b6 r0 r1 r2 r3
        go_wp2_with fail
        go_roundw
        case rel =>
          have hl9 : (xs ++ n1 ++ new).length = xs.length + m + new.length := by
            rw [ssV_len] at hm1
            rw [List.length_append, List.length_append]; omega
          have hv9 : ssV (xs ++ n1 ++ new) = ssV xs ++ ssV n1 ++ ssV new := by simp only [ssV, List.flatMap_append]
          refine ⟨i + 1, A6, c6, by omega, ?_, ?_, by go_num, ?_, hb7⟩
          · rw [HLS.out]
            have := HE2.out
            rw [show ((en.toNat : Nat) : Int) = en by omega]
          · rw [HS.out, hl9]
          · rw [HS.out, hl9, hv9]; exact hown7
        case measure => simp [intOf]; omega
    · obtain rfl : i = l.length := by omega
      have hlen := HL.out l.length (Nat.le_refl _)
      have hlo := HLOW.out l.length (Nat.le_refl _)
      have hs : ∀ W, (Instr.slice 32 (.slice B t.length c) (some (.int .i64 (Tp.low l l.length : Nat))) (some (.int .i64 t.length)) none).run Tryd.prog W = .ok (.slice (if c = Tp.low l l.length then B else B.map (·.add (Tp.low l l.length))) (t.length - Tp.low l l.length) (c - Tp.low l l.length)) W := fun W => slice_to W B t.length c (Tp.low l l.length) t.length (by omega) (by omega) hc
      have hsv := HT.out wo hbw (Tp.low l l.length) (t.length - Tp.low l l.length)
      have htk : (t.drop (Tp.low l l.length)).take (t.length - Tp.low l l.length) = t.drop (Tp.low l l.length) := List.take_of_length_le (by rw [List.length_drop]; omega)
      rw [htk] at hsv
      have hm1 : (ssV (t.drop (Tp.low l l.length))).length = (t.length - Tp.low l l.length) * 1 := by rw [ssV_len, List.length_drop]; omega
      have hrlen : r.length = (Tp.rw_ l t l.length).length + (t.length - Tp.low l l.length) := by rw [HR.out, List.length_append, List.length_drop]
      have HRV := Lib.hid (show ssV r = ssV (Tp.rw_ l t l.length) ++ ssV (t.drop (Tp.low l l.length)) by rw [HR.out]; simp only [ssV, List.flatMap_append])
      have HRL := Lib.hid hrlen
      clear HL HLOW HOK HR htk hrlen
      generalize t.drop (Tp.low l l.length) = n1 at *
      generalize Tp.rw_ l t l.length = xs at *
      generalize Tp.low l l.length = lw at *
      generalize (if c = lw then B else B.map (·.add lw)) = BB at *
      have h63a : xs.length + (t.length - lw) ≤ maxLen := by unfold maxLen; omega
      have hbya : (xs.length + (t.length - lw)) * 16 ≤ 140737488355328 := by omega
      go_wp2_with (first | (at_builtin; refine wpList_appN _ rfl (.tmp 31) (.tmp 35) 32 rfl w.heap.size 9 i0 (.string .empty) 1 16 Tryd.underlying32 hi0 hz0 hz1 hz2 rfl (by decide) Ao xs.length co (ssV xs) rfl hown _ BB (t.length - lw) (c - lw) (ssV n1) rfl hm1 hsv (ssV_one _) h63a hbya hsz ?_))
      intro A5 c5 w5 hown5 hg5 hc5
      have hb5 := hbw.grown hg5 hsz (fun g hgE => (hown.lt g hgE).1)
      have hsa := SA.of_own (X := Under w.heap.size) hown5 (fun b hb => hb)
      clear hown hg5 hown5
      go_wp2_with fail
      go_ret
      exact ⟨A5, c5, by rw [HRL.out]; rfl, by rw [HRL.out]; exact hc5, by rw [HRV.out]; exact hsa, hb5⟩
end Go.Proofs.YtjfckjonfpkphaaDoor
