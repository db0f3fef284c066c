/-
  File trees: walk of the reference's 'ChangedPaths'.
-/
import Derived.Test.YtjljknocnebnaaaGreatDoorG10
import Derived.Test.YtjljknocnebnaaaGreatDoorG09
namespace Tr
/-- 'The same link', up to the place k. -/
def sB (p : List Nm) (x : List Int) (q : List Nm) (y : List Int) (i k : Nat) : Bool := (List.range k).any fun m => decide (at_ p i = at_ q m) && decide (ln x i = ln y m)
theorem sB_succ (p : List Nm) (x : List Int) (q : List Nm) (y : List Int) (i k : Nat) : sB p x q y i (k + 1) = (sB p x q y i k || (decide (at_ p i = at_ q k) && decide (ln x i = ln y k))) := by
  unfold sB; rw [List.range_succ, List.any_append]; simp
theorem sB_end (p : List Nm) (x : List Int) (q : List Nm) (y : List Int) (i : Nat) : sB p x q y i q.length = sameB p x q y i := rfl
/-- 'Is there', up to the place i. -/
def tB (p : List Nm) (c : Nm) (i : Nat) : Bool := (List.range i).any fun j => decide (at_ p j = c)
theorem tB_succ (p : List Nm) (c : Nm) (i : Nat) : tB p c (i + 1) = (tB p c i || decide (at_ p i = c)) := by
  unfold tB; rw [List.range_succ, List.any_append]; simp
theorem tB_end (p : List Nm) (c : Nm) : tB p c p.length = true ↔ c ∈ p := by
  unfold tB; rw [List.any_eq_true, at_mem]
  simp [List.mem_range]
theorem hd_lt (b : Nm) : ∀ (l : List Nm) (j : Nat), j < hd b l → at_ l j < b
  | [], j, h => by simp [hd] at h
  | a :: l, j, h => by
    rw [hd] at h
    split at h
    · rename_i hab
      obtain _ | j := j
      · exact hab
      · exact hd_lt b l j (by omega)
    · omega
theorem hd_ge (b : Nm) : ∀ (l : List Nm), hd b l < l.length → ¬ at_ l (hd b l) < b
  | [], h => by simp at h
  | a :: l, h => by
    rw [hd] at h ⊢
    split
    · rename_i hab
      rw [if_pos hab] at h
      exact hd_ge b l (by simpa using h)
    · rename_i hab
      exact hab
theorem chL_in {p : List Nm} {x : List Int} {q : List Nm} {y : List Int} {k : Nat} (h : at_ q k ∈ p) : chL p x q y (k + 1) = chL p x q y k := by rw [chL, if_pos h]
theorem chL_out {p : List Nm} {x : List Int} {q : List Nm} {y : List Int} {k : Nat} (h : ¬ at_ q k ∈ p) : chL p x q y (k + 1) = ins (at_ q k) (chL p x q y k) := by rw [chL, if_neg h]
theorem chL_len (p : List Nm) (x : List Int) (q : List Nm) (y : List Int) : ∀ k, (chL p x q y k).length ≤ p.length + k
  | 0 => aL_len _ _ _ _ _
  | k + 1 => by
    have h := chL_len p x q y k
    by_cases hm : at_ q k ∈ p
    · rw [chL_in hm]; omega
    · rw [chL_out hm, (ins_perm _ _).length_eq]; simp; omega
end Tr
namespace Go.Proofs.YtjljknocnebnaaaGreatDoor
open Go.RowKit Go.V Go.Shelf
set_option linter.unusedVariables false

theorem own_base {w : World} {b1 b2 : Nat} {e : TypeId} {size n : Nat} {v : Value} {xs : List Value} (h : w.ownsRow b2 e size v n xs) (hb : b1 ≤ b2) : w.ownsRow b1 e size v n xs :=
  ⟨h.1, h.2.imp id (fun ⟨g, c, cur, e, hg, r⟩ => ⟨g, c, cur, e, Nat.le_trans hb hg, r⟩)⟩
theorem slice_toS (W : World) (A : Option Addr) (n k m : Nat) (h : m ≤ k) : (Instr.slice 26 (.slice A n k) none (some (.int .i64 (m : Int))) none).run Tryz.prog W = .ok (.slice A m k) W := by
  have hu := Tryz.underlying26
  have h1 : (m : Int) ≤ k := by omega
  by_cases hk : k = 0
  · subst hk
    obtain rfl : m = 0 := by omega
    simp [Instr.slice, Instr.sliceBounds, Instr.sliceBound, go_sem]
  · have h2 : ¬ k = 0 := hk
    rcases A with _ | ⟨b, off, _⟩ <;> simp [Instr.slice, Instr.sliceBounds, Instr.sliceBound, go_sem] <;> (intro hh; omega)
theorem slice_frS (W : World) (A : Option Addr) (n k m : Nat) (h : m ≤ n) (hk : n ≤ k) : (Instr.slice 26 (.slice A n k) (some (.int .i64 (m : Int))) none none).run Tryz.prog W = .ok (.slice (if k = m then A else A.map (·.add m)) (n - m) (k - m)) W := by
  have hu := Tryz.underlying26
  obtain ⟨i5, hi5, _, hz, _⟩ := info_parts info9
  have h1 : (m : Int) ≤ n := by omega
  have h2 : ((n : Int) - m).toNat = n - m := by omega
  by_cases hkm : k = m
  · subst hkm
    obtain rfl : n = k := by omega
    simp [Instr.slice, Instr.sliceBounds, Instr.sliceBound, go_sem]
  · have h3 : k - m ≠ 0 := by omega
    rcases A with _ | ⟨b, off, f⟩ <;> simp [Instr.slice, Instr.sliceBounds, Instr.sliceBound, go_sem, hkm] <;> (intro hh; omega)
set_option maxRecDepth 100000 in
set_option maxHeartbeats 32000000 in
theorem changedPaths_any (w : World) (A1 : Option Addr) (c1 : Nat) (p : List (List UInt8)) (hP : SA w Free A1 (ssV p)) (h24 : p.length ≤ 24) (B1 : Option Addr) (m1 : Nat) (x : List Int) (hX : SA w Free B1 (intsV x)) (hlx : x.length = p.length)
    (A2 : Option Addr) (c2 : Nat) (q : List (List UInt8)) (hQ : SA w Free A2 (ssV q)) (h242 : q.length ≤ 24) (B2 : Option Addr) (m2 : Nat) (y : List Int) (hY : SA w Free B2 (intsV y)) (hly : y.length = q.length) :
    Calls Tryz.prog 8 #[.slice A1 p.length c1, .slice B1 x.length m1, .slice A2 q.length c2, .slice B2 y.length m2] w fun e w' =>
      ∃ A c, e = .returned (.slice A (Tr.chF p x q y).length c) ∧ (Tr.chF p x q y).length ≤ c ∧ SA w' (Under w.heap.size) A (ssV (Tr.chF p x q y)) ∧ Below w.heap.size w w' := by
  obtain ⟨i0, hi0, hz0, hz1, hz2⟩ := info_parts info9
  have HLX := Lib.hid hlx
  have HLY := Lib.hid hly
  clear hlx hly
  go_enter Tryz.func8, Tryz.ntmps8
  go_wp2_with fail
  go_loopw [9, 10] (fun ov iv wr => ∃ (i : Nat) (B : Option Addr) (c : Nat), i ≤ p.length ∧ iv = .int .i64 i ∧ ov = .slice B (Tr.aL p x q y i).length c ∧ wr.ownsRow w.heap.size 9 1 (.slice B (Tr.aL p x q y i).length c) (Tr.aL p x q y i).length (ssV (Tr.aL p x q y i)) ∧ Below w.heap.size w wr) (fun _ iv _ => p.length - (intOf iv).toNat)
  case atStart => exact ⟨0, none, 0, Nat.zero_le _, rfl, rfl, World.ownsRow_nil _ _ _ _, Below.refl _ _⟩
  case round =>
    obtain ⟨i, B, c, hi, rfl, rfl, hown, hbw⟩ := hrel
    obtain ⟨wo, rfl⟩ : ∃ wo : World, wo = wr := ⟨_, rfl⟩
    by_cases hlt : i < p.length
    · have hlt' : (i : Int) < p.length := by omega
      have hi0' : (0 : Int) ≤ i := by omega
      have hltx : i < x.length := by have := HLX.out; omega
      have hltx' : (i : Int) < x.length := by omega
      obtain ⟨b1, off1, e1, hb1, _, d1⟩ := ssV_row hP i hlt
      obtain ⟨b2, off2, e2, hb2, _, d2⟩ := hX.get i (by simpa using hltx)
      subst e1
      subst e2
      have d1' : wo.cell? ⟨b1, off1 + i, none⟩ = some (strV (Tr.at_ p i)) := by rw [hbw.cell (p := ⟨b1, off1 + i, none⟩) hb1, d1, Tr.at_eq p i hlt]
      have d2' : wo.cell? ⟨b2, off2 + i, none⟩ = some (.int .i64 (Tr.ln x i)) := by
        rw [hbw.cell (p := ⟨b2, off2 + i, none⟩) hb2, d2]
        unfold Tr.ln; rw [List.getElem?_eq_getElem hltx]; simp [intsV]
      have hal := Tr.aL_len p x q y i
      have h63 : (Tr.aL p x q y i).length + 1 ≤ maxLen := by unfold maxLen; omega
      have hby : ((Tr.aL p x q y i).length + 1) * 16 ≤ 140737488355328 := by omega
      have HSU := Lib.hid (Tr.aL_succ p x q y i)
      have HSS := Lib.hid (Tr.sB_succ p x q y i)
      clear d1 d2 hal
      go_wp2_with fail
      go_loopw [11, 12] (fun sv kv wr => ∃ (k n : Nat), k ≤ q.length ∧ kv = .int .i64 k ∧ sv = .bool (Tr.sB p x q y i k) ∧ wr = wo.drewN n) (fun _ kv _ => q.length - (intOf kv).toNat)
      case atStart => exact ⟨0, 0, Nat.zero_le _, rfl, rfl, rfl⟩
      case round =>
        obtain ⟨k, n, hk, rfl, rfl, rfl⟩ := hrel
        by_cases hlk : k < q.length
        · have hlk' : (k : Int) < q.length := by omega
          have hk0' : (0 : Int) ≤ k := by omega
          have hlky : k < y.length := by have := HLY.out; omega
          have hlky' : (k : Int) < y.length := by omega
          obtain ⟨b3, off3, e3, hb3, _, d3⟩ := ssV_row hQ k hlk
          obtain ⟨b4, off4, e4, hb4, _, d4⟩ := hY.get k (by simpa using hlky)
          subst e3
          subst e4
          have d3' : wo.cell? ⟨b3, off3 + k, none⟩ = some (strV (Tr.at_ q k)) := by rw [hbw.cell (p := ⟨b3, off3 + k, none⟩) hb3, d3, Tr.at_eq q k hlk]
          have d4' : wo.cell? ⟨b4, off4 + k, none⟩ = some (.int .i64 (Tr.ln y k)) := by
            rw [hbw.cell (p := ⟨b4, off4 + k, none⟩) hb4, d4]
            unfold Tr.ln; rw [List.getElem?_eq_getElem hlky]; simp [intsV]
          have HS1 := Lib.hid (HSS.out k)
          clear d3 d4
          by_cases hs : Tr.sB p x q y i k = true
          · have HS2 : Hid (Tr.sB p x q y i (k + 1) = true) := Lib.hid (by rw [HS1.out, hs]; rfl)
            rw [hs]
            clear HS1 hs d3' d4'
            go_wp2_with fail
            go_quiet (fail)
            go_wp2_with fail
            go_roundw
            case rel => exact ⟨k + 1, n + nq, by omega, by go_num, by rw [HS2.out], by simp⟩
            case measure => simp [intOf]; omega
          · have hs' : Tr.sB p x q y i k = false := by simpa using hs
            rw [hs']
            by_cases hpq : Tr.at_ p i = Tr.at_ q k
            · have he : (Tr.at_ p i == Tr.at_ q k) = true := by simpa using hpq
              by_cases hxy : Tr.ln x i = Tr.ln y k
              · have hx : (Tr.ln x i == Tr.ln y k) = true := by simpa using hxy
                have HS2 : Hid (Tr.sB p x q y i (k + 1) = true) := Lib.hid (by rw [HS1.out, hs', decide_eq_true hpq, decide_eq_true hxy]; rfl)
                clear HS1 hs hs' hpq hxy
                generalize Tr.at_ q k = qk at *
                generalize Tr.ln y k = yk at *
                generalize Tr.at_ p i = pi at *
                generalize Tr.ln x i = xi at *
                go_wp2_with fail
                go_quiet (fail)
                go_wp2_with fail
                go_roundw
                case rel => exact ⟨k + 1, n + nq, by omega, by go_num, by rw [HS2.out], by simp⟩
                case measure => simp [intOf]; omega
              · have hx : (Tr.ln x i == Tr.ln y k) = false := by simpa using hxy
                have HS2 : Hid (Tr.sB p x q y i (k + 1) = false) := Lib.hid (by rw [HS1.out, hs', decide_eq_true hpq, decide_eq_false hxy]; rfl)
                clear HS1 hs hs' hpq hxy
                generalize Tr.at_ q k = qk at *
                generalize Tr.ln y k = yk at *
                generalize Tr.at_ p i = pi at *
                generalize Tr.ln x i = xi at *
                go_wp2_with fail
                go_quiet (fail)
                go_wp2_with fail
                go_roundw
                case rel => exact ⟨k + 1, n + nq, by omega, by go_num, by rw [HS2.out], by simp⟩
                case measure => simp [intOf]; omega
            · have he : (Tr.at_ p i == Tr.at_ q k) = false := by simpa using hpq
              have HS2 : Hid (Tr.sB p x q y i (k + 1) = false) := Lib.hid (by rw [HS1.out, hs', decide_eq_false hpq]; rfl)
              clear HS1 hs hs' hpq d4'
              generalize Tr.at_ q k = qk at *
              generalize Tr.at_ p i = pi at *
              go_wp2_with fail
              go_quiet (fail)
              go_wp2_with fail
              go_roundw
              case rel => exact ⟨k + 1, n + nq, by omega, by go_num, by rw [HS2.out], by simp⟩
              case measure => simp [intOf]; omega
        · obtain rfl : k = q.length := by omega
          rw [Tr.sB_end]
          have hownW := own_drewN' hown n
          have hbwW := below_drewN hbw n
          have d1W : (wo.drewN n).cell? ⟨b1, off1 + i, none⟩ = some (strV (Tr.at_ p i)) := d1'
          clear HSS
          generalize wo.drewN n = W at *
          by_cases hs : Tr.sameB p x q y i = true
          · have HSU2 : Hid (Tr.aL p x q y (i + 1) = Tr.aL p x q y i) := Lib.hid (by rw [HSU.out, if_pos hs, List.append_nil])
            rw [hs]
            clear HSU hs
            generalize Tr.aL p x q y i = al at *
            go_wp2_with fail
            go_roundw
            case rel => exact ⟨i + 1, B, c, by omega, by go_num, by rw [HSU2.out], by rw [HSU2.out]; exact hownW, hbwW⟩
            case measure => simp [intOf]; omega
          · have HSU2 : Hid (Tr.aL p x q y (i + 1) = Tr.aL p x q y i ++ [Tr.at_ p i]) := Lib.hid (by rw [HSU.out, if_neg hs])
            have hs' : Tr.sameB p x q y i = false := by simpa using hs
            rw [hs']
            clear HSU hs hs'
            generalize Tr.aL p x q y i = al at *
            generalize Tr.at_ p i = pi at *
            have hu : (W.alloc (.cells #[strV pi] 9)).cell? ⟨W.heap.size, 0, none⟩ = some (strV pi) := ((Blk.new W 9 #[strV pi]).cell 0).trans rfl
            go_wp2_with (first | (at_builtin; refine wpList_app1 _ rfl (.tmp 54) (.tmp 59) 26 rfl w.heap.size 9 i0 (.string .empty) 16 Tryz.underlying26 hi0 hz0 hz1 hz2 rfl B al.length c (ssV al) rfl (hownW.alloc _) W.heap.size 1 (strV pi) rfl hu rfl h63 hby (Nat.le_trans hbwW.size (by simp)) ?_))
            intro A' c' w' hown' hg' hc'
            have hb' := below_append (hbwW.alloc hbwW.size _) (hownW.alloc _) hg' (Nat.le_refl _) (Nat.le_trans hbwW.size (by simp))
            have hln' : (al ++ [pi]).length = al.length + 1 := by simp
            clear hg' hownW hu hc'
            go_wp2_with fail
            go_roundw
            case rel => exact ⟨i + 1, A', c', by omega, by go_num, by rw [HSU2.out, hln'], by rw [HSU2.out, hln']; simpa [sC] using hown', hb'⟩
            case measure => simp [intOf]; omega
    · obtain rfl : i = p.length := by omega
      have HC0 := Lib.hid (show Tr.chL p x q y 0 = Tr.aL p x q y p.length from rfl)
      have HCL := Lib.hid (Tr.chL_len p x q y)
      have HPX := Lib.hid (fun c => Tr.tB_end p c)
      clear HLX HLY
      go_wp2_with fail
      go_loopw [9, 13] (fun ov kv wr => ∃ (k : Nat) (B : Option Addr) (c : Nat), k ≤ q.length ∧ kv = .int .i64 k ∧ ov = .slice B (Tr.chL p x q y k).length c ∧ wr.ownsRow w.heap.size 9 1 (.slice B (Tr.chL p x q y k).length c) (Tr.chL p x q y k).length (ssV (Tr.chL p x q y k)) ∧ Below w.heap.size w wr) (fun _ kv _ => q.length - (intOf kv).toNat)
      case atStart => exact ⟨0, B, c, Nat.zero_le _, rfl, by rw [HC0.out], by rw [HC0.out]; exact hown, hbw⟩
      case round =>
        clear hown hbw HC0
        obtain ⟨k, B, c, hk, rfl, rfl, hown, hbw⟩ := hrel
        obtain ⟨wo, rfl⟩ : ∃ wo : World, wo = wr := ⟨_, rfl⟩
        by_cases hlk : k < q.length
        · have hlk' : (k : Int) < q.length := by omega
          have hk0' : (0 : Int) ≤ k := by omega
          obtain ⟨b3, off3, e3, hb3, _, d3⟩ := ssV_row hQ k hlk
          subst e3
          have d3' : wo.cell? ⟨b3, off3 + k, none⟩ = some (strV (Tr.at_ q k)) := by rw [hbw.cell (p := ⟨b3, off3 + k, none⟩) hb3, d3, Tr.at_eq q k hlk]
          have hcl := HCL.out k
          have HIA : Hid (Tr.at_ q k ∈ p → Tr.chL p x q y (k + 1) = Tr.chL p x q y k) := Lib.hid Tr.chL_in
          have HIB : Hid (¬ Tr.at_ q k ∈ p → Tr.chL p x q y (k + 1) = Tr.ins (Tr.at_ q k) (Tr.chL p x q y k)) := Lib.hid Tr.chL_out
          have HTE := Lib.hid (Tr.tB_end p (Tr.at_ q k))
          have HTS := Lib.hid (Tr.tB_succ p (Tr.at_ q k))
          clear d3 HPX
          generalize hbq : Tr.at_ q k = b at *
          generalize hou : Tr.chL p x q y k = out at *
          clear hbq hou
          go_wp2_with fail
          go_loopw [14, 15] (fun tv iv wr => ∃ (i n : Nat), i ≤ p.length ∧ iv = .int .i64 i ∧ tv = .bool (Tr.tB p b i) ∧ wr = wo.drewN n) (fun _ iv _ => p.length - (intOf iv).toNat)
          case atStart => exact ⟨0, 0, Nat.zero_le _, rfl, rfl, rfl⟩
          case round =>
            obtain ⟨i, n, hi, rfl, rfl, rfl⟩ := hrel
            by_cases hlt : i < p.length
            · have hlt' : (i : Int) < p.length := by omega
              have hi0' : (0 : Int) ≤ i := by omega
              obtain ⟨b1, off1, e1, hb1, _, d1⟩ := ssV_row hP i hlt
              subst e1
              have d1' : wo.cell? ⟨b1, off1 + i, none⟩ = some (strV (Tr.at_ p i)) := by rw [hbw.cell (p := ⟨b1, off1 + i, none⟩) hb1, d1, Tr.at_eq p i hlt]
              have HT1 := Lib.hid (HTS.out i)
              clear d1
              by_cases hs : Tr.tB p b i = true
              · have HT2 : Hid (Tr.tB p b (i + 1) = true) := Lib.hid (by rw [HT1.out, hs]; rfl)
                rw [hs]
                clear HT1 hs
                go_wp2_with fail
                go_quiet (fail)
                go_wp2_with fail
                go_roundw
                case rel => exact ⟨i + 1, n + nq, by omega, by go_num, by rw [HT2.out], by simp⟩
                case measure => simp [intOf]; omega
              · have hs' : Tr.tB p b i = false := by simpa using hs
                rw [hs']
                by_cases hpq : Tr.at_ p i = b
                · have he : (Tr.at_ p i == b) = true := by simpa using hpq
                  have HT2 : Hid (Tr.tB p b (i + 1) = true) := Lib.hid (by rw [HT1.out, hs', decide_eq_true hpq]; rfl)
                  clear HT1 hs hs' hpq
                  generalize Tr.at_ p i = pi at *
                  go_wp2_with fail
                  go_quiet (fail)
                  go_wp2_with fail
                  go_roundw
                  case rel => exact ⟨i + 1, n + nq, by omega, by go_num, by rw [HT2.out], by simp⟩
                  case measure => simp [intOf]; omega
                · have he : (Tr.at_ p i == b) = false := by simpa using hpq
                  have HT2 : Hid (Tr.tB p b (i + 1) = false) := Lib.hid (by rw [HT1.out, hs', decide_eq_false hpq]; rfl)
                  clear HT1 hs hs' hpq
                  generalize Tr.at_ p i = pi at *
                  go_wp2_with fail
                  go_quiet (fail)
                  go_wp2_with fail
                  go_roundw
                  case rel => exact ⟨i + 1, n + nq, by omega, by go_num, by rw [HT2.out], by simp⟩
                  case measure => simp [intOf]; omega
            · obtain rfl : i = p.length := by omega
              have hownW := own_drewN' hown n
              have hbwW := below_drewN hbw n
              have d3W : (wo.drewN n).cell? ⟨b3, off3 + k, none⟩ = some (strV b) := d3'
              clear HTS
              generalize wo.drewN n = W at *
              by_cases hs : Tr.tB p b p.length = true
              · have HSU2 := Lib.hid (HIA.out (HTE.out.1 hs))
                rw [hs]
                clear HIA HIB HTE hs
                go_wp2_with fail
                go_roundw
                case rel => exact ⟨k + 1, B, c, by omega, by go_num, by rw [HSU2.out], by rw [HSU2.out]; exact hownW, hbwW⟩
                case measure => simp [intOf]; omega
              · have HIN := Lib.hid (HIB.out (fun h => hs (HTE.out.2 h)))
                have hs' : Tr.tB p b p.length = false := by simpa using hs
                have HIE := Lib.hid (by have h9 := congrArg ssV (Tr.ins_eq b out); rw [show ssV (out.take (Tr.hd b out) ++ [b] ++ out.drop (Tr.hd b out)) = ssV (out.take (Tr.hd b out)) ++ [strV b] ++ ssV (out.drop (Tr.hd b out)) from by simp [sC]] at h9; exact h9)
                have hhl := Tr.hd_le b out
                have HHL := Lib.hid (Tr.hd_lt b out)
                have HHG := Lib.hid (Tr.hd_ge b out)
                have HIL : Hid ((Tr.ins b out).length = Tr.hd b out + 1 + (out.length - Tr.hd b out)) := Lib.hid (by rw [(Tr.ins_perm b out).length_eq]; simp; omega)
                obtain ⟨_, _, e, h8, _⟩ := own_form hownW
                injection e with e0 _ e
                subst e0
                subst e
                have hV : SA W (fun b => W.heap.size ≤ b) B (ssV out) := SA.of_own' hownW (fun b hb h => by have := (hownW.lt b hb).2; omega)
                rw [hs']
                clear HIA HIB HTE hs hs' hown hbw d3'
                generalize Tr.ins b out = outb at *
                generalize Tr.hd b out = h at *
                go_wp2_with fail
                go_loopw [16] (fun av wr => ∃ (j n : Nat), j ≤ h ∧ av = .int .i64 j ∧ wr = W.drewN n) (fun av _ => h - (intOf av).toNat)
                case atStart => exact ⟨0, 0, Nat.zero_le _, rfl, rfl⟩
                case round =>
                  obtain ⟨j, n, hj, rfl, rfl⟩ := hrel
                  have hj0' : (0 : Int) ≤ j := by omega
                  by_cases hjh : j < h
                  · have hjo : j < out.length := by omega
                    have hjo' : (j : Int) < out.length := by omega
                    obtain ⟨b5, off5, e5, hb5, _, d5⟩ := ssV_row hV j hjo
                    subst e5
                    have hlb : Op.bytesLess (Tr.at_ out j) b = true := by rw [less_eq]; exact decide_eq_true (HHL.out j hjh)
                    rw [Tr.at_eq out j hjo] at d5
                    generalize Tr.at_ out j = oj at *
                    go_wp2_with fail
                    go_quiet (fail)
                    go_wp2_with fail
                    go_roundw
                    case rel => exact ⟨j + 1, n + nq, by omega, by go_num, by simp⟩
                    case measure => simp [intOf]; omega
                  · obtain rfl : j = h := by omega
                    by_cases hjo : j < out.length
                    · have hjo' : (j : Int) < out.length := by omega
                      obtain ⟨b5, off5, e5, hb5, _, d5⟩ := ssV_row hV j hjo
                      subst e5
                      have hlb : Op.bytesLess (Tr.at_ out j) b = false := by rw [less_eq]; exact decide_eq_false (HHG.out hjo)
                      rw [Tr.at_eq out j hjo] at d5
                      generalize Tr.at_ out j = oj at *
                      go_wp2_with fail
                      go_quiet (fail)
                      go_wp2_with fail
                      have hownZ := own_drewN' (own_drewN' hownW n) nq
                      have hbwZ := below_drewN (below_drewN hbwW n) nq
                      have hVZ : SA ((W.drewN n).drewN nq) (fun b => ((W.drewN n).drewN nq).heap.size ≤ b) (some ⟨b5, off5, none⟩) (ssV out) := hV
                      have d3Z : ((W.drewN n).drewN nq).cell? ⟨b3, off3 + k, none⟩ = some (strV b) := d3W
                      obtain ⟨wz, hwz⟩ : ∃ Z : World, Z = (W.drewN n).drewN nq := ⟨_, rfl⟩
                      rw [← hwz] at hownZ hbwZ hVZ d3Z ⊢
                      have hb3z : b3 < wz.heap.size := Nat.lt_of_lt_of_le hb3 hbwZ.size
                      have hol : out.length ≤ 1000 := by omega
                      clear hwz hownW hbwW hV d3W HHL HHG hownZ
                      have HK : Hid (∀ w6 : World, Below wz.heap.size wz w6 → w6.cell? ⟨b3, off3 + k, none⟩ = some (strV b)) := Lib.hid fun w6 h6 => (h6.cell (p := ⟨b3, off3 + k, none⟩) hb3z).trans d3Z
                      have hs1 : ∀ W', (Instr.slice 26 (.slice (some ⟨b5, off5, none⟩) out.length c) none (some (.int .i64 (j : Int))) none).run Tryz.prog W' = .ok (.slice (some ⟨b5, off5, none⟩) j c) W' := fun W' => slice_toS W' (some ⟨b5, off5, none⟩) out.length c j (by omega)
                      obtain ⟨D, hDd⟩ : ∃ D : Option Addr, D = (if c = j then (some (⟨b5, off5, none⟩ : Addr)) else (some (⟨b5, off5, none⟩ : Addr)).map (·.add j)) := ⟨_, rfl⟩
                      have hs2 : ∀ W', (Instr.slice 26 (.slice (some ⟨b5, off5, none⟩) out.length c) (some (.int .i64 (j : Int))) none none).run Tryz.prog W' = .ok (.slice D (out.length - j) (c - j)) W' := fun W' => by rw [hDd]; exact slice_frS W' (some ⟨b5, off5, none⟩) out.length c j hhl h8
                      have hT : SA wz (fun b => wz.heap.size ≤ b) (some ⟨b5, off5, none⟩) (ssV (out.take j)) := by have := hVZ.take (j * 1); rw [← Fl.take sC_len] at this; exact this
                      have hD : SA wz (fun b => wz.heap.size ≤ b) D (ssV (out.drop j)) := by
                        have := hVZ.drop (j * 1) (c = j) (fun e => .inl (by rw [ssV_len]; omega))
                        rw [← Fl.drop sC_len, Nat.mul_one] at this
                        rw [hDd]; exact this
                      clear hVZ hDd d3Z
                      refine wp_region_noPanic ?_
                      refine wp_region_held_drew (S := (fun w6 : World => w6.cell? ⟨b3, off3 + k, none⟩ = some (strV b))) (by kernel_rfl) ?_ (fun hSQ => ?_)
                      · exact HK.out _ (below_drew' (Below.refl _ _))
                      have hq : Below wz.heap.size wz wz.drew := below_drew' (Below.refl _ _)
                      have hszb : wz.heap.size ≤ wz.drew.heap.size := Nat.le_refl _
                      generalize hWg : wz.drew = WQ at *
                      clear hWg
                      replace hT := hT.keep (Keeps.below hq fun _ _ h => h)
                      replace hD := hD.keep (Keeps.below hq fun _ _ h => h)
                      refine wpAnyH_take (i := 0) (v := .slice (some ⟨b5, off5, none⟩) out.length c) rfl (by kernel_rfl) (by kernel_rfl) (by kernel_rfl) (fun _ _ _ h => h) (Or.inl ⟨by kernel_rfl, ?qQ1⟩) (by assumption) ?rqQ1
                      case qQ1 => (intro w hSw; (try dsimp only at hSw); go_simp)
                      try simp only [Act.put, List.setIfInBounds_toArray]
                      refine wpAnyH_take (i := 1) (v := .int .i64 (j : Int)) rfl (by kernel_rfl) (by kernel_rfl) (by kernel_rfl) (fun _ _ _ h => h) (Or.inl ⟨by kernel_rfl, ?qQ2⟩) (by assumption) ?rqQ2
                      case qQ2 => (intro w hSw; (try dsimp only at hSw); go_simp)
                      try simp only [Act.put]
                      refine wpAnyH_take (i := 2) (v := .slice (some ⟨b5, off5, none⟩) j c) rfl (by kernel_rfl) (by kernel_rfl) (by kernel_rfl) (fun _ _ _ h => h) (Or.inl ⟨by kernel_rfl, ?qQ3⟩) (by assumption) ?rqQ3
                      case qQ3 => (intro w hSw; (try dsimp only at hSw); go_simp)
                      try simp only [Act.put]
                      refine wpAnyH_take (i := 4) (v := .slice (some ⟨b3, off3, none⟩) q.length c2) rfl (by kernel_rfl) (by kernel_rfl) (by kernel_rfl) (fun _ _ _ h => h) (Or.inl ⟨by kernel_rfl, ?qQ4⟩) (by assumption) ?rqQ4
                      case qQ4 => (intro w hSw; (try dsimp only at hSw); go_simp)
                      try simp only [Act.put]
                      refine wpAnyH_take (i := 5) (v := .int .i64 (k : Int)) rfl (by kernel_rfl) (by kernel_rfl) (by kernel_rfl) (fun _ _ _ h => h) (Or.inl ⟨by kernel_rfl, ?qQ5⟩) (by assumption) ?rqQ5
                      case qQ5 => (intro w hSw; (try dsimp only at hSw); go_simp)
                      try simp only [Act.put]
                      refine wpAnyH_take (i := 6) (v := .pointer (some ⟨b3, off3 + k, none⟩)) rfl (by kernel_rfl) (by kernel_rfl) (by kernel_rfl) (fun _ _ _ h => h) (Or.inl ⟨by kernel_rfl, ?qQ6⟩) (by assumption) ?rqQ6
                      case qQ6 => (intro w hSw; (try dsimp only at hSw); go_simp)
                      try simp only [Act.put]
                      refine wpAnyH_take (i := 7) (v := strV b) rfl (by kernel_rfl) (by kernel_rfl) (by kernel_rfl) (fun _ _ _ h => h) (Or.inl ⟨by kernel_rfl, ?qQ7⟩) (by assumption) ?rqQ7
                      case qQ7 => (intro w hSw; (try dsimp only at hSw); go_simp)
                      try simp only [Act.put]
                      refine wpAnyH_take (i := 10) (v := .slice (some ⟨b5, off5, none⟩) out.length c) rfl (by kernel_rfl) (by kernel_rfl) (by kernel_rfl) (fun _ _ _ h => h) (Or.inl ⟨by kernel_rfl, ?qQ8⟩) (by assumption) ?rqQ8
                      case qQ8 => (intro w hSw; (try dsimp only at hSw); go_simp)
                      try simp only [Act.put]
                      refine wpAnyH_take (i := 11) (v := .int .i64 (j : Int)) rfl (by kernel_rfl) (by kernel_rfl) (by kernel_rfl) (fun _ _ _ h => h) (Or.inl ⟨by kernel_rfl, ?qQ9⟩) (by assumption) ?rqQ9
                      case qQ9 => (intro w hSw; (try dsimp only at hSw); go_simp)
                      try simp only [Act.put]
                      refine wpAnyH_take (i := 12) (v := .slice D (out.length - j) (c - j)) rfl (by kernel_rfl) (by kernel_rfl) (by kernel_rfl) (fun _ _ _ h => h) (Or.inl ⟨by kernel_rfl, ?qQ10⟩) (by assumption) ?rqQ10
                      case qQ10 => (intro w hSw; (try dsimp only at hSw); go_simp)
                      try simp only [Act.put]
                      refine wpAnyH_ready (rs := [3, 8]) (by kernel_rfl) (by simp) ?_
                      refine AllReadyH.cons rfl (fun K hK => ?nQ11) (AllReadyH.cons rfl (fun K hK => ?nQ12) (AllReadyH.nil))
                      case nQ11 =>
                        refine step_appMo _ rfl (.const (.slice none 0 0)) (.tmp 105) 26 (by kernel_rfl) wz.heap.size 9 i0 (.string .empty) 1 16 Tryz.underlying26 hi0 hz0 hz1 hz2 rfl (by decide) none 0 0 [] (by kernel_rfl) (World.ownsRow_nil _ _ _ _) _ (some ⟨b5, off5, none⟩) j c (ssV (out.take j)) (by kernel_rfl) (by rw [ssV_len, List.length_take]; omega) hT.sv (ssV_one _) (by unfold maxLen; omega) (by omega) hq.size ?_
                        intro A5 c5 WQ13 hr5 hg5 hob5
                        simp only [Nat.zero_add, List.nil_append] at hr5 ⊢
                        have hb5 : Below WQ.heap.size WQ WQ13 := below_of_only hg5 (Nat.le_refl _) (fun g hg => by cases hg)
                        refine hK.out _ _ ?_ (fun hSQ14 => ?_)
                        · exact HK.out _ (hq.trans (hb5.mono hq.size))
                        clear hK K
                        try simp only [Act.put]
                        replace hq := hq.trans (hb5.mono hq.size)
                        replace hT := hT.keep (Keeps.below hb5 fun _ _ h => h)
                        replace hD := hD.keep (Keeps.below hb5 fun _ _ h => h)
                        clear hg5 hob5 hb5
                        refine wpAnyH_ready (rs := [8]) (by kernel_rfl) (by simp) ?_
                        refine AllReadyH.cons rfl (fun K hK => ?nQ15) (AllReadyH.nil)
                        have hr5a := hr5.alloc (.cells #[strV b] 9)
                        clear hr5
                        have hr5 := hr5a
                        clear hr5a
                        replace hT := hT.keep (Keeps.alloc _ _ (.cells #[strV b] 9))
                        replace hD := hD.keep (Keeps.alloc _ _ (.cells #[strV b] 9))
                        go_simp
                        refine hK.out _ _ ?_ (fun hSQ17 => ?_)
                        · exact HK.out _ (hq.alloc hq.size (.cells #[strV b] 9))
                        clear hK K
                        try simp only [Act.put, List.setIfInBounds_toArray]
                        replace hq := hq.alloc hq.size (.cells #[strV b] 9)
                        have bl := Blk.new WQ13 9 #[strV b]
                        have zQ18 : WQ13.heap.size < (WQ13.alloc (.cells #[strV b] 9)).heap.size := by simp
                        generalize WQ13.alloc (.cells #[strV b] 9) = WQ16 at *
                        refine wpAnyH_ready (rs := [9]) (by kernel_rfl) (by simp) ?_
                        refine AllReadyH.cons rfl (fun K hK => ?nQ19) (AllReadyH.nil)
                        refine step_appNo _ rfl (.tmp 106) (.tmp 111) 26 (by kernel_rfl) wz.heap.size 9 i0 _ 1 16 Tryz.underlying26 hi0 hz0 hz1 hz2 rfl (by decide) A5 j c5 (ssV (out.take j)) (by kernel_rfl) hr5 WQ13.heap.size 1 [strV b] (by kernel_rfl) rfl (fun i' v hi' => by rw [bl.cell i', ← Array.getElem?_toList]; exact hi') (by intro u hu; simp at hu; subst hu; rfl) (by unfold maxLen; omega) (by omega) hq.size ?_
                        intro g6 c6 WQ20 hr6 hg6 hob6
                        have hb6 := hq.grown hg6 hq.size (fun g hg => (hr5.lt g hg).1)
                        have hk6 : Keeps WQ16 (fun b => wz.heap.size ≤ b) WQ20 (fun b => wz.heap.size ≤ b) := Keeps.grown hg6 (fun g hg _ => (hr5.lt g hg.symm.symm).1) (fun _ _ h => h)
                        refine hK.out _ _ ?_ (fun hSQ21 => ?_)
                        · exact HK.out _ (hb6)
                        clear hK K
                        try simp only [Act.put, List.setIfInBounds_toArray]
                        replace hq := hb6
                        replace hT := hT.keep hk6
                        replace hD := hD.keep hk6
                        clear hg6 hob6 hk6 hr5 bl
                        refine wpAnyH_ready (rs := [13]) (by kernel_rfl) (by simp) ?_
                        refine AllReadyH.cons rfl (fun K hK => ?nQ22) (AllReadyH.nil)
                        refine step_appMo _ rfl (.tmp 112) (.tmp 115) 26 (by kernel_rfl) wz.heap.size 9 i0 (.string .empty) 1 16 Tryz.underlying26 hi0 hz0 hz1 hz2 rfl (by decide) (some ⟨g6, 0, none⟩) (j + 1) c6 (ssV (out.take j) ++ [strV b]) (by kernel_rfl) hr6 _ D (out.length - j) (c - j) (ssV (out.drop j)) (by kernel_rfl) (by rw [ssV_len, List.length_drop]; omega) hD.sv (ssV_one _) (by unfold maxLen; omega) (by omega) hq.size ?_
                        intro A7 c7 WQ23 hr7 hg7 hob7
                        have hb7 := hq.grown hg7 hq.size (fun g hg => (hr6.lt g hg).1)
                        refine hK.out _ _ ?_ (fun hSQ24 => ?_)
                        · exact HK.out _ (hb7)
                        clear hK K
                        try simp only [Act.put]
                        replace hq := hb7
                        clear hg7 hob7 hr6
                        refine wpAnyH_take (i := 14) (v := .slice A7 (j + 1 + (out.length - j)) c7) rfl (by kernel_rfl) (by kernel_rfl) (by kernel_rfl) (fun _ _ _ h => h) (Or.inl ⟨by kernel_rfl, ?qQ25⟩) (by assumption) ?rqQ25
                        case qQ25 => (intro w hSw; (try dsimp only at hSw); go_simp)
                        try simp only [Act.put]
                        refine wpAnyH_done (by kernel_rfl) ?_ _
                        refine NoPanic.normal ?_
                        go_wp2_with fail
                        go_roundw
                        case rel => exact ⟨k + 1, A7, c7, by omega, by go_num, by rw [HIN.out, HIL.out], by rw [HIN.out, HIL.out, HIE.out]; exact own_base hr7 hbwZ.size, hbwZ.trans (hq.mono hbwZ.size)⟩
                        case measure => simp [intOf]; omega
                      case nQ12 =>
                        replace hT := hT.keep (Keeps.alloc _ _ (.cells #[strV b] 9))
                        replace hD := hD.keep (Keeps.alloc _ _ (.cells #[strV b] 9))
                        go_simp
                        refine hK.out _ _ ?_ (fun hSQ27 => ?_)
                        · exact HK.out _ (hq.alloc hq.size (.cells #[strV b] 9))
                        clear hK K
                        try simp only [Act.put, List.setIfInBounds_toArray]
                        replace hq := hq.alloc hq.size (.cells #[strV b] 9)
                        have bl := Blk.new WQ 9 #[strV b]
                        have zQ28 : WQ.heap.size < (WQ.alloc (.cells #[strV b] 9)).heap.size := by simp
                        generalize WQ.alloc (.cells #[strV b] 9) = WQ26 at *
                        refine wpAnyH_ready (rs := [3]) (by kernel_rfl) (by simp) ?_
                        refine AllReadyH.cons rfl (fun K hK => ?nQ29) (AllReadyH.nil)
                        refine step_appMo _ rfl (.const (.slice none 0 0)) (.tmp 105) 26 (by kernel_rfl) wz.heap.size 9 i0 (.string .empty) 1 16 Tryz.underlying26 hi0 hz0 hz1 hz2 rfl (by decide) none 0 0 [] (by kernel_rfl) (World.ownsRow_nil _ _ _ _) _ (some ⟨b5, off5, none⟩) j c (ssV (out.take j)) (by kernel_rfl) (by rw [ssV_len, List.length_take]; omega) hT.sv (ssV_one _) (by unfold maxLen; omega) (by omega) hq.size ?_
                        intro A5 c5 WQ30 hr5 hg5 hob5
                        simp only [Nat.zero_add, List.nil_append] at hr5 ⊢
                        have hb5 : Below WQ26.heap.size WQ26 WQ30 := below_of_only hg5 (Nat.le_refl _) (fun g hg => by cases hg)
                        refine hK.out _ _ ?_ (fun hSQ31 => ?_)
                        · exact HK.out _ (hq.trans (hb5.mono hq.size))
                        clear hK K
                        try simp only [Act.put, List.setIfInBounds_toArray]
                        replace hq := hq.trans (hb5.mono hq.size)
                        replace hT := hT.keep (Keeps.below hb5 fun _ _ h => h)
                        replace hD := hD.keep (Keeps.below hb5 fun _ _ h => h)
                        replace bl := bl.below hb5 bl.lt
                        clear hg5 hob5 hb5
                        refine wpAnyH_ready (rs := [9]) (by kernel_rfl) (by simp) ?_
                        refine AllReadyH.cons rfl (fun K hK => ?nQ32) (AllReadyH.nil)
                        refine step_appNo _ rfl (.tmp 106) (.tmp 111) 26 (by kernel_rfl) wz.heap.size 9 i0 _ 1 16 Tryz.underlying26 hi0 hz0 hz1 hz2 rfl (by decide) A5 j c5 (ssV (out.take j)) (by kernel_rfl) hr5 WQ.heap.size 1 [strV b] (by kernel_rfl) rfl (fun i' v hi' => by rw [bl.cell i', ← Array.getElem?_toList]; exact hi') (by intro u hu; simp at hu; subst hu; rfl) (by unfold maxLen; omega) (by omega) hq.size ?_
                        intro g6 c6 WQ33 hr6 hg6 hob6
                        have hb6 := hq.grown hg6 hq.size (fun g hg => (hr5.lt g hg).1)
                        have hk6 : Keeps WQ30 (fun b => wz.heap.size ≤ b) WQ33 (fun b => wz.heap.size ≤ b) := Keeps.grown hg6 (fun g hg _ => (hr5.lt g hg.symm.symm).1) (fun _ _ h => h)
                        refine hK.out _ _ ?_ (fun hSQ34 => ?_)
                        · exact HK.out _ (hb6)
                        clear hK K
                        try simp only [Act.put]
                        replace hq := hb6
                        replace hT := hT.keep hk6
                        replace hD := hD.keep hk6
                        clear hg6 hob6 hk6 hr5 bl
                        refine wpAnyH_ready (rs := [13]) (by kernel_rfl) (by simp) ?_
                        refine AllReadyH.cons rfl (fun K hK => ?nQ35) (AllReadyH.nil)
                        refine step_appMo _ rfl (.tmp 112) (.tmp 115) 26 (by kernel_rfl) wz.heap.size 9 i0 (.string .empty) 1 16 Tryz.underlying26 hi0 hz0 hz1 hz2 rfl (by decide) (some ⟨g6, 0, none⟩) (j + 1) c6 (ssV (out.take j) ++ [strV b]) (by kernel_rfl) hr6 _ D (out.length - j) (c - j) (ssV (out.drop j)) (by kernel_rfl) (by rw [ssV_len, List.length_drop]; omega) hD.sv (ssV_one _) (by unfold maxLen; omega) (by omega) hq.size ?_
                        intro A7 c7 WQ36 hr7 hg7 hob7
                        have hb7 := hq.grown hg7 hq.size (fun g hg => (hr6.lt g hg).1)
                        refine hK.out _ _ ?_ (fun hSQ37 => ?_)
                        · exact HK.out _ (hb7)
                        clear hK K
                        try simp only [Act.put]
                        replace hq := hb7
                        clear hg7 hob7 hr6
                        refine wpAnyH_take (i := 14) (v := .slice A7 (j + 1 + (out.length - j)) c7) rfl (by kernel_rfl) (by kernel_rfl) (by kernel_rfl) (fun _ _ _ h => h) (Or.inl ⟨by kernel_rfl, ?qQ38⟩) (by assumption) ?rqQ38
                        case qQ38 => (intro w hSw; (try dsimp only at hSw); go_simp)
                        try simp only [Act.put]
                        refine wpAnyH_done (by kernel_rfl) ?_ _
                        refine NoPanic.normal ?_
                        go_wp2_with fail
                        go_roundw
                        case rel => exact ⟨k + 1, A7, c7, by omega, by go_num, by rw [HIN.out, HIL.out], by rw [HIN.out, HIL.out, HIE.out]; exact own_base hr7 hbwZ.size, hbwZ.trans (hq.mono hbwZ.size)⟩
                        case measure => simp [intOf]; omega
                    · have hjo' : ¬ ((j : Int) < out.length) := by omega
                      go_wp2_with fail
                      go_quiet (fail)
                      go_wp2_with fail
                      have hownZ := own_drewN' (own_drewN' hownW n) nq
                      have hbwZ := below_drewN (below_drewN hbwW n) nq
                      have hVZ : SA ((W.drewN n).drewN nq) (fun b => ((W.drewN n).drewN nq).heap.size ≤ b) B (ssV out) := hV
                      have d3Z : ((W.drewN n).drewN nq).cell? ⟨b3, off3 + k, none⟩ = some (strV b) := d3W
                      obtain ⟨wz, hwz⟩ : ∃ Z : World, Z = (W.drewN n).drewN nq := ⟨_, rfl⟩
                      rw [← hwz] at hownZ hbwZ hVZ d3Z ⊢
                      have hb3z : b3 < wz.heap.size := Nat.lt_of_lt_of_le hb3 hbwZ.size
                      have hol : out.length ≤ 1000 := by omega
                      clear hwz hownW hbwW hV d3W HHL HHG hownZ
                      have HK : Hid (∀ w6 : World, Below wz.heap.size wz w6 → w6.cell? ⟨b3, off3 + k, none⟩ = some (strV b)) := Lib.hid fun w6 h6 => (h6.cell (p := ⟨b3, off3 + k, none⟩) hb3z).trans d3Z
                      have hs1 : ∀ W', (Instr.slice 26 (.slice B out.length c) none (some (.int .i64 (j : Int))) none).run Tryz.prog W' = .ok (.slice B j c) W' := fun W' => slice_toS W' B out.length c j (by omega)
                      obtain ⟨D, hDd⟩ : ∃ D, D = (if c = j then B else B.map (·.add j)) := ⟨_, rfl⟩
                      have hs2 : ∀ W', (Instr.slice 26 (.slice B out.length c) (some (.int .i64 (j : Int))) none none).run Tryz.prog W' = .ok (.slice D (out.length - j) (c - j)) W' := fun W' => by rw [hDd]; exact slice_frS W' B out.length c j hhl h8
                      have hT : SA wz (fun b => wz.heap.size ≤ b) B (ssV (out.take j)) := by have := hVZ.take (j * 1); rw [← Fl.take sC_len] at this; exact this
                      have hD : SA wz (fun b => wz.heap.size ≤ b) D (ssV (out.drop j)) := by
                        have := hVZ.drop (j * 1) (c = j) (fun e => .inl (by rw [ssV_len]; omega))
                        rw [← Fl.drop sC_len, Nat.mul_one] at this
                        rw [hDd]; exact this
                      clear hVZ hDd d3Z
                      refine wp_region_noPanic ?_
                      refine wp_region_held_drew (S := (fun w6 : World => w6.cell? ⟨b3, off3 + k, none⟩ = some (strV b))) (by kernel_rfl) ?_ (fun hSV => ?_)
                      · exact HK.out _ (below_drew' (Below.refl _ _))
                      have hq : Below wz.heap.size wz wz.drew := below_drew' (Below.refl _ _)
                      have hszb : wz.heap.size ≤ wz.drew.heap.size := Nat.le_refl _
                      generalize hWg : wz.drew = WQ at *
                      clear hWg
                      replace hT := hT.keep (Keeps.below hq fun _ _ h => h)
                      replace hD := hD.keep (Keeps.below hq fun _ _ h => h)
                      refine wpAnyH_take (i := 0) (v := .slice B out.length c) rfl (by kernel_rfl) (by kernel_rfl) (by kernel_rfl) (fun _ _ _ h => h) (Or.inl ⟨by kernel_rfl, ?qV1⟩) (by assumption) ?rqV1
                      case qV1 => (intro w hSw; (try dsimp only at hSw); go_simp)
                      try simp only [Act.put, List.setIfInBounds_toArray]
                      refine wpAnyH_take (i := 1) (v := .int .i64 (j : Int)) rfl (by kernel_rfl) (by kernel_rfl) (by kernel_rfl) (fun _ _ _ h => h) (Or.inl ⟨by kernel_rfl, ?qV2⟩) (by assumption) ?rqV2
                      case qV2 => (intro w hSw; (try dsimp only at hSw); go_simp)
                      try simp only [Act.put]
                      refine wpAnyH_take (i := 2) (v := .slice B j c) rfl (by kernel_rfl) (by kernel_rfl) (by kernel_rfl) (fun _ _ _ h => h) (Or.inl ⟨by kernel_rfl, ?qV3⟩) (by assumption) ?rqV3
                      case qV3 => (intro w hSw; (try dsimp only at hSw); go_simp)
                      try simp only [Act.put]
                      refine wpAnyH_take (i := 4) (v := .slice (some ⟨b3, off3, none⟩) q.length c2) rfl (by kernel_rfl) (by kernel_rfl) (by kernel_rfl) (fun _ _ _ h => h) (Or.inl ⟨by kernel_rfl, ?qV4⟩) (by assumption) ?rqV4
                      case qV4 => (intro w hSw; (try dsimp only at hSw); go_simp)
                      try simp only [Act.put]
                      refine wpAnyH_take (i := 5) (v := .int .i64 (k : Int)) rfl (by kernel_rfl) (by kernel_rfl) (by kernel_rfl) (fun _ _ _ h => h) (Or.inl ⟨by kernel_rfl, ?qV5⟩) (by assumption) ?rqV5
                      case qV5 => (intro w hSw; (try dsimp only at hSw); go_simp)
                      try simp only [Act.put]
                      refine wpAnyH_take (i := 6) (v := .pointer (some ⟨b3, off3 + k, none⟩)) rfl (by kernel_rfl) (by kernel_rfl) (by kernel_rfl) (fun _ _ _ h => h) (Or.inl ⟨by kernel_rfl, ?qV6⟩) (by assumption) ?rqV6
                      case qV6 => (intro w hSw; (try dsimp only at hSw); go_simp)
                      try simp only [Act.put]
                      refine wpAnyH_take (i := 7) (v := strV b) rfl (by kernel_rfl) (by kernel_rfl) (by kernel_rfl) (fun _ _ _ h => h) (Or.inl ⟨by kernel_rfl, ?qV7⟩) (by assumption) ?rqV7
                      case qV7 => (intro w hSw; (try dsimp only at hSw); go_simp)
                      try simp only [Act.put]
                      refine wpAnyH_take (i := 10) (v := .slice B out.length c) rfl (by kernel_rfl) (by kernel_rfl) (by kernel_rfl) (fun _ _ _ h => h) (Or.inl ⟨by kernel_rfl, ?qV8⟩) (by assumption) ?rqV8
                      case qV8 => (intro w hSw; (try dsimp only at hSw); go_simp)
                      try simp only [Act.put]
                      refine wpAnyH_take (i := 11) (v := .int .i64 (j : Int)) rfl (by kernel_rfl) (by kernel_rfl) (by kernel_rfl) (fun _ _ _ h => h) (Or.inl ⟨by kernel_rfl, ?qV9⟩) (by assumption) ?rqV9
                      case qV9 => (intro w hSw; (try dsimp only at hSw); go_simp)
                      try simp only [Act.put]
                      refine wpAnyH_take (i := 12) (v := .slice D (out.length - j) (c - j)) rfl (by kernel_rfl) (by kernel_rfl) (by kernel_rfl) (fun _ _ _ h => h) (Or.inl ⟨by kernel_rfl, ?qV10⟩) (by assumption) ?rqV10
                      case qV10 => (intro w hSw; (try dsimp only at hSw); go_simp)
                      try simp only [Act.put]
                      refine wpAnyH_ready (rs := [3, 8]) (by kernel_rfl) (by simp) ?_
                      refine AllReadyH.cons rfl (fun K hK => ?nV11) (AllReadyH.cons rfl (fun K hK => ?nV12) (AllReadyH.nil))
                      case nV11 =>
                        refine step_appMo _ rfl (.const (.slice none 0 0)) (.tmp 105) 26 (by kernel_rfl) wz.heap.size 9 i0 (.string .empty) 1 16 Tryz.underlying26 hi0 hz0 hz1 hz2 rfl (by decide) none 0 0 [] (by kernel_rfl) (World.ownsRow_nil _ _ _ _) _ B j c (ssV (out.take j)) (by kernel_rfl) (by rw [ssV_len, List.length_take]; omega) hT.sv (ssV_one _) (by unfold maxLen; omega) (by omega) hq.size ?_
                        intro A5 c5 WV13 hr5 hg5 hob5
                        simp only [Nat.zero_add, List.nil_append] at hr5 ⊢
                        have hb5 : Below WQ.heap.size WQ WV13 := below_of_only hg5 (Nat.le_refl _) (fun g hg => by cases hg)
                        refine hK.out _ _ ?_ (fun hSV14 => ?_)
                        · exact HK.out _ (hq.trans (hb5.mono hq.size))
                        clear hK K
                        try simp only [Act.put]
                        replace hq := hq.trans (hb5.mono hq.size)
                        replace hT := hT.keep (Keeps.below hb5 fun _ _ h => h)
                        replace hD := hD.keep (Keeps.below hb5 fun _ _ h => h)
                        clear hg5 hob5 hb5
                        refine wpAnyH_ready (rs := [8]) (by kernel_rfl) (by simp) ?_
                        refine AllReadyH.cons rfl (fun K hK => ?nV15) (AllReadyH.nil)
                        have hr5a := hr5.alloc (.cells #[strV b] 9)
                        clear hr5
                        have hr5 := hr5a
                        clear hr5a
                        replace hT := hT.keep (Keeps.alloc _ _ (.cells #[strV b] 9))
                        replace hD := hD.keep (Keeps.alloc _ _ (.cells #[strV b] 9))
                        go_simp
                        refine hK.out _ _ ?_ (fun hSV17 => ?_)
                        · exact HK.out _ (hq.alloc hq.size (.cells #[strV b] 9))
                        clear hK K
                        try simp only [Act.put, List.setIfInBounds_toArray]
                        replace hq := hq.alloc hq.size (.cells #[strV b] 9)
                        have bl := Blk.new WV13 9 #[strV b]
                        have zV18 : WV13.heap.size < (WV13.alloc (.cells #[strV b] 9)).heap.size := by simp
                        generalize WV13.alloc (.cells #[strV b] 9) = WV16 at *
                        refine wpAnyH_ready (rs := [9]) (by kernel_rfl) (by simp) ?_
                        refine AllReadyH.cons rfl (fun K hK => ?nV19) (AllReadyH.nil)
                        refine step_appNo _ rfl (.tmp 106) (.tmp 111) 26 (by kernel_rfl) wz.heap.size 9 i0 _ 1 16 Tryz.underlying26 hi0 hz0 hz1 hz2 rfl (by decide) A5 j c5 (ssV (out.take j)) (by kernel_rfl) hr5 WV13.heap.size 1 [strV b] (by kernel_rfl) rfl (fun i' v hi' => by rw [bl.cell i', ← Array.getElem?_toList]; exact hi') (by intro u hu; simp at hu; subst hu; rfl) (by unfold maxLen; omega) (by omega) hq.size ?_
                        intro g6 c6 WV20 hr6 hg6 hob6
                        have hb6 := hq.grown hg6 hq.size (fun g hg => (hr5.lt g hg).1)
                        have hk6 : Keeps WV16 (fun b => wz.heap.size ≤ b) WV20 (fun b => wz.heap.size ≤ b) := Keeps.grown hg6 (fun g hg _ => (hr5.lt g hg.symm.symm).1) (fun _ _ h => h)
                        refine hK.out _ _ ?_ (fun hSV21 => ?_)
                        · exact HK.out _ (hb6)
                        clear hK K
                        try simp only [Act.put, List.setIfInBounds_toArray]
                        replace hq := hb6
                        replace hT := hT.keep hk6
                        replace hD := hD.keep hk6
                        clear hg6 hob6 hk6 hr5 bl
                        refine wpAnyH_ready (rs := [13]) (by kernel_rfl) (by simp) ?_
                        refine AllReadyH.cons rfl (fun K hK => ?nV22) (AllReadyH.nil)
                        refine step_appMo _ rfl (.tmp 112) (.tmp 115) 26 (by kernel_rfl) wz.heap.size 9 i0 (.string .empty) 1 16 Tryz.underlying26 hi0 hz0 hz1 hz2 rfl (by decide) (some ⟨g6, 0, none⟩) (j + 1) c6 (ssV (out.take j) ++ [strV b]) (by kernel_rfl) hr6 _ D (out.length - j) (c - j) (ssV (out.drop j)) (by kernel_rfl) (by rw [ssV_len, List.length_drop]; omega) hD.sv (ssV_one _) (by unfold maxLen; omega) (by omega) hq.size ?_
                        intro A7 c7 WV23 hr7 hg7 hob7
                        have hb7 := hq.grown hg7 hq.size (fun g hg => (hr6.lt g hg).1)
                        refine hK.out _ _ ?_ (fun hSV24 => ?_)
                        · exact HK.out _ (hb7)
                        clear hK K
                        try simp only [Act.put]
                        replace hq := hb7
                        clear hg7 hob7 hr6
                        refine wpAnyH_take (i := 14) (v := .slice A7 (j + 1 + (out.length - j)) c7) rfl (by kernel_rfl) (by kernel_rfl) (by kernel_rfl) (fun _ _ _ h => h) (Or.inl ⟨by kernel_rfl, ?qV25⟩) (by assumption) ?rqV25
                        case qV25 => (intro w hSw; (try dsimp only at hSw); go_simp)
                        try simp only [Act.put]
                        refine wpAnyH_done (by kernel_rfl) ?_ _
                        refine NoPanic.normal ?_
                        go_wp2_with fail
                        go_roundw
                        case rel => exact ⟨k + 1, A7, c7, by omega, by go_num, by rw [HIN.out, HIL.out], by rw [HIN.out, HIL.out, HIE.out]; exact own_base hr7 hbwZ.size, hbwZ.trans (hq.mono hbwZ.size)⟩
                        case measure => simp [intOf]; omega
                      case nV12 =>
                        replace hT := hT.keep (Keeps.alloc _ _ (.cells #[strV b] 9))
                        replace hD := hD.keep (Keeps.alloc _ _ (.cells #[strV b] 9))
                        go_simp
                        refine hK.out _ _ ?_ (fun hSV27 => ?_)
                        · exact HK.out _ (hq.alloc hq.size (.cells #[strV b] 9))
                        clear hK K
                        try simp only [Act.put, List.setIfInBounds_toArray]
                        replace hq := hq.alloc hq.size (.cells #[strV b] 9)
                        have bl := Blk.new WQ 9 #[strV b]
                        have zV28 : WQ.heap.size < (WQ.alloc (.cells #[strV b] 9)).heap.size := by simp
                        generalize WQ.alloc (.cells #[strV b] 9) = WV26 at *
                        refine wpAnyH_ready (rs := [3]) (by kernel_rfl) (by simp) ?_
                        refine AllReadyH.cons rfl (fun K hK => ?nV29) (AllReadyH.nil)
                        refine step_appMo _ rfl (.const (.slice none 0 0)) (.tmp 105) 26 (by kernel_rfl) wz.heap.size 9 i0 (.string .empty) 1 16 Tryz.underlying26 hi0 hz0 hz1 hz2 rfl (by decide) none 0 0 [] (by kernel_rfl) (World.ownsRow_nil _ _ _ _) _ B j c (ssV (out.take j)) (by kernel_rfl) (by rw [ssV_len, List.length_take]; omega) hT.sv (ssV_one _) (by unfold maxLen; omega) (by omega) hq.size ?_
                        intro A5 c5 WV30 hr5 hg5 hob5
                        simp only [Nat.zero_add, List.nil_append] at hr5 ⊢
                        have hb5 : Below WV26.heap.size WV26 WV30 := below_of_only hg5 (Nat.le_refl _) (fun g hg => by cases hg)
                        refine hK.out _ _ ?_ (fun hSV31 => ?_)
                        · exact HK.out _ (hq.trans (hb5.mono hq.size))
                        clear hK K
                        try simp only [Act.put, List.setIfInBounds_toArray]
                        replace hq := hq.trans (hb5.mono hq.size)
                        replace hT := hT.keep (Keeps.below hb5 fun _ _ h => h)
                        replace hD := hD.keep (Keeps.below hb5 fun _ _ h => h)
                        replace bl := bl.below hb5 bl.lt
                        clear hg5 hob5 hb5
                        refine wpAnyH_ready (rs := [9]) (by kernel_rfl) (by simp) ?_
                        refine AllReadyH.cons rfl (fun K hK => ?nV32) (AllReadyH.nil)
                        refine step_appNo _ rfl (.tmp 106) (.tmp 111) 26 (by kernel_rfl) wz.heap.size 9 i0 _ 1 16 Tryz.underlying26 hi0 hz0 hz1 hz2 rfl (by decide) A5 j c5 (ssV (out.take j)) (by kernel_rfl) hr5 WQ.heap.size 1 [strV b] (by kernel_rfl) rfl (fun i' v hi' => by rw [bl.cell i', ← Array.getElem?_toList]; exact hi') (by intro u hu; simp at hu; subst hu; rfl) (by unfold maxLen; omega) (by omega) hq.size ?_
                        intro g6 c6 WV33 hr6 hg6 hob6
                        have hb6 := hq.grown hg6 hq.size (fun g hg => (hr5.lt g hg).1)
                        have hk6 : Keeps WV30 (fun b => wz.heap.size ≤ b) WV33 (fun b => wz.heap.size ≤ b) := Keeps.grown hg6 (fun g hg _ => (hr5.lt g hg.symm.symm).1) (fun _ _ h => h)
                        refine hK.out _ _ ?_ (fun hSV34 => ?_)
                        · exact HK.out _ (hb6)
                        clear hK K
                        try simp only [Act.put]
                        replace hq := hb6
                        replace hT := hT.keep hk6
                        replace hD := hD.keep hk6
                        clear hg6 hob6 hk6 hr5 bl
                        refine wpAnyH_ready (rs := [13]) (by kernel_rfl) (by simp) ?_
                        refine AllReadyH.cons rfl (fun K hK => ?nV35) (AllReadyH.nil)
                        refine step_appMo _ rfl (.tmp 112) (.tmp 115) 26 (by kernel_rfl) wz.heap.size 9 i0 (.string .empty) 1 16 Tryz.underlying26 hi0 hz0 hz1 hz2 rfl (by decide) (some ⟨g6, 0, none⟩) (j + 1) c6 (ssV (out.take j) ++ [strV b]) (by kernel_rfl) hr6 _ D (out.length - j) (c - j) (ssV (out.drop j)) (by kernel_rfl) (by rw [ssV_len, List.length_drop]; omega) hD.sv (ssV_one _) (by unfold maxLen; omega) (by omega) hq.size ?_
                        intro A7 c7 WV36 hr7 hg7 hob7
                        have hb7 := hq.grown hg7 hq.size (fun g hg => (hr6.lt g hg).1)
                        refine hK.out _ _ ?_ (fun hSV37 => ?_)
                        · exact HK.out _ (hb7)
                        clear hK K
                        try simp only [Act.put]
                        replace hq := hb7
                        clear hg7 hob7 hr6
                        refine wpAnyH_take (i := 14) (v := .slice A7 (j + 1 + (out.length - j)) c7) rfl (by kernel_rfl) (by kernel_rfl) (by kernel_rfl) (fun _ _ _ h => h) (Or.inl ⟨by kernel_rfl, ?qV38⟩) (by assumption) ?rqV38
                        case qV38 => (intro w hSw; (try dsimp only at hSw); go_simp)
                        try simp only [Act.put]
                        refine wpAnyH_done (by kernel_rfl) ?_ _
                        refine NoPanic.normal ?_
                        go_wp2_with fail
                        go_roundw
                        case rel => exact ⟨k + 1, A7, c7, by omega, by go_num, by rw [HIN.out, HIL.out], by rw [HIN.out, HIL.out, HIE.out]; exact own_base hr7 hbwZ.size, hbwZ.trans (hq.mono hbwZ.size)⟩
                        case measure => simp [intOf]; omega
        · obtain rfl : k = q.length := by omega
          obtain ⟨_, _, e, h8, _⟩ := own_form hown
          injection e with e0 _ e
          subst e0
          subst e
          have HF : Hid (Tr.chF p x q y = Tr.chL p x q y q.length) := Lib.hid rfl
          have hS := SA.of_own (X := Under w.heap.size) hown (fun b hb => hb)
          clear HCL HPX hown
          go_wp2_with fail
          go_ret
          exact ⟨B, c, rfl, h8, hS, hbw⟩
end Go.Proofs.YtjljknocnebnaaaGreatDoor
