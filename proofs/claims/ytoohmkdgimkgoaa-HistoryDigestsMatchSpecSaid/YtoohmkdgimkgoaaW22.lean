/-
  Histories: walk of the reference's 'HeadsOf'.
-/
import Derived.Test.YtoohmkdgimkgoaaW14
import Derived.Test.YtoohmkdgimkgoaaW19
namespace Hs
def kid (l : List Cm) (i k : Nat) : Bool := (List.range k).any fun m => decide (i ∈ pars l m)
theorem kid_succ (l : List Cm) (i k : Nat) : kid l i (k + 1) = (kid l i k || decide (i ∈ pars l k)) := by
  unfold kid; rw [List.range_succ, List.any_append]; simp
theorem kid_all (l : List Cm) (i : Nat) : kid l i l.length = false ↔ cnt l l.length i = 0 := by
  rw [cnt_zero]
  unfold kid
  rw [List.any_eq_false]
  simp
theorem Ok.par_mem {l : List Cm} (h : Ok l) (i k : Nat) (hk : k < l.length) : decide ((i : Int) ∈ l[k].par) = decide (i ∈ pars l k) := by
  refine decide_eq_decide.2 ?_
  rw [pars_eq k hk, List.mem_map]
  constructor
  · intro hm; exact ⟨_, hm, by simp⟩
  · rintro ⟨x, hx, e⟩
    obtain ⟨j, hj, rfl⟩ := List.mem_iff_getElem.1 hx
    obtain ⟨p, h1, _, _⟩ := h.par_nat k j hk hj
    have : (i : Int) = l[k].par[j] := by rw [h1] at e ⊢; simp at e; omega
    rw [this]; exact List.getElem_mem hj
end Hs
namespace Go.Proofs.Ytoohmkdgimkgoaa
open Go.RowKit Go.V
set_option linter.unusedVariables false

structure HoSt (w wr : World) (out : List Nat) (Ao : Option Addr) (co : Nat) : Prop where
  own : wr.ownsRow w.heap.size 3 1 (.slice Ao out.length co) out.length (intsV (Hs.ints out))
  bel : Below w.heap.size w wr
theorem HoSt.app {w wr w' : World} {out : List Nat} {i c' : Nat} {Ao A' : Option Addr} {co : Nat} (h : HoSt w wr out Ao co) (o : Obj)
    (hg : (wr.alloc o).grownBy w' (Value.slice Ao out.length co).ownBlock) (hown : w'.ownsRow w.heap.size 3 1 (.slice A' (out.length + 1) c') (out.length + 1) (intsV (Hs.ints out) ++ [.int .i64 i])) : HoSt w w' (out ++ [i]) A' c' := by
  have hsz := h.bel.size
  refine ⟨?_, below_append (h.bel.alloc h.bel.size o) (h.own.alloc o) hg (Nat.le_refl _) (by simp; omega)⟩
  rw [Hs.ints_append, intsV_append, List.length_append]
  exact hown
theorem HoSt.drewN {w wr : World} {out : List Nat} {Ao : Option Addr} {co : Nat} (h : HoSt w wr out Ao co) (n : Nat) : HoSt w (wr.drewN n) out Ao co :=
  ⟨own_below (B := 0) h.own (below_drewN (Below.refl _ _) n), below_drewN h.bel n⟩
theorem HoSt.post {w wr : World} {out : List Nat} {Ao : Option Addr} {co : Nat} (h : HoSt w wr out Ao co) : BoPost w (Hs.ints out) (.returned (.slice Ao out.length co)) wr := by
  refine ⟨Ao, co, by rw [Hs.ints_length], ?_, SV.of_own h.own, h.bel⟩
  obtain ⟨A', c', e, hc', _⟩ := own_form h.own
  cases e
  rw [Hs.ints_length]; exact hc'

set_option maxRecDepth 100000 in
set_option maxHeartbeats 8000000 in
theorem headsOf_any (w : World) (A : Option Addr) (k : Nat) (l : List Hs.Cm) (hv : CV w A l) (hok : Hs.Ok l) :
    Calls Try.prog 34 #[.slice A l.length k] w (BoPost w (Hs.ints (Hs.heads l))) := by
  obtain ⟨i0, hi0, hz0, hz1, hz2⟩ := info_parts info3
  have hl := hok.len
  go_enter Try.func34, Try.ntmps34
  go_wp2_with fail
  go_loopw [3, 4] (fun ov iv wr => ∃ (i : Nat) (Ao : Option Addr) (co : Nat), i ≤ l.length ∧ ov = .slice Ao (headsTo l i).length co ∧ iv = .int .i64 i ∧ HoSt w wr (headsTo l i) Ao co) (fun _ iv _ => l.length - (intOf iv).toNat)
  case atStart => exact ⟨0, none, 0, Nat.zero_le _, rfl, rfl, World.ownsRow_nil _ _ _ _, Below.refl _ _⟩
  case round =>
    obtain ⟨i, Ao, co, hi, rfl, rfl, st⟩ := hrel
    obtain ⟨wo, rfl⟩ : ∃ wo : World, wo = wr := ⟨_, rfl⟩
    by_cases hil : i < l.length
    · have hil' : (i : Int) < l.length := by omega
      have hhl := headsTo_len l i
      have hsz := st.bel.size
      have HROW := Lib.hid (fun kk hk => (hv.below st.bel).row kk hk)
      have HMEM := Lib.hid (hok.par_mem i)
      have HSUC := Lib.hid (Hs.kid_succ l i)
      go_wp2_with fail
      go_loop [5, 6] (fun bv kv => ∃ kk : Nat, kk ≤ l.length ∧ bv = .bool (Hs.kid l i kk) ∧ kv = .int .i64 kk) (fun _ kv => l.length - (intOf kv).toNat)
      case atStart => exact ⟨0, Nat.zero_le _, rfl, rfl⟩
      case round =>
        obtain ⟨kk, hk, rfl, rfl⟩ := hrel
        by_cases hkl : kk < l.length
        · have hkl' : (kk : Int) < l.length := by omega
          obtain ⟨b, off, Ap, kp, e, hb, c0, c1, c2, c3, c4, hok', hip⟩ := HROW.out kk hkl
          subst e
          have hs := HSUC.out kk
          have hm := HMEM.out kk hkl
          have hpl := hok.par_len kk hkl
          have hha := has_any wo Ap kp l[kk].par (i : Int) hip (by omega)
          rw [hm] at hha
          have HHA := Lib.hid hha
          generalize Hs.kid l i kk = v1 at *
          generalize l[kk] = c at *
          clear hm hha
          cases v1
          · have HS := Lib.hid (show Hs.kid l i (kk + 1) = decide (i ∈ Hs.pars l kk) from by rw [hs]; simp)
            clear hs
            go_wp2_with (go_at_call 45; refine HHA.out.mono ?_; rintro e w' ⟨rfl, rfl⟩)
            go_round
            case rel => exact ⟨kk + 1, by omega, by rw [HS.out], by go_num⟩
            case measure => simp [intOf]; omega
          · have HS := Lib.hid (show Hs.kid l i (kk + 1) = true from by rw [hs]; simp)
            clear hs
            go_wp2_with fail
            go_round
            case rel => exact ⟨kk + 1, by omega, by rw [HS.out], by go_num⟩
            case measure => simp [intOf]; omega
        · obtain rfl : kk = l.length := by omega
          have hall := Hs.kid_all l i
          cases hkd : Hs.kid l i l.length with
          | false =>
            have H0 := Lib.hid (hall.1 hkd)
            have HY := Lib.hid (headsTo_yes l i H0.out)
            clear hkd hall
            go_wp2_with (first | (at_builtin; refine wpList_app1 _ rfl (.tmp 31) (.tmp 33) 37 rfl w.heap.size 3 i0 (.int .i64 0) 8 Try.underlying37 hi0 hz0 hz1 hz2 rfl Ao _ co _ rfl (st.own.alloc _) wo.heap.size _ (.int .i64 i) rfl (by simp [World.cell?_alloc_new]) rfl ?ha ?hb ?hc ?_))
            case ha => simp [maxLen]; omega
            case hb => omega
            case hc => omega
            intro A' c' w4 hown4 hg4 _
            have st4 := st.app _ hg4 hown4
            rw [← HY.out] at st4
            have hle := Lib.hid (show (headsTo l (i + 1)).length = (headsTo l i).length + 1 by rw [HY.out]; simp)
            clear hown4 hg4
            go_wp2_with fail
            go_roundw
            case rel => exact ⟨i + 1, _, _, by omega, by rw [hle.out], by go_num, st4⟩
            case measure => simp [intOf]; omega
          | true =>
            have HN := Lib.hid (headsTo_no l i (fun h => by rw [hall.2 h] at hkd; cases hkd))
            clear hkd hall
            go_wp2_with fail
            go_roundw
            case rel => exact ⟨i + 1, Ao, co, by omega, by rw [HN.out], by go_num, by rw [HN.out]; exact st⟩
            case measure => simp [intOf]; omega
    · obtain rfl : i = l.length := by omega
      go_wp2_with fail
      go_ret
      exact st.post
end Go.Proofs.Ytoohmkdgimkgoaa
