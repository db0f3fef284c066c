/-
  Objects: walks of the reference's 'At' and 'Stores'.
-/
import Derived.Test.YtiilhnfdlpgllaaOb3
import Derived.Test.YtiilhnfdlpgllaaOb2
namespace Ob
/-- The place of a digest, or -1. -/
def atFrom (s : List S) (d : Int) (i : Nat) : Int := if i < s.length then if (it s i).dig = d then (i : Int) else atFrom s d (i + 1) else -1
termination_by s.length - i
theorem atFrom_end (s : List S) (d : Int) (i : Nat) (h : s.length ≤ i) : atFrom s d i = -1 := by rw [atFrom, if_neg (by omega)]
theorem atFrom_hit (s : List S) (d : Int) (i : Nat) (h : i < s.length) (hc : (it s i).dig = d) : atFrom s d i = (i : Int) := by rw [atFrom, if_pos h, if_pos hc]
theorem atFrom_next (s : List S) (d : Int) (i : Nat) (h : i < s.length) (hc : (it s i).dig ≠ d) : atFrom s d i = atFrom s d (i + 1) := by rw [atFrom, if_pos h, if_neg hc]
theorem atFrom_no (s : List S) (d : Int) (h : ∀ k, k < s.length → (it s k).dig ≠ d) : ∀ n i, s.length - i ≤ n → atFrom s d i = -1
  | n, i, hn => by
    by_cases hi : i < s.length
    · obtain _ | n := n
      · omega
      · rw [atFrom_next s d i hi (h i hi)]; exact atFrom_no s d h n (i + 1) (by omega)
    · exact atFrom_end s d i (by omega)
theorem atFrom_yes (s : List S) (d : Int) (p : Nat) (hp : p < s.length) (hd : (it s p).dig = d) (h : ∀ k, k < p → (it s k).dig ≠ d) : ∀ n i, p - i ≤ n → i ≤ p → atFrom s d i = (p : Int)
  | n, i, hn, hi => by
    by_cases hip : i = p
    · subst hip; exact atFrom_hit s d i hp hd
    · obtain _ | n := n
      · omega
      · rw [atFrom_next s d i (by omega) (h i (by omega))]; exact atFrom_yes s d p hp hd h n (i + 1) (by omega) (by omega)
/-- In a store whose digests grow. -/
theorem at_sorted {s : List S} (h : Sorted s) (d : Int) : atFrom s d 0 = if fnd s d then ((lb s d : Nat) : Int) else -1 := by
  by_cases hf : fnd s d = true
  · rw [if_pos hf]
    have h1 : lb s d < s.length ∧ (it s (lb s d)).dig = d := by unfold fnd at hf; rw [Bool.and_eq_true] at hf; simpa using hf
    exact atFrom_yes s d _ h1.1 h1.2 (fun k hk => by have := lb_lt h d k hk; omega) _ 0 (Nat.le_refl _) (Nat.zero_le _)
  · rw [if_neg hf]
    refine atFrom_no s d (fun k hk => ?_) _ 0 (Nat.le_refl _)
    intro e
    have hlb : lb s d = k := by
      apply lb_eq s d k (by omega)
      · intro j hj; have := h.mono hj hk; omega
      · intro j hj hjl; have := h.le hj hjl; omega
    apply hf
    unfold fnd
    rw [hlb, decide_eq_true hk, decide_eq_true e]; rfl
end Ob
namespace Go.Proofs.Ytiilhnfdlpgllaa
open Go.RowKit Go.V
set_option linter.unusedVariables false

set_option maxRecDepth 100000 in
set_option maxHeartbeats 4000000 in
theorem at_any (w : World) (A : Option Addr) (k : Nat) (s : List Ob.S) (d : Int) (hv : StV w Free A s) (hl : s.length ≤ 1000000) :
    Calls Try.prog 27 #[stV A s.length k, .int .i64 d] w fun e w' => e = .returned (.int .i64 (Ob.atFrom s d 0)) ∧ Below w.heap.size w w' := by
  have HROW := Lib.hid (fun i hi => (hv.keep (Keeps.alloc w Free (.cells #[.slice A s.length k] 24))).row i hi)
  clear hv
  go_enter Try.func27, Try.ntmps27
  go_wp2_with fail
  go_loop [5] (fun v => ∃ i : Nat, i ≤ s.length ∧ v = .int .i64 i ∧ Hid (Ob.atFrom s d 0 = Ob.atFrom s d i)) (fun v => s.length - (intOf v).toNat)
  case atStart => exact ⟨0, Nat.zero_le _, rfl, Lib.hid rfl⟩
  case round =>
    obtain ⟨i, hi, rfl, H⟩ := hrel
    by_cases hlt : i < s.length
    · have hlt' : (i : Int) < s.length := by omega
      obtain ⟨b, off, Al, kl, Ad, kd, e, hb, _, d0, d1, d2, d3, hx, hob⟩ := HROW.out i hlt
      subst e
      clear d1 d2 d3 hx hob
      by_cases he : (Ob.it s i).dig = d
      · have HR := Lib.hid (H.out.trans (Ob.atFrom_hit s d i hlt he))
        have he' : ((Ob.it s i).dig == d) = true := by simpa using he
        clear he
        generalize Ob.it s i = x at *
        go_wp2_with fail
        go_ret
        exact ⟨by rw [HR.out]; rfl, below_alloc1 _ _⟩
      · have HR := Lib.hid (H.out.trans (Ob.atFrom_next s d i hlt he))
        have he' : ((Ob.it s i).dig == d) = false := by simpa using he
        clear he
        generalize Ob.it s i = x at *
        go_wp2_with fail
        go_round
        case rel => exact ⟨i + 1, by omega, by go_num, HR⟩
        case measure => simp [intOf]; omega
    · obtain rfl : i = s.length := by omega
      have HR := Lib.hid (H.out.trans (Ob.atFrom_end s d _ (Nat.le_refl _)))
      go_wp2_with fail
      go_ret
      exact ⟨by rw [HR.out]; rfl, below_alloc1 _ _⟩
/-- The state of the loop of 'Stores'. -/
structure SsSt (w wr : World) (A1 A2 : Option Addr) (n k1 k2 : Nat) : Prop where
  b1 : Blk wr w.heap.size 24 #[.slice A1 n k1]
  b2 : Blk wr (w.heap.size + 1) 24 #[.slice A2 n k2]
  bel : Below w.heap.size w wr
theorem SsSt.below {w wr w' : World} {A1 A2 : Option Addr} {n k1 k2 : Nat} (h : SsSt w wr A1 A2 n k1 k2) (hb : Below wr.heap.size wr w') : SsSt w w' A1 A2 n k1 k2 :=
  ⟨h.b1.below hb h.b1.lt, h.b2.below hb h.b2.lt, h.bel.trans (hb.mono h.bel.size)⟩
set_option maxRecDepth 100000 in
set_option maxHeartbeats 8000000 in
/-- 'Stores' of two readings of one list. -/
theorem stores_any (w : World) (A1 A2 : Option Addr) (k1 k2 : Nat) (s : List Ob.S) (h1 : StV w Free A1 s) (h2 : StV w Free A2 s) (hl : s.length ≤ 9223372036854775807) :
    Calls Try.prog 22 #[stV A1 s.length k1, stV A2 s.length k2] w fun e w' => e = .returned (.bool true) ∧ Below w.heap.size w w' := by
  have HR1 := Lib.hid (fun (w' : World) (hb : Below w.heap.size w w') i hi => (h1.keep (free_below hb)).row (w := w') i hi)
  have HR2 := Lib.hid (fun (w' : World) (hb : Below w.heap.size w w') i hi => (h2.keep (free_below hb)).row (w := w') i hi)
  clear h1 h2
  have st0 : SsSt w ((w.alloc (.cells #[.slice A1 s.length k1] 24)).alloc (.cells #[.slice A2 s.length k2] 24)) A1 A2 s.length k1 k2 := ⟨(Blk.new _ _ _).alloc _, blk_new1 _ _ _ _, below_alloc2 _ _ _⟩
  go_enter Try.func22, Try.ntmps22
  go_wp2_with fail
  go_loopw [5] (fun v wr => ∃ i : Nat, i ≤ s.length ∧ v = .int .i64 i ∧ SsSt w wr A1 A2 s.length k1 k2) (fun v _ => s.length - (intOf v).toNat)
  case atStart => exact ⟨0, Nat.zero_le _, rfl, st0⟩
  case round =>
    obtain ⟨i, hi, rfl, st⟩ := hrel
    obtain ⟨wo, rfl⟩ : ∃ wo : World, wo = wr := ⟨_, rfl⟩
    clear st0
    have hsz := st.bel.size
    have p1 := st.b1.cell 0
    have p2 := st.b2.cell 0
    have l1 := st.b1.lt
    have l2 := st.b2.lt
    simp only [List.getElem?_toArray, List.getElem?_cons_zero] at p1 p2
    by_cases hlt : i < s.length
    · have hlt' : (i : Int) < s.length := by omega
      have hi0 : (0 : Int) ≤ i := by omega
      obtain ⟨b, off, Al, kl, Ad, kd, e, hb, _, d0, d1, d2, d3, hx, hob⟩ := HR1.out _ st.bel i hlt
      subst e
      obtain ⟨b', off', Al', kl', Ad', kd', e, hb', _, d0', d1', d2', d3', hx', hob'⟩ := HR2.out _ st.bel i hlt
      subst e
      have hk0 : Below wo.heap.size wo wo.drew := below_drew' (Below.refl _ _)
      have HOB := Lib.hid (objects_any wo.drew (Ob.it s i).ob (Ob.it s i).ob Al kl Ad kd Al' kl' Ad' kd' (hob.keep (free_below hk0)) (hob'.keep (free_below hk0)))
      rw [(eqO_iff _ _).2 rfl] at HOB
      clear hob hob' hx hx'
      generalize Ob.it s i = x at *
      obtain ⟨xd, kk, ls, da⟩ := x
      simp only at *
      have hne : (xd != xd) = false := by simp
      have HK : Hid (∀ w6 : World, Below wo.heap.size wo w6 → w6.cell? ⟨w.heap.size, 0, none⟩ = some (.slice (some ⟨b, off, none⟩) s.length k1) ∧ w6.cell? ⟨w.heap.size + 1, 0, none⟩ = some (.slice (some ⟨b', off', none⟩) s.length k2) ∧
          w6.cell? ⟨b, off + i * 4, none⟩ = some (.int .i64 xd) ∧ w6.cell? ⟨b, off + i * 4 + 1, none⟩ = some (.int .i64 kk) ∧ w6.cell? ⟨b, off + i * 4 + 1 + 1, none⟩ = some (.slice Al ls.length kl) ∧ w6.cell? ⟨b, off + i * 4 + 1 + 2, none⟩ = some (.slice Ad da.length kd) ∧
          w6.cell? ⟨b', off' + i * 4, none⟩ = some (.int .i64 xd) ∧ w6.cell? ⟨b', off' + i * 4 + 1, none⟩ = some (.int .i64 kk) ∧ w6.cell? ⟨b', off' + i * 4 + 1 + 1, none⟩ = some (.slice Al' ls.length kl') ∧ w6.cell? ⟨b', off' + i * 4 + 1 + 2, none⟩ = some (.slice Ad' da.length kd')) := Lib.hid fun w6 h6 =>
        ⟨(h6.cell (p := ⟨_, _, none⟩) l1).trans p1, (h6.cell (p := ⟨_, _, none⟩) l2).trans p2, (h6.cell (p := ⟨_, _, none⟩) hb).trans d0, (h6.cell (p := ⟨_, _, none⟩) hb).trans d1, (h6.cell (p := ⟨_, _, none⟩) hb).trans d2, (h6.cell (p := ⟨_, _, none⟩) hb).trans d3,
          (h6.cell (p := ⟨_, _, none⟩) hb').trans d0', (h6.cell (p := ⟨_, _, none⟩) hb').trans d1', (h6.cell (p := ⟨_, _, none⟩) hb').trans d2', (h6.cell (p := ⟨_, _, none⟩) hb').trans d3'⟩
      clear d0 d1 d2 d3 d0' d1' d2' d3'
      go_wp2_with fail
      go_region_held3 (fun w6 => w6.cell? ⟨w.heap.size, 0, none⟩ = some (.slice (some ⟨b, off, none⟩) s.length k1) ∧ w6.cell? ⟨w.heap.size + 1, 0, none⟩ = some (.slice (some ⟨b', off', none⟩) s.length k2) ∧
          w6.cell? ⟨b, off + i * 4, none⟩ = some (.int .i64 xd) ∧ w6.cell? ⟨b, off + i * 4 + 1, none⟩ = some (.int .i64 kk) ∧ w6.cell? ⟨b, off + i * 4 + 1 + 1, none⟩ = some (.slice Al ls.length kl) ∧ w6.cell? ⟨b, off + i * 4 + 1 + 2, none⟩ = some (.slice Ad da.length kd) ∧
          w6.cell? ⟨b', off' + i * 4, none⟩ = some (.int .i64 xd) ∧ w6.cell? ⟨b', off' + i * 4 + 1, none⟩ = some (.int .i64 kk) ∧ w6.cell? ⟨b', off' + i * 4 + 1 + 1, none⟩ = some (.slice Al' ls.length kl') ∧ w6.cell? ⟨b', off' + i * 4 + 1 + 2, none⟩ = some (.slice Ad' da.length kd'))
        (first | exact HK.out _ hk0 | exact HK.out _ hk3)
        (first | (go_at_call 24; (with_reducible refine HOB.out.mono ?_); rintro e w3 ⟨rfl, hb3⟩; have hk3 : Below wo.heap.size wo w3 := hk0.trans (hb3.mono hk0.size)))
      have st3 := st.below hk3
      clear hb3 HK hk0 hk3 HOB st
      go_wp2_with fail
      go_roundw
      case rel => exact ⟨i + 1, by omega, by go_num, st3⟩
      case measure => simp [intOf]; omega
    · obtain rfl : i = s.length := by omega
      go_wp2_with fail
      go_ret
      exact ⟨rfl, st.bel⟩
end Go.Proofs.Ytiilhnfdlpgllaa
