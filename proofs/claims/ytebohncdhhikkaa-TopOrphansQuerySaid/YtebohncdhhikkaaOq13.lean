/-
  Queries: walks of 'Arity', 'joined', 'Join', 'Wrap'.
-/
import Derived.Test.YtebohncdhhikkaaOq9
namespace Go.Proofs.Ytebohncdhhikkaa
open Go.RowKit Go.V
set_option linter.unusedVariables false
theorem arity_any (w : World) (k : Int) : Calls Try.prog 37 #[.int .i64 k] w fun e w' => e = .returned (.int .i64 (Oq.ar k : Nat)) ∧ w' = w := by
  by_cases h1 : 14 ≤ k
  · have H : Hid (Oq.ar k = 2) := Lib.hid (if_pos h1)
    go_enter Try.func37, Try.ntmps37
    go_wp2_with fail
    go_ret
    exact ⟨by rw [H.out]; rfl, rfl⟩
  · by_cases h2 : 7 ≤ k
    · have H : Hid (Oq.ar k = 1) := Lib.hid (by unfold Oq.ar; rw [if_neg h1, if_pos h2])
      go_enter Try.func37, Try.ntmps37
      go_wp2_with fail
      go_ret
      exact ⟨by rw [H.out]; rfl, rfl⟩
    · have H : Hid (Oq.ar k = 0) := Lib.hid (by unfold Oq.ar; rw [if_neg h1, if_neg h2])
      go_enter Try.func37, Try.ntmps37
      go_wp2_with fail
      go_ret
      exact ⟨by rw [H.out]; rfl, rfl⟩
/-- A slice of nodes that the call has made. -/
def OwnQ (w : World) (l : List Oq.N) (e : Ending) (w' : World) : Prop := ∃ A c, e = .returned (.slice A l.length c) ∧ w'.ownsRow w.heap.size 50 4 (.slice A l.length c) l.length (nsV l) ∧ Below w.heap.size w w'
theorem nsV_one (l : List Oq.N) : ∀ u ∈ nsV l, u.oneCell' = true := by
  intro u hu
  obtain ⟨a, _, h⟩ := List.mem_flatMap.1 hu
  simp only [nC, List.mem_cons, List.not_mem_nil, or_false] at h
  rcases h with rfl | rfl | rfl | rfl <;> rfl
theorem nsV_app (l m : List Oq.N) : nsV (l ++ m) = nsV l ++ nsV m := List.flatMap_append
theorem nsV_oneN (x : Oq.N) : nsV [x] = nC x := by simp
theorem nsV_len (l : List Oq.N) : (nsV l).length = l.length * 4 := Fl.len nC_len l
theorem info50 : (Try.prog.info? 50).map (fun i => (i.zero, i.size, i.bytes)) = some (some (.agg #[.int .i64 0, .int .i64 0, .int .i64 0, .int .i64 0]), 4, 32) := by kernel_rfl
set_option maxRecDepth 100000 in
set_option maxHeartbeats 16000000 in
theorem joined_any (w : World) (kk : Int) (A1 A2 : Option Addr) (k1 k2 : Nat) (l m : List Oq.N) (h1 : QV w A1 l) (h2 : QV w A2 m) (hl : l.length ≤ 40) (hm : m.length ≤ 40) (hp : ∀ x ∈ m, (-1000 ≤ x.left ∧ x.left ≤ 1000) ∧ (-1000 ≤ x.right ∧ x.right ≤ 1000)) :
    Calls Try.prog 26 #[.int .i64 kk, .slice A1 l.length k1, .slice A2 m.length k2] w (OwnQ w (Oq.joined kk l m)) := by
  have HN := Lib.hid (fun (w1 : World) (hb : Below w.heap.size w w1) (i : Nat) (hi : i < m.length) => h2.at_ hb i hi)
  have HS1 := Lib.hid (show SV w w.heap.size A1 (nsV l) from h1)
  have HONE := Lib.hid (nsV_one l)
  have HLEN := Lib.hid (nsV_len l)
  have HP := Lib.hid (fun (i : Nat) (hi : i < m.length) => hp m[i] (List.getElem_mem hi))
  have HA := Lib.hid (fun (w1 : World) (k : Int) => arity_any w1 k)
  have HT := Lib.hid (fun (i : Nat) (hi : i < m.length) => (show nsV (l ++ (m.take (i + 1)).map (Oq.shift l.length)) = nsV (l ++ (m.take i).map (Oq.shift l.length)) ++ nC (Oq.shift l.length m[i]) from by
    rw [List.take_succ_eq_append_getElem hi, List.map_append, ← List.append_assoc, nsV_app]; simp))
  have HTL := Lib.hid (fun (i : Nat) (hi : i ≤ m.length) => (show (l ++ (m.take i).map (Oq.shift l.length)).length = l.length + i by simp; omega))
  have HJ := Lib.hid (show nsV (Oq.joined kk l m) = nsV (l ++ (m.take m.length).map (Oq.shift l.length)) ++ nC ⟨kk, 0, (l.length : Int) - 1, (l.length : Int) + m.length - 1⟩ from by unfold Oq.joined; rw [List.take_length, nsV_app]; simp)
  have HJL := Lib.hid (Oq.joined_len kk l m)
  obtain ⟨i0, hi0, hz0, hz1, hz2⟩ := info_parts info50
  have h63 : 0 + l.length ≤ maxLen := by unfold maxLen; omega
  have hby : (0 + l.length) * 32 ≤ 140737488355328 := by omega
  clear h1 h2 hp
  go_enter Try.func26, Try.ntmps26
  go_wp2_with (first | (at_builtin; refine wpList_appN _ rfl (.const (.slice none 0 0)) (.tmp 10) 36 rfl w.heap.size 50 i0 _ 4 32 Try.underlying36 hi0 hz0 hz1 hz2 rfl (by decide) none 0 0 [] rfl (World.ownsRow_nil _ _ _ _) w.heap.size A1 l.length k1 (nsV l) rfl HLEN.out HS1.out HONE.out h63 hby (Nat.le_refl _) ?_))
  intro A' c' w1 hown1 hg1 hc1
  have hb1 : Below w.heap.size w w1 := (Below.refl _ _).grown hg1 (Nat.le_refl _) (fun g e => by cases e)
  have hown2 : w1.ownsRow w.heap.size 50 4 (.slice A' (l.length + 0) c') (l.length + 0) (nsV (l ++ (m.take 0).map (Oq.shift l.length))) := by
    simpa using hown1
  try simp only [Nat.zero_add]
  clear hg1 hc1 HONE HLEN HS1 h63 hby hown1
  go_wp2_with fail
  go_loopw [7, 8] (fun ov iv wr => ∃ (i : Nat) (Ao : Option Addr) (co : Nat), i ≤ m.length ∧ ov = .slice Ao (l.length + i) co ∧ iv = .int .i64 i ∧ Below w.heap.size w wr ∧ wr.ownsRow w.heap.size 50 4 (.slice Ao (l.length + i) co) (l.length + i) (nsV (l ++ (m.take i).map (Oq.shift l.length)))) (fun _ iv _ => m.length - (intOf iv).toNat)
  case atStart => exact ⟨0, A', c', Nat.zero_le _, rfl, rfl, hb1, hown2⟩
  case round =>
    clear hb1 hown2
    obtain ⟨i, Ao, co, hi, rfl, rfl, hbel, hown⟩ := hrel
    obtain ⟨wo, rfl⟩ : ∃ wo : World, wo = wr := ⟨_, rfl⟩
    have hsz := hbel.size
    by_cases hlt : i < m.length
    · have hlt' : (i : Int) < m.length := by omega
      obtain ⟨b, off, e, hbs, d0, d1, d2, d3⟩ := HN.out _ hbel i hlt
      subst e
      obtain ⟨⟨p1, p2⟩, p3, p4⟩ := HP.out i hlt
      have HTi := Lib.hid (HT.out i hlt)
      generalize nsV (l ++ (m.take i).map (Oq.shift l.length)) = xs at *
      generalize m[i] = x at *
      obtain ⟨kd, nu, le, ri⟩ := x
      simp only at p1 p2 p3 p4 d0 d1 d2 d3
      have HAk := Lib.hid (fun (w1 : World) => HA.out w1 kd)
      have har := Oq.ar_le kd
      have hsh : Hid (nC (Oq.shift l.length ⟨kd, nu, le, ri⟩) = [.int .i64 kd, .int .i64 nu, .int .i64 (if 1 ≤ Oq.ar kd then le + l.length else le), .int .i64 (if Oq.ar kd = 2 then ri + l.length else ri)]) := Lib.hid rfl
      have w1q : IntKind.i64.wrap (le + (l.length : Int)) = le + l.length := IntWalk.i64_in _ (by omega)
      have w2q : IntKind.i64.wrap (ri + (l.length : Int)) = ri + l.length := IntWalk.i64_in _ (by omega)
      have hbo : b < wo.heap.size := Nat.lt_of_lt_of_le hbs hsz
      have h63 : l.length + i + 1 ≤ maxLen := by unfold maxLen; omega
      have hby : (l.length + i + 1) * 32 ≤ 140737488355328 := by omega
      have hownA := fun o => hown.alloc o
      generalize Oq.ar kd = ar at *
      rcases (show ar = 0 ∨ ar = 1 ∨ ar = 2 by omega) with rfl | rfl | rfl
      · have HE : Hid (nsV (l ++ (m.take (i + 1)).map (Oq.shift l.length)) = xs ++ [.int .i64 kd, .int .i64 nu, .int .i64 le, .int .i64 ri]) := Lib.hid (by rw [HTi.out, hsh.out]; rfl)
        clear HTi hsh
        have hsv := SV.of_blk (blk_new1 wo (.cells #[.int .i64 kd, .int .i64 nu, .int .i64 le, .int .i64 ri] 50) 50 #[.int .i64 kd, .int .i64 nu, .int .i64 le, .int .i64 ri])
        have hown2 := (hown.alloc (.cells #[.int .i64 kd, .int .i64 nu, .int .i64 le, .int .i64 ri] 50)).alloc (.cells #[.int .i64 kd, .int .i64 nu, .int .i64 le, .int .i64 ri] 50)
        have hbel2 := (hbel.alloc hsz (.cells #[.int .i64 kd, .int .i64 nu, .int .i64 le, .int .i64 ri] 50)).alloc (by simp; omega) (.cells #[.int .i64 kd, .int .i64 nu, .int .i64 le, .int .i64 ri] 50)
        have hlo : w.heap.size ≤ ((wo.alloc (.cells #[.int .i64 kd, .int .i64 nu, .int .i64 le, .int .i64 ri] 50)).alloc (.cells #[.int .i64 kd, .int .i64 nu, .int .i64 le, .int .i64 ri] 50)).heap.size := by simp; omega
        have h1c : ∀ u ∈ ([.int .i64 kd, .int .i64 nu, .int .i64 le, .int .i64 ri] : List Value), u.oneCell' = true := by intro u hu; simp at hu; rcases hu with rfl | rfl | rfl | rfl <;> rfl
        go_wp2_with (first
          | (go_at_call 37; with_reducible refine (HAk.out _).mono ?_; rintro e w' ⟨rfl, hww⟩; rw [hww]; clear hww w')
          | (at_builtin; refine wpList_appN _ rfl (.tmp 42) (.tmp 44) 36 rfl w.heap.size 50 i0 _ 4 32 Try.underlying36 hi0 hz0 hz1 hz2 rfl (by decide) Ao (l.length + i) co xs rfl hown2 _ (some ⟨wo.heap.size + 1, 0, none⟩) 1 1 [.int .i64 kd, .int .i64 nu, .int .i64 le, .int .i64 ri] rfl rfl hsv h1c h63 hby hlo ?_))
        intro A3 c3 w3 hown3 hg3 hc3
        have hb3 : Below w.heap.size w w3 := hbel2.grown hg3 hlo (fun g e => (hown2.lt g e).1)
        rw [← HE.out] at hown3
        clear hg3 hown2 hown hownA hsv hbel hbel2 h1c HE
        go_wp2_with fail
        go_roundw
        case rel => exact ⟨i + 1, A3, c3, by omega, rfl, by go_num, hb3, hown3⟩
        case measure => simp [intOf]; omega
      · have HE : Hid (nsV (l ++ (m.take (i + 1)).map (Oq.shift l.length)) = xs ++ [.int .i64 kd, .int .i64 nu, .int .i64 (le + l.length), .int .i64 ri]) := Lib.hid (by rw [HTi.out, hsh.out]; rfl)
        clear HTi hsh
        have hsv := SV.of_blk (blk_new1 wo (.cells #[.int .i64 kd, .int .i64 nu, .int .i64 (le + l.length), .int .i64 ri] 50) 50 #[.int .i64 kd, .int .i64 nu, .int .i64 (le + l.length), .int .i64 ri])
        have hown2 := (hown.alloc (.cells #[.int .i64 kd, .int .i64 nu, .int .i64 (le + l.length), .int .i64 ri] 50)).alloc (.cells #[.int .i64 kd, .int .i64 nu, .int .i64 (le + l.length), .int .i64 ri] 50)
        have hbel2 := (hbel.alloc hsz (.cells #[.int .i64 kd, .int .i64 nu, .int .i64 (le + l.length), .int .i64 ri] 50)).alloc (by simp; omega) (.cells #[.int .i64 kd, .int .i64 nu, .int .i64 (le + l.length), .int .i64 ri] 50)
        have hlo : w.heap.size ≤ ((wo.alloc (.cells #[.int .i64 kd, .int .i64 nu, .int .i64 (le + l.length), .int .i64 ri] 50)).alloc (.cells #[.int .i64 kd, .int .i64 nu, .int .i64 (le + l.length), .int .i64 ri] 50)).heap.size := by simp; omega
        have h1c : ∀ u ∈ ([.int .i64 kd, .int .i64 nu, .int .i64 (le + l.length), .int .i64 ri] : List Value), u.oneCell' = true := by intro u hu; simp at hu; rcases hu with rfl | rfl | rfl | rfl <;> rfl
        go_wp2_with (first
          | (go_at_call 37; with_reducible refine (HAk.out _).mono ?_; rintro e w' ⟨rfl, hww⟩; rw [hww]; clear hww w')
          | (at_builtin; refine wpList_appN _ rfl (.tmp 42) (.tmp 44) 36 rfl w.heap.size 50 i0 _ 4 32 Try.underlying36 hi0 hz0 hz1 hz2 rfl (by decide) Ao (l.length + i) co xs rfl hown2 _ (some ⟨wo.heap.size + 1, 0, none⟩) 1 1 [.int .i64 kd, .int .i64 nu, .int .i64 (le + l.length), .int .i64 ri] rfl rfl hsv h1c h63 hby hlo ?_))
        intro A3 c3 w3 hown3 hg3 hc3
        have hb3 : Below w.heap.size w w3 := hbel2.grown hg3 hlo (fun g e => (hown2.lt g e).1)
        rw [← HE.out] at hown3
        clear hg3 hown2 hown hownA hsv hbel hbel2 h1c HE
        go_wp2_with fail
        go_roundw
        case rel => exact ⟨i + 1, A3, c3, by omega, rfl, by go_num, hb3, hown3⟩
        case measure => simp [intOf]; omega
      · have HE : Hid (nsV (l ++ (m.take (i + 1)).map (Oq.shift l.length)) = xs ++ [.int .i64 kd, .int .i64 nu, .int .i64 (le + l.length), .int .i64 (ri + l.length)]) := Lib.hid (by rw [HTi.out, hsh.out]; rfl)
        clear HTi hsh
        have hsv := SV.of_blk (blk_new1 wo (.cells #[.int .i64 kd, .int .i64 nu, .int .i64 (le + l.length), .int .i64 (ri + l.length)] 50) 50 #[.int .i64 kd, .int .i64 nu, .int .i64 (le + l.length), .int .i64 (ri + l.length)])
        have hown2 := (hown.alloc (.cells #[.int .i64 kd, .int .i64 nu, .int .i64 (le + l.length), .int .i64 (ri + l.length)] 50)).alloc (.cells #[.int .i64 kd, .int .i64 nu, .int .i64 (le + l.length), .int .i64 (ri + l.length)] 50)
        have hbel2 := (hbel.alloc hsz (.cells #[.int .i64 kd, .int .i64 nu, .int .i64 (le + l.length), .int .i64 (ri + l.length)] 50)).alloc (by simp; omega) (.cells #[.int .i64 kd, .int .i64 nu, .int .i64 (le + l.length), .int .i64 (ri + l.length)] 50)
        have hlo : w.heap.size ≤ ((wo.alloc (.cells #[.int .i64 kd, .int .i64 nu, .int .i64 (le + l.length), .int .i64 (ri + l.length)] 50)).alloc (.cells #[.int .i64 kd, .int .i64 nu, .int .i64 (le + l.length), .int .i64 (ri + l.length)] 50)).heap.size := by simp; omega
        have h1c : ∀ u ∈ ([.int .i64 kd, .int .i64 nu, .int .i64 (le + l.length), .int .i64 (ri + l.length)] : List Value), u.oneCell' = true := by intro u hu; simp at hu; rcases hu with rfl | rfl | rfl | rfl <;> rfl
        go_wp2_with (first
          | (go_at_call 37; with_reducible refine (HAk.out _).mono ?_; rintro e w' ⟨rfl, hww⟩; rw [hww]; clear hww w')
          | (at_builtin; refine wpList_appN _ rfl (.tmp 42) (.tmp 44) 36 rfl w.heap.size 50 i0 _ 4 32 Try.underlying36 hi0 hz0 hz1 hz2 rfl (by decide) Ao (l.length + i) co xs rfl hown2 _ (some ⟨wo.heap.size + 1, 0, none⟩) 1 1 [.int .i64 kd, .int .i64 nu, .int .i64 (le + l.length), .int .i64 (ri + l.length)] rfl rfl hsv h1c h63 hby hlo ?_))
        intro A3 c3 w3 hown3 hg3 hc3
        have hb3 : Below w.heap.size w w3 := hbel2.grown hg3 hlo (fun g e => (hown2.lt g e).1)
        rw [← HE.out] at hown3
        clear hg3 hown2 hown hownA hsv hbel hbel2 h1c HE
        go_wp2_with fail
        go_roundw
        case rel => exact ⟨i + 1, A3, c3, by omega, rfl, by go_num, hb3, hown3⟩
        case measure => simp [intOf]; omega
    · obtain rfl : i = m.length := by omega
      have hF := Lib.hid (fun (W : World) (A9 : Option Addr) (c9 : Nat) (h9 : W.ownsRow w.heap.size 50 4 (.slice A9 (l.length + m.length + 1) c9) (l.length + m.length + 1) (nsV (l ++ (m.take m.length).map (Oq.shift l.length)) ++ [.int .i64 kk, .int .i64 0, .int .i64 ((l.length : Int) - 1), .int .i64 ((l.length : Int) + m.length - 1)])) (hb9 : Below w.heap.size w W) => (show OwnQ w (Oq.joined kk l m) (.returned (.slice A9 (l.length + m.length + 1) c9)) W from ⟨A9, c9, by rw [HJL.out], by rw [HJ.out, HJL.out]; exact h9, hb9⟩))
      generalize nsV (l ++ (m.take m.length).map (Oq.shift l.length)) = xs at *
      have w5 : IntKind.i64.wrap ((l.length : Int) - 1) = (l.length : Int) - 1 := IntWalk.i64_in _ (by omega)
      have w6 : IntKind.i64.wrap ((l.length : Int) + (m.length : Int)) = (l.length : Int) + m.length := IntWalk.i64_in _ (by omega)
      have w7 : IntKind.i64.wrap ((l.length : Int) + (m.length : Int) - 1) = (l.length : Int) + m.length - 1 := IntWalk.i64_in _ (by omega)
      have h63 : l.length + m.length + 1 ≤ maxLen := by unfold maxLen; omega
      have hby : (l.length + m.length + 1) * 32 ≤ 140737488355328 := by omega
      have hsv := SV.of_blk (Blk.new wo 50 #[.int .i64 kk, .int .i64 0, .int .i64 ((l.length : Int) - 1), .int .i64 ((l.length : Int) + m.length - 1)])
      have hown2 := hown.alloc (.cells #[.int .i64 kk, .int .i64 0, .int .i64 ((l.length : Int) - 1), .int .i64 ((l.length : Int) + m.length - 1)] 50)
      have hbel2 := hbel.alloc hsz (.cells #[.int .i64 kk, .int .i64 0, .int .i64 ((l.length : Int) - 1), .int .i64 ((l.length : Int) + m.length - 1)] 50)
      have hlo : w.heap.size ≤ (wo.alloc (.cells #[.int .i64 kk, .int .i64 0, .int .i64 ((l.length : Int) - 1), .int .i64 ((l.length : Int) + m.length - 1)] 50)).heap.size := by simp; omega
      have h1c : ∀ u ∈ ([.int .i64 kk, .int .i64 0, .int .i64 ((l.length : Int) - 1), .int .i64 ((l.length : Int) + m.length - 1)] : List Value), u.oneCell' = true := by intro u hu; simp at hu; rcases hu with rfl | rfl | rfl | rfl <;> rfl
      go_wp2_with (first
        | (at_builtin; refine wpList_appN _ rfl (.tmp 46) (.tmp 58) 36 rfl w.heap.size 50 i0 _ 4 32 Try.underlying36 hi0 hz0 hz1 hz2 rfl (by decide) Ao (l.length + m.length) co xs rfl hown2 _ (some ⟨wo.heap.size, 0, none⟩) 1 1 [.int .i64 kk, .int .i64 0, .int .i64 ((l.length : Int) - 1), .int .i64 ((l.length : Int) + m.length - 1)] rfl rfl hsv h1c h63 hby hlo ?_))
      intro A3 c3 w3 hown3 hg3 hc3
      have hb3 : Below w.heap.size w w3 := hbel2.grown hg3 hlo (fun g e => (hown2.lt g e).1)
      have HP3 := Lib.hid (hF.out w3 A3 c3 hown3 hb3)
      clear hg3 hown2 hown hsv hbel hbel2 h1c hown3 hF
      go_wp2_with fail
      go_ret
      exact HP3.out
end Go.Proofs.Ytebohncdhhikkaa
