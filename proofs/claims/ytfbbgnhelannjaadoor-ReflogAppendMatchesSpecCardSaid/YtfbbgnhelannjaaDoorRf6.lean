/-
  References: walk of the reference's 'components'.
-/
import Derived.Test.YtfbbgnhelannjaaDoorRf5
namespace Go.Proofs.YtfbbgnhelannjaaDoor
open Go.RowKit Go.V Go.Shelf Go.Lib
set_option linter.unusedVariables false

theorem info9 : (Tryd.prog.info? 9).map (fun i => (i.zero, i.size, i.bytes)) = some (some (.string .empty), 1, 16) := by kernel_rfl
theorem info_parts {o : Option TypeInfo} {z : Value} {a b : Nat} (h : o.map (fun i => (i.zero, i.size, i.bytes)) = some (some z, a, b)) : ∃ i, o = some i ∧ i.zero = some z ∧ i.size = a ∧ i.bytes = b := by
  obtain ⟨i, hi, he⟩ := Option.map_eq_some_iff.1 h
  injection he with h1 h2
  injection h2 with h2 h3
  exact ⟨i, hi, h1, h2, h3⟩
theorem extract_one (l : List UInt8) (i : Nat) (hi : i < l.length) : (⟨l.toArray⟩ : ByteArray).extract i (i + 1) = ⟨#[l[i]]⟩ := by
  apply ByteArray.ext
  rw [ByteArray.data_extract]
  simp only [List.extract_toArray, List.extract_eq_take_drop, Nat.add_sub_cancel_left]
  rw [List.drop_eq_getElem_cons hi]
  rfl
/-- A list of strings of the call's own. -/
def SlPost (w : World) (l : List (List UInt8)) (e : Ending) (w' : World) : Prop :=
  ∃ A c, e = .returned (.slice A l.length c) ∧ l.length ≤ c ∧ SA w' (Under w.heap.size) A (ssV l) ∧ Below w.heap.size w w'
set_option maxRecDepth 100000 in
set_option maxHeartbeats 8000000 in
theorem components_any (w : World) (l : List UInt8) (hl : l.length ≤ 1000000000) : Calls Tryd.prog 43 #[strV l] w (SlPost w (Rf.comps l)) := by
  obtain ⟨i0, hi0, hz0, hz1, hz2⟩ := info_parts info9
  have hsz : (⟨l.toArray⟩ : ByteArray).size = l.length := by simp [ByteArray.size]
  go_enter Tryd.func43, Tryd.ntmps43
  go_wp2_with fail
  go_loopw [3, 4, 5] (fun ov nv iv wr => ∃ (i : Nat) (pre : List (List UInt8)) (cur : List UInt8) (A : Option Addr) (c : Nat), i ≤ l.length ∧ iv = .int .i64 i ∧ nv = strV cur ∧ ov = .slice A pre.length c ∧ Hid (Rf.comps l = pre ++ Rf.cmp cur (l.drop i)) ∧ cur.length ≤ i ∧ pre.length ≤ i ∧ wr.ownsRow w.heap.size 9 1 (.slice A pre.length c) pre.length (ssV pre) ∧ Below w.heap.size w wr) (fun _ _ iv _ => l.length - (intOf iv).toNat)
  case atStart => exact ⟨0, [], [], none, 0, Nat.zero_le _, rfl, rfl, rfl, Lib.hid (by simp [Rf.comps]), Nat.le_refl _, Nat.le_refl _, World.ownsRow_nil _ _ _ _, Below.refl _ _⟩
  case round =>
    obtain ⟨i, pre, cur, A, c, hi, rfl, rfl, rfl, H, hcl, hpl, hown, hbw⟩ := hrel
    have hsz2 : (⟨cur.toArray⟩ : ByteArray).size = cur.length := by simp [ByteArray.size]
    by_cases hlt : i < l.length
    · have hlt' : (i : Int) < l.length := by omega
      have hget : ∀ h, (⟨l.toArray⟩ : ByteArray)[i]'h = l[i] := fun _ => rfl
      have hw1 : IntKind.i64.wrap ((i : Int) + 1) = (i : Int) + 1 := by rw [IntKind.wrap_i64]; omega
      have htn : ((i : Int) + 1).toNat = i + 1 := by omega
      have hext := extract_one l i hlt
      have HD := Lib.hid (List.drop_eq_getElem_cons hlt)
      have hadd : (⟨cur.toArray⟩ : ByteArray) ++ ⟨#[l[i]]⟩ = ⟨(cur ++ [l[i]]).toArray⟩ := str_add cur [l[i]]
      have hs1 : ∀ b : UInt8, (⟨#[b]⟩ : ByteArray).size = 1 := fun _ => rfl
      by_cases hb : l[i] = 47
      · have H2 := Lib.hid (show Rf.comps l = (pre ++ [cur]) ++ Rf.cmp [] (l.drop (i + 1)) from by rw [H.out, HD.out, Rf.cmp, if_pos hb]; simp)
        have hbi : ((l[i].toNat : Int) == 47) = true := by rw [hb]; rfl
        clear hb HD H hadd hext
        have hbx := (below_alloc1 wr (.cells #[strV cur] 9))
        have hu : (wr.alloc (.cells #[strV cur] 9)).cell? ⟨wr.heap.size, 0, none⟩ = some (strV cur) := ((Blk.new wr 9 #[strV cur]).cell 0).trans rfl
        go_wp2_with (first | (at_builtin; refine wpList_app1 _ rfl (.tmp 16) (.tmp 18) 75 rfl w.heap.size 9 i0 (.string .empty) 16 Tryd.underlying75 hi0 hz0 hz1 hz2 rfl A pre.length c (ssV pre) rfl (hown.alloc _) wr.heap.size 1 (strV cur) rfl hu rfl (by unfold maxLen; omega) (by omega) (Nat.le_trans hbw.size (by simp)) ?_))
        intro A' c' w' hown' hg' hc'
        have hb' := below_append (hbw.alloc hbw.size _) (hown.alloc _) hg' (Nat.le_refl _) (Nat.le_trans hbw.size (by simp))
        clear hg' hown hu hbx
        go_wp2_with fail
        go_roundw
        case rel => exact ⟨i + 1, pre ++ [cur], [], A', c', by omega, by go_num, rfl, by simp, H2, by simp, by simp; omega, by simpa [sC] using hown', hb'⟩
        case measure => simp [intOf]; omega
      · have H2 := Lib.hid (show Rf.comps l = pre ++ Rf.cmp (cur ++ [l[i]]) (l.drop (i + 1)) from by rw [H.out, HD.out, Rf.cmp, if_neg hb])
        have hbi : ((l[i].toNat : Int) == 47) = false := by
          have : l[i].toNat ≠ 47 := fun e => hb (by rw [← UInt8.toNat_inj]; exact e)
          simp; omega
        clear hb HD H
        go_wp2_with fail
        go_roundw
        case rel => exact ⟨i + 1, pre, cur ++ [l[i]], A, c, by omega, by go_num, rfl, rfl, H2, by simp; omega, by omega, hown, hbw⟩
        case measure => simp [intOf]; omega
    · obtain rfl : i = l.length := by omega
      have HE := Lib.hid (show Rf.comps l = pre ++ [cur] from by rw [H.out, List.drop_length]; rfl)
      clear H
      have hu : (wr.alloc (.cells #[strV cur] 9)).cell? ⟨wr.heap.size, 0, none⟩ = some (strV cur) := ((Blk.new wr 9 #[strV cur]).cell 0).trans rfl
      go_wp2_with (first | (at_builtin; refine wpList_app1 _ rfl (.tmp 27) (.tmp 29) 75 rfl w.heap.size 9 i0 (.string .empty) 16 Tryd.underlying75 hi0 hz0 hz1 hz2 rfl A pre.length c (ssV pre) rfl (hown.alloc _) wr.heap.size 1 (strV cur) rfl hu rfl (by unfold maxLen; omega) (by omega) (Nat.le_trans hbw.size (by simp)) ?_))
      intro A' c' w' hown' hg' hc'
      have hb' := below_append (hbw.alloc hbw.size _) (hown.alloc _) hg' (Nat.le_refl _) (Nat.le_trans hbw.size (by simp))
      clear hg' hown hu
      have HF : Hid (SlPost w (Rf.comps l) (.returned (.slice A' (pre.length + 1) c')) w') := Lib.hid (by
        rw [HE.out]
        refine ⟨A', c', by simp, by simpa using hc', ?_, hb'⟩
        have := SA.of_own (X := Under w.heap.size) hown' (fun b hb => hb)
        simpa [sC] using this)
      clear hown' hb'
      generalize SlPost w (Rf.comps l) = R at *
      go_wp2_with fail
      exact HF.out
end Go.Proofs.YtfbbgnhelannjaaDoor
