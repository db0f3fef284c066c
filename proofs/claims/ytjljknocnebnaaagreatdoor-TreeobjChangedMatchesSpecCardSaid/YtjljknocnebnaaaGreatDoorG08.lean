/-
  File trees in stores: one step of writing, and what a digest finds. No program in sight.
  File trees: walk of 'terminated'.
  File trees: walk of 'Cut'.
  File trees: walk of 'split'.
  Views, eleventh part: append upon a slice whose spare cells are there and are not frozen.
  Views, twelfth part: a string as bytes of a new block.
  File trees: walk of 'LinesBlob'.
  File trees: walk of 'Contents'.
  File trees: walk of 'Parse'.
  File trees: an object that is being made: its box, and two rows of its own.
-/
import Derived.Test.YtjljknocnebnaaaGreatDoorG05
import Derived.Test.YtjljknocnebnaaaGreatDoorG06
import Derived.Test.YtjljknocnebnaaaGreatDoorG07
import Derived.Test.YtjljknocnebnaaaGreatDoorG02
import Derived.Lib.AppendStr
import Derived.Lib.SplitLaws
import Derived.Test.YtjljknocnebnaaaGreatDoorG01
import Derived.Deep.Upon
import Derived.Laws.IdiomStrings
import Derived.OwnWalk
namespace Ob
/-- 'Put' answers as 'PutObject' says. -/
theorem put_put {s : List S} {o : O} (hs : StOk s) (ho : Ok o) : ((putR s o).2.2 = 0 ∧ putF s o = ((putR s o).1, (putR s o).2.1, (0, 0))) ∨ ((putR s o).2.2 ≠ 0 ∧ putR s o = ([], 0, (putR s o).2.2) ∧ putF s o = ([], 0, ((putR s o).2.2, -1))) := by
  have hl := hs.len
  unfold putF
  rw [hs.f, ho.f, if_neg (by simp), if_neg (by simp)]
  by_cases hf : fnd s (dig o) = true
  · have h1 : addOk s (dig o) o = Go.Proofs.YtjljknocnebnaaaGreatDoor.eqO (it s (lb s (dig o))).ob o := by unfold addOk; rw [if_pos hf]
    have h2 : addS s (dig o) o = s := by unfold addS; rw [if_pos hf]
    by_cases he : Go.Proofs.YtjljknocnebnaaaGreatDoor.eqO (it s (lb s (dig o))).ob o = true
    · have hr : putR s o = (s, ((dig o : Nat) : Int), 0) := by unfold putR; rw [if_pos hf, if_pos he]
      rw [h1, he, h2, hr, if_neg (by simp), if_neg (by omega)]
      exact .inl ⟨rfl, rfl⟩
    · have hr : putR s o = ([], 0, 19) := by unfold putR; rw [if_pos hf, if_neg he]
      rw [h1, hr, if_pos (by simpa using he)]
      exact .inr ⟨by decide, rfl, rfl⟩
  · have h1 : addOk s (dig o) o = true := by unfold addOk; rw [if_neg hf]
    have hple := lb_le s (dig o)
    have h2 : (addS s (dig o) o).length = s.length + 1 := by unfold addS; rw [if_neg hf]; simp; omega
    by_cases h40 : 40 ≤ s.length
    · have hr : putR s o = ([], 0, 14) := by unfold putR; rw [if_neg hf, if_pos h40]
      rw [h1, hr, if_neg (by simp), if_pos (by omega)]
      exact .inr ⟨by decide, rfl, rfl⟩
    · have hr : putR s o = (addS s (dig o) o, ((dig o : Nat) : Int), 0) := by unfold putR; rw [if_neg hf, if_neg h40]
      rw [h1, hr, if_neg (by simp), if_neg (by omega)]
      exact .inl ⟨rfl, rfl⟩
end Ob
namespace Tr
open Ob (O S StOk Sorted fnd lb dig stF putF putR PutT obF)
/-- One step of 'Write'. -/
theorem all_put {s : List S} (o : O) (l : List O) : ((putF s o).2.2.1 ≠ 0 ∧ putAll s (o :: l) = ([], (putF s o).2.2.1)) ∨ (Ob.Ok o ∧ ∃ u, putF s o = (u, ((dig o : Nat) : Int), (0, 0)) ∧ StOk u ∧ putAll s (o :: l) = putAll u l) := by
  rcases Ob.putF_cases s o with ⟨h1, _⟩ | ⟨u, he, hp⟩
  · exact .inl ⟨h1, by rw [putAll, if_pos h1]⟩
  · exact .inr ⟨hp.ob, u, he, hp.st, by rw [putAll, he, if_neg (fun h => h rfl)]⟩
/-- One step of 'WriteTree'. -/
theorem all_step {s : List S} (hs : StOk s) (o : O) (l : List O) : ((obF o).1 ≠ 0 ∧ putAll s (o :: l) = ([], (obF o).1)) ∨
    (Ob.Ok o ∧ obF o = (0, 0) ∧ (putR s o).2.2 ≠ 0 ∧ putAll s (o :: l) = ([], (putR s o).2.2)) ∨ (Ob.Ok o ∧ obF o = (0, 0) ∧ ∃ u, putR s o = (u, ((dig o : Nat) : Int), 0) ∧ StOk u ∧ putAll s (o :: l) = putAll u l) := by
  by_cases h1 : (obF o).1 ≠ 0
  · refine .inl ⟨h1, ?_⟩
    have : putF s o = ([], 0, ((obF o).1, -1)) := by unfold putF; rw [hs.f, if_neg (by simp), if_pos h1]
    rw [putAll, this, if_pos h1]
  · obtain ⟨h2, ho⟩ := Ob.obF_ok (o := o) (by omega)
    refine .inr ?_
    rcases Ob.put_put hs ho with ⟨h3, h4⟩ | ⟨h3, _, h4⟩
    · refine .inr ⟨ho, h2, (putR s o).1, ?_, ?_, ?_⟩
      · rcases Ob.putF_cases s o with ⟨h5, _⟩ | ⟨u, he, hp⟩
        · rw [h4] at h5; exact absurd rfl h5
        · have e1 := congrArg (fun q => q.1) (h4.symm.trans he)
          have e2 := congrArg (fun q => q.2.1) (h4.symm.trans he)
          simp only at e1 e2
          exact Prod.ext rfl (Prod.ext e2 h3)
      · rcases Ob.putF_cases s o with ⟨h5, _⟩ | ⟨u, he, hp⟩
        · rw [h4] at h5; exact absurd rfl h5
        · have e1 := congrArg (fun q => q.1) (h4.symm.trans he)
          simp only at e1
          rw [e1]; exact hp.st
      · rw [putAll, h4, if_neg (fun h => h rfl)]
    · exact .inl ⟨ho, h2, h3, by rw [putAll, h4, if_pos h3]⟩
theorem objs_len (t : List F) : (objs t).length = t.length + 1 := by simp [objs]
theorem objs_at (t : List F) (i : Nat) (hi : i < t.length) : (objs t).drop i = blobO (it t i).lines :: (objs t).drop (i + 1) := by
  rw [List.drop_eq_getElem_cons (by rw [objs_len]; omega)]
  congr 1
  unfold objs
  rw [List.getElem_append_left (by simpa using hi), List.getElem_map, it_eq t i hi]
theorem objs_end (t : List F) : (objs t).drop t.length = [treeO t] := by
  unfold objs
  rw [List.drop_left' (by simp)]
theorem links_get (t : List F) (i : Nat) (hi : i < t.length) (h : i < (links t).length) : (links t)[i] = ((dig (blobO (it t i).lines) : Nat) : Int) := by
  have e : (links t)[i]? = some ((dig (blobO (it t i).lines) : Nat) : Int) := by unfold links; rw [List.getElem?_map, List.getElem?_eq_getElem hi, it_eq t i hi]; rfl
  rw [List.getElem?_eq_getElem h] at e
  exact Option.some.inj e
theorem links_take (t : List F) (i : Nat) (hi : i < t.length) : (links t).take (i + 1) = (links t).take i ++ [((dig (blobO (it t i).lines) : Nat) : Int)] := by
  have hl : i < (links t).length := by simpa [links] using hi
  rw [List.take_succ_eq_append_getElem hl, links_get t i hi hl]
theorem links_I64 (t : List F) (i : Nat) (h : i < (links t).length) : 0 ≤ (links t)[i] ∧ (links t)[i] < 2305843009213693951 := by
  have hi : i < t.length := by simpa [links] using h
  rw [links_get t i hi h]
  have := Ob.dig_lt (blobO (it t i).lines)
  omega
def pathsB (t : List F) (i : Nat) : List UInt8 := joined ((t.map F.path).take i)
theorem pathsB_zero (t : List F) : pathsB t 0 = [] := by simp [pathsB, joined]
theorem pathsB_succ (t : List F) (i : Nat) (hi : i < t.length) : pathsB t (i + 1) = pathsB t i ++ ((it t i).path ++ [10]) := by
  have hl : i < (t.map F.path).length := by simpa using hi
  unfold pathsB
  rw [List.take_succ_eq_append_getElem hl, joined_snoc, List.getElem_map, it_eq t i hi, List.append_assoc]
theorem pathsB_end (t : List F) : pathsB t t.length = joined (t.map F.path) := by unfold pathsB; rw [List.take_of_length_le (by simp)]
theorem pathsB_len {t : List F} (h : VOk t) : ∀ i, i ≤ t.length → (pathsB t i).length ≤ 61 * i
  | 0, _ => by rw [pathsB_zero]; exact Nat.zero_le _
  | i + 1, hi => by
    have h1 := pathsB_len h i (by omega)
    have h2 := pathOk_len (h.path i (by omega))
    rw [pathsB_succ t i (by omega)]
    simp; omega
theorem lines_len {l : List Nm} (h : LnOk l) : l.length ≤ 120 ∧ (joined l).length ≤ 9720 := by
  have h1 := h.len
  have h2 : ∀ l : List Nm, (∀ s ∈ l, s.length ≤ 80 ∧ (10 : UInt8) ∉ s) → (joined l).length ≤ 81 * l.length := by
    intro l
    induction l with
    | nil => intro _; simp [joined]
    | cons s l ih =>
      intro h
      have h3 := ih fun x hx => h x (List.mem_cons_of_mem _ hx)
      have h4 := (h s (by simp)).1
      rw [joined_cons]; simp; omega
  have h3 := h2 l h.all
  exact ⟨h1, by omega⟩
theorem joined_one (p : Nm) : joined [p] = p ++ [10] := by simp [joined]
/-- What 'At' finds. -/
theorem gtO_at {s : List S} (hs : StOk s) {d r : Int} (h : AtIs s d r) : (r = -1 ∧ gtO s d = none) ∨ ∃ i : Nat, r = (i : Int) ∧ i < s.length ∧ gtO s d = some (Ob.it s i).ob := by
  rcases h with ⟨h1, h2⟩ | ⟨i, h1, h2, h3, _⟩
  · refine .inl ⟨h1, ?_⟩
    unfold gtO
    rw [if_neg]
    intro hf
    obtain ⟨h3, h4⟩ := Ob.fnd_at hf
    exact h2 _ h3 h4
  · refine .inr ⟨i, h1, h2, ?_⟩
    have hf : fnd s d = true := (Ob.fnd_iff hs.lt d).2 ⟨_, Ob.it_mem h2, h3⟩
    obtain ⟨h4, h5⟩ := Ob.fnd_at hf
    unfold gtO
    rw [if_pos hf, (show Sorted s from hs.lt).uniq (Ob.it_mem h4) (Ob.it_mem h2) (h5.trans h3.symm)]
/-- 'Write' and 'WriteTree', case by case. -/
theorem wrF_st {s : List S} {t : List F} (h : (stF s).1 ≠ 0) : wrF s t = (([], 0), stF s) := by unfold wrF; rw [if_pos h]
theorem wrF_vl {s : List S} {t : List F} (h : (stF s).1 = 0) (h2 : (vlF t).1 ≠ 0) : wrF s t = (([], 0), ((vlF t).1, -1)) := by unfold wrF; rw [if_neg (fun h3 => h3 h), if_pos h2]
theorem wrF_no {s : List S} {t : List F} (h : (stF s).1 = 0) (h2 : (vlF t).1 = 0) {c : Int} (h3 : putAll s (objs t) = ([], c)) (h4 : c ≠ 0) : wrF s t = (([], 0), (c, -2)) := by
  unfold wrF; rw [if_neg (fun h5 => h5 h), if_neg (fun h5 => h5 h2), h3, if_pos h4]
theorem wrF_ok {s : List S} {t : List F} (h : (stF s).1 = 0) (h2 : (vlF t).1 = 0) {x : List S} (h3 : putAll s (objs t) = (x, 0)) : wrF s t = ((x, ((dig (treeO t) : Nat) : Int)), (0, 0)) := by
  unfold wrF; rw [if_neg (fun h5 => h5 h), if_neg (fun h5 => h5 h2), h3, if_neg (fun h => h rfl)]
end Tr
namespace Tr
theorem joined_take (l : List Nm) (i : Nat) (h : i < l.length) : joined (l.take (i + 1)) = joined (l.take i) ++ l[i] ++ [10] := by
  rw [List.take_succ_eq_append_getElem h, joined_snoc]
theorem joined_take_le (l : List Nm) (i : Nat) : (joined (l.take i)).length ≤ (joined l).length := by
  have : joined l = joined (l.take i) ++ joined (l.drop i) := by unfold joined; rw [← List.flatMap_append, List.take_append_drop]
  rw [this, List.length_append]; omega
theorem joined_len : ∀ (l : List Nm), (∀ s ∈ l, s.length ≤ 80) → (joined l).length ≤ l.length * 81
  | [], _ => Nat.le_refl _
  | s :: l, h => by
    have h1 := joined_len l fun x hx => h x (List.mem_cons_of_mem _ hx)
    have h2 := h s (by simp)
    rw [joined_cons]; simp; omega
end Tr
namespace Go.Proofs.YtjljknocnebnaaaGreatDoor
open Go.RowKit Go.V Go.Shelf
set_option linter.unusedVariables false

set_option maxRecDepth 100000 in
set_option maxHeartbeats 4000000 in
theorem terminated_any (w : World) (A : Option Addr) (k : Nat) (l : List (List UInt8)) (hv : SA w Free A (ssV l)) (hl : l.length ≤ 1000000) (hj : (Tr.joined l).length ≤ 1000000) :
    Calls Tryz.prog 24 #[.slice A l.length k] w (BtPost w (Tr.joined l)) := by
  obtain ⟨i0, hi0, hz0, hz1, hz2⟩ := info_parts info5
  have HV := Lib.hid (fun (w' : World) (hb : Below w.heap.size w w') i hi => ssV_row (hv.keep (free_below hb)) i hi)
  have HJ := Lib.hid (Tr.joined_take l)
  have HLE := Lib.hid (fun i => Nat.le_trans (Tr.joined_take_le l i) hj)
  clear hv
  go_enter Tryz.func24, Tryz.ntmps24
  go_wp2_with fail
  go_loopw [3, 8] (fun ov iv wr => ∃ (i : Nat) (o : List UInt8) (B : Option Addr) (c : Nat), i ≤ l.length ∧ iv = .int .i64 i ∧ ov = .slice B o.length c ∧ Hid (o = Tr.joined (l.take i)) ∧ wr.ownsRow w.heap.size 5 1 (.slice B o.length c) o.length (bytesV o) ∧ Below w.heap.size w wr) (fun _ iv _ => l.length - (intOf iv).toNat)
  case atStart => exact ⟨0, [], none, 0, Nat.zero_le _, rfl, rfl, Lib.hid rfl, World.ownsRow_nil _ _ _ _, Below.refl _ _⟩
  case round =>
    obtain ⟨i, o, B, c, hi, rfl, rfl, HO, hown, hbw⟩ := hrel
    obtain ⟨wo, rfl⟩ : ∃ wo : World, wo = wr := ⟨_, rfl⟩
    by_cases hlt2 : i < l.length
    · have hlt' : (i : Int) < l.length := by omega
      obtain ⟨b, off, e, hb, _, d0⟩ := HV.out _ hbw i hlt2
      subst e
      have HN := Lib.hid (show o ++ l[i] ++ [10] = Tr.joined (l.take (i + 1)) from by rw [HO.out, ← HJ.out i hlt2])
      have hle : (o ++ l[i] ++ [10]).length ≤ 1000000 := by rw [HN.out]; exact HLE.out (i + 1)
      have hol : o.length ≤ 1000000 := by simp at hle; omega
      clear HO
      generalize l[i] = x at *
      have sx : (⟨x.toArray⟩ : ByteArray).size = x.length := by simp [ByteArray.size]
      have hle2 : o.length + x.length + 1 ≤ 1000000 := by simpa [Nat.add_assoc] using hle
      have hsz := hbw.size
      go_wp2_with (first | (at_builtin; refine Lib.wpList_append_own_string _ rfl (.tmp 12) (.tmp 13) 54 9 rfl w.heap.size 5 i0 Tryz.underlying54 Tryz.underlying9 hi0 hz0 hz1 hz2 (.slice B o.length c) o.length (bytesV o) rfl hown ⟨x.toArray⟩ rfl ?ha ?hb ?hc ?_))
      case ha => rw [sx]; unfold maxLen; omega
      case hb => rw [sx]; omega
      case hc => exact hsz
      intro v2 w2 own2 hg2 _
      try rw [sx] at own2
      obtain ⟨B2, c2, rfl, hc2, _⟩ := own_form own2
      have hb2 := hbw.grown hg2 hsz (fun b e => (hown.lt b e).1)
      have hs2 := hb2.size
      have own3 : w2.ownsRow w.heap.size 5 1 (.slice B2 (o.length + x.length) c2) (o.length + x.length) (bytesV (o ++ x)) := by rw [bytesV_append]; exact own2
      have own4 := own3.alloc (.cells #[.int .u8 10] 5)
      have hb4 := hb2.alloc hs2 (.cells #[.int .u8 10] 5)
      have hsv : SV (w2.alloc (.cells #[.int .u8 10] 5)) (w2.heap.size + 1) (some ⟨w2.heap.size, 0, none⟩) [.int .u8 10] := by simpa using SV.lit w2 #[.int .u8 10] 5
      clear own2 own3 hg2 hown hbw d0 hb
      go_wp2_with (first | (at_builtin; refine wpList_appN _ rfl (.tmp 14) (.tmp 15) 54 rfl w.heap.size 5 i0 _ 1 1 Tryz.underlying54 hi0 hz0 hz1 hz2 rfl (by decide) B2 (o.length + x.length) c2 (bytesV (o ++ x)) rfl own4 _ (some ⟨w2.heap.size, 0, none⟩) 1 1 [.int .u8 10] rfl rfl hsv (by intro u hu; simp at hu; subst hu; rfl) ?hd ?he ?hf ?_))
      case hd => unfold maxLen; omega
      case he => omega
      case hf => simp; omega
      intro A5 c5 w5 own5 hg5 hc5
      have hb5 := hb4.grown hg5 (by simp; omega) (fun b e => (own4.lt b e).1)
      have hl5 : (o ++ x ++ [10]).length = o.length + x.length + 1 := by simp [Nat.add_assoc]
      have e5 : bytesV (o ++ x ++ [10]) = bytesV (o ++ x) ++ [.int .u8 10] := by rw [bytesV_append]; rfl
      have own6 : w5.ownsRow w.heap.size 5 1 (.slice A5 (o.length + x.length + 1) c5) (o.length + x.length + 1) (bytesV (o ++ x ++ [10])) := by rw [e5]; simpa using own5
      clear own5
      clear own4 hg5 hsv hb4 hb2
      go_wp2_with fail
      go_roundw
      case rel => exact ⟨i + 1, o ++ x ++ [10], A5, c5, by omega, by go_num, by rw [hl5], HN, by rw [hl5]; exact own6, hb5⟩
      case measure => simp [intOf]; omega
    · obtain rfl : i = l.length := by omega
      rw [List.take_length] at HO
      go_wp2_with fail
      go_ret
      obtain ⟨A', c', e, h8, hm⟩ := own_form hown
      injection e with _ _ e2
      subst e2
      refine ⟨B, c, ?_, ?_, hm, ?_, hbw⟩
      · rw [← HO.out]; rfl
      · rw [← HO.out]; exact h8
      · rw [← HO.out]; exact hown
end Go.Proofs.YtjljknocnebnaaaGreatDoor
namespace Go.Proofs.YtjljknocnebnaaaGreatDoor
open Go.RowKit Go.V Go.Shelf
set_option linter.unusedVariables false

theorem info9 : (Tryz.prog.info? 9).map (fun i => (i.zero, i.size, i.bytes)) = some (some (.string .empty), 1, 16) := by kernel_rfl
theorem slice1_52 (W : World) (b0 off n k i : Nat) (h : i < n) (hk : n ≤ k) : (Instr.slice 54 (.slice (some ⟨b0, off, none⟩) n k) (some (.int .i64 (i : Int))) (some (.int .i64 ((i : Int) + 1))) none).run Tryz.prog W = .ok (.slice (some ⟨b0, off + i, none⟩) 1 (k - i)) W := by
  have hu := Tryz.underlying54
  have h1 : (i : Int) + 1 ≤ k := by omega
  have h2 : (i : Int) ≤ (i : Int) + 1 := by omega
  have h3 : ((i : Int) + 1).toNat = i + 1 := by omega
  have h4 : k ≠ i := by omega
  have h5 : k - i ≠ 0 := by omega
  obtain ⟨i5, hi5, _, hz, _⟩ := info_parts info5
  simp [Instr.slice, Instr.sliceBounds, Instr.sliceBound, go_sem, h1, h3, h4, Addr.add]
  rw [if_pos (by omega)]
  by_cases h0 : i = 0
  · subst h0; simp
  · simp [h0]
/-- What 'Cut' tells. -/
def CutPost (w : World) (q : List (List UInt8) × List UInt8) (e : Ending) (w' : World) : Prop :=
  ∃ A c, e = .returned (.tuple #[.slice A q.1.length c, .bool (decide (q.2 = []))]) ∧ q.1.length ≤ c ∧ SA w' (Under w.heap.size) A (ssV q.1) ∧ Below w.heap.size w w'
set_option maxRecDepth 100000 in
set_option maxHeartbeats 8000000 in
theorem cut_any (w : World) (A0 : Option Addr) (k : Nat) (l : List UInt8) (hv : SA w Free A0 (bytesV l)) (hk : l.length ≤ k) (hl : l.length ≤ 1000000000) : Calls Tryz.prog 19 #[.slice A0 l.length k] w (CutPost w (Tr.cut l)) := by
  obtain ⟨i0, hi0, hz0, hz1, hz2⟩ := info_parts info9
  have HV := Lib.hid (fun (w' : World) (hb : Below w.heap.size w w') => hv.keep (free_below hb))
  clear hv
  go_enter Tryz.func19, Tryz.ntmps19
  go_wp2_with fail
  go_loopw [4, 5, 6] (fun ov nv iv wr => ∃ (i : Nat) (pre : List (List UInt8)) (cur : List UInt8) (A : Option Addr) (c : Nat), i ≤ l.length ∧ iv = .int .i64 i ∧ nv = strV cur ∧ ov = .slice A pre.length c ∧ Hid (Tr.cut l = (pre ++ (Tr.cutL cur (l.drop i)).1, (Tr.cutL cur (l.drop i)).2)) ∧ cur.length ≤ i ∧ pre.length ≤ i ∧ wr.ownsRow w.heap.size 9 1 (.slice A pre.length c) pre.length (ssV pre) ∧ Below w.heap.size w wr) (fun _ _ iv _ => l.length - (intOf iv).toNat)
  case atStart => exact ⟨0, [], [], none, 0, Nat.zero_le _, rfl, rfl, rfl, Lib.hid (by simp [Tr.cut]), Nat.le_refl _, Nat.le_refl _, World.ownsRow_nil _ _ _ _, Below.refl _ _⟩
  case round =>
    obtain ⟨i, pre, cur, A, c, hi, rfl, rfl, rfl, H, hcl, hpl, hown, hbw⟩ := hrel
    obtain ⟨wo, rfl⟩ : ∃ wo : World, wo = wr := ⟨_, rfl⟩
    have hsz2 : (⟨cur.toArray⟩ : ByteArray).size = cur.length := by simp [ByteArray.size]
    by_cases hlt : i < l.length
    · have hlt' : (i : Int) < l.length := by omega
      have hw1 : IntKind.i64.wrap ((i : Int) + 1) = (i : Int) + 1 := by rw [IntKind.wrap_i64]; omega
      have hv2 := HV.out _ hbw
      obtain ⟨b0, o0, e0, hb0, _, x0⟩ := hv2.get i (by simpa [bytesV] using hlt)
      subst e0
      have x1 : wo.cell? ⟨b0, o0 + i, none⟩ = some (.int .u8 l[i].toNat) := by rw [x0]; simp [bytesV]
      have hs52 := fun W => slice1_52 W b0 o0 l.length k i hlt hk
      have hcv : (convert 54 9 (.slice (some ⟨b0, o0 + i, none⟩) 1 (k - i))).run Tryz.prog wo = .ok (.string ⟨#[l[i]]⟩) wo := run_conv_str (P := Tryz.prog) (w := wo) (B := wo.heap.size) (A := some ⟨b0, o0 + i, none⟩) (l := [l[i]]) 54 9 5 (k - i) Tryz.underlying54 Tryz.underlying5 Tryz.underlying9 (.inr ⟨b0, o0 + i, rfl, hb0, fun j u hu => by
        obtain rfl : j = 0 := by have := (List.getElem?_eq_some_iff.1 hu).1; simp [bytesV] at this; omega
        have : u = .int .u8 l[i].toNat := by simpa [bytesV] using hu.symm
        rw [this]; exact x1⟩)
      have HD := Lib.hid (List.drop_eq_getElem_cons hlt)
      have hadd : (⟨cur.toArray⟩ : ByteArray) ++ ⟨#[l[i]]⟩ = ⟨(cur ++ [l[i]]).toArray⟩ := str_add cur [l[i]]
      have hs1 : ∀ b : UInt8, (⟨#[b]⟩ : ByteArray).size = 1 := fun _ => rfl
      clear hv2 x0
      by_cases hb : l[i] = 10
      · have H2 := Lib.hid (show Tr.cut l = ((pre ++ [cur]) ++ (Tr.cutL [] (l.drop (i + 1))).1, (Tr.cutL [] (l.drop (i + 1))).2) from by rw [H.out, HD.out, Tr.cutL, if_pos hb]; simp)
        have hbi : ((l[i].toNat : Int) == 10) = true := by rw [hb]; rfl
        clear hb HD H hadd hcv hs52
        have hu : (wo.alloc (.cells #[strV cur] 9)).cell? ⟨wo.heap.size, 0, none⟩ = some (strV cur) := ((Blk.new wo 9 #[strV cur]).cell 0).trans rfl
        go_wp2_with (first | (at_builtin; refine wpList_app1 _ rfl (.tmp 18) (.tmp 20) 26 rfl w.heap.size 9 i0 (.string .empty) 16 Tryz.underlying26 hi0 hz0 hz1 hz2 rfl A pre.length c (ssV pre) rfl (hown.alloc _) wo.heap.size 1 (strV cur) rfl hu rfl (by unfold maxLen; omega) (by omega) (Nat.le_trans hbw.size (by simp)) ?_))
        intro A' c' w' hown' hg' hc'
        have hb' := below_append (hbw.alloc hbw.size _) (hown.alloc _) hg' (Nat.le_refl _) (Nat.le_trans hbw.size (by simp))
        clear hg' hown hu
        go_wp2_with fail
        go_roundw
        case rel => exact ⟨i + 1, pre ++ [cur], [], A', c', by omega, by go_num, rfl, by simp, H2, by simp, by simp; omega, by simpa [sC] using hown', hb'⟩
        case measure => simp [intOf]; omega
      · have H2 := Lib.hid (show Tr.cut l = (pre ++ (Tr.cutL (cur ++ [l[i]]) (l.drop (i + 1))).1, (Tr.cutL (cur ++ [l[i]]) (l.drop (i + 1))).2) from by rw [H.out, HD.out, Tr.cutL, if_neg hb])
        have hbi : ((l[i].toNat : Int) == 10) = false := by
          have : l[i].toNat ≠ 10 := fun e => hb (by rw [← UInt8.toNat_inj]; exact e)
          simp; omega
        clear hb HD H
        go_wp2_with fail
        go_roundw
        case rel => exact ⟨i + 1, pre, cur ++ [l[i]], A, c, by omega, by go_num, by first | rfl | simp, rfl, H2, by simp; omega, by omega, hown, hbw⟩
        case measure => simp [intOf]; omega
    · obtain rfl : i = l.length := by omega
      have HE := Lib.hid (show Tr.cut l = (pre, cur) from by rw [H.out, List.drop_length]; simp [Tr.cutL])
      clear H
      obtain ⟨A', c', e, h8, hm⟩ := own_form hown
      injection e with e1 _ e2
      subst e1
      subst e2
      have HF : ∀ y, y = decide (cur = []) → Hid (CutPost w (Tr.cut l) (.returned (.tuple #[.slice A pre.length c, .bool y])) wo) := fun y hy => Lib.hid (by
        rw [HE.out, hy]
        exact ⟨A, c, rfl, h8, SA.of_own (X := Under w.heap.size) hown (fun b hb => hb), hbw⟩)
      clear hown HE
      generalize CutPost w (Tr.cut l) = R at *
      rcases cur with _ | ⟨x, cur⟩
      · have HG := HF true (by simp)
        go_wp2_with fail
        exact HG.out
      · have HG := HF false (by simp)
        go_wp2_with fail
        exact HG.out
end Go.Proofs.YtjljknocnebnaaaGreatDoor
namespace Tr
theorem suf_app (x : List UInt8) : Go.Lib.hasSuffix (x ++ [10]) [10] = true := by
  unfold Go.Lib.hasSuffix
  exact List.isSuffixOf_iff_suffix.2 (List.suffix_append _ _)
theorem trim_app (x : List UInt8) : Go.Lib.trimSuffix (x ++ [10]) [10] = x := by
  unfold Go.Lib.trimSuffix
  rw [if_pos (suf_app x)]
  simp
theorem suf_no {b : List UInt8} (h : ¬ ∃ x, b = x ++ [10]) : Go.Lib.hasSuffix b [10] = false := by
  rw [← Bool.not_eq_true]
  intro e
  unfold Go.Lib.hasSuffix at e
  obtain ⟨t, ht⟩ := List.isSuffixOf_iff_suffix.1 e
  exact h ⟨t, ht.symm⟩
theorem trim_no {b : List UInt8} (h : ¬ ∃ x, b = x ++ [10]) : Go.Lib.trimSuffix b [10] = b := by
  unfold Go.Lib.trimSuffix
  rw [if_neg (by rw [suf_no h]; decide)]
end Tr
namespace Go.Proofs.YtjljknocnebnaaaGreatDoor
open Go.RowKit Go.V Go.Shelf
set_option linter.unusedVariables false

/-- The cell of strings.MaxLen. -/
def M2 (w : World) : Prop := ∃ m, w.cell? ⟨2, 0, none⟩ = some (.int .i64 m)
theorem ssV_of (l : List ByteArray) : l.map Value.string = ssV (l.map (·.data.toList)) := by
  induction l with
  | nil => rfl
  | cons x l ih => rw [List.map_cons, ih, List.map_cons]; rfl
theorem split_row (s : List UInt8) : (Lib.splitB ⟨#[10]⟩ 0 (Lib.countB ⟨s.toArray⟩ ⟨#[10]⟩) ⟨s.toArray⟩).map Value.string = ssV (Tr.cut (s ++ [10])).1 := by
  rw [ssV_of, Lib.splitB_data, ← Tr.split_cut s.length s (Nat.le_refl _)]
theorem split_num (s : List UInt8) : Lib.countB ⟨s.toArray⟩ ⟨#[10]⟩ + 1 = (Tr.cut (s ++ [10])).1.length := by
  have h := Lib.splitB_all ⟨#[10]⟩ (by decide) 0 _ ⟨s.toArray⟩ rfl
  rw [← h, ← ssV_len, ← split_row, List.length_map]
/-- What 'split' tells. -/
def SpPost (w : World) (b : List UInt8) (e : Ending) (w' : World) : Prop :=
  ∃ A c L, e = .returned (.tuple #[.slice A L.length c, .bool (decide ((Tr.cut b).2 = []))]) ∧ L.length ≤ c ∧ SA w' (Under w.heap.size) A (ssV L) ∧ Below w.heap.size w w' ∧ ((Tr.cut b).2 = [] → L = (Tr.cut b).1) ∧ L.length ≤ b.length + 1
theorem cut_len (x : List UInt8) : (Tr.cut (x ++ [10])).1.length ≤ x.length + 1 := by
  rw [← split_num]
  have := Lib.countB_le ⟨#[10]⟩ (by decide) _ ⟨x.toArray⟩ (Nat.le_refl _)
  have hs : (⟨x.toArray⟩ : ByteArray).size = x.length := by simp [ByteArray.size]
  omega
set_option maxRecDepth 100000 in
set_option maxHeartbeats 4000000 in
theorem split_any (w : World) (hm : M2 w) (A0 : Option Addr) (k : Nat) (l : List UInt8) (hv : SA w Free A0 (bytesV l)) (hl : l.length ≤ 1000000000) : Calls Tryz.prog 41 #[.slice A0 l.length k] w (SpPost w l) := by
  have hcv := run_conv_str (P := Tryz.prog) 54 9 5 k Tryz.underlying54 Tryz.underlying5 Tryz.underlying9 hv.sv
  clear hv
  by_cases h0 : l = []
  · subst h0
    have HF : Hid (SpPost w [] (.returned (.tuple #[.slice none 0 0, .bool true])) w) := Lib.hid (by
      refine ⟨none, 0, [], ?_, Nat.le_refl _, SA.nil, Below.refl _ _, fun _ => ?_, Nat.zero_le _⟩
      · simp [Tr.cut, Tr.cutL]
      · simp [Tr.cut, Tr.cutL])
    generalize SpPost w [] = R at *
    go_enter Tryz.func41, Tryz.ntmps41
    go_wp2_with fail
    exact HF.out
  · have hln : ((l.length : Int) == 0) = false := by
      have : l.length ≠ 0 := fun e => h0 (List.eq_nil_of_length_eq_zero e)
      simp; exact h0
    obtain ⟨x, ok, hx1, hx2, hx3, hx4⟩ : ∃ x ok, Lib.trimSuffix l [10] = x ∧ Lib.hasSuffix l [10] = ok ∧ (ok = decide ((Tr.cut l).2 = []) ∧ (ok = true → l = x ++ [10])) ∧ x.length ≤ l.length := by
      by_cases hx : ∃ x, l = x ++ [10]
      · obtain ⟨x, rfl⟩ := hx
        exact ⟨x, true, Tr.trim_app x, Tr.suf_app x, ⟨(decide_eq_true (Tr.cut_last x.length x (Nat.le_refl _))).symm, fun _ => rfl⟩, by simp⟩
      · refine ⟨l, false, Tr.trim_no hx, Tr.suf_no hx, ⟨(decide_eq_false fun e => ?_).symm, fun h => by cases h⟩, Nat.le_refl _⟩
        rcases (Tr.cut_end_iff l).1 e with h | h
        · exact h0 h
        · exact hx h
    have HC := Lib.hid (Tryz.strings_CutSuffix ⟨l.toArray⟩ ⟨#[10]⟩ w (by simp [ByteArray.size]; omega))
    have HCe : Hid (Lib.trimSuffix (⟨l.toArray⟩ : ByteArray).data.toList (⟨#[10]⟩ : ByteArray).data.toList = x ∧ Lib.hasSuffix (⟨l.toArray⟩ : ByteArray).data.toList (⟨#[10]⟩ : ByteArray).data.toList = ok) := Lib.hid ⟨hx1, hx2⟩
    obtain ⟨m, hm⟩ := hm
    have HS := Lib.hid (Tryz.strings_Split ⟨x.toArray⟩ ⟨#[10]⟩ m w (by simp [ByteArray.size]; omega) hm (by decide))
    have HF : Hid (SpPost w l (.returned (.tuple #[.slice (some ⟨w.heap.size, 0, none⟩) (Lib.countB ⟨x.toArray⟩ ⟨#[10]⟩ + 1) (Lib.countB ⟨x.toArray⟩ ⟨#[10]⟩ + 1), .bool ok])) (w.alloc (.cells ((Lib.splitB ⟨#[10]⟩ 0 (Lib.countB ⟨x.toArray⟩ ⟨#[10]⟩) ⟨x.toArray⟩).map Value.string).toArray 9))) := Lib.hid (by
      rw [split_row, split_num, hx3.1]
      refine ⟨some ⟨w.heap.size, 0, none⟩, _, _, rfl, Nat.le_refl _, ?_, below_alloc1 _ _, fun e => ?_, Nat.le_trans (cut_len x) (by omega)⟩
      · have := SA.of_blk (X := Under w.heap.size) (Blk.new w 9 (ssV (Tr.cut (x ++ [10])).1).toArray) (Nat.lt_irrefl _)
        simpa using this
      · rw [hx3.2 (by rw [hx3.1]; exact decide_eq_true e)])
    clear hx1 hx2 hx3 hx4 hm h0
    generalize SpPost w l = R at *
    go_enter Tryz.func41, Tryz.ntmps41
    go_wp2_with fail
    go_at_call 66
    with_reducible refine (HC.out).mono ?_
    rintro e w1 ⟨rfl, rfl⟩
    rw [HCe.out.1, HCe.out.2]
    go_wp2_with fail
    go_at_call 67
    with_reducible refine (HS.out).mono ?_
    rintro e w1 ⟨rfl, rfl⟩
    go_wp2_with fail
    first | exact HF.out | (go_ret; exact HF.out)
end Go.Proofs.YtjljknocnebnaaaGreatDoor
namespace Go.V
set_option linter.unusedVariables false
open Go.RowKit

theorem below_setCells {B : Nat} {a : World} (b : Nat) (hB : B ≤ b) : ∀ (vs : List Value) (o : Nat) (w : World), Below B a w → Below B a (w.setCells b o vs)
  | [], _, _, h => h
  | v :: r, o, w, h => below_setCells b hB r (o + 1) _ (h.setCell (p := ⟨b, o, none⟩) hB v)
section
variable {P : Program} (w : World)
/-- 'append(s, x...)' where s lies in a block from base on, whatever made it. -/
theorem run_app_upon (base : Nat) (t ty e : TypeId) (i : TypeInfo) (z : Value) (size bytes : Nat) (ht : P.underlying t = some (.slice e)) (hi : P.info? e = some i) (hz : i.zero = some z)
    (hsize : i.size = size) (hby : i.bytes = bytes)
    {b off n cap : Nat} {olds : List Value} (hc : Came w size (some ⟨b, off, none⟩) b off n cap olds) (hb : base ≤ b) (hbw : b < w.heap.size) (ho1 : ∀ u ∈ olds, u.oneCell' = true) (hbase : base ≤ w.heap.size)
    (ad : Addr) (m c2 : Nat) (news : List Value) (hl : news.length = m * size) (hcells : ∀ j u, news[j]? = some u → w.cell? (ad.add j) = some u) (h1 : ∀ u ∈ news, u.oneCell' = true)
    (h63 : n + m ≤ maxLen) (hbytes : (n + m) * bytes ≤ 140737488355328) :
    ∃ g o' c' w', (Builtin.append_ #[t, t] ty #[.slice (some ⟨b, off, none⟩) n cap, .slice (some ad) m c2]).run P w = .ok (.slice (some ⟨g, o', none⟩) (n + m) c') w' ∧ n + m ≤ c' ∧
      SV w' w'.heap.size (some ⟨g, o', none⟩) (olds ++ news) ∧ Below base w w' ∧ base ≤ g := by
  subst hsize
  subst hby
  have hsrc := Src.ofSlice w ht ad m c2 news hl hcells h1
  have hol := hc.oldsLen
  have hsmall : n + m ≤ 9223372036854775807 := by simp only [maxLen] at h63; omega
  by_cases hroom : n + m ≤ cap
  · have hsp : ∀ j, j < news.length → j < (cap - n) * i.size := fun j hj => by
      rw [hl] at hj
      exact Nat.lt_of_lt_of_le hj (Nat.mul_le_mul_right _ (by omega))
    have hr := run_append_room_src w t t ty e i ht hi b off n cap (.slice (some ad) m c2) m news hsrc hroom (fun j hj => (hc.spare j (hsp j hj)).1) (fun j hj => (hc.spare j (hsp j hj)).2)
    refine ⟨b, off, cap, _, hr, hroom, ?_, below_setCells b hb _ _ _ (Below.refl _ _), hb⟩
    have hbel : Below 0 w (w.setCells b (off + n * i.size) news) := below_setCells b (Nat.zero_le _) _ _ _ (Below.refl _ _)
    refine .inr ⟨b, off, rfl, Nat.lt_of_lt_of_le hbw hbel.size, fun j u hu => ?_⟩
    by_cases hj : j < olds.length
    · rw [List.getElem?_append_left hj] at hu
      rw [World.cell?_setCells_out b news _ w ⟨b, off + j, none⟩ (fun _ _ => .inl (by simp; omega))]
      exact hc.olds j u hu
    · rw [List.getElem?_append_right (by omega)] at hu
      have hjn : j - olds.length < news.length := by
        rcases Nat.lt_or_ge (j - olds.length) news.length with h | h
        · exact h
        · rw [List.getElem?_eq_none h] at hu; cases hu
      have := World.cell?_setCells_in b news (off + n * i.size) w (fun j hj => (hc.spare j (hsp j hj)).1) (j - olds.length) hjn
      rw [show off + n * i.size + (j - olds.length) = off + j by omega] at this
      rw [this, ← hu, List.getElem?_eq_getElem hjn]
  · have hold := run_firstCells_some (P := P) w.drew i.size n ⟨b, off, none⟩ n cap olds hol (fun j u hu => by
      rw [show (⟨b, off, none⟩ : Addr).add j = ⟨b, off + j, none⟩ from by unfold Addr.add; split <;> simp_all]
      exact hc.olds j u hu)
    have hr := run_append_grow_src w t t ty e i z ht hi hz (some ⟨b, off, none⟩) n cap olds hold (.slice (some ad) m c2) m news hsrc (by omega) (by omega) (growslice_fits (by omega) hbytes)
    have hge := grownCap_ge w (n + m) cap e
    refine ⟨w.heap.size, 0, _, _, hr, hge, ?_, ?_, hbase⟩
    · refine .inr ⟨w.heap.size, 0, rfl, by simp, fun j u hu => ?_⟩
      refine (World.cell?_alloc_new w.drew _ e (0 + j)).trans ?_
      have hjn : j < (olds ++ news).length := by
        rcases Nat.lt_or_ge j (olds ++ news).length with h | h
        · exact h
        · rw [List.getElem?_eq_none h] at hu; cases hu
      rw [Nat.zero_add, Array.getElem?_append_left (by simpa using hjn), List.getElem?_toArray]
      exact hu
    · exact (below_drewN (Below.refl base w) 1).alloc hbase _
/-- .. as a law for 'go_wp2_with'. -/
theorem wpList_app_upon {ops : Array Oper} {rest : List Oper} {o : Oper} {a : Act} {Q : Exit → Act → World → Prop} (hgd : o.guard = none) (s x : Operand) (t : TypeId)
    (ho : o.op = .call { callee := .builtin .append, args := #[s, x], argTypes := #[t, t] })
    (base : Nat) (e : TypeId) (i : TypeInfo) (z : Value) (size bytes : Nat) (ht : P.underlying t = some (.slice e)) (hi : P.info? e = some i) (hz : i.zero = some z)
    (hsize : i.size = size) (hby : i.bytes = bytes)
    {b off n cap : Nat} {olds : List Value} (hc : Came w size (some ⟨b, off, none⟩) b off n cap olds) (hb : base ≤ b) (hbw : b < w.heap.size) (ho1 : ∀ u ∈ olds, u.oneCell' = true) (hbase : base ≤ w.heap.size)
    (hs : a.eval s = .slice (some ⟨b, off, none⟩) n cap)
    (ad : Addr) (m c2 : Nat) (news : List Value) (hx : a.eval x = .slice (some ad) m c2) (hl : news.length = m * size) (hcells : ∀ j u, news[j]? = some u → w.cell? (ad.add j) = some u) (h1 : ∀ u ∈ news, u.oneCell' = true)
    (h63 : n + m ≤ maxLen) (hbytes : (n + m) * bytes ≤ 140737488355328)
    (h : ∀ g o' c' w', n + m ≤ c' → SV w' w'.heap.size (some ⟨g, o', none⟩) (olds ++ news) → Below base w w' → base ≤ g → wpList P ops Q rest (a.put o.dst (.slice (some ⟨g, o', none⟩) (n + m) c')) w') : wpList P ops Q (o :: rest) a w := by
  refine wpList_plain hgd fun K hK' => ?_
  obtain ⟨g, o', c', w', hrun, h2, h3, h4, h5⟩ := run_app_upon (P := P) w base t o.type e i z size bytes ht hi hz hsize hby hc hb hbw ho1 hbase ad m c2 news hl hcells h1 h63 hbytes
  unfold Oper.wp
  simp [execOp, ho, resolve, invoke, builtin, hs, hx, hrun, Result.andThen]
  exact hK' _ _ (h g o' c' w' h2 h3 h4 h5)
end
end Go.V
namespace Go.V
open Go.RowKit

section
variable {P : Program}
theorem bytesRow_eq (l : List UInt8) (cap : Nat) : bytesRow ⟨l.toArray⟩ cap = (bytesV l ++ List.replicate (cap - l.length) (Value.int .u8 0)).toArray := by
  unfold bytesRow bytesV
  apply Array.ext'
  simp [ByteArray.size]
theorem conv_came (w : World) (src dst e : TypeId) (l : List UInt8) (hs : P.underlying src = some .string) (hd : P.underlying dst = some (.slice e)) (he : P.underlying e = some (.int .u8)) :
    ∃ W1 q, (convert src dst (.string ⟨l.toArray⟩)).run P w = .ok (.slice (some ⟨w.heap.size, 0, none⟩) l.length q) W1 ∧ Came W1 1 (some ⟨w.heap.size, 0, none⟩) w.heap.size 0 l.length q (bytesV l) ∧ Below w.heap.size w W1 ∧ w.heap.size < W1.heap.size := by
  have hr := run_bytes_of_string (P := P) w src dst e ⟨l.toArray⟩ hs hd he
  have hsz : (⟨l.toArray⟩ : ByteArray).size = l.length := by simp [ByteArray.size]
  rw [hsz, bytesRow_eq] at hr
  have hge := grownCap_ge w l.length 0 e
  generalize grownCap w l.length 0 e = q at *
  refine ⟨_, q, hr, ⟨hge, fun _ => rfl, fun _ => by simp, by simp [bytesV], fun j u hu => ?_, fun j hj => ⟨?_, ?_⟩⟩, (below_drewN (Below.refl _ w) 1).alloc (Nat.le_refl _) _, by simp⟩
  · obtain ⟨hj, _⟩ := List.getElem?_eq_some_iff.1 hu
    refine (cell_of_row _ w.heap.size (0 + j) _ e _ (heap_alloc_new w.drew _)).trans ?_
    rw [Nat.zero_add, List.getElem?_toArray, List.getElem?_append_left hj]
    exact hu
  · have h : (0 + l.length * 1 + j) < (bytesV l ++ List.replicate (q - l.length) (Value.int .u8 0)).length := by simp [bytesV]; omega
    rw [cell_of_row _ w.heap.size _ _ e _ (heap_alloc_new w.drew _), List.getElem?_toArray, List.getElem?_eq_getElem h]
    rfl
  · have hh := heap_alloc_new w.drew (.cells (bytesV l ++ List.replicate (q - l.length) (Value.int .u8 0)).toArray e ((bytesV l ++ List.replicate (q - l.length) (Value.int .u8 0)).toArray.size, (bytesV l ++ List.replicate (q - l.length) (Value.int .u8 0)).toArray.size + 1))
    simp only [World.frozen?]
    rw [show (w.drew).heap.size = w.heap.size from rfl] at hh
    rw [hh]
    simp [bytesV]
    omega
end
theorem came_below {w w' : World} {size : Nat} {ao : Option Addr} {b off n cap : Nat} {olds : List Value} (h : Came w size ao b off n cap olds) (hb : Below w.heap.size w w') (hlt : b < w.heap.size) : Came w' size ao b off n cap olds :=
  ⟨h.le, h.addr, fun _ => Nat.lt_of_lt_of_le hlt hb.size, h.oldsLen, fun j u hu => (hb.cell (p := ⟨b, off + j, none⟩) hlt).trans (h.olds j u hu),
    fun j hj => ⟨by rw [hb.cell (p := ⟨b, off + n * size + j, none⟩) hlt]; exact (h.spare j hj).1, (World.frozen?_of_block (a := ⟨b, off + n * size + j, none⟩) (hb.block b hlt)).trans (h.spare j hj).2⟩⟩
theorem came_sv {w : World} {size : Nat} {b off n cap : Nat} {olds : List Value} (h : Came w size (some ⟨b, off, none⟩) b off n cap olds) (hlt : b < w.heap.size) : SV w w.heap.size (some ⟨b, off, none⟩) olds := .inr ⟨b, off, rfl, hlt, h.olds⟩
end Go.V
namespace Go.Proofs.YtjljknocnebnaaaGreatDoor
open Go.RowKit Go.V Go.Shelf
set_option linter.unusedVariables false
theorem str_addV (a b : List UInt8) : (⟨a.toArray⟩ : ByteArray) ++ ⟨b.toArray⟩ = ⟨(a ++ b).toArray⟩ := str_add a b
/-- An object in new blocks. -/
def OjPost (w : World) (o : Ob.O) (e : Ending) (w' : World) : Prop := ∃ Al kl Ad kd, e = .returned (obV o Al kl Ad kd) ∧ ObA w' (Under w.heap.size) o Al kl Ad kd ∧ Below w.heap.size w w'
theorem results_o54 {fn : Func} {a : Tmp} (h : fn.results = #[.cell a 56]) (tmps : Array Value) (w : World) (g : Nat) (x y z : Value) (ha : tmps.getD a undef = .pointer (some ⟨g, 0, none⟩)) (hb : Blk w g 56 #[x, y, z]) :
    (results fn tmps).run Tryz.prog w = .ok (.agg #[x, y, z]) w := by
  have h0 := hb.cell 0
  have h1 := hb.cell 1
  have h2 := hb.cell 2
  simp only [List.getElem?_toArray, List.getElem?_cons_zero, List.getElem?_cons_succ] at h0 h1 h2
  have ha' : tmps[a]?.getD undef = .pointer (some ⟨g, 0, none⟩) := by simpa using ha
  simp [results, h, go_sem, ha', h0, h1, h2]
end Go.Proofs.YtjljknocnebnaaaGreatDoor
namespace Go.Proofs.YtjljknocnebnaaaGreatDoor
open Go.RowKit Go.V Go.Shelf
set_option linter.unusedVariables false

/-- What 'Contents' tells. -/
def CoPost2 (w : World) (q : List (List UInt8) × Int) (e : Ending) (w' : World) : Prop :=
  ∃ A c, e = .returned (.tuple #[.slice A q.1.length c, .int .i64 q.2]) ∧ LnA w' (Under w.heap.size) q.1 A c ∧ Below w.heap.size w w'
theorem FlR.one {w : World} {g : Nat} {t : TypeId} {p : List UInt8} {L : List (List UInt8)} {A : Option Addr} {c : Nat} (hb : Blk w g t #[strV p, .slice A L.length c]) (h : LnA w Free L A c) : VfV w Free (some ⟨g, 0, none⟩) [(⟨p, L⟩ : Tr.F)] := by
  refine ⟨[strV p, .slice A L.length c], ?_, ?_⟩
  · have := SA.of_blk (X := Free) hb (fun h => h)
    simpa using this
  · exact ⟨[strV p, .slice A L.length c], [], by simp, ⟨A, c, rfl, h⟩, rfl⟩
set_option maxRecDepth 100000 in
set_option maxHeartbeats 4000000 in
theorem contents_any (w : World) (hm : Mx w) (hm2 : M2 w) (o : Ob.O) (Al : Option Addr) (kl : Nat) (Ad : Option Addr) (kd : Nat) (p : List UInt8) (ho : ObA w Free o Al kl Ad kd) (hdl : o.data.length ≤ 1000000000) :
    Calls Tryz.prog 26 #[obV o Al kl Ad kd, strV p] w (CoPost2 w (Tr.coF o p)) := by
  have HB := Lib.hid (below_alloc1 w (.cells #[.int .i64 o.kind, .slice Al o.links.length kl, .slice Ad o.data.length kd] 56))
  have q1 := Blk.new w 56 #[.int .i64 o.kind, .slice Al o.links.length kl, .slice Ad o.data.length kd]
  have p0 := (q1.cell 0).trans rfl
  have p1 := (q1.cell 1).trans rfl
  have p2 := (q1.cell 2).trans rfl
  have l1 := q1.lt
  have HQ := Lib.hid (show Tr.coF o p = if o.kind ≠ 1 then ([], 8) else if (Tr.cut o.data).2 ≠ [] ∨ (Tr.vlF [(⟨p, (Tr.cut o.data).1⟩ : Tr.F)]).1 ≠ 0 then ([], 5) else ((Tr.cut o.data).1, 0) from rfl)
  generalize Tr.coF o p = q at *
  have h2 : M2 (w.alloc (.cells #[.int .i64 o.kind, .slice Al o.links.length kl, .slice Ad o.data.length kd] 56)) := by
    obtain ⟨m, hm⟩ := hm2
    exact ⟨m, (HB.out.cell (p := ⟨2, 0, none⟩) (World.block_lt_of_cell? w _ hm)).trans hm⟩
  have HS := Lib.hid (split_any _ h2 Ad kd o.data (ho.ds.keep (free_below HB.out)) hdl)
  have HM := Lib.hid (hm.below HB.out)
  clear ho hm hm2 h2
  obtain ⟨kk, ls, da⟩ := o
  simp only at *
  by_cases hk : kk = 1
  · subst hk
    have HQ2 := Lib.hid (HQ.out.trans (if_neg (by simp)))
    clear HQ
    go_enter Tryz.func26, Tryz.ntmps26
    go_wp2_with fail
    go_at_call 41
    with_reducible refine (HS.out).mono ?_
    rintro e w1 ⟨A1, c1, L, rfl, hc, sl, hb1, hL, hLl⟩
    have hbw := HB.out.trans (hb1.mono HB.out.size)
    have hm1 := HM.out.below hb1
    by_cases hz : (Tr.cut da).2 = []
    · have hzd : decide ((Tr.cut da).2 = []) = true := decide_eq_true hz
      have hLe := hL hz
      rw [hzd]
      have HQ3 := Lib.hid (show q = if (Tr.vlF [(⟨p, L⟩ : Tr.F)]).1 ≠ 0 then ([], 5) else (L, 0) from by
        rw [HQ2.out, hLe]
        by_cases h : (Tr.vlF [(⟨p, (Tr.cut da).1⟩ : Tr.F)]).1 ≠ 0
        · rw [if_pos h, if_pos (.inr h)]
        · rw [if_neg h, if_neg (fun h2 => h2.elim (fun h3 => h3 hz) h)])
      have hLm : L.length ≤ 140737488351232 := by omega
      have hb2 : Below w1.heap.size w1 ((w1.alloc (.cells #[strV p, .slice A1 L.length c1] 38)).alloc (.cells #[.slice (some ⟨w1.heap.size, 0, none⟩) 1 1] 41)) := below_alloc2 _ _ _
      have bb := (Blk.new w1 38 #[strV p, .slice A1 L.length c1]).alloc (.cells #[.slice (some ⟨w1.heap.size, 0, none⟩) 1 1] 41)
      have bc := (blk_new1 w1 (.cells #[strV p, .slice A1 L.length c1] 38) 41 #[.slice (some ⟨w1.heap.size, 0, none⟩) 1 1])
      have cc := (bc.cell 0).trans rfl
      have lc := bc.lt
      have slf : LnA ((w1.alloc (.cells #[strV p, .slice A1 L.length c1] 38)).alloc (.cells #[.slice (some ⟨w1.heap.size, 0, none⟩) 1 1] 41)) (Under w.heap.size) L A1 c1 := ⟨hc, hLm, (sl.mono (X' := Under w.heap.size) (fun b h => Nat.lt_of_lt_of_le h HB.out.size)).keep (Keeps.below hb2 fun _ _ h => h)⟩
      have hbw2 := hbw.trans (hb2.mono hbw.size)
      have HT := Lib.hid (show Calls Tryz.prog 20 #[.agg #[.slice (some ⟨w1.heap.size, 0, none⟩) 1 1]] ((w1.alloc (.cells #[strV p, .slice A1 L.length c1] 38)).alloc (.cells #[.slice (some ⟨w1.heap.size, 0, none⟩) 1 1] 41)) (FaultPost ((w1.alloc (.cells #[strV p, .slice A1 L.length c1] 38)).alloc (.cells #[.slice (some ⟨w1.heap.size, 0, none⟩) 1 1] 41)) (Tr.vlF [(⟨p, L⟩ : Tr.F)])) from
        tvalidate_any _ (hm1.below hb2) _ 1 [(⟨p, L⟩ : Tr.F)] (FlR.one bb (slf.mono (fun b h => False.elim h))) (by show 1 ≤ _; omega) (Nat.le_refl _))
      have HR5 := Lib.hid (show (Tr.vlF [(⟨p, L⟩ : Tr.F)]).1 ≠ 0 → ∀ W2, Below w.heap.size w W2 → CoPost2 w q (.returned (.tuple #[.slice none 0 0, .int .i64 5])) W2 from fun h W2 hb => by
        rw [HQ3.out, if_pos h]
        exact ⟨none, 0, rfl, ⟨Nat.le_refl _, Nat.zero_le _, SA.nil⟩, hb⟩)
      have HR0 := Lib.hid (show (Tr.vlF [(⟨p, L⟩ : Tr.F)]).1 = 0 → ∀ W2, Below w.heap.size w W2 → LnA W2 (Under w.heap.size) L A1 c1 → CoPost2 w q (.returned (.tuple #[.slice A1 L.length c1, .int .i64 0])) W2 from fun h W2 hb hs => by
        rw [HQ3.out, if_neg (fun h2 => h2 h)]
        exact ⟨A1, c1, rfl, hs, hb⟩)
      have HZ := Lib.hid (fun (h : (Tr.vlF [(⟨p, L⟩ : Tr.F)]).1 = 0) => (Tr.vlF_ok h).1)
      clear HQ2 HQ3 hz hzd hLe hL sl bb bc
      generalize CoPost2 w q = R at *
      generalize Tr.vlF [(⟨p, L⟩ : Tr.F)] = f at *
      go_wp2_with fail
      go_at_call 20
      with_reducible refine (HT.out).mono ?_
      rintro e w3 ⟨rfl, hb3⟩
      have hbw3 := hbw2.trans (hb3.mono hbw2.size)
      have slf3 := slf.keep (Keeps.below hb3 fun _ _ h => h)
      clear HT slf hb3 hb2
      by_cases hf : f.1 = 0
      · have H0 := Lib.hid (HR0.out hf w3 hbw3 slf3)
        rw [HZ.out hf]
        clear HR0 HR5 HZ slf3
        go_wp2_with fail
        exact H0.out
      · have H5 := Lib.hid (HR5.out hf w3 hbw3)
        have hx1 : (f.1 == 0) = false := by simpa using hf
        have hx2 : (f.1 != 0) = true := by simpa using hf
        clear HR0 HR5 HZ slf3 hf
        obtain ⟨cd, ix⟩ := f
        simp only at hx1 hx2
        go_wp2_with fail
        exact H5.out
    · have hzd : decide ((Tr.cut da).2 = []) = false := decide_eq_false hz
      have H5 := Lib.hid (HQ2.out.trans (if_pos (.inl hz)))
      rw [hzd]
      clear HQ2 hz hzd
      have HR := Lib.hid (show ∀ W2, Below w.heap.size w W2 → CoPost2 w q (.returned (.tuple #[.slice none 0 0, .int .i64 5])) W2 from fun W2 hb => by
        rw [H5.out]
        exact ⟨none, 0, rfl, ⟨Nat.le_refl _, Nat.zero_le _, SA.nil⟩, hb⟩)
      clear H5
      generalize CoPost2 w q = R at *
      go_wp2_with fail
      refine HR.out _ ?_
      exact hbw.trans ((below_alloc2 w1 _ _).mono hbw.size)
  · have hkk : (kk != 1) = true := by simpa using hk
    have HF : Hid (CoPost2 w q (.returned (.tuple #[.slice none 0 0, .int .i64 8])) (w.alloc (.cells #[.int .i64 kk, .slice Al ls.length kl, .slice Ad da.length kd] 56))) := Lib.hid (by
      rw [HQ.out, if_pos hk]
      exact ⟨none, 0, rfl, ⟨Nat.le_refl _, Nat.zero_le _, SA.nil⟩, HB.out⟩)
    clear hk HQ HS HM
    generalize CoPost2 w q = R at *
    go_enter Tryz.func26, Tryz.ntmps26
    go_wp2_with fail
    exact HF.out
end Go.Proofs.YtjljknocnebnaaaGreatDoor
namespace Go.Proofs.YtjljknocnebnaaaGreatDoor
open Go.RowKit Go.V Go.Shelf
set_option linter.unusedVariables false

/-- What 'Parse' tells: new paths, and the links as they came. -/
def PrPost (w : World) (Al : Option Addr) (kl : Nat) (q : (List (List UInt8) × List Int) × Int) (e : Ending) (w' : World) : Prop :=
  ∃ A c Bl m, e = .returned (.tuple #[.slice A q.1.1.length c, .slice Bl q.1.2.length m, .int .i64 q.2]) ∧ LnA w' (Under w.heap.size) q.1.1 A c ∧ Below w.heap.size w w' ∧ (q.2 = 0 → Bl = Al ∧ m = kl) ∧ q.1.2.length ≤ m
theorem rows_files (w : World) : ∀ L : List (List UInt8), RowsR (FlR w Free) (L.map fun p => (⟨p, []⟩ : Tr.F)) (L.flatMap fun p => [strV p, Value.slice none 0 0])
  | [] => rfl
  | p :: L => ⟨[strV p, .slice none 0 0], _, by simp, ⟨none, 0, rfl, ⟨Nat.le_refl _, Nat.zero_le _, SA.nil⟩⟩, rows_files w L⟩
theorem info49 : (Tryz.prog.info? 38).map (fun i => (i.zero, i.size, i.bytes)) = some (some (.agg #[.string .empty, .slice none 0 0]), 2, 40) := by kernel_rfl
set_option maxRecDepth 100000 in
set_option maxHeartbeats 4000000 in
theorem parse_any (w : World) (hm : Mx w) (hm2 : M2 w) (o : Ob.O) (Al : Option Addr) (kl : Nat) (Ad : Option Addr) (kd : Nat) (ho : ObA w Free o Al kl Ad kd) (hdl : o.data.length ≤ 1000000000) :
    Calls Tryz.prog 28 #[obV o Al kl Ad kd] w (PrPost w Al kl (Tr.prF o)) := by
  have HB := Lib.hid (below_alloc1 w (.cells #[.int .i64 o.kind, .slice Al o.links.length kl, .slice Ad o.data.length kd] 56))
  have q1 := Blk.new w 56 #[.int .i64 o.kind, .slice Al o.links.length kl, .slice Ad o.data.length kd]
  have p0 := (q1.cell 0).trans rfl
  have p1 := (q1.cell 1).trans rfl
  have p2 := (q1.cell 2).trans rfl
  have l1 := q1.lt
  have HQ := Lib.hid (Tr.prF.eq_1 o)
  generalize Tr.prF o = q at *
  have h2 : M2 (w.alloc (.cells #[.int .i64 o.kind, .slice Al o.links.length kl, .slice Ad o.data.length kd] 56)) := by
    obtain ⟨m, hm⟩ := hm2
    exact ⟨m, (HB.out.cell (p := ⟨2, 0, none⟩) (World.block_lt_of_cell? w _ hm)).trans hm⟩
  have HS := Lib.hid (split_any _ h2 Ad kd o.data (ho.ds.keep (free_below HB.out)) hdl)
  have HM := Lib.hid (hm.below HB.out)
  have hlk := ho.lk
  have hll := ho.ll
  clear ho hm hm2 h2
  obtain ⟨kk, ls, da⟩ := o
  simp only at *
  by_cases hk : kk = 2
  · subst hk
    have HQ2 := Lib.hid (HQ.out.trans (if_neg (by simp)))
    have HR := Lib.hid (show q = (([], []), 5) → ∀ W2, Below w.heap.size w W2 → PrPost w Al kl q (.returned (.tuple #[.slice none 0 0, .slice none 0 0, .int .i64 5])) W2 from fun h W2 hb => by
      rw [h]
      exact ⟨none, 0, none, 0, rfl, ⟨Nat.le_refl _, Nat.zero_le _, SA.nil⟩, hb, fun h => by simp at h, Nat.le_refl _⟩)
    clear HQ
    go_enter Tryz.func28, Tryz.ntmps28
    go_wp2_with fail
    go_at_call 41
    with_reducible refine (HS.out).mono ?_
    rintro e w1 ⟨A1, c1, L, rfl, hc, sl, hb1, hL, hLl⟩
    have hbw := HB.out.trans (hb1.mono HB.out.size)
    have r1 := q1.below hb1 l1
    have p10 := (r1.cell 1).trans rfl
    have l2 := r1.lt
    have hm1 := HM.out.below hb1
    by_cases hz : (Tr.cut da).2 = []
    · have hzd : decide ((Tr.cut da).2 = []) = true := decide_eq_true hz
      rw [hzd]
      have hLe := hL hz
      by_cases hn : L.length = ls.length
      · have hn' : ((L.length : Int) != ls.length) = false := by simp [hn]
        have HL := Lib.hid hn
        have HLe := Lib.hid hLe
        have HD := Lib.hid hL
        clear hn hLe hL
        go_wp2_with fail
        have bt := Blk.new w1 41 #[.slice none 0 0]
        go_loopw [9, 31] (fun pv iv wr => ∃ (i : Nat) (B : Option Addr) (c : Nat), i ≤ L.length ∧ iv = .int .i64 i ∧ Blk wr w1.heap.size 41 #[.slice B i c] ∧ wr.ownsRow w1.heap.size 38 2 (.slice B i c) i ((L.take i).flatMap fun p => [strV p, .slice none 0 0]) ∧ Below w1.heap.size w1 wr) (fun _ iv _ => L.length - (intOf iv).toNat)
        case atStart => exact ⟨0, none, 0, Nat.zero_le _, rfl, bt, World.ownsRow_nil _ _ _ _, below_alloc1 _ _⟩
        case round =>
          obtain ⟨i, B, c, hi, rfl, bx, hown, hbx⟩ := hrel
          by_cases hlt : i < L.length
          · have hlt' : (i : Int) < L.length := by omega
            obtain ⟨b, off, e0, hb, _, d0⟩ := ssV_row (sl.keep (Keeps.below hbx fun _ _ h => h)) i hlt
            subst e0
            have HT := Lib.hid (List.take_succ_eq_append_getElem hlt)
            generalize L[i] = x at *
            obtain ⟨i0, hi0, hz0, hz1, hz2⟩ := info_parts info49
            have f0 := bx.frozen 0
            have c0 := (bx.cell 0).trans rfl
            have lb := bx.lt
            have hsv : SV (wr.alloc (.cells #[strV x, .slice none 0 0] 38)) (wr.heap.size + 1) (some ⟨wr.heap.size, 0, none⟩) [strV x, .slice none 0 0] := by simpa using SV.lit wr #[strV x, .slice none 0 0] 38
            have hown2 := hown.alloc (.cells #[strV x, .slice none 0 0] 38)
            go_wp2_with (first | (at_builtin; refine wpList_appN _ rfl (.tmp 36) (.tmp 39) 39 rfl w1.heap.size 38 i0 _ 2 40 Tryz.underlying39 hi0 hz0 hz1 hz2 rfl (by decide) B i c ((L.take i).flatMap fun p => [strV p, .slice none 0 0]) rfl hown2 _ (some ⟨wr.heap.size, 0, none⟩) 1 1 [strV x, .slice none 0 0] rfl rfl hsv (by intro u hu; simp at hu; rcases hu with rfl | rfl <;> rfl) ?hd ?he ?hf ?_))
            case hd => unfold maxLen; omega
            case he => omega
            case hf => simp; have := hbx.size; omega
            intro A5 c5 w5 own5 hg5 hc5
            have hb5 := (hbx.alloc hbx.size (.cells #[strV x, .slice none 0 0] 38)).grown hg5 (by simp; have := hbx.size; omega) (fun b e => (hown2.lt b e).1)
            have bx5 := (bx.alloc (.cells #[strV x, .slice none 0 0] 38)).grown hg5 (own_blk_ne hown2 (bx.alloc _) (by decide))
            have f5 := bx5.frozen 0
            have cc5 := (bx5.cell 0).trans rfl
            have bx6 := bx5.set_ 0 (.slice A5 (i + 1) c5)
            have own6 := own_setCell own5 (p := ⟨w1.heap.size, 0, none⟩) (own_blk_ne own5 bx5 (by decide)) (.slice A5 (i + 1) c5)
            have hb6 := hb5.setCell (p := ⟨w1.heap.size, 0, none⟩) (Nat.le_refl _) (.slice A5 (i + 1) c5)
            have eL : (L.take (i + 1)).flatMap (fun p => [strV p, Value.slice none 0 0]) = (L.take i).flatMap (fun p => [strV p, Value.slice none 0 0]) ++ [strV x, .slice none 0 0] := by rw [HT.out, List.flatMap_append]; simp
            clear own5 hown2 hown hg5 hsv hb5 bx5 bx d0
            go_wp2_with fail
            go_roundw
            case rel => exact ⟨i + 1, A5, c5, by omega, by go_num, bx6, by rw [eL]; exact own6, hb6⟩
            case measure => simp [intOf]; omega
          · obtain rfl : i = L.length := by omega
            rw [List.take_length] at hown
            obtain ⟨A', c', e, h8, hm⟩ := own_form hown
            injection e with e1 _ e2
            subst e1
            subst e2
            have hbw2 := hbw.trans (hbx.mono hbw.size)
            have hv : VfV wr Free B (L.map fun p => (⟨p, []⟩ : Tr.F)) := ⟨_, SA.of_own hown (fun b h => False.elim h), rows_files wr L⟩
            have HT := tvalidate_any wr (hm1.below hbx) B c (L.map fun p => (⟨p, []⟩ : Tr.F)) hv (by rw [List.length_map]; omega) (by rw [List.length_map]; exact h8)
            rw [List.length_map] at HT
            have HT := Lib.hid HT
            have c0 := (bx.cell 0).trans rfl
            have pw := (hbx.cell (p := ⟨w.heap.size, 1, none⟩) l2).trans p10
            have lw := Nat.lt_of_lt_of_le l2 hbx.size
            have slw := (sl.mono (X' := Under w.heap.size) (fun b h => Nat.lt_of_lt_of_le h HB.out.size)).keep (Keeps.below hbx fun _ _ h => h)
            have HQ3 := Lib.hid (show q = if (Tr.vlF (L.map fun p => (⟨p, []⟩ : Tr.F))).1 ≠ 0 then (([], []), 5) else ((L, ls), 0) from by
              rw [HQ2.out, ← HLe.out]
              by_cases h : (Tr.vlF (L.map fun p => (⟨p, []⟩ : Tr.F))).1 ≠ 0
              · rw [if_pos h, if_pos (.inr (.inr h))]
              · rw [if_neg h, if_neg (fun h2 => h2.elim (fun h3 => h3 hz) (fun h3 => h3.elim (fun h4 => h4 HL.out) h))])
            have HR5 := Lib.hid (fun (h : (Tr.vlF (L.map fun p => (⟨p, []⟩ : Tr.F))).1 ≠ 0) => HR.out (HQ3.out.trans (if_pos h)))
            have HR0 := Lib.hid (show (Tr.vlF (L.map fun p => (⟨p, []⟩ : Tr.F))).1 = 0 → ∀ W2, Below w.heap.size w W2 → LnA W2 (Under w.heap.size) L A1 c1 → PrPost w Al kl q (.returned (.tuple #[.slice A1 L.length c1, .slice Al ls.length kl, .int .i64 0])) W2 from fun h W2 hb hs => by
              rw [HQ3.out, if_neg (fun h2 => h2 h)]
              exact ⟨A1, c1, Al, kl, rfl, hs, hb, fun _ => ⟨rfl, rfl⟩, hlk⟩)
            have HZ := Lib.hid (fun (h : (Tr.vlF (L.map fun p => (⟨p, []⟩ : Tr.F))).1 = 0) => (Tr.vlF_ok h).1)
            have sln : LnA wr (Under w.heap.size) L A1 c1 := ⟨hc, by omega, slw⟩
            clear HQ2 HQ3 HR hz hzd sl slw hv hown hm1 HLe HL HD bt
            generalize PrPost w Al kl q = R at *
            generalize Tr.vlF (L.map fun p => (⟨p, []⟩ : Tr.F)) = f at *
            go_wp2_with fail
            go_at_call 20
            with_reducible refine (HT.out).mono ?_
            rintro e w3 ⟨rfl, hb3⟩
            have hbw3 := hbw2.trans (hb3.mono hbw2.size)
            have sl3 := sln.keep (Keeps.below hb3 fun _ _ h => h)
            have pw3 := (hb3.cell (p := ⟨w.heap.size, 1, none⟩) lw).trans pw
            clear HT sln hb3 pw c0
            by_cases hf : f.1 = 0
            · have H0 := Lib.hid (HR0.out hf)
              rw [HZ.out hf]
              clear HR0 HR5 HZ
              go_wp2_with fail
              go_quiet (fail)
              go_wp2_with fail
              go_ret3
              have h9 := H0.out _ (below_drewN' hbw3 nq) (sl3.keep (Keeps.drewN w3 _ nq))
              first | exact h9 | simpa using h9
            · have H5 := Lib.hid (HR5.out hf)
              have hx1 : (f.1 == 0) = false := by simpa using hf
              have hx2 : (f.1 != 0) = true := by simpa using hf
              clear HR0 HR5 HZ sl3 hf
              obtain ⟨cd, ix⟩ := f
              simp only at hx1 hx2
              go_wp2_with fail
              go_ret3
              have h9 := H5.out _ hbw3
              first | exact h9 | simpa using h9
      · have hn' : ((L.length : Int) != ls.length) = true := by simp; omega
        have H5 := Lib.hid (HR.out (HQ2.out.trans (if_pos (.inr (.inl (by rw [← hLe]; exact hn))))))
        clear HQ2 HR hL sl hLl hn hLe
        generalize PrPost w Al kl q = R at *
        go_wp2_with fail
        go_ret3
        first | exact H5.out _ hbw | (have h9 := H5.out _ hbw; simpa using h9)
    · have hzd : decide ((Tr.cut da).2 = []) = false := decide_eq_false hz
      have H5 := Lib.hid (HR.out (HQ2.out.trans (if_pos (.inl hz))))
      rw [hzd]
      clear HQ2 HR hz hzd hL sl hLl
      generalize PrPost w Al kl q = R at *
      go_wp2_with fail
      go_ret3
      first | exact H5.out _ hbw | (have h9 := H5.out _ hbw; simpa using h9)
  · have hkk : (kk != 2) = true := by simpa using hk
    have HF : Hid (PrPost w Al kl q (.returned (.tuple #[.slice none 0 0, .slice none 0 0, .int .i64 8])) (w.alloc (.cells #[.int .i64 kk, .slice Al ls.length kl, .slice Ad da.length kd] 56))) := Lib.hid (by
      rw [HQ.out, if_pos hk]
      exact ⟨none, 0, none, 0, rfl, ⟨Nat.le_refl _, Nat.zero_le _, SA.nil⟩, HB.out, fun h => by simp at h, Nat.le_refl _⟩)
    clear hk HQ HS HM
    generalize PrPost w Al kl q = R at *
    go_enter Tryz.func28, Tryz.ntmps28
    go_wp2_with fail
    go_ret3
    first | exact HF.out | (have h9 := HF.out; simpa using h9)
end Go.Proofs.YtjljknocnebnaaaGreatDoor
namespace Go.Proofs.YtjljknocnebnaaaGreatDoor
open Go.RowKit Go.V Go.Shelf
set_option linter.unusedVariables false

theorem M2.below {w w' : World} (h : M2 w) (hb : Below w.heap.size w w') : M2 w' := by
  obtain ⟨m, hm⟩ := h
  exact ⟨m, (hb.cell (p := ⟨2, 0, none⟩) (World.block_lt_of_cell? w _ hm)).trans hm⟩
theorem own_ne {w : World} {b1 b2 : Nat} {e1 e2 : TypeId} {s1 s2 n1 n2 : Nat} {v1 v2 : Value} {x1 x2 : List Value} (h1 : w.ownsRow b1 e1 s1 v1 n1 x1) (h2 : w.ownsRow b2 e2 s2 v2 n2 x2) (he : e1 ≠ e2) :
    ∀ g, v1.ownBlock = some g → v2.ownBlock ≠ some g := by
  intro g hg hg2
  rcases h1.2 with ⟨rfl, _⟩ | ⟨g1, c1, cur1, rfl, _, hh1, _⟩
  · cases hg
  · rcases h2.2 with ⟨rfl, _⟩ | ⟨g2, c2, cur2, rfl, _, hh2, _⟩
    · cases hg2
    · have e1' : g1 = g := by simpa [Value.ownBlock] using hg
      have e2' : g2 = g := by simpa [Value.ownBlock] using hg2
      subst e1'
      subst e2'
      exact Blk.ne_ (t := e1) hh1 hh2 he rfl
theorem own_kept_ne {w w' : World} {b1 b2 : Nat} {e1 e2 : TypeId} {s1 s2 n1 n2 : Nat} {v1 v2 : Value} {x1 x2 : List Value} (h1 : w.ownsRow b1 e1 s1 v1 n1 x1) (h2 : w.ownsRow b2 e2 s2 v2 n2 x2) (he : e1 ≠ e2) (hg : w.grownBy w' v1.ownBlock) :
    w'.ownsRow b2 e2 s2 v2 n2 x2 := by
  refine h2.kept hg ?_
  rcases hu : v2.ownBlock with _ | g2
  · exact .inl rfl
  · rcases hv : v1.ownBlock with _ | g
    · exact .inr (by simp)
    · exact .inr fun e => own_ne h1 h2 he g hv (hu.trans e)
/-- The blocks of an object that is being made. -/
abbrev Rx (g : Nat) (Al : Option Addr) (nl cl : Nat) (Ad : Option Addr) (nd cd : Nat) : Nat → Prop := Or2 (fun b => b = g) (.slice Al nl cl) (.slice Ad nd cd)
structure RtSt (w wr : World) (g : Nat) (ls : List Int) (da : List UInt8) (Al : Option Addr) (cl : Nat) (Ad : Option Addr) (cd : Nat) : Prop where
  sb : Blk wr g 56 #[.int .i64 2, .slice Al ls.length cl, .slice Ad da.length cd]
  ol : wr.ownsRow (g + 1) 3 1 (.slice Al ls.length cl) ls.length (intsV ls)
  od : wr.ownsRow (g + 1) 5 1 (.slice Ad da.length cd) da.length (bytesV da)
  hg : w.heap.size ≤ g
  bel : Below w.heap.size w wr
section
variable {w wr w' : World} {g : Nat} {ls : List Int} {da : List UInt8} {Al : Option Addr} {cl : Nat} {Ad : Option Addr} {cd : Nat}
theorem RtSt.below (h : RtSt w wr g ls da Al cl Ad cd) (hb : Below wr.heap.size wr w') : RtSt w w' g ls da Al cl Ad cd :=
  ⟨h.sb.below hb h.sb.lt, h.ol.kept (only_of_below hb none) (by cases hv : (Value.slice Al ls.length cl).ownBlock <;> simp), h.od.kept (only_of_below hb none) (by cases hv : (Value.slice Ad da.length cd).ownBlock <;> simp), h.hg, h.bel.trans (hb.mono h.bel.size)⟩
/-- The blocks of the object lie in the world at hand. -/
theorem RtSt.under (h : RtSt w wr g ls da Al cl Ad cd) : ∀ b, Rx g Al ls.length cl Ad da.length cd b → b < wr.heap.size := by
  rintro b (rfl | hb | hb)
  · exact h.sb.lt
  · exact (h.ol.lt b hb).2
  · exact (h.od.lt b hb).2
theorem RtSt.over (h : RtSt w wr g ls da Al cl Ad cd) : ∀ b, Rx g Al ls.length cl Ad da.length cd b → w.heap.size ≤ b := by
  have := h.hg
  rintro b (rfl | hb | hb)
  · exact h.hg
  · have := (h.ol.lt b hb).1; omega
  · have := (h.od.lt b hb).1; omega
/-- A link has been appended. -/
theorem RtSt.appL (h : RtSt w wr g ls da Al cl Ad cd) {w4 : World} {A4 : Option Addr} {c4 : Nat} {d : Int}
    (hg : wr.grownBy w4 (Value.slice Al ls.length cl).ownBlock) (hown : w4.ownsRow (g + 1) 3 1 (.slice A4 (ls.length + 1) c4) (ls.length + 1) (intsV ls ++ [.int .i64 d])) :
    RtSt w (w4.setCell ⟨g, 1, none⟩ (.slice A4 (ls.length + 1) c4)) g (ls ++ [d]) da A4 c4 Ad cd := by
  have hl : (ls ++ [d]).length = ls.length + 1 := by simp
  have hlo : ∀ b, (Value.slice Al ls.length cl).ownBlock = some b → g + 1 ≤ b := fun b hb => (h.ol.lt b hb).1
  have sb4 := h.sb.grown hg (fun e => by have := hlo _ e.symm; omega)
  have od4 := own_kept_ne h.ol h.od (by decide) hg
  refine ⟨by rw [hl]; simpa using sb4.set_ 1 (.slice A4 (ls.length + 1) c4), ?_, ?_, h.hg, ?_⟩
  · rw [hl, intsV_append]; exact own_setCell hown (fun e => by have := (hown.lt _ e.symm).1; simp only at this; omega) _
  · exact own_setCell od4 (fun e => by have := (od4.lt _ e.symm).1; simp only at this; omega) _
  · exact (h.bel.grown hg h.bel.size (fun b hb => by have := hlo b hb; have := h.hg; omega)).setCell h.hg _
theorem RtSt.keepL (h : RtSt w wr g ls da Al cl Ad cd) {w4 : World} {A4 : Option Addr} {n4 c4 : Nat} {u : Value}
    (hg : wr.grownBy w4 (Value.slice Al ls.length cl).ownBlock) (hb : (Value.slice A4 n4 c4).ownBlock = (Value.slice Al ls.length cl).ownBlock ∨ (Value.slice A4 n4 c4).ownBlock = some wr.heap.size) :
    Keeps wr (Rx g Al ls.length cl Ad da.length cd) (w4.setCell ⟨g, 1, none⟩ u) (Rx g A4 n4 c4 Ad da.length cd) :=
  (Keeps.or2a hg rfl hb).trans (Keeps.setCell w4 _ ⟨g, 1, none⟩ u (.inl rfl))
/-- Bytes have been appended. -/
theorem RtSt.appD (h : RtSt w wr g ls da Al cl Ad cd) {w4 : World} {A4 : Option Addr} {c4 : Nat} {x : List UInt8}
    (hg : wr.grownBy w4 (Value.slice Ad da.length cd).ownBlock) (hown : w4.ownsRow (g + 1) 5 1 (.slice A4 (da.length + x.length) c4) (da.length + x.length) (bytesV da ++ bytesV x)) :
    RtSt w (w4.setCell ⟨g, 2, none⟩ (.slice A4 (da.length + x.length) c4)) g ls (da ++ x) Al cl A4 c4 := by
  have hl : (da ++ x).length = da.length + x.length := by simp
  have hlo : ∀ b, (Value.slice Ad da.length cd).ownBlock = some b → g + 1 ≤ b := fun b hb => (h.od.lt b hb).1
  have sb4 := h.sb.grown hg (fun e => by have := hlo _ e.symm; omega)
  have ol4 := own_kept_ne h.od h.ol (by decide) hg
  refine ⟨by rw [hl]; simpa using sb4.set_ 2 (.slice A4 (da.length + x.length) c4), ?_, ?_, h.hg, ?_⟩
  · exact own_setCell ol4 (fun e => by have := (ol4.lt _ e.symm).1; simp only at this; omega) _
  · rw [hl, bytesV_append]; exact own_setCell hown (fun e => by have := (hown.lt _ e.symm).1; simp only at this; omega) _
  · exact (h.bel.grown hg h.bel.size (fun b hb => by have := hlo b hb; have := h.hg; omega)).setCell h.hg _
theorem RtSt.keepD (h : RtSt w wr g ls da Al cl Ad cd) {w4 : World} {A4 : Option Addr} {n4 c4 : Nat} {u : Value}
    (hg : wr.grownBy w4 (Value.slice Ad da.length cd).ownBlock) (hb : (Value.slice A4 n4 c4).ownBlock = (Value.slice Ad da.length cd).ownBlock ∨ (Value.slice A4 n4 c4).ownBlock = some wr.heap.size) :
    Keeps wr (Rx g Al ls.length cl Ad da.length cd) (w4.setCell ⟨g, 2, none⟩ u) (Rx g Al ls.length cl A4 n4 c4) :=
  (Keeps.or2b hg rfl hb).trans (Keeps.setCell w4 _ ⟨g, 2, none⟩ u (.inl rfl))
/-- What has been made reads as an object. -/
theorem RtSt.ob (h : RtSt w wr g ls da Al cl Ad cd) (hI : ∀ (i : Nat) (h : i < ls.length), I64 ls[i]) (h1 : ls.length ≤ 140737488351232) (h2 : da.length ≤ 140737488351232) {X : Nat → Prop} (hX : ∀ b, X b → b < w.heap.size) : ObA wr X ⟨2, ls, da⟩ Al cl Ad cd := by
  obtain ⟨_, _, e1, k1, _⟩ := own_form h.ol
  obtain ⟨_, _, e2, k2, _⟩ := own_form h.od
  injection e1 with _ _ e1
  injection e2 with _ _ e2
  subst e1
  subst e2
  have := h.hg
  exact ⟨by show I64 2; unfold I64; omega, hI, k1, k2, h1, h2, SA.of_own h.ol (fun b hb => by have := hX b hb; omega), SA.of_own h.od (fun b hb => by have := hX b hb; omega)⟩
theorem RtSt.start (w wr : World) (hb : Below w.heap.size w wr) (g : Nat) (hg : w.heap.size ≤ g) (hs : Blk wr g 56 #[.int .i64 2, .slice none 0 0, .slice none 0 0]) : RtSt w wr g [] [] none 0 none 0 :=
  ⟨hs, World.ownsRow_nil _ _ _ _, World.ownsRow_nil _ _ _ _, hg, hb⟩
end
end Go.Proofs.YtjljknocnebnaaaGreatDoor
