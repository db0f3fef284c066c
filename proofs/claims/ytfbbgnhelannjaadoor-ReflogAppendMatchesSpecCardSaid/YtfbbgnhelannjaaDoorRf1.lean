/-
  References: walk of 'component'.
-/
import Derived.Test.YtfbbgnhelannjaaDoorShelf
import Derived.Shelf.Strings.SlTrimAscii
import Derived.Laws.RangeString
import Derived.WalkKit
import Derived.Lib.Hide
import Derived.Below
import Derived.Deep.Draws
namespace Rf
/-- The letters of a component. -/
def letters : List UInt8 := [97, 98, 99, 100, 101, 102, 103, 104, 105, 106, 107, 108, 109, 110, 111, 112, 113, 114, 115, 116, 117, 118, 119, 120, 121, 122, 48, 49, 50, 51, 52, 53, 54, 55, 56, 57, 45, 95, 46]
def badR (c : Nat) : Bool := (decide (c < 97) || decide (122 < c)) && (decide (c < 48) || decide (57 < c)) && decide (c ≠ 45) && decide (c ≠ 95) && decide (c ≠ 46)
theorem letters_ok (b : UInt8) : letters.contains b = !badR b.toNat := by
  revert b
  have : ∀ n : Fin 256, letters.contains (UInt8.ofNat n.val) = !badR (UInt8.ofNat n.val).toNat := by decide +kernel
  intro b
  have h := this ⟨b.toNat, b.toNat_lt⟩
  simpa using h
/-- A component of a name. -/
def comp (l : List UInt8) : Bool := !l.isEmpty && !(l[0]?.getD 0 == 46) && !(Go.Lib.hasSuffix l [46, 108, 111, 99, 107]) && !(Go.Lib.contains l [46, 46]) && l.all (fun b => letters.contains b)
theorem dw_nil (p : UInt8 → Bool) : ∀ l : List UInt8, l.dropWhile p = [] ↔ ∀ x ∈ l, p x = true
  | [] => by simp
  | a :: l => by
    by_cases ha : p a = true
    · rw [List.dropWhile_cons_of_pos ha, dw_nil p l]; simp [ha]
    · rw [List.dropWhile_cons_of_neg ha]; simp [ha]
theorem trim_nil (l cs : List UInt8) : (Go.Lib.trimS l cs).isEmpty = l.all (fun b => cs.contains b) := by
  rw [Bool.eq_iff_iff, List.isEmpty_iff, List.all_eq_true]
  unfold Go.Lib.trimS Go.Lib.trimLeftS Go.Lib.trimRightS
  constructor
  · intro h
    have h1 : ∀ x ∈ (l.reverse.dropWhile (cs.contains ·)).reverse, cs.contains x = true := by
      intro x hx
      by_cases hc : cs.contains x = true
      · exact hc
      · exfalso
        have : (List.dropWhile (cs.contains ·) ((l.reverse.dropWhile (cs.contains ·)).reverse)) ≠ [] := by
          intro h0
          rw [dw_nil] at h0
          exact hc (h0 x hx)
        exact this h
    have h2 : l.reverse.dropWhile (cs.contains ·) = [] := by
      cases hd : l.reverse.dropWhile (cs.contains ·) with
      | nil => rfl
      | cons a r =>
        exfalso
        have ha : cs.contains a = true := h1 a (by rw [hd]; simp)
        have := List.head_dropWhile_not (p := (cs.contains ·)) (l := l.reverse) (by rw [hd]; simp)
        simp only [hd, List.head_cons] at this
        rw [ha] at this; cases this
    intro x hx
    rw [dw_nil] at h2
    exact h2 x (by simpa using hx)
  · intro h
    have h2 : l.reverse.dropWhile (cs.contains ·) = [] := by
      rw [dw_nil]
      intro x hx; exact h x (by simpa using hx)
    rw [h2]; rfl
end Rf
namespace Go.Proofs.YtfbbgnhelannjaaDoor
open Go.RowKit Go.Shelf Go.Lib
set_option linter.unusedVariables false

/-- A string of bytes. -/
abbrev strV (l : List UInt8) : Value := .string ⟨l.toArray⟩
theorem badR_any (W : World) (x : Nat) (h : x ≤ 1114111) : FnGives Tryd.prog 62 #[] #[encR x] (.bool (Rf.badR x)) W := by
  unfold FnGives encR
  have hcase : (0 ≤ x ∧ x ≤ 44) ∨ x = 45 ∨ x = 46 ∨ x = 47 ∨ (48 ≤ x ∧ x ≤ 57) ∨ (58 ≤ x ∧ x ≤ 94) ∨ x = 95 ∨ x = 96 ∨ (97 ≤ x ∧ x ≤ 122) ∨ (123 ≤ x ∧ x ≤ 1114111) := by omega
  rcases hcase with ⟨h1, h2⟩ | rfl | rfl | rfl | ⟨h1, h2⟩ | ⟨h1, h2⟩ | rfl | rfl | ⟨h1, h2⟩ | ⟨h1, h2⟩
  · have HQ : Hid (Rf.badR x = true) := Lib.hid (by
      unfold Rf.badR
      rw [Bool.eq_iff_iff]
      simp only [Bool.and_eq_true, Bool.or_eq_true, decide_eq_true_eq]
      simp
      try omega)
    have f0 : (x : Int) < 97 := by omega
    have d0 : decide ((x : Int) < 97) = true := by simp; omega
    have f1 : ¬ (122 : Int) < x := by omega
    have d1 : decide ((122 : Int) < x) = false := by simp; omega
    have f2 : (x : Int) < 48 := by omega
    have d2 : decide ((x : Int) < 48) = true := by simp; omega
    have f3 : ¬ (57 : Int) < x := by omega
    have d3 : decide ((57 : Int) < x) = false := by simp; omega
    have g45 : ((x : Int) != 45) = true := by simp; omega
    have g95 : ((x : Int) != 95) = true := by simp; omega
    have g46 : ((x : Int) != 46) = true := by simp; omega
    go_enter Tryd.func62, Tryd.ntmps62
    go_wp2
    go_ret
    exact ⟨by rw [HQ.out]; rfl, 0, rfl⟩
  · have HQ : Hid (Rf.badR 45 = false) := Lib.hid (by decide)
    go_enter Tryd.func62, Tryd.ntmps62
    go_wp2
    go_ret
    exact ⟨by rw [HQ.out]; rfl, 0, rfl⟩
  · have HQ : Hid (Rf.badR 46 = false) := Lib.hid (by decide)
    go_enter Tryd.func62, Tryd.ntmps62
    go_wp2
    go_ret
    exact ⟨by rw [HQ.out]; rfl, 0, rfl⟩
  · have HQ : Hid (Rf.badR 47 = true) := Lib.hid (by decide)
    go_enter Tryd.func62, Tryd.ntmps62
    go_wp2
    go_ret
    exact ⟨by rw [HQ.out]; rfl, 0, rfl⟩
  · have HQ : Hid (Rf.badR x = false) := Lib.hid (by
      unfold Rf.badR
      rw [Bool.eq_iff_iff]
      simp only [Bool.and_eq_true, Bool.or_eq_true, decide_eq_true_eq]
      simp
      try omega)
    have f0 : (x : Int) < 97 := by omega
    have d0 : decide ((x : Int) < 97) = true := by simp; omega
    have f1 : ¬ (122 : Int) < x := by omega
    have d1 : decide ((122 : Int) < x) = false := by simp; omega
    have f2 : ¬ (x : Int) < 48 := by omega
    have d2 : decide ((x : Int) < 48) = false := by simp; omega
    have f3 : ¬ (57 : Int) < x := by omega
    have d3 : decide ((57 : Int) < x) = false := by simp; omega
    have g45 : ((x : Int) != 45) = true := by simp; omega
    have g95 : ((x : Int) != 95) = true := by simp; omega
    have g46 : ((x : Int) != 46) = true := by simp; omega
    go_enter Tryd.func62, Tryd.ntmps62
    go_wp2
    go_ret
    exact ⟨by rw [HQ.out]; rfl, 0, rfl⟩
  · have HQ : Hid (Rf.badR x = true) := Lib.hid (by
      unfold Rf.badR
      rw [Bool.eq_iff_iff]
      simp only [Bool.and_eq_true, Bool.or_eq_true, decide_eq_true_eq]
      simp
      try omega)
    have f0 : (x : Int) < 97 := by omega
    have d0 : decide ((x : Int) < 97) = true := by simp; omega
    have f1 : ¬ (122 : Int) < x := by omega
    have d1 : decide ((122 : Int) < x) = false := by simp; omega
    have f2 : ¬ (x : Int) < 48 := by omega
    have d2 : decide ((x : Int) < 48) = false := by simp; omega
    have f3 : (57 : Int) < x := by omega
    have d3 : decide ((57 : Int) < x) = true := by simp; omega
    have g45 : ((x : Int) != 45) = true := by simp; omega
    have g95 : ((x : Int) != 95) = true := by simp; omega
    have g46 : ((x : Int) != 46) = true := by simp; omega
    go_enter Tryd.func62, Tryd.ntmps62
    go_wp2
    go_ret
    exact ⟨by rw [HQ.out]; rfl, 0, rfl⟩
  · have HQ : Hid (Rf.badR 95 = false) := Lib.hid (by decide)
    go_enter Tryd.func62, Tryd.ntmps62
    go_wp2
    go_ret
    exact ⟨by rw [HQ.out]; rfl, 0, rfl⟩
  · have HQ : Hid (Rf.badR 96 = true) := Lib.hid (by decide)
    go_enter Tryd.func62, Tryd.ntmps62
    go_wp2
    go_ret
    exact ⟨by rw [HQ.out]; rfl, 0, rfl⟩
  · have HQ : Hid (Rf.badR x = false) := Lib.hid (by
      unfold Rf.badR
      rw [Bool.eq_iff_iff]
      simp only [Bool.and_eq_true, Bool.or_eq_true, decide_eq_true_eq]
      simp
      try omega)
    have f0 : ¬ (x : Int) < 97 := by omega
    have d0 : decide ((x : Int) < 97) = false := by simp; omega
    have f1 : ¬ (122 : Int) < x := by omega
    have d1 : decide ((122 : Int) < x) = false := by simp; omega
    have f2 : ¬ (x : Int) < 48 := by omega
    have d2 : decide ((x : Int) < 48) = false := by simp; omega
    have f3 : (57 : Int) < x := by omega
    have d3 : decide ((57 : Int) < x) = true := by simp; omega
    have g45 : ((x : Int) != 45) = true := by simp; omega
    have g95 : ((x : Int) != 95) = true := by simp; omega
    have g46 : ((x : Int) != 46) = true := by simp; omega
    go_enter Tryd.func62, Tryd.ntmps62
    go_wp2
    go_ret
    exact ⟨by rw [HQ.out]; rfl, 0, rfl⟩
  · have HQ : Hid (Rf.badR x = true) := Lib.hid (by
      unfold Rf.badR
      rw [Bool.eq_iff_iff]
      simp only [Bool.and_eq_true, Bool.or_eq_true, decide_eq_true_eq]
      simp
      try omega)
    have f0 : ¬ (x : Int) < 97 := by omega
    have d0 : decide ((x : Int) < 97) = false := by simp; omega
    have f1 : (122 : Int) < x := by omega
    have d1 : decide ((122 : Int) < x) = true := by simp; omega
    have f2 : ¬ (x : Int) < 48 := by omega
    have d2 : decide ((x : Int) < 48) = false := by simp; omega
    have f3 : (57 : Int) < x := by omega
    have d3 : decide ((57 : Int) < x) = true := by simp; omega
    have g45 : ((x : Int) != 45) = true := by simp; omega
    have g95 : ((x : Int) != 95) = true := by simp; omega
    have g46 : ((x : Int) != 46) = true := by simp; omega
    go_enter Tryd.func62, Tryd.ntmps62
    go_wp2
    go_ret
    exact ⟨by rw [HQ.out]; rfl, 0, rfl⟩
theorem idx_none (p : Nat → Bool) (s : ByteArray) (h : ∀ i (hi : i < s.size), (s[i]'hi).toNat < 128 ∧ p (s[i]'hi).toNat = false) : ∀ f pos, idxFuncFrom p true s f pos = -1
  | 0, _ => rfl
  | f + 1, pos => by
    unfold idxFuncFrom
    split
    · rename_i hp
      rw [decode_ascii s pos hp (h pos hp).1]
      rw [if_neg (by rw [(h pos hp).2]; simp)]
      exact idx_none p s h f _
    · rfl
theorem idx_ok {l : List UInt8} (h : (l.all fun b => Rf.letters.contains b) = true) : decide (0 ≤ Lib.idxFunc Rf.badR true ⟨l.toArray⟩) = false := by
  have : Lib.idxFunc Rf.badR true ⟨l.toArray⟩ = -1 := by
    refine idx_none Rf.badR ⟨l.toArray⟩ (fun i hi => ?_) _ _
    have hi' : i < l.length := by simpa [ByteArray.size] using hi
    have e : (⟨l.toArray⟩ : ByteArray)[i]'hi = l[i] := rfl
    rw [e]
    have hm := List.all_eq_true.1 h l[i] (List.getElem_mem hi')
    have hb := Rf.letters_ok l[i]
    rw [hm] at hb
    refine ⟨?_, by simpa using hb.symm⟩
    have : ∀ b ∈ Rf.letters, b.toNat < 128 := by decide
    exact this _ (by simpa using hm)
  rw [this]; rfl
set_option maxRecDepth 100000 in
set_option maxHeartbeats 4000000 in
theorem component_any (w : World) (l : List UInt8) (hl : l.length ≤ 60) (m : Int) (hm : w.cell? ⟨0, 0, none⟩ = some (.int .i64 m)) :
    Calls Tryd.prog 42 #[strV l] w fun e w' => e = .returned (.bool (Rf.comp l)) ∧ Below w.heap.size w w' := by
  have hsz : (⟨l.toArray⟩ : ByteArray).size = l.length := by simp [ByteArray.size]
  have HSUF := Lib.hid (Tryd.strings_HasSuffix ⟨l.toArray⟩ ⟨#[46, 108, 111, 99, 107]⟩ w (by rw [hsz]; omega))
  have HCON := Lib.hid (Tryd.strings_Contains ⟨l.toArray⟩ ⟨#[46, 46]⟩ m w (by rw [hsz]; omega) hm)
  have hT := Any.strings_Trim_laid Tryd.lays160 (by kernel_rfl) ⟨l.toArray⟩ ⟨Rf.letters.toArray⟩ w (by rw [hsz]; omega) (by decide) (ascii_of_all (by decide))
  change Calls Tryd.prog 60 _ _ (fun e w' => e = .returned (.string ⟨(Lib.trimS l Rf.letters).toArray⟩) ∧ Below w.heap.size w w') at hT
  have HT := Lib.hid hT
  have HC := Lib.hid (fun (w1 : World) => Tryd.strings_ContainsFunc_runes 62 #[] (enters_of Tryd.func62 (by kernel_rfl) rfl) Rf.badR ⟨l.toArray⟩ w1 (fun W x hx _ => badR_any W x hx))
  have HTN := Lib.hid (Rf.trim_nil l Rf.letters)
  have HIX := Lib.hid (fun h => idx_ok (l := l) h)
  have HDEF := Lib.hid (show Rf.comp l = (!l.isEmpty && !(l[0]?.getD 0 == 46) && !(Lib.hasSuffix l [46, 108, 111, 99, 107]) && !(Lib.contains l [46, 46]) && l.all (fun b => Rf.letters.contains b)) from rfl)
  clear hT hsz
  generalize Rf.comp l = q at *
  by_cases h0 : l = []
  · subst h0
    have HQ : Hid (q = false) := Lib.hid (by rw [HDEF.out]; rfl)
    clear HSUF HCON HT HC HTN HIX HDEF
    go_enter Tryd.func42, Tryd.ntmps42
    go_wp2_with fail
    go_ret
    exact ⟨by rw [HQ.out]; rfl, Below.refl _ _⟩
  · obtain ⟨b, r, rfl⟩ : ∃ b r, l = b :: r := by cases l with | nil => exact absurd rfl h0 | cons b r => exact ⟨b, r, rfl⟩
    clear h0
    by_cases hb : b = 46
    · subst hb
      have HQ : Hid (q = false) := Lib.hid (by rw [HDEF.out]; simp)
      clear HSUF HCON HT HC HTN HIX HDEF
      go_enter Tryd.func42, Tryd.ntmps42
      go_wp2_with fail
      go_ret
      exact ⟨by rw [HQ.out]; rfl, Below.refl _ _⟩
    · have hbi : ((b.toNat : Int) == 46) = false := by
        have : b.toNat ≠ 46 := fun e => hb (by rw [← UInt8.toNat_inj]; exact e)
        simp; omega
      have hget : ∀ h, (⟨(b :: r).toArray⟩ : ByteArray)[0]'h = b := fun _ => rfl
      have hb8 : (b == 46) = false := by simpa using hb
      clear hb
      by_cases h1 : Lib.hasSuffix (b :: r) [46, 108, 111, 99, 107] = true
      · have HQ : Hid (q = false) := Lib.hid (by rw [HDEF.out, h1]; simp)
        rw [show (⟨(b :: r).toArray⟩ : ByteArray).data.toList = b :: r from rfl, show (⟨#[46, 108, 111, 99, 107]⟩ : ByteArray).data.toList = [46, 108, 111, 99, 107] from rfl, h1] at HSUF
        clear HCON HT HC HTN HIX HDEF h1 hb8
        go_enter Tryd.func42, Tryd.ntmps42
        go_wp2_with (first | (go_at_call 58; refine HSUF.out.mono ?_; rintro e w' ⟨rfl, rfl⟩))
        go_ret
        exact ⟨by rw [HQ.out]; rfl, Below.refl _ _⟩
      · have h1f : Lib.hasSuffix (b :: r) [46, 108, 111, 99, 107] = false := by simpa using h1
        rw [show (⟨(b :: r).toArray⟩ : ByteArray).data.toList = b :: r from rfl, show (⟨#[46, 108, 111, 99, 107]⟩ : ByteArray).data.toList = [46, 108, 111, 99, 107] from rfl, h1f] at HSUF
        by_cases h2 : Lib.contains (b :: r) [46, 46] = true
        · have HQ : Hid (q = false) := Lib.hid (by rw [HDEF.out, h2]; simp)
          rw [show (⟨(b :: r).toArray⟩ : ByteArray).data.toList = b :: r from rfl, show (⟨#[46, 46]⟩ : ByteArray).data.toList = [46, 46] from rfl, h2] at HCON
          clear HT HC HTN HIX HDEF h1 h1f h2 hb8
          go_enter Tryd.func42, Tryd.ntmps42
          go_wp2_with (first | (go_at_call 58; refine HSUF.out.mono ?_; rintro e w' ⟨rfl, rfl⟩) | (go_at_call 59; refine HCON.out.mono ?_; rintro e w' ⟨rfl, rfl⟩))
          go_ret
          exact ⟨by rw [HQ.out]; rfl, Below.refl _ _⟩
        · have h2f : Lib.contains (b :: r) [46, 46] = false := by simpa using h2
          rw [show (⟨(b :: r).toArray⟩ : ByteArray).data.toList = b :: r from rfl, show (⟨#[46, 46]⟩ : ByteArray).data.toList = [46, 46] from rfl, h2f] at HCON
          by_cases h3 : ((b :: r).all fun b => Rf.letters.contains b) = true
          · have HQ : Hid (q = true) := Lib.hid (by rw [HDEF.out, h1f, h2f, h3, List.getElem?_cons_zero]; simp [hb8])
            have ht : Lib.trimS (b :: r) Rf.letters = [] := by have := HTN.out; rw [h3] at this; simpa using this
            rw [ht] at HT
            have HC2 := Lib.hid (fun w1 => (HC.out w1))
            rw [HIX.out h3] at HC
            clear HC2 HTN HIX HDEF h1 h1f h2 h2f h3 hb8 ht
            go_enter Tryd.func42, Tryd.ntmps42
            go_wp2_with (first | (go_at_call 58; refine HSUF.out.mono ?_; rintro e w' ⟨rfl, rfl⟩) | (go_at_call 59; refine HCON.out.mono ?_; rintro e w' ⟨rfl, rfl⟩) | (go_at_call 60; refine HT.out.mono ?_; rintro e w1 ⟨rfl, hb1⟩) | (go_at_call 61; refine (HC.out _).mono ?_; rintro e w2 ⟨rfl, hb2⟩))
            go_ret
            exact ⟨by rw [HQ.out]; rfl, hb1.trans (hb2.mono hb1.size)⟩
          · have h3f : ((b :: r).all fun b => Rf.letters.contains b) = false := by simpa using h3
            have HQ : Hid (q = false) := Lib.hid (by rw [HDEF.out, h3f]; simp)
            have ht : ∃ a c, Lib.trimS (b :: r) Rf.letters = a :: c := by
              have := HTN.out; rw [h3f] at this
              cases he : Lib.trimS (b :: r) Rf.letters with
              | nil => rw [he] at this; cases this
              | cons a c => exact ⟨a, c, rfl⟩
            obtain ⟨a, c, ht⟩ := ht
            rw [ht] at HT
            clear HC HTN HIX HDEF h1 h1f h2 h2f h3 h3f hb8 ht
            go_enter Tryd.func42, Tryd.ntmps42
            go_wp2_with (first | (go_at_call 58; refine HSUF.out.mono ?_; rintro e w' ⟨rfl, rfl⟩) | (go_at_call 59; refine HCON.out.mono ?_; rintro e w' ⟨rfl, rfl⟩) | (go_at_call 60; refine HT.out.mono ?_; rintro e w1 ⟨rfl, hb1⟩))
            go_ret
            exact ⟨by rw [HQ.out]; rfl, hb1⟩
end Go.Proofs.YtfbbgnhelannjaaDoor
