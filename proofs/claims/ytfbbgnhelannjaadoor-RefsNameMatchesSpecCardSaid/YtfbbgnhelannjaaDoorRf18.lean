/-
  RefsNameMatchesSpec: the law's walk.
-/
import Derived.Test.YtfbbgnhelannjaaDoorRf17
namespace Go.Proofs.YtfbbgnhelannjaaDoor
open Go.RowKit Go.V Go.Shelf Go.Lib
set_option linter.unusedVariables false

theorem law3_any (w : World) (hm : Mx w) (l : List UInt8) : Calls Tryd.prog 3 #[strV l] w fun e w' => e = .returned (.bool true) ∧ Below w.heap.size w w' := by
  have HE := Lib.hid (example_any w hm)
  have HN1 := Lib.hid (fun (w1 : World) (hb : Below w.heap.size w w1) => name_any w1 (hm.below hb) [104, 101, 97, 100, 115, 47, 109, 97, 105, 110])
  have HN2 := Lib.hid (fun (w1 : World) (hb : Below w.heap.size w w1) => name_any w1 (hm.below hb) l)
  have HN3 := Lib.hid (fun (w1 : World) => refName_any w1 l)
  rw [Rf.ex_name] at HN1
  clear hm
  generalize Rf.nameOk l = q at *
  go_enter Tryd.func3, Tryd.ntmps3
  go_wp2_with fail
  go_at_call 15
  refine HE.out.mono ?_
  rintro e w1 ⟨rfl, hb1⟩
  go_wp2_with fail
  go_at_call 16
  refine (HN1.out _ hb1).mono ?_
  rintro e w2 ⟨rfl, hb2⟩
  have hb3 := hb1.trans (hb2.mono hb1.size)
  go_wp2_with fail
  go_at_call 16
  refine (HN2.out _ hb3).mono ?_
  rintro e w3 ⟨rfl, hb4⟩
  have hb5 := hb3.trans (hb4.mono hb3.size)
  go_wp2_with fail
  go_at_call 17
  refine (HN3.out _).mono ?_
  rintro e w4 ⟨rfl, hb6⟩
  have hb7 := hb5.trans (hb6.mono hb5.size)
  go_wp2_with fail
  go_ret
  exact ⟨by simp, hb7⟩
end Go.Proofs.YtfbbgnhelannjaaDoor
