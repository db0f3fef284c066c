/-
  DeltachainEncodeMatchesSpec: the law's walk.
-/
import Derived.Test.YtiphcpibhffdjaaLaw1
import Derived.Test.YtiphcpibhffdjaaLaw3
import Derived.Test.YtiphcpibhffdjaaWalk7
import Derived.Test.YtiphcpibhffdjaaWalk8
import Derived.Deep.RegionHeld3
namespace Go.Proofs.Ytiphcpibhffdjaa
open Go.RowKit Go.V
set_option linter.unusedVariables false

theorem addB_len (out : List Dc.Op) (b : UInt8) : (Dc.addB out b).length ≤ out.length + 1 := by
  unfold Dc.addB
  split
  · split
    · simp
    · rename_i o ho hh
      have : 0 < out.length := by
        rcases out with _ | ⟨x, t⟩
        · simp at ho
        · simp
      first | (simp; done) | (simp; omega)
  · simp
theorem encGo_len (base : List UInt8) : ∀ (f : Nat) (out : List Dc.Op) (t : List UInt8), (Dc.encGo base f out t).length ≤ out.length + f
  | 0, out, t => by simp [Dc.encGo]
  | f + 1, out, [] => by simp only [Dc.encGo]; omega
  | f + 1, out, b :: t => by
    simp only [Dc.encGo]
    split
    · have := encGo_len base f (out ++ [⟨(Dc.longest base (b :: t)).1, (Dc.longest base (b :: t)).2, []⟩]) ((b :: t).drop (Dc.longest base (b :: t)).2)
      simp only [List.length_append, List.length_cons, List.length_nil] at this
      omega
    · have := encGo_len base f (Dc.addB out b) t
      have := addB_len out b
      omega
theorem encode_len (base target : List UInt8) : (Dc.encode base target).length ≤ target.length := by
  have := encGo_len base target.length [] target
  simpa [Dc.encode] using this
theorem below_drew {B : Nat} {a w : World} (h : Below B a w) : Below B a w.drew := below_drewN h 1
section
variable (w : World) (A1 A2 : Option Addr) (c1 c2 : Nat) (a b : List UInt8)

set_option maxRecDepth 100000 in
set_option maxHeartbeats 4000000 in
theorem encodeLaw_any (h1 : SV w w.heap.size A1 (bytesV a)) (h2 : SV w w.heap.size A2 (bytesV b)) (hc2 : b.length ≤ c2) (ha : a.length ≤ 9223372036854775807) (hb : b.length ≤ 9223372036854775807) :
    Calls Try.prog 3 #[.slice A1 a.length c1, .slice A2 b.length c2] w fun e w' => e = .returned (.bool true) ∧ Below w.heap.size w w' := by
  have HE := Lib.hid (fun (w1 : World) h1 h2 => encode_any w1 A1 A2 c1 c2 a b h1 h2 hc2 ha hb)
  go_enter Try.func3, Try.ntmps3
  go_wp2_with fail
  refine (example_any _).mono ?_
  rintro e w1 ⟨rfl, hbel1⟩
  have hsz1 := hbel1.size
  go_wp2_with fail
  refine (HE.out _ ((h1.below hbel1 (Nat.le_refl _)).more hsz1) ((h2.below hbel1 (Nat.le_refl _)).more hsz1)).mono ?_
  have HF : Hid (encF a b = if 1000 < a.length then ([], (10, 0)) else if 1000 < b.length then ([], (10, 1)) else (Dc.encode a b, (0, 0))) := Lib.hid rfl
  by_cases ha1 : 1000 < a.length
  · have e : encF a b = ([], (10, 0)) := by rw [HF.out, if_pos ha1]
    rw [e]
    clear HF e
    have ha2 : (1000 : Int) < a.length := by omega
    rintro e w2 ⟨v, rfl, ⟨A, c, vs, rfl, hc, hsv, hr⟩, hbel2'⟩
    have hbel2 := hbel1.trans (hbel2'.mono hsz1)
    have hsz2 := hbel2.size
    have hblk := Blk.new w2 26 #[.int .i64 10, .int .i64 0]
    have q0 := hblk.cell 0
    have q1 := hblk.cell 1
    have hb3 := below_drew (hbel2.alloc hsz2 (.cells #[.int .i64 10, .int .i64 0] 26))
    simp only [List.getElem?_toArray, List.getElem?_cons_zero, List.getElem?_cons_succ] at q0 q1
    simp only [List.length_nil]
    clear hsv hr hc hbel2'
    go_wp2_with fail
    go_region_held3 (fun w' => w'.cell? ⟨w2.heap.size, 0, none⟩ = some (.int .i64 10) ∧ w'.cell? ⟨w2.heap.size, 1, none⟩ = some (.int .i64 0)) (first | exact ⟨q0, q1⟩ | (constructor <;> (first | (simp [World.cell?_alloc_lt]; done) | (rw [World.cell?_alloc_lt _ _ _ (by simp)]; first | exact q0 | exact q1))))
      (first | (go_at_call 12; refine (fault_any _ _ _).mono ?_; rintro e w6 ⟨rfl, rfl⟩))
    go_wp2_with fail
    go_ret
    exact ⟨rfl, hb3.alloc hb3.size _⟩
  · have ha2 : (a.length : Int) ≤ 1000 := by omega
    by_cases hb1 : 1000 < b.length
    · have e : encF a b = ([], (10, 1)) := by rw [HF.out, if_neg ha1, if_pos hb1]
      rw [e]
      clear HF e
      have hb2 : (1000 : Int) < b.length := by omega
      rintro e w2 ⟨v, rfl, ⟨A, c, vs, rfl, hc, hsv, hr⟩, hbel2'⟩
      have hbel2 := hbel1.trans (hbel2'.mono hsz1)
      have hsz2 := hbel2.size
      have hblk := Blk.new w2 26 #[.int .i64 10, .int .i64 1]
      have q0 := hblk.cell 0
      have q1 := hblk.cell 1
      have hb3 := below_drew (hbel2.alloc hsz2 (.cells #[.int .i64 10, .int .i64 1] 26))
      simp only [List.getElem?_toArray, List.getElem?_cons_zero, List.getElem?_cons_succ] at q0 q1
      simp only [List.length_nil]
      clear hsv hr hc hbel2'
      go_wp2_with fail
      go_region_held3 (fun w' => w'.cell? ⟨w2.heap.size, 0, none⟩ = some (.int .i64 10) ∧ w'.cell? ⟨w2.heap.size, 1, none⟩ = some (.int .i64 1)) (first | exact ⟨q0, q1⟩ | (constructor <;> (first | (simp [World.cell?_alloc_lt]; done) | (rw [World.cell?_alloc_lt _ _ _ (by simp)]; first | exact q0 | exact q1))))
        (first | (go_at_call 12; refine (fault_any _ _ _).mono ?_; rintro e w6 ⟨rfl, rfl⟩))
      go_wp2_with fail
      go_ret
      exact ⟨rfl, hb3.alloc hb3.size _⟩
    · have e : encF a b = (Dc.encode a b, (0, 0)) := by rw [HF.out, if_neg ha1, if_neg hb1]
      rw [e]
      clear HF e
      have hb2 : (b.length : Int) ≤ 1000 := by omega
      have HD := Lib.hid (fun (w1 : World) h1 h2 => encodeDelta_any w1 A1 A2 c1 c2 a b h1 h2 (by omega) (by omega))
      have HDl := Lib.hid (show (Dc.encode a b).length ≤ 9223372036854775807 from by have := encode_len a b; omega)
      generalize Dc.encode a b = ops at *
      rintro e w2 ⟨v, rfl, ⟨A, c, vs, rfl, hc, hsv, hr⟩, hbel2'⟩
      have hbel2 := hbel1.trans (hbel2'.mono hsz1)
      have hsz2 := hbel2.size
      have hb3 := hbel2.alloc hsz2 (.cells #[.int .i64 0, .int .i64 0] 26)
      have hsz3 := hb3.size
      have hsv3 := (hsv.alloc (Nat.le_refl _) (.cells #[.int .i64 0, .int .i64 0] 26)).more (show w2.heap.size ≤ (w2.alloc (.cells #[.int .i64 0, .int .i64 0] 26)).heap.size by simp)
      have hr3 := ops_alloc hr (.cells #[.int .i64 0, .int .i64 0] 26)
      simp only at hc
      clear hsv hr hbel2'
      go_wp2_with fail
      go_at_call 14
      refine (HD.out _ ((h1.below hb3 (Nat.le_refl _)).more hsz3) ((h2.below hb3 (Nat.le_refl _)).more hsz3)).mono ?_
      rintro e w4 ⟨v4, rfl, ⟨A4, c4, vs4, rfl, hc4, hsv4, hr4⟩, hbel4⟩
      have hb4 := hb3.trans (hbel4.mono hsz3)
      have hsv5 := (hsv3.below hbel4 (Nat.le_refl _)).more hbel4.size
      have hr5 := ops_below hr3 hbel4
      clear HD hsv3 hr3
      go_wp2_with fail
      go_at_call 13
      refine (deltas_any w4 A A4 c c4 ops vs vs4 hsv5 hsv4 hr5 hr4 HDl.out).mono ?_
      rintro e w5 ⟨rfl, n, rfl⟩
      go_wp2_with fail
      go_ret
      exact ⟨rfl, below_drewN hb4 n⟩
end
end Go.Proofs.Ytiphcpibhffdjaa
