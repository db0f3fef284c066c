/-
  References: the library's 'strings.SplitSeq' at "/": its contract as an iterator.
-/
import Derived.Test.YtjfckjonfpkphaaDoorTrV
import Derived.Test.YtjfckjonfpkphaaDoorShelf
import Derived.Test.YtjfckjonfpkphaaDoorRangeB
import Derived.Test.YtjfckjonfpkphaaDoorRegIn
import Derived.RangeFuncBound
import Derived.RangeFuncCalls
import Derived.RangeFuncLeaves
import Derived.RangeFuncBox
import Derived.Shelf.Abstract
import Derived.Shelf.RegionOpen
import Derived.OwnWalkIn
import Derived.TacticsInMore
import Derived.LoopNIn
import Derived.LoopIn
import Derived.Outline
namespace Go.Proofs.YtjfckjonfpkphaaDoor
open Go.RowKit Go.V Go.Shelf Go.Lib
set_option linter.unusedVariables false
attribute [local go_sem] Oper.semAt_some

theorem indexByte_index (l : List UInt8) : Lib.indexByte l 47 = Lib.index l [47] := by
  induction l with
  | nil => simp [Lib.indexByte, Lib.index]
  | cons b l ih =>
    unfold Lib.indexByte Lib.index
    rw [← ih]
    by_cases h : b = 47
    · simp [h, List.isPrefixOf]
    · have h2 : ¬ (47 : UInt8) = b := fun e => h e.symm
      simp [h, h2, List.isPrefixOf]
/-- The bytes of the string in a cell, counted. -/
def strLen : Option Value → Nat
  | some (.string b) => b.size
  | _ => 0
theorem extract_take (l : List UInt8) (k : Nat) : (⟨l.toArray⟩ : ByteArray).extract 0 k = ⟨(l.take k).toArray⟩ := by
  apply ByteArray.ext
  rw [ByteArray.data_extract]
  simp
theorem extract_drop (l : List UInt8) (k n : Nat) (hn : l.length ≤ n) : (⟨l.toArray⟩ : ByteArray).extract k n = ⟨(l.drop k).toArray⟩ := by
  apply ByteArray.ext
  rw [ByteArray.data_extract]
  simp
  rw [List.take_of_length_le (by simp; omega)]
def splW (w : World) (l : List UInt8) : World := ((w.alloc (.cells #[strV l] 9)).alloc (.cells #[.string ⟨#[47]⟩] 9)).alloc (.cells #[.int .i64 0] 3)
def splC (w : World) : Array Value := #[.pointer (some ⟨w.heap.size + 1, 0, none⟩), .pointer (some ⟨w.heap.size, 0, none⟩), .pointer (some ⟨w.heap.size + 2, 0, none⟩)]
theorem splitSeq_in (n : Nat) (l : List UInt8) (w : World) :
    CallsIn Fence.wide n Tryd.prog 33 #[strV l, .string ⟨#[47]⟩, .int .i64 0] w fun e w' => e = .returned (.func (.func 40) #[] (splC w)) ∧ w' = splW w l := by
  refine callsIn_of_wp Tryd.func33 rfl trivial ?_ rfl
  simp only [Tryd.ntmps33, List.size_toArray, List.length_cons, List.length_nil, Nat.reduceAdd, Nat.reduceSub, Array.replicate_succ, Array.replicate_zero, List.push_toArray, List.append_toArray, List.nil_append, List.cons_append]
  gi_wp2
  go_ret
  exact ⟨rfl, rfl⟩
theorem SplitSeq_in (n : Nat) (hn : 1 ≤ n) (l : List UInt8) (w : World) :
    CallsIn Fence.wide n Tryd.prog 21 #[strV l, .string ⟨#[47]⟩] w fun e w' => e = .returned (.func (.func 40) #[] (splC w)) ∧ w' = splW w l := by
  refine callsIn_of_wp Tryd.func21 rfl trivial ?_ rfl
  simp only [Tryd.ntmps21, List.size_toArray, List.length_cons, List.length_nil, Nat.reduceAdd, Nat.reduceSub, Array.replicate_succ, Array.replicate_zero, List.push_toArray, List.append_toArray, List.nil_append, List.cons_append]
  gi_wp2_with (refine ⟨trivial, ?_⟩; gi_at_call 33; refine (splitSeq_in _ _ _).mono ?_; rintro e w' ⟨rfl, rfl⟩)
  go_ret
  exact ⟨rfl, rfl⟩
/-- What comes in a round: a part. -/
abbrev Cx := {x : List UInt8 // x.length ≤ 60}
/-- What a round keeps. -/
def KpS (B : Nat) (W W' : World) : Prop := Below B W W'
set_option maxRecDepth 100000 in
set_option maxHeartbeats 8000000 in
theorem split_in (n : Nat) (hn : 1 ≤ n) (w0 : World) (l : List UInt8) (hlen : l.length ≤ 60) :
    SeqB Fence.wide n Tryd.prog 40 (splC w0) (fun x : Cx => #[strV x.1]) (KpS (w0.heap.size + 3)) w0.heap.size (fun xs => xs.map (·.1) = Rf.comps l) (fun pre => ∃ r, Rf.comps l = pre.map (·.1) ++ r) (Rf.comps l).length (splW w0 l) := by
  intro lp J Jx W hW hJ hJx hB hBx hY h0
  have hb0 : Below (splW w0 l).heap.size (splW w0 l) W := hW
  have hsz0 : (splW w0 l).heap.size = w0.heap.size + 3 := by simp [splW]
  have bs : Blk W w0.heap.size 9 #[strV l] := ((((Blk.new w0 9 #[strV l]).alloc (.cells #[.string ⟨#[47]⟩] 9)).alloc (.cells #[.int .i64 0] 3)).below hb0 (by rw [hsz0]; omega) : _)
  have bp : Blk W (w0.heap.size + 1) 9 #[.string ⟨#[47]⟩] := ((show Blk (splW w0 l) (w0.heap.size + 1) 9 #[.string ⟨#[47]⟩] from by
    have := (Blk.new (w0.alloc (.cells #[strV l] 9)) 9 #[.string ⟨#[47]⟩]).alloc (.cells #[.int .i64 0] 3)
    simpa [splW] using this).below hb0 (by rw [hsz0]; omega))
  have bv : Blk W (w0.heap.size + 2) 3 #[.int .i64 0] := ((show Blk (splW w0 l) (w0.heap.size + 2) 3 #[.int .i64 0] from by
    have := Blk.new ((w0.alloc (.cells #[strV l] 9)).alloc (.cells #[.string ⟨#[47]⟩] 9)) 3 #[.int .i64 0]
    simpa [splW] using this).below hb0 (by rw [hsz0]; omega))
  refine callsIn_of_wp Tryd.func40 rfl trivial ?_ rfl
  simp only [splC, Tryd.ntmps40, List.size_toArray, List.length_cons, List.length_nil, Nat.reduceAdd, Nat.reduceSub, Array.replicate_succ, Array.replicate_zero, List.push_toArray, List.append_toArray, List.nil_append, List.cons_append]
  have hp0 := (bp.cell 0).trans rfl
  simp only [List.getElem?_toArray, List.getElem?_cons_zero] at hp0
  gi_wp2
  gi_loopw [] (fun wr => ∃ (pre : List Cx) (r : List UInt8), Hid (Rf.comps l = pre.map (·.1) ++ Rf.comps r) ∧ r.length ≤ 60 ∧ J pre wr ∧ Blk wr w0.heap.size 9 #[strV r] ∧ Blk wr (w0.heap.size + 1) 9 #[.string ⟨#[47]⟩] ∧ Blk wr (w0.heap.size + 2) 3 #[.int .i64 0])
    (fun wr => strLen (wr.cell? ⟨w0.heap.size, 0, none⟩))
  case atStart => exact ⟨[], l, Lib.hid rfl, hlen, h0, bs, bp, bv⟩
  case round =>
    obtain ⟨pre, r, HC, hr, hj, cs, cp, cv⟩ := hrel
    have q0 : wr.cell? ⟨w0.heap.size, 0, none⟩ = some (strV r) := (cs.cell 0).trans rfl
    have q1 : wr.cell? ⟨w0.heap.size + 1, 0, none⟩ = some (.string ⟨#[47]⟩) := (cp.cell 0).trans rfl
    have q2 : wr.cell? ⟨w0.heap.size + 2, 0, none⟩ = some (.int .i64 0) := (cv.cell 0).trans rfl
    have HX := Lib.hid (Tryd.strings_Index_one ⟨r.toArray⟩ 47 wr)
    have HY := Lib.hid hY
    have HJ := Lib.hid hj
    clear hY hj hJ hJx h0 hb0 hW
    rcases Rf.split47 r with hno | ⟨x, r2, rfl, hno⟩
    · have hix : Lib.indexByte r 47 = -1 := by rw [indexByte_index, Rf.index_no hno]
      have hc := Lib.hid (show Rf.comps l = pre.map (·.1) ++ [r] from by rw [HC.out, Rf.comps_no hno])
      rw [show (⟨r.toArray⟩ : ByteArray).data.toList = r from rfl, hix] at HX
      have hpl : pre.length < (Rf.comps l).length := by rw [hc.out]; simp
      clear hix HC hno
      obtain ⟨fn, tmps, assign, body, hy, hR⟩ := HY.out pre ⟨r, hr⟩ wr HJ.out hpl
      gi_wp2_with (refine ⟨trivial, ?_⟩; gi_at_call 42; refine (callsIn_wide.2 HX.out).mono ?_; rintro e w' ⟨rfl, rfl⟩)
      refine hR.mono ?_
      rintro e W3 (⟨rfl, hJ3, hk3⟩ | ⟨rfl, hJx3⟩)
      · gi_wp2
        go_end0
        exact ⟨⟨_, rfl⟩, .inl ⟨_, by rw [hc.out]; simp, hJ3⟩⟩
      · gi_wp2
        go_end0
        exact ⟨⟨_, rfl⟩, .inr ⟨_, ⟨[], by rw [hc.out]; simp⟩, hJx3⟩⟩
    · have hix : Lib.indexByte (x ++ 47 :: r2) 47 = (x.length : Int) := by rw [indexByte_index, Rf.index_sep r2 hno]
      have hc := Lib.hid (show Rf.comps l = pre.map (·.1) ++ x :: Rf.comps r2 from by rw [HC.out, Rf.comps_sep r2 hno])
      rw [show (⟨(x ++ 47 :: r2).toArray⟩ : ByteArray).data.toList = x ++ 47 :: r2 from rfl, hix] at HX
      have hpl : pre.length < (Rf.comps l).length := by rw [hc.out]; simp
      have e1 : (⟨(x ++ 47 :: r2).toArray⟩ : ByteArray).extract 0 x.length = ⟨x.toArray⟩ := by rw [extract_take]; simp
      have e2 : ∀ n, (x ++ 47 :: r2).length ≤ n → (⟨(x ++ 47 :: r2).toArray⟩ : ByteArray).extract (x.length + 1) n = ⟨r2.toArray⟩ := fun n hn => by rw [extract_drop _ _ _ hn]; simp [← List.drop_drop]
      have hl1 : x.length + r2.length + 1 ≤ 60 := by simpa [Nat.add_assoc] using hr
      have hsz : (⟨(x ++ 47 :: r2).toArray⟩ : ByteArray).size = x.length + r2.length + 1 := by simp [ByteArray.size]; omega
      clear hix HC hno hr
      obtain ⟨fn, tmps, assign, body, hy, hR⟩ := HY.out pre ⟨x, by omega⟩ wr HJ.out hpl
      gi_wp2_with (refine ⟨trivial, ?_⟩; gi_at_call 42; refine (callsIn_wide.2 HX.out).mono ?_; rintro e w' ⟨rfl, rfl⟩)
      refine hR.mono ?_
      rintro e W3 (⟨rfl, hJ3, hk3⟩ | ⟨rfl, hJx3⟩)
      · have cs3 := cs.below hk3 (by omega)
        have cp3 := cp.below hk3 (by omega)
        have cv3 := cv.below hk3 (by omega)
        have p0 : W3.cell? ⟨w0.heap.size, 0, none⟩ = some (strV (x ++ 47 :: r2)) := (cs3.cell 0).trans rfl
        have p1 : W3.cell? ⟨w0.heap.size + 1, 0, none⟩ = some (.string ⟨#[47]⟩) := (cp3.cell 0).trans rfl
        have pf := cs3.frozen 0
        have e2' := e2 _ (Nat.le_refl _)
        have e2'' := e2 (x.length + r2.length + 1) (by simp; omega)
        gi_wp2
        go_roundw
        case rel => exact ⟨_, r2, Lib.hid (by rw [hc.out]; simp), by omega, hB _ _ _ hJ3, by simpa using cs3.set_ 0 (strV r2), cp3.far (by simp) _, cv3.far (by simp) _⟩
        case measure =>
          have m1 := ((cs3.set_ 0 (strV r2)).cell 0)
          have m2 := (cs.cell 0)
          simp only [Array.setIfInBounds, List.size_toArray, List.length_cons, List.length_nil, List.getElem?_toArray, List.getElem?_cons_zero] at m1 m2
          simp at m1
          rw [m1, m2]
          simp [strLen, ByteArray.size]; omega
      · gi_wp2
        refine bodyPost_ret (results_none rfl _ _ _) rfl ?_
        exact ⟨⟨_, rfl⟩, .inr ⟨_, ⟨Rf.comps r2, by rw [hc.out]; simp⟩, hJx3⟩⟩
end Go.Proofs.YtjfckjonfpkphaaDoor
