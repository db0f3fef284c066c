/-
  A region that draws its order inside a round of a range over a function: where all its operations are plain (no call), what is shown outside a fence holds inside.
  References: the library's 'strings.SplitSeq' at "/": its contract as an iterator.
  File trees: walks of 'Letter', 'Related', 'Clash', of 'lines.Validate', 'lines.Second'.
  Objects: walks of 'check' and of the reference's 'ObjectFault'.
-/
import Derived.StillTailTactics
import Derived.OrdersIn
import Derived.TacticsIn
import Derived.KernelRfl
import Derived.Test.YtjljknocnebnaaaDoorG02
import Derived.RangeFuncBound
import Derived.RangeFuncCalls
import Derived.RangeFuncLeaves
import Derived.RangeFuncBox
import Derived.Shelf.Abstract
import Derived.Shelf.RegionOpen
import Derived.OwnWalkIn
import Derived.TacticsInMore
import Derived.LoopNIn
import Derived.LoopIn
import Derived.Outline
namespace Go.V

/-- An operation that calls nothing. -/
def plainB (o : Oper) : Bool :=
  match o.op with
  | .move _ | .assign _ | .pick _ _ _ | .load _ _ | .store _ _ _ | .fieldAddr _ _ _ | .indexAddr _ _ _ | .binOp _ _ _ _ _ | .unOp _ _ _ => true
  | _ => false

theorem plain_run {P : Program} {o : Oper} (hp : plainB o = true) (ρ : Operand → Value) (w : World) :
    (∃ v w', (execOp ρ o).run P w = .ok (.value v) w') ∨ (∃ w', (execOp ρ o).run P w = .ok .skip w') ∨ ∃ x w', (execOp ρ o).run P w = .halt x w' := by
  have hv : ∀ s : Sem Value, (∃ v w', ((do pure (Next.value (← s)) : Sem Next)).run P w = .ok (.value v) w') ∨ (∃ w', ((do pure (Next.value (← s)) : Sem Next)).run P w = .ok .skip w') ∨ ∃ x w', ((do pure (Next.value (← s)) : Sem Next)).run P w = .halt x w' := by
    intro s
    simp only [Sem.run_bind, Sem.run_pure]
    cases h : s.run P w with
    | ok v w' => exact .inl ⟨v, w', rfl⟩
    | halt x w' => exact .inr (.inr ⟨x, w', rfl⟩)
  have hu : ∀ s : Sem Unit, (∃ v w', ((do s; pure Next.skip : Sem Next)).run P w = .ok (.value v) w') ∨ (∃ w', ((do s; pure Next.skip : Sem Next)).run P w = .ok .skip w') ∨ ∃ x w', ((do s; pure Next.skip : Sem Next)).run P w = .halt x w' := by
    intro s
    simp only [Sem.run_bind, Sem.run_pure]
    cases h : s.run P w with
    | ok v w' => exact .inr (.inl ⟨w', rfl⟩)
    | halt x w' => exact .inr (.inr ⟨x, w', rfl⟩)
  unfold plainB at hp
  unfold execOp
  cases ho : o.op <;> rw [ho] at hp <;> first | cases hp | skip
  all_goals simp only
  case move x => exact .inl ⟨_, _, rfl⟩
  case assign x => exact .inl ⟨_, _, rfl⟩
  case pick c x y =>
    simp only [Sem.run_bind, Sem.run_pure]
    cases h : (asBool (ρ c)).run P w with
    | ok v w' => exact .inl ⟨_, w', rfl⟩
    | halt x w' => exact .inr (.inr ⟨x, w', rfl⟩)
  all_goals first | exact hv _ | exact hu _

theorem plain_about {P : Program} {o : Oper} (hp : plainB o = true) (w : World) (ρ : Operand → Value) : o.about P w ρ = none := by
  unfold plainB at hp
  unfold Oper.about
  cases ho : o.op with
  | call c => rw [ho] at hp; simp at hp
  | _ => rfl
/-- The region's end alone. -/
def NQ (K : Act → World → Prop) : Exit → Act → World → Prop
  | .normal => K
  | _ => fun _ _ => False
section
variable {F : Fence} {n : Nat} {P : Program} {ops : Array Oper} {Q : Exit → Act → World → Prop} {md : Region.Mode}
theorem plain_wpIn {o : Oper} (hp : plainB o = true) {a : Act} {w : World} {K : Act → World → Prop} (h : o.wp P a w K Q) : o.wpIn F n P a w K Q := by
  have hd : ∀ c, o.op ≠ .defer c := fun c e => by unfold plainB at hp; rw [e] at hp; cases hp
  have ha : ∀ f, o.about P w a.eval = some f → F.fn f := fun f hf => by
    exact absurd hf (by rw [plain_about hp]; simp)
  unfold Oper.wp at h
  refine ⟨ha, ?_⟩
  rw [Oper.semAt_eq _ _ _ hd]
  rcases plain_run (P := P) hp a.eval w with ⟨v, w', e⟩ | ⟨w', e⟩ | ⟨x, w', e⟩
  · rw [e] at h ⊢; exact h
  · rw [e] at h ⊢; exact h
  · rw [e] at h ⊢
    cases x <;> first | exact h | exact h.elim
theorem plain_wpOpIn {i : Nat} (hp : ∀ o, ops[i]? = some o → plainB o = true) {a : Act} {w : World} {K K' : Act → World → Prop} (hK : ∀ a w, K a w → K' a w) (hQ : ¬ LetsOut Q) (h : wpOp P ops Q i K a w) : wpOpIn F n P ops Q i K' a w := by
  refine wpOpIn_mono hK ?_
  unfold wpOp at h
  unfold wpOpIn
  cases ho : ops[i]? with
  | none => rw [ho] at h; exact h
  | some o =>
    rw [ho] at h
    simp only at h ⊢
    have hp' := hp o ho
    by_cases hw : Region.wanted o (yielded ops a.tmps) = true
    · rw [if_pos hw] at h ⊢
      rcases h with h | ⟨_, h⟩
      · exact plain_wpIn hp' h
      · exact absurd h hQ
    · rw [if_neg hw] at h ⊢
      exact ⟨fun f hf => absurd hf (by rw [plain_about hp']; simp), h⟩
theorem plain_wpAnyIn (hQ : ¬ LetsOut Q) (hp : ∀ (i : Nat) o, ops[i]? = some o → plainB o = true) : ∀ (f : Nat) (listed : Array Bool) (a : Act) (w : World), wpAny P md ops Q f listed a w → wpAnyIn F n P md ops Q f listed a w
  | 0, _, _, _, h => h
  | f + 1, _, _, _, h => ⟨h.1, fun i hi => plain_wpOpIn (hp i) (fun a w hh => plain_wpAnyIn hQ hp f _ a w hh) hQ (h.2 i hi)⟩

/-- Reads alone, then the rest in its one order: inside a fence. -/
theorem wpIn_region_reads {id : Nat} {a : Act} {w : World} {l : List Oper} (k : Nat) (hm : P.follows .mixedOrders = true) (hp : (l.all plainB) = true) (hB : Region.lexTailB .any l.toArray k = true)
    (h : wpStill P l.toArray { w with drawn := w.drawn + 1 } (fun a' => wpList P l.toArray (NQ (Q .normal)) (l.drop k) a' { w with drawn := w.drawn + 1 }) (l.take k) a) : (Code.region id l.toArray true).wpIn F n P Q a w := by
  refine Code.wpIn_mono (Q := NQ (Q .normal)) (fun e a w hh => by cases e <;> first | exact hh | exact hh.elim) ?_
  refine wpIn_region_any hm (plain_wpAnyIn (fun hh => by obtain ⟨_, _, hh⟩ := hh; exact hh) (fun i o ho => List.all_eq_true.1 hp o (List.mem_of_getElem? (i := i) (by simpa using ho))) _ _ _ _ ?_)
  unfold Region.lexTailB at hB
  rw [Bool.and_eq_true, Bool.and_eq_true, Bool.and_eq_true, Bool.and_eq_true] at hB
  have hk : k < l.length := by simpa using hB.1.1.1.2
  have e1 : (l.take k).length = k := List.length_take_of_le (by omega)
  have e2 : (l.drop k).length = l.length - k := List.length_drop
  have start : HeadInv .any l.toArray k (Array.replicate l.toArray.size false) := by
    refine ⟨by simp, fun j oj _ hl => ?_, fun t _ ht => ?_⟩
    · rw [getD_replicate_false] at hl; cases hl
    · exact getD_in (by simpa using ht) (getD_replicate_false _ _)
  have hd : l.toArray.size = (l.take k).length + (l.length - k) := by rw [e1]; simp; omega
  have begin_ := wpAnyL_lex (md := .any) (g := l.length - k) hB.1.1.1.1 hB.1.1.2 hB.1.2 (by simpa using hk) (l.take k) 0 _ a
    (fun j hj => by simp [Nat.lt_of_lt_of_eq hj e1]) (by rw [e1, Nat.zero_add]) start (by rw [e1]; simpa using hB.2) h
  have fin := wpAny_of_head (Q' := NQ (Q .normal)) (g := l.length - k) (fun listed a' hL => by
    have := wpAny_of_seq (md := .any) (Q' := NQ (Q .normal)) (l.drop k) k listed a' { w with drawn := w.drawn + 1 } (fun j => by simp [List.getElem?_drop]) (by rw [e2]; exact hL.1) hL.2
    rwa [e2] at this) _ _ _ begin_
  rw [← hd] at fin
  exact fin
end
end Go.V
namespace Go.Proofs.YtjljknocnebnaaaDoor
open Go.RowKit Go.V Go.Shelf Go.Lib
set_option linter.unusedVariables false
attribute [local go_sem] Oper.semAt_some

theorem indexByte_index (l : List UInt8) : Lib.indexByte l 47 = Lib.index l [47] := by
  induction l with
  | nil => simp [Lib.indexByte, Lib.index]
  | cons b l ih =>
    unfold Lib.indexByte Lib.index
    rw [← ih]
    by_cases h : b = 47
    · simp [h, List.isPrefixOf]
    · have h2 : ¬ (47 : UInt8) = b := fun e => h e.symm
      simp [h, h2, List.isPrefixOf]
/-- The bytes of the string in a cell, counted. -/
def strLen : Option Value → Nat
  | some (.string b) => b.size
  | _ => 0
theorem extract_take (l : List UInt8) (k : Nat) : (⟨l.toArray⟩ : ByteArray).extract 0 k = ⟨(l.take k).toArray⟩ := by
  apply ByteArray.ext
  rw [ByteArray.data_extract]
  simp
theorem extract_drop (l : List UInt8) (k n : Nat) (hn : l.length ≤ n) : (⟨l.toArray⟩ : ByteArray).extract k n = ⟨(l.drop k).toArray⟩ := by
  apply ByteArray.ext
  rw [ByteArray.data_extract]
  simp
  rw [List.take_of_length_le (by simp; omega)]
def splW (w : World) (l : List UInt8) : World := ((w.alloc (.cells #[strV l] 9)).alloc (.cells #[.string ⟨#[47]⟩] 9)).alloc (.cells #[.int .i64 0] 3)
def splC (w : World) : Array Value := #[.pointer (some ⟨w.heap.size + 1, 0, none⟩), .pointer (some ⟨w.heap.size, 0, none⟩), .pointer (some ⟨w.heap.size + 2, 0, none⟩)]
theorem splitSeq_in (n : Nat) (l : List UInt8) (w : World) :
    CallsIn Fence.wide n Tryd.prog 89 #[strV l, .string ⟨#[47]⟩, .int .i64 0] w fun e w' => e = .returned (.func (.func 103) #[] (splC w)) ∧ w' = splW w l := by
  refine callsIn_of_wp Tryd.func89 rfl trivial ?_ rfl
  simp only [Tryd.ntmps89, List.size_toArray, List.length_cons, List.length_nil, Nat.reduceAdd, Nat.reduceSub, Array.replicate_succ, Array.replicate_zero, List.push_toArray, List.append_toArray, List.nil_append, List.cons_append]
  gi_wp2
  go_ret
  exact ⟨rfl, rfl⟩
theorem SplitSeq_in (n : Nat) (hn : 1 ≤ n) (l : List UInt8) (w : World) :
    CallsIn Fence.wide n Tryd.prog 63 #[strV l, .string ⟨#[47]⟩] w fun e w' => e = .returned (.func (.func 103) #[] (splC w)) ∧ w' = splW w l := by
  refine callsIn_of_wp Tryd.func63 rfl trivial ?_ rfl
  simp only [Tryd.ntmps63, List.size_toArray, List.length_cons, List.length_nil, Nat.reduceAdd, Nat.reduceSub, Array.replicate_succ, Array.replicate_zero, List.push_toArray, List.append_toArray, List.nil_append, List.cons_append]
  gi_wp2_with (refine ⟨trivial, ?_⟩; gi_at_call 89; refine (splitSeq_in _ _ _).mono ?_; rintro e w' ⟨rfl, rfl⟩)
  go_ret
  exact ⟨rfl, rfl⟩
/-- What comes in a round: a part. -/
abbrev Cx := {x : List UInt8 // x.length ≤ 60}
/-- What a round keeps. -/
def KpS (B : Nat) (W W' : World) : Prop := Below B W W'
set_option maxRecDepth 100000 in
set_option maxHeartbeats 8000000 in
theorem split_in (n : Nat) (hn : 1 ≤ n) (w0 : World) (l : List UInt8) (hlen : l.length ≤ 60) :
    SeqB Fence.wide n Tryd.prog 103 (splC w0) (fun x : Cx => #[strV x.1]) (KpS (w0.heap.size + 3)) w0.heap.size (fun xs => xs.map (·.1) = Rf.comps l) (fun pre => ∃ r, Rf.comps l = pre.map (·.1) ++ r) (Rf.comps l).length (splW w0 l) := by
  intro lp J Jx W hW hJ hJx hB hBx hY h0
  have hb0 : Below (splW w0 l).heap.size (splW w0 l) W := hW
  have hsz0 : (splW w0 l).heap.size = w0.heap.size + 3 := by simp [splW]
  have bs : Blk W w0.heap.size 9 #[strV l] := ((((Blk.new w0 9 #[strV l]).alloc (.cells #[.string ⟨#[47]⟩] 9)).alloc (.cells #[.int .i64 0] 3)).below hb0 (by rw [hsz0]; omega) : _)
  have bp : Blk W (w0.heap.size + 1) 9 #[.string ⟨#[47]⟩] := ((show Blk (splW w0 l) (w0.heap.size + 1) 9 #[.string ⟨#[47]⟩] from by
    have := (Blk.new (w0.alloc (.cells #[strV l] 9)) 9 #[.string ⟨#[47]⟩]).alloc (.cells #[.int .i64 0] 3)
    simpa [splW] using this).below hb0 (by rw [hsz0]; omega))
  have bv : Blk W (w0.heap.size + 2) 3 #[.int .i64 0] := ((show Blk (splW w0 l) (w0.heap.size + 2) 3 #[.int .i64 0] from by
    have := Blk.new ((w0.alloc (.cells #[strV l] 9)).alloc (.cells #[.string ⟨#[47]⟩] 9)) 3 #[.int .i64 0]
    simpa [splW] using this).below hb0 (by rw [hsz0]; omega))
  refine callsIn_of_wp Tryd.func103 rfl trivial ?_ rfl
  simp only [splC, Tryd.ntmps103, List.size_toArray, List.length_cons, List.length_nil, Nat.reduceAdd, Nat.reduceSub, Array.replicate_succ, Array.replicate_zero, List.push_toArray, List.append_toArray, List.nil_append, List.cons_append]
  have hp0 := (bp.cell 0).trans rfl
  simp only [List.getElem?_toArray, List.getElem?_cons_zero] at hp0
  gi_wp2
  gi_loopw [] (fun wr => ∃ (pre : List Cx) (r : List UInt8), Hid (Rf.comps l = pre.map (·.1) ++ Rf.comps r) ∧ r.length ≤ 60 ∧ J pre wr ∧ Blk wr w0.heap.size 9 #[strV r] ∧ Blk wr (w0.heap.size + 1) 9 #[.string ⟨#[47]⟩] ∧ Blk wr (w0.heap.size + 2) 3 #[.int .i64 0])
    (fun wr => strLen (wr.cell? ⟨w0.heap.size, 0, none⟩))
  case atStart => exact ⟨[], l, Lib.hid rfl, hlen, h0, bs, bp, bv⟩
  case round =>
    obtain ⟨pre, r, HC, hr, hj, cs, cp, cv⟩ := hrel
    have q0 : wr.cell? ⟨w0.heap.size, 0, none⟩ = some (strV r) := (cs.cell 0).trans rfl
    have q1 : wr.cell? ⟨w0.heap.size + 1, 0, none⟩ = some (.string ⟨#[47]⟩) := (cp.cell 0).trans rfl
    have q2 : wr.cell? ⟨w0.heap.size + 2, 0, none⟩ = some (.int .i64 0) := (cv.cell 0).trans rfl
    have HX := Lib.hid (Tryd.strings_Index_one ⟨r.toArray⟩ 47 wr)
    have HY := Lib.hid hY
    have HJ := Lib.hid hj
    clear hY hj hJ hJx h0 hb0 hW
    rcases Rf.split47 r with hno | ⟨x, r2, rfl, hno⟩
    · have hix : Lib.indexByte r 47 = -1 := by rw [indexByte_index, Rf.index_no hno]
      have hc := Lib.hid (show Rf.comps l = pre.map (·.1) ++ [r] from by rw [HC.out, Rf.comps_no hno])
      rw [show (⟨r.toArray⟩ : ByteArray).data.toList = r from rfl, hix] at HX
      have hpl : pre.length < (Rf.comps l).length := by rw [hc.out]; simp
      clear hix HC hno
      obtain ⟨fn, tmps, assign, body, hy, hR⟩ := HY.out pre ⟨r, hr⟩ wr HJ.out hpl
      gi_wp2_with (refine ⟨trivial, ?_⟩; gi_at_call 105; refine (callsIn_wide.2 HX.out).mono ?_; rintro e w' ⟨rfl, rfl⟩)
      refine hR.mono ?_
      rintro e W3 (⟨rfl, hJ3, hk3⟩ | ⟨rfl, hJx3⟩)
      · gi_wp2
        go_end0
        exact ⟨⟨_, rfl⟩, .inl ⟨_, by rw [hc.out]; simp, hJ3⟩⟩
      · gi_wp2
        go_end0
        exact ⟨⟨_, rfl⟩, .inr ⟨_, ⟨[], by rw [hc.out]; simp⟩, hJx3⟩⟩
    · have hix : Lib.indexByte (x ++ 47 :: r2) 47 = (x.length : Int) := by rw [indexByte_index, Rf.index_sep r2 hno]
      have hc := Lib.hid (show Rf.comps l = pre.map (·.1) ++ x :: Rf.comps r2 from by rw [HC.out, Rf.comps_sep r2 hno])
      rw [show (⟨(x ++ 47 :: r2).toArray⟩ : ByteArray).data.toList = x ++ 47 :: r2 from rfl, hix] at HX
      have hpl : pre.length < (Rf.comps l).length := by rw [hc.out]; simp
      have e1 : (⟨(x ++ 47 :: r2).toArray⟩ : ByteArray).extract 0 x.length = ⟨x.toArray⟩ := by rw [extract_take]; simp
      have e2 : ∀ n, (x ++ 47 :: r2).length ≤ n → (⟨(x ++ 47 :: r2).toArray⟩ : ByteArray).extract (x.length + 1) n = ⟨r2.toArray⟩ := fun n hn => by rw [extract_drop _ _ _ hn]; simp [← List.drop_drop]
      have hl1 : x.length + r2.length + 1 ≤ 60 := by simpa [Nat.add_assoc] using hr
      have hsz : (⟨(x ++ 47 :: r2).toArray⟩ : ByteArray).size = x.length + r2.length + 1 := by simp [ByteArray.size]; omega
      clear hix HC hno hr
      obtain ⟨fn, tmps, assign, body, hy, hR⟩ := HY.out pre ⟨x, by omega⟩ wr HJ.out hpl
      gi_wp2_with (refine ⟨trivial, ?_⟩; gi_at_call 105; refine (callsIn_wide.2 HX.out).mono ?_; rintro e w' ⟨rfl, rfl⟩)
      refine hR.mono ?_
      rintro e W3 (⟨rfl, hJ3, hk3⟩ | ⟨rfl, hJx3⟩)
      · have cs3 := cs.below hk3 (by omega)
        have cp3 := cp.below hk3 (by omega)
        have cv3 := cv.below hk3 (by omega)
        have p0 : W3.cell? ⟨w0.heap.size, 0, none⟩ = some (strV (x ++ 47 :: r2)) := (cs3.cell 0).trans rfl
        have p1 : W3.cell? ⟨w0.heap.size + 1, 0, none⟩ = some (.string ⟨#[47]⟩) := (cp3.cell 0).trans rfl
        have pf := cs3.frozen 0
        have e2' := e2 _ (Nat.le_refl _)
        have e2'' := e2 (x.length + r2.length + 1) (by simp; omega)
        gi_wp2
        go_roundw
        case rel => exact ⟨_, r2, Lib.hid (by rw [hc.out]; simp), by omega, hB _ _ _ hJ3, by simpa using cs3.set_ 0 (strV r2), cp3.far (by simp) _, cv3.far (by simp) _⟩
        case measure =>
          have m1 := ((cs3.set_ 0 (strV r2)).cell 0)
          have m2 := (cs.cell 0)
          simp only [Array.setIfInBounds, List.size_toArray, List.length_cons, List.length_nil, List.getElem?_toArray, List.getElem?_cons_zero] at m1 m2
          simp at m1
          rw [m1, m2]
          simp [strLen, ByteArray.size]; omega
      · gi_wp2
        refine bodyPost_ret (results_none rfl _ _ _) rfl ?_
        exact ⟨⟨_, rfl⟩, .inr ⟨_, ⟨Rf.comps r2, by rw [hc.out]; simp⟩, hJx3⟩⟩
end Go.Proofs.YtjljknocnebnaaaDoor
namespace Go.Proofs.YtjljknocnebnaaaDoor
open Go.RowKit Go.V Go.Shelf
set_option linter.unusedVariables false

set_option maxHeartbeats 4000000 in
theorem letter_any (w : World) (c : UInt8) : Calls Tryd.prog 64 #[.int .u8 (c.toNat : Int)] w fun e w' => e = .returned (.bool (Tr.letter c)) ∧ w' = w := by
  have HL0 := Tr.letter.eq_1 c
  generalize Tr.letter c = q at *
  generalize c.toNat = n at *
  have HL := Lib.hid HL0
  clear HL0
  by_cases h0 : 97 ≤ n
  · by_cases h1 : n ≤ 122
    · have g97 : (97 : Int) ≤ n := by omega
      have g65 : (65 : Int) ≤ n := by omega
      have g48 : (48 : Int) ≤ n := by omega
      have g122 : (n : Int) ≤ 122 := by omega
      have g90 : ¬ (n : Int) ≤ 90 := by omega
      have g57 : ¬ (n : Int) ≤ 57 := by omega
      have g46 : ((n : Int) == 46) = false := by simp; omega
      have g95 : ((n : Int) == 95) = false := by simp; omega
      have g45 : ((n : Int) == 45) = false := by simp; omega
      have k97 : 97 ≤ n := by omega
      have k65 : 65 ≤ n := by omega
      have k48 : 48 ≤ n := by omega
      have k122 : n ≤ 122 := by omega
      have k90 : ¬ n ≤ 90 := by omega
      have k57 : ¬ n ≤ 57 := by omega
      have k46 : ¬ n = 46 := by omega
      have k95 : ¬ n = 95 := by omega
      have k45 : ¬ n = 45 := by omega
      have H : Hid (q = true) := Lib.hid (by rw [HL.out]; simp [k97, k122, k65, k90, k48, k57, k46, k95, k45])
      clear HL k97 k122 k65 k90 k48 k57 k46 k95 k45
      go_enter Tryd.func64, Tryd.ntmps64
      go_wp2_with fail
      go_ret
      exact ⟨by rw [H.out]; rfl, rfl⟩
    · have g97 : (97 : Int) ≤ n := by omega
      have g65 : (65 : Int) ≤ n := by omega
      have g48 : (48 : Int) ≤ n := by omega
      have g122 : ¬ (n : Int) ≤ 122 := by omega
      have g90 : ¬ (n : Int) ≤ 90 := by omega
      have g57 : ¬ (n : Int) ≤ 57 := by omega
      have g46 : ((n : Int) == 46) = false := by simp; omega
      have g95 : ((n : Int) == 95) = false := by simp; omega
      have g45 : ((n : Int) == 45) = false := by simp; omega
      have k97 : 97 ≤ n := by omega
      have k65 : 65 ≤ n := by omega
      have k48 : 48 ≤ n := by omega
      have k122 : ¬ n ≤ 122 := by omega
      have k90 : ¬ n ≤ 90 := by omega
      have k57 : ¬ n ≤ 57 := by omega
      have k46 : ¬ n = 46 := by omega
      have k95 : ¬ n = 95 := by omega
      have k45 : ¬ n = 45 := by omega
      have H : Hid (q = false) := Lib.hid (by rw [HL.out]; simp [k97, k122, k65, k90, k48, k57, k46, k95, k45])
      clear HL k97 k122 k65 k90 k48 k57 k46 k95 k45
      go_enter Tryd.func64, Tryd.ntmps64
      go_wp2_with fail
      go_ret
      exact ⟨by rw [H.out]; rfl, rfl⟩
  · by_cases h50 : 65 ≤ n
    · by_cases h51 : n ≤ 90
      · have g97 : ¬ (97 : Int) ≤ n := by omega
        have g65 : (65 : Int) ≤ n := by omega
        have g48 : (48 : Int) ≤ n := by omega
        have g122 : (n : Int) ≤ 122 := by omega
        have g90 : (n : Int) ≤ 90 := by omega
        have g57 : ¬ (n : Int) ≤ 57 := by omega
        have g46 : ((n : Int) == 46) = false := by simp; omega
        have g95 : ((n : Int) == 95) = false := by simp; omega
        have g45 : ((n : Int) == 45) = false := by simp; omega
        have k97 : ¬ 97 ≤ n := by omega
        have k65 : 65 ≤ n := by omega
        have k48 : 48 ≤ n := by omega
        have k122 : n ≤ 122 := by omega
        have k90 : n ≤ 90 := by omega
        have k57 : ¬ n ≤ 57 := by omega
        have k46 : ¬ n = 46 := by omega
        have k95 : ¬ n = 95 := by omega
        have k45 : ¬ n = 45 := by omega
        have H : Hid (q = true) := Lib.hid (by rw [HL.out]; simp [k97, k122, k65, k90, k48, k57, k46, k95, k45])
        clear HL k97 k122 k65 k90 k48 k57 k46 k95 k45
        go_enter Tryd.func64, Tryd.ntmps64
        go_wp2_with fail
        go_ret
        exact ⟨by rw [H.out]; rfl, rfl⟩
      · by_cases h76 : n = 95
        · have g97 : ¬ (97 : Int) ≤ n := by omega
          have g65 : (65 : Int) ≤ n := by omega
          have g48 : (48 : Int) ≤ n := by omega
          have g122 : (n : Int) ≤ 122 := by omega
          have g90 : ¬ (n : Int) ≤ 90 := by omega
          have g57 : ¬ (n : Int) ≤ 57 := by omega
          have g46 : ((n : Int) == 46) = false := by simp; omega
          have g95 : ((n : Int) == 95) = true := by simp; omega
          have g45 : ((n : Int) == 45) = false := by simp; omega
          have k97 : ¬ 97 ≤ n := by omega
          have k65 : 65 ≤ n := by omega
          have k48 : 48 ≤ n := by omega
          have k122 : n ≤ 122 := by omega
          have k90 : ¬ n ≤ 90 := by omega
          have k57 : ¬ n ≤ 57 := by omega
          have k46 : ¬ n = 46 := by omega
          have k95 : n = 95 := by omega
          have k45 : ¬ n = 45 := by omega
          have H : Hid (q = true) := Lib.hid (by rw [HL.out]; simp [k95])
          clear HL k97 k122 k65 k90 k48 k57 k46 k95 k45
          go_enter Tryd.func64, Tryd.ntmps64
          go_wp2_with fail
          go_ret
          exact ⟨by rw [H.out]; rfl, rfl⟩
        · by_cases h101 : n < 95
          · have g97 : ¬ (97 : Int) ≤ n := by omega
            have g65 : (65 : Int) ≤ n := by omega
            have g48 : (48 : Int) ≤ n := by omega
            have g122 : (n : Int) ≤ 122 := by omega
            have g90 : ¬ (n : Int) ≤ 90 := by omega
            have g57 : ¬ (n : Int) ≤ 57 := by omega
            have g46 : ((n : Int) == 46) = false := by simp; omega
            have g95 : ((n : Int) == 95) = false := by simp; omega
            have g45 : ((n : Int) == 45) = false := by simp; omega
            have k97 : ¬ 97 ≤ n := by omega
            have k65 : 65 ≤ n := by omega
            have k48 : 48 ≤ n := by omega
            have k122 : n ≤ 122 := by omega
            have k90 : ¬ n ≤ 90 := by omega
            have k57 : ¬ n ≤ 57 := by omega
            have k46 : ¬ n = 46 := by omega
            have k95 : ¬ n = 95 := by omega
            have k45 : ¬ n = 45 := by omega
            have H : Hid (q = false) := Lib.hid (by rw [HL.out]; simp [k97, k122, k65, k90, k48, k57, k46, k95, k45])
            clear HL k97 k122 k65 k90 k48 k57 k46 k95 k45
            go_enter Tryd.func64, Tryd.ntmps64
            go_wp2_with fail
            go_ret
            exact ⟨by rw [H.out]; rfl, rfl⟩
          · have g97 : ¬ (97 : Int) ≤ n := by omega
            have g65 : (65 : Int) ≤ n := by omega
            have g48 : (48 : Int) ≤ n := by omega
            have g122 : (n : Int) ≤ 122 := by omega
            have g90 : ¬ (n : Int) ≤ 90 := by omega
            have g57 : ¬ (n : Int) ≤ 57 := by omega
            have g46 : ((n : Int) == 46) = false := by simp; omega
            have g95 : ((n : Int) == 95) = false := by simp; omega
            have g45 : ((n : Int) == 45) = false := by simp; omega
            have k97 : ¬ 97 ≤ n := by omega
            have k65 : 65 ≤ n := by omega
            have k48 : 48 ≤ n := by omega
            have k122 : n ≤ 122 := by omega
            have k90 : ¬ n ≤ 90 := by omega
            have k57 : ¬ n ≤ 57 := by omega
            have k46 : ¬ n = 46 := by omega
            have k95 : ¬ n = 95 := by omega
            have k45 : ¬ n = 45 := by omega
            have H : Hid (q = false) := Lib.hid (by rw [HL.out]; simp [k97, k122, k65, k90, k48, k57, k46, k95, k45])
            clear HL k97 k122 k65 k90 k48 k57 k46 k95 k45
            go_enter Tryd.func64, Tryd.ntmps64
            go_wp2_with fail
            go_ret
            exact ⟨by rw [H.out]; rfl, rfl⟩
    · by_cases h150 : 48 ≤ n
      · by_cases h151 : n ≤ 57
        · have g97 : ¬ (97 : Int) ≤ n := by omega
          have g65 : ¬ (65 : Int) ≤ n := by omega
          have g48 : (48 : Int) ≤ n := by omega
          have g122 : (n : Int) ≤ 122 := by omega
          have g90 : (n : Int) ≤ 90 := by omega
          have g57 : (n : Int) ≤ 57 := by omega
          have g46 : ((n : Int) == 46) = false := by simp; omega
          have g95 : ((n : Int) == 95) = false := by simp; omega
          have g45 : ((n : Int) == 45) = false := by simp; omega
          have k97 : ¬ 97 ≤ n := by omega
          have k65 : ¬ 65 ≤ n := by omega
          have k48 : 48 ≤ n := by omega
          have k122 : n ≤ 122 := by omega
          have k90 : n ≤ 90 := by omega
          have k57 : n ≤ 57 := by omega
          have k46 : ¬ n = 46 := by omega
          have k95 : ¬ n = 95 := by omega
          have k45 : ¬ n = 45 := by omega
          have H : Hid (q = true) := Lib.hid (by rw [HL.out]; simp [k97, k122, k65, k90, k48, k57, k46, k95, k45])
          clear HL k97 k122 k65 k90 k48 k57 k46 k95 k45
          go_enter Tryd.func64, Tryd.ntmps64
          go_wp2_with fail
          go_ret
          exact ⟨by rw [H.out]; rfl, rfl⟩
        · have g97 : ¬ (97 : Int) ≤ n := by omega
          have g65 : ¬ (65 : Int) ≤ n := by omega
          have g48 : (48 : Int) ≤ n := by omega
          have g122 : (n : Int) ≤ 122 := by omega
          have g90 : (n : Int) ≤ 90 := by omega
          have g57 : ¬ (n : Int) ≤ 57 := by omega
          have g46 : ((n : Int) == 46) = false := by simp; omega
          have g95 : ((n : Int) == 95) = false := by simp; omega
          have g45 : ((n : Int) == 45) = false := by simp; omega
          have k97 : ¬ 97 ≤ n := by omega
          have k65 : ¬ 65 ≤ n := by omega
          have k48 : 48 ≤ n := by omega
          have k122 : n ≤ 122 := by omega
          have k90 : n ≤ 90 := by omega
          have k57 : ¬ n ≤ 57 := by omega
          have k46 : ¬ n = 46 := by omega
          have k95 : ¬ n = 95 := by omega
          have k45 : ¬ n = 45 := by omega
          have H : Hid (q = false) := Lib.hid (by rw [HL.out]; simp [k97, k122, k65, k90, k48, k57, k46, k95, k45])
          clear HL k97 k122 k65 k90 k48 k57 k46 k95 k45
          go_enter Tryd.func64, Tryd.ntmps64
          go_wp2_with fail
          go_ret
          exact ⟨by rw [H.out]; rfl, rfl⟩
      · by_cases h200 : n = 46
        · have g97 : ¬ (97 : Int) ≤ n := by omega
          have g65 : ¬ (65 : Int) ≤ n := by omega
          have g48 : ¬ (48 : Int) ≤ n := by omega
          have g122 : (n : Int) ≤ 122 := by omega
          have g90 : (n : Int) ≤ 90 := by omega
          have g57 : (n : Int) ≤ 57 := by omega
          have g46 : ((n : Int) == 46) = true := by simp; omega
          have g95 : ((n : Int) == 95) = false := by simp; omega
          have g45 : ((n : Int) == 45) = false := by simp; omega
          have k97 : ¬ 97 ≤ n := by omega
          have k65 : ¬ 65 ≤ n := by omega
          have k48 : ¬ 48 ≤ n := by omega
          have k122 : n ≤ 122 := by omega
          have k90 : n ≤ 90 := by omega
          have k57 : n ≤ 57 := by omega
          have k46 : n = 46 := by omega
          have k95 : ¬ n = 95 := by omega
          have k45 : ¬ n = 45 := by omega
          have H : Hid (q = true) := Lib.hid (by rw [HL.out]; simp [k46])
          clear HL k97 k122 k65 k90 k48 k57 k46 k95 k45
          go_enter Tryd.func64, Tryd.ntmps64
          go_wp2_with fail
          go_ret
          exact ⟨by rw [H.out]; rfl, rfl⟩
        · by_cases h225 : n = 45
          · have g97 : ¬ (97 : Int) ≤ n := by omega
            have g65 : ¬ (65 : Int) ≤ n := by omega
            have g48 : ¬ (48 : Int) ≤ n := by omega
            have g122 : (n : Int) ≤ 122 := by omega
            have g90 : (n : Int) ≤ 90 := by omega
            have g57 : (n : Int) ≤ 57 := by omega
            have g46 : ((n : Int) == 46) = false := by simp; omega
            have g95 : ((n : Int) == 95) = false := by simp; omega
            have g45 : ((n : Int) == 45) = true := by simp; omega
            have k97 : ¬ 97 ≤ n := by omega
            have k65 : ¬ 65 ≤ n := by omega
            have k48 : ¬ 48 ≤ n := by omega
            have k122 : n ≤ 122 := by omega
            have k90 : n ≤ 90 := by omega
            have k57 : n ≤ 57 := by omega
            have k46 : ¬ n = 46 := by omega
            have k95 : ¬ n = 95 := by omega
            have k45 : n = 45 := by omega
            have H : Hid (q = true) := Lib.hid (by rw [HL.out]; simp [k45])
            clear HL k97 k122 k65 k90 k48 k57 k46 k95 k45
            go_enter Tryd.func64, Tryd.ntmps64
            go_wp2_with fail
            go_ret
            exact ⟨by rw [H.out]; rfl, rfl⟩
          · by_cases h250 : n < 45
            · have g97 : ¬ (97 : Int) ≤ n := by omega
              have g65 : ¬ (65 : Int) ≤ n := by omega
              have g48 : ¬ (48 : Int) ≤ n := by omega
              have g122 : (n : Int) ≤ 122 := by omega
              have g90 : (n : Int) ≤ 90 := by omega
              have g57 : (n : Int) ≤ 57 := by omega
              have g46 : ((n : Int) == 46) = false := by simp; omega
              have g95 : ((n : Int) == 95) = false := by simp; omega
              have g45 : ((n : Int) == 45) = false := by simp; omega
              have k97 : ¬ 97 ≤ n := by omega
              have k65 : ¬ 65 ≤ n := by omega
              have k48 : ¬ 48 ≤ n := by omega
              have k122 : n ≤ 122 := by omega
              have k90 : n ≤ 90 := by omega
              have k57 : n ≤ 57 := by omega
              have k46 : ¬ n = 46 := by omega
              have k95 : ¬ n = 95 := by omega
              have k45 : ¬ n = 45 := by omega
              have H : Hid (q = false) := Lib.hid (by rw [HL.out]; simp [k97, k122, k65, k90, k48, k57, k46, k95, k45])
              clear HL k97 k122 k65 k90 k48 k57 k46 k95 k45
              go_enter Tryd.func64, Tryd.ntmps64
              go_wp2_with fail
              go_ret
              exact ⟨by rw [H.out]; rfl, rfl⟩
            · have g97 : ¬ (97 : Int) ≤ n := by omega
              have g65 : ¬ (65 : Int) ≤ n := by omega
              have g48 : ¬ (48 : Int) ≤ n := by omega
              have g122 : (n : Int) ≤ 122 := by omega
              have g90 : (n : Int) ≤ 90 := by omega
              have g57 : (n : Int) ≤ 57 := by omega
              have g46 : ((n : Int) == 46) = false := by simp; omega
              have g95 : ((n : Int) == 95) = false := by simp; omega
              have g45 : ((n : Int) == 45) = false := by simp; omega
              have k97 : ¬ 97 ≤ n := by omega
              have k65 : ¬ 65 ≤ n := by omega
              have k48 : ¬ 48 ≤ n := by omega
              have k122 : n ≤ 122 := by omega
              have k90 : n ≤ 90 := by omega
              have k57 : n ≤ 57 := by omega
              have k46 : ¬ n = 46 := by omega
              have k95 : ¬ n = 95 := by omega
              have k45 : ¬ n = 45 := by omega
              have H : Hid (q = false) := Lib.hid (by rw [HL.out]; simp [k97, k122, k65, k90, k48, k57, k46, k95, k45])
              clear HL k97 k122 k65 k90 k48 k57 k46 k95 k45
              go_enter Tryd.func64, Tryd.ntmps64
              go_wp2_with fail
              go_ret
              exact ⟨by rw [H.out]; rfl, rfl⟩
theorem str_add (a b : List UInt8) : (⟨a.toArray⟩ : ByteArray) ++ ⟨b.toArray⟩ = ⟨(a ++ b).toArray⟩ := by
  apply ByteArray.ext
  simp
theorem hasPrefix_any (a b : List UInt8) (w : World) : Calls Tryd.prog 90 #[strV a, strV b] w fun e w' => e = .returned (.bool (Lib.hasPrefix a b)) ∧ w' = w := Tryd.strings_HasPrefix ⟨a.toArray⟩ ⟨b.toArray⟩ w
set_option maxHeartbeats 4000000 in
theorem related_any (w : World) (a b : List UInt8) (ha : a.length ≤ 1000000000) (hb : b.length ≤ 1000000000) : Calls Tryd.prog 65 #[strV a, strV b] w fun e w' => e = .returned (.bool (Tr.rel a b)) ∧ w' = w := by
  have H1 := Lib.hid (hasPrefix_any a (b ++ [47]) w)
  have H2 := Lib.hid (hasPrefix_any b (a ++ [47]) w)
  have e1 : (⟨a.toArray⟩ : ByteArray) ++ ⟨#[47]⟩ = ⟨(a ++ [47]).toArray⟩ := str_add a [47]
  have e2 : (⟨b.toArray⟩ : ByteArray) ++ ⟨#[47]⟩ = ⟨(b ++ [47]).toArray⟩ := str_add b [47]
  have s1 : (⟨a.toArray⟩ : ByteArray).size = a.length := by simp [ByteArray.size]
  have s2 : (⟨b.toArray⟩ : ByteArray).size = b.length := by simp [ByteArray.size]
  have HQ := Lib.hid (Tr.rel.eq_1 a b)
  generalize Tr.rel a b = q at *
  by_cases hab : a = b
  · have HQ2 : Hid (q = true) := Lib.hid (by rw [HQ.out, decide_eq_true hab]; rfl)
    have hb1 : (a == b) = true := by simpa using hab
    clear HQ H1 H2
    subst hab
    go_enter Tryd.func65, Tryd.ntmps65
    go_wp2_with fail
    go_ret
    exact ⟨by rw [HQ2.out]; rfl, rfl⟩
  have hb1 : (a == b) = false := by simpa using hab
  cases h : Lib.hasPrefix a (b ++ [47]) with
  | true =>
    rw [h] at H1
    have HQ2 : Hid (q = true) := Lib.hid (by rw [HQ.out, h]; simp)
    clear h HQ H2
    go_enter Tryd.func65, Tryd.ntmps65
    go_wp2_with (first | (go_at_call 90; with_reducible refine H1.out.mono ?_; rintro e w' ⟨rfl, rfl⟩))
    go_ret
    exact ⟨by rw [HQ2.out]; rfl, rfl⟩
  | false =>
    rw [h] at H1
    have HQ2 : Hid (q = Lib.hasPrefix b (a ++ [47])) := Lib.hid (by rw [HQ.out, h, decide_eq_false hab]; rfl)
    clear h HQ
    generalize Lib.hasPrefix b (a ++ [47]) = q2 at *
    go_enter Tryd.func65, Tryd.ntmps65
    go_wp2_with (first | (go_at_call 90; with_reducible refine H1.out.mono ?_; rintro e w' ⟨rfl, rfl⟩) | (go_at_call 90; with_reducible refine H2.out.mono ?_; rintro e w' ⟨rfl, rfl⟩))
    go_ret
    exact ⟨by rw [HQ2.out]; rfl, rfl⟩
theorem any_take {α : Type} {p : α → Bool} {s : List α} {i : Nat} (h : (s.take i).any p = false) (hi : i < s.length) (hp : p s[i] = false) : (s.take (i + 1)).any p = false := by
  rw [List.take_succ_eq_append_getElem hi, List.any_append, h]; simp [hp]
set_option maxHeartbeats 4000000 in
theorem clash_any (w : World) (A : Option Addr) (k : Nat) (t : List Tr.F) (p : List UInt8) (hv : VfV w Free A t) (hl : t.length ≤ 1000000) (hs : ∀ i, i < t.length → (Tr.it t i).path.length ≤ 1000000000) (hp : p.length ≤ 1000000000) :
    Calls Tryd.prog 44 #[.slice A t.length k, strV p, .int .i64 (-1)] w fun e w' => e = .returned (.bool (Tr.clash t p)) ∧ Below w.heap.size w w' := by
  have HROW := Lib.hid (fun (w' : World) (hb : Below w.heap.size w w') i hi => (hv.keep (free_below hb)).row i hi)
  have HS := Lib.hid hs
  have HC := Lib.hid (Tr.clash.eq_1 t p)
  generalize hq : Tr.clash t p = q at *
  clear hq hv hs
  go_enter Tryd.func44, Tryd.ntmps44
  go_wp2_with fail
  go_loopw [11] (fun iv wr => ∃ i : Nat, i ≤ t.length ∧ iv = .int .i64 i ∧ Hid ((t.take i).any (fun f => Tr.rel f.path p) = false) ∧ Below w.heap.size w wr) (fun iv _ => t.length - (intOf iv).toNat)
  case atStart => exact ⟨0, Nat.zero_le _, rfl, Lib.hid (by simp), Below.refl _ _⟩
  case round =>
    obtain ⟨i, hi, rfl, H, hbw⟩ := hrel
    by_cases hlt2 : i < t.length
    · have hlt' : (i : Int) < t.length := by omega
      obtain ⟨b, off, A', k', e, hb, _, d0, d1, _⟩ := HROW.out _ hbw i hlt2
      subst e
      have hpl := HS.out i hlt2
      have HN : Hid (Tr.rel (Tr.it t i).path p = false → (t.take (i + 1)).any (fun f => Tr.rel f.path p) = false) := Lib.hid fun h => any_take H.out hlt2 (by rw [Tr.it_eq t i hlt2]; exact h)
      have HY : Hid (Tr.rel (Tr.it t i).path p = true → q = true) := Lib.hid fun h => by
        rw [HC.out, List.any_eq_true]; exact ⟨t[i], List.getElem_mem hlt2, by rw [Tr.it_eq t i hlt2]; exact h⟩
      generalize Tr.it t i = x at *
      have HR := Lib.hid (related_any (wr.alloc (.cells #[strV x.path, .slice A' x.lines.length k'] 49)) x.path p hpl hp)
      have hal := hbw.trans ((below_alloc1 wr (.cells #[strV x.path, .slice A' x.lines.length k'] 49)).mono hbw.size)
      have hne : ((i : Int) != -1) = true := by simp
      cases hc : Tr.rel x.path p with
      | false =>
        rw [hc] at HR
        have HN2 := Lib.hid (HN.out hc)
        clear hc HN HY
        go_wp2_with (first | (go_at_call 65; with_reducible refine HR.out.mono ?_; rintro e w' ⟨rfl, rfl⟩))
        go_roundw
        case rel => exact ⟨i + 1, by omega, by go_num, HN2, hal⟩
        case measure => simp [intOf]; omega
      | true =>
        rw [hc] at HR
        have HY2 := Lib.hid (HY.out hc)
        clear hc HN HY
        go_wp2_with (first | (go_at_call 65; with_reducible refine HR.out.mono ?_; rintro e w' ⟨rfl, rfl⟩))
        go_ret
        exact ⟨by rw [HY2.out]; rfl, hal⟩
    · obtain rfl : i = t.length := by omega
      have H2 := Lib.hid (show q = false from by rw [HC.out]; have := H.out; rwa [List.take_length] at this)
      go_wp2_with fail
      go_ret
      exact ⟨by rw [H2.out]; rfl, hbw⟩
theorem indexByte_iff : ∀ l : List UInt8, decide (0 ≤ Lib.indexByte l 10) = decide ((10 : UInt8) ∈ l)
  | [] => by simp [Lib.indexByte]
  | b :: l => by
    have ih := indexByte_iff l
    have hge : -1 ≤ Lib.indexByte l 10 := by
      clear ih; induction l with
      | nil => simp [Lib.indexByte]
      | cons c l ih => unfold Lib.indexByte; split <;> (try split) <;> omega
    unfold Lib.indexByte
    by_cases h : b = 10
    · simp [h]
    · have h2 : ¬ (10 : UInt8) = b := fun e => h e.symm
      rw [decide_eq_decide] at ih
      simp only [List.mem_cons, h2, false_or, decide_eq_decide]
      rw [← ih]
      simp only [beq_iff_eq, h, if_false]
      split <;> omega
theorem indexByte_any (l : List UInt8) (w : World) : Calls Tryd.prog 91 #[strV l, .int .u8 10] w fun e w' => e = .returned (.int .i64 (Lib.indexByte l 10)) ∧ w' = w := Tryd.strings_IndexByte ⟨l.toArray⟩ 10 w
set_option maxHeartbeats 4000000 in
theorem lnValidate_any (w : World) (A : Option Addr) (k : Nat) (l : List (List UInt8)) (hv : SA w Free A (ssV l)) (hl : l.length ≤ 9223372036854775807) :
    Calls Tryd.prog 66 #[.slice A l.length k] w (FaultPost w (Tr.lnF l)) := by
  have HV := Lib.hid (fun (w' : World) (hb : Below w.heap.size w w') i hi => ssV_row (hv.keep (free_below hb)) i hi)
  have HLF := Lib.hid (Tr.lnF.eq_1 l)
  generalize hr : Tr.lnF l = r at *
  clear hr hv
  have b0 := Blk.new w 30 #[.int .i64 0, .int .i64 0]
  have hb0 := below_alloc1 w (.cells #[.int .i64 0, .int .i64 0] 30)
  by_cases h120 : 120 < l.length
  · have H := Lib.hid (HLF.out.trans (if_pos h120))
    have h120' : (120 : Int) < l.length := by omega
    clear HLF h120
    go_enter Tryd.func66, Tryd.ntmps66
    go_wp2_with fail
    refine bodyPost_ret (results_c rfl _ _ w.heap.size (.int .i64 2) (.int .i64 (-1)) rfl (Blk.new w 30 #[.int .i64 2, .int .i64 (-1)])) rfl (FaultPost.mk_ H.out (below_alloc1 _ _))
  · have H := Lib.hid (HLF.out.trans (if_neg h120))
    have h120' : ¬ (120 : Int) < l.length := by omega
    clear HLF h120
    go_enter Tryd.func66, Tryd.ntmps66
    go_wp2_with fail
    go_loopw [11] (fun iv wr => ∃ i : Nat, i ≤ l.length ∧ iv = .int .i64 i ∧ Hid (r = Tr.lnFrom (l.drop i) i) ∧ Blk wr w.heap.size 30 #[.int .i64 0, .int .i64 0] ∧ Below w.heap.size w wr) (fun iv _ => l.length - (intOf iv).toNat)
    case atStart => exact ⟨0, Nat.zero_le _, rfl, Lib.hid (by rw [H.out, List.drop_zero]), b0, hb0⟩
    case round =>
      obtain ⟨i, hi, rfl, HI, br, hbw⟩ := hrel
      obtain ⟨wo, rfl⟩ : ∃ wo : World, wo = wr := ⟨_, rfl⟩
      have f0 := br.frozen 0
      have f1 := br.frozen 1
      have c0 := (br.cell 0).trans rfl
      have c1 := (br.cell 1).trans rfl
      have hlt := br.lt
      by_cases hlt2 : i < l.length
      · have hlt' : (i : Int) < l.length := by omega
        obtain ⟨b, off, e, hb, _, d0⟩ := HV.out _ hbw i hlt2
        subst e
        rw [List.drop_eq_getElem_cons hlt2, Tr.lnFrom] at HI
        generalize l[i] = x at *
        have sx : (⟨x.toArray⟩ : ByteArray).size = x.length := by simp [ByteArray.size]
        by_cases h80 : 80 < x.length
        · have H2 := Lib.hid (HI.out.trans (if_pos h80))
          have h80' : (80 : Int) < x.length := by omega
          clear HI h80
          go_wp2_with fail
          refine bodyPost_ret (results_c rfl _ _ w.heap.size (.int .i64 2) (.int .i64 i) rfl (blk_put2 br (.int .i64 2) (.int .i64 i))) rfl (FaultPost.mk_ H2.out ?_)
          exact (hbw.setCell (p := ⟨w.heap.size, 0, none⟩) (Nat.le_refl _) _).setCell (p := ⟨w.heap.size, 1, none⟩) (Nat.le_refl _) _
        · have HI2 := Lib.hid (HI.out.trans (if_neg h80))
          have h80' : ¬ (80 : Int) < x.length := by omega
          have HX := Lib.hid (indexByte_any x wo)
          have hix := indexByte_iff x
          by_cases hm : (10 : UInt8) ∈ x
          · have H2 := Lib.hid (HI2.out.trans (if_pos hm))
            rw [decide_eq_true hm] at hix
            have hge : 0 ≤ Lib.indexByte x 10 := by simpa using hix
            clear HI HI2 h80 hm hix
            generalize Lib.indexByte x 10 = ix at *
            go_wp2_with (first | (go_at_call 91; with_reducible refine HX.out.mono ?_; rintro e w' ⟨rfl, rfl⟩))
            refine bodyPost_ret (results_c rfl _ _ w.heap.size (.int .i64 5) (.int .i64 i) rfl (blk_put2 br (.int .i64 5) (.int .i64 i))) rfl (FaultPost.mk_ H2.out ?_)
            exact (hbw.setCell (p := ⟨w.heap.size, 0, none⟩) (Nat.le_refl _) _).setCell (p := ⟨w.heap.size, 1, none⟩) (Nat.le_refl _) _
          · have H2 := Lib.hid (HI2.out.trans (if_neg hm))
            rw [decide_eq_false hm] at hix
            have hge : ¬ 0 ≤ Lib.indexByte x 10 := by simpa using hix
            clear HI HI2 h80 hm hix
            generalize Lib.indexByte x 10 = ix at *
            go_wp2_with (first | (go_at_call 91; with_reducible refine HX.out.mono ?_; rintro e w' ⟨rfl, rfl⟩))
            go_roundw
            case rel => exact ⟨i + 1, by omega, by go_num, H2, br, hbw⟩
            case measure => simp [intOf]; omega
      · obtain rfl : i = l.length := by omega
        have H2 : Hid (r = (0, 0)) := Lib.hid (by rw [HI.out, List.drop_length]; rfl)
        clear HI
        go_wp2_with fail
        refine bodyPost_ret (results_c rfl _ _ w.heap.size (.int .i64 0) (.int .i64 0) rfl (blk_put2 br (.int .i64 0) (.int .i64 0))) rfl (FaultPost.mk_ H2.out ?_)
        exact (hbw.setCell (p := ⟨w.heap.size, 0, none⟩) (Nat.le_refl _) _).setCell (p := ⟨w.heap.size, 1, none⟩) (Nat.le_refl _) _
def secF (r : Int × Int) (i : Int) : Int × Int := if r.1 ≠ 0 then (r.1, i) else (0, 0)
theorem lnF_zero {l : List (List UInt8)} (h : (Tr.lnF l).1 = 0) : Tr.lnF l = (0, 0) := (Tr.lnF_ok h).1
set_option maxHeartbeats 4000000 in
theorem lnSecond_any (w : World) (A : Option Addr) (k : Nat) (l : List (List UInt8)) (i : Int) (hv : SA w Free A (ssV l)) (hl : l.length ≤ 9223372036854775807) :
    Calls Tryd.prog 45 #[.slice A l.length k, .int .i64 i] w (FaultPost w (secF (Tr.lnF l) i)) := by
  have HC := Lib.hid (fun (w1 : World) (hb : Below w.heap.size w w1) => lnValidate_any w1 A k l (hv.keep (free_below hb)) hl)
  have HZ := Lib.hid (lnF_zero (l := l))
  have HS := Lib.hid (secF.eq_1 (Tr.lnF l) i)
  generalize hr : secF (Tr.lnF l) i = r at *
  clear hr hv
  have b0 := Blk.new w 30 #[.int .i64 0, .int .i64 0]
  have hb0 := below_alloc1 w (.cells #[.int .i64 0, .int .i64 0] 30)
  go_enter Tryd.func45, Tryd.ntmps45
  go_wp2_with fail
  go_at_call 66
  refine (HC.out _ hb0).mono ?_
  rintro e w1 ⟨rfl, hb1⟩
  have br := b0.below hb1 b0.lt
  have hbw := hb0.trans (hb1.mono hb0.size)
  clear HC b0 hb0 hb1
  have f0 := br.frozen 0
  have f1 := br.frozen 1
  have c0 := (br.cell 0).trans rfl
  have c1 := (br.cell 1).trans rfl
  have hlt := br.lt
  by_cases hbad : (Tr.lnF l).1 ≠ 0
  · have H := Lib.hid (HS.out.trans (if_pos hbad))
    have hx1 : ((Tr.lnF l).1 == 0) = false := by simpa using hbad
    have hx2 : ((Tr.lnF l).1 != 0) = true := by simpa using hbad
    clear HS HZ hbad
    generalize Tr.lnF l = q at *
    obtain ⟨cd, ix⟩ := q
    simp only at hx1 hx2
    go_wp2_with fail
    refine bodyPost_ret (results_c rfl _ _ w.heap.size (.int .i64 cd) (.int .i64 i) rfl ((blk_put2 br (.int .i64 cd) (.int .i64 i)).alloc _)) rfl (FaultPost.mk_ H.out ?_)
    exact ((hbw.setCell (p := ⟨w.heap.size, 0, none⟩) (Nat.le_refl _) _).setCell (p := ⟨w.heap.size, 1, none⟩) (Nat.le_refl _) _).alloc (by simp [World.setCell]; omega) _
  · have hz := Classical.not_not.1 hbad
    have H := Lib.hid (HS.out.trans (if_neg hbad))
    rw [HZ.out hz]
    clear HS HZ hbad hz
    go_wp2_with fail
    refine bodyPost_ret (results_c rfl _ _ w.heap.size (.int .i64 0) (.int .i64 0) rfl ((blk_put2 br (.int .i64 0) (.int .i64 0)).alloc _)) rfl (FaultPost.mk_ H.out ?_)
    exact ((hbw.setCell (p := ⟨w.heap.size, 0, none⟩) (Nat.le_refl _) _).setCell (p := ⟨w.heap.size, 1, none⟩) (Nat.le_refl _) _).alloc (by simp [World.setCell]; omega) _
end Go.Proofs.YtjljknocnebnaaaDoor
namespace Go.Proofs.YtjljknocnebnaaaDoor
open Go.RowKit Go.V
set_option linter.unusedVariables false

theorem blk_new1 (w : World) (o : Obj) (t : TypeId) (cs : Array Value) : Blk ((w.alloc o).alloc (.cells cs t)) (w.heap.size + 1) t cs := by
  have := Blk.new (w.alloc o) t cs; rwa [World.size_alloc] at this
theorem below_alloc2 (w : World) (o o' : Obj) : Below w.heap.size w ((w.alloc o).alloc o') := (below_alloc1 w o).alloc (by simp) _
theorem below_alloc3 (w : World) (o o' o'' : Obj) : Below w.heap.size w (((w.alloc o).alloc o').alloc o'') := (below_alloc2 w o o').alloc (by simp; omega) _
set_option maxRecDepth 100000 in
set_option maxHeartbeats 8000000 in
theorem check_any (w : World) (o : Ob.O) (Al : Option Addr) (kl : Nat) (Ad : Option Addr) (kd : Nat) (ho : ObA w Free o Al kl Ad kd) :
    Calls Tryd.prog 57 #[obV o Al kl Ad kd] w (FaultPost w (Ob.obF o)) := by
  obtain ⟨hk, hall, hlk, hdk, hll, hdl, hls, hds⟩ := ho
  have hls1 := hls.keep (Keeps.alloc w Free (.cells #[.int .i64 o.kind, .slice Al o.links.length kl, .slice Ad o.data.length kd] 54))
  have hls2 := hls1.keep (Keeps.alloc _ Free (.cells #[.int .i64 0, .int .i64 0] 30))
  have HF := Lib.hid (Ob.obF.eq_1 o)
  unfold I64 at hk
  clear hls hls1 hds
  by_cases h1 : o.kind < 1 ∨ 3 < o.kind
  · have H := Lib.hid (show Ob.obF o = (4, 0) from by rw [HF.out, if_pos h1])
    skip
    clear HF hls2
    generalize Ob.obF o = r at *
    obtain ⟨kk, ls, da⟩ := o
    simp only at *
    by_cases h1a : kk < 1
    · have h1b : decide (kk < 1) = true := by simpa using h1a
      go_enter Tryd.func57, Tryd.ntmps57
      go_wp2_with fail
      refine bodyPost_ret (results_c rfl _ _ (w.heap.size + 1) (.int .i64 4) (.int .i64 0) rfl (blk_new1 _ _ _ _)) rfl (FaultPost.mk_ H.out ?_)
      exact below_alloc2 _ _ _
    · have h1b : decide (kk < 1) = false := by simpa using h1a
      have h1c : decide (3 < kk) = true := by simp; omega
      go_enter Tryd.func57, Tryd.ntmps57
      go_wp2_with fail
      refine bodyPost_ret (results_c rfl _ _ (w.heap.size + 1) (.int .i64 4) (.int .i64 0) rfl (blk_new1 _ _ _ _)) rfl (FaultPost.mk_ H.out ?_)
      exact below_alloc2 _ _ _
  · have h1b : decide (o.kind < 1) = false := by simp; omega
    have h1c : decide (3 < o.kind) = false := by simp; omega
    skip
    by_cases h2 : 30 < o.links.length
    · have H := Lib.hid (show Ob.obF o = (2, 0) from by rw [HF.out, if_neg h1, if_pos h2])
      have h2' : (30 : Int) < o.links.length := by omega
      clear HF hls2
      generalize Ob.obF o = r at *
      obtain ⟨kk, ls, da⟩ := o
      simp only at *
      go_enter Tryd.func57, Tryd.ntmps57
      go_wp2_with fail
      refine bodyPost_ret (results_c rfl _ _ (w.heap.size + 1) (.int .i64 2) (.int .i64 0) rfl (blk_new1 _ _ _ _)) rfl (FaultPost.mk_ H.out ?_)
      exact below_alloc2 _ _ _
    · have h2' : (o.links.length : Int) ≤ 30 := by omega
      by_cases h3 : 1000 < o.data.length
      · have H := Lib.hid (show Ob.obF o = (10, 0) from by rw [HF.out, if_neg h1, if_neg h2, if_pos h3])
        have h3' : (1000 : Int) < o.data.length := by omega
        clear HF hls2
        generalize Ob.obF o = r at *
        obtain ⟨kk, ls, da⟩ := o
        simp only at *
        go_enter Tryd.func57, Tryd.ntmps57
        go_wp2_with fail
        refine bodyPost_ret (results_c rfl _ _ (w.heap.size + 1) (.int .i64 10) (.int .i64 0) rfl (blk_new1 _ _ _ _)) rfl (FaultPost.mk_ H.out ?_)
        exact below_alloc2 _ _ _
      · have h3' : (o.data.length : Int) ≤ 1000 := by omega
        by_cases h4 : o.kind = 1 ∧ 0 < o.links.length
        · have H := Lib.hid (show Ob.obF o = (5, 0) from by rw [HF.out, if_neg h1, if_neg h2, if_neg h3, if_pos h4])
          obtain ⟨h4a, h4b⟩ := h4
          have h4c : (0 : Int) < o.links.length := by omega
          have h4d : ((o.links.length : Int) != 0) = true := bne_iff_ne.2 (by omega)
          clear HF hls2 h1 h1b h1c
          generalize Ob.obF o = r at *
          obtain ⟨kk, ls, da⟩ := o
          simp only at *
          subst h4a
          go_enter Tryd.func57, Tryd.ntmps57
          go_wp2_with fail
          refine bodyPost_ret (results_c rfl _ _ (w.heap.size + 1) (.int .i64 5) (.int .i64 0) rfl (blk_new1 _ _ _ _)) rfl (FaultPost.mk_ H.out ?_)
          exact below_alloc2 _ _ _
        · have H0 := Lib.hid (show Ob.obF o = Ob.lnFrom o.links 0 from by rw [HF.out, if_neg h1, if_neg h2, if_neg h3, if_neg h4])
          have HK : (o.kind == 1) = false ∨ (o.kind = 1 ∧ o.links = []) := by
            by_cases hk1 : o.kind = 1
            · exact .inr ⟨hk1, List.eq_nil_of_length_eq_zero (Nat.eq_zero_of_not_pos fun h => h4 ⟨hk1, h⟩)⟩
            · exact .inl (by simpa using hk1)
          clear HF h4 h1
          generalize Ob.obF o = r at *
          obtain ⟨kk, ls, da⟩ := o
          simp only at *
          rcases HK with hk1 | ⟨hk1, hnil⟩
          · go_enter Tryd.func57, Tryd.ntmps57
            go_wp2_with fail
            go_loop [41] (fun v => ∃ j : Nat, j ≤ ls.length ∧ v = .int .i64 j ∧ Hid (Ob.lnFrom ls 0 = Ob.lnFrom ls j)) (fun v => ls.length - (intOf v).toNat)
            case atStart => exact ⟨0, Nat.zero_le _, rfl, Lib.hid rfl⟩
            case round =>
              obtain ⟨j, hj, rfl, HJ⟩ := hrel
              by_cases hlt : j < ls.length
              · have hlt' : (j : Int) < ls.length := by omega
                obtain ⟨b, off, e, hb, hc⟩ := hls2.sv.int j hlt
                subst e
                have hjb := hall j hlt
                unfold I64 at hjb
                by_cases hr : ls[j] < 0 ∨ 2305843009213693951 ≤ ls[j]
                · have H := Lib.hid (show r = (3, (j : Int)) from by rw [H0.out, HJ.out, Ob.lnFrom_bad ls j hlt hr])
                  skip
                  generalize ls[j] = x at *
                  by_cases hr0 : x < 0
                  · have hr1 : decide (x < 0) = true := by simpa using hr0
                    clear hr
                    go_wp2_with fail
                    refine bodyPost_ret (results_c rfl _ _ (w.heap.size + 1) (.int .i64 3) (.int .i64 j) rfl (blk_new1 _ _ _ _)) rfl (FaultPost.mk_ H.out ?_)
                    exact below_alloc2 _ _ _
                  · have hr1 : decide (x < 0) = false := by simpa using hr0
                    have hr2 : decide (2305843009213693951 ≤ x) = true := by simp; omega
                    clear hr
                    go_wp2_with fail
                    refine bodyPost_ret (results_c rfl _ _ (w.heap.size + 1) (.int .i64 3) (.int .i64 j) rfl (blk_new1 _ _ _ _)) rfl (FaultPost.mk_ H.out ?_)
                    exact below_alloc2 _ _ _
                · have HJ2 := Lib.hid (HJ.out.trans (Ob.lnFrom_next ls j hlt hr))
                  have hr1 : decide (ls[j] < 0) = false := by simp; omega
                  have hr2 : decide (2305843009213693951 ≤ ls[j]) = false := by simp; omega
                  skip
                  generalize ls[j] = x at *
                  go_wp2_with fail
                  go_round
                  case rel => exact ⟨j + 1, by omega, by go_num, HJ2⟩
                  case measure => simp [intOf]; omega
              · obtain rfl : j = ls.length := by omega
                have H := Lib.hid (show r = (0, 0) from by rw [H0.out, HJ.out, Ob.lnFrom_end ls _ (Nat.le_refl _)])
                go_wp2_with fail
                refine bodyPost_ret (results_c rfl _ _ (w.heap.size + 1) (.int .i64 0) (.int .i64 0) rfl (blk_new1 _ _ _ _)) rfl (FaultPost.mk_ H.out ?_)
                exact below_alloc2 _ _ _
          · subst hk1 hnil
            have H := Lib.hid (show r = (0, 0) from by rw [H0.out, Ob.lnFrom_end [] 0 (Nat.le_refl _)])
            go_enter Tryd.func57, Tryd.ntmps57
            go_wp2_with fail
            refine wp_loop_rounds 1 ?_
            rw [rounds_succ]
            go_wp2_with fail
            refine bodyPost_ret (results_c rfl _ _ (w.heap.size + 1) (.int .i64 0) (.int .i64 0) rfl (blk_new1 _ _ _ _)) rfl (FaultPost.mk_ H.out ?_)
            exact below_alloc2 _ _ _
set_option maxRecDepth 100000 in
set_option maxHeartbeats 8000000 in
theorem obFault_any (w : World) (o : Ob.O) (Al : Option Addr) (kl : Nat) (Ad : Option Addr) (kd : Nat) (ho : ObA w Free o Al kl Ad kd) :
    Calls Tryd.prog 28 #[obV o Al kl Ad kd] w (FaultPost w (Ob.obF o)) := by
  obtain ⟨hk, hall, hlk, hdk, hll, hdl, hls, hds⟩ := ho
  have hls1 := hls.keep (Keeps.alloc w Free (.cells #[.int .i64 o.kind, .slice Al o.links.length kl, .slice Ad o.data.length kd] 54))
  have hls2 := hls1.keep (Keeps.alloc _ Free (.cells #[.int .i64 0, .int .i64 0] 30))
  have HF := Lib.hid (Ob.obF.eq_1 o)
  unfold I64 at hk
  clear hls hls1 hds
  by_cases h1 : o.kind < 1 ∨ 3 < o.kind
  · have H := Lib.hid (show Ob.obF o = (4, 0) from by rw [HF.out, if_pos h1])
    have HN := Lib.hid (show (decide (1 ≤ o.kind) && decide (o.kind ≤ 3)) = false from by rw [Bool.and_eq_false_iff]; simp only [decide_eq_false_iff_not]; omega)
    clear HF hls2
    generalize Ob.obF o = r at *
    obtain ⟨kk, ls, da⟩ := o
    simp only at *
    by_cases h1a : kk < 1
    · have h1b : decide (kk < 1) = true := by simpa using h1a
      go_enter Tryd.func28, Tryd.ntmps28
      go_wp2_with (first | (go_at_call 46; refine (in_any _ _ _ _).mono ?_; rintro e w' ⟨rfl, rfl⟩; rw [HN.out]) | (go_at_call 25; refine (fault_any _ _ _).mono ?_; rintro e w' ⟨rfl, rfl⟩))
      refine bodyPost_ret (results_c rfl _ _ (w.heap.size + 1) (.int .i64 4) (.int .i64 0) rfl ((blk_new1 _ _ _ _).alloc _)) rfl (FaultPost.mk_ H.out ?_)
      exact below_alloc3 _ _ _ _
    · have h1b : decide (kk < 1) = false := by simpa using h1a
      have h1c : decide (3 < kk) = true := by simp; omega
      go_enter Tryd.func28, Tryd.ntmps28
      go_wp2_with (first | (go_at_call 46; refine (in_any _ _ _ _).mono ?_; rintro e w' ⟨rfl, rfl⟩; rw [HN.out]) | (go_at_call 25; refine (fault_any _ _ _).mono ?_; rintro e w' ⟨rfl, rfl⟩))
      refine bodyPost_ret (results_c rfl _ _ (w.heap.size + 1) (.int .i64 4) (.int .i64 0) rfl ((blk_new1 _ _ _ _).alloc _)) rfl (FaultPost.mk_ H.out ?_)
      exact below_alloc3 _ _ _ _
  · have h1b : decide (o.kind < 1) = false := by simp; omega
    have h1c : decide (3 < o.kind) = false := by simp; omega
    have HN := Lib.hid (show (decide (1 ≤ o.kind) && decide (o.kind ≤ 3)) = true from by rw [decide_eq_true (by omega), decide_eq_true (by omega)]; rfl)
    by_cases h2 : 30 < o.links.length
    · have H := Lib.hid (show Ob.obF o = (2, 0) from by rw [HF.out, if_neg h1, if_pos h2])
      have h2' : (30 : Int) < o.links.length := by omega
      clear HF hls2
      generalize Ob.obF o = r at *
      obtain ⟨kk, ls, da⟩ := o
      simp only at *
      go_enter Tryd.func28, Tryd.ntmps28
      go_wp2_with (first | (go_at_call 46; refine (in_any _ _ _ _).mono ?_; rintro e w' ⟨rfl, rfl⟩; rw [HN.out]) | (go_at_call 25; refine (fault_any _ _ _).mono ?_; rintro e w' ⟨rfl, rfl⟩))
      refine bodyPost_ret (results_c rfl _ _ (w.heap.size + 1) (.int .i64 2) (.int .i64 0) rfl ((blk_new1 _ _ _ _).alloc _)) rfl (FaultPost.mk_ H.out ?_)
      exact below_alloc3 _ _ _ _
    · have h2' : (o.links.length : Int) ≤ 30 := by omega
      by_cases h3 : 1000 < o.data.length
      · have H := Lib.hid (show Ob.obF o = (10, 0) from by rw [HF.out, if_neg h1, if_neg h2, if_pos h3])
        have h3' : (1000 : Int) < o.data.length := by omega
        clear HF hls2
        generalize Ob.obF o = r at *
        obtain ⟨kk, ls, da⟩ := o
        simp only at *
        go_enter Tryd.func28, Tryd.ntmps28
        go_wp2_with (first | (go_at_call 46; refine (in_any _ _ _ _).mono ?_; rintro e w' ⟨rfl, rfl⟩; rw [HN.out]) | (go_at_call 25; refine (fault_any _ _ _).mono ?_; rintro e w' ⟨rfl, rfl⟩))
        refine bodyPost_ret (results_c rfl _ _ (w.heap.size + 1) (.int .i64 10) (.int .i64 0) rfl ((blk_new1 _ _ _ _).alloc _)) rfl (FaultPost.mk_ H.out ?_)
        exact below_alloc3 _ _ _ _
      · have h3' : (o.data.length : Int) ≤ 1000 := by omega
        by_cases h4 : o.kind = 1 ∧ 0 < o.links.length
        · have H := Lib.hid (show Ob.obF o = (5, 0) from by rw [HF.out, if_neg h1, if_neg h2, if_neg h3, if_pos h4])
          obtain ⟨h4a, h4b⟩ := h4
          have h4c : (0 : Int) < o.links.length := by omega
          have h4d : ((o.links.length : Int) != 0) = true := bne_iff_ne.2 (by omega)
          clear HF hls2 h1 h1b h1c
          generalize Ob.obF o = r at *
          obtain ⟨kk, ls, da⟩ := o
          simp only at *
          subst h4a
          go_enter Tryd.func28, Tryd.ntmps28
          go_wp2_with (first | (go_at_call 46; refine (in_any _ _ _ _).mono ?_; rintro e w' ⟨rfl, rfl⟩; rw [HN.out]) | (go_at_call 25; refine (fault_any _ _ _).mono ?_; rintro e w' ⟨rfl, rfl⟩))
          refine bodyPost_ret (results_c rfl _ _ (w.heap.size + 1) (.int .i64 5) (.int .i64 0) rfl ((blk_new1 _ _ _ _).alloc _)) rfl (FaultPost.mk_ H.out ?_)
          exact below_alloc3 _ _ _ _
        · have H0 := Lib.hid (show Ob.obF o = Ob.lnFrom o.links 0 from by rw [HF.out, if_neg h1, if_neg h2, if_neg h3, if_neg h4])
          have HK : (o.kind == 1) = false ∨ (o.kind = 1 ∧ o.links = []) := by
            by_cases hk1 : o.kind = 1
            · exact .inr ⟨hk1, List.eq_nil_of_length_eq_zero (Nat.eq_zero_of_not_pos fun h => h4 ⟨hk1, h⟩)⟩
            · exact .inl (by simpa using hk1)
          clear HF h4 h1
          generalize Ob.obF o = r at *
          obtain ⟨kk, ls, da⟩ := o
          simp only at *
          rcases HK with hk1 | ⟨hk1, hnil⟩
          · go_enter Tryd.func28, Tryd.ntmps28
            go_wp2_with (first | (go_at_call 46; refine (in_any _ _ _ _).mono ?_; rintro e w' ⟨rfl, rfl⟩; rw [HN.out]))
            go_loop [3] (fun v => ∃ j : Nat, j ≤ ls.length ∧ v = .int .i64 j ∧ Hid (Ob.lnFrom ls 0 = Ob.lnFrom ls j)) (fun v => ls.length - (intOf v).toNat)
            case atStart => exact ⟨0, Nat.zero_le _, rfl, Lib.hid rfl⟩
            case round =>
              obtain ⟨j, hj, rfl, HJ⟩ := hrel
              by_cases hlt : j < ls.length
              · have hlt' : (j : Int) < ls.length := by omega
                obtain ⟨b, off, e, hb, hc⟩ := hls2.sv.int j hlt
                subst e
                have hjb := hall j hlt
                unfold I64 at hjb
                by_cases hr : ls[j] < 0 ∨ 2305843009213693951 ≤ ls[j]
                · have H := Lib.hid (show r = (3, (j : Int)) from by rw [H0.out, HJ.out, Ob.lnFrom_bad ls j hlt hr])
                  have HN := Lib.hid (show (decide (0 ≤ ls[j]) && decide (ls[j] ≤ 2305843009213693950)) = false from by rw [Bool.and_eq_false_iff]; simp only [decide_eq_false_iff_not]; omega)
                  generalize ls[j] = x at *
                  by_cases hr0 : x < 0
                  · have hr1 : decide (x < 0) = true := by simpa using hr0
                    clear hr
                    go_wp2_with (first | (go_at_call 46; refine (in_any _ _ _ _).mono ?_; rintro e w' ⟨rfl, rfl⟩; rw [HN.out]) | (go_at_call 25; refine (fault_any _ _ _).mono ?_; rintro e w' ⟨rfl, rfl⟩))
                    refine bodyPost_ret (results_c rfl _ _ (w.heap.size + 1) (.int .i64 3) (.int .i64 j) rfl ((blk_new1 _ _ _ _).alloc _)) rfl (FaultPost.mk_ H.out ?_)
                    exact below_alloc3 _ _ _ _
                  · have hr1 : decide (x < 0) = false := by simpa using hr0
                    have hr2 : decide (2305843009213693951 ≤ x) = true := by simp; omega
                    clear hr
                    go_wp2_with (first | (go_at_call 46; refine (in_any _ _ _ _).mono ?_; rintro e w' ⟨rfl, rfl⟩; rw [HN.out]) | (go_at_call 25; refine (fault_any _ _ _).mono ?_; rintro e w' ⟨rfl, rfl⟩))
                    refine bodyPost_ret (results_c rfl _ _ (w.heap.size + 1) (.int .i64 3) (.int .i64 j) rfl ((blk_new1 _ _ _ _).alloc _)) rfl (FaultPost.mk_ H.out ?_)
                    exact below_alloc3 _ _ _ _
                · have HJ2 := Lib.hid (HJ.out.trans (Ob.lnFrom_next ls j hlt hr))
                  have hr1 : decide (ls[j] < 0) = false := by simp; omega
                  have hr2 : decide (2305843009213693951 ≤ ls[j]) = false := by simp; omega
                  have HN := Lib.hid (show (decide (0 ≤ ls[j]) && decide (ls[j] ≤ 2305843009213693950)) = true from by rw [decide_eq_true (by omega), decide_eq_true (by omega)]; rfl)
                  generalize ls[j] = x at *
                  go_wp2_with (first | (go_at_call 46; refine (in_any _ _ _ _).mono ?_; rintro e w' ⟨rfl, rfl⟩; rw [HN.out]))
                  go_round
                  case rel => exact ⟨j + 1, by omega, by go_num, HJ2⟩
                  case measure => simp [intOf]; omega
              · obtain rfl : j = ls.length := by omega
                have H := Lib.hid (show r = (0, 0) from by rw [H0.out, HJ.out, Ob.lnFrom_end ls _ (Nat.le_refl _)])
                go_wp2_with fail
                refine bodyPost_ret (results_c rfl _ _ (w.heap.size + 1) (.int .i64 0) (.int .i64 0) rfl (blk_new1 _ _ _ _)) rfl (FaultPost.mk_ H.out ?_)
                exact below_alloc2 _ _ _
          · subst hk1 hnil
            have H := Lib.hid (show r = (0, 0) from by rw [H0.out, Ob.lnFrom_end [] 0 (Nat.le_refl _)])
            go_enter Tryd.func28, Tryd.ntmps28
            go_wp2_with (first | (go_at_call 46; refine (in_any _ _ _ _).mono ?_; rintro e w' ⟨rfl, rfl⟩; rw [HN.out]))
            refine wp_loop_rounds 1 ?_
            rw [rounds_succ]
            go_wp2_with fail
            refine bodyPost_ret (results_c rfl _ _ (w.heap.size + 1) (.int .i64 0) (.int .i64 0) rfl (blk_new1 _ _ _ _)) rfl (FaultPost.mk_ H.out ?_)
            exact below_alloc2 _ _ _
end Go.Proofs.YtjljknocnebnaaaDoor
