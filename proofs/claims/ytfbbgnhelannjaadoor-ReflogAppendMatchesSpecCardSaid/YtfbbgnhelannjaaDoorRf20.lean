/-
  References: walk of the reference's 'UpdateRefs'.
-/
import Derived.Test.YtfbbgnhelannjaaDoorRf19
namespace Rf
def upFold (s : List R) (u : U) (i : Nat) : List R × Bool := (s.take i).foldl (upStep u) ([], decide (u.new = -1))
theorem upFold_zero (s : List R) (u : U) : upFold s u 0 = ([], decide (u.new = -1)) := by simp [upFold]
theorem upFold_succ (s : List R) (u : U) (i : Nat) (h : i < s.length) : upFold s u (i + 1) = upStep u (upFold s u i) (it s i) := by
  unfold upFold; rw [List.take_succ_eq_append_getElem h, List.foldl_append, it_eq s i h]; rfl
theorem upFold_end (s : List R) (u : U) : upR s u = if (upFold s u s.length).2 then (upFold s u s.length).1 else (upFold s u s.length).1 ++ [⟨u.name, u.new⟩] := by
  unfold upR upLoop upFold; rw [List.take_length]
end Rf
namespace Go.Proofs.YtfbbgnhelannjaaDoor
open Go.RowKit Go.V Go.Shelf Go.Lib
set_option linter.unusedVariables false

/-- The boxes of 'UpdateRefs'. -/
structure UrB (w wr : World) (A : Option Addr) (n k : Nat) (un : List UInt8) (uo uw : Int) (v : Value) : Prop where
  bx : Blk wr w.heap.size 26 #[.slice A n k]
  bu : Blk wr (w.heap.size + 1) 28 #[strV un, .int .i64 uo, .int .i64 uw]
  r1 : Blk wr (w.heap.size + 2) 26 #[.slice none 0 0]
  bo : Blk wr (w.heap.size + 3) 26 #[v]
  bel : Below w.heap.size w wr
section
variable {w wr w' : World} {A : Option Addr} {n k : Nat} {un : List UInt8} {uo uw : Int} {v : Value}
theorem UrB.alloc (h : UrB w wr A n k un uo uw v) (o : Obj) : UrB w (wr.alloc o) A n k un uo uw v := ⟨h.bx.alloc o, h.bu.alloc o, h.r1.alloc o, h.bo.alloc o, h.bel.alloc h.bel.size o⟩
theorem UrB.grown (h : UrB w wr A n k un uo uw v) {row : Option Nat} (hg : wr.grownBy w' row) (hr : ∀ b, row = some b → w.heap.size + 4 ≤ b) : UrB w w' A n k un uo uw v :=
  ⟨h.bx.grown hg (fun e => by have := hr _ e.symm; omega), h.bu.grown hg (fun e => by have := hr _ e.symm; omega), h.r1.grown hg (fun e => by have := hr _ e.symm; omega), h.bo.grown hg (fun e => by have := hr _ e.symm; omega),
    h.bel.grown hg h.bel.size (fun b e => by have := hr b e; omega)⟩
theorem UrB.set (h : UrB w wr A n k un uo uw v) (v2 : Value) : UrB w (wr.setCell ⟨w.heap.size + 3, 0, none⟩ v2) A n k un uo uw v2 :=
  ⟨h.bx.far (by simp) _, h.bu.far (by simp) _, h.r1.far (by simp) _, by simpa using h.bo.set_ 0 v2, h.bel.setCell (by simp) _⟩
theorem UrB.facts (h : UrB w wr A n k un uo uw v) : wr.cell? ⟨w.heap.size, 0, none⟩ = some (.slice A n k) ∧ wr.cell? ⟨w.heap.size + 1, 0, none⟩ = some (strV un) ∧ wr.cell? ⟨w.heap.size + 1, 2, none⟩ = some (.int .i64 uw) ∧
    wr.cell? ⟨w.heap.size + 2, 0, none⟩ = some (.slice none 0 0) ∧ wr.cell? ⟨w.heap.size + 3, 0, none⟩ = some v ∧ wr.frozen? ⟨w.heap.size + 2, 0, none⟩ = false ∧ wr.frozen? ⟨w.heap.size + 3, 0, none⟩ = false ∧
    w.heap.size < wr.heap.size ∧ w.heap.size + 1 < wr.heap.size ∧ w.heap.size + 2 < wr.heap.size ∧ w.heap.size + 3 < wr.heap.size :=
  ⟨(h.bx.cell 0).trans rfl, (h.bu.cell 0).trans rfl, (h.bu.cell 2).trans rfl, (h.r1.cell 0).trans rfl, (h.bo.cell 0).trans rfl, h.r1.frozen 0, h.bo.frozen 0, h.bx.lt, h.bu.lt, h.r1.lt, h.bo.lt⟩
end
theorem rsV_snoc (o : List Rf.R) (r : Rf.R) : rsV o ++ rC r = rsV (o ++ [r]) := by simp [rsV]
set_option maxRecDepth 100000 in
set_option maxHeartbeats 16000000 in
theorem updateRefs_any (w : World) (A : Option Addr) (k : Nat) (s : List Rf.R) (u : Rf.U) (hv : SA w Free A (rsV s)) (hl : s.length ≤ 1000000) :
    Calls Tryd.prog 23 #[.agg #[.slice A s.length k], .agg #[strV u.name, .int .i64 u.old, .int .i64 u.new]] w (CyPost w (Rf.upR s u)) := by
  obtain ⟨i0, hi0, hz0, hz1, hz2⟩ := info_parts info51
  have HROW := Lib.hid (fun (w1 : World) (hb : Below w.heap.size w w1) i hi => rsV_row (hv.keep (free_below hb)) i hi)
  have HZ := Lib.hid (Rf.upFold_zero s u)
  have HS := Lib.hid (fun i hi => Rf.upFold_succ s u i hi)
  have HEND := Lib.hid (Rf.upFold_end s u)
  have HSTEP := Lib.hid (fun (o : List Rf.R) (p : Bool) (x : Rf.R) => show Rf.upStep u (o, p) x = (if x.name = u.name then (if p = false ∧ ¬ x.name < u.name then (o ++ [⟨u.name, u.new⟩], true) else (o, p) : List Rf.R × Bool).1 else (if p = false ∧ ¬ x.name < u.name then (o ++ [⟨u.name, u.new⟩], true) else (o, p) : List Rf.R × Bool).1 ++ [x], (if p = false ∧ ¬ x.name < u.name then (o ++ [⟨u.name, u.new⟩], true) else (o, p) : List Rf.R × Bool).2) from rfl)
  have HF : Hid (∀ (r : List Rf.R) A' c' w', Rf.upR s u = r → w'.ownsRow w.heap.size 51 2 (.slice A' r.length c') r.length (rsV r) → Below w.heap.size w w' → CyPost w (Rf.upR s u) (.returned (.agg #[.slice A' r.length c'])) w') := Lib.hid fun r A' c' w' h0 h1 h2 => by subst h0; exact ⟨A', c', rfl, h1, h2⟩
  clear hv
  generalize CyPost w (Rf.upR s u) = R at *
  generalize Rf.upR s u = ur at *
  obtain ⟨un, uo, uw⟩ := u
  simp only at *
  have st0 : UrB w ((((w.alloc (.cells #[.slice A s.length k] 26)).alloc (.cells #[strV un, .int .i64 uo, .int .i64 uw] 28)).alloc (.cells #[.slice none 0 0] 26)).alloc (.cells #[.slice none 0 0] 26)) A s.length k un uo uw (.slice none 0 0) :=
    ⟨(((Blk.new _ _ _).alloc _).alloc _).alloc _, ((blk_new1 _ _ _ _).alloc _).alloc _, (blk_new2 _ _ _ _ _).alloc _, blk_new3 _ _ _ _ _ _, (below_alloc3 _ _ _ _).alloc (by simp; omega) _⟩
  have hsz0 : ((((w.alloc (.cells #[.slice A s.length k] 26)).alloc (.cells #[strV un, .int .i64 uo, .int .i64 uw] 28)).alloc (.cells #[.slice none 0 0] 26)).alloc (.cells #[.slice none 0 0] 26)).heap.size = w.heap.size + 4 := by simp
  have hpw : (uw == -1) = decide (uw = -1) := by
    by_cases h : uw = -1
    · simp [h]
    · simp [h]
  go_enter Tryd.func23, Tryd.ntmps23
  go_wp2_with fail
  clear hpw
  go_loopw [6, 7] (fun pv iv wr => ∃ (i : Nat) (o : List Rf.R) (p : Bool) (A' : Option Addr) (c' : Nat), i ≤ s.length ∧ pv = .bool p ∧ iv = .int .i64 i ∧ Hid (Rf.upFold s ⟨un, uo, uw⟩ i = (o, p)) ∧ o.length ≤ 2 * i ∧ UrB w wr A s.length k un uo uw (.slice A' o.length c') ∧ wr.ownsRow (w.heap.size + 4) 51 2 (.slice A' o.length c') o.length (rsV o)) (fun _ iv _ => s.length - (intOf iv).toNat)
  case atStart => exact ⟨0, [], _, none, 0, Nat.zero_le _, rfl, rfl, HZ, Nat.le_refl _, st0, World.ownsRow_nil _ _ _ _⟩
  case round =>
    obtain ⟨i, o, p, A', c', hi, rfl, rfl, H, hol, st, hown⟩ := hrel
    obtain ⟨wo, rfl⟩ : ∃ wo : World, wo = wr := ⟨_, rfl⟩
    obtain ⟨a0, a1, a2, a3, a4, f3, f4, l0, l1, l2, l3⟩ := st.facts
    have hos : wo.heap.size ≥ w.heap.size + 4 := by omega
    by_cases hlt : i < s.length
    · have hlt' : (i : Int) < s.length := by omega
      obtain ⟨b, off, e, hbb, _, d0, d1⟩ := HROW.out _ st.bel i hlt
      subst e
      have HN := Lib.hid (((HS.out i hlt).trans (congrArg (fun q => Rf.upStep ⟨un, uo, uw⟩ q (Rf.it s i)) H.out)).trans (HSTEP.out o p (Rf.it s i)))
      clear H
      generalize Rf.it s i = x at *
      cases p with
      | true =>
        have hp : ¬ ((true : Bool) = false ∧ ¬ x.name < un) := by simp
        by_cases he : x.name = un
        · have he1 : (x.name == un) = true := by simpa using he
          have he2 : (x.name != un) = false := by simpa using he
          have HN2 : Hid (Rf.upFold s ⟨un, uo, uw⟩ (i + 1) = (o, true)) := Lib.hid (by rw [HN.out, if_pos he, if_neg hp])
          clear HN he hp
          have sx := st.alloc (.cells #[strV x.name, .int .i64 x.tgt] 51)
          have bx1 := Blk.new wo 51 #[strV x.name, .int .i64 x.tgt]
          have ow1 := hown.alloc (.cells #[strV x.name, .int .i64 x.tgt] 51)
          go_wp2_with fail
          go_roundw
          case rel => exact ⟨i + 1, o, true, A', c', by omega, rfl, by go_num, HN2, by omega, sx, ow1⟩
          case measure => simp [intOf]; omega
        · have he1 : (x.name == un) = false := by simpa using he
          have he2 : (x.name != un) = true := by simpa using he
          have HN2 : Hid (Rf.upFold s ⟨un, uo, uw⟩ (i + 1) = (o ++ [x], true)) := Lib.hid (by rw [HN.out, if_neg he, if_neg hp])
          clear HN he hp
          have sx := st.alloc (.cells #[strV x.name, .int .i64 x.tgt] 51)
          have bx1 := Blk.new wo 51 #[strV x.name, .int .i64 x.tgt]
          have ow1 := hown.alloc (.cells #[strV x.name, .int .i64 x.tgt] 51)
          have hsv1 : SV ((wo.alloc (.cells #[strV x.name, .int .i64 x.tgt] 51)).alloc (.cells #[strV x.name, .int .i64 x.tgt] 51)) (wo.heap.size + 1 + 1) (some ⟨wo.heap.size + 1, 0, none⟩) [strV x.name, .int .i64 x.tgt] := by simpa using SV.lit (wo.alloc (.cells #[strV x.name, .int .i64 x.tgt] 51)) #[strV x.name, .int .i64 x.tgt] 51
          go_wp2_with (first | (at_builtin; refine wpList_appN _ rfl (.tmp 50) (.tmp 52) 24 rfl (w.heap.size + 4) 51 i0 _ 2 24 Tryd.underlying24 hi0 hz0 hz1 hz2 rfl (by decide) A' o.length c' (rsV o) rfl (ow1.alloc (.cells #[strV x.name, .int .i64 x.tgt] 51)) _ _ 1 1 [strV x.name, .int .i64 x.tgt] rfl rfl hsv1 (by intro v hv; simp at hv; rcases hv with rfl | rfl <;> rfl) ?ha1 ?hb1 ?hc1 ?_))
          case ha1 => unfold maxLen; omega
          case hb1 => omega
          case hc1 => simp; omega
          intro A2 c2 w2 own2 hg2 _
          have hr2 : ∀ b, (Value.slice A' o.length c').ownBlock = some b → w.heap.size + 4 ≤ b := fun b e => (hown.lt b e).1
          have s2 := (sx.alloc (.cells #[strV x.name, .int .i64 x.tgt] 51)).grown hg2 hr2
          obtain ⟨q0, q1, q2, q3, q4, g3, g4, m0, m1, m2, m3⟩ := s2.facts
          have hne2 : some (w.heap.size + 3) ≠ (Value.slice A2 (o.length + 1) c2).ownBlock := fun e => by have := (own2.lt _ e.symm).1; omega
          have s3 := s2.set (.slice A2 (o.length + 1) c2)
          have own3 := own_setCell (p := ⟨w.heap.size + 3, 0, none⟩) own2 hne2 (.slice A2 (o.length + 1) c2)
          have eo3 : rsV o ++ [strV x.name, .int .i64 x.tgt] = rsV (o ++ [x]) := rsV_snoc o x
          rw [eo3] at own3
          have hol3 : (o ++ [x]).length = o.length + 1 := by simp
          clear a0 a1 a2 a3 a4 f3 f4 hg2 own2 s2 sx ow1 bx1 hsv1 eo3
          go_wp2_with fail
          go_roundw
          case rel => exact ⟨i + 1, _, true, A2, c2, by omega, rfl, by go_num, HN2, by simp; omega, by rw [hol3]; exact s3, by rw [hol3]; exact own3⟩
          case measure => simp [intOf]; omega
      | false =>
        by_cases hlx : x.name < un
        · have hcm : (!(Op.bytesLess x.name un)) = false := by rw [less_eq, decide_eq_true hlx]; rfl
          have hcm2 : Op.bytesLess x.name un = true := by rw [less_eq, decide_eq_true hlx]
          have hp : ¬ ((false : Bool) = false ∧ ¬ x.name < un) := fun h => h.2 hlx
          by_cases he : x.name = un
          · have he1 : (x.name == un) = true := by simpa using he
            have he2 : (x.name != un) = false := by simpa using he
            have HN2 : Hid (Rf.upFold s ⟨un, uo, uw⟩ (i + 1) = (o, false)) := Lib.hid (by rw [HN.out, if_pos he, if_neg hp])
            clear HN he hp hlx
            have sx := st.alloc (.cells #[strV x.name, .int .i64 x.tgt] 51)
            have bx1 := Blk.new wo 51 #[strV x.name, .int .i64 x.tgt]
            have ow1 := hown.alloc (.cells #[strV x.name, .int .i64 x.tgt] 51)
            go_wp2_with fail
            go_roundw
            case rel => exact ⟨i + 1, o, false, A', c', by omega, rfl, by go_num, HN2, by omega, sx, ow1⟩
            case measure => simp [intOf]; omega
          · have he1 : (x.name == un) = false := by simpa using he
            have he2 : (x.name != un) = true := by simpa using he
            have HN2 : Hid (Rf.upFold s ⟨un, uo, uw⟩ (i + 1) = (o ++ [x], false)) := Lib.hid (by rw [HN.out, if_neg he, if_neg hp])
            clear HN he hp hlx
            have sx := st.alloc (.cells #[strV x.name, .int .i64 x.tgt] 51)
            have bx1 := Blk.new wo 51 #[strV x.name, .int .i64 x.tgt]
            have ow1 := hown.alloc (.cells #[strV x.name, .int .i64 x.tgt] 51)
            have hsv1 : SV ((wo.alloc (.cells #[strV x.name, .int .i64 x.tgt] 51)).alloc (.cells #[strV x.name, .int .i64 x.tgt] 51)) (wo.heap.size + 1 + 1) (some ⟨wo.heap.size + 1, 0, none⟩) [strV x.name, .int .i64 x.tgt] := by simpa using SV.lit (wo.alloc (.cells #[strV x.name, .int .i64 x.tgt] 51)) #[strV x.name, .int .i64 x.tgt] 51
            go_wp2_with (first | (at_builtin; refine wpList_appN _ rfl (.tmp 50) (.tmp 52) 24 rfl (w.heap.size + 4) 51 i0 _ 2 24 Tryd.underlying24 hi0 hz0 hz1 hz2 rfl (by decide) A' o.length c' (rsV o) rfl (ow1.alloc (.cells #[strV x.name, .int .i64 x.tgt] 51)) _ _ 1 1 [strV x.name, .int .i64 x.tgt] rfl rfl hsv1 (by intro v hv; simp at hv; rcases hv with rfl | rfl <;> rfl) ?ha1 ?hb1 ?hc1 ?_))
            case ha1 => unfold maxLen; omega
            case hb1 => omega
            case hc1 => simp; omega
            intro A2 c2 w2 own2 hg2 _
            have hr2 : ∀ b, (Value.slice A' o.length c').ownBlock = some b → w.heap.size + 4 ≤ b := fun b e => (hown.lt b e).1
            have s2 := (sx.alloc (.cells #[strV x.name, .int .i64 x.tgt] 51)).grown hg2 hr2
            obtain ⟨q0, q1, q2, q3, q4, g3, g4, m0, m1, m2, m3⟩ := s2.facts
            have hne2 : some (w.heap.size + 3) ≠ (Value.slice A2 (o.length + 1) c2).ownBlock := fun e => by have := (own2.lt _ e.symm).1; omega
            have s3 := s2.set (.slice A2 (o.length + 1) c2)
            have own3 := own_setCell (p := ⟨w.heap.size + 3, 0, none⟩) own2 hne2 (.slice A2 (o.length + 1) c2)
            have eo3 : rsV o ++ [strV x.name, .int .i64 x.tgt] = rsV (o ++ [x]) := rsV_snoc o x
            rw [eo3] at own3
            have hol3 : (o ++ [x]).length = o.length + 1 := by simp
            clear a0 a1 a2 a3 a4 f3 f4 hg2 own2 s2 sx ow1 bx1 hsv1 eo3
            go_wp2_with fail
            go_roundw
            case rel => exact ⟨i + 1, _, false, A2, c2, by omega, rfl, by go_num, HN2, by simp; omega, by rw [hol3]; exact s3, by rw [hol3]; exact own3⟩
            case measure => simp [intOf]; omega
        · have hcm : (!(Op.bytesLess x.name un)) = true := by rw [less_eq, decide_eq_false hlx]; rfl
          have hcm2 : Op.bytesLess x.name un = false := by rw [less_eq, decide_eq_false hlx]
          have hp : (false : Bool) = false ∧ ¬ x.name < un := ⟨rfl, hlx⟩
          by_cases he : x.name = un
          · have he1 : (x.name == un) = true := by simpa using he
            have he2 : (x.name != un) = false := by simpa using he
            have HN2 : Hid (Rf.upFold s ⟨un, uo, uw⟩ (i + 1) = (o ++ [⟨un, uw⟩], true)) := Lib.hid (by rw [HN.out, if_pos he, if_pos hp])
            clear HN he hp hlx
            have sx := st.alloc (.cells #[strV x.name, .int .i64 x.tgt] 51)
            have bx1 := Blk.new wo 51 #[strV x.name, .int .i64 x.tgt]
            have ow1 := hown.alloc (.cells #[strV x.name, .int .i64 x.tgt] 51)
            have hsv1 : SV ((wo.alloc (.cells #[strV x.name, .int .i64 x.tgt] 51)).alloc (.cells #[strV un, .int .i64 uw] 51)) (wo.heap.size + 1 + 1) (some ⟨wo.heap.size + 1, 0, none⟩) [strV un, .int .i64 uw] := by simpa using SV.lit (wo.alloc (.cells #[strV x.name, .int .i64 x.tgt] 51)) #[strV un, .int .i64 uw] 51
            go_wp2_with (first | (at_builtin; refine wpList_appN _ rfl (.tmp 35) (.tmp 41) 24 rfl (w.heap.size + 4) 51 i0 _ 2 24 Tryd.underlying24 hi0 hz0 hz1 hz2 rfl (by decide) A' o.length c' (rsV o) rfl (ow1.alloc (.cells #[strV un, .int .i64 uw] 51)) _ _ 1 1 [strV un, .int .i64 uw] rfl rfl hsv1 (by intro v hv; simp at hv; rcases hv with rfl | rfl <;> rfl) ?ha1 ?hb1 ?hc1 ?_))
            case ha1 => unfold maxLen; omega
            case hb1 => omega
            case hc1 => simp; omega
            intro A2 c2 w2 own2 hg2 _
            have hr2 : ∀ b, (Value.slice A' o.length c').ownBlock = some b → w.heap.size + 4 ≤ b := fun b e => (hown.lt b e).1
            have s2 := (sx.alloc (.cells #[strV un, .int .i64 uw] 51)).grown hg2 hr2
            have b2 := (bx1.alloc (.cells #[strV un, .int .i64 uw] 51)).grown hg2 (fun e => by have := (hown.lt _ e.symm).2; omega)
            obtain ⟨q0, q1, q2, q3, q4, g3, g4, m0, m1, m2, m3⟩ := s2.facts
            have t0 : w2.cell? ⟨wo.heap.size, 0, none⟩ = some (strV x.name) := (b2.cell 0).trans rfl
            have t1 : w2.cell? ⟨wo.heap.size, 1, none⟩ = some (.int .i64 x.tgt) := (b2.cell 1).trans rfl
            have t2 := b2.lt
            have hne2 : some (w.heap.size + 3) ≠ (Value.slice A2 (o.length + 1) c2).ownBlock := fun e => by have := (own2.lt _ e.symm).1; omega
            have n2 : ¬ (wo.heap.size = w.heap.size + 3) := by omega
            have s3 := s2.set (.slice A2 (o.length + 1) c2)
            have own3 := own_setCell (p := ⟨w.heap.size + 3, 0, none⟩) own2 hne2 (.slice A2 (o.length + 1) c2)
            have eo3 : rsV o ++ [strV un, .int .i64 uw] = rsV (o ++ [(⟨un, uw⟩ : Rf.R)]) := rsV_snoc o ⟨un, uw⟩
            rw [eo3] at own3
            have hol3 : (o ++ [(⟨un, uw⟩ : Rf.R)]).length = o.length + 1 := by simp
            obtain ⟨xs3, hx3⟩ : ∃ xs, xs = rsV (o ++ [(⟨un, uw⟩ : Rf.R)]) := ⟨_, rfl⟩
            rw [← hx3] at own3
            have HX3 := Lib.hid hx3
            clear hx3
            clear a0 a1 a2 a3 a4 f3 f4 hg2 own2 s2 sx ow1 bx1 hsv1 eo3
            go_wp2_with fail
            go_roundw
            case rel => exact ⟨i + 1, _, true, A2, c2, by omega, rfl, by go_num, HN2, by simp; omega, by rw [hol3]; exact s3, by rw [hol3, ← HX3.out]; exact own3⟩
            case measure => simp [intOf]; omega
          · have he1 : (x.name == un) = false := by simpa using he
            have he2 : (x.name != un) = true := by simpa using he
            have HN2 : Hid (Rf.upFold s ⟨un, uo, uw⟩ (i + 1) = (o ++ [⟨un, uw⟩] ++ [x], true)) := Lib.hid (by rw [HN.out, if_neg he, if_pos hp])
            clear HN he hp hlx
            have sx := st.alloc (.cells #[strV x.name, .int .i64 x.tgt] 51)
            have bx1 := Blk.new wo 51 #[strV x.name, .int .i64 x.tgt]
            have ow1 := hown.alloc (.cells #[strV x.name, .int .i64 x.tgt] 51)
            have hsv1 : SV ((wo.alloc (.cells #[strV x.name, .int .i64 x.tgt] 51)).alloc (.cells #[strV un, .int .i64 uw] 51)) (wo.heap.size + 1 + 1) (some ⟨wo.heap.size + 1, 0, none⟩) [strV un, .int .i64 uw] := by simpa using SV.lit (wo.alloc (.cells #[strV x.name, .int .i64 x.tgt] 51)) #[strV un, .int .i64 uw] 51
            go_wp2_with (first | (at_builtin; refine wpList_appN _ rfl (.tmp 35) (.tmp 41) 24 rfl (w.heap.size + 4) 51 i0 _ 2 24 Tryd.underlying24 hi0 hz0 hz1 hz2 rfl (by decide) A' o.length c' (rsV o) rfl (ow1.alloc (.cells #[strV un, .int .i64 uw] 51)) _ _ 1 1 [strV un, .int .i64 uw] rfl rfl hsv1 (by intro v hv; simp at hv; rcases hv with rfl | rfl <;> rfl) ?ha1 ?hb1 ?hc1 ?_))
            case ha1 => unfold maxLen; omega
            case hb1 => omega
            case hc1 => simp; omega
            intro A2 c2 w2 own2 hg2 _
            have hr2 : ∀ b, (Value.slice A' o.length c').ownBlock = some b → w.heap.size + 4 ≤ b := fun b e => (hown.lt b e).1
            have s2 := (sx.alloc (.cells #[strV un, .int .i64 uw] 51)).grown hg2 hr2
            have b2 := (bx1.alloc (.cells #[strV un, .int .i64 uw] 51)).grown hg2 (fun e => by have := (hown.lt _ e.symm).2; omega)
            obtain ⟨q0, q1, q2, q3, q4, g3, g4, m0, m1, m2, m3⟩ := s2.facts
            have t0 : w2.cell? ⟨wo.heap.size, 0, none⟩ = some (strV x.name) := (b2.cell 0).trans rfl
            have t1 : w2.cell? ⟨wo.heap.size, 1, none⟩ = some (.int .i64 x.tgt) := (b2.cell 1).trans rfl
            have t2 := b2.lt
            have hne2 : some (w.heap.size + 3) ≠ (Value.slice A2 (o.length + 1) c2).ownBlock := fun e => by have := (own2.lt _ e.symm).1; omega
            have n2 : ¬ (wo.heap.size = w.heap.size + 3) := by omega
            have s3 := s2.set (.slice A2 (o.length + 1) c2)
            have own3 := own_setCell (p := ⟨w.heap.size + 3, 0, none⟩) own2 hne2 (.slice A2 (o.length + 1) c2)
            have eo3 : rsV o ++ [strV un, .int .i64 uw] = rsV (o ++ [(⟨un, uw⟩ : Rf.R)]) := rsV_snoc o ⟨un, uw⟩
            rw [eo3] at own3
            have hol3 : (o ++ [(⟨un, uw⟩ : Rf.R)]).length = o.length + 1 := by simp
            obtain ⟨xs3, hx3⟩ : ∃ xs, xs = rsV (o ++ [(⟨un, uw⟩ : Rf.R)]) := ⟨_, rfl⟩
            rw [← hx3] at own3
            have HX3 := Lib.hid hx3
            clear hx3
            clear a0 a1 a2 a3 a4 f3 f4 hg2 own2 s2 sx ow1 bx1 hsv1 eo3
            have hsz3 : (w2.setCell ⟨w.heap.size + 3, 0, none⟩ (.slice A2 (o.length + 1) c2)).heap.size = w2.heap.size := by simp [World.setCell]
            have hsv2 := SV.lit (w2.setCell ⟨w.heap.size + 3, 0, none⟩ (.slice A2 (o.length + 1) c2)) #[strV x.name, .int .i64 x.tgt] 51
            rw [hsz3] at hsv2
            go_wp2_with (first | (at_builtin; refine wpList_appN _ rfl (.tmp 50) (.tmp 52) 24 rfl (w.heap.size + 4) 51 i0 _ 2 24 Tryd.underlying24 hi0 hz0 hz1 hz2 rfl (by decide) A2 (o.length + 1) c2 _ rfl (own3.alloc (.cells #[strV x.name, .int .i64 x.tgt] 51)) _ _ 1 1 [strV x.name, .int .i64 x.tgt] rfl rfl hsv2 (by intro v hv; simp at hv; rcases hv with rfl | rfl <;> rfl) ?ha2 ?hb2 ?hc2 ?_))
            case ha2 => unfold maxLen; omega
            case hb2 => omega
            case hc2 => first | omega | (simp; omega) | (simp [World.setCell] at *; omega)
            intro A4 c4 w4 own4 hg4 _
            have hr4 : ∀ b, (Value.slice A2 (o.length + 1) c2).ownBlock = some b → w.heap.size + 4 ≤ b := fun b e => (own3.lt b e).1
            have s4 := (s3.alloc (.cells #[strV x.name, .int .i64 x.tgt] 51)).grown hg4 hr4
            clear q0 q1 q2 q3 q4 g3 g4 m0 m1 m2 m3 t0 t1 t2 b2 n2
            obtain ⟨q0, q1, q2, q3, q4, g3, g4, m0, m1, m2, m3⟩ := s4.facts
            have hne4 : some (w.heap.size + 3) ≠ (Value.slice A4 (o.length + 1 + 1) c4).ownBlock := fun e => by have := (own4.lt _ e.symm).1; omega
            have s5 := s4.set (.slice A4 (o.length + 1 + 1) c4)
            have own5 := own_setCell (p := ⟨w.heap.size + 3, 0, none⟩) own4 hne4 (.slice A4 (o.length + 1 + 1) c4)
            have eo5 : xs3 ++ [strV x.name, .int .i64 x.tgt] = rsV (o ++ [(⟨un, uw⟩ : Rf.R)] ++ [x]) := by rw [HX3.out]; exact rsV_snoc _ x
            rw [eo5] at own5
            have hol5 : (o ++ [(⟨un, uw⟩ : Rf.R)] ++ [x]).length = o.length + 1 + 1 := by simp
            clear hg4 own4 s4 s3 own3 hsv2 eo5
            go_wp2_with fail
            go_roundw
            case rel => exact ⟨i + 1, _, true, A4, c4, by omega, rfl, by go_num, HN2, by simp; omega, by rw [hol5]; exact s5, by rw [hol5]; exact own5⟩
            case measure => simp [intOf]; omega
    · obtain rfl : i = s.length := by omega
      have HL := Lib.hid (HEND.out.trans (by rw [H.out]))
      clear H
      cases p with
      | true =>
        have HR := Lib.hid (fun w' h1 h2 => HF.out o A' c' w' (by rw [HL.out]; rfl) h1 h2)
        clear HL
        go_wp2_with fail
        refine bodyPost_ret (results_c26 rfl _ _ (w.heap.size + 2) (.slice A' o.length c') rfl (((st.r1.set_ 0 (.slice A' o.length c')).cell 0).trans rfl)) rfl ?_
        exact HR.out _ (own_more (own_setCell (p := ⟨w.heap.size + 2, 0, none⟩) hown (fun e => by have := (hown.lt (w.heap.size + 2) e.symm).1; omega) _) (by omega)) (st.bel.setCell (p := ⟨w.heap.size + 2, 0, none⟩) (by first | (simp; done) | (simp; omega)) _)
      | false =>
        have HR := Lib.hid (fun A'' c'' w' h1 h2 => HF.out (o ++ [⟨un, uw⟩]) A'' c'' w' (by rw [HL.out]; rfl) h1 h2)
        clear HL
        have hsv1 := SV.lit wo #[strV un, .int .i64 uw] 51
        go_wp2_with (first | (at_builtin; refine wpList_appN _ rfl (.tmp 58) (.tmp 64) 24 rfl (w.heap.size + 4) 51 i0 _ 2 24 Tryd.underlying24 hi0 hz0 hz1 hz2 rfl (by decide) A' o.length c' (rsV o) rfl (hown.alloc (.cells #[strV un, .int .i64 uw] 51)) _ _ 1 1 [strV un, .int .i64 uw] rfl rfl hsv1 (by intro v hv; simp at hv; rcases hv with rfl | rfl <;> rfl) ?ha1 ?hb1 ?hc1 ?_))
        case ha1 => unfold maxLen; omega
        case hb1 => omega
        case hc1 => first | omega | (simp; omega)
        intro A2 c2 w2 own2 hg2 _
        have hr2 : ∀ b, (Value.slice A' o.length c').ownBlock = some b → w.heap.size + 4 ≤ b := fun b e => (hown.lt b e).1
        have s2 := (st.alloc (.cells #[strV un, .int .i64 uw] 51)).grown hg2 hr2
        obtain ⟨q0, q1, q2, q3, q4, g3, g4, m0, m1, m2, m3⟩ := s2.facts
        have hlo : ∀ b, (Value.slice A2 (o.length + 1) c2).ownBlock = some b → w.heap.size + 4 ≤ b := fun b e => (own2.lt b e).1
        have s3 := s2.set (.slice A2 (o.length + 1) c2)
        have own3 := own_setCell (p := ⟨w.heap.size + 3, 0, none⟩) own2 (fun e => by have := hlo (w.heap.size + 3) e.symm; omega) (.slice A2 (o.length + 1) c2)
        have own4 := own_setCell (p := ⟨w.heap.size + 2, 0, none⟩) own3 (fun e => by have := hlo (w.heap.size + 2) e.symm; omega) (.slice A2 (o.length + 1) c2)
        have eo3 : rsV o ++ [strV un, .int .i64 uw] = rsV (o ++ [(⟨un, uw⟩ : Rf.R)]) := rsV_snoc o ⟨un, uw⟩
        rw [eo3] at own4
        have hol3 : (o ++ [(⟨un, uw⟩ : Rf.R)]).length = o.length + 1 := by simp
        have HR2 := Lib.hid (HR.out A2 c2 _ (by rw [hol3]; exact own_more own4 (by omega)) (s3.bel.setCell (p := ⟨w.heap.size + 2, 0, none⟩) (by simp) (.slice A2 (o.length + 1) c2)))
        rw [hol3] at HR2
        have r3 := ((s3.r1.set_ 0 (.slice A2 (o.length + 1) c2)).cell 0).trans rfl
        clear a0 a1 a2 a3 a4 f3 f4 hg2 own2 hsv1 eo3 own3 own4 s3
        go_wp2_with fail
        exact bodyPost_ret (results_c26 rfl _ _ (w.heap.size + 2) (.slice A2 (o.length + 1) c2) rfl r3) rfl HR2.out
end Go.Proofs.YtfbbgnhelannjaaDoor
