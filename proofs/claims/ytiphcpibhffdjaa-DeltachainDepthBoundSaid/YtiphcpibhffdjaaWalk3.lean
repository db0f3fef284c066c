/-
  Walks of the delta chain: 'all' and 'Apply'.
-/
import Derived.Test.YtiphcpibhffdjaaWalk2
namespace Go.Proofs.Ytiphcpibhffdjaa
open Go.RowKit Go.V
set_option linter.unusedVariables false

/-- One operation of a delta, as three cells. -/
def OpR (w : World) (B : Nat) (o : Dc.Op) (cs : List Value) : Prop :=
  ∃ A c, cs = [.int .i64 o.off, .int .i64 o.len, .slice A o.data.length c] ∧ o.data.length ≤ c ∧ o.data.length ≤ 140737488351232 ∧ I64 o.off ∧ I64 o.len ∧ SV w B A (bytesV o.data)
theorem OpR.len {w : World} {B : Nat} (o : Dc.Op) (cs : List Value) (h : OpR w B o cs) : cs.length = 3 := by obtain ⟨A, c, rfl, _⟩ := h; rfl
theorem OpR.keep {w w' : World} {B B' : Nat} (hk : ∀ p : Addr, p.block < B → w'.cell? p = w.cell? p) (hB : B ≤ B') (o : Dc.Op) (cs : List Value) (h : OpR w B o cs) : OpR w' B' o cs := by
  obtain ⟨A, c, e, h1, h2, h3, h4, h5⟩ := h
  exact ⟨A, c, e, h1, h2, h3, h4, (h5.keep hk).more hB⟩

theorem applyGo_drop (base : List UInt8) (ops : List Dc.Op) (i : Nat) (out : List UInt8) (hi : i < ops.length) :
    Dc.applyGo base i out (ops.drop i) = if (Dc.run base out ops[i]).2 = 0 then Dc.applyGo base (i + 1) (Dc.run base out ops[i]).1 (ops.drop (i + 1)) else ([], ((Dc.run base out ops[i]).2, (i : Int))) := by
  rw [List.drop_eq_getElem_cons hi]; rfl

/-- What 'all' and 'Apply' leave. -/
def ApplyPost (w : World) (r : List UInt8 × (Int × Int)) (e : Ending) (w' : World) : Prop :=
  ∃ v, e = .returned (.tuple #[v, .agg #[.int .i64 r.2.1, .int .i64 r.2.2]]) ∧ w'.ownsRow w.heap.size 5 1 v r.1.length (bytesV r.1) ∧ Below w.heap.size w w'
theorem ApplyPost.fail_ {w w' : World} {r : List UInt8 × (Int × Int)} {c i : Int} (h : Hid (r = ([], (c, i)))) (hg : Below w.heap.size w w') :
    ApplyPost w r (.returned (.tuple #[.slice none 0 0, .agg #[.int .i64 c, .int .i64 i]])) w' := by
  rw [h.out]
  exact ⟨_, rfl, World.ownsRow_nil _ _ _ _, hg⟩
theorem run_len (base out : List UInt8) (o : Dc.Op) (h : (Dc.run base out o).2 = 0) : (Dc.run base out o).1.length ≤ 1000 := by
  unfold Dc.run at *
  split
  · simp
  · split
    · simp
    · split
      · simp
      · split
        · simp; omega
        · simp; omega
theorem run_code (base out : List UInt8) (o : Dc.Op) : (Dc.run base out o).2 = 0 ∨ (Dc.run base out o).2 = 3 ∨ (Dc.run base out o).2 = 5 ∨ (Dc.run base out o).2 = 10 := by
  unfold Dc.run
  split
  · simp
  · split
    · simp
    · split
      · simp
      · split <;> simp

section
variable (w : World) (A1 A2 : Option Addr) (c1 c2 : Nat) (base : List UInt8) (ops : List Dc.Op) (vs : List Value)

set_option maxHeartbeats 3200000 in
theorem all_any (h1 : SV w w.heap.size A1 (bytesV base)) (hc1 : base.length ≤ c1) (hr : RowsR (OpR w w.heap.size) ops vs) (h2 : SV w w.heap.size A2 vs)
    (hb : base.length ≤ 9223372036854775807) (ho : ops.length ≤ 9223372036854775807) :
    Calls Try.prog 25 #[.slice A1 base.length c1, .slice A2 ops.length c2] w (ApplyPost w (Dc.apply base ops)) := by
  by_cases hb1 : 1000 < base.length
  · have H := Lib.hid (show Dc.apply base ops = ([], (10, -1)) from by unfold Dc.apply; rw [if_pos hb1])
    go_enter Try.func25, Try.ntmps25
    go_wp2_with fail
    refine bodyPost_ret (v := .tuple #[.slice none 0 0, .agg #[.int .i64 10, .int .i64 (-1)]]) (by simp [results, Try.results25, go_sem]) rfl (ApplyPost.fail_ H ?_)
    exact (Below.refl _ _).alloc (Nat.le_refl _) _
  · by_cases ho1 : 1000 < ops.length
    · have H := Lib.hid (show Dc.apply base ops = ([], (2, -1)) from by unfold Dc.apply; rw [if_neg hb1, if_pos ho1])
      go_enter Try.func25, Try.ntmps25
      go_wp2_with fail
      refine bodyPost_ret (v := .tuple #[.slice none 0 0, .agg #[.int .i64 2, .int .i64 (-1)]]) (by simp [results, Try.results25, go_sem]) rfl (ApplyPost.fail_ H ?_)
      exact (Below.refl _ _).alloc (Nat.le_refl _) _
    · have H := Lib.hid (show Dc.apply base ops = Dc.applyGo base 0 [] (ops.drop 0) from by unfold Dc.apply; rw [if_neg hb1, if_neg ho1]; rfl)
      have hb2 : base.length ≤ 1000 := by omega
      have ho2 : ops.length ≤ 1000 := by omega
      clear hb ho
      go_enter Try.func25, Try.ntmps25
      go_wp2_with fail
      go_loopw [6, 21] (fun v k wr => ∃ (i : Nat) (out : List UInt8) (A : Option Addr) (c : Nat), i ≤ ops.length ∧ k = .int .i64 i ∧ v = .slice A out.length c ∧ out.length ≤ 1000 ∧
          wr.ownsRow w.heap.size 5 1 (.slice A out.length c) out.length (bytesV out) ∧ Blk wr w.heap.size 26 #[.int .i64 0, .int .i64 0] ∧ Below w.heap.size w wr ∧ Hid (Dc.applyGo base 0 [] (ops.drop 0) = Dc.applyGo base i out (ops.drop i))) (fun _ k _ => ops.length - (intOf k).toNat)
      case atStart => exact ⟨0, [], none, 0, Nat.zero_le _, rfl, rfl, by simp, World.ownsRow_nil _ _ _ _, Blk.new _ _ _, (Below.refl _ _).alloc (Nat.le_refl _) _, rfl⟩
      case round =>
        obtain ⟨i, out, A, c, hi, rfl, rfl, hol, hown, hblk, hbel, hgo⟩ := hrel
        have hsz := hbel.size
        by_cases hlt : i < ops.length
        · obtain ⟨b, off, cs, rfl, hbb, ⟨A3, c3, rfl, hd3, hd4, hoff, hlen, hsv⟩, hcell⟩ := SV.row OpR.len (by omega) h2 hr i hlt
          have g0 : wr.cell? ⟨b, off + i * 3, none⟩ = _ := (hbel.cell (p := ⟨b, off + i * 3 + 0, none⟩) hbb).trans (hcell 0 _ rfl)
          have g1 := (hbel.cell (p := ⟨b, off + i * 3 + 1, none⟩) (by exact hbb)).trans (hcell 1 _ rfl)
          have g2 := (hbel.cell (p := ⟨b, off + i * 3 + 2, none⟩) (by exact hbb)).trans (hcell 2 _ rfl)
          clear hcell
          have hgo' := applyGo_drop base ops i out hlt
          have HG := Lib.hid hgo'
          clear hgo'
          have hw1 : SV (wr.alloc (.cells #[.int .i64 ops[i].off, .int .i64 ops[i].len, .slice A3 ops[i].data.length c3] 37)) w.heap.size A1 (bytesV base) := (h1.below hbel (Nat.le_refl _)).alloc hsz _
          have hw3 : SV (wr.alloc (.cells #[.int .i64 ops[i].off, .int .i64 ops[i].len, .slice A3 ops[i].data.length c3] 37)) w.heap.size A3 (bytesV ops[i].data) := (hsv.below hbel (Nat.le_refl _)).alloc hsz _
          have hownA := hown.alloc (.cells #[.int .i64 ops[i].off, .int .i64 ops[i].len, .slice A3 ops[i].data.length c3] 37)
          have hblkA := hblk.alloc (.cells #[.int .i64 ops[i].off, .int .i64 ops[i].len, .slice A3 ops[i].data.length c3] 37)
          have hbelA := hbel.alloc hsz (.cells #[.int .i64 ops[i].off, .int .i64 ops[i].len, .slice A3 ops[i].data.length c3] 37)
          go_wp2_with fail
          refine (run_any _ A1 A A3 c1 c c3 w.heap.size base out ops[i] (hw1.more (by simp; omega)) hc1 hownA (hw3.more (by simp; omega)) (by simp; omega) hb2 hol hd4 hoff hlen).mono ?_
          rintro e w1 ⟨v, rfl, hown1, hg1⟩
          have hblk1 := hblkA.grown hg1 (own_blk_ne hownA hblkA (by decide))
          have hbel1 : Below w.heap.size w w1 := below_append hbelA hownA hg1 (Nat.le_refl _) (by simp; omega)
          obtain ⟨A', c', rfl, hc', hc''⟩ := own_form hown1
          clear g0 g1 g2 hw1 hw3 hg1 hown hblk hbel hsv hownA hblkA hbelA
          by_cases hcode : (Dc.run base out ops[i]).2 = 0
          · have hl1 := run_len base out ops[i] hcode
            have hne : ((Dc.run base out ops[i]).2 != 0) = false := by simp [hcode]
            have HG2 := Lib.hid (HG.out.trans (if_pos hcode))
            clear HG hcode
            go_wp2_with fail
            go_roundw
            case rel => exact ⟨i + 1, _, A', c', by omega, by go_num, rfl, hl1, hown1, hblk1, hbel1, hgo.out.trans HG2.out⟩
            case measure => simp [intOf]; omega
          · have hne : ((Dc.run base out ops[i]).2 != 0) = true := by simpa using hcode
            have HG2 := Lib.hid (HG.out.trans (if_neg hcode))
            have HF := Lib.hid (H.out.trans (hgo.out.trans HG2.out))
            have hc0 := hblk1.cell 0
            have hc1' := hblk1.cell 1
            have hf0 := hblk1.frozen 0
            have hf1 := hblk1.frozen 1
            simp only [List.getElem?_toArray, List.getElem?_cons_zero, List.getElem?_cons_succ] at hc0 hc1'
            clear HG hcode
            go_wp2_with fail
            refine bodyPost_ret (v := .tuple #[.slice none 0 0, .agg #[.int .i64 (Dc.run base out ops[i]).2, .int .i64 i]]) ?_ rfl (ApplyPost.fail_ HF ?_)
            · simp [results, Try.results25, go_sem, hc0, hc1']
            · exact (hbel1.setCell (by simp) _).setCell (by simp) _
        · obtain rfl : i = ops.length := by omega
          have hc0 := hblk.cell 0
          have hc1' := hblk.cell 1
          have hf0 := hblk.frozen 0
          have hf1 := hblk.frozen 1
          simp only [List.getElem?_toArray, List.getElem?_cons_zero, List.getElem?_cons_succ] at hc0 hc1'
          go_wp2_with fail
          refine bodyPost_ret (v := .tuple #[.slice A out.length c, .agg #[.int .i64 0, .int .i64 0]]) ?_ rfl ?_
          · simp [results, Try.results25, go_sem, hc0, hc1']
          · have e : Dc.apply base ops = (out, (0, 0)) := by
              rw [H.out, hgo.out, List.drop_length]; rfl
            rw [e]
            have hne : some w.heap.size ≠ (Value.slice A out.length c).ownBlock := own_blk_ne hown hblk (by decide)
            exact ⟨_, rfl, own_setCell (own_setCell hown hne _) hne _, (hbel.setCell (by simp) _).setCell (by simp) _⟩

set_option maxHeartbeats 3200000 in
theorem apply_any (h1 : SV w w.heap.size A1 (bytesV base)) (hc1 : base.length ≤ c1) (hr : RowsR (OpR w w.heap.size) ops vs) (h2 : SV w w.heap.size A2 vs)
    (hb : base.length ≤ 9223372036854775807) (ho : ops.length ≤ 9223372036854775807) :
    Calls Try.prog 15 #[.slice A1 base.length c1, .slice A2 ops.length c2] w (ApplyPost w (Dc.apply base ops)) := by
  have hr' : RowsR (OpR (w.alloc (.cells #[.int .i64 0, .int .i64 0] 26)) (w.heap.size + 1)) ops vs :=
    hr.mono fun o cs h => OpR.keep (fun p hp => World.cell?_alloc_lt w _ p hp) (by omega) o cs h
  go_enter Try.func15, Try.ntmps15
  go_wp2_with fail
  refine (all_any _ A1 A2 c1 c2 base ops vs ((h1.alloc (Nat.le_refl _) _).more (by simp)) hc1 (by simpa using hr') ((h2.alloc (Nat.le_refl _) _).more (by simp)) hb ho).mono ?_
  rintro e w1 ⟨v, rfl, hown, hbel⟩
  have hblk : Blk w1 w.heap.size 26 #[.int .i64 0, .int .i64 0] := (Blk.new w 26 _).below hbel (by simp)
  have hc0 := hblk.cell 0
  have hc1' := hblk.cell 1
  have hf0 := hblk.frozen 0
  have hf1 := hblk.frozen 1
  simp only [List.getElem?_toArray, List.getElem?_cons_zero, List.getElem?_cons_succ] at hc0 hc1'
  go_wp2_with fail
  refine bodyPost_ret (v := .tuple #[v, .agg #[.int .i64 (Dc.apply base ops).2.1, .int .i64 (Dc.apply base ops).2.2]]) ?_ rfl ?_
  · simp [results, Try.results15, go_sem, hc0, hc1']
  · have hne : some w.heap.size ≠ v.ownBlock := own_blk_ne hown hblk (by decide)
    have hown' : w1.ownsRow w.heap.size 5 1 v (Dc.apply base ops).1.length (bytesV (Dc.apply base ops).1) := by
      obtain ⟨h1, h2 | ⟨g, cap, cur, hv, hg, h3⟩⟩ := hown
      · exact ⟨h1, .inl h2⟩
      · exact ⟨h1, .inr ⟨g, cap, cur, hv, by simp at hg; omega, h3⟩⟩
    exact ⟨_, rfl, own_setCell (own_setCell hown' hne _) hne _, (((((Below.refl w.heap.size w).alloc (Nat.le_refl _) _).trans (hbel.mono (by simp))).setCell (by simp) _).setCell (by simp) _)⟩
end
end Go.Proofs.Ytiphcpibhffdjaa
