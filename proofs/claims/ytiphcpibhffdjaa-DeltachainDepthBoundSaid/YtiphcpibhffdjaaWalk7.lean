/-
  Walks of the delta chain: the reference's 'EncodeDelta'.
-/
import Derived.Test.YtiphcpibhffdjaaEncL
import Derived.Test.YtiphcpibhffdjaaPure2
import Derived.Test.YtiphcpibhffdjaaView5
import Derived.Test.YtiphcpibhffdjaaView6
namespace Go.Proofs.Ytiphcpibhffdjaa
open Go.RowKit Go.V
set_option linter.unusedVariables false

theorem info3 : (Try.prog.info? 3).map (fun i => (i.zero, i.size, i.bytes)) = some (some (.int .i64 0), 1, 8) := by kernel_rfl

/-- The tables of the reference behind the letters from kk on. -/
def bestT (base t : List UInt8) (kk : Nat) (j : Nat) : Int := if j < kk then 0 else (Dc.longest base (t.drop j)).2
def firstT (base t : List UInt8) (kk : Nat) (j : Nat) : Int := if j < kk then 0 else (Dc.longest base (t.drop j)).1
def rowT (base t : List UInt8) (kk : Nat) (i : Nat) : Int := Dc.cpl (base.drop i) (t.drop kk)

theorem blk_cast {w : World} {g : Nat} {t : TypeId} {n : Nat} {f f' : Nat → Int} (h : Blk w g t (intsA (tab n f))) (e : ∀ j, j < n → f j = f' j) : Blk w g t (intsA (tab n f')) := by
  rw [← tab_congr e]; exact h

structure TabSt (w wr : World) (base t : List UInt8) (kk gb : Nat) : Prop where
  best : Blk wr w.heap.size 3 (intsA (tab (t.length + 1) (bestT base t kk)))
  first : Blk wr (w.heap.size + 1) 3 (intsA (tab (t.length + 1) (firstT base t kk)))
  below : Blk wr gb 3 (intsA (tab (base.length + 1) (rowT base t kk)))
  ge : w.heap.size + 2 ≤ gb
  bel : Below w.heap.size w wr
/-- The tables within a round, the indices from ii on being done. -/
structure TabIn (w wr : World) (base t : List UInt8) (k ii gb gr : Nat) : Prop where
  best : Blk wr w.heap.size 3 (intsA (tab (t.length + 1) fun j => if j = k then ((Dc.scanR base (t.drop k) (base.length - ii)).2 : Int) else bestT base t (k + 1) j))
  first : Blk wr (w.heap.size + 1) 3 (intsA (tab (t.length + 1) fun j => if j = k then ((Dc.scanR base (t.drop k) (base.length - ii)).1 : Int) else firstT base t (k + 1) j))
  below : Blk wr gb 3 (intsA (tab (base.length + 1) (rowT base t (k + 1))))
  row : Blk wr gr 3 (intsA (tab (base.length + 1) fun i => if i < ii then 0 else rowT base t k i))
  ge : w.heap.size + 2 ≤ gb
  lt : gb < gr
  bel : Below w.heap.size w wr
theorem TabSt.start (w : World) (base t : List UInt8) :
    TabSt w (((w.alloc (.cells (madeCells #[.int .i64 0] (t.length + 1)) 3)).alloc (.cells (madeCells #[.int .i64 0] (t.length + 1)) 3)).alloc (.cells (madeCells #[.int .i64 0] (base.length + 1)) 3)) base t t.length (w.heap.size + 1 + 1) := by
  have e1 : tab (t.length + 1) (bestT base t t.length) = tab (t.length + 1) fun _ => 0 := tab_congr fun j hj => by
    unfold bestT
    split
    · rfl
    · have : j = t.length := by omega
      subst this
      rw [List.drop_length, Dc.longest_nil]; rfl
  have e2 : tab (t.length + 1) (firstT base t t.length) = tab (t.length + 1) fun _ => 0 := tab_congr fun j hj => by
    unfold firstT
    split
    · rfl
    · have : j = t.length := by omega
      subst this
      rw [List.drop_length, Dc.longest_nil]; rfl
  have e3 : tab (base.length + 1) (rowT base t t.length) = tab (base.length + 1) fun _ => 0 := tab_congr fun j hj => by
    unfold rowT
    have := Dc.cpl_le_right (base.drop j) (t.drop t.length)
    simp at this; simp [this]
  have b1 := blk_made_int w 3 (t.length + 1)
  have b2 := blk_made_int (w.alloc (.cells (madeCells #[.int .i64 0] (t.length + 1)) 3)) 3 (t.length + 1)
  have b3 := blk_made_int ((w.alloc (.cells (madeCells #[.int .i64 0] (t.length + 1)) 3)).alloc (.cells (madeCells #[.int .i64 0] (t.length + 1)) 3)) 3 (base.length + 1)
  simp only [World.size_alloc] at b2 b3
  refine ⟨?_, ?_, ?_, by omega, ((((Below.refl _ w).alloc (Nat.le_refl _) _).alloc (by simp) _).alloc (by simp; omega) _)⟩
  · rw [e1]; exact (b1.alloc _).alloc _
  · rw [e2]; exact b2.alloc _
  · rw [e3]; exact b3
theorem TabIn.start {w wr : World} {base t : List UInt8} {k gb : Nat} (h : TabSt w wr base t (k + 1) gb) :
    TabIn w (wr.alloc (.cells (madeCells #[.int .i64 0] (base.length + 1)) 3)) base t k base.length gb wr.heap.size := by
  refine ⟨?_, ?_, h.below.alloc _, ?_, h.ge, h.below.lt, h.bel.alloc h.bel.size _⟩
  · refine blk_cast (h.best.alloc _) fun j hj => ?_
    split
    · rename_i e; subst e; simp [bestT, Dc.scanR]
    · rfl
  · refine blk_cast (h.first.alloc _) fun j hj => ?_
    split
    · rename_i e; subst e; simp [firstT, Dc.scanR]
    · rfl
  · have := blk_made_int wr 3 (base.length + 1)
    refine blk_cast this fun j hj => ?_
    split
    · rfl
    · have : j = base.length := by omega
      subst this
      simp [rowT, Dc.cpl]
theorem TabIn.done {w wr : World} {base t : List UInt8} {k gb gr : Nat} (h : TabIn w wr base t k 0 gb gr) : TabSt w wr base t k gr := by
  refine ⟨?_, ?_, ?_, by have := h.ge; have := h.lt; omega, h.bel⟩
  · refine blk_cast h.best fun j hj => ?_
    rw [Nat.sub_zero, Dc.scanR_all]
    unfold bestT
    by_cases e : j = k
    · subst e; simp
    · simp only [e, if_false]
      by_cases h1 : j < k
      · rw [if_pos h1, if_pos (by omega)]
      · rw [if_neg h1, if_neg (by omega)]
  · refine blk_cast h.first fun j hj => ?_
    rw [Nat.sub_zero, Dc.scanR_all]
    unfold firstT
    by_cases e : j = k
    · subst e; simp
    · simp only [e, if_false]
      by_cases h1 : j < k
      · rw [if_pos h1, if_pos (by omega)]
      · rw [if_neg h1, if_neg (by omega)]
  · exact blk_cast h.row fun j hj => by simp
theorem TabIn.drewN {w wr : World} {base t : List UInt8} {k ii gb gr : Nat} (h : TabIn w wr base t k ii gb gr) (n : Nat) : TabIn w (wr.drewN n) base t k ii gb gr :=
  ⟨h.best, h.first, h.below, h.row, h.ge, h.lt, below_drewN h.bel n⟩

/-- Between the row's letter and the test. -/
structure TabMid (w wr : World) (base t : List UInt8) (k i gb gr : Nat) : Prop where
  best : Blk wr w.heap.size 3 (intsA (tab (t.length + 1) fun j => if j = k then ((Dc.scanR base (t.drop k) (base.length - (i + 1))).2 : Int) else bestT base t (k + 1) j))
  first : Blk wr (w.heap.size + 1) 3 (intsA (tab (t.length + 1) fun j => if j = k then ((Dc.scanR base (t.drop k) (base.length - (i + 1))).1 : Int) else firstT base t (k + 1) j))
  below : Blk wr gb 3 (intsA (tab (base.length + 1) (rowT base t (k + 1))))
  row : Blk wr gr 3 (intsA (tab (base.length + 1) fun j => if j < i then 0 else rowT base t k j))
  ge : w.heap.size + 2 ≤ gb
  lt : gb < gr
  bel : Below w.heap.size w wr
theorem TabIn.set_ {w wr : World} {base t : List UInt8} {k i gb gr : Nat} {x : Int} (h : TabIn w wr base t k (i + 1) gb gr) (hx : x = rowT base t k i) : TabMid w (wr.setCell ⟨gr, i, none⟩ (.int .i64 x)) base t k i gb gr := by
  have h1 := h.ge
  have h2 := h.lt
  refine ⟨h.best.far (by simp; omega) _, h.first.far (by simp; omega) _, h.below.far (by simp; omega) _, blk_tab_set h.row i x fun j _ => ?_, h.ge, h.lt, h.bel.setCell (by simp; omega) _⟩
  by_cases e : j = i
  · subst e; simp [hx]
  · simp only [e, if_false]
    by_cases h3 : j < i
    · rw [if_pos h3, if_pos (by omega)]
    · rw [if_neg h3, if_neg (by omega)]
theorem TabIn.stay {w wr : World} {base t : List UInt8} {k i gb gr : Nat} (h : TabIn w wr base t k (i + 1) gb gr) (hx : rowT base t k i = 0) : TabMid w wr base t k i gb gr := by
  refine ⟨h.best, h.first, h.below, blk_cast h.row fun j _ => ?_, h.ge, h.lt, h.bel⟩
  by_cases e : j = i
  · subst e; simp [hx]
  · by_cases h3 : j < i
    · rw [if_pos h3, if_pos (by omega)]
    · rw [if_neg h3, if_neg (by omega)]
theorem TabMid.drewN {w wr : World} {base t : List UInt8} {k i gb gr : Nat} (h : TabMid w wr base t k i gb gr) (n : Nat) : TabMid w (wr.drewN n) base t k i gb gr :=
  ⟨h.best, h.first, h.below, h.row, h.ge, h.lt, below_drewN h.bel n⟩
theorem TabMid.skip {w wr : World} {base t : List UInt8} {k i gb gr : Nat} (h : TabMid w wr base t k i gb gr) (hs : Dc.scanR base (t.drop k) (base.length - i) = Dc.scanR base (t.drop k) (base.length - (i + 1))) : TabIn w wr base t k i gb gr :=
  ⟨by rw [hs]; exact h.best, by rw [hs]; exact h.first, h.below, h.row, h.ge, h.lt, h.bel⟩
theorem TabMid.take_ {w wr : World} {base t : List UInt8} {k i gb gr : Nat} {x : Int} (h : TabMid w wr base t k i gb gr) (n : Nat) (hs : Dc.scanR base (t.drop k) (base.length - i) = (i, n)) (hx : x = n) :
    TabIn w ((wr.setCell ⟨w.heap.size, k, none⟩ (.int .i64 x)).setCell ⟨w.heap.size + 1, k, none⟩ (.int .i64 i)) base t k i gb gr := by
  have h1 := h.ge
  have h2 := h.lt
  refine ⟨(blk_tab_set h.best k x fun j _ => ?_).far (by simp) _, blk_tab_set (h.first.far (by simp) _) k i fun j _ => ?_, (h.below.far (by simp; omega) _).far (by simp; omega) _, (h.row.far (by simp; omega) _).far (by simp; omega) _, h.ge, h.lt, (h.bel.setCell (by simp) _).setCell (by simp) _⟩
  · rw [hs, hx]
    by_cases e : j = k <;> simp [e]
  · rw [hs]
    by_cases e : j = k <;> simp [e]

section
variable (w : World) (A1 A2 : Option Addr) (c1 c2 : Nat) (base target : List UInt8)

set_option maxRecDepth 100000 in
/-- The two tables of the reference, once filled. -/
def tabL (w : World) (base t : List UInt8) : List (Nat × TypeId × Array Value) :=
  [(w.heap.size, 3, intsA (tab (t.length + 1) (bestT base t 0))), (w.heap.size + 1, 3, intsA (tab (t.length + 1) (firstT base t 0)))]
theorem tabL_ty {w : World} {base t : List UInt8} : ∀ b ∈ tabL w base t, b.2.1 ≠ 5 ∧ b.2.1 ≠ 37 := by
  intro b hb
  simp only [tabL, List.mem_cons, List.not_mem_nil, or_false] at hb
  rcases hb with rfl | rfl <;> exact ⟨(by decide : (3 : TypeId) ≠ 5), (by decide : (3 : TypeId) ≠ 37)⟩
/-- What the flag 'inserting' says of the last operation. -/
def InsL (w wr : World) (out : List Dc.Op) (xs : List Value) (t : List UInt8) (b : Bool) : Prop :=
  if b then ∃ os ys d A c base', OpenL w wr out xs os ys d A c base' ∧ d.length + t.length ≤ 1000 else ∀ o, out.getLast? = some o → 0 < o.len

set_option maxRecDepth 100000 in
set_option maxHeartbeats 8000000 in
theorem encodeDelta_any (h1 : SV w w.heap.size A1 (bytesV base)) (h2 : SV w w.heap.size A2 (bytesV target)) (hb : base.length ≤ 1000) (ht : target.length ≤ 1000) :
    Calls Try.prog 14 #[.slice A1 base.length c1, .slice A2 target.length c2] w fun e w' => ∃ v, e = .returned v ∧ OpsV w' w'.heap.size v (Dc.encode base target) ∧ Below w.heap.size w w' := by
  obtain ⟨i0, hi0, hz0, hz1, hz2⟩ := info_parts info5
  obtain ⟨i1, hi1, hy0, hy1, hy2⟩ := info_parts info37
  have hmk1 := run_make_row' (P := Try.prog) 48 3 (.int .i64 0) 8 Try.underlying48 info3 rfl .i64 .i64 (target.length + 1) (by omega) (by omega)
  have hmk2 := run_make_row' (P := Try.prog) 48 3 (.int .i64 0) 8 Try.underlying48 info3 rfl .i64 .i64 (base.length + 1) (by omega) (by omega)
  rw [show ((target.length + 1 : Nat) : Int) = (target.length : Int) + 1 by omega] at hmk1
  rw [show ((base.length + 1 : Nat) : Int) = (base.length : Int) + 1 by omega] at hmk2
  go_enter Try.func14, Try.ntmps14
  go_wp2_with fail
  go_loopw [7, 8] (fun v k wr => ∃ kk gb : Nat, kk ≤ target.length ∧ k = .int .i64 ((kk : Int) - 1) ∧ v = .slice (some ⟨gb, 0, none⟩) (base.length + 1) (base.length + 1) ∧ TabSt w wr base target kk gb) (fun _ k _ => (intOf k + 1).toNat)
  case atStart => exact ⟨target.length, _, Nat.le_refl _, rfl, rfl, TabSt.start w base target⟩
  case round =>
    obtain ⟨kk, gb, hkk, rfl, rfl, st⟩ := hrel
    obtain ⟨wo, rfl⟩ : ∃ wo : World, wo = wr := ⟨_, rfl⟩
    by_cases hk0 : kk = 0
    · subst hk0
      go_wp2_with fail
      have L0 : ∀ b ∈ tabL w base target, Blk wo b.1 b.2.1 b.2.2 := by
        intro b hb
        simp only [tabL, List.mem_cons, List.not_mem_nil, or_false] at hb
        rcases hb with rfl | rfl
        · exact st.best
        · exact st.first
      have hbl0 := st.bel
      clear st
      go_loopw [11, 12, 13] (fun ov iv kv wr => ∃ (k : Nat) (Ao : Option Addr) (co : Nat) (out : List Dc.Op) (xs : List Value) (b : Bool), k ≤ target.length ∧ ov = .slice Ao out.length co ∧ iv = .bool b ∧ kv = .int .i64 k ∧
          EncL (tabL w base target) w wr Ao co out xs ∧ InsL w wr out xs (target.drop k) b ∧ out.length + (target.length - k) ≤ 1000 ∧ Hid (Dc.encRest base [] target = Dc.encRest base out (target.drop k))) (fun _ _ kv _ => target.length - (intOf kv).toNat)
      case atStart => exact ⟨0, none, 0, [], [], false, Nat.zero_le _, rfl, rfl, rfl, ⟨World.ownsRow_nil _ _ _ _, rfl, L0, tabL_ty, hbl0⟩, by simp [InsL], by simpa using ht, rfl⟩
      case round =>
        obtain ⟨k, Ao, co, out, xs, b, hk, rfl, rfl, rfl, st, hlast, hsum, hgo⟩ := hrel
        obtain ⟨w1, rfl⟩ : ∃ w1 : World, w1 = wr := ⟨_, rfl⟩
        have hsz := st.bel.size
        clear L0 hbl0
        by_cases hkl : k = target.length
        · subst hkl
          have hfin := hgo.out
          rw [List.drop_length, Dc.encRest_nil] at hfin
          go_wp2_with fail
          refine bodyPost_ret (v := .slice Ao out.length co) (by simp [results, Try.results14, go_sem]) rfl ⟨_, rfl, ?_, st.bel⟩
          rw [show Dc.encode base target = out from hfin]
          obtain ⟨A', c', e1, hcc, _⟩ := own_form st.own
          injection e1 with _ _ e3
          subst e3
          exact ⟨Ao, co, xs, rfl, hcc, SV.of_own st.own, st.ops.mono fun o cs hh => OpO.toR o cs hh⟩
        · have hkt : k < target.length := by omega
          have cb : w1.cell? ⟨w.heap.size, k, none⟩ = some (.int .i64 (bestT base target 0 k)) := blk_tab (st.blk (w.heap.size, 3, intsA (tab (target.length + 1) (bestT base target 0))) (by simp [tabL])) k (by omega)
          have cf : w1.cell? ⟨w.heap.size + 1, k, none⟩ = some (.int .i64 (firstT base target 0 k)) := blk_tab (st.blk (w.heap.size + 1, 3, intsA (tab (target.length + 1) (firstT base target 0))) (by simp [tabL])) k (by omega)
          simp only [bestT, firstT, Nat.not_lt_zero, if_false] at cb cf
          have hik : (k : Int) < (target.length : Int) + 1 := by omega
          have hls := Dc.longest_le base (target.drop k)
          have hne : target.drop k ≠ [] := by intro h; have := congrArg List.length h; simp at this; omega
          have hdl : (target.drop k).length = target.length - k := List.length_drop
          by_cases hn4 : 4 ≤ (Dc.longest base (target.drop k)).2
          · have hn4' : (4 : Int) ≤ (Dc.longest base (target.drop k)).2 := by omega
            have hgo2 := Lib.hid (hgo.out.trans (Dc.encRest_copy base out (target.drop k) hne hn4))
            rw [List.drop_drop] at hgo2
            have hle1 := hls.1
            have hle2 := hls.2.1
            rw [hdl] at hle2
            clear hls hlast hgo hne hdl
            obtain ⟨lo, HL⟩ : ∃ lo, Hid (Dc.longest base (target.drop k) = lo) := ⟨_, rfl⟩
            rw [HL.out] at hle1 hle2 hn4 hn4' cb cf hgo2
            go_wp2_with fail
            go_region_law
              (first | (refine step_appN _ rfl (.tmp 100) (.tmp 110) 24 rfl w.heap.size 37 i1 _ 3 40 Try.underlying24 hi1 hy0 hy1 hy2 rfl (by decide) Ao _ co xs rfl (st.own.alloc _).drew _ _ [.int .i64 lo.1, .int .i64 lo.2, .slice none 0 0] rfl rfl (by intro j v hj; match j, hj with | 0, hj => simp at hj; subst hj; simp [World.cell?_alloc_new] | 1, hj => simp at hj; subst hj; simp [World.cell?_alloc_new] | 2, hj => simp at hj; subst hj; simp [World.cell?_alloc_new]) (by intro u hu; simp at hu; rcases hu with rfl | rfl | rfl <;> rfl) (by simp [maxLen]; omega) (by omega) (by simp; omega) ?_; intro gd c' w2 hown2 hg2))
            all_goals
              have st2 := EncL.app (st.drewN 1) _ hg2 rfl hown2 (by unfold I64; omega) (by unfold I64; omega)
              have cb2 : w2.cell? ⟨w.heap.size, k, none⟩ = some (.int .i64 (bestT base target 0 k)) := blk_tab (st2.blk (w.heap.size, 3, intsA (tab (target.length + 1) (bestT base target 0))) (by simp [tabL])) k (by omega)
              simp only [bestT, Nat.not_lt_zero, if_false] at cb2
              rw [HL.out] at cb2
              clear hown2 hg2
              go_wp2_with fail
              go_roundw
              case rel =>
                repeat apply Exists.intro
                refine ⟨?_, rfl⟩
                exact ⟨k + lo.2, _, _, out ++ [⟨lo.1, lo.2, []⟩], _, false, by omega, by simp, rfl, by simp, st2, by simp [InsL]; omega, by simp; omega, by simpa [Nat.add_comm] using hgo2⟩
              case measure => simp [intOf]; omega
          · have hn4' : ((Dc.longest base (target.drop k)).2 : Int) < 4 := by omega
            have hdx : target.drop k = target[k] :: target.drop (k + 1) := List.drop_eq_getElem_cons hkt
            have hgo1 := hgo.out
            rw [hdx] at hgo1
            have hn4c := hn4
            rw [hdx] at hn4c
            have hgo2 := Lib.hid (hgo1.trans (Dc.encRest_add base out target[k] (target.drop (k + 1)) hn4c))
            have hle2 := hls.2.1
            have hdl1 : (target.drop (k + 1)).length = target.length - (k + 1) := List.length_drop
            obtain ⟨b2, o2, eA, hb2', hcx⟩ := h2.byte k hkt
            subst eA
            have hkl' : (k : Int) < target.length := by omega
            clear hls hne hdx hgo hgo1 hn4c hn4
            generalize target[k] = x at *
            obtain ⟨lo, HL⟩ : ∃ lo, Hid (Dc.longest base (target.drop k) = lo) := ⟨_, rfl⟩
            rw [HL.out] at hn4' cb cf hle2
            cases b
            · have hcl : ∀ o, out.getLast? = some o → 0 < o.len := by simpa [InsL] using hlast
              have HAO := Lib.hid (show Dc.addB out x = out ++ [⟨0, 0, ([] : List UInt8) ++ [x]⟩] from by
                unfold Dc.addB
                rcases hgl : out.getLast? with _ | o
                · have : out = [] := by simpa using hgl
                  subst this; rfl
                · simp only
                  rw [if_pos (hcl o hgl)]
                  rfl)
              clear hcl hlast
              go_wp2_with (first | (at_builtin; refine wpList_appN _ rfl (.tmp 120) (.tmp 122) 24 rfl w.heap.size 37 i1 _ 3 40 Try.underlying24 hi1 hy0 hy1 hy2 rfl (by decide) Ao _ co xs rfl (st.own.alloc _) _ _ 1 _ [.int .i64 0, .int .i64 0, .slice none 0 0] rfl rfl (SV.lit _ _ _) ?xa2 ?xb2 ?xc2 ?xd2 ?_))
              case xa2 => intro u hu; simp at hu; rcases hu with rfl | rfl | rfl <;> rfl
              case xb2 => simp [maxLen]; try omega
              case xc2 => first | omega | simp
              case xd2 => simp; omega
              intro A' c' w2 hown2 hg2 _
              have st2 := EncL.app st _ hg2 rfl hown2 (by unfold I64; omega) (by unfold I64; omega)
              obtain ⟨g, cap, hv, _, _⟩ := hown2.form (by simp)
              injection hv with hv1 hv2 hv3
              subst hv1 hv3
              have rd := ReadyL.fresh st2
              clear hown2 hg2 st2
              have hcD : _ = some _ := rd.cell
              have hfD := rd.fro
              have hcX := (rd.bel.cell (p := ⟨b2, o2 + k, none⟩) hb2').trans hcx
              have hrsz := rd.hi
              have hlt1 : (out.length : Int) < (out.length : Int) + 1 := by omega
              go_wp2_with fail
              go_region_law
                (first | (refine step_app1 _ rfl (.tmp 133) (.tmp 138) 22 rfl _ 5 i0 (.int .u8 0) 1 Try.underlying22 hi0 hz0 hz1 hz2 rfl _ _ _ _ rfl (rd.data.alloc _).drew _ _ (.int .u8 x.toNat) rfl (by simp [World.cell?_alloc_new]) rfl (by simp [maxLen]; try omega) (by first | omega | simp) (by simp; try omega) ?_; intro gd cap' w3 hown3 hg3; have hcS := rd.storeCell _ hg3; have hfS := rd.storeFro _ hg3))
              all_goals
                have hdone := ((rd.alloc _).drewN 1).done hown3 hg3 (by first | omega | simp)
                have HG := Lib.hid (hgo2.out.trans (congrArg (fun o => Dc.encRest base o (target.drop (k + 1))) HAO.out))
                clear hcS hfS hown3 hg3
                go_wp2_with fail
                go_roundw
                case rel =>
                  repeat apply Exists.intro
                  refine ⟨?_, rfl⟩
                  exact ⟨k + 1, some ⟨g, 0, none⟩, _, out ++ [⟨0, 0, ([] : List UInt8) ++ [x]⟩], _, true, by omega, by simp, rfl, by simp, hdone.1, by simp only [InsL, if_true]; exact ⟨_, _, _, _, _, _, hdone.2, by simp; omega⟩, by simp; omega, HG⟩
                case measure => simp [intOf]; omega
            · obtain ⟨os, ys, d, Ad, cd, base', op, hdl2⟩ : ∃ os ys d A c base', OpenL w w1 out xs os ys d A c base' ∧ d.length + (target.drop k).length ≤ 1000 := by simpa only [InsL, if_true] using hlast
              rw [hdl] at hdl2
              obtain ⟨g, rfl, rd⟩ := ReadyL.again st op
              have eo := op.eo
              subst eo
              have HAO := Lib.hid (show Dc.addB (os ++ [⟨0, 0, d⟩]) x = os ++ [⟨0, 0, d ++ [x]⟩] from by
                unfold Dc.addB
                simp)
              simp only [List.length_append, List.length_cons, List.length_nil, Nat.zero_add] at hsum
              have hlo : (os ++ [(⟨0, 0, d⟩ : Dc.Op)]).length = os.length + 1 := by simp
              rw [hlo]
              clear op hlast st hlo
              have hcD : _ = some _ := rd.cell
              have hfD := rd.fro
              have hcX := (rd.bel.cell (p := ⟨b2, o2 + k, none⟩) hb2').trans hcx
              have hgl : g < w1.heap.size := World.block_lt_of_cell? w1 _ hcD
              have hrsz := rd.hi
              have hlt1 : (os.length : Int) < (os.length : Int) + 1 := by omega
              go_wp2_with fail
              go_region_law
                (first | (refine step_app1 _ rfl (.tmp 133) (.tmp 138) 22 rfl _ 5 i0 (.int .u8 0) 1 Try.underlying22 hi0 hz0 hz1 hz2 rfl _ _ _ _ rfl (rd.data.alloc _).drew _ _ (.int .u8 x.toNat) rfl (by simp [World.cell?_alloc_new]) rfl (by simp [maxLen]; try omega) (by first | omega | simp) (by simp; try omega) ?_; intro gd cap' w3 hown3 hg3; have hcS := rd.storeCell _ hg3; have hfS := rd.storeFro _ hg3))
              all_goals
                have hdone := ((rd.alloc _).drewN 1).done hown3 hg3 (by first | omega | simp)
                have HG := Lib.hid (hgo2.out.trans (congrArg (fun o => Dc.encRest base o (target.drop (k + 1))) HAO.out))
                clear hcS hfS hown3 hg3
                go_wp2_with fail
                go_roundw
                case rel =>
                  repeat apply Exists.intro
                  refine ⟨?_, rfl⟩
                  exact ⟨k + 1, some ⟨g, 0, none⟩, _, os ++ [⟨0, 0, d ++ [x]⟩], _, true, by omega, by simp, rfl, by simp, hdone.1, by simp only [InsL, if_true]; exact ⟨_, _, _, _, _, _, hdone.2, by simp; omega⟩, by simp; omega, HG⟩
                case measure => simp [intOf]; omega
    · obtain ⟨k, rfl⟩ : ∃ k, kk = k + 1 := ⟨kk - 1, by omega⟩
      have hsz := st.bel.size
      have ek : (((k + 1 : Nat) : Int) - 1) = (k : Int) := by omega
      rw [ek]
      clear ek hk0
      go_wp2_with fail
      go_loopw [10] (fun iv wx => ∃ ii : Nat, ii ≤ base.length ∧ iv = .int .i64 ((ii : Int) - 1) ∧ TabIn w wx base target k ii gb wo.heap.size) (fun iv _ => (intOf iv + 1).toNat)
      case atStart => exact ⟨base.length, Nat.le_refl _, rfl, TabIn.start st⟩
      case round =>
        obtain ⟨ii, hii, rfl, ti⟩ := hrel
        obtain ⟨w1, rfl⟩ : ∃ w1 : World, w1 = wr := ⟨_, rfl⟩
        by_cases hi0 : ii = 0
        · subst hi0
          have td := ti.done
          go_wp2_with fail
          go_roundw
          case rel => exact ⟨k, wo.heap.size, by omega, rfl, rfl, td⟩
          case measure => simp [intOf]
        · obtain ⟨i, rfl⟩ : ∃ i, ii = i + 1 := ⟨ii - 1, by omega⟩
          have ei : (((i + 1 : Nat) : Int) - 1) = (i : Int) := by omega
          rw [ei]
          clear ei hi0
          have hib : i < base.length := by omega
          have hkt : k < target.length := by omega
          obtain ⟨b1, o1, e1, hb1, hc1'⟩ := h1.byte i hib
          obtain ⟨b2, o2, e2, hb2, hc2'⟩ := h2.byte k hkt
          subst e1 e2
          have ca := (ti.bel.cell (p := ⟨b1, o1 + i, none⟩) hb1).trans hc1'
          have cb := (ti.bel.cell (p := ⟨b2, o2 + k, none⟩) hb2).trans hc2'
          have cw := blk_tab ti.below (i + 1) (by omega)
          have cr := blk_tab ti.row i (by omega)
          have ct := blk_tab ti.best k (by omega)
          have cf := blk_tab ti.first k (by omega)
          have fr := ti.row.frozen i
          have ft := ti.best.frozen k
          have ff := ti.first.frozen k
          have hge := ti.ge
          have hlt := ti.lt
          rw [if_pos (by omega)] at cr
          rw [if_pos rfl] at ct cf
          simp only [rowT] at cw
          have hrow := Dc.cpl_row base target i k hib hkt
          have hq1 : base.length - i = (base.length - (i + 1)) + 1 := by omega
          have hscan : Dc.scanR base (target.drop k) (base.length - i) = if 0 < Dc.cpl (base.drop i) (target.drop k) ∧ (Dc.scanR base (target.drop k) (base.length - (i + 1))).2 ≤ Dc.cpl (base.drop i) (target.drop k) then (i, Dc.cpl (base.drop i) (target.drop k)) else Dc.scanR base (target.drop k) (base.length - (i + 1)) := by
            rw [hq1]
            simp only [Dc.scanR]
            have : base.length - (base.length - (i + 1) + 1) = i := by omega
            rw [this]
          have HS := Lib.hid hscan
          have HR := Lib.hid hrow
          have hcl := Dc.cpl_le_left (base.drop (i + 1)) (target.drop (k + 1))
          simp only [List.length_drop] at hcl
          clear hq1 hscan hrow hc1' hc2'
          have hk0 : (0 : Int) ≤ (k : Int) := by omega
          have hi0' : (0 : Int) ≤ (i : Int) := by omega
          by_cases he : base[i] = target[k]
          · have he' : ((base[i].toNat : Int) == (target[k].toNat : Int)) = true := by simp [he]
            have HE := Lib.hid he
            clear he
            generalize Dc.cpl (base.drop (i + 1)) (target.drop (k + 1)) = cp at *
            go_wp2_with fail
            go_quiet (fail)
            go_wp2_with fail
            have tm := (ti.drewN nq).set_ (x := (cp : Int) + 1) (by unfold rowT; rw [HR.out, if_pos HE.out]; omega)
            generalize ((w1.drewN nq).setCell ⟨wo.heap.size, i, none⟩ (.int .i64 ((cp : Int) + 1))) = w2 at *
            clear cr cw ct cf fr ft ff ca cb
            have mr := blk_tab tm.row i (by omega)
            have mt := blk_tab tm.best k (by omega)
            have mf := blk_tab tm.first k (by omega)
            have nt := tm.best.frozen k
            have nf := tm.first.frozen k
            rw [if_neg (by omega)] at mr
            rw [if_pos rfl] at mt mf
            have hrT : rowT base target k i = (cp : Int) + 1 := by unfold rowT; rw [HR.out, if_pos HE.out]; omega
            rw [hrT] at mr
            have hcpl : Dc.cpl (base.drop i) (target.drop k) = cp + 1 := by rw [HR.out, if_pos HE.out]
            have hs2 := HS.out
            rw [hcpl] at hs2
            clear hrT hcpl
            by_cases hle : (Dc.scanR base (target.drop k) (base.length - (i + 1))).2 ≤ cp + 1
            · rw [if_pos ⟨by omega, hle⟩] at hs2
              have HS2 := Lib.hid hs2
              clear hs2
              have hle' : ((Dc.scanR base (target.drop k) (base.length - (i + 1))).2 : Int) ≤ (cp : Int) + 1 := by omega
              generalize Dc.scanR base (target.drop k) (base.length - (i + 1)) = sc at *
              go_quiet (fail)
              go_wp2_with fail
              go_roundw
              case rel => exact ⟨i, by omega, rfl, (tm.drewN _).take_ (cp + 1) HS2.out (by omega)⟩
              case measure => simp [intOf]
            · rw [if_neg (by omega)] at hs2
              have HS2 := Lib.hid hs2
              clear hs2
              have tin := tm.skip HS2.out
              have hle' : decide (((Dc.scanR base (target.drop k) (base.length - (i + 1))).2 : Int) ≤ (cp : Int) + 1) = false := by simp; omega
              go_quiet (fail)
              go_wp2_with fail
              go_roundw
              case rel => exact ⟨i, by omega, rfl, tin.drewN _⟩
              case measure => simp [intOf]
          · have he' : ((base[i].toNat : Int) == (target[k].toNat : Int)) = false := by
              simp; intro h; exact he (by apply UInt8.toNat_inj.1; omega)
            have hz : Dc.cpl (base.drop i) (target.drop k) = 0 := by rw [HR.out, if_neg he]
            have hs2 := HS.out
            rw [hz, if_neg (by omega)] at hs2
            have tin := (ti.stay (by unfold rowT; rw [hz]; rfl)).skip hs2
            clear hz hs2 he cw
            go_wp2_with fail
            go_quiet (fail)
            go_wp2_with fail
            go_quiet (fail)
            go_wp2_with fail
            go_roundw
            case rel => exact ⟨i, by omega, rfl, (tin.drewN _)⟩
            case measure => simp [intOf]
end
end Go.Proofs.Ytiphcpibhffdjaa
