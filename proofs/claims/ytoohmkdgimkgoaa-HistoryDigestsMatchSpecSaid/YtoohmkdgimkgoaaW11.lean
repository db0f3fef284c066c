/-
  Histories: walk of the reference's 'Reach'.
-/
import Derived.Test.YtoohmkdgimkgoaaW10
import Derived.Test.YtoohmkdgimkgoaaPure3
namespace Go.Proofs.Ytoohmkdgimkgoaa
open Go.RowKit Go.V
set_option linter.unusedVariables false

theorem info24 : (Try.prog.info? 24).map (fun i => (i.zero, i.size, i.bytes)) = some (some (.slice none 0 0), 1, 24) := by kernel_rfl

/-- A row of bools as an element of a slice of rows. -/
def BRow (w : World) (B : Nat) (f : List Bool) (cs : List Value) : Prop := ∃ A c, cs = [.slice A f.length c] ∧ SV w B A (boolsV f)
theorem BRow.len {w : World} {B : Nat} (f : List Bool) (cs : List Value) (h : BRow w B f cs) : cs.length = 1 := by obtain ⟨A, c, rfl, _⟩ := h; rfl
theorem BRow.keep {w w' : World} {B B' : Nat} (hk : ∀ p : Addr, p.block < B → w'.cell? p = w.cell? p) (hB : B ≤ B') (f : List Bool) (cs : List Value) (h : BRow w B f cs) : BRow w' B' f cs := by
  obtain ⟨A, c, e, h⟩ := h
  exact ⟨A, c, e, (h.keep hk).more hB⟩
/-- The slice at A holds the rows. -/
def MV (w : World) (A : Option Addr) (rows : List (List Bool)) : Prop := ∃ vs, SV w w.heap.size A vs ∧ RowsR (BRow w w.heap.size) rows vs
theorem MV.below {w w' : World} {A : Option Addr} {rows : List (List Bool)} (h : MV w A rows) (hb : Below w.heap.size w w') : MV w' A rows := by
  obtain ⟨vs, h1, h2⟩ := h
  exact ⟨vs, (h1.below hb (Nat.le_refl _)).more hb.size, h2.mono fun c cs hh => BRow.keep (fun p hp => hb.cell hp) hb.size c cs hh⟩
theorem MV.at_ {w : World} {A : Option Addr} {rows : List (List Bool)} (h : MV w A rows) (i : Nat) (hi : i < rows.length) : ∃ b off A' c', A = some ⟨b, off, none⟩ ∧ b < w.heap.size ∧ w.cell? ⟨b, off + i, none⟩ = some (.slice A' rows[i].length c') ∧ BV w A' rows[i] := by
  obtain ⟨vs, h1, h2⟩ := h
  obtain ⟨b, off, cs, e, hb, ⟨A', c', rfl, hsv⟩, hc⟩ := SV.row BRow.len (by omega) h1 h2 i hi
  have := hc 0 _ rfl
  rw [Nat.mul_one, Nat.add_zero] at this
  exact ⟨b, off, A', c', e, hb, this, hsv⟩
/-- The table of the reference. -/
def reachM (l : List Hs.Cm) (m : Nat) : List (List Bool) := (List.range m).map (ancL l)
@[simp] theorem reachM_length (l : List Hs.Cm) (m : Nat) : (reachM l m).length = m := by simp [reachM]
theorem reachM_succ (l : List Hs.Cm) (m : Nat) : reachM l (m + 1) = reachM l m ++ [ancL l m] := by simp [reachM, List.range_succ]
theorem reachM_get (l : List Hs.Cm) (m i : Nat) (h : i < (reachM l m).length) : (reachM l m)[i] = ancL l i := by simp [reachM]

/-- A row that the call has made, as a block. -/
def BBlk (w : World) (lo hi : Nat) (f : List Bool) (cs : List Value) : Prop := ∃ g, cs = [.slice (some ⟨g, 0, none⟩) f.length f.length] ∧ lo ≤ g ∧ g < hi ∧ Blk w g 4 (boolsA f)
theorem BBlk.len {w : World} {lo hi : Nat} (f : List Bool) (cs : List Value) (h : BBlk w lo hi f cs) : cs.length = 1 := by obtain ⟨g, rfl, _⟩ := h; rfl
structure ReachSt (w wr : World) (l : List Hs.Cm) (m : Nat) (Ao : Option Addr) (co : Nat) (vs : List Value) (hi : Nat) : Prop where
  own : wr.ownsRow w.heap.size 24 1 (.slice Ao m co) m vs
  rows : RowsR (BBlk wr w.heap.size hi) (reachM l m) vs
  hi : hi ≤ wr.heap.size
  bel : Below w.heap.size w wr
structure ReachIn (w wr : World) (l : List Hs.Cm) (m : Nat) (Ao : Option Addr) (co : Nat) (vs : List Value) (gr : Nat) (f : Nat → Bool) : Prop where
  st : ReachSt w wr l m Ao co vs gr
  row : Blk wr gr 4 (boolsA (tab l.length f))
  lo : w.heap.size ≤ gr
theorem ReachSt.make {w wr : World} {l : List Hs.Cm} {m : Nat} {Ao : Option Addr} {co : Nat} {vs : List Value} {hi : Nat} (h : ReachSt w wr l m Ao co vs hi) :
    ReachIn w (wr.alloc (.cells (madeCells #[.bool false] l.length) 4)) l m Ao co vs wr.heap.size (fun _ => false) :=
  ⟨⟨h.own.alloc _, h.rows.mono fun f cs ⟨g, e, h1, h2, h3⟩ => ⟨g, e, h1, by have := h.hi; omega, h3.alloc _⟩, by simp, h.bel.alloc h.bel.size _⟩, blk_made_bool wr 4 l.length, h.bel.size⟩
theorem ReachIn.set_ {w wr : World} {l : List Hs.Cm} {m : Nat} {Ao : Option Addr} {co : Nat} {vs : List Value} {gr : Nat} {f f' : Nat → Bool} (h : ReachIn w wr l m Ao co vs gr f) (i : Nat) (x : Bool)
    (hf : ∀ j, j < l.length → f' j = if j = i then x else f j) : ReachIn w (wr.setCell ⟨gr, i, none⟩ (.bool x)) l m Ao co vs gr f' :=
  ⟨⟨own_setCell h.st.own (fun e => own_blk_ne h.st.own h.row (by decide) e) _, h.st.rows.mono fun f cs ⟨g, e, h1, h2, h3⟩ => ⟨g, e, h1, h2, h3.far (by simp; omega) _⟩,
    by simpa [World.setCell] using h.st.hi, h.st.bel.setCell h.lo _⟩, blk_tabB_set h.row i x hf, h.lo⟩
theorem ReachIn.congr {w wr : World} {l : List Hs.Cm} {m : Nat} {Ao : Option Addr} {co : Nat} {vs : List Value} {gr : Nat} {f f' : Nat → Bool} (h : ReachIn w wr l m Ao co vs gr f) (hf : ∀ j, j < l.length → f' j = f j) : ReachIn w wr l m Ao co vs gr f' :=
  ⟨h.st, by have := h.row; rw [← tab_congr (f := f') (g := f) hf] at this; exact this, h.lo⟩
theorem ReachIn.done {w wr w' : World} {l : List Hs.Cm} {m : Nat} {Ao A' : Option Addr} {co c' : Nat} {vs : List Value} {gr : Nat} (h : ReachIn w wr l m Ao co vs gr (Hs.reach l m)) (o : Obj)
    (hg : (wr.alloc o).grownBy w' (Value.slice Ao m co).ownBlock) (hown : w'.ownsRow w.heap.size 24 1 (.slice A' (m + 1) c') (m + 1) (vs ++ [.slice (some ⟨gr, 0, none⟩) l.length l.length])) :
    ReachSt w w' l (m + 1) A' c' (vs ++ [.slice (some ⟨gr, 0, none⟩) l.length l.length]) w'.heap.size := by
  obtain ⟨k1, k2, k3⟩ := app_keep h.st.own o hg h.st.bel.size
  have hrow := k1 _ _ _ (by decide) h.row
  have hlt := h.row.lt
  refine ⟨hown, ?_, Nat.le_refl _, k2 _ _ (Nat.le_refl _) h.st.bel⟩
  rw [reachM_succ]
  refine RowsR.append (h.st.rows.mono fun f cs ⟨g, e, h1, h2, h3⟩ => ⟨g, e, h1, by omega, k1 _ _ _ (by decide) h3⟩) (RowsR.one ⟨gr, by simp [ancL], h.lo, by omega, hrow⟩)
/-- What Reach leaves. -/
def ReachPost (w : World) (l : List Hs.Cm) (e : Ending) (w' : World) : Prop := ∃ A c, e = .returned (.slice A l.length c) ∧ MV w' A (reachM l l.length) ∧ Below w.heap.size w w'

theorem ReachSt.row_ {w wr : World} {l : List Hs.Cm} {m : Nat} {Ao : Option Addr} {co : Nat} {vs : List Value} {hi : Nat} (h : ReachSt w wr l m Ao co vs hi) (p : Nat) (hp : p < m) :
    ∃ go g, Ao = some ⟨go, 0, none⟩ ∧ wr.cell? ⟨go, p, none⟩ = some (.slice (some ⟨g, 0, none⟩) l.length l.length) ∧ Blk wr g 4 (boolsA (ancL l p)) := by
  obtain ⟨go, cap, hv, _, _⟩ := h.own.form (by omega)
  injection hv with hv1 hv2 hv3
  subst hv1
  obtain ⟨cs, hcs, hu⟩ := h.rows.at_ BBlk.len p (by simpa using hp)
  rw [reachM_get] at hcs
  obtain ⟨g, rfl, h1, h2, h3⟩ := hcs
  have := (h.own.cellAt p (by omega)).trans (by simpa using hu 0 _ rfl)
  refine ⟨go, g, rfl, by simpa [ancL] using this, h3⟩

set_option maxRecDepth 100000 in
set_option maxHeartbeats 8000000 in
theorem reach_any (w : World) (A : Option Addr) (k : Nat) (l : List Hs.Cm) (hv : CV w A l) (hok : Hs.Ok l) :
    Calls Try.prog 24 #[.slice A l.length k] w (ReachPost w l) := by
  obtain ⟨i0, hi0, hz0, hz1, hz2⟩ := info_parts info24
  have hl := hok.len
  have hmk := run_make_row' (P := Try.prog) 24 4 (.bool false) 1 Try.underlying24 info4 rfl .i64 .i64 l.length (by omega) (by omega)
  go_enter Try.func24, Try.ntmps24
  go_wp2_with fail
  go_loopw [3, 4] (fun ov iv wr => ∃ (i : Nat) (Ao : Option Addr) (co : Nat) (vs : List Value) (hi : Nat), i ≤ l.length ∧ ov = .slice Ao i co ∧ iv = .int .i64 i ∧ ReachSt w wr l i Ao co vs hi) (fun _ iv _ => l.length - (intOf iv).toNat)
  case atStart => exact ⟨0, none, 0, [], w.heap.size, Nat.zero_le _, rfl, rfl, World.ownsRow_nil _ _ _ _, rfl, Nat.le_refl _, Below.refl _ _⟩
  case round =>
    obtain ⟨i, Ao, co, vs, hi', hi, rfl, rfl, st⟩ := hrel
    obtain ⟨wo, rfl⟩ : ∃ wo : World, wo = wr := ⟨_, rfl⟩
    by_cases hil : i < l.length
    · have hil' : (i : Int) < l.length := by omega
      have st1 := (st.make).set_ (f' := Hs.rowAt l i 0) i true (fun j _ => by unfold Hs.rowAt; by_cases e : j = i <;> simp [e])
      rw [World.setCell_alloc_new] at st1
      have hf1 := st.make.row.frozen i
      have hc1 := blk_tabB st.make.row i hil
      have HP := Lib.hid (hok.par_nat i · hil)
      have HPL := Lib.hid (Hs.pars_length l i hil)
      have hpl := hok.par_len i hil
      obtain ⟨b, off, Ap, kp, e, hb, _, _, _, _, _, _, hip⟩ := hv.row i hil
      subst e
      have HROW := Lib.hid (fun (wr : World) (hbel : Below w.heap.size w wr) => hv.rowIn hbel i hil)
      go_wp2_with fail
      go_loopw [6] (fun kv wr => ∃ kk : Nat, kk ≤ i ∧ kv = .int .i64 kk ∧ ReachIn w wr l i Ao co vs wo.heap.size (Hs.rowAt l i kk)) (fun kv _ => i - (intOf kv).toNat)
      case atStart => exact ⟨0, Nat.zero_le _, rfl, st1⟩
      case round =>
        obtain ⟨kk, hk, rfl, st2⟩ := hrel
        obtain ⟨w2, rfl⟩ : ∃ w2 : World, w2 = wr := ⟨_, rfl⟩
        clear st1 hf1 hc1
        by_cases hki : kk < i
        · have hki' : (kk : Int) < i := by omega
          have st3 : ReachIn w w2 l i Ao co vs wo.heap.size (Hs.rowIn l i kk 0) := by rw [Hs.rowIn_zero l i kk hki]; exact st2
          clear st2
          go_wp2_with fail
          go_loopw [7] (fun jv wr => ∃ j : Nat, j ≤ l[i].par.length ∧ jv = .int .i64 j ∧ ReachIn w wr l i Ao co vs wo.heap.size (Hs.rowIn l i kk j)) (fun jv _ => l[i].par.length - (intOf jv).toNat)
          case atStart => exact ⟨0, Nat.zero_le _, rfl, st3⟩
          case round =>
            obtain ⟨j, hj, rfl, st4⟩ := hrel
            obtain ⟨w3, rfl⟩ : ∃ w3 : World, w3 = wr := ⟨_, rfl⟩
            clear st3
            obtain ⟨b2, off2, Ap2, kp2, e2, hb2, c0, _, _, _, _, _, hip2⟩ := HROW.out _ st4.st.bel
            injection e2 with e2
            injection e2 with e3 e4
            subst e3 e4
            by_cases hjl : j < l[i].par.length
            · obtain ⟨b', off', e', hb', hc'⟩ := hip2.atIn st4.st.bel j hjl
              subst e'
              obtain ⟨p, hp, hpi, hj', hpe⟩ := HP.out j hjl
              have HS := Lib.hid (fun x => Hs.rowIn_succ l i kk j x hj')
              rw [hpe] at HS
              rw [hp] at hc'
              have hck := blk_tabB st4.row kk (by omega)
              have hfk := st4.row.frozen kk
              obtain ⟨go, g, eo, hco, hrow⟩ := st4.st.row_ p hpi
              subst eo
              have hcr := blk_tabB (f := Hs.reach l p) hrow kk (by omega)
              have hst := st4.set_ (f' := Hs.rowIn l i kk (j + 1)) kk (Hs.rowIn l i kk j kk || Hs.reach l p kk) (fun x _ => HS.out x)
              have hjl' : (j : Int) < l[i].par.length := by omega
              have hkl : (kk : Int) < l.length := by omega
              have hpi' : (p : Int) < i := by omega
              clear hp hpe hrow st4
              generalize Hs.rowIn l i kk j kk = v1 at *
              generalize Hs.reach l p kk = v2 at *
              generalize l[i] = c at *
              cases v1
              · simp only [Bool.false_or] at hst
                go_wp2_with fail
                go_roundw
                case rel => exact ⟨j + 1, by omega, by go_num, hst⟩
                case measure => simp [intOf]; omega
              · simp only [Bool.true_or] at hst
                go_wp2_with fail
                go_roundw
                case rel => exact ⟨j + 1, by omega, by go_num, hst⟩
                case measure => simp [intOf]; omega
            · obtain rfl : j = l[i].par.length := by omega
              rw [hok.rowIn_all i kk _ hki (by rw [HPL.out]; exact Nat.le_refl _)] at st4
              generalize l[i] = c at *
              go_wp2_with fail
              go_roundw
              case rel => exact ⟨kk + 1, by omega, by go_num, st4⟩
              case measure => simp [intOf]; omega
        · obtain rfl : kk = i := by omega
          have st3 := st2.congr (f' := Hs.reach l kk) (fun x _ => (hok.rowAt_done kk x).symm)
          have hsz3 := st3.st.bel.size
          clear st2
          go_wp2_with (first | (at_builtin; refine wpList_app1 _ rfl (.tmp 58) (.tmp 60) 33 rfl w.heap.size 24 i0 (.slice none 0 0) 24 Try.underlying33 hi0 hz0 hz1 hz2 rfl Ao kk co _ rfl (st3.st.own.alloc _) w2.heap.size _ (.slice (some ⟨wo.heap.size, 0, none⟩) l.length l.length) rfl (by simp [World.cell?_alloc_new]) rfl ?ha ?hb ?hc ?_))
          case ha => simp [maxLen]; omega
          case hb => omega
          case hc => simp; omega
          intro A' c' w4 hown4 hg4 _
          have st4 := st3.done _ hg4 hown4
          clear hown4 hg4
          go_wp2_with fail
          go_roundw
          case rel => exact ⟨kk + 1, _, _, _, _, by omega, rfl, by go_num, st4⟩
          case measure => simp [intOf]; omega
    · obtain rfl : i = l.length := by omega
      go_wp2_with fail
      go_ret
      exact ⟨Ao, co, rfl, ⟨vs, SV.of_own st.own, st.rows.mono fun f cs ⟨g, e, h1, h2, h3⟩ => ⟨_, _, e, (SV.of_bools h3)⟩⟩, st.bel⟩
end Go.Proofs.Ytoohmkdgimkgoaa
