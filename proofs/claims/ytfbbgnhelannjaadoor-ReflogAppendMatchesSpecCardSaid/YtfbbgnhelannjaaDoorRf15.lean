/-
  References: walk of 'Step'.
-/
import Derived.Test.YtfbbgnhelannjaaDoorRf14
namespace Rf
theorem tgt_fnd : ∀ {s : List R} (_ : Srt s) {n : Nm}, fnd s n = true → lb s n < s.length ∧ (it s (lb s n)).name = n ∧ tgtOf s n = (it s (lb s n)).tgt
  | s, hs, n, h => by
    unfold fnd at h
    rw [Bool.and_eq_true, decide_eq_true_iff, decide_eq_true_iff] at h
    refine ⟨h.1, h.2, ?_⟩
    have hm : it s (lb s n) ∈ s := by rw [← it_eq s _ h.1]; exact List.getElem_mem _
    have := mem_tgt hs hm
    rwa [h.2] at this
theorem tgt_nofnd {s : List R} (hs : Srt s) {n : Nm} (h : fnd s n = false) : tgtOf s n = -1 := by
  refine tgt_none fun x hx e => ?_
  obtain ⟨k, hk, rfl⟩ := List.mem_iff_getElem.1 hx
  rw [it_eq s k hk] at e
  unfold fnd at h
  rw [Bool.and_eq_false_iff, decide_eq_false_iff_not, decide_eq_false_iff_not] at h
  have hlk : lb s n ≤ k := by
    apply Decidable.byContradiction; intro hn
    have := lb_lt (s := s) (n := n) (k := k) (by omega)
    rw [e] at this; exact nlt_irrefl _ this
  have hlt : lb s n < s.length := by omega
  have hge := lb_ge hs (n := n) (k := lb s n) (Nat.le_refl _) hlt
  rcases Nat.lt_or_eq_of_le hlk with h1 | h1
  · have := List.pairwise_iff_getElem.1 hs (lb s n) k hlt hk h1
    rw [it_eq s _ hlt, it_eq s k hk, e] at this
    exact hge this
  · rcases h with h | h
    · exact h hlt
    · exact h (by rw [h1]; exact e)
theorem dg_ne {n : Int} (h : dgOk n = true) : n ≠ -1 := fun e => by rw [e] at h; revert h; decide
end Rf
namespace Go.Proofs.YtfbbgnhelannjaaDoor
open Go.RowKit Go.V Go.Shelf Go.Lib
set_option linter.unusedVariables false

/-- A set in a variable of the call's own. -/
structure RSt (w : World) (g base : Nat) (A : Option Addr) (c : Nat) (s : List Rf.R) : Prop where
  blk : Blk w g 26 #[.slice A s.length c]
  own : w.ownsRow base 51 2 (.slice A s.length c) s.length (rsV s)
  hi : base ≤ w.heap.size
theorem RSt.below {w w' : World} {g base : Nat} {A : Option Addr} {c : Nat} {s : List Rf.R} (h : RSt w g base A c s) (hb : Below w.heap.size w w') : RSt w' g base A c s :=
  ⟨h.blk.below hb h.blk.lt, own_below h.own hb, Nat.le_trans h.hi hb.size⟩
theorem RSt.view {w : World} {g base : Nat} {A : Option Addr} {c : Nat} {s : List Rf.R} (h : RSt w g base A c s) : SA w Free A (rsV s) := SA.of_own' h.own (fun _ _ h => h)
theorem hne51 : (51 : TypeId) ≠ 26 := by decide
/-- The row lies where it lay, or in new memory. -/
def Fresh (w : World) (v v' : Value) : Prop := ∀ b, v'.ownBlock = some b → v.ownBlock = some b ∨ w.heap.size ≤ b
def StPost (w : World) (g base : Nat) (A : Option Addr) (c : Nat) (s : List Rf.R) (u : Rf.U) (e : Ending) (w' : World) : Prop :=
  ∃ A' c', e = .returned (.int .i64 (Rf.upC s u)) ∧ RSt w' g base A' c' (if Rf.upC s u = 0 then Rf.upS s u else s) ∧ TouchS w w' g (Value.slice A s.length c).ownBlock ∧ Fresh w (Value.slice A s.length c) (Value.slice A' (if Rf.upC s u = 0 then Rf.upS s u else s).length c')
def okd (n : Int) : Prop := n = -1 ∨ Rf.dgOk n = true
set_option maxRecDepth 100000 in
set_option maxHeartbeats 16000000 in
theorem step_any (w : World) (hm : Mx w) (g base : Nat) (A : Option Addr) (c : Nat) (s : List Rf.R) (u : Rf.U) (h : RSt w g base A c s) (hok : Rf.Ok s) :
    Calls Tryd.prog 45 #[.pointer (some ⟨g, 0, none⟩), .agg #[strV u.name, .int .i64 u.old, .int .i64 u.new]] w (StPost w g base A c s u) := by
  have hUC := Rf.upC.eq_1 s u
  have HE : Hid (∀ cd w', Rf.upC s u = cd → cd ≠ 0 → Below w.heap.size w w' → StPost w g base A c s u (.returned (.int .i64 cd)) w') := Lib.hid fun cd w' h1 h2 h3 => by
    subst h1; exact ⟨A, c, rfl, by rw [if_neg h2]; exact h.below h3, .of_below h3 _ _, by rw [if_neg h2]; exact fun b h => .inl h⟩
  have HG : Hid (∀ A' c' w', Rf.upC s u = 0 → RSt w' g base A' c' (Rf.upS s u) → TouchS w w' g (Value.slice A s.length c).ownBlock → Fresh w (Value.slice A s.length c) (Value.slice A' (Rf.upS s u).length c') → StPost w g base A c s u (.returned (.int .i64 0)) w') := Lib.hid fun A' c' w' h1 h2 h3 h4 =>
    ⟨A', c', by rw [h1], by rw [if_pos h1]; exact h2, h3, by rw [if_pos h1]; exact h4⟩
  have hUS := Rf.upS.eq_1 s u
  have hIN := Rf.ins.eq_1 u
  generalize StPost w g base A c s u = R at *
  generalize Rf.upC s u = uc at *
  generalize Rf.upS s u = us at *
  generalize Rf.ins u = ui at *
  have hlen := hok.len
  have HRB := Lib.hid (fun (w' : World) (hb : Below w.heap.size w w') => h.below hb)
  have HNA := Lib.hid (fun (w' : World) (hb : Below w.heap.size w w') => name_any w' (hm.below hb) u.name)
  have HFI := Lib.hid (fun (w' : World) (hb : Below w.heap.size w w') => find_any w' A c s u.name (h.below hb).view (by omega) hok.srt)
  have HTF := Lib.hid (fun hf => Rf.tgt_fnd hok.srt (n := u.name) hf)
  have HTN := Lib.hid (fun hf => Rf.tgt_nofnd hok.srt (n := u.name) hf)
  have HTG := Lib.hid (fun p (hp : p < s.length) => show (Rf.it s p).tgt ≠ -1 from by
    rw [← Rf.it_eq s p hp]; exact hok.ne (List.getElem_mem hp))
  have HCL := Lib.hid (fun (hn : Rf.nameOk u.name = true) (w' : World) (hb : Below w.heap.size w w') => clash_any w' A c s u.name (h.below hb).view (by omega) (fun x hx => by
      have := hok.name x hx; unfold Rf.nameOk at this; rw [Bool.and_eq_true] at this; simpa using this.1) (by unfold Rf.nameOk at hn; rw [Bool.and_eq_true] at hn; simpa using hn.1))
  have hlb := Rf.lb_le s u.name
  have hb1 := below_alloc1 w (.cells #[strV u.name, .int .i64 u.old, .int .i64 u.new] 28)
  clear h hm hok
  obtain ⟨un, uo, uw⟩ := u
  simp only at *
  go_enter Tryd.func45, Tryd.ntmps45
  go_wp2_with fail
  go_at_call 16
  refine (HNA.out _ hb1).mono ?_
  rintro e w2 ⟨rfl, hb2'⟩
  have hb2 := hb1.trans (hb2'.mono hb1.size)
  have ub := (Blk.new w 28 #[strV un, .int .i64 uo, .int .i64 uw]).below hb2' (by simp)
  have c0 : w2.cell? ⟨w.heap.size, 0, none⟩ = some (strV un) := (ub.cell 0).trans rfl
  have c1 : w2.cell? ⟨w.heap.size, 1, none⟩ = some (.int .i64 uo) := (ub.cell 1).trans rfl
  have c2 : w2.cell? ⟨w.heap.size, 2, none⟩ = some (.int .i64 uw) := (ub.cell 2).trans rfl
  have l0 := ub.lt
  clear hb1 hb2' HNA
  cases hn : Rf.nameOk un with
  | false =>
    have HR := Lib.hid (HE.out 12 _ (by rw [hUC, if_pos hn]) (by decide) hb2)
    clear hUC hUS hIN hn
    go_wp2_with fail
    exact HR.out
  | true =>
    rw [if_neg (by rw [hn]; simp)] at hUC
    have HCL2 := Lib.hid (HCL.out hn)
    clear hn HCL
    have ix0 : ∀ W, (Instr.index 98 (.agg #[.int .i64 uo, .int .i64 uw]) (.int .i64 0)).run Tryd.prog W = .ok (.int .i64 uo) W := fun _ => by kernel_rfl
    have ix1 : ∀ W, (Instr.index 98 (.agg #[.int .i64 uo, .int .i64 uw]) (.int .i64 1)).run Tryd.prog W = .ok (.int .i64 uw) W := fun _ => by kernel_rfl
    have HUC := Lib.hid hUC
    have HUS := Lib.hid hUS
    have HIN := Lib.hid hIN
    clear hUC hUS hIN
    go_wp2_with fail
    go_loopw [19] (fun kv wr => (kv = .int .i64 0 ∨ (kv = .int .i64 1 ∧ Hid (okd uo)) ∨ (kv = .int .i64 2 ∧ Hid (okd uo ∧ okd uw))) ∧ wr = w2) (fun kv _ => 2 - (intOf kv).toNat)
    case atStart => exact ⟨.inl rfl, rfl⟩
    case round =>
      obtain ⟨hk, rfl⟩ := hrel
      obtain ⟨w2, rfl⟩ : ∃ w2 : World, w2 = wr := ⟨_, rfl⟩
      rcases hk with rfl | ⟨rfl, ho⟩ | ⟨rfl, ho⟩
      · have HDG := Lib.hid (isDigest50_any w2 uo)
        by_cases h1 : uo = -1
        · have h1' : (uo != -1) = false := by simp [h1]
          have hn := Lib.hid (show okd uo from (.inl h1))
          clear h1 HDG
          go_wp2_with fail
          go_roundw
          case rel => exact ⟨.inr (.inl ⟨by simp, hn⟩), by first | rfl | trivial⟩
          case measure => simp [intOf]
        · have h1' : (uo != -1) = true := by simpa using h1
          cases hd : Rf.dgOk uo with
          | true =>
            rw [hd] at HDG
            have hn := Lib.hid (show okd uo from (.inr hd))
            clear h1 hd
            go_wp2_with fail
            go_at_call 50
            refine HDG.out.mono ?_
            rintro e w3 ⟨rfl, rfl⟩
            go_wp2_with fail
            go_roundw
            case rel => exact ⟨.inr (.inl ⟨by simp, hn⟩), by first | rfl | trivial⟩
            case measure => simp [intOf]
          | false =>
            rw [hd] at HDG
            have HR := Lib.hid (HE.out 3 _ (by rw [HUC.out, if_pos (.inl ⟨h1, hd⟩)]) (by decide) hb2)
            clear h1 hd
            go_wp2_with fail
            go_at_call 50
            refine HDG.out.mono ?_
            rintro e w3 ⟨rfl, rfl⟩
            go_wp2_with fail
            exact HR.out
      · have HDG := Lib.hid (isDigest50_any w2 uw)
        by_cases h1 : uw = -1
        · have h1' : (uw != -1) = false := by simp [h1]
          have hn := Lib.hid (show okd uo ∧ okd uw from ⟨ho.out, (.inl h1)⟩)
          clear h1 HDG
          go_wp2_with fail
          go_roundw
          case rel => exact ⟨.inr (.inr ⟨by simp, hn⟩), by first | rfl | trivial⟩
          case measure => simp [intOf]
        · have h1' : (uw != -1) = true := by simpa using h1
          cases hd : Rf.dgOk uw with
          | true =>
            rw [hd] at HDG
            have hn := Lib.hid (show okd uo ∧ okd uw from ⟨ho.out, (.inr hd)⟩)
            clear h1 hd
            go_wp2_with fail
            go_at_call 50
            refine HDG.out.mono ?_
            rintro e w3 ⟨rfl, rfl⟩
            go_wp2_with fail
            go_roundw
            case rel => exact ⟨.inr (.inr ⟨by simp, hn⟩), by first | rfl | trivial⟩
            case measure => simp [intOf]
          | false =>
            rw [hd] at HDG
            have HR := Lib.hid (HE.out 3 _ (by rw [HUC.out, if_pos (.inr ⟨h1, hd⟩)]) (by decide) hb2)
            clear h1 hd
            go_wp2_with fail
            go_at_call 50
            refine HDG.out.mono ?_
            rintro e w3 ⟨rfl, rfl⟩
            go_wp2_with fail
            exact HR.out
      · have HU1 := Lib.hid (HUC.out.trans (if_neg (by
          rintro (⟨h1, h2⟩ | ⟨h1, h2⟩)
          · rcases ho.out.1 with h | h
            · exact h1 h
            · rw [h] at h2; cases h2
          · rcases ho.out.2 with h | h
            · exact h1 h
            · rw [h] at h2; cases h2)))
        have HO := ho
        clear HUC ho ix0 ix1
        by_cases hbo : uo = -1 ∧ uw = -1
        · obtain ⟨ho1, ho2⟩ := hbo
          have HR := Lib.hid (HE.out 5 _ (by rw [HU1.out, if_pos ⟨ho1, ho2⟩]) (by decide) hb2)
          have e1 : (uo == -1) = true := by simp [ho1]
          have e2 : (uw == -1) = true := by simp [ho2]
          clear ho1 ho2 HU1
          go_wp2_with fail
          exact HR.out
        · have HU2 := Lib.hid (HU1.out.trans (if_neg hbo))
          clear HU1
          have rs2 := HRB.out _ hb2
          have p0 : w2.cell? ⟨g, 0, none⟩ = some (.slice A s.length c) := (rs2.blk.cell 0).trans rfl
          have lg := rs2.blk.lt
          have hk0 : Below w2.heap.size w2 w2.drew := below_drew' (Below.refl _ _)
          have HK : Hid (∀ w6 : World, Below w2.heap.size w2 w6 → w6.cell? ⟨g, 0, none⟩ = some (.slice A s.length c) ∧ w6.cell? ⟨w.heap.size, 0, none⟩ = some (strV un)) := Lib.hid fun w6 h6 => ⟨(h6.cell (p := ⟨_, _, none⟩) lg).trans p0, (h6.cell (p := ⟨_, _, none⟩) l0).trans c0⟩
          have hab : (uo == -1 && uw == -1) = false := by
            rw [Bool.and_eq_false_iff, beq_eq_false_iff_ne, beq_eq_false_iff_ne]
            by_cases h1 : uo = -1
            · exact .inr (fun h2 => hbo ⟨h1, h2⟩)
            · exact .inl h1
          cases hf : Rf.fnd s un with
          | true =>
            rw [hf] at HFI
            obtain ⟨hpl, hpn, hpt⟩ := HTF.out hf
            have hnt := HTG.out _ hpl
            have HUS2 : Hid (us = s.take (Rf.lb s un) ++ ui ++ s.drop (Rf.lb s un + 1)) := Lib.hid (by rw [HUS.out, hf]; rfl)
            have hset := rsV_set s _ hpl uw
            have hdel := rsV_del s (Rf.lb s un)
            obtain ⟨x, hx⟩ : ∃ x, x = Rf.it s (Rf.lb s un) := ⟨_, rfl⟩
            rw [← hx] at hpn hpt hnt hset
            have HX := Lib.hid hx.symm
            clear hf hx HTF HTN HTG HUS
            generalize hp : Rf.lb s un = p at *
            clear hp
            have hpi : (p : Int) < s.length := by omega
            have hp0 : (0 : Int) ≤ p := by omega
            rw [hpt] at HU2
            clear hpt
            by_cases ha : uo = -1
            · have e1 : (uo == -1) = true := by simp [ha]
              have e2 : (uw == -1) = false := by rw [beq_eq_false_iff_ne]; exact fun h2 => hbo ⟨ha, h2⟩
              have hne : uo ≠ x.tgt := by rw [ha]; exact fun e => hnt e.symm
              have e3 : (uo != x.tgt) = true := by simpa using hne
              have HUR := Lib.hid (HU2.out.trans (if_pos (fun e => hne e.symm)))
              clear hab ha hne hnt hset hdel hbo
              go_wp2_with fail
              go_region_held3 (fun w6 => w6.cell? ⟨g, 0, none⟩ = some (.slice A s.length c) ∧ w6.cell? ⟨w.heap.size, 0, none⟩ = some (strV un))
                (first | exact HK.out _ hk0 | exact HK.out _ hk1)
                (first | (go_at_call 48; (with_reducible refine (HFI.out _ (hb2.trans (hk0.mono hb2.size))).mono ?_); rintro e w3 ⟨rfl, hb3⟩; have hk1 : Below w2.heap.size w2 w3 := hk0.trans (hb3.mono hk0.size)))
              have hbw := hb2.trans (hk1.mono hb2.size)
              have rs3 := HRB.out _ hbw
              have ub3 := ub.below hk1 l0
              clear c0 c1 c2 l0 p0 lg hk1 hk0 HK hb3 rs2 ub hb2
              have c0 : w3.cell? ⟨w.heap.size, 0, none⟩ = some (strV un) := (ub3.cell 0).trans rfl
              have c1 : w3.cell? ⟨w.heap.size, 1, none⟩ = some (.int .i64 uo) := (ub3.cell 1).trans rfl
              have c2 : w3.cell? ⟨w.heap.size, 2, none⟩ = some (.int .i64 uw) := (ub3.cell 2).trans rfl
              have l0 := ub3.lt
              have p0 : w3.cell? ⟨g, 0, none⟩ = some (.slice A s.length c) := (rs3.blk.cell 0).trans rfl
              have lg := rs3.blk.lt
              have HR := Lib.hid (HE.out 16 _ HUR.out (by decide) hbw)
              obtain ⟨b, off, eA, hb, _, d0, d1⟩ := rsV_row rs3.view p hpl
              subst eA
              rw [HX.out] at d1
              go_wp2_with fail
              exact HR.out
            · have e1 : (uo == -1) = false := by simpa using ha
              by_cases hne : uo = x.tgt
              · have e3 : (uo != x.tgt) = false := by simpa using hne
                have HU3 : Hid (uc = 0) := Lib.hid (by rw [HU2.out, if_neg (by rw [hne]; simp), if_pos ha])
                clear HU2 hab ha hbo
                by_cases hw : uw = -1
                · have e4 : (uw == -1) = true := by simp [hw]
                  have HUS3 : Hid (us = s.take p ++ s.drop (p + 1)) := Lib.hid (by rw [HUS2.out, HIN.out, if_pos hw]; simp)
                  obtain ⟨m, hm⟩ : ∃ m, s.length = m + 1 := ⟨s.length - 1, by omega⟩
                  have hm30 : m ≤ 30 := by omega
                  have hpm : p ≤ m := by omega
                  have HM := Lib.hid hm
                  clear hm
                  clear hw hnt hne
                  go_wp2_with fail
                  go_region_held3 (fun w6 => w6.cell? ⟨g, 0, none⟩ = some (.slice A s.length c) ∧ w6.cell? ⟨w.heap.size, 0, none⟩ = some (strV un))
                    (first | exact HK.out _ hk0 | exact HK.out _ hk1)
                    (first | (go_at_call 48; (with_reducible refine (HFI.out _ (hb2.trans (hk0.mono hb2.size))).mono ?_); rintro e w3 ⟨rfl, hb3⟩; have hk1 : Below w2.heap.size w2 w3 := hk0.trans (hb3.mono hk0.size)))
                  have hbw := hb2.trans (hk1.mono hb2.size)
                  have rs3 := HRB.out _ hbw
                  have ub3 := ub.below hk1 l0
                  clear c0 c1 c2 l0 p0 lg hk1 hk0 HK hb3 rs2 ub hb2
                  have c0 : w3.cell? ⟨w.heap.size, 0, none⟩ = some (strV un) := (ub3.cell 0).trans rfl
                  have c1 : w3.cell? ⟨w.heap.size, 1, none⟩ = some (.int .i64 uo) := (ub3.cell 1).trans rfl
                  have c2 : w3.cell? ⟨w.heap.size, 2, none⟩ = some (.int .i64 uw) := (ub3.cell 2).trans rfl
                  have l0 := ub3.lt
                  have p0 : w3.cell? ⟨g, 0, none⟩ = some (.slice A s.length c) := (rs3.blk.cell 0).trans rfl
                  have lg := rs3.blk.lt
                  obtain ⟨b, off, eA, hb, _, d0, d1⟩ := rsV_row rs3.view p hpl
                  obtain ⟨gA, cur, eB, _, hgA, hbk, _⟩ := own_blk rs3.own (by omega)
                  rw [eB] at eA
                  injection eA with eA
                  injection eA with eA1 eA2
                  subst eA1 eA2 eB
                  rw [HX.out] at d1
                  simp only [Nat.zero_add] at d1
                  clear d0
                  go_wp2_with fail
                  go_quiet (fail)
                  have hq : Below w3.heap.size w3 (w3.drewN nq) := below_drewN' (Below.refl _ _) nq
                  have rs4 := rs3.below hq
                  have ub4 := ub3.below hq ub3.lt
                  have hbw4 := hbw.trans (hq.mono hbw.size)
                  have hbk4 := hbk.below hq hbk.lt
                  have d4 : (w3.drewN nq).cell? ⟨gA, p * 2 + 1, none⟩ = some (.int .i64 x.tgt) := d1
                  generalize hw3 : w3.drewN nq = w4 at *
                  clear hw3 hq c0 c1 c2 l0 p0 lg d1 hb hbk
                  have c2 : w4.cell? ⟨w.heap.size, 2, none⟩ = some (.int .i64 uw) := (ub4.cell 2).trans rfl
                  have l0 := ub4.lt
                  have p0 : w4.cell? ⟨g, 0, none⟩ = some (.slice (some ⟨gA, 0, none⟩) s.length c) := (rs4.blk.cell 0).trans rfl
                  have lg := rs4.blk.lt
                  have pf := rs4.blk.frozen 0
                  have HDE := Lib.hid (fun (w' : World) (hb : Below w4.heap.size w4 w') => by
                    have hh := deleteOwn_any w' base (some ⟨gA, 0, none⟩) m c p (rsV s) (by have := (rs4.below hb).own; rwa [HM.out] at this) (by omega) (by omega) (rsV_one s)
                    rw [← HM.out] at hh
                    exact hh)
                  have HDL := Lib.hid hdel
                  clear hdel hset
                  go_wp2_with fail
                  go_at_call 65
                  refine (HDE.out _ (Below.refl _ _)).mono ?_
                  rintro e w5 ⟨gB, eB, rfl, hown5, hg5⟩
                  injection eB with eB
                  injection eB with eB
                  subst eB
                  have hneg : some g ≠ some gA := fun e => by
                    have := own_blk_ne rs4.own rs4.blk hne51
                    exact this e
                  have blk5 := rs4.blk.grown hg5 hneg
                  have pf5 := blk5.frozen 0
                  have lg5 := blk5.lt
                  have p5 : w5.cell? ⟨g, 0, none⟩ = some (.slice (some ⟨gA, 0, none⟩) s.length c) := (blk5.cell 0).trans rfl
                  have hge : g ≠ gA := fun e => hneg (by rw [e])
                  go_wp2_with fail
                  refine HG.out (some ⟨gA, 0, none⟩) c _ HU3.out ⟨?_, ?_, ?_⟩ ?_ (fun b h => .inl h)
                  · rw [HUS3.out, show (s.take p ++ s.drop (p + 1)).length = m by have := HM.out; simp; omega]; simpa using blk5.set_ 0 (.slice (some ⟨gA, 0, none⟩) m c)
                  · rw [HUS3.out, show (s.take p ++ s.drop (p + 1)).length = m by have := HM.out; simp; omega, ← HDL.out]; exact own_setCell hown5 (show some g ≠ (Value.slice (some ⟨gA, 0, none⟩) m c).ownBlock from hneg) _
                  · have := hg5.size; have := rs4.hi; simp [World.setCell]; omega
                  · exact (TouchS.grown hbw4 hg5).set 0 _
                · have e4 : (uw == -1) = false := by simpa using hw
                  have HUS3 : Hid (us = s.take p ++ [⟨x.name, uw⟩] ++ s.drop (p + 1)) := Lib.hid (by rw [HUS2.out, HIN.out, if_neg hw, hpn])
                  clear hw hnt hne
                  go_wp2_with fail
                  go_region_held3 (fun w6 => w6.cell? ⟨g, 0, none⟩ = some (.slice A s.length c) ∧ w6.cell? ⟨w.heap.size, 0, none⟩ = some (strV un))
                    (first | exact HK.out _ hk0 | exact HK.out _ hk1)
                    (first | (go_at_call 48; (with_reducible refine (HFI.out _ (hb2.trans (hk0.mono hb2.size))).mono ?_); rintro e w3 ⟨rfl, hb3⟩; have hk1 : Below w2.heap.size w2 w3 := hk0.trans (hb3.mono hk0.size)))
                  have hbw := hb2.trans (hk1.mono hb2.size)
                  have rs3 := HRB.out _ hbw
                  have ub3 := ub.below hk1 l0
                  clear c0 c1 c2 l0 p0 lg hk1 hk0 HK hb3 rs2 ub hb2
                  have c0 : w3.cell? ⟨w.heap.size, 0, none⟩ = some (strV un) := (ub3.cell 0).trans rfl
                  have c1 : w3.cell? ⟨w.heap.size, 1, none⟩ = some (.int .i64 uo) := (ub3.cell 1).trans rfl
                  have c2 : w3.cell? ⟨w.heap.size, 2, none⟩ = some (.int .i64 uw) := (ub3.cell 2).trans rfl
                  have l0 := ub3.lt
                  have p0 : w3.cell? ⟨g, 0, none⟩ = some (.slice A s.length c) := (rs3.blk.cell 0).trans rfl
                  have lg := rs3.blk.lt
                  obtain ⟨b, off, eA, hb, _, d0, d1⟩ := rsV_row rs3.view p hpl
                  obtain ⟨gA, cur, eB, _, hgA, hbk, _⟩ := own_blk rs3.own (by omega)
                  rw [eB] at eA
                  injection eA with eA
                  injection eA with eA1 eA2
                  subst eA1 eA2 eB
                  rw [HX.out] at d1
                  simp only [Nat.zero_add] at d1
                  clear d0
                  go_wp2_with fail
                  go_quiet (fail)
                  have hq : Below w3.heap.size w3 (w3.drewN nq) := below_drewN' (Below.refl _ _) nq
                  have rs4 := rs3.below hq
                  have ub4 := ub3.below hq ub3.lt
                  have hbw4 := hbw.trans (hq.mono hbw.size)
                  have hbk4 := hbk.below hq hbk.lt
                  have d4 : (w3.drewN nq).cell? ⟨gA, p * 2 + 1, none⟩ = some (.int .i64 x.tgt) := d1
                  generalize hw3 : w3.drewN nq = w4 at *
                  clear hw3 hq c0 c1 c2 l0 p0 lg d1 hb hbk
                  have c2 : w4.cell? ⟨w.heap.size, 2, none⟩ = some (.int .i64 uw) := (ub4.cell 2).trans rfl
                  have l0 := ub4.lt
                  have p0 : w4.cell? ⟨g, 0, none⟩ = some (.slice (some ⟨gA, 0, none⟩) s.length c) := (rs4.blk.cell 0).trans rfl
                  have lg := rs4.blk.lt
                  have pf := rs4.blk.frozen 0
                  have HST := Lib.hid hset
                  clear hset hdel
                  have hneg : some g ≠ some gA := fun e => by
                    have := own_blk_ne rs4.own rs4.blk hne51
                    exact this e
                  have hge : g ≠ gA := fun e => hneg (by rw [e])
                  have hf1 : w4.frozen? ⟨gA, p * 2 + 1, none⟩ = false := hbk4.frozen _
                  have hla := hbk4.lt
                  have HEND : Hid (∀ w', w' = (w4.setCell ⟨gA, p * 2 + 1, none⟩ (.int .i64 uw)) ∨ w' = (w4.setCell ⟨gA, p * 2 + 1, none⟩ (.int .i64 uw)).drew → R (.returned (.int .i64 0)) w') := Lib.hid fun w' hw' => by
                    have key : R (.returned (.int .i64 0)) (w4.setCell ⟨gA, p * 2 + 1, none⟩ (.int .i64 uw)) ∧ R (.returned (.int .i64 0)) (w4.setCell ⟨gA, p * 2 + 1, none⟩ (.int .i64 uw)).drew := by
                      have hl : (s.take p ++ [(⟨x.name, uw⟩ : Rf.R)] ++ s.drop (p + 1)).length = s.length := by simp; omega
                      have q1 : Blk (w4.setCell ⟨gA, p * 2 + 1, none⟩ (.int .i64 uw)) g 26 #[.slice (some ⟨gA, 0, none⟩) s.length c] := rs4.blk.far (fun e => hge e) _
                      have q2 := own_set rs4.own (by omega) (p * 2 + 1) (.int .i64 uw)
                      rw [HST.out] at q2
                      have q3 : TouchS w (w4.setCell ⟨gA, p * 2 + 1, none⟩ (.int .i64 uw)) g (Value.slice (some ⟨gA, 0, none⟩) s.length c).ownBlock := TouchS.grown hbw4 (only_setCell (World.grownBy.refl w4 (some gA)) (.inl rfl) _)
                      have q4 := rs4.hi
                      exact ⟨HG.out (some ⟨gA, 0, none⟩) c _ HU3.out ⟨by rw [HUS3.out, hl]; exact q1, by rw [HUS3.out, hl]; exact q2, by simpa [World.setCell] using q4⟩ q3 (fun b h => .inl h), HG.out (some ⟨gA, 0, none⟩) c _ HU3.out ⟨by rw [HUS3.out, hl]; exact q1, by rw [HUS3.out, hl]; exact q2, by show _ ≤ (w4.setCell _ _).heap.size; simpa [World.setCell] using q4⟩ ⟨q3.os, q3.tape, q3.output, q3.size, q3.block⟩ (fun b h => .inl h)⟩
                    rcases hw' with rfl | rfl
                    · exact key.1
                    · exact key.2
                  go_wp2_with fail
                  go_region
                  all_goals
                    go_wp2_with fail
                    exact HEND.out _ (by first | exact .inl rfl | exact .inr rfl)
              · have e3 : (uo != x.tgt) = true := by simpa using hne
                have HUR := Lib.hid (HU2.out.trans (if_pos (fun e => hne e.symm)))
                clear hab ha hne hnt hset hdel hbo
                go_wp2_with fail
                go_region_held3 (fun w6 => w6.cell? ⟨g, 0, none⟩ = some (.slice A s.length c) ∧ w6.cell? ⟨w.heap.size, 0, none⟩ = some (strV un))
                  (first | exact HK.out _ hk0 | exact HK.out _ hk1)
                  (first | (go_at_call 48; (with_reducible refine (HFI.out _ (hb2.trans (hk0.mono hb2.size))).mono ?_); rintro e w3 ⟨rfl, hb3⟩; have hk1 : Below w2.heap.size w2 w3 := hk0.trans (hb3.mono hk0.size)))
                have hbw := hb2.trans (hk1.mono hb2.size)
                have rs3 := HRB.out _ hbw
                have ub3 := ub.below hk1 l0
                clear c0 c1 c2 l0 p0 lg hk1 hk0 HK hb3 rs2 ub hb2
                have c0 : w3.cell? ⟨w.heap.size, 0, none⟩ = some (strV un) := (ub3.cell 0).trans rfl
                have c1 : w3.cell? ⟨w.heap.size, 1, none⟩ = some (.int .i64 uo) := (ub3.cell 1).trans rfl
                have c2 : w3.cell? ⟨w.heap.size, 2, none⟩ = some (.int .i64 uw) := (ub3.cell 2).trans rfl
                have l0 := ub3.lt
                have p0 : w3.cell? ⟨g, 0, none⟩ = some (.slice A s.length c) := (rs3.blk.cell 0).trans rfl
                have lg := rs3.blk.lt
                have HR := Lib.hid (HE.out 16 _ HUR.out (by decide) hbw)
                obtain ⟨b, off, eA, hb, _, d0, d1⟩ := rsV_row rs3.view p hpl
                subst eA
                rw [HX.out] at d1
                go_wp2_with fail
                exact HR.out
          | false =>
            rw [hf] at HFI
            have hpt := HTN.out hf
            have HUS2 : Hid (us = s.take (Rf.lb s un) ++ ui ++ s.drop (Rf.lb s un)) := Lib.hid (by rw [HUS.out, hf]; rfl)
            have hins := rsV_ins s (Rf.lb s un)
            clear hf HTF HTN HTG HUS
            generalize hp : Rf.lb s un = p at *
            clear hp
            rw [hpt] at HU2
            clear hpt
            by_cases ha : uo = -1
            · have e1 : (uo == -1) = true := by simp [ha]
              have e1' : (uo != -1) = false := by simp [ha]
              have hw : uw ≠ -1 := fun h2 => hbo ⟨ha, h2⟩
              have e2 : (uw == -1) = false := by rw [beq_eq_false_iff_ne]; exact hw
              have HU3 := Lib.hid ((HU2.out.trans (if_neg (by rw [ha]; simp))).trans (if_neg (fun h => h ha)))
              have HUS3 : Hid (us = s.take p ++ [⟨un, uw⟩] ++ s.drop p) := Lib.hid (by rw [HUS2.out, HIN.out, if_neg hw])
              clear HU2 hab ha hbo hw
              go_wp2_with fail
              go_region_held3 (fun w6 => w6.cell? ⟨g, 0, none⟩ = some (.slice A s.length c) ∧ w6.cell? ⟨w.heap.size, 0, none⟩ = some (strV un))
                (first | exact HK.out _ hk0 | exact HK.out _ hk1)
                (first | (go_at_call 48; (with_reducible refine (HFI.out _ (hb2.trans (hk0.mono hb2.size))).mono ?_); rintro e w3 ⟨rfl, hb3⟩; have hk1 : Below w2.heap.size w2 w3 := hk0.trans (hb3.mono hk0.size)))
              have hbw := hb2.trans (hk1.mono hb2.size)
              have rs3 := HRB.out _ hbw
              have ub3 := ub.below hk1 l0
              clear c0 c1 c2 l0 p0 lg hk1 hk0 HK hb3 rs2 ub hb2
              have c0 : w3.cell? ⟨w.heap.size, 0, none⟩ = some (strV un) := (ub3.cell 0).trans rfl
              have c1 : w3.cell? ⟨w.heap.size, 1, none⟩ = some (.int .i64 uo) := (ub3.cell 1).trans rfl
              have c2 : w3.cell? ⟨w.heap.size, 2, none⟩ = some (.int .i64 uw) := (ub3.cell 2).trans rfl
              have l0 := ub3.lt
              have p0 : w3.cell? ⟨g, 0, none⟩ = some (.slice A s.length c) := (rs3.blk.cell 0).trans rfl
              have lg := rs3.blk.lt
              have HCL3 := Lib.hid (fun (w' : World) (hb : Below w3.heap.size w3 w') => HCL2.out w' (hbw.trans (hb.mono hbw.size)))
              cases hcl : s.any (fun r => Rf.conf r.name un) with
              | true =>
                rw [hcl] at HCL3 HU3
                have hj0 : Below w3.heap.size w3 w3.drew := below_drew' (Below.refl _ _)
                have HK2 : Hid (∀ w6 : World, Below w3.heap.size w3 w6 → w6.cell? ⟨g, 0, none⟩ = some (.slice A s.length c) ∧ w6.cell? ⟨w.heap.size, 0, none⟩ = some (strV un)) := Lib.hid fun w6 h6 => ⟨(h6.cell (p := ⟨_, _, none⟩) lg).trans p0, (h6.cell (p := ⟨_, _, none⟩) l0).trans c0⟩
                clear hcl
                go_wp2_with fail
                go_region_held3 (fun w6 => w6.cell? ⟨g, 0, none⟩ = some (.slice A s.length c) ∧ w6.cell? ⟨w.heap.size, 0, none⟩ = some (strV un))
                  (first | exact HK2.out _ hj0 | exact HK2.out _ hj1)
                  (first | (go_at_call 51; (with_reducible refine (HCL3.out _ hj0).mono ?_); rintro e w4 ⟨rfl, hb4⟩; have hj1 : Below w3.heap.size w3 w4 := hj0.trans (hb4.mono hj0.size)))
                have hbw4 := hbw.trans (hj1.mono hbw.size)
                have rs4 := HRB.out _ hbw4
                have ub4 := ub3.below hj1 ub3.lt
                clear c0 c1 c2 l0 p0 lg hj0 hj1 HK2 hb4
                have HR := Lib.hid (HE.out 19 _ (by rw [HU3.out]; simp) (by decide) hbw4)
                go_wp2_with fail
                exact HR.out
              | false =>
                rw [hcl] at HCL3 HU3
                have hj0 : Below w3.heap.size w3 w3.drew := below_drew' (Below.refl _ _)
                have HK2 : Hid (∀ w6 : World, Below w3.heap.size w3 w6 → w6.cell? ⟨g, 0, none⟩ = some (.slice A s.length c) ∧ w6.cell? ⟨w.heap.size, 0, none⟩ = some (strV un)) := Lib.hid fun w6 h6 => ⟨(h6.cell (p := ⟨_, _, none⟩) lg).trans p0, (h6.cell (p := ⟨_, _, none⟩) l0).trans c0⟩
                clear hcl
                go_wp2_with fail
                go_region_held3 (fun w6 => w6.cell? ⟨g, 0, none⟩ = some (.slice A s.length c) ∧ w6.cell? ⟨w.heap.size, 0, none⟩ = some (strV un))
                  (first | exact HK2.out _ hj0 | exact HK2.out _ hj1)
                  (first | (go_at_call 51; (with_reducible refine (HCL3.out _ hj0).mono ?_); rintro e w4 ⟨rfl, hb4⟩; have hj1 : Below w3.heap.size w3 w4 := hj0.trans (hb4.mono hj0.size)))
                have hbw4 := hbw.trans (hj1.mono hbw.size)
                have rs4 := HRB.out _ hbw4
                have ub4 := ub3.below hj1 ub3.lt
                clear c0 c1 c2 l0 p0 lg hj0 hj1 HK2 hb4
                have HU4 := Lib.hid (HU3.out.trans (if_neg (by simp)))
                have c0 : w4.cell? ⟨w.heap.size, 0, none⟩ = some (strV un) := (ub4.cell 0).trans rfl
                have c2 : w4.cell? ⟨w.heap.size, 2, none⟩ = some (.int .i64 uw) := (ub4.cell 2).trans rfl
                have l0 := ub4.lt
                have p0 : w4.cell? ⟨g, 0, none⟩ = some (.slice A s.length c) := (rs4.blk.cell 0).trans rfl
                have lg := rs4.blk.lt
                have pf := rs4.blk.frozen 0
                by_cases h30 : 30 ≤ s.length
                · have h30' : (30 : Int) ≤ s.length := by omega
                  have h30d : decide ((30 : Int) ≤ s.length) = true := by simp; omega
                  have HR := Lib.hid (HE.out 14 _ (HU4.out.trans (if_pos h30)) (by decide) hbw4)
                  go_wp2_with fail
                  exact HR.out
                · have h30' : ¬ (30 : Int) ≤ s.length := by omega
                  have h30d : decide ((30 : Int) ≤ s.length) = false := by simp; omega
                  have HU5 := Lib.hid (HU4.out.trans (if_neg h30))
                  have HI64 := Lib.hid (insert_any ((w4.alloc (.cells #[strV un, .int .i64 uw] 51)).drew) base A s.length c p (rsV s) #[strV un, .int .i64 uw] w4.heap.size (rs4.own.alloc (.cells #[strV un, .int .i64 uw] 51)) hlb (by omega) (Nat.le_trans rs4.hi (by show w4.heap.size ≤ (w4.alloc _).heap.size; simp)) (Blk.new w4 51 #[strV un, .int .i64 uw]) rfl (own_new_ne rs4.own) (by intro v hv; simp at hv; rcases hv with rfl | rfl <;> rfl) (rsV_one s))
                  have own4 := rs4.own.alloc (.cells #[strV un, .int .i64 uw] 51)
                  have blk4 := rs4.blk.alloc (.cells #[strV un, .int .i64 uw] 51)
                  have hne4 := own_blk_ne own4 blk4 hne51
                  have hi1 := hins ⟨un, uw⟩
                  have HIS := Lib.hid hi1
                  clear hins hi1
                  go_wp2_with fail
                  go_region_law
                    (go_simp; go_at_call 64; (with_reducible refine HI64.out.mono ?_); rintro e w5 ⟨gd, c5, rfl, hown5, hg5, hob5⟩; have blk5 : Blk w5 g 26 #[.slice A s.length c] := Blk.grown (w := (w4.alloc (.cells #[strV un, .int .i64 uw] 51)).drew) blk4 hg5 hne4; have pf5 := blk5.frozen 0; have lg5 := blk5.lt; have p5 : w5.cell? ⟨g, 0, none⟩ = some (.slice A s.length c) := (blk5.cell 0).trans rfl; go_wp2_with fail)
                  all_goals
                    go_wp2_with fail
                    have hlu : us.length = s.length + 1 := by rw [HUS3.out]; simp; omega
                    have hbA : Below w.heap.size w ((w4.alloc (.cells #[strV un, .int .i64 uw] 51)).drew) := below_drew' (hbw4.alloc hbw4.size _)
                    refine HG.out (some ⟨gd, 0, none⟩) c5 _ HU5.out ⟨?_, ?_, ?_⟩ ?_ (fun b hb => hob5.elim (fun h => .inl (h.symm.trans hb)) (fun h => .inr (by have h2 := h.symm.trans hb; injection h2 with h2; have h3 := hbA.size; rw [← h2]; exact h3)))
                    · rw [hlu]; simpa using blk5.set_ 0 (.slice (some ⟨gd, 0, none⟩) (s.length + 1) c5)
                    · rw [hlu, HUS3.out, ← HIS.out]; exact own_setCell hown5 (own_blk_ne hown5 blk5 hne51) _
                    · have h1 := hg5.size; have h2 := rs4.hi; have h3 : (w4.alloc (.cells #[strV un, .int .i64 uw] 51)).drew.heap.size = w4.heap.size + 1 := by show (w4.alloc _).heap.size = _; simp
                      simp [World.setCell]; omega
                    · exact (TouchS.grown hbA hg5).set 0 _
            · have e1 : (uo == -1) = false := by simpa using ha
              have e1' : (uo != -1) = true := by simpa using ha
              have HUR := Lib.hid (HU2.out.trans (if_pos (fun e => ha e.symm)))
              clear hab ha hins hbo
              go_wp2_with fail
              go_region_held3 (fun w6 => w6.cell? ⟨g, 0, none⟩ = some (.slice A s.length c) ∧ w6.cell? ⟨w.heap.size, 0, none⟩ = some (strV un))
                (first | exact HK.out _ hk0 | exact HK.out _ hk1)
                (first | (go_at_call 48; (with_reducible refine (HFI.out _ (hb2.trans (hk0.mono hb2.size))).mono ?_); rintro e w3 ⟨rfl, hb3⟩; have hk1 : Below w2.heap.size w2 w3 := hk0.trans (hb3.mono hk0.size)))
              have hbw := hb2.trans (hk1.mono hb2.size)
              have rs3 := HRB.out _ hbw
              have ub3 := ub.below hk1 l0
              clear c0 c1 c2 l0 p0 lg hk1 hk0 HK hb3 rs2 ub hb2
              have c0 : w3.cell? ⟨w.heap.size, 0, none⟩ = some (strV un) := (ub3.cell 0).trans rfl
              have c1 : w3.cell? ⟨w.heap.size, 1, none⟩ = some (.int .i64 uo) := (ub3.cell 1).trans rfl
              have c2 : w3.cell? ⟨w.heap.size, 2, none⟩ = some (.int .i64 uw) := (ub3.cell 2).trans rfl
              have l0 := ub3.lt
              have p0 : w3.cell? ⟨g, 0, none⟩ = some (.slice A s.length c) := (rs3.blk.cell 0).trans rfl
              have lg := rs3.blk.lt
              have HR := Lib.hid (HE.out 16 _ HUR.out (by decide) hbw)
              go_wp2_with fail
              exact HR.out
end Go.Proofs.YtfbbgnhelannjaaDoor
