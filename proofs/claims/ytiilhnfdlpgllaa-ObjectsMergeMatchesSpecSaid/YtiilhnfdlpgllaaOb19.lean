/-
  Objects: walk of the reference's 'MergeStores'.
-/
import Derived.Test.YtiilhnfdlpgllaaOb17
import Derived.Test.YtiilhnfdlpgllaaOb13
import Derived.Test.YtiilhnfdlpgllaaOb14
import Derived.Test.YtiilhnfdlpgllaaObW
import Derived.BigQuiet
namespace Go.Proofs.Ytiilhnfdlpgllaa
open Go.RowKit Go.V
set_option linter.unusedVariables false

/-- What 'MergeStores' answers. -/
def MsPost (w : World) (X : Nat → Prop) (r : List Ob.S × (Int × Int)) (e : Ending) (w' : World) : Prop := ∃ A c, e = .returned (.tuple #[stV A r.1.length c, .agg #[.int .i64 r.2.1, .int .i64 r.2.2]]) ∧ StV w' X A r.1 ∧ Below w.heap.size w w'
theorem MsPost.no {w w' : World} {X : Nat → Prop} {r : List Ob.S × (Int × Int)} {c i : Int} (h : r = ([], (c, i))) (hb : Below w.heap.size w w') : MsPost w X r (.returned (.tuple #[.agg #[.slice none 0 0], .agg #[.int .i64 c, .int .i64 i]])) w' := by
  subst h; exact ⟨none, 0, rfl, ⟨[], SA.nil, rfl⟩, hb⟩
/-- The boxes of 'MergeStores' and the list that it makes. -/
structure MsSt (w wr : World) (A : Option Addr) (n k : Nat) (B : Option Addr) (n' j : Nat) (Ao : Option Addr) (m co : Nat) (xs : List Value) : Prop where
  b : MgSt w wr A n k B n' j
  out : Blk wr (w.heap.size + 4) 24 #[.slice Ao m co]
  own : wr.ownsRow (w.heap.size + 5) 46 4 (.slice Ao m co) m xs
section
variable {w wr w' : World} {A B : Option Addr} {n k n' j : Nat} {Ao : Option Addr} {m co : Nat} {xs : List Value}
theorem MsSt.below (h : MsSt w wr A n k B n' j Ao m co xs) (hb : Below wr.heap.size wr w') : MsSt w w' A n k B n' j Ao m co xs :=
  ⟨h.b.below hb, h.out.below hb h.out.lt, h.own.kept (only_of_below hb none) (by cases hv : (Value.slice Ao m co).ownBlock <;> simp)⟩
theorem MsSt.drewN (h : MsSt w wr A n k B n' j Ao m co xs) (d : Nat) : MsSt w (wr.drewN d) A n k B n' j Ao m co xs := h.below (below_drewN (Below.refl _ _) d)
theorem MsSt.app (h : MsSt w wr A n k B n' j Ao m co xs) {o0 : Obj} {w4 : World} {gd c' : Nat} {news : List Value} (hg : (wr.alloc o0).grownBy w4 (Value.slice Ao m co).ownBlock)
    (hown : w4.ownsRow (w.heap.size + 5) 46 4 (.slice (some ⟨gd, 0, none⟩) (m + 1) c') (m + 1) (xs ++ news)) : MsSt w (w4.setCell ⟨w.heap.size + 4, 0, none⟩ (.slice (some ⟨gd, 0, none⟩) (m + 1) c')) A n k B n' j (some ⟨gd, 0, none⟩) (m + 1) c' (xs ++ news) := by
  have own3 := h.own.alloc o0
  have f : ∀ {b : Nat} {t : TypeId} {cs : Array Value}, Blk wr b t cs → b < w.heap.size + 4 → Blk (w4.setCell ⟨w.heap.size + 4, 0, none⟩ (.slice (some ⟨gd, 0, none⟩) (m + 1) c')) b t cs := fun hb hlt =>
    (((hb.alloc o0).grown hg (fun e => by have := (own3.lt _ e.symm).1; omega)).far (by simp; omega) _)
  have out4 := (h.out.alloc o0).grown hg (fun e => by have := (own3.lt _ e.symm).1; omega)
  refine ⟨⟨f h.b.bx (by omega), f h.b.bo (by omega), f h.b.r1 (by omega), f h.b.r2 (by omega), ?_⟩, by simpa using out4.set_ 0 (.slice (some ⟨gd, 0, none⟩) (m + 1) c'), own_setCell hown (fun e => by have := (hown.lt _ e.symm).1; simp at this <;> omega) _⟩
  refine Below.setCell ?_ (by simp) _
  exact (h.b.bel.alloc h.b.bel.size o0).grown hg (by have := h.b.bel.size; simp; omega) (fun b hb => by have := (own3.lt b hb).1; omega)
end
set_option maxRecDepth 100000 in
set_option maxHeartbeats 32000000 in
theorem mergeStores_any (w : World) (A : Option Addr) (la : Nat) (a : List Ob.S) (B : Option Addr) (lb : Nat) (b : List Ob.S) (hva : StV w Free A a) (hvb : StV w Free B b) (hla : a.length ≤ 40) (hlb : b.length ≤ 40)
    (X : Nat → Prop) (hvaX : StV w X A a) (hvbX : StV w X B b) (hXlt : ∀ g, X g → g < w.heap.size) :
    Calls Try.prog 38 #[stV A a.length la, stV B b.length lb] w (MsPost w X (Ob.msR a b)) := by
  obtain ⟨i0, hI0, hZ0, hZ1, hZ2⟩ := info_parts info46
  have HVA := Lib.hid (fun (w1 : World) (hb : Below w.heap.size w w1) => hva.keep (free_below hb))
  have HVB := Lib.hid (fun (w1 : World) (hb : Below w.heap.size w w1) => hvb.keep (free_below hb))
  have HRA := Lib.hid hvaX.row
  have HRB := Lib.hid hvbX.row
  have HXL := Lib.hid hXlt
  have HPF := Lib.hid (Ob.msR.eq_1 a b)
  clear hva hvb hvaX hvbX hXlt
  generalize hr : Ob.msR a b = r at *
  clear hr
  have st0 : MsSt w (((((w.alloc (.cells #[.slice A a.length la] 24)).alloc (.cells #[.slice B b.length lb] 24)).alloc (.cells #[.slice none 0 0] 24)).alloc (.cells #[.int .i64 0, .int .i64 0] 28)).alloc (.cells #[.slice none 0 0] 24)) A a.length la B b.length lb none 0 0 [] :=
    ⟨⟨((((Blk.new _ _ _).alloc _).alloc _).alloc _).alloc _, (((blk_new1 _ _ _ _).alloc _).alloc _).alloc _, ((blk_new2 _ _ _ _ _).alloc _).alloc _, (by simpa using Blk.new (((w.alloc (.cells #[.slice A a.length la] 24)).alloc (.cells #[.slice B b.length lb] 24)).alloc (.cells #[.slice none 0 0] 24)) 28 #[.int .i64 0, .int .i64 0] : Blk ((((w.alloc (.cells #[.slice A a.length la] 24)).alloc (.cells #[.slice B b.length lb] 24)).alloc (.cells #[.slice none 0 0] 24)).alloc (.cells #[.int .i64 0, .int .i64 0] 28)) (w.heap.size + 3) 28 #[.int .i64 0, .int .i64 0]).alloc _, ((below_alloc3 _ _ _ _).alloc (by simp; omega) _).alloc (by simp; omega) _⟩,
      by simpa using Blk.new ((((w.alloc (.cells #[.slice A a.length la] 24)).alloc (.cells #[.slice B b.length lb] 24)).alloc (.cells #[.slice none 0 0] 24)).alloc (.cells #[.int .i64 0, .int .i64 0] 28)) 24 #[.slice none 0 0], World.ownsRow_nil _ _ _ _⟩
  have hne46 : (46 : TypeId) ≠ 24 := by decide
  go_enter Try.func38, Try.ntmps38
  go_wp2_with fail
  go_loopw [7, 8] (fun iv kv wr => ∃ (i k m : Nat) (Ao : Option Addr) (co : Nat) (xs : List Value) (out : List Ob.S), i ≤ a.length ∧ k ≤ b.length ∧ iv = .int .i64 i ∧ kv = .int .i64 k ∧ MsSt w wr A a.length la B b.length lb Ao m co xs ∧ RowsR (StR w X) out xs ∧ m ≤ i + k ∧ Hid (Ob.msFrom a b 0 0 [] = Ob.msFrom a b i k out)) (fun iv kv _ => (a.length - (intOf iv).toNat) + (b.length - (intOf kv).toNat))
  case atStart => exact ⟨0, 0, 0, none, 0, [], [], Nat.zero_le _, Nat.zero_le _, rfl, rfl, st0, rfl, Nat.zero_le _, Lib.hid rfl⟩
  case round =>
    obtain ⟨i, k, m, Ao, co, xs, out, hi, hk, rfl, rfl, st, rows, hm, HM⟩ := hrel
    obtain ⟨wo, rfl⟩ : ∃ wo : World, wo = wr := ⟨_, rfl⟩
    clear st0
    by_cases hil : i < a.length
    · have hil' : (i : Int) < a.length := by omega
      obtain ⟨pa, oa, Ala, kla, Ada, kda, ea, hpa, _, da0, da1, da2, da3, hxa, hoba⟩ := HRA.out i hil
      subst ea
      have hra : StR w X (Ob.it a i) [.int .i64 (Ob.it a i).dig, .int .i64 (Ob.it a i).ob.kind, .slice Ala (Ob.it a i).ob.links.length kla, .slice Ada (Ob.it a i).ob.data.length kda] := ⟨Ala, kla, Ada, kda, rfl, hxa, hoba⟩
      by_cases hkl : k < b.length
      · have hkl' : (k : Int) < b.length := by omega
        have hkb : ((k : Int) == (b.length : Int)) = false := by simp; omega
        obtain ⟨pb, ob, Alb, klb, Adb, kdb, eb, hpb, _, db0, db1, db2, db3, hxb, hobb⟩ := HRB.out k hkl
        subst eb
        have hrb : StR w X (Ob.it b k) [.int .i64 (Ob.it b k).dig, .int .i64 (Ob.it b k).ob.kind, .slice Alb (Ob.it b k).ob.links.length klb, .slice Adb (Ob.it b k).ob.data.length kdb] := ⟨Alb, klb, Adb, kdb, rfl, hxb, hobb⟩
        have HLT := Lib.hid (fun h => HM.out.trans (Ob.ms_lt (a := a) (b := b) (i := i) (k := k) (out := out) hil h))
        have HEQ := Lib.hid (fun h g => HM.out.trans (Ob.ms_eq (a := a) (b := b) (i := i) (k := k) (out := out) hil hkl h g))
        have HNE := Lib.hid (fun h g => HM.out.trans (Ob.ms_ne (a := a) (b := b) (i := i) (k := k) (out := out) hil hkl h g))
        have HGT := Lib.hid (fun h => HM.out.trans (Ob.ms_gt (a := a) (b := b) (i := i) (k := k) (out := out) hil hkl h))
        generalize Ob.it a i = xa at *
        obtain ⟨ad, ak, als, ada⟩ := xa
        simp only at *
        generalize Ob.it b k = xb at *
        obtain ⟨bd, bk, bls, bda⟩ := xb
        simp only at *
        clear HM
        have v0 := (st.b.bx.cell 0).trans (rfl : _ = some (Value.slice (some ⟨pa, oa, none⟩) a.length la))
        have v1 := (st.b.bo.cell 0).trans (rfl : _ = some (Value.slice (some ⟨pb, ob, none⟩) b.length lb))
        have vl0 := st.b.bx.lt
        have vl1 := st.b.bo.lt
        have ea0 := (st.b.bel.cell (p := ⟨pa, oa + i * 4, none⟩) hpa).trans da0
        have eb0 := (st.b.bel.cell (p := ⟨pb, ob + k * 4, none⟩) hpb).trans db0
        have hpa' : pa < wo.heap.size := Nat.lt_of_lt_of_le hpa st.b.bel.size
        have hpb' : pb < wo.heap.size := Nat.lt_of_lt_of_le hpb st.b.bel.size
        have hi0 : (0 : Int) ≤ i := by omega
        have hk0 : (0 : Int) ≤ k := by omega
        have haO := hoba.keep (X' := Free) ((Keeps.refl w _).into fun _ h => h.elim)
        have hbO := hobb.keep (X' := Free) ((Keeps.refl w _).into fun _ h => h.elim)
        rcases Int.lt_trichotomy ad bd with hc | hc | hc
        · have hd : decide (ad < bd) = true := decide_eq_true hc
          have HM2 := Lib.hid (HLT.out hc)
          clear HLT HEQ HNE HGT hc
          go_wp2_with fail
          go_quiet (fail)
          refine gen_world (C := fun wz => Exit.then _ _ _ _ wz) (fun wz => MsSt w wz (some ⟨pa, oa, none⟩) a.length la (some ⟨pb, ob, none⟩) b.length lb Ao m co xs) (by first | exact st.drewN _) ?_
          intro wq stwq
          clear ea0 eb0 v0 v1 vl0 vl1 hpa' hpb'
          have q0 := (stwq.out.cell 0).trans (rfl : _ = some (Value.slice Ao m co))
          have ql := stwq.out.lt
          have v0 := (stwq.b.bx.cell 0).trans (rfl : _ = some (Value.slice (some ⟨pa, oa, none⟩) a.length la))
          have v1 := (stwq.b.bo.cell 0).trans (rfl : _ = some (Value.slice (some ⟨pb, ob, none⟩) b.length lb))
          have vl0 := stwq.b.bx.lt
          have vl1 := stwq.b.bo.lt
          have ea0 := (stwq.b.bel.cell (p := ⟨pa, oa + i * 4, none⟩) hpa).trans da0
          have ea1 := (stwq.b.bel.cell (p := ⟨pa, oa + i * 4 + 1, none⟩) hpa).trans da1
          have ea2 := (stwq.b.bel.cell (p := ⟨pa, oa + i * 4 + 2, none⟩) hpa).trans da2
          have ea3 := (stwq.b.bel.cell (p := ⟨pa, oa + i * 4 + 3, none⟩) hpa).trans da3
          have hpW : pa < wq.heap.size := Nat.lt_of_lt_of_le hpa stwq.b.bel.size
          have h63 : m + 1 ≤ maxLen := by unfold maxLen; omega
          have hby : (m + 1) * 64 ≤ 140737488355328 := by omega
          go_wp2_with fail
          go_region_law
            (first
              | (refine step_appNo _ rfl (.tmp 50) (.tmp 56) 22 rfl (w.heap.size + 5) 46 i0 _ 4 64 Try.underlying22 hI0 hZ0 hZ1 hZ2 rfl (by decide) Ao m co xs rfl (stwq.own.alloc _).drew wq.heap.size 1 [.int .i64 ad, .int .i64 ak, .slice Ala als.length kla, .slice Ada ada.length kda] rfl rfl (fun j v hj => cells_new wq #[.int .i64 ad, .int .i64 ak, .slice Ala als.length kla, .slice Ada ada.length kda] 46 j v hj) (st_one _ _ _ _ _ _ _ _) h63 hby (Nat.le_trans (Nat.succ_le_of_lt stwq.out.lt) (size_alloc_le _ _)) ?_; intro ge ce wz hown4 hg4 hob4; have out4 := (stwq.out.alloc (.cells #[.int .i64 ad, .int .i64 ak, .slice Ala als.length kla, .slice Ada ada.length kda] 46)).drew.grown hg4 (own_blk_ne stwq.own stwq.out hne46); have r5 := (out4.cell 0).trans (rfl : _ = some (Value.slice Ao m co)); have r6 := out4.frozen 0))
          all_goals
            have st6 := stwq.app (o0 := .cells #[.int .i64 ad, .int .i64 ak, .slice Ala als.length kla, .slice Ada ada.length kda] 46) ⟨hg4.os, hg4.tape, hg4.output, hg4.size, hg4.block⟩ hown4
            have rows6 := rows.append (RowsR.one hra)
            clear hown4 hg4 hob4 out4 r5 r6
            go_wp2_with fail
            go_roundw
            case rel => exact ⟨i + 1, k, m + 1, _, _, _, _, by omega, by omega, by go_num, by go_num, st6, rows6, by omega, HM2⟩
            case measure => simp [intOf]; omega
        · subst hc
          have hd : decide (ad < ad) = false := by simp
          have hd2 : (ad == ad) = true := by simp
          clear HLT HGT
          go_wp2_with fail
          go_quiet (fail)
          refine gen_world (C := fun wz => Exit.then _ _ _ _ wz) (fun wz => MsSt w wz (some ⟨pa, oa, none⟩) a.length la (some ⟨pb, ob, none⟩) b.length lb Ao m co xs) (by first | exact st.drewN _) ?_
          intro wq stwq
          clear ea0 eb0 v0 v1 vl0 vl1 hpa' hpb'
          have v0 := (stwq.b.bx.cell 0).trans (rfl : _ = some (Value.slice (some ⟨pa, oa, none⟩) a.length la))
          have v1 := (stwq.b.bo.cell 0).trans (rfl : _ = some (Value.slice (some ⟨pb, ob, none⟩) b.length lb))
          have vl0 := stwq.b.bx.lt
          have vl1 := stwq.b.bo.lt
          have ea0 := (stwq.b.bel.cell (p := ⟨pa, oa + i * 4, none⟩) hpa).trans da0
          have eb0 := (stwq.b.bel.cell (p := ⟨pb, ob + k * 4, none⟩) hpb).trans db0
          have hpa' : pa < wq.heap.size := Nat.lt_of_lt_of_le hpa stwq.b.bel.size
          have hpb' : pb < wq.heap.size := Nat.lt_of_lt_of_le hpb stwq.b.bel.size
          go_wp2_with fail
          go_quiet (fail)
          refine gen_world (C := fun wz => Exit.then _ _ _ _ wz) (fun wz => MsSt w wz (some ⟨pa, oa, none⟩) a.length la (some ⟨pb, ob, none⟩) b.length lb Ao m co xs) (by first | exact stwq.drewN _) ?_
          intro wp stwp
          clear ea0 eb0 v0 v1 vl0 vl1 hpa' hpb'
          have hk00 : Below wp.heap.size wp wp.drew := below_drew' (Below.refl _ _)
          have HK : Hid (∀ w6 : World, Below wp.heap.size wp w6 → w6.cell? ⟨w.heap.size, 0, none⟩ = some (.slice (some ⟨pa, oa, none⟩) a.length la) ∧ w6.cell? ⟨w.heap.size + 1, 0, none⟩ = some (.slice (some ⟨pb, ob, none⟩) b.length lb) ∧ w6.cell? ⟨pa, oa + i * 4 + 1, none⟩ = some (.int .i64 ak) ∧ w6.cell? ⟨pa, oa + i * 4 + 1 + 1, none⟩ = some (.slice Ala als.length kla) ∧ w6.cell? ⟨pa, oa + i * 4 + 1 + 2, none⟩ = some (.slice Ada ada.length kda) ∧ w6.cell? ⟨pb, ob + k * 4 + 1, none⟩ = some (.int .i64 bk) ∧ w6.cell? ⟨pb, ob + k * 4 + 1 + 1, none⟩ = some (.slice Alb bls.length klb) ∧ w6.cell? ⟨pb, ob + k * 4 + 1 + 2, none⟩ = some (.slice Adb bda.length kdb)) := Lib.hid fun w6 h6 =>
            ⟨((stwp.below h6).b.bx.cell 0).trans rfl, ((stwp.below h6).b.bo.cell 0).trans rfl, ((stwp.below h6).b.bel.cell (p := ⟨_, _, none⟩) hpa).trans da1, ((stwp.below h6).b.bel.cell (p := ⟨_, _, none⟩) hpa).trans da2, ((stwp.below h6).b.bel.cell (p := ⟨_, _, none⟩) hpa).trans da3, ((stwp.below h6).b.bel.cell (p := ⟨_, _, none⟩) hpb).trans db1, ((stwp.below h6).b.bel.cell (p := ⟨_, _, none⟩) hpb).trans db2, ((stwp.below h6).b.bel.cell (p := ⟨_, _, none⟩) hpb).trans db3⟩
          have HOB := Lib.hid (objects_any wp.drew ⟨ak, als, ada⟩ ⟨bk, bls, bda⟩ Ala kla Ada kda Alb klb Adb kdb (haO.keep (free_below (stwp.below hk00).b.bel)) (hbO.keep (free_below (stwp.below hk00).b.bel)))
          generalize hq : eqO ⟨ak, als, ada⟩ ⟨bk, bls, bda⟩ = q at *
          clear hq
          go_wp2_with fail
          go_region_held3 (fun w6 => w6.cell? ⟨w.heap.size, 0, none⟩ = some (.slice (some ⟨pa, oa, none⟩) a.length la) ∧ w6.cell? ⟨w.heap.size + 1, 0, none⟩ = some (.slice (some ⟨pb, ob, none⟩) b.length lb) ∧ w6.cell? ⟨pa, oa + i * 4 + 1, none⟩ = some (.int .i64 ak) ∧ w6.cell? ⟨pa, oa + i * 4 + 1 + 1, none⟩ = some (.slice Ala als.length kla) ∧ w6.cell? ⟨pa, oa + i * 4 + 1 + 2, none⟩ = some (.slice Ada ada.length kda) ∧ w6.cell? ⟨pb, ob + k * 4 + 1, none⟩ = some (.int .i64 bk) ∧ w6.cell? ⟨pb, ob + k * 4 + 1 + 1, none⟩ = some (.slice Alb bls.length klb) ∧ w6.cell? ⟨pb, ob + k * 4 + 1 + 2, none⟩ = some (.slice Adb bda.length kdb))
            (first | exact HK.out _ hk00 | exact HK.out _ hk3)
            (first | (go_at_call 24; (with_reducible refine HOB.out.mono ?_); rintro e w3 ⟨rfl, hb3⟩; have hk3 : Below wp.heap.size wp w3 := hk00.trans (hb3.mono hk00.size)))
          have st3 := stwp.below hk3
          clear HK hk00 HOB hb3 hk3
          cases q
          · have HM' := HNE.out (by first | trivial | rfl) rfl
            have HR : Hid (∀ w', Below w.heap.size w w' → MsPost w X r (.returned (.tuple #[.agg #[.slice none 0 0], .agg #[.int .i64 19, .int .i64 k]])) w') := Lib.hid fun w' hb => MsPost.no (by rw [HPF.out, HM', if_pos (by simp)]) hb
            clear HM' HNE HEQ HPF
            obtain ⟨p0, p1, p2, p3, p4, p5, p6, p7, l0, l1, l2, l3⟩ := st3.b.facts
            go_wp2_with fail
            go_at_call 18
            refine (fault_b _ _ _).mono ?_
            rintro e w5 ⟨rfl, hb5⟩
            have st5 := st3.below hb5
            clear p0 p1 p2 p3 p4 p5 p6 p7 l0 l1 l2 l3 hb5
            obtain ⟨p0, p1, p2, p3, p4, p5, p6, p7, l0, l1, l2, l3⟩ := st5.b.facts
            go_wp2_with fail
            obtain ⟨k1, k2, k3⟩ := put12 st5.b.r1 st5.b.r2 (by omega) (.slice none 0 0) (.int .i64 19) (.int .i64 k)
            refine bodyPost_ret (results_24_28 rfl _ _ (w.heap.size + 2) (w.heap.size + 3) (.slice none 0 0) (.int .i64 19) (.int .i64 k) rfl rfl k1 k2) rfl ?_
            exact HR.out _ (k3 _ _ (by omega) (by omega) st5.b.bel)
          · have HM2 := Lib.hid (HEQ.out (by first | trivial | rfl) rfl)
            clear HNE HEQ
            have q0 := (st3.out.cell 0).trans (rfl : _ = some (Value.slice Ao m co))
            have ql := st3.out.lt
            have v0 := (st3.b.bx.cell 0).trans (rfl : _ = some (Value.slice (some ⟨pa, oa, none⟩) a.length la))
            have v1 := (st3.b.bo.cell 0).trans (rfl : _ = some (Value.slice (some ⟨pb, ob, none⟩) b.length lb))
            have vl0 := st3.b.bx.lt
            have vl1 := st3.b.bo.lt
            have eb0 := (st3.b.bel.cell (p := ⟨pb, ob + k * 4, none⟩) hpb).trans db0
            have eb1 := (st3.b.bel.cell (p := ⟨pb, ob + k * 4 + 1, none⟩) hpb).trans db1
            have eb2 := (st3.b.bel.cell (p := ⟨pb, ob + k * 4 + 2, none⟩) hpb).trans db2
            have eb3 := (st3.b.bel.cell (p := ⟨pb, ob + k * 4 + 3, none⟩) hpb).trans db3
            have hpW : pb < w3.heap.size := Nat.lt_of_lt_of_le hpb st3.b.bel.size
            have h63 : m + 1 ≤ maxLen := by unfold maxLen; omega
            have hby : (m + 1) * 64 ≤ 140737488355328 := by omega
            go_wp2_with fail
            go_region_law
              (first
                | (refine step_appNo _ rfl (.tmp 101) (.tmp 107) 22 rfl (w.heap.size + 5) 46 i0 _ 4 64 Try.underlying22 hI0 hZ0 hZ1 hZ2 rfl (by decide) Ao m co xs rfl (st3.own.alloc _).drew w3.heap.size 1 [.int .i64 ad, .int .i64 bk, .slice Alb bls.length klb, .slice Adb bda.length kdb] rfl rfl (fun j v hj => cells_new w3 #[.int .i64 ad, .int .i64 bk, .slice Alb bls.length klb, .slice Adb bda.length kdb] 46 j v hj) (st_one _ _ _ _ _ _ _ _) h63 hby (Nat.le_trans (Nat.succ_le_of_lt st3.out.lt) (size_alloc_le _ _)) ?_; intro ge ce wz hown4 hg4 hob4; have out4 := (st3.out.alloc (.cells #[.int .i64 ad, .int .i64 bk, .slice Alb bls.length klb, .slice Adb bda.length kdb] 46)).drew.grown hg4 (own_blk_ne st3.own st3.out hne46); have r5 := (out4.cell 0).trans (rfl : _ = some (Value.slice Ao m co)); have r6 := out4.frozen 0))
            all_goals
              have st6 := st3.app (o0 := .cells #[.int .i64 ad, .int .i64 bk, .slice Alb bls.length klb, .slice Adb bda.length kdb] 46) ⟨hg4.os, hg4.tape, hg4.output, hg4.size, hg4.block⟩ hown4
              have rows6 := rows.append (RowsR.one hrb)
              clear hown4 hg4 hob4 out4 r5 r6
              go_wp2_with fail
              go_roundw
              case rel => exact ⟨i + 1, k + 1, m + 1, _, _, _, _, by omega, by omega, by go_num, by go_num, st6, rows6, by omega, HM2⟩
              case measure => simp [intOf]; omega
        · have hd : decide (ad < bd) = false := decide_eq_false (by omega)
          have hd2 : (ad == bd) = false := by simp; omega
          have HM2 := Lib.hid (HGT.out hc)
          clear HLT HEQ HNE HGT hc
          go_wp2_with fail
          go_quiet (fail)
          refine gen_world (C := fun wz => Exit.then _ _ _ _ wz) (fun wz => MsSt w wz (some ⟨pa, oa, none⟩) a.length la (some ⟨pb, ob, none⟩) b.length lb Ao m co xs) (by first | exact st.drewN _) ?_
          intro wq stwq
          clear ea0 eb0 v0 v1 vl0 vl1 hpa' hpb'
          have v0 := (stwq.b.bx.cell 0).trans (rfl : _ = some (Value.slice (some ⟨pa, oa, none⟩) a.length la))
          have v1 := (stwq.b.bo.cell 0).trans (rfl : _ = some (Value.slice (some ⟨pb, ob, none⟩) b.length lb))
          have vl0 := stwq.b.bx.lt
          have vl1 := stwq.b.bo.lt
          have ea0 := (stwq.b.bel.cell (p := ⟨pa, oa + i * 4, none⟩) hpa).trans da0
          have eb0 := (stwq.b.bel.cell (p := ⟨pb, ob + k * 4, none⟩) hpb).trans db0
          have hpa' : pa < wq.heap.size := Nat.lt_of_lt_of_le hpa stwq.b.bel.size
          have hpb' : pb < wq.heap.size := Nat.lt_of_lt_of_le hpb stwq.b.bel.size
          go_wp2_with fail
          go_quiet (fail)
          refine gen_world (C := fun wz => Exit.then _ _ _ _ wz) (fun wz => MsSt w wz (some ⟨pa, oa, none⟩) a.length la (some ⟨pb, ob, none⟩) b.length lb Ao m co xs) (by first | exact stwq.drewN _) ?_
          intro wp stwp
          clear ea0 eb0 v0 v1 vl0 vl1 hpa' hpb'
          have q0 := (stwp.out.cell 0).trans (rfl : _ = some (Value.slice Ao m co))
          have ql := stwp.out.lt
          have v0 := (stwp.b.bx.cell 0).trans (rfl : _ = some (Value.slice (some ⟨pa, oa, none⟩) a.length la))
          have v1 := (stwp.b.bo.cell 0).trans (rfl : _ = some (Value.slice (some ⟨pb, ob, none⟩) b.length lb))
          have vl0 := stwp.b.bx.lt
          have vl1 := stwp.b.bo.lt
          have eb0 := (stwp.b.bel.cell (p := ⟨pb, ob + k * 4, none⟩) hpb).trans db0
          have eb1 := (stwp.b.bel.cell (p := ⟨pb, ob + k * 4 + 1, none⟩) hpb).trans db1
          have eb2 := (stwp.b.bel.cell (p := ⟨pb, ob + k * 4 + 2, none⟩) hpb).trans db2
          have eb3 := (stwp.b.bel.cell (p := ⟨pb, ob + k * 4 + 3, none⟩) hpb).trans db3
          have hpW : pb < wp.heap.size := Nat.lt_of_lt_of_le hpb stwp.b.bel.size
          have h63 : m + 1 ≤ maxLen := by unfold maxLen; omega
          have hby : (m + 1) * 64 ≤ 140737488355328 := by omega
          go_wp2_with fail
          go_region_law
            (first
              | (refine step_appNo _ rfl (.tmp 101) (.tmp 107) 22 rfl (w.heap.size + 5) 46 i0 _ 4 64 Try.underlying22 hI0 hZ0 hZ1 hZ2 rfl (by decide) Ao m co xs rfl (stwp.own.alloc _).drew wp.heap.size 1 [.int .i64 bd, .int .i64 bk, .slice Alb bls.length klb, .slice Adb bda.length kdb] rfl rfl (fun j v hj => cells_new wp #[.int .i64 bd, .int .i64 bk, .slice Alb bls.length klb, .slice Adb bda.length kdb] 46 j v hj) (st_one _ _ _ _ _ _ _ _) h63 hby (Nat.le_trans (Nat.succ_le_of_lt stwp.out.lt) (size_alloc_le _ _)) ?_; intro ge ce wz hown4 hg4 hob4; have out4 := (stwp.out.alloc (.cells #[.int .i64 bd, .int .i64 bk, .slice Alb bls.length klb, .slice Adb bda.length kdb] 46)).drew.grown hg4 (own_blk_ne stwp.own stwp.out hne46); have r5 := (out4.cell 0).trans (rfl : _ = some (Value.slice Ao m co)); have r6 := out4.frozen 0))
          all_goals
            have st6 := stwp.app (o0 := .cells #[.int .i64 bd, .int .i64 bk, .slice Alb bls.length klb, .slice Adb bda.length kdb] 46) ⟨hg4.os, hg4.tape, hg4.output, hg4.size, hg4.block⟩ hown4
            have rows6 := rows.append (RowsR.one hrb)
            clear hown4 hg4 hob4 out4 r5 r6
            go_wp2_with fail
            go_roundw
            case rel => exact ⟨i, k + 1, m + 1, _, _, _, _, by omega, by omega, by go_num, by go_num, st6, rows6, by omega, HM2⟩
            case measure => simp [intOf]; omega
      · obtain rfl : k = b.length := by omega
        have hkb : ((b.length : Int) == (b.length : Int)) = true := by simp
        have hkk : decide ((b.length : Int) < (b.length : Int)) = false := by simp
        have HM2 := Lib.hid (HM.out.trans (Ob.ms_a (a := a) (b := b) (i := i) (k := b.length) (out := out) hil (Nat.le_refl _)))
        have hi0 : (0 : Int) ≤ i := by omega
        clear HM
        generalize Ob.it a i = xa at *
        obtain ⟨ad, ak, als, ada⟩ := xa
        simp only at *
        have v0 := (st.b.bx.cell 0).trans (rfl : _ = some (Value.slice (some ⟨pa, oa, none⟩) a.length la))
        have v1 := (st.b.bo.cell 0).trans (rfl : _ = some (Value.slice B b.length lb))
        have vl0 := st.b.bx.lt
        have vl1 := st.b.bo.lt
        go_wp2_with fail
        go_quiet (fail)
        refine gen_world (C := fun wz => Exit.then _ _ _ _ wz) (fun wz => MsSt w wz (some ⟨pa, oa, none⟩) a.length la B b.length lb Ao m co xs) (by first | exact st.drewN _) ?_
        intro wq stwq
        clear v0 v1 vl0 vl1
        have q0 := (stwq.out.cell 0).trans (rfl : _ = some (Value.slice Ao m co))
        have ql := stwq.out.lt
        have v0 := (stwq.b.bx.cell 0).trans (rfl : _ = some (Value.slice (some ⟨pa, oa, none⟩) a.length la))
        have v1 := (stwq.b.bo.cell 0).trans (rfl : _ = some (Value.slice B b.length lb))
        have vl0 := stwq.b.bx.lt
        have vl1 := stwq.b.bo.lt
        have ea0 := (stwq.b.bel.cell (p := ⟨pa, oa + i * 4, none⟩) hpa).trans da0
        have ea1 := (stwq.b.bel.cell (p := ⟨pa, oa + i * 4 + 1, none⟩) hpa).trans da1
        have ea2 := (stwq.b.bel.cell (p := ⟨pa, oa + i * 4 + 2, none⟩) hpa).trans da2
        have ea3 := (stwq.b.bel.cell (p := ⟨pa, oa + i * 4 + 3, none⟩) hpa).trans da3
        have hpW : pa < wq.heap.size := Nat.lt_of_lt_of_le hpa stwq.b.bel.size
        have h63 : m + 1 ≤ maxLen := by unfold maxLen; omega
        have hby : (m + 1) * 64 ≤ 140737488355328 := by omega
        go_wp2_with fail
        go_region_law
          (first
            | (refine step_appNo _ rfl (.tmp 50) (.tmp 56) 22 rfl (w.heap.size + 5) 46 i0 _ 4 64 Try.underlying22 hI0 hZ0 hZ1 hZ2 rfl (by decide) Ao m co xs rfl (stwq.own.alloc _).drew wq.heap.size 1 [.int .i64 ad, .int .i64 ak, .slice Ala als.length kla, .slice Ada ada.length kda] rfl rfl (fun j v hj => cells_new wq #[.int .i64 ad, .int .i64 ak, .slice Ala als.length kla, .slice Ada ada.length kda] 46 j v hj) (st_one _ _ _ _ _ _ _ _) h63 hby (Nat.le_trans (Nat.succ_le_of_lt stwq.out.lt) (size_alloc_le _ _)) ?_; intro ge ce wz hown4 hg4 hob4; have out4 := (stwq.out.alloc (.cells #[.int .i64 ad, .int .i64 ak, .slice Ala als.length kla, .slice Ada ada.length kda] 46)).drew.grown hg4 (own_blk_ne stwq.own stwq.out hne46); have r5 := (out4.cell 0).trans (rfl : _ = some (Value.slice Ao m co)); have r6 := out4.frozen 0))
        all_goals
          have st6 := stwq.app (o0 := .cells #[.int .i64 ad, .int .i64 ak, .slice Ala als.length kla, .slice Ada ada.length kda] 46) ⟨hg4.os, hg4.tape, hg4.output, hg4.size, hg4.block⟩ hown4
          have rows6 := rows.append (RowsR.one hra)
          clear hown4 hg4 hob4 out4 r5 r6
          go_wp2_with fail
          go_roundw
          case rel => exact ⟨i + 1, b.length, m + 1, _, _, _, _, by omega, by omega, by go_num, by go_num, st6, rows6, by omega, HM2⟩
          case measure => simp [intOf]; omega
    · obtain rfl : i = a.length := by omega
      have hii : decide ((a.length : Int) < (a.length : Int)) = false := by simp
      by_cases hkl : k < b.length
      · have hkl' : (k : Int) < b.length := by omega
        have hkb : ((k : Int) == (b.length : Int)) = false := by simp; omega
        have hk0 : (0 : Int) ≤ k := by omega
        obtain ⟨pb, ob, Alb, klb, Adb, kdb, eb, hpb, _, db0, db1, db2, db3, hxb, hobb⟩ := HRB.out k hkl
        subst eb
        have hrb : StR w X (Ob.it b k) [.int .i64 (Ob.it b k).dig, .int .i64 (Ob.it b k).ob.kind, .slice Alb (Ob.it b k).ob.links.length klb, .slice Adb (Ob.it b k).ob.data.length kdb] := ⟨Alb, klb, Adb, kdb, rfl, hxb, hobb⟩
        have HM2 := Lib.hid (HM.out.trans (Ob.ms_b (a := a) (b := b) (i := a.length) (k := k) (out := out) (Nat.le_refl _) hkl))
        clear HM
        generalize Ob.it b k = xb at *
        obtain ⟨bd, bk, bls, bda⟩ := xb
        simp only at *
        have v0 := (st.b.bx.cell 0).trans (rfl : _ = some (Value.slice A a.length la))
        have v1 := (st.b.bo.cell 0).trans (rfl : _ = some (Value.slice (some ⟨pb, ob, none⟩) b.length lb))
        have vl0 := st.b.bx.lt
        have vl1 := st.b.bo.lt
        go_wp2_with fail
        go_quiet (fail)
        refine gen_world (C := fun wz => Exit.then _ _ _ _ wz) (fun wz => MsSt w wz A a.length la (some ⟨pb, ob, none⟩) b.length lb Ao m co xs) (by first | exact st.drewN _) ?_
        intro wq stwq
        clear v0 v1 vl0 vl1
        have v0 := (stwq.b.bx.cell 0).trans (rfl : _ = some (Value.slice A a.length la))
        have v1 := (stwq.b.bo.cell 0).trans (rfl : _ = some (Value.slice (some ⟨pb, ob, none⟩) b.length lb))
        have vl0 := stwq.b.bx.lt
        have vl1 := stwq.b.bo.lt
        go_wp2_with fail
        go_quiet (fail)
        refine gen_world (C := fun wz => Exit.then _ _ _ _ wz) (fun wz => MsSt w wz A a.length la (some ⟨pb, ob, none⟩) b.length lb Ao m co xs) (by first | exact stwq.drewN _) ?_
        intro wp stwp
        clear v0 v1 vl0 vl1
        have q0 := (stwp.out.cell 0).trans (rfl : _ = some (Value.slice Ao m co))
        have ql := stwp.out.lt
        have v0 := (stwp.b.bx.cell 0).trans (rfl : _ = some (Value.slice A a.length la))
        have v1 := (stwp.b.bo.cell 0).trans (rfl : _ = some (Value.slice (some ⟨pb, ob, none⟩) b.length lb))
        have vl0 := stwp.b.bx.lt
        have vl1 := stwp.b.bo.lt
        have eb0 := (stwp.b.bel.cell (p := ⟨pb, ob + k * 4, none⟩) hpb).trans db0
        have eb1 := (stwp.b.bel.cell (p := ⟨pb, ob + k * 4 + 1, none⟩) hpb).trans db1
        have eb2 := (stwp.b.bel.cell (p := ⟨pb, ob + k * 4 + 2, none⟩) hpb).trans db2
        have eb3 := (stwp.b.bel.cell (p := ⟨pb, ob + k * 4 + 3, none⟩) hpb).trans db3
        have hpW : pb < wp.heap.size := Nat.lt_of_lt_of_le hpb stwp.b.bel.size
        have h63 : m + 1 ≤ maxLen := by unfold maxLen; omega
        have hby : (m + 1) * 64 ≤ 140737488355328 := by omega
        go_wp2_with fail
        go_region_law
          (first
            | (refine step_appNo _ rfl (.tmp 101) (.tmp 107) 22 rfl (w.heap.size + 5) 46 i0 _ 4 64 Try.underlying22 hI0 hZ0 hZ1 hZ2 rfl (by decide) Ao m co xs rfl (stwp.own.alloc _).drew wp.heap.size 1 [.int .i64 bd, .int .i64 bk, .slice Alb bls.length klb, .slice Adb bda.length kdb] rfl rfl (fun j v hj => cells_new wp #[.int .i64 bd, .int .i64 bk, .slice Alb bls.length klb, .slice Adb bda.length kdb] 46 j v hj) (st_one _ _ _ _ _ _ _ _) h63 hby (Nat.le_trans (Nat.succ_le_of_lt stwp.out.lt) (size_alloc_le _ _)) ?_; intro ge ce wz hown4 hg4 hob4; have out4 := (stwp.out.alloc (.cells #[.int .i64 bd, .int .i64 bk, .slice Alb bls.length klb, .slice Adb bda.length kdb] 46)).drew.grown hg4 (own_blk_ne stwp.own stwp.out hne46); have r5 := (out4.cell 0).trans (rfl : _ = some (Value.slice Ao m co)); have r6 := out4.frozen 0))
        all_goals
          have st6 := stwp.app (o0 := .cells #[.int .i64 bd, .int .i64 bk, .slice Alb bls.length klb, .slice Adb bda.length kdb] 46) ⟨hg4.os, hg4.tape, hg4.output, hg4.size, hg4.block⟩ hown4
          have rows6 := rows.append (RowsR.one hrb)
          clear hown4 hg4 hob4 out4 r5 r6
          go_wp2_with fail
          go_roundw
          case rel => exact ⟨a.length, k + 1, m + 1, _, _, _, _, by omega, by omega, by go_num, by go_num, st6, rows6, by omega, HM2⟩
          case measure => simp [intOf]; omega
      · obtain rfl : k = b.length := by omega
        have hkk : decide ((b.length : Int) < (b.length : Int)) = false := by simp
        have HM' := HM.out.trans (Ob.ms_end (a := a) (b := b) (out := out) (Nat.le_refl _) (Nat.le_refl _))
        have hml : out.length = m := by have h1 := rows.length StR.len; have h2 := st.own.1; omega
        subst hml
        have HP2 := Lib.hid (HPF.out.trans (if_neg (by rw [HM']; simp)))
        rw [HM'] at HP2
        clear HM HM' HPF
        obtain ⟨p0, p1, p2, p3, p4, p5, p6, p7, l0, l1, l2, l3⟩ := st.b.facts
        have q0 := (st.out.cell 0).trans (rfl : _ = some (Value.slice Ao out.length co))
        have ql := st.out.lt
        by_cases h40 : 40 < out.length
        · have HR : Hid (∀ w', Below w.heap.size w w' → MsPost w X r (.returned (.tuple #[.agg #[.slice none 0 0], .agg #[.int .i64 14, .int .i64 (-1)]])) w') := Lib.hid fun w' hb => MsPost.no (HP2.out.trans (if_pos h40)) hb
          have h40' : (40 : Int) < out.length := by omega
          clear HP2
          go_wp2_with fail
          go_at_call 18
          refine (fault_b _ _ _).mono ?_
          rintro e w5 ⟨rfl, hb5⟩
          have st5 := st.below hb5
          clear p0 p1 p2 p3 p4 p5 p6 p7 l0 l1 l2 l3 q0 ql hb5
          obtain ⟨p0, p1, p2, p3, p4, p5, p6, p7, l0, l1, l2, l3⟩ := st5.b.facts
          go_wp2_with fail
          obtain ⟨k1, k2, k3⟩ := put12 st5.b.r1 st5.b.r2 (by omega) (.slice none 0 0) (.int .i64 14) (.int .i64 (-1))
          refine bodyPost_ret (results_24_28 rfl _ _ (w.heap.size + 2) (w.heap.size + 3) (.slice none 0 0) (.int .i64 14) (.int .i64 (-1)) rfl rfl k1 k2) rfl ?_
          exact HR.out _ (k3 _ _ (by omega) (by omega) st5.b.bel)
        · have H := Lib.hid (HP2.out.trans (if_neg h40))
          have h40' : ¬ (40 : Int) < out.length := by omega
          clear HP2 h40
          go_wp2_with fail
          obtain ⟨k1, k2, k3⟩ := put12 st.b.r1 st.b.r2 (by omega) (.slice Ao out.length co) (.int .i64 0) (.int .i64 0)
          refine bodyPost_ret (results_24_28 rfl _ _ (w.heap.size + 2) (w.heap.size + 3) (.slice Ao out.length co) (.int .i64 0) (.int .i64 0) rfl rfl k1 k2) rfl ?_
          rw [H.out]
          have hb5 := k3 w.heap.size w (by omega) (by omega) st.b.bel
          have hne1 : some (w.heap.size + 2) ≠ (Value.slice Ao out.length co).ownBlock := fun e => by have := (st.own.lt _ e.symm).1; omega
          have hne2 : some (w.heap.size + 3) ≠ (Value.slice Ao out.length co).ownBlock := fun e => by have := (st.own.lt _ e.symm).1; omega
          refine ⟨Ao, co, rfl, ⟨xs, ?_, rows.mono (StR.keep (Keeps.below hb5 (fun _ _ h => h)))⟩, hb5⟩
          exact SA.of_own' (own_setCell (own_setCell (own_setCell st.own hne1 _) hne2 _) hne2 _) (fun g hg hX => by have h1 := HXL.out g hX; have h2 := (st.own.lt g hg).1; omega)
end Go.Proofs.Ytiilhnfdlpgllaa
