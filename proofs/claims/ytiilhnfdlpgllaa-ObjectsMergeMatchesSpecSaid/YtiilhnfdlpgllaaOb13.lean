/-
  Objects: walk of the reference's 'PutObject'.
-/
import Derived.Test.YtiilhnfdlpgllaaOb9
import Derived.Test.YtiilhnfdlpgllaaOb12
import Derived.Test.YtiilhnfdlpgllaaPk5
namespace Ob
/-- What 'PutObject' answers: the store, the digest, a code. -/
def putR (s : List S) (o : O) : List S × Int × Int :=
  if fnd s (dig o) = true then if Go.Proofs.Ytiilhnfdlpgllaa.eqO (it s (lb s (dig o))).ob o = true then (s, dig o, 0) else ([], 0, 19)
  else if 40 ≤ s.length then ([], 0, 14) else (addS s (dig o) o, dig o, 0)
/-- The list ahead of place i, the new one put in at p. -/
def preL (s : List S) (x : S) (p i : Nat) : List S := if p < i then s.take p ++ [x] ++ (s.drop p).take (i - p) else s.take i
theorem preL_zero (s : List S) (x : S) (p : Nat) : preL s x p 0 = [] := by unfold preL; rw [if_neg (by omega)]; simp
theorem preL_lt (s : List S) (x : S) (p i : Nat) (h : i < p) (hi : i < s.length) : preL s x p (i + 1) = preL s x p i ++ [it s i] := by
  unfold preL
  rw [if_neg (by omega), if_neg (by omega), List.take_succ_eq_append_getElem hi, it_eq s i hi]
theorem preL_at (s : List S) (x : S) (p : Nat) (hi : p < s.length) : preL s x p (p + 1) = preL s x p p ++ [x] ++ [it s p] := by
  unfold preL
  rw [if_pos (by omega), if_neg (by omega), show p + 1 - p = 1 by omega, List.drop_eq_getElem_cons hi, it_eq s p hi]
  simp
theorem preL_gt (s : List S) (x : S) (p i : Nat) (h : p < i) (hi : i < s.length) : preL s x p (i + 1) = preL s x p i ++ [it s i] := by
  unfold preL
  rw [if_pos (by omega), if_pos h, show i + 1 - p = (i - p) + 1 by omega, List.take_succ_eq_append_getElem (by simp; omega), ← it_eq s i hi]
  simp only [List.append_assoc, List.getElem_drop]
  congr 4
  simp only [show p + (i - p) = i by omega]
theorem preL_end (s : List S) (x : S) (p : Nat) (h : p < s.length) : preL s x p s.length = s.take p ++ [x] ++ s.drop p := by
  unfold preL
  rw [if_pos h, show s.length - p = (s.drop p).length by simp, List.take_length]
theorem preL_all (s : List S) (x : S) : preL s x s.length s.length ++ [x] = s.take s.length ++ [x] ++ s.drop s.length := by
  unfold preL
  rw [if_neg (by omega)]
  simp
theorem preL_length (s : List S) (x : S) (p i : Nat) (hi : i ≤ s.length) : (preL s x p i).length = if p < i then i + 1 else i := by
  unfold preL
  split <;> simp <;> omega
end Ob
namespace Go.Proofs.Ytiilhnfdlpgllaa
open Go.RowKit Go.V
set_option linter.unusedVariables false

theorem results_24_t_t {fn : Func} {a t u : Tmp} (h : fn.results = #[.cell a 24, .tmp t, .tmp u]) (tmps : Array Value) (w : World) (g : Nat) (x : Value) (ha : tmps.getD a undef = .pointer (some ⟨g, 0, none⟩))
    (hb : Blk w g 24 #[x]) : (results fn tmps).run Try.prog w = .ok (.tuple #[.agg #[x], tmps.getD t undef, tmps.getD u undef]) w := by
  have h0 := hb.cell 0
  simp only [List.getElem?_toArray, List.getElem?_cons_zero] at h0
  have ha' : tmps[a]?.getD undef = .pointer (some ⟨g, 0, none⟩) := by simpa using ha
  simp [results, h, go_sem, ha', h0]
/-- What 'PutObject' answers. -/
def PoPost (w : World) (X : Nat → Prop) (r : List Ob.S × Int × Int) (e : Ending) (w' : World) : Prop := ∃ A c, e = .returned (.tuple #[stV A r.1.length c, .int .i64 r.2.1, .int .i64 r.2.2]) ∧ StV w' X A r.1 ∧ Below w.heap.size w w'
theorem PoPost.no {w w' : World} {X : Nat → Prop} {r : List Ob.S × Int × Int} {c : Int} (h : r = ([], 0, c)) (hb : Below w.heap.size w w') : PoPost w X r (.returned (.tuple #[.agg #[.slice none 0 0], .int .i64 0, .int .i64 c])) w' := by
  subst h; exact ⟨none, 0, rfl, ⟨[], SA.nil, rfl⟩, hb⟩
/-- The boxes of 'PutObject'. -/
structure PoB (w wr : World) (A : Option Addr) (n k : Nat) (ov : Array Value) : Prop where
  bx : Blk wr w.heap.size 24 #[.slice A n k]
  bo : Blk wr (w.heap.size + 1) 44 ov
  r1 : Blk wr (w.heap.size + 2) 24 #[.slice none 0 0]
  bel : Below w.heap.size w wr
/-- .. and the list that it makes. -/
structure PoSt (w wr : World) (g : Nat) (A : Option Addr) (n k : Nat) (ov : Array Value) (Ao : Option Addr) (m co : Nat) (xs : List Value) : Prop where
  b : PoB w wr A n k ov
  out : Blk wr g 24 #[.slice Ao m co]
  own : wr.ownsRow (g + 1) 46 4 (.slice Ao m co) m xs
  hg : w.heap.size + 3 ≤ g
section
variable {w wr w' : World} {g : Nat} {A : Option Addr} {n k : Nat} {ov : Array Value} {Ao : Option Addr} {m co : Nat} {xs : List Value}
theorem PoB.below (h : PoB w wr A n k ov) (hb : Below wr.heap.size wr w') : PoB w w' A n k ov :=
  ⟨h.bx.below hb h.bx.lt, h.bo.below hb h.bo.lt, h.r1.below hb h.r1.lt, h.bel.trans (hb.mono h.bel.size)⟩
theorem PoSt.below (h : PoSt w wr g A n k ov Ao m co xs) (hb : Below wr.heap.size wr w') : PoSt w w' g A n k ov Ao m co xs :=
  ⟨h.b.below hb, h.out.below hb h.out.lt, h.own.kept (only_of_below hb none) (by cases hv : (Value.slice Ao m co).ownBlock <;> simp), h.hg⟩
theorem PoSt.app (h : PoSt w wr g A n k ov Ao m co xs) {o0 : Obj} {w4 : World} {gd c' : Nat} {news : List Value} (hg : (wr.alloc o0).grownBy w4 (Value.slice Ao m co).ownBlock)
    (hown : w4.ownsRow (g + 1) 46 4 (.slice (some ⟨gd, 0, none⟩) (m + 1) c') (m + 1) (xs ++ news)) : PoSt w (w4.setCell ⟨g, 0, none⟩ (.slice (some ⟨gd, 0, none⟩) (m + 1) c')) g A n k ov (some ⟨gd, 0, none⟩) (m + 1) c' (xs ++ news) := by
  have own3 := h.own.alloc o0
  have hgg := h.hg
  have f : ∀ {b : Nat} {t : TypeId} {cs : Array Value}, Blk wr b t cs → b < g → Blk (w4.setCell ⟨g, 0, none⟩ (.slice (some ⟨gd, 0, none⟩) (m + 1) c')) b t cs := fun hb hlt =>
    (((hb.alloc o0).grown hg (fun e => by have := (own3.lt _ e.symm).1; omega)).far (by simp; omega) _)
  have out4 := (h.out.alloc o0).grown hg (fun e => by have := (own3.lt _ e.symm).1; omega)
  refine ⟨⟨f h.b.bx (by omega), f h.b.bo (by omega), f h.b.r1 (by omega), ?_⟩, by simpa using out4.set_ 0 (.slice (some ⟨gd, 0, none⟩) (m + 1) c'), own_setCell hown (fun e => by have := (hown.lt _ e.symm).1; simp at this; omega) _, h.hg⟩
  refine Below.setCell ?_ (by simp; omega) _
  exact (h.b.bel.alloc h.b.bel.size o0).grown hg (by have := h.b.bel.size; simp; omega) (fun b hb => by have := (own3.lt b hb).1; omega)
end
set_option maxRecDepth 100000 in
set_option maxHeartbeats 16000000 in
theorem putObject_any (w : World) (A : Option Addr) (k : Nat) (s : List Ob.S) (o : Ob.O) (Al : Option Addr) (kl : Nat) (Ad : Option Addr) (kd : Nat) (hv : StV w Free A s) (hok : Ob.StOk s) (ho : ObA w Free o Al kl Ad kd) (hobk : Ob.Ok o)
    (X : Nat → Prop) (hvX : StV w X A s) (hoX : ObA w X o Al kl Ad kd) (hXlt : ∀ b, X b → b < w.heap.size) :
    Calls Try.prog 34 #[stV A s.length k, obV o Al kl Ad kd] w (PoPost w X (Ob.putR s o)) := by
  obtain ⟨i0, hI0, hZ0, hZ1, hZ2⟩ := info_parts info46
  have HV := Lib.hid (fun (w1 : World) (hb : Below w.heap.size w w1) => hv.keep (free_below hb))
  have HO := Lib.hid (fun (w1 : World) (hb : Below w.heap.size w w1) => ho.keep (free_below hb))
  have hsl := hok.len
  have hsrt := hok.sorted
  have HPR := Lib.hid (Ob.putR.eq_1 s o)
  have HDG := Lib.hid (fun (w1 : World) (hb : Below w.heap.size w w1) => objDigest_any w1 o Al kl Ad kd (HO.out _ hb) hobk)
  have hdl := Ob.dig_lt o
  have HAT := Lib.hid (fun (w1 : World) (hb : Below w.heap.size w w1) d => at_any w1 A k s d (HV.out _ hb) (by omega))
  have HATS := Lib.hid (Ob.at_sorted hsrt ((Ob.dig o : Nat) : Int))
  have HSX := Lib.hid hsrt
  have HVX := Lib.hid hvX
  have HOX := Lib.hid hoX
  have HXL := Lib.hid hXlt
  clear hv ho hok hobk hsrt hvX hoX hXlt
  generalize hr : Ob.putR s o = r at *
  clear hr
  generalize hdg : ((Ob.dig o : Nat) : Int) = dg at *
  have hd64 : I64 dg := by rw [← hdg]; unfold I64; omega
  clear hdl hdg
  obtain ⟨kk, ls, da⟩ := o
  have st0 : PoB w (((w.alloc (.cells #[.slice A s.length k] 24)).alloc (.cells #[.int .i64 kk, .slice Al ls.length kl, .slice Ad da.length kd] 44)).alloc (.cells #[.slice none 0 0] 24)) A s.length k #[.int .i64 kk, .slice Al ls.length kl, .slice Ad da.length kd] :=
    ⟨((Blk.new _ _ _).alloc _).alloc _, (blk_new1 _ _ _ _).alloc _, blk_new2 _ _ _ _ _, below_alloc3 _ _ _ _⟩
  go_enter Try.func34, Try.ntmps34
  go_wp2_with fail
  go_at_call 31
  refine (HDG.out _ st0.bel).mono ?_
  rintro e w1 ⟨rfl, hb1⟩
  have st1 := st0.below hb1
  have p0 := st1.bx.cell 0
  have pl := st1.bx.lt
  simp only [List.getElem?_toArray, List.getElem?_cons_zero] at p0
  clear hb1 HDG st0
  go_wp2_with fail
  go_at_call 27
  refine (HAT.out _ st1.bel dg).mono ?_
  rintro e w2 ⟨rfl, hb2⟩
  rw [HATS.out]
  have st2 := st1.below hb2
  clear hb2 HAT HATS st1 p0 pl
  have p0 := st2.bx.cell 0
  have x0 := st2.bo.cell 0
  have x1 := st2.bo.cell 1
  have x2 := st2.bo.cell 2
  have r0 := st2.r1.cell 0
  have r1 := st2.r1.frozen 0
  have l0 := st2.bx.lt
  have l1 := st2.bo.lt
  have l2 := st2.r1.lt
  simp only [List.getElem?_toArray, List.getElem?_cons_zero, List.getElem?_cons_succ] at p0 x0 x1 x2 r0
  by_cases hf : Ob.fnd s dg = true
  · rw [if_pos hf]
    have hpl : Ob.lb s dg < s.length := by
      have h := hf; unfold Ob.fnd at h; rw [Bool.and_eq_true] at h; simpa using h.1
    have HP2 := Lib.hid (HPR.out.trans (if_pos hf))
    obtain ⟨b, off, Al', kl', Ad', kd', e, hb, _, d0, d1, d2, d3, _, hob⟩ := (HV.out _ st2.bel).row _ hpl
    subst e
    have hk0 : Below w2.heap.size w2 w2.drew := below_drew' (Below.refl _ _)
    have HOB := Lib.hid (objects_any w2.drew (Ob.it s (Ob.lb s dg)).ob ⟨kk, ls, da⟩ Al' kl' Ad' kd' Al kl Ad kd (hob.keep (free_below hk0)) (HO.out _ (st2.bel.trans (hk0.mono st2.bel.size))))
    have HVS := Lib.hid (fun (w' : World) (hb : Below w.heap.size w w') => HVX.out.keep (X' := X) (Keeps.below hb (fun _ _ h => h)))
    clear hob hf HPR HV HO
    generalize hxx : Ob.it s (Ob.lb s dg) = x at *
    clear hxx
    generalize hq : eqO x.ob ⟨kk, ls, da⟩ = q at *
    have HQ := Lib.hid hq
    clear hq
    generalize Ob.lb s dg = p at *
    obtain ⟨xd, kk', ls', da'⟩ := x
    simp only at *
    have hpi : (p : Int) < s.length := by omega
    have hp0 : (0 : Int) ≤ p := by omega
    have HK : Hid (∀ w6 : World, Below w2.heap.size w2 w6 → w6.cell? ⟨w.heap.size, 0, none⟩ = some (.slice (some ⟨b, off, none⟩) s.length k) ∧ w6.cell? ⟨w.heap.size + 1, 0, none⟩ = some (.int .i64 kk) ∧ w6.cell? ⟨w.heap.size + 1, 1, none⟩ = some (.slice Al ls.length kl) ∧ w6.cell? ⟨w.heap.size + 1, 2, none⟩ = some (.slice Ad da.length kd) ∧
        w6.cell? ⟨b, off + p * 4 + 1, none⟩ = some (.int .i64 kk') ∧ w6.cell? ⟨b, off + p * 4 + 1 + 1, none⟩ = some (.slice Al' ls'.length kl') ∧ w6.cell? ⟨b, off + p * 4 + 1 + 2, none⟩ = some (.slice Ad' da'.length kd')) := Lib.hid fun w6 h6 =>
      ⟨(h6.cell (p := ⟨_, _, none⟩) l0).trans p0, (h6.cell (p := ⟨_, _, none⟩) l1).trans x0, (h6.cell (p := ⟨_, _, none⟩) l1).trans x1, (h6.cell (p := ⟨_, _, none⟩) l1).trans x2, (h6.cell (p := ⟨_, _, none⟩) hb).trans d1, (h6.cell (p := ⟨_, _, none⟩) hb).trans d2, (h6.cell (p := ⟨_, _, none⟩) hb).trans d3⟩
    clear d0 d1 d2 d3
    go_wp2_with fail
    go_region_held3 (fun w6 => w6.cell? ⟨w.heap.size, 0, none⟩ = some (.slice (some ⟨b, off, none⟩) s.length k) ∧ w6.cell? ⟨w.heap.size + 1, 0, none⟩ = some (.int .i64 kk) ∧ w6.cell? ⟨w.heap.size + 1, 1, none⟩ = some (.slice Al ls.length kl) ∧ w6.cell? ⟨w.heap.size + 1, 2, none⟩ = some (.slice Ad da.length kd) ∧
        w6.cell? ⟨b, off + p * 4 + 1, none⟩ = some (.int .i64 kk') ∧ w6.cell? ⟨b, off + p * 4 + 1 + 1, none⟩ = some (.slice Al' ls'.length kl') ∧ w6.cell? ⟨b, off + p * 4 + 1 + 2, none⟩ = some (.slice Ad' da'.length kd'))
      (first | exact HK.out _ hk0 | exact HK.out _ hk3)
      (first | (go_at_call 24; (with_reducible refine HOB.out.mono ?_); rintro e w3 ⟨rfl, hb3⟩; have hk3 : Below w2.heap.size w2 w3 := hk0.trans (hb3.mono hk0.size)))
    have st3 := st2.below hk3
    have p03 := st3.bx.cell 0
    have r03 := st3.r1.cell 0
    have r13 := st3.r1.frozen 0
    have m0 := st3.bx.lt
    have m2 := st3.r1.lt
    simp only [List.getElem?_toArray, List.getElem?_cons_zero] at p03 r03
    clear HK hk0 HOB hb3 hk3 st2 p0 x0 x1 x2 r0 r1 l0 l1 l2
    cases q
    · have HR : Hid (∀ w', Below w.heap.size w w' → PoPost w X r (.returned (.tuple #[.agg #[.slice none 0 0], .int .i64 0, .int .i64 19])) w') := Lib.hid fun w' hb => PoPost.no (HP2.out.trans (if_neg (by simp))) hb
      clear HP2
      generalize PoPost w X r = R at *
      go_wp2_with fail
      refine bodyPost_ret (results_24_t_t rfl _ _ (w.heap.size + 2) (.slice none 0 0) rfl (by simpa using st3.r1.set_ 0 (.slice none 0 0))) rfl ?_
      exact HR.out _ (st3.bel.setCell (by simp <;> omega) _)
    · have H := Lib.hid (HP2.out.trans (if_pos rfl))
      clear HP2
      go_wp2_with fail
      refine bodyPost_ret (results_24_t_t rfl _ _ (w.heap.size + 2) (.slice (some ⟨b, off, none⟩) s.length k) rfl (by simpa using st3.r1.set_ 0 (.slice (some ⟨b, off, none⟩) s.length k))) rfl ?_
      rw [H.out]
      have hb5 := st3.bel.setCell (p := ⟨w.heap.size + 2, 0, none⟩) (by simp) (.slice (some ⟨b, off, none⟩) s.length k)
      exact ⟨_, k, rfl, HVS.out _ hb5, hb5⟩
  · --NOTFOUND
    rw [if_neg hf]
    have hff : Ob.fnd s dg = false := by simpa using hf
    have HP2 := Lib.hid (HPR.out.trans (if_neg hf))
    have HAS := Lib.hid (show Ob.addS s dg ⟨kk, ls, da⟩ = s.take (Ob.lb s dg) ++ [⟨dg, ⟨kk, ls, da⟩⟩] ++ s.drop (Ob.lb s dg) from by unfold Ob.addS; rw [hff]; rfl)
    have HLT := Lib.hid (fun i (hi : i < Ob.lb s dg) => Ob.lb_lt HSX.out dg i hi)
    have HGE := Lib.hid (fun i (hi : Ob.lb s dg ≤ i) (hil : i < s.length) => show dg < (Ob.it s i).dig from by
      have h1 := Ob.lb_ge HSX.out dg i hi hil
      have h2 : (Ob.it s i).dig ≠ dg := fun e => by
        have hlb : Ob.lb s dg = i := Ob.lb_eq s dg i (by omega) (fun j hj => by have := HSX.out.mono hj hil; omega) (fun j hj hjl => by have := HSX.out.le hj hjl; omega)
        apply hf; unfold Ob.fnd; rw [hlb, decide_eq_true hil, decide_eq_true e]; rfl
      omega)
    have hple := Ob.lb_le s dg
    clear hf hff HPR HSX
    by_cases h40 : 40 ≤ s.length
    · have HR : Hid (∀ w', Below w.heap.size w w' → PoPost w X r (.returned (.tuple #[.agg #[.slice none 0 0], .int .i64 0, .int .i64 14])) w') := Lib.hid fun w' hb => PoPost.no (HP2.out.trans (if_pos h40)) hb
      have h40' : (40 : Int) ≤ s.length := by omega
      clear HP2 h40 HAS HLT HGE hple HV HO
      generalize PoPost w X r = R at *
      generalize Ob.lb s dg = p at *
      go_wp2_with fail
      refine bodyPost_ret (results_24_t_t rfl _ _ (w.heap.size + 2) (.slice none 0 0) rfl (by simpa using st2.r1.set_ 0 (.slice none 0 0))) rfl ?_
      exact HR.out _ (st2.bel.setCell (by simp <;> omega) _)
    · have h40' : (s.length : Int) < 40 := by omega
      have HP3 := Lib.hid (HP2.out.trans (if_neg h40))
      rw [HAS.out] at HP3
      have hrn : StR w X ⟨dg, ⟨kk, ls, da⟩⟩ [.int .i64 dg, .int .i64 kk, .slice Al ls.length kl, .slice Ad da.length kd] := ⟨Al, kl, Ad, kd, rfl, hd64, HOX.out⟩
      have HRW := Lib.hid HVX.out.row
      have hb3 := below_alloc1 w2 (.cells #[.slice none 0 0] 24)
      have b3 := st2.below hb3
      have st3 : PoSt w (w2.alloc (.cells #[.slice none 0 0] 24)) w2.heap.size A s.length k #[.int .i64 kk, .slice Al ls.length kl, .slice Ad da.length kd] none 0 0 [] := ⟨b3, Blk.new _ _ _, World.ownsRow_nil _ _ _ _, l2⟩
      clear HP2 HAS HV HO hb3 b3 st2 x0 x1 x2 r0 r1
      generalize Ob.lb s dg = p at *
      have rows0 : RowsR (StR w X) (Ob.preL s ⟨dg, ⟨kk, ls, da⟩⟩ p 0) [] := by rw [Ob.preL_zero]; rfl
      have hp0 : decide (p < 0) = false := by simp
      go_wp2_with fail
      obtain ⟨g, hg⟩ : ∃ g, g = w2.heap.size := ⟨_, rfl⟩
      rw [← hg] at st3 ⊢
      clear hg
      go_loopw [10, 11] (fun pv iv wr => ∃ (i m : Nat) (Ao : Option Addr) (co : Nat) (xs : List Value), i ≤ s.length ∧ pv = .bool (decide (p < i)) ∧ iv = .int .i64 i ∧ PoSt w wr g A s.length k #[.int .i64 kk, .slice Al ls.length kl, .slice Ad da.length kd] Ao m co xs ∧ RowsR (StR w X) (Ob.preL s ⟨dg, ⟨kk, ls, da⟩⟩ p i) xs ∧ m ≤ i + 1 ∧ Hid (i ≤ p → m ≤ i)) (fun _ iv _ => s.length - (intOf iv).toNat)
      case atStart => exact ⟨0, 0, none, 0, [], Nat.zero_le _, by rw [hp0], rfl, st3, rows0, by omega, Lib.hid (fun _ => Nat.le_refl _)⟩
      case round =>
        obtain ⟨i, m, Ao, co, xs, hi, rfl, rfl, st, rows, hm, HM2⟩ := hrel
        obtain ⟨wo, rfl⟩ : ∃ wo : World, wo = wr := ⟨_, rfl⟩
        clear st3 rows0 hp0
        have hbx0 := (st.b.bx.cell 0).trans (rfl : _ = some (Value.slice A s.length k))
        have hxl := st.b.bx.lt
        by_cases hil : i < s.length
        · have hil' : (i : Int) < s.length := by omega
          have hi0 : (0 : Int) ≤ i := by omega
          obtain ⟨b, off, Al', kl', Ad', kd', e, hb, _, d0, d1, d2, d3, hx64, hob⟩ := HRW.out i hil
          subst e
          have hrx : StR w X (Ob.it s i) [.int .i64 (Ob.it s i).dig, .int .i64 (Ob.it s i).ob.kind, .slice Al' (Ob.it s i).ob.links.length kl', .slice Ad' (Ob.it s i).ob.data.length kd'] := ⟨Al', kl', Ad', kd', rfl, hx64, hob⟩
          clear hob hx64
          rcases Nat.lt_trichotomy p i with hc | hc | hc
          · have hd : decide (p < i) = true := decide_eq_true hc
            have HEQ := Lib.hid (Ob.preL_gt s ⟨dg, ⟨kk, ls, da⟩⟩ p i hc hil)
            clear HLT HGE
            generalize Ob.it s i = x at *
            obtain ⟨xd, kk', ls', da'⟩ := x
            simp only at *
            have q0 := (st.out.cell 0).trans (rfl : _ = some (Value.slice Ao m co))
            have ql := st.out.lt
            have v0 := (st.b.bx.cell 0).trans (rfl : _ = some (Value.slice (some ⟨b, off, none⟩) s.length k))
            have vl := st.b.bx.lt
            have e0 := (st.b.bel.cell (p := ⟨b, off + i * 4, none⟩) hb).trans d0
            have e1 := (st.b.bel.cell (p := ⟨b, off + i * 4 + 1, none⟩) hb).trans d1
            have e2 := (st.b.bel.cell (p := ⟨b, off + i * 4 + 2, none⟩) hb).trans d2
            have e3 := (st.b.bel.cell (p := ⟨b, off + i * 4 + 3, none⟩) hb).trans d3
            have hbw' : b < wo.heap.size := Nat.lt_of_lt_of_le hb st.b.bel.size
            have h63 : m + 1 ≤ maxLen := by unfold maxLen; omega
            have hby : (m + 1) * 64 ≤ 140737488355328 := by omega
            clear d0 d1 d2 d3
            go_wp2_with fail
            go_region_law
              (first
                | (refine step_appNo _ rfl (.tmp 65) (.tmp 71) 22 rfl (g + 1) 46 i0 _ 4 64 Try.underlying22 hI0 hZ0 hZ1 hZ2 rfl (by decide) Ao m co xs rfl (st.own.alloc _).drew wo.heap.size 1 [.int .i64 xd, .int .i64 kk', .slice Al' ls'.length kl', .slice Ad' da'.length kd'] rfl rfl (fun j v hj => cells_new wo #[.int .i64 xd, .int .i64 kk', .slice Al' ls'.length kl', .slice Ad' da'.length kd'] 46 j v hj) (st_one _ _ _ _ _ _ _ _) h63 hby (Nat.le_trans (Nat.succ_le_of_lt st.out.lt) (size_alloc_le _ _)) ?_; intro ge ce wz hown4 hg4 hob4; have out4 := (st.out.alloc (.cells #[.int .i64 xd, .int .i64 kk', .slice Al' ls'.length kl', .slice Ad' da'.length kd'] 46)).drew.grown hg4 (own_blk_ne st.own st.out hne46); have r5 := (out4.cell 0).trans (rfl : _ = some (Value.slice Ao m co)); have r6 := out4.frozen 0))
            all_goals
              have st6 := st.app (o0 := .cells #[.int .i64 xd, .int .i64 kk', .slice Al' ls'.length kl', .slice Ad' da'.length kd'] 46) ⟨hg4.os, hg4.tape, hg4.output, hg4.size, hg4.block⟩ hown4
              have rows6 : RowsR (StR w X) (Ob.preL s ⟨dg, ⟨kk, ls, da⟩⟩ p (i + 1)) (xs ++ [.int .i64 xd, .int .i64 kk', .slice Al' ls'.length kl', .slice Ad' da'.length kd']) := by
                rw [HEQ.out]; exact rows.append (RowsR.one hrx)
              clear hown4 hg4 hob4 out4 r5 r6
              go_wp2_with fail
              go_roundw
              case rel => exact ⟨i + 1, m + 1, _, _, _, by omega, by rw [decide_eq_true (by omega)], by go_num, st6, rows6, by omega, Lib.hid (fun h => by omega)⟩
              case measure => simp [intOf]; omega
          · subst hc
            have hd : decide (p < p) = false := by simp
            have HEQ := Lib.hid (Ob.preL_at s ⟨dg, ⟨kk, ls, da⟩⟩ p hil)
            have hgt := HGE.out p (Nat.le_refl _) hil
            have hm2 := HM2.out (Nat.le_refl _)
            clear HLT HGE
            generalize Ob.it s p = x at *
            obtain ⟨xd, kk', ls', da'⟩ := x
            simp only at *
            have n0 := (st.b.bo.cell 0).trans (rfl : _ = some (Value.int .i64 kk))
            have n1 := (st.b.bo.cell 1).trans (rfl : _ = some (Value.slice Al ls.length kl))
            have n2 := (st.b.bo.cell 2).trans (rfl : _ = some (Value.slice Ad da.length kd))
            have nl := st.b.bo.lt
            have q0 := (st.out.cell 0).trans (rfl : _ = some (Value.slice Ao m co))
            have ql := st.out.lt
            have e0 := (st.b.bel.cell (p := ⟨b, off + p * 4, none⟩) hb).trans d0
            have hbw' : b < wo.heap.size := Nat.lt_of_lt_of_le hb st.b.bel.size
            have hsv : SV (wo.alloc (.cells #[.int .i64 dg, .int .i64 kk, .slice Al ls.length kl, .slice Ad da.length kd] 46)) (wo.heap.size + 1) (some ⟨wo.heap.size, 0, none⟩) [.int .i64 dg, .int .i64 kk, .slice Al ls.length kl, .slice Ad da.length kd] := by
              have := SV.lit wo #[.int .i64 dg, .int .i64 kk, .slice Al ls.length kl, .slice Ad da.length kd] 46
              simpa using this
            go_wp2_with (first | (at_builtin; refine wpList_appNo _ rfl (.tmp 57) (.tmp 61) 22 rfl (g + 1) 46 i0 _ 4 64 Try.underlying22 hI0 hZ0 hZ1 hZ2 rfl (by decide) Ao m co xs rfl (st.own.alloc _) _ (some ⟨wo.heap.size, 0, none⟩) 1 1 [.int .i64 dg, .int .i64 kk, .slice Al ls.length kl, .slice Ad da.length kd] rfl rfl hsv (st_one _ _ _ _ _ _ _ _) ?ha1 ?hb1 ?hc1 ?_))
            case ha1 => unfold maxLen; omega
            case hb1 => omega
            case hc1 => exact Nat.le_trans (Nat.succ_le_of_lt st.out.lt) (size_alloc_le _ _)
            intro A4 c4 w4 hown4 hg4 _ _
            obtain ⟨gd, _, rfl, _⟩ := own_blk hown4 (by omega)
            have out4 := (st.out.alloc (.cells #[.int .i64 dg, .int .i64 kk, .slice Al ls.length kl, .slice Ad da.length kd] 46)).grown hg4 (fun e => by have := (st.own.lt _ e.symm).1; omega)
            have r5 := (out4.cell 0).trans (rfl : _ = some (Value.slice Ao m co))
            have r6 := out4.frozen 0
            have st5 := st.app (o0 := .cells #[.int .i64 dg, .int .i64 kk, .slice Al ls.length kl, .slice Ad da.length kd] 46) hg4 hown4
            have rows5 := rows.append (RowsR.one hrn)
            have v4 := (st5.b.bx.cell 0).trans (rfl : _ = some (Value.slice (some ⟨b, off, none⟩) s.length k))
            clear hown4 hg4 out4 q0 ql e0 hbw' hbx0 hxl n0 n1 n2 nl hsv
            go_wp2_with fail
            obtain ⟨w5, hw5⟩ : ∃ w5 : World, w5 = w4.setCell ⟨g, 0, none⟩ (.slice (some ⟨gd, 0, none⟩) (m + 1) c4) := ⟨_, rfl⟩
            rw [← hw5] at st5 v4 ⊢
            clear hw5 st rows r5 r6 v4
            have q0 := (st5.out.cell 0).trans (rfl : _ = some (Value.slice (some ⟨gd, 0, none⟩) (m + 1) c4))
            have ql := st5.out.lt
            have v0 := (st5.b.bx.cell 0).trans (rfl : _ = some (Value.slice (some ⟨b, off, none⟩) s.length k))
            have vl := st5.b.bx.lt
            have e0 := (st5.b.bel.cell (p := ⟨b, off + p * 4, none⟩) hb).trans d0
            have e1 := (st5.b.bel.cell (p := ⟨b, off + p * 4 + 1, none⟩) hb).trans d1
            have e2 := (st5.b.bel.cell (p := ⟨b, off + p * 4 + 2, none⟩) hb).trans d2
            have e3 := (st5.b.bel.cell (p := ⟨b, off + p * 4 + 3, none⟩) hb).trans d3
            have hbw' : b < w5.heap.size := Nat.lt_of_lt_of_le hb st5.b.bel.size
            have h63 : (m + 1) + 1 ≤ maxLen := by unfold maxLen; omega
            have hby : ((m + 1) + 1) * 64 ≤ 140737488355328 := by omega
            clear d0 d1 d2 d3
            go_wp2_with fail
            go_region_law
              (first
                | (refine step_appNo _ rfl (.tmp 65) (.tmp 71) 22 rfl (g + 1) 46 i0 _ 4 64 Try.underlying22 hI0 hZ0 hZ1 hZ2 rfl (by decide) (some ⟨gd, 0, none⟩) (m + 1) c4 (xs ++ [.int .i64 dg, .int .i64 kk, .slice Al ls.length kl, .slice Ad da.length kd]) rfl (st5.own.alloc _).drew w5.heap.size 1 [.int .i64 xd, .int .i64 kk', .slice Al' ls'.length kl', .slice Ad' da'.length kd'] rfl rfl (fun j v hj => cells_new w5 #[.int .i64 xd, .int .i64 kk', .slice Al' ls'.length kl', .slice Ad' da'.length kd'] 46 j v hj) (st_one _ _ _ _ _ _ _ _) h63 hby (Nat.le_trans (Nat.succ_le_of_lt st5.out.lt) (size_alloc_le _ _)) ?_; intro ge ce wz hown4 hg4 hob4; have out4 := (st5.out.alloc (.cells #[.int .i64 xd, .int .i64 kk', .slice Al' ls'.length kl', .slice Ad' da'.length kd'] 46)).drew.grown hg4 (own_blk_ne st5.own st5.out hne46); have r5 := (out4.cell 0).trans (rfl : _ = some (Value.slice (some ⟨gd, 0, none⟩) (m + 1) c4)); have r6 := out4.frozen 0))
            all_goals
              have st6 := st5.app (o0 := .cells #[.int .i64 xd, .int .i64 kk', .slice Al' ls'.length kl', .slice Ad' da'.length kd'] 46) ⟨hg4.os, hg4.tape, hg4.output, hg4.size, hg4.block⟩ hown4
              have rows6 : RowsR (StR w X) (Ob.preL s ⟨dg, ⟨kk, ls, da⟩⟩ p (p + 1)) ((xs ++ [.int .i64 dg, .int .i64 kk, .slice Al ls.length kl, .slice Ad da.length kd]) ++ [.int .i64 xd, .int .i64 kk', .slice Al' ls'.length kl', .slice Ad' da'.length kd']) := by
                rw [HEQ.out]; exact rows5.append (RowsR.one hrx)
              clear hown4 hg4 hob4 out4 r5 r6
              go_wp2_with fail
              go_roundw
              case rel => exact ⟨p + 1, (m + 1) + 1, _, _, _, by omega, by rw [decide_eq_true (by omega)], by go_num, st6, rows6, by omega, Lib.hid (fun h => by omega)⟩
              case measure => simp [intOf]; omega
          · have hd : decide (p < i) = false := decide_eq_false (by omega)
            have HEQ := Lib.hid (Ob.preL_lt s ⟨dg, ⟨kk, ls, da⟩⟩ p i hc hil)
            have hgt := HLT.out i hc
            have hm2 := HM2.out (Nat.le_of_lt hc)
            clear HLT HGE
            generalize Ob.it s i = x at *
            obtain ⟨xd, kk', ls', da'⟩ := x
            simp only at *
            have q0 := (st.out.cell 0).trans (rfl : _ = some (Value.slice Ao m co))
            have ql := st.out.lt
            have v0 := (st.b.bx.cell 0).trans (rfl : _ = some (Value.slice (some ⟨b, off, none⟩) s.length k))
            have vl := st.b.bx.lt
            have e0 := (st.b.bel.cell (p := ⟨b, off + i * 4, none⟩) hb).trans d0
            have e1 := (st.b.bel.cell (p := ⟨b, off + i * 4 + 1, none⟩) hb).trans d1
            have e2 := (st.b.bel.cell (p := ⟨b, off + i * 4 + 2, none⟩) hb).trans d2
            have e3 := (st.b.bel.cell (p := ⟨b, off + i * 4 + 3, none⟩) hb).trans d3
            have hbw' : b < wo.heap.size := Nat.lt_of_lt_of_le hb st.b.bel.size
            have h63 : m + 1 ≤ maxLen := by unfold maxLen; omega
            have hby : (m + 1) * 64 ≤ 140737488355328 := by omega
            clear d0 d1 d2 d3
            go_wp2_with fail
            go_region_law
              (first
                | (refine step_appNo _ rfl (.tmp 65) (.tmp 71) 22 rfl (g + 1) 46 i0 _ 4 64 Try.underlying22 hI0 hZ0 hZ1 hZ2 rfl (by decide) Ao m co xs rfl (st.own.alloc _).drew wo.heap.size 1 [.int .i64 xd, .int .i64 kk', .slice Al' ls'.length kl', .slice Ad' da'.length kd'] rfl rfl (fun j v hj => cells_new wo #[.int .i64 xd, .int .i64 kk', .slice Al' ls'.length kl', .slice Ad' da'.length kd'] 46 j v hj) (st_one _ _ _ _ _ _ _ _) h63 hby (Nat.le_trans (Nat.succ_le_of_lt st.out.lt) (size_alloc_le _ _)) ?_; intro ge ce wz hown4 hg4 hob4; have out4 := (st.out.alloc (.cells #[.int .i64 xd, .int .i64 kk', .slice Al' ls'.length kl', .slice Ad' da'.length kd'] 46)).drew.grown hg4 (own_blk_ne st.own st.out hne46); have r5 := (out4.cell 0).trans (rfl : _ = some (Value.slice Ao m co)); have r6 := out4.frozen 0))
            all_goals
              have st6 := st.app (o0 := .cells #[.int .i64 xd, .int .i64 kk', .slice Al' ls'.length kl', .slice Ad' da'.length kd'] 46) ⟨hg4.os, hg4.tape, hg4.output, hg4.size, hg4.block⟩ hown4
              have rows6 : RowsR (StR w X) (Ob.preL s ⟨dg, ⟨kk, ls, da⟩⟩ p (i + 1)) (xs ++ [.int .i64 xd, .int .i64 kk', .slice Al' ls'.length kl', .slice Ad' da'.length kd']) := by
                rw [HEQ.out]; exact rows.append (RowsR.one hrx)
              clear hown4 hg4 hob4 out4 r5 r6
              go_wp2_with fail
              go_roundw
              case rel => exact ⟨i + 1, m + 1, _, _, _, by omega, by rw [decide_eq_false (by omega)], by go_num, st6, rows6, by omega, Lib.hid (fun h => by omega)⟩
              case measure => simp [intOf]; omega
        · obtain rfl : i = s.length := by omega
          have q0 := (st.out.cell 0).trans (rfl : _ = some (Value.slice Ao m co))
          have ql := st.out.lt
          have u0 := (st.b.r1.cell 0).trans (rfl : _ = some (Value.slice none 0 0))
          have u1 := st.b.r1.frozen 0
          have ul := st.b.r1.lt
          by_cases hc : p < s.length
          · have hd : decide (p < s.length) = true := decide_eq_true hc
            have hpe := Ob.preL_end s ⟨dg, ⟨kk, ls, da⟩⟩ p hc
            rw [hpe] at rows
            have hml : (s.take p ++ [(⟨dg, ⟨kk, ls, da⟩⟩ : Ob.S)] ++ s.drop p).length = m := by
              have h1 := rows.length StR.len; have h2 := st.own.1; omega
            have HM := Lib.hid hml
            clear hpe hml HLT HGE
            go_wp2_with fail
            have hset := st.b.r1.set_ 0 (.slice Ao m co)
            refine bodyPost_ret (results_24_t_t rfl _ _ (w.heap.size + 2) (.slice Ao m co) rfl (by simpa using hset)) rfl ?_
            rw [HP3.out]
            have hb5 := st.b.bel.setCell (p := ⟨w.heap.size + 2, 0, none⟩) (by simp) (.slice Ao m co)
            refine ⟨Ao, co, (by show _ = Ending.returned (.tuple #[stV Ao (s.take p ++ [(⟨dg, ⟨kk, ls, da⟩⟩ : Ob.S)] ++ s.drop p).length co, .int .i64 dg, .int .i64 0]); rw [HM.out]; rfl), ⟨xs, SA.of_own' (own_setCell st.own (fun e => by have h1 : g + 1 ≤ w.heap.size + 2 := (st.own.lt _ e.symm).1; have := st.hg; omega) _) (fun b hb hX => by have h1 := HXL.out b hX; have h2 := (st.own.lt b hb).1; have := st.hg; omega), rows.mono (StR.keep (Keeps.below hb5 (fun _ _ h => h)))⟩, hb5⟩
          · obtain rfl : p = s.length := by omega
            have hd : decide (s.length < s.length) = false := by simp
            have hpa := Ob.preL_all s ⟨dg, ⟨kk, ls, da⟩⟩
            have n0 := (st.b.bo.cell 0).trans (rfl : _ = some (Value.int .i64 kk))
            have n1 := (st.b.bo.cell 1).trans (rfl : _ = some (Value.slice Al ls.length kl))
            have n2 := (st.b.bo.cell 2).trans (rfl : _ = some (Value.slice Ad da.length kd))
            have nl := st.b.bo.lt
            have hsv : SV (wo.alloc (.cells #[.int .i64 dg, .int .i64 kk, .slice Al ls.length kl, .slice Ad da.length kd] 46)) (wo.heap.size + 1) (some ⟨wo.heap.size, 0, none⟩) [.int .i64 dg, .int .i64 kk, .slice Al ls.length kl, .slice Ad da.length kd] := by
              have := SV.lit wo #[.int .i64 dg, .int .i64 kk, .slice Al ls.length kl, .slice Ad da.length kd] 46
              simpa using this
            have HPA := Lib.hid hpa
            clear hpa HLT HGE
            go_wp2_with (first | (at_builtin; refine wpList_appNo _ rfl (.tmp 77) (.tmp 81) 22 rfl (g + 1) 46 i0 _ 4 64 Try.underlying22 hI0 hZ0 hZ1 hZ2 rfl (by decide) Ao m co xs rfl (st.own.alloc _) _ (some ⟨wo.heap.size, 0, none⟩) 1 1 [.int .i64 dg, .int .i64 kk, .slice Al ls.length kl, .slice Ad da.length kd] rfl rfl hsv (st_one _ _ _ _ _ _ _ _) ?ha2 ?hb2 ?hc2 ?_))
            case ha2 => unfold maxLen; omega
            case hb2 => omega
            case hc2 => exact Nat.le_trans (Nat.succ_le_of_lt st.out.lt) (size_alloc_le _ _)
            intro A4 c4 w4 hown4 hg4 _ _
            obtain ⟨gd, _, rfl, _⟩ := own_blk hown4 (by omega)
            have out4 := (st.out.alloc (.cells #[.int .i64 dg, .int .i64 kk, .slice Al ls.length kl, .slice Ad da.length kd] 46)).grown hg4 (fun e => by have := (st.own.lt _ e.symm).1; omega)
            have r5 := (out4.cell 0).trans (rfl : _ = some (Value.slice Ao m co))
            have r6 := out4.frozen 0
            have r7 := out4.lt
            have st5 := st.app (o0 := .cells #[.int .i64 dg, .int .i64 kk, .slice Al ls.length kl, .slice Ad da.length kd] 46) hg4 hown4
            have rows5 := rows.append (RowsR.one hrn)
            rw [HPA.out] at rows5
            have hml : (s.take s.length ++ [(⟨dg, ⟨kk, ls, da⟩⟩ : Ob.S)] ++ s.drop s.length).length = m + 1 := by
              have h1 := rows5.length StR.len; have h2 := st5.own.1; omega
            have HM := Lib.hid hml
            have z0 := ((st.b.r1.alloc (.cells #[.int .i64 dg, .int .i64 kk, .slice Al ls.length kl, .slice Ad da.length kd] 46)).grown hg4 (fun e => by have := (st.own.lt _ e.symm).1; have := st.hg; omega)).cell 0
            have z1 := ((st.b.r1.alloc (.cells #[.int .i64 dg, .int .i64 kk, .slice Al ls.length kl, .slice Ad da.length kd] 46)).grown hg4 (fun e => by have := (st.own.lt _ e.symm).1; have := st.hg; omega)).frozen 0
            simp only [List.getElem?_toArray, List.getElem?_cons_zero] at z0
            have hgne : w.heap.size + 2 ≠ g := by have := st.hg; omega
            clear hown4 hg4 out4 q0 ql hbx0 hxl n0 n1 n2 nl hsv hml u0 u1 ul rows
            go_wp2_with fail
            have hset := st5.b.r1.set_ 0 (.slice (some ⟨gd, 0, none⟩) (m + 1) c4)
            refine bodyPost_ret (results_24_t_t rfl _ _ (w.heap.size + 2) (.slice (some ⟨gd, 0, none⟩) (m + 1) c4) rfl (by simpa using hset)) rfl ?_
            rw [HP3.out]
            have hb5 := st5.b.bel.setCell (p := ⟨w.heap.size + 2, 0, none⟩) (by simp) (.slice (some ⟨gd, 0, none⟩) (m + 1) c4)
            refine ⟨some ⟨gd, 0, none⟩, c4, (by show _ = Ending.returned (.tuple #[stV (some ⟨gd, 0, none⟩) (s.take s.length ++ [(⟨dg, ⟨kk, ls, da⟩⟩ : Ob.S)] ++ s.drop s.length).length c4, .int .i64 dg, .int .i64 0]); rw [HM.out]; rfl), ⟨_, SA.of_own' (own_setCell st5.own (fun e => by have h1 : g + 1 ≤ w.heap.size + 2 := (st5.own.lt _ e.symm).1; have := st5.hg; omega) _) (fun b hb hX => by have h1 := HXL.out b hX; have h2 := (st5.own.lt b hb).1; have := st5.hg; omega), rows5.mono (StR.keep (Keeps.below hb5 (fun _ _ h => h)))⟩, hb5⟩
end Go.Proofs.Ytiilhnfdlpgllaa
