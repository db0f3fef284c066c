/-
  Objects: walk of the reference's 'PutObject'.
  File trees: walk of 'At'.
  File trees in stores: one step of writing, and what a digest finds. No program in sight.
  File trees: the state of 'Write'.
  File trees: walks of 'paths' and 'Paths'.
-/
import Derived.Test.YtjljknocnebnaaaDoorG06
import Derived.Test.YtjljknocnebnaaaDoorG08
import Derived.Test.YtjljknocnebnaaaDoorG07
import Derived.Test.YtjljknocnebnaaaDoorG02
namespace Ob
/-- What 'PutObject' answers: the store, the digest, a code. -/
def putR (s : List S) (o : O) : List S × Int × Int :=
  if fnd s (dig o) = true then if Go.Proofs.YtjljknocnebnaaaDoor.eqO (it s (lb s (dig o))).ob o = true then (s, dig o, 0) else ([], 0, 19)
  else if 40 ≤ s.length then ([], 0, 14) else (addS s (dig o) o, dig o, 0)
/-- The list ahead of place i, the new one put in at p. -/
def preL (s : List S) (x : S) (p i : Nat) : List S := if p < i then s.take p ++ [x] ++ (s.drop p).take (i - p) else s.take i
theorem preL_zero (s : List S) (x : S) (p : Nat) : preL s x p 0 = [] := by unfold preL; rw [if_neg (by omega)]; simp
theorem preL_lt (s : List S) (x : S) (p i : Nat) (h : i < p) (hi : i < s.length) : preL s x p (i + 1) = preL s x p i ++ [it s i] := by
  unfold preL
  rw [if_neg (by omega), if_neg (by omega), List.take_succ_eq_append_getElem hi, it_eq s i hi]
theorem preL_at (s : List S) (x : S) (p : Nat) (hi : p < s.length) : preL s x p (p + 1) = preL s x p p ++ [x] ++ [it s p] := by
  unfold preL
  rw [if_pos (by omega), if_neg (by omega), show p + 1 - p = 1 by omega, List.drop_eq_getElem_cons hi, it_eq s p hi]
  simp
theorem preL_gt (s : List S) (x : S) (p i : Nat) (h : p < i) (hi : i < s.length) : preL s x p (i + 1) = preL s x p i ++ [it s i] := by
  unfold preL
  rw [if_pos (by omega), if_pos h, show i + 1 - p = (i - p) + 1 by omega, List.take_succ_eq_append_getElem (by simp; omega), ← it_eq s i hi]
  simp only [List.append_assoc, List.getElem_drop]
  congr 4
  simp only [show p + (i - p) = i by omega]
theorem preL_end (s : List S) (x : S) (p : Nat) (h : p < s.length) : preL s x p s.length = s.take p ++ [x] ++ s.drop p := by
  unfold preL
  rw [if_pos h, show s.length - p = (s.drop p).length by simp, List.take_length]
theorem preL_all (s : List S) (x : S) : preL s x s.length s.length ++ [x] = s.take s.length ++ [x] ++ s.drop s.length := by
  unfold preL
  rw [if_neg (by omega)]
  simp
theorem preL_length (s : List S) (x : S) (p i : Nat) (hi : i ≤ s.length) : (preL s x p i).length = if p < i then i + 1 else i := by
  unfold preL
  split <;> simp <;> omega
end Ob
namespace Go.Proofs.YtjljknocnebnaaaDoor
open Go.RowKit Go.V
set_option linter.unusedVariables false

theorem results_24_t_t {fn : Func} {a t u : Tmp} (h : fn.results = #[.cell a 24, .tmp t, .tmp u]) (tmps : Array Value) (w : World) (g : Nat) (x : Value) (ha : tmps.getD a undef = .pointer (some ⟨g, 0, none⟩))
    (hb : Blk w g 24 #[x]) : (results fn tmps).run Tryd.prog w = .ok (.tuple #[.agg #[x], tmps.getD t undef, tmps.getD u undef]) w := by
  have h0 := hb.cell 0
  simp only [List.getElem?_toArray, List.getElem?_cons_zero] at h0
  have ha' : tmps[a]?.getD undef = .pointer (some ⟨g, 0, none⟩) := by simpa using ha
  simp [results, h, go_sem, ha', h0]
/-- What 'PutObject' answers. -/
def PoPost (w : World) (X : Nat → Prop) (r : List Ob.S × Int × Int) (e : Ending) (w' : World) : Prop := ∃ A c, e = .returned (.tuple #[stV A r.1.length c, .int .i64 r.2.1, .int .i64 r.2.2]) ∧ StV w' X A r.1 ∧ Below w.heap.size w w'
theorem PoPost.no {w w' : World} {X : Nat → Prop} {r : List Ob.S × Int × Int} {c : Int} (h : r = ([], 0, c)) (hb : Below w.heap.size w w') : PoPost w X r (.returned (.tuple #[.agg #[.slice none 0 0], .int .i64 0, .int .i64 c])) w' := by
  subst h; exact ⟨none, 0, rfl, ⟨[], SA.nil, rfl⟩, hb⟩
/-- The boxes of 'PutObject'. -/
structure PoB (w wr : World) (A : Option Addr) (n k : Nat) (ov : Array Value) : Prop where
  bx : Blk wr w.heap.size 24 #[.slice A n k]
  bo : Blk wr (w.heap.size + 1) 54 ov
  r1 : Blk wr (w.heap.size + 2) 24 #[.slice none 0 0]
  bel : Below w.heap.size w wr
/-- .. and the list that it makes. -/
structure PoSt (w wr : World) (g : Nat) (A : Option Addr) (n k : Nat) (ov : Array Value) (Ao : Option Addr) (m co : Nat) (xs : List Value) : Prop where
  b : PoB w wr A n k ov
  out : Blk wr g 24 #[.slice Ao m co]
  own : wr.ownsRow (g + 1) 66 4 (.slice Ao m co) m xs
  hg : w.heap.size + 3 ≤ g
section
variable {w wr w' : World} {g : Nat} {A : Option Addr} {n k : Nat} {ov : Array Value} {Ao : Option Addr} {m co : Nat} {xs : List Value}
theorem PoB.below (h : PoB w wr A n k ov) (hb : Below wr.heap.size wr w') : PoB w w' A n k ov :=
  ⟨h.bx.below hb h.bx.lt, h.bo.below hb h.bo.lt, h.r1.below hb h.r1.lt, h.bel.trans (hb.mono h.bel.size)⟩
theorem PoSt.below (h : PoSt w wr g A n k ov Ao m co xs) (hb : Below wr.heap.size wr w') : PoSt w w' g A n k ov Ao m co xs :=
  ⟨h.b.below hb, h.out.below hb h.out.lt, h.own.kept (only_of_below hb none) (by cases hv : (Value.slice Ao m co).ownBlock <;> simp), h.hg⟩
theorem PoSt.app (h : PoSt w wr g A n k ov Ao m co xs) {o0 : Obj} {w4 : World} {gd c' : Nat} {news : List Value} (hg : (wr.alloc o0).grownBy w4 (Value.slice Ao m co).ownBlock)
    (hown : w4.ownsRow (g + 1) 66 4 (.slice (some ⟨gd, 0, none⟩) (m + 1) c') (m + 1) (xs ++ news)) : PoSt w (w4.setCell ⟨g, 0, none⟩ (.slice (some ⟨gd, 0, none⟩) (m + 1) c')) g A n k ov (some ⟨gd, 0, none⟩) (m + 1) c' (xs ++ news) := by
  have own3 := h.own.alloc o0
  have hgg := h.hg
  have f : ∀ {b : Nat} {t : TypeId} {cs : Array Value}, Blk wr b t cs → b < g → Blk (w4.setCell ⟨g, 0, none⟩ (.slice (some ⟨gd, 0, none⟩) (m + 1) c')) b t cs := fun hb hlt =>
    (((hb.alloc o0).grown hg (fun e => by have := (own3.lt _ e.symm).1; omega)).far (by simp; omega) _)
  have out4 := (h.out.alloc o0).grown hg (fun e => by have := (own3.lt _ e.symm).1; omega)
  refine ⟨⟨f h.b.bx (by omega), f h.b.bo (by omega), f h.b.r1 (by omega), ?_⟩, by simpa using out4.set_ 0 (.slice (some ⟨gd, 0, none⟩) (m + 1) c'), own_setCell hown (fun e => by have := (hown.lt _ e.symm).1; simp at this; omega) _, h.hg⟩
  refine Below.setCell ?_ (by simp; omega) _
  exact (h.b.bel.alloc h.b.bel.size o0).grown hg (by have := h.b.bel.size; simp; omega) (fun b hb => by have := (own3.lt b hb).1; omega)
end
set_option maxRecDepth 100000 in
set_option maxHeartbeats 16000000 in
theorem putObject_any (w : World) (A : Option Addr) (k : Nat) (s : List Ob.S) (o : Ob.O) (Al : Option Addr) (kl : Nat) (Ad : Option Addr) (kd : Nat) (hv : StV w Free A s) (hok : Ob.StOk s) (ho : ObA w Free o Al kl Ad kd) (hobk : Ob.Ok o)
    (X : Nat → Prop) (hvX : StV w X A s) (hoX : ObA w X o Al kl Ad kd) (hXlt : ∀ b, X b → b < w.heap.size) :
    Calls Tryd.prog 29 #[stV A s.length k, obV o Al kl Ad kd] w (PoPost w X (Ob.putR s o)) := by
  obtain ⟨i0, hI0, hZ0, hZ1, hZ2⟩ := info_parts info46
  have HV := Lib.hid (fun (w1 : World) (hb : Below w.heap.size w w1) => hv.keep (free_below hb))
  have HO := Lib.hid (fun (w1 : World) (hb : Below w.heap.size w w1) => ho.keep (free_below hb))
  have hsl := hok.len
  have hsrt := hok.sorted
  have HPR := Lib.hid (Ob.putR.eq_1 s o)
  have HDG := Lib.hid (fun (w1 : World) (hb : Below w.heap.size w w1) => objDigest_any w1 o Al kl Ad kd (HO.out _ hb) hobk)
  have hdl := Ob.dig_lt o
  have HAT := Lib.hid (fun (w1 : World) (hb : Below w.heap.size w w1) d => at_any w1 A k s d (HV.out _ hb) (by omega))
  have HATS := Lib.hid (Ob.at_sorted hsrt ((Ob.dig o : Nat) : Int))
  have HSX := Lib.hid hsrt
  have HVX := Lib.hid hvX
  have HOX := Lib.hid hoX
  have HXL := Lib.hid hXlt
  clear hv ho hok hobk hsrt hvX hoX hXlt
  generalize hr : Ob.putR s o = r at *
  clear hr
  generalize hdg : ((Ob.dig o : Nat) : Int) = dg at *
  have hd64 : I64 dg := by rw [← hdg]; unfold I64; omega
  clear hdl hdg
  obtain ⟨kk, ls, da⟩ := o
  have st0 : PoB w (((w.alloc (.cells #[.slice A s.length k] 24)).alloc (.cells #[.int .i64 kk, .slice Al ls.length kl, .slice Ad da.length kd] 54)).alloc (.cells #[.slice none 0 0] 24)) A s.length k #[.int .i64 kk, .slice Al ls.length kl, .slice Ad da.length kd] :=
    ⟨((Blk.new _ _ _).alloc _).alloc _, (blk_new1 _ _ _ _).alloc _, blk_new2 _ _ _ _ _, below_alloc3 _ _ _ _⟩
  go_enter Tryd.func29, Tryd.ntmps29
  go_wp2_with fail
  go_at_call 30
  refine (HDG.out _ st0.bel).mono ?_
  rintro e w1 ⟨rfl, hb1⟩
  have st1 := st0.below hb1
  have p0 := st1.bx.cell 0
  have pl := st1.bx.lt
  simp only [List.getElem?_toArray, List.getElem?_cons_zero] at p0
  clear hb1 HDG st0
  go_wp2_with fail
  go_at_call 35
  refine (HAT.out _ st1.bel dg).mono ?_
  rintro e w2 ⟨rfl, hb2⟩
  rw [HATS.out]
  have st2 := st1.below hb2
  clear hb2 HAT HATS st1 p0 pl
  have p0 := st2.bx.cell 0
  have x0 := st2.bo.cell 0
  have x1 := st2.bo.cell 1
  have x2 := st2.bo.cell 2
  have r0 := st2.r1.cell 0
  have r1 := st2.r1.frozen 0
  have l0 := st2.bx.lt
  have l1 := st2.bo.lt
  have l2 := st2.r1.lt
  simp only [List.getElem?_toArray, List.getElem?_cons_zero, List.getElem?_cons_succ] at p0 x0 x1 x2 r0
  by_cases hf : Ob.fnd s dg = true
  · rw [if_pos hf]
    have hpl : Ob.lb s dg < s.length := by
      have h := hf; unfold Ob.fnd at h; rw [Bool.and_eq_true] at h; simpa using h.1
    have HP2 := Lib.hid (HPR.out.trans (if_pos hf))
    obtain ⟨b, off, Al', kl', Ad', kd', e, hb, _, d0, d1, d2, d3, _, hob⟩ := (HV.out _ st2.bel).row _ hpl
    subst e
    have hk0 : Below w2.heap.size w2 w2.drew := below_drew' (Below.refl _ _)
    have HOB := Lib.hid (objects_any w2.drew (Ob.it s (Ob.lb s dg)).ob ⟨kk, ls, da⟩ Al' kl' Ad' kd' Al kl Ad kd (hob.keep (free_below hk0)) (HO.out _ (st2.bel.trans (hk0.mono st2.bel.size))))
    have HVS := Lib.hid (fun (w' : World) (hb : Below w.heap.size w w') => HVX.out.keep (X' := X) (Keeps.below hb (fun _ _ h => h)))
    clear hob hf HPR HV HO
    generalize hxx : Ob.it s (Ob.lb s dg) = x at *
    clear hxx
    generalize hq : eqO x.ob ⟨kk, ls, da⟩ = q at *
    have HQ := Lib.hid hq
    clear hq
    generalize Ob.lb s dg = p at *
    obtain ⟨xd, kk', ls', da'⟩ := x
    simp only at *
    have hpi : (p : Int) < s.length := by omega
    have hp0 : (0 : Int) ≤ p := by omega
    have HK : Hid (∀ w6 : World, Below w2.heap.size w2 w6 → w6.cell? ⟨w.heap.size, 0, none⟩ = some (.slice (some ⟨b, off, none⟩) s.length k) ∧ w6.cell? ⟨w.heap.size + 1, 0, none⟩ = some (.int .i64 kk) ∧ w6.cell? ⟨w.heap.size + 1, 1, none⟩ = some (.slice Al ls.length kl) ∧ w6.cell? ⟨w.heap.size + 1, 2, none⟩ = some (.slice Ad da.length kd) ∧
        w6.cell? ⟨b, off + p * 4 + 1, none⟩ = some (.int .i64 kk') ∧ w6.cell? ⟨b, off + p * 4 + 1 + 1, none⟩ = some (.slice Al' ls'.length kl') ∧ w6.cell? ⟨b, off + p * 4 + 1 + 2, none⟩ = some (.slice Ad' da'.length kd')) := Lib.hid fun w6 h6 =>
      ⟨(h6.cell (p := ⟨_, _, none⟩) l0).trans p0, (h6.cell (p := ⟨_, _, none⟩) l1).trans x0, (h6.cell (p := ⟨_, _, none⟩) l1).trans x1, (h6.cell (p := ⟨_, _, none⟩) l1).trans x2, (h6.cell (p := ⟨_, _, none⟩) hb).trans d1, (h6.cell (p := ⟨_, _, none⟩) hb).trans d2, (h6.cell (p := ⟨_, _, none⟩) hb).trans d3⟩
    clear d0 d1 d2 d3
    go_wp2_with fail
    go_region_held3 (fun w6 => w6.cell? ⟨w.heap.size, 0, none⟩ = some (.slice (some ⟨b, off, none⟩) s.length k) ∧ w6.cell? ⟨w.heap.size + 1, 0, none⟩ = some (.int .i64 kk) ∧ w6.cell? ⟨w.heap.size + 1, 1, none⟩ = some (.slice Al ls.length kl) ∧ w6.cell? ⟨w.heap.size + 1, 2, none⟩ = some (.slice Ad da.length kd) ∧
        w6.cell? ⟨b, off + p * 4 + 1, none⟩ = some (.int .i64 kk') ∧ w6.cell? ⟨b, off + p * 4 + 1 + 1, none⟩ = some (.slice Al' ls'.length kl') ∧ w6.cell? ⟨b, off + p * 4 + 1 + 2, none⟩ = some (.slice Ad' da'.length kd'))
      (first | exact HK.out _ hk0 | exact HK.out _ hk3)
      (first | (go_at_call 31; (with_reducible refine HOB.out.mono ?_); rintro e w3 ⟨rfl, hb3⟩; have hk3 : Below w2.heap.size w2 w3 := hk0.trans (hb3.mono hk0.size)))
    have st3 := st2.below hk3
    have p03 := st3.bx.cell 0
    have r03 := st3.r1.cell 0
    have r13 := st3.r1.frozen 0
    have m0 := st3.bx.lt
    have m2 := st3.r1.lt
    simp only [List.getElem?_toArray, List.getElem?_cons_zero] at p03 r03
    clear HK hk0 HOB hb3 hk3 st2 p0 x0 x1 x2 r0 r1 l0 l1 l2
    cases q
    · have HR : Hid (∀ w', Below w.heap.size w w' → PoPost w X r (.returned (.tuple #[.agg #[.slice none 0 0], .int .i64 0, .int .i64 19])) w') := Lib.hid fun w' hb => PoPost.no (HP2.out.trans (if_neg (by simp))) hb
      clear HP2
      generalize PoPost w X r = R at *
      go_wp2_with fail
      refine bodyPost_ret (results_24_t_t rfl _ _ (w.heap.size + 2) (.slice none 0 0) rfl (by simpa using st3.r1.set_ 0 (.slice none 0 0))) rfl ?_
      exact HR.out _ (st3.bel.setCell (by simp <;> omega) _)
    · have H := Lib.hid (HP2.out.trans (if_pos rfl))
      clear HP2
      go_wp2_with fail
      refine bodyPost_ret (results_24_t_t rfl _ _ (w.heap.size + 2) (.slice (some ⟨b, off, none⟩) s.length k) rfl (by simpa using st3.r1.set_ 0 (.slice (some ⟨b, off, none⟩) s.length k))) rfl ?_
      rw [H.out]
      have hb5 := st3.bel.setCell (p := ⟨w.heap.size + 2, 0, none⟩) (by simp) (.slice (some ⟨b, off, none⟩) s.length k)
      exact ⟨_, k, rfl, HVS.out _ hb5, hb5⟩
  · --NOTFOUND
    rw [if_neg hf]
    have hff : Ob.fnd s dg = false := by simpa using hf
    have HP2 := Lib.hid (HPR.out.trans (if_neg hf))
    have HAS := Lib.hid (show Ob.addS s dg ⟨kk, ls, da⟩ = s.take (Ob.lb s dg) ++ [⟨dg, ⟨kk, ls, da⟩⟩] ++ s.drop (Ob.lb s dg) from by unfold Ob.addS; rw [hff]; rfl)
    have HLT := Lib.hid (fun i (hi : i < Ob.lb s dg) => Ob.lb_lt HSX.out dg i hi)
    have HGE := Lib.hid (fun i (hi : Ob.lb s dg ≤ i) (hil : i < s.length) => show dg < (Ob.it s i).dig from by
      have h1 := Ob.lb_ge HSX.out dg i hi hil
      have h2 : (Ob.it s i).dig ≠ dg := fun e => by
        have hlb : Ob.lb s dg = i := Ob.lb_eq s dg i (by omega) (fun j hj => by have := HSX.out.mono hj hil; omega) (fun j hj hjl => by have := HSX.out.le hj hjl; omega)
        apply hf; unfold Ob.fnd; rw [hlb, decide_eq_true hil, decide_eq_true e]; rfl
      omega)
    have hple := Ob.lb_le s dg
    clear hf hff HPR HSX
    by_cases h40 : 40 ≤ s.length
    · have HR : Hid (∀ w', Below w.heap.size w w' → PoPost w X r (.returned (.tuple #[.agg #[.slice none 0 0], .int .i64 0, .int .i64 14])) w') := Lib.hid fun w' hb => PoPost.no (HP2.out.trans (if_pos h40)) hb
      have h40' : (40 : Int) ≤ s.length := by omega
      clear HP2 h40 HAS HLT HGE hple HV HO
      generalize PoPost w X r = R at *
      generalize Ob.lb s dg = p at *
      go_wp2_with fail
      refine bodyPost_ret (results_24_t_t rfl _ _ (w.heap.size + 2) (.slice none 0 0) rfl (by simpa using st2.r1.set_ 0 (.slice none 0 0))) rfl ?_
      exact HR.out _ (st2.bel.setCell (by simp <;> omega) _)
    · have h40' : (s.length : Int) < 40 := by omega
      have HP3 := Lib.hid (HP2.out.trans (if_neg h40))
      rw [HAS.out] at HP3
      have hrn : StR w X ⟨dg, ⟨kk, ls, da⟩⟩ [.int .i64 dg, .int .i64 kk, .slice Al ls.length kl, .slice Ad da.length kd] := ⟨Al, kl, Ad, kd, rfl, hd64, HOX.out⟩
      have HRW := Lib.hid HVX.out.row
      have hb3 := below_alloc1 w2 (.cells #[.slice none 0 0] 24)
      have b3 := st2.below hb3
      have st3 : PoSt w (w2.alloc (.cells #[.slice none 0 0] 24)) w2.heap.size A s.length k #[.int .i64 kk, .slice Al ls.length kl, .slice Ad da.length kd] none 0 0 [] := ⟨b3, Blk.new _ _ _, World.ownsRow_nil _ _ _ _, l2⟩
      clear HP2 HAS HV HO hb3 b3 st2 x0 x1 x2 r0 r1
      generalize Ob.lb s dg = p at *
      have rows0 : RowsR (StR w X) (Ob.preL s ⟨dg, ⟨kk, ls, da⟩⟩ p 0) [] := by rw [Ob.preL_zero]; rfl
      have hp0 : decide (p < 0) = false := by simp
      go_wp2_with fail
      obtain ⟨g, hg⟩ : ∃ g, g = w2.heap.size := ⟨_, rfl⟩
      rw [← hg] at st3 ⊢
      clear hg
      go_loopw [10, 11] (fun pv iv wr => ∃ (i m : Nat) (Ao : Option Addr) (co : Nat) (xs : List Value), i ≤ s.length ∧ pv = .bool (decide (p < i)) ∧ iv = .int .i64 i ∧ PoSt w wr g A s.length k #[.int .i64 kk, .slice Al ls.length kl, .slice Ad da.length kd] Ao m co xs ∧ RowsR (StR w X) (Ob.preL s ⟨dg, ⟨kk, ls, da⟩⟩ p i) xs ∧ m ≤ i + 1 ∧ Hid (i ≤ p → m ≤ i)) (fun _ iv _ => s.length - (intOf iv).toNat)
      case atStart => exact ⟨0, 0, none, 0, [], Nat.zero_le _, by rw [hp0], rfl, st3, rows0, by omega, Lib.hid (fun _ => Nat.le_refl _)⟩
      case round =>
        obtain ⟨i, m, Ao, co, xs, hi, rfl, rfl, st, rows, hm, HM2⟩ := hrel
        obtain ⟨wo, rfl⟩ : ∃ wo : World, wo = wr := ⟨_, rfl⟩
        clear st3 rows0 hp0
        have hbx0 := (st.b.bx.cell 0).trans (rfl : _ = some (Value.slice A s.length k))
        have hxl := st.b.bx.lt
        by_cases hil : i < s.length
        · have hil' : (i : Int) < s.length := by omega
          have hi0 : (0 : Int) ≤ i := by omega
          obtain ⟨b, off, Al', kl', Ad', kd', e, hb, _, d0, d1, d2, d3, hx64, hob⟩ := HRW.out i hil
          subst e
          have hrx : StR w X (Ob.it s i) [.int .i64 (Ob.it s i).dig, .int .i64 (Ob.it s i).ob.kind, .slice Al' (Ob.it s i).ob.links.length kl', .slice Ad' (Ob.it s i).ob.data.length kd'] := ⟨Al', kl', Ad', kd', rfl, hx64, hob⟩
          clear hob hx64
          rcases Nat.lt_trichotomy p i with hc | hc | hc
          · have hd : decide (p < i) = true := decide_eq_true hc
            have HEQ := Lib.hid (Ob.preL_gt s ⟨dg, ⟨kk, ls, da⟩⟩ p i hc hil)
            clear HLT HGE
            generalize Ob.it s i = x at *
            obtain ⟨xd, kk', ls', da'⟩ := x
            simp only at *
            have q0 := (st.out.cell 0).trans (rfl : _ = some (Value.slice Ao m co))
            have ql := st.out.lt
            have v0 := (st.b.bx.cell 0).trans (rfl : _ = some (Value.slice (some ⟨b, off, none⟩) s.length k))
            have vl := st.b.bx.lt
            have e0 := (st.b.bel.cell (p := ⟨b, off + i * 4, none⟩) hb).trans d0
            have e1 := (st.b.bel.cell (p := ⟨b, off + i * 4 + 1, none⟩) hb).trans d1
            have e2 := (st.b.bel.cell (p := ⟨b, off + i * 4 + 2, none⟩) hb).trans d2
            have e3 := (st.b.bel.cell (p := ⟨b, off + i * 4 + 3, none⟩) hb).trans d3
            have hbw' : b < wo.heap.size := Nat.lt_of_lt_of_le hb st.b.bel.size
            have h63 : m + 1 ≤ maxLen := by unfold maxLen; omega
            have hby : (m + 1) * 64 ≤ 140737488355328 := by omega
            clear d0 d1 d2 d3
            go_wp2_with fail
            go_region_law
              (first
                | (refine step_appNo _ rfl (.tmp 65) (.tmp 71) 22 rfl (g + 1) 66 i0 _ 4 64 Tryd.underlying22 hI0 hZ0 hZ1 hZ2 rfl (by decide) Ao m co xs rfl (st.own.alloc _).drew wo.heap.size 1 [.int .i64 xd, .int .i64 kk', .slice Al' ls'.length kl', .slice Ad' da'.length kd'] rfl rfl (fun j v hj => cells_new wo #[.int .i64 xd, .int .i64 kk', .slice Al' ls'.length kl', .slice Ad' da'.length kd'] 66 j v hj) (st_one _ _ _ _ _ _ _ _) h63 hby (Nat.le_trans (Nat.succ_le_of_lt st.out.lt) (size_alloc_le _ _)) ?_; intro ge ce wz hown4 hg4 hob4; have out4 := (st.out.alloc (.cells #[.int .i64 xd, .int .i64 kk', .slice Al' ls'.length kl', .slice Ad' da'.length kd'] 66)).drew.grown hg4 (own_blk_ne st.own st.out hne46); have r5 := (out4.cell 0).trans (rfl : _ = some (Value.slice Ao m co)); have r6 := out4.frozen 0))
            all_goals
              have st6 := st.app (o0 := .cells #[.int .i64 xd, .int .i64 kk', .slice Al' ls'.length kl', .slice Ad' da'.length kd'] 66) ⟨hg4.os, hg4.tape, hg4.output, hg4.size, hg4.block⟩ hown4
              have rows6 : RowsR (StR w X) (Ob.preL s ⟨dg, ⟨kk, ls, da⟩⟩ p (i + 1)) (xs ++ [.int .i64 xd, .int .i64 kk', .slice Al' ls'.length kl', .slice Ad' da'.length kd']) := by
                rw [HEQ.out]; exact rows.append (RowsR.one hrx)
              clear hown4 hg4 hob4 out4 r5 r6
              go_wp2_with fail
              go_roundw
              case rel => exact ⟨i + 1, m + 1, _, _, _, by omega, by rw [decide_eq_true (by omega)], by go_num, st6, rows6, by omega, Lib.hid (fun h => by omega)⟩
              case measure => simp [intOf]; omega
          · subst hc
            have hd : decide (p < p) = false := by simp
            have HEQ := Lib.hid (Ob.preL_at s ⟨dg, ⟨kk, ls, da⟩⟩ p hil)
            have hgt := HGE.out p (Nat.le_refl _) hil
            have hm2 := HM2.out (Nat.le_refl _)
            clear HLT HGE
            generalize Ob.it s p = x at *
            obtain ⟨xd, kk', ls', da'⟩ := x
            simp only at *
            have n0 := (st.b.bo.cell 0).trans (rfl : _ = some (Value.int .i64 kk))
            have n1 := (st.b.bo.cell 1).trans (rfl : _ = some (Value.slice Al ls.length kl))
            have n2 := (st.b.bo.cell 2).trans (rfl : _ = some (Value.slice Ad da.length kd))
            have nl := st.b.bo.lt
            have q0 := (st.out.cell 0).trans (rfl : _ = some (Value.slice Ao m co))
            have ql := st.out.lt
            have e0 := (st.b.bel.cell (p := ⟨b, off + p * 4, none⟩) hb).trans d0
            have hbw' : b < wo.heap.size := Nat.lt_of_lt_of_le hb st.b.bel.size
            have hsv : SV (wo.alloc (.cells #[.int .i64 dg, .int .i64 kk, .slice Al ls.length kl, .slice Ad da.length kd] 66)) (wo.heap.size + 1) (some ⟨wo.heap.size, 0, none⟩) [.int .i64 dg, .int .i64 kk, .slice Al ls.length kl, .slice Ad da.length kd] := by
              have := SV.lit wo #[.int .i64 dg, .int .i64 kk, .slice Al ls.length kl, .slice Ad da.length kd] 66
              simpa using this
            go_wp2_with (first | (at_builtin; refine wpList_appNo _ rfl (.tmp 57) (.tmp 61) 22 rfl (g + 1) 66 i0 _ 4 64 Tryd.underlying22 hI0 hZ0 hZ1 hZ2 rfl (by decide) Ao m co xs rfl (st.own.alloc _) _ (some ⟨wo.heap.size, 0, none⟩) 1 1 [.int .i64 dg, .int .i64 kk, .slice Al ls.length kl, .slice Ad da.length kd] rfl rfl hsv (st_one _ _ _ _ _ _ _ _) ?ha1 ?hb1 ?hc1 ?_))
            case ha1 => unfold maxLen; omega
            case hb1 => omega
            case hc1 => exact Nat.le_trans (Nat.succ_le_of_lt st.out.lt) (size_alloc_le _ _)
            intro A4 c4 w4 hown4 hg4 _ _
            obtain ⟨gd, _, rfl, _⟩ := own_blk hown4 (by omega)
            have out4 := (st.out.alloc (.cells #[.int .i64 dg, .int .i64 kk, .slice Al ls.length kl, .slice Ad da.length kd] 66)).grown hg4 (fun e => by have := (st.own.lt _ e.symm).1; omega)
            have r5 := (out4.cell 0).trans (rfl : _ = some (Value.slice Ao m co))
            have r6 := out4.frozen 0
            have st5 := st.app (o0 := .cells #[.int .i64 dg, .int .i64 kk, .slice Al ls.length kl, .slice Ad da.length kd] 66) hg4 hown4
            have rows5 := rows.append (RowsR.one hrn)
            have v4 := (st5.b.bx.cell 0).trans (rfl : _ = some (Value.slice (some ⟨b, off, none⟩) s.length k))
            clear hown4 hg4 out4 q0 ql e0 hbw' hbx0 hxl n0 n1 n2 nl hsv
            go_wp2_with fail
            obtain ⟨w5, hw5⟩ : ∃ w5 : World, w5 = w4.setCell ⟨g, 0, none⟩ (.slice (some ⟨gd, 0, none⟩) (m + 1) c4) := ⟨_, rfl⟩
            rw [← hw5] at st5 v4 ⊢
            clear hw5 st rows r5 r6 v4
            have q0 := (st5.out.cell 0).trans (rfl : _ = some (Value.slice (some ⟨gd, 0, none⟩) (m + 1) c4))
            have ql := st5.out.lt
            have v0 := (st5.b.bx.cell 0).trans (rfl : _ = some (Value.slice (some ⟨b, off, none⟩) s.length k))
            have vl := st5.b.bx.lt
            have e0 := (st5.b.bel.cell (p := ⟨b, off + p * 4, none⟩) hb).trans d0
            have e1 := (st5.b.bel.cell (p := ⟨b, off + p * 4 + 1, none⟩) hb).trans d1
            have e2 := (st5.b.bel.cell (p := ⟨b, off + p * 4 + 2, none⟩) hb).trans d2
            have e3 := (st5.b.bel.cell (p := ⟨b, off + p * 4 + 3, none⟩) hb).trans d3
            have hbw' : b < w5.heap.size := Nat.lt_of_lt_of_le hb st5.b.bel.size
            have h63 : (m + 1) + 1 ≤ maxLen := by unfold maxLen; omega
            have hby : ((m + 1) + 1) * 64 ≤ 140737488355328 := by omega
            clear d0 d1 d2 d3
            go_wp2_with fail
            go_region_law
              (first
                | (refine step_appNo _ rfl (.tmp 65) (.tmp 71) 22 rfl (g + 1) 66 i0 _ 4 64 Tryd.underlying22 hI0 hZ0 hZ1 hZ2 rfl (by decide) (some ⟨gd, 0, none⟩) (m + 1) c4 (xs ++ [.int .i64 dg, .int .i64 kk, .slice Al ls.length kl, .slice Ad da.length kd]) rfl (st5.own.alloc _).drew w5.heap.size 1 [.int .i64 xd, .int .i64 kk', .slice Al' ls'.length kl', .slice Ad' da'.length kd'] rfl rfl (fun j v hj => cells_new w5 #[.int .i64 xd, .int .i64 kk', .slice Al' ls'.length kl', .slice Ad' da'.length kd'] 66 j v hj) (st_one _ _ _ _ _ _ _ _) h63 hby (Nat.le_trans (Nat.succ_le_of_lt st5.out.lt) (size_alloc_le _ _)) ?_; intro ge ce wz hown4 hg4 hob4; have out4 := (st5.out.alloc (.cells #[.int .i64 xd, .int .i64 kk', .slice Al' ls'.length kl', .slice Ad' da'.length kd'] 66)).drew.grown hg4 (own_blk_ne st5.own st5.out hne46); have r5 := (out4.cell 0).trans (rfl : _ = some (Value.slice (some ⟨gd, 0, none⟩) (m + 1) c4)); have r6 := out4.frozen 0))
            all_goals
              have st6 := st5.app (o0 := .cells #[.int .i64 xd, .int .i64 kk', .slice Al' ls'.length kl', .slice Ad' da'.length kd'] 66) ⟨hg4.os, hg4.tape, hg4.output, hg4.size, hg4.block⟩ hown4
              have rows6 : RowsR (StR w X) (Ob.preL s ⟨dg, ⟨kk, ls, da⟩⟩ p (p + 1)) ((xs ++ [.int .i64 dg, .int .i64 kk, .slice Al ls.length kl, .slice Ad da.length kd]) ++ [.int .i64 xd, .int .i64 kk', .slice Al' ls'.length kl', .slice Ad' da'.length kd']) := by
                rw [HEQ.out]; exact rows5.append (RowsR.one hrx)
              clear hown4 hg4 hob4 out4 r5 r6
              go_wp2_with fail
              go_roundw
              case rel => exact ⟨p + 1, (m + 1) + 1, _, _, _, by omega, by rw [decide_eq_true (by omega)], by go_num, st6, rows6, by omega, Lib.hid (fun h => by omega)⟩
              case measure => simp [intOf]; omega
          · have hd : decide (p < i) = false := decide_eq_false (by omega)
            have HEQ := Lib.hid (Ob.preL_lt s ⟨dg, ⟨kk, ls, da⟩⟩ p i hc hil)
            have hgt := HLT.out i hc
            have hm2 := HM2.out (Nat.le_of_lt hc)
            clear HLT HGE
            generalize Ob.it s i = x at *
            obtain ⟨xd, kk', ls', da'⟩ := x
            simp only at *
            have q0 := (st.out.cell 0).trans (rfl : _ = some (Value.slice Ao m co))
            have ql := st.out.lt
            have v0 := (st.b.bx.cell 0).trans (rfl : _ = some (Value.slice (some ⟨b, off, none⟩) s.length k))
            have vl := st.b.bx.lt
            have e0 := (st.b.bel.cell (p := ⟨b, off + i * 4, none⟩) hb).trans d0
            have e1 := (st.b.bel.cell (p := ⟨b, off + i * 4 + 1, none⟩) hb).trans d1
            have e2 := (st.b.bel.cell (p := ⟨b, off + i * 4 + 2, none⟩) hb).trans d2
            have e3 := (st.b.bel.cell (p := ⟨b, off + i * 4 + 3, none⟩) hb).trans d3
            have hbw' : b < wo.heap.size := Nat.lt_of_lt_of_le hb st.b.bel.size
            have h63 : m + 1 ≤ maxLen := by unfold maxLen; omega
            have hby : (m + 1) * 64 ≤ 140737488355328 := by omega
            clear d0 d1 d2 d3
            go_wp2_with fail
            go_region_law
              (first
                | (refine step_appNo _ rfl (.tmp 65) (.tmp 71) 22 rfl (g + 1) 66 i0 _ 4 64 Tryd.underlying22 hI0 hZ0 hZ1 hZ2 rfl (by decide) Ao m co xs rfl (st.own.alloc _).drew wo.heap.size 1 [.int .i64 xd, .int .i64 kk', .slice Al' ls'.length kl', .slice Ad' da'.length kd'] rfl rfl (fun j v hj => cells_new wo #[.int .i64 xd, .int .i64 kk', .slice Al' ls'.length kl', .slice Ad' da'.length kd'] 66 j v hj) (st_one _ _ _ _ _ _ _ _) h63 hby (Nat.le_trans (Nat.succ_le_of_lt st.out.lt) (size_alloc_le _ _)) ?_; intro ge ce wz hown4 hg4 hob4; have out4 := (st.out.alloc (.cells #[.int .i64 xd, .int .i64 kk', .slice Al' ls'.length kl', .slice Ad' da'.length kd'] 66)).drew.grown hg4 (own_blk_ne st.own st.out hne46); have r5 := (out4.cell 0).trans (rfl : _ = some (Value.slice Ao m co)); have r6 := out4.frozen 0))
            all_goals
              have st6 := st.app (o0 := .cells #[.int .i64 xd, .int .i64 kk', .slice Al' ls'.length kl', .slice Ad' da'.length kd'] 66) ⟨hg4.os, hg4.tape, hg4.output, hg4.size, hg4.block⟩ hown4
              have rows6 : RowsR (StR w X) (Ob.preL s ⟨dg, ⟨kk, ls, da⟩⟩ p (i + 1)) (xs ++ [.int .i64 xd, .int .i64 kk', .slice Al' ls'.length kl', .slice Ad' da'.length kd']) := by
                rw [HEQ.out]; exact rows.append (RowsR.one hrx)
              clear hown4 hg4 hob4 out4 r5 r6
              go_wp2_with fail
              go_roundw
              case rel => exact ⟨i + 1, m + 1, _, _, _, by omega, by rw [decide_eq_false (by omega)], by go_num, st6, rows6, by omega, Lib.hid (fun h => by omega)⟩
              case measure => simp [intOf]; omega
        · obtain rfl : i = s.length := by omega
          have q0 := (st.out.cell 0).trans (rfl : _ = some (Value.slice Ao m co))
          have ql := st.out.lt
          have u0 := (st.b.r1.cell 0).trans (rfl : _ = some (Value.slice none 0 0))
          have u1 := st.b.r1.frozen 0
          have ul := st.b.r1.lt
          by_cases hc : p < s.length
          · have hd : decide (p < s.length) = true := decide_eq_true hc
            have hpe := Ob.preL_end s ⟨dg, ⟨kk, ls, da⟩⟩ p hc
            rw [hpe] at rows
            have hml : (s.take p ++ [(⟨dg, ⟨kk, ls, da⟩⟩ : Ob.S)] ++ s.drop p).length = m := by
              have h1 := rows.length StR.len; have h2 := st.own.1; omega
            have HM := Lib.hid hml
            clear hpe hml HLT HGE
            go_wp2_with fail
            have hset := st.b.r1.set_ 0 (.slice Ao m co)
            refine bodyPost_ret (results_24_t_t rfl _ _ (w.heap.size + 2) (.slice Ao m co) rfl (by simpa using hset)) rfl ?_
            rw [HP3.out]
            have hb5 := st.b.bel.setCell (p := ⟨w.heap.size + 2, 0, none⟩) (by simp) (.slice Ao m co)
            refine ⟨Ao, co, (by show _ = Ending.returned (.tuple #[stV Ao (s.take p ++ [(⟨dg, ⟨kk, ls, da⟩⟩ : Ob.S)] ++ s.drop p).length co, .int .i64 dg, .int .i64 0]); rw [HM.out]; rfl), ⟨xs, SA.of_own' (own_setCell st.own (fun e => by have h1 : g + 1 ≤ w.heap.size + 2 := (st.own.lt _ e.symm).1; have := st.hg; omega) _) (fun b hb hX => by have h1 := HXL.out b hX; have h2 := (st.own.lt b hb).1; have := st.hg; omega), rows.mono (StR.keep (Keeps.below hb5 (fun _ _ h => h)))⟩, hb5⟩
          · obtain rfl : p = s.length := by omega
            have hd : decide (s.length < s.length) = false := by simp
            have hpa := Ob.preL_all s ⟨dg, ⟨kk, ls, da⟩⟩
            have n0 := (st.b.bo.cell 0).trans (rfl : _ = some (Value.int .i64 kk))
            have n1 := (st.b.bo.cell 1).trans (rfl : _ = some (Value.slice Al ls.length kl))
            have n2 := (st.b.bo.cell 2).trans (rfl : _ = some (Value.slice Ad da.length kd))
            have nl := st.b.bo.lt
            have hsv : SV (wo.alloc (.cells #[.int .i64 dg, .int .i64 kk, .slice Al ls.length kl, .slice Ad da.length kd] 66)) (wo.heap.size + 1) (some ⟨wo.heap.size, 0, none⟩) [.int .i64 dg, .int .i64 kk, .slice Al ls.length kl, .slice Ad da.length kd] := by
              have := SV.lit wo #[.int .i64 dg, .int .i64 kk, .slice Al ls.length kl, .slice Ad da.length kd] 66
              simpa using this
            have HPA := Lib.hid hpa
            clear hpa HLT HGE
            go_wp2_with (first | (at_builtin; refine wpList_appNo _ rfl (.tmp 77) (.tmp 81) 22 rfl (g + 1) 66 i0 _ 4 64 Tryd.underlying22 hI0 hZ0 hZ1 hZ2 rfl (by decide) Ao m co xs rfl (st.own.alloc _) _ (some ⟨wo.heap.size, 0, none⟩) 1 1 [.int .i64 dg, .int .i64 kk, .slice Al ls.length kl, .slice Ad da.length kd] rfl rfl hsv (st_one _ _ _ _ _ _ _ _) ?ha2 ?hb2 ?hc2 ?_))
            case ha2 => unfold maxLen; omega
            case hb2 => omega
            case hc2 => exact Nat.le_trans (Nat.succ_le_of_lt st.out.lt) (size_alloc_le _ _)
            intro A4 c4 w4 hown4 hg4 _ _
            obtain ⟨gd, _, rfl, _⟩ := own_blk hown4 (by omega)
            have out4 := (st.out.alloc (.cells #[.int .i64 dg, .int .i64 kk, .slice Al ls.length kl, .slice Ad da.length kd] 66)).grown hg4 (fun e => by have := (st.own.lt _ e.symm).1; omega)
            have r5 := (out4.cell 0).trans (rfl : _ = some (Value.slice Ao m co))
            have r6 := out4.frozen 0
            have r7 := out4.lt
            have st5 := st.app (o0 := .cells #[.int .i64 dg, .int .i64 kk, .slice Al ls.length kl, .slice Ad da.length kd] 66) hg4 hown4
            have rows5 := rows.append (RowsR.one hrn)
            rw [HPA.out] at rows5
            have hml : (s.take s.length ++ [(⟨dg, ⟨kk, ls, da⟩⟩ : Ob.S)] ++ s.drop s.length).length = m + 1 := by
              have h1 := rows5.length StR.len; have h2 := st5.own.1; omega
            have HM := Lib.hid hml
            have z0 := ((st.b.r1.alloc (.cells #[.int .i64 dg, .int .i64 kk, .slice Al ls.length kl, .slice Ad da.length kd] 66)).grown hg4 (fun e => by have := (st.own.lt _ e.symm).1; have := st.hg; omega)).cell 0
            have z1 := ((st.b.r1.alloc (.cells #[.int .i64 dg, .int .i64 kk, .slice Al ls.length kl, .slice Ad da.length kd] 66)).grown hg4 (fun e => by have := (st.own.lt _ e.symm).1; have := st.hg; omega)).frozen 0
            simp only [List.getElem?_toArray, List.getElem?_cons_zero] at z0
            have hgne : w.heap.size + 2 ≠ g := by have := st.hg; omega
            clear hown4 hg4 out4 q0 ql hbx0 hxl n0 n1 n2 nl hsv hml u0 u1 ul rows
            go_wp2_with fail
            have hset := st5.b.r1.set_ 0 (.slice (some ⟨gd, 0, none⟩) (m + 1) c4)
            refine bodyPost_ret (results_24_t_t rfl _ _ (w.heap.size + 2) (.slice (some ⟨gd, 0, none⟩) (m + 1) c4) rfl (by simpa using hset)) rfl ?_
            rw [HP3.out]
            have hb5 := st5.b.bel.setCell (p := ⟨w.heap.size + 2, 0, none⟩) (by simp) (.slice (some ⟨gd, 0, none⟩) (m + 1) c4)
            refine ⟨some ⟨gd, 0, none⟩, c4, (by show _ = Ending.returned (.tuple #[stV (some ⟨gd, 0, none⟩) (s.take s.length ++ [(⟨dg, ⟨kk, ls, da⟩⟩ : Ob.S)] ++ s.drop s.length).length c4, .int .i64 dg, .int .i64 0]); rw [HM.out]; rfl), ⟨_, SA.of_own' (own_setCell st5.own (fun e => by have h1 : g + 1 ≤ w.heap.size + 2 := (st5.own.lt _ e.symm).1; have := st5.hg; omega) _) (fun b hb hX => by have h1 := HXL.out b hX; have h2 := (st5.own.lt b hb).1; have := st5.hg; omega), rows5.mono (StR.keep (Keeps.below hb5 (fun _ _ h => h)))⟩, hb5⟩
end Go.Proofs.YtjljknocnebnaaaDoor
namespace Tr
/-- The place of a digest, the first one, or -1. -/
def AtIs (s : List Ob.S) (d : Int) (r : Int) : Prop := (r = -1 ∧ ∀ j, j < s.length → (Ob.it s j).dig ≠ d) ∨ ∃ i : Nat, r = (i : Int) ∧ i < s.length ∧ (Ob.it s i).dig = d ∧ ∀ j, j < i → (Ob.it s j).dig ≠ d
end Tr
namespace Go.Proofs.YtjljknocnebnaaaDoor
open Go.RowKit Go.V Go.Shelf
set_option linter.unusedVariables false

set_option maxRecDepth 100000 in
set_option maxHeartbeats 4000000 in
theorem at2_any (w : World) (A : Option Addr) (k : Nat) (s : List Ob.S) (d : Int) (hv : StV w Free A s) (hl : s.length ≤ 1000000000) :
    Calls Tryd.prog 35 #[.agg #[.slice A s.length k], .int .i64 d] w fun e w' => (∃ r, e = .returned (.int .i64 r) ∧ Tr.AtIs s d r) ∧ Below w.heap.size w w' := by
  have hbel : Below w.heap.size w (w.alloc (.cells #[.slice A s.length k] 24)) := below_alloc1 _ _
  have q1 := Blk.new w 24 #[.slice A s.length k]
  have p1 := (q1.cell 0).trans rfl
  have l1 := q1.lt
  have HV := Lib.hid hbel
  have HG := Lib.hid (fun i hi => (hv.keep (free_below hbel)).row i hi)
  clear hv q1 hbel
  go_enter Tryd.func35, Tryd.ntmps35
  go_wp2_with fail
  generalize hW : w.alloc (.cells #[.slice A s.length k] 24) = W at *
  go_loopw [5] (fun kv wr => ∃ i : Nat, i ≤ s.length ∧ kv = .int .i64 i ∧ Hid (∀ j, j < i → (Ob.it s j).dig ≠ d) ∧ wr = W) (fun kv _ => s.length - (intOf kv).toNat)
  case atStart => exact ⟨0, Nat.zero_le _, rfl, Lib.hid (fun j hj => by omega), rfl⟩
  case round =>
    obtain ⟨i, hi, rfl, H, rfl⟩ := hrel
    by_cases hlt : i < s.length
    · have hlt' : (i : Int) < s.length := by omega
      obtain ⟨b, off, Al, kl, Ad, kd, rfl, hb, _, c0, _, _, _, hI, _⟩ := HG.out i hlt
      have HY := Lib.hid (fun (e : (Ob.it s i).dig = d) => (show Tr.AtIs s d (i : Int) from .inr ⟨i, rfl, hlt, e, H.out⟩))
      have HN := Lib.hid (fun (e : (Ob.it s i).dig ≠ d) => (show ∀ j, j < i + 1 → (Ob.it s j).dig ≠ d from fun j hj => by
        by_cases h : j = i
        · subst h; exact e
        · exact H.out j (by omega)))
      clear H
      generalize (Ob.it s i).dig = x at *
      by_cases he : x = d
      · have hx : (x == d) = true := by simpa using he
        have H2 := Lib.hid (HY.out he)
        clear he HY HN
        go_wp2_with fail
        go_ret
        exact ⟨⟨_, rfl, H2.out⟩, HV.out⟩
      · have hx : (x == d) = false := by simpa using he
        have H2 := Lib.hid (HN.out he)
        clear he HY HN
        go_wp2_with fail
        go_roundw
        case rel => refine ⟨i + 1, by omega, by go_num, H2, trivial⟩
        case measure => simp [intOf]; omega
    · obtain rfl : i = s.length := by omega
      go_wp2_with fail
      go_ret
      exact ⟨⟨_, rfl, .inl ⟨rfl, H.out⟩⟩, HV.out⟩
end Go.Proofs.YtjljknocnebnaaaDoor
namespace Ob
/-- 'Put' answers as 'PutObject' says. -/
theorem put_put {s : List S} {o : O} (hs : StOk s) (ho : Ok o) : ((putR s o).2.2 = 0 ∧ putF s o = ((putR s o).1, (putR s o).2.1, (0, 0))) ∨ ((putR s o).2.2 ≠ 0 ∧ putR s o = ([], 0, (putR s o).2.2) ∧ putF s o = ([], 0, ((putR s o).2.2, -1))) := by
  have hl := hs.len
  unfold putF
  rw [hs.f, ho.f, if_neg (by simp), if_neg (by simp)]
  by_cases hf : fnd s (dig o) = true
  · have h1 : addOk s (dig o) o = Go.Proofs.YtjljknocnebnaaaDoor.eqO (it s (lb s (dig o))).ob o := by unfold addOk; rw [if_pos hf]
    have h2 : addS s (dig o) o = s := by unfold addS; rw [if_pos hf]
    by_cases he : Go.Proofs.YtjljknocnebnaaaDoor.eqO (it s (lb s (dig o))).ob o = true
    · have hr : putR s o = (s, ((dig o : Nat) : Int), 0) := by unfold putR; rw [if_pos hf, if_pos he]
      rw [h1, he, h2, hr, if_neg (by simp), if_neg (by omega)]
      exact .inl ⟨rfl, rfl⟩
    · have hr : putR s o = ([], 0, 19) := by unfold putR; rw [if_pos hf, if_neg he]
      rw [h1, hr, if_pos (by simpa using he)]
      exact .inr ⟨by decide, rfl, rfl⟩
  · have h1 : addOk s (dig o) o = true := by unfold addOk; rw [if_neg hf]
    have hple := lb_le s (dig o)
    have h2 : (addS s (dig o) o).length = s.length + 1 := by unfold addS; rw [if_neg hf]; simp; omega
    by_cases h40 : 40 ≤ s.length
    · have hr : putR s o = ([], 0, 14) := by unfold putR; rw [if_neg hf, if_pos h40]
      rw [h1, hr, if_neg (by simp), if_pos (by omega)]
      exact .inr ⟨by decide, rfl, rfl⟩
    · have hr : putR s o = (addS s (dig o) o, ((dig o : Nat) : Int), 0) := by unfold putR; rw [if_neg hf, if_neg h40]
      rw [h1, hr, if_neg (by simp), if_neg (by omega)]
      exact .inl ⟨rfl, rfl⟩
end Ob
namespace Tr
open Ob (O S StOk Sorted fnd lb dig stF putF putR PutT obF)
/-- One step of 'Write'. -/
theorem all_put {s : List S} (o : O) (l : List O) : ((putF s o).2.2.1 ≠ 0 ∧ putAll s (o :: l) = ([], (putF s o).2.2.1)) ∨ (Ob.Ok o ∧ ∃ u, putF s o = (u, ((dig o : Nat) : Int), (0, 0)) ∧ StOk u ∧ putAll s (o :: l) = putAll u l) := by
  rcases Ob.putF_cases s o with ⟨h1, _⟩ | ⟨u, he, hp⟩
  · exact .inl ⟨h1, by rw [putAll, if_pos h1]⟩
  · exact .inr ⟨hp.ob, u, he, hp.st, by rw [putAll, he, if_neg (fun h => h rfl)]⟩
/-- One step of 'WriteTree'. -/
theorem all_step {s : List S} (hs : StOk s) (o : O) (l : List O) : ((obF o).1 ≠ 0 ∧ putAll s (o :: l) = ([], (obF o).1)) ∨
    (Ob.Ok o ∧ obF o = (0, 0) ∧ (putR s o).2.2 ≠ 0 ∧ putAll s (o :: l) = ([], (putR s o).2.2)) ∨ (Ob.Ok o ∧ obF o = (0, 0) ∧ ∃ u, putR s o = (u, ((dig o : Nat) : Int), 0) ∧ StOk u ∧ putAll s (o :: l) = putAll u l) := by
  by_cases h1 : (obF o).1 ≠ 0
  · refine .inl ⟨h1, ?_⟩
    have : putF s o = ([], 0, ((obF o).1, -1)) := by unfold putF; rw [hs.f, if_neg (by simp), if_pos h1]
    rw [putAll, this, if_pos h1]
  · obtain ⟨h2, ho⟩ := Ob.obF_ok (o := o) (by omega)
    refine .inr ?_
    rcases Ob.put_put hs ho with ⟨h3, h4⟩ | ⟨h3, _, h4⟩
    · refine .inr ⟨ho, h2, (putR s o).1, ?_, ?_, ?_⟩
      · rcases Ob.putF_cases s o with ⟨h5, _⟩ | ⟨u, he, hp⟩
        · rw [h4] at h5; exact absurd rfl h5
        · have e1 := congrArg (fun q => q.1) (h4.symm.trans he)
          have e2 := congrArg (fun q => q.2.1) (h4.symm.trans he)
          simp only at e1 e2
          exact Prod.ext rfl (Prod.ext e2 h3)
      · rcases Ob.putF_cases s o with ⟨h5, _⟩ | ⟨u, he, hp⟩
        · rw [h4] at h5; exact absurd rfl h5
        · have e1 := congrArg (fun q => q.1) (h4.symm.trans he)
          simp only at e1
          rw [e1]; exact hp.st
      · rw [putAll, h4, if_neg (fun h => h rfl)]
    · exact .inl ⟨ho, h2, h3, by rw [putAll, h4, if_pos h3]⟩
theorem objs_len (t : List F) : (objs t).length = t.length + 1 := by simp [objs]
theorem objs_at (t : List F) (i : Nat) (hi : i < t.length) : (objs t).drop i = blobO (it t i).lines :: (objs t).drop (i + 1) := by
  rw [List.drop_eq_getElem_cons (by rw [objs_len]; omega)]
  congr 1
  unfold objs
  rw [List.getElem_append_left (by simpa using hi), List.getElem_map, it_eq t i hi]
theorem objs_end (t : List F) : (objs t).drop t.length = [treeO t] := by
  unfold objs
  rw [List.drop_left' (by simp)]
theorem links_get (t : List F) (i : Nat) (hi : i < t.length) (h : i < (links t).length) : (links t)[i] = ((dig (blobO (it t i).lines) : Nat) : Int) := by
  have e : (links t)[i]? = some ((dig (blobO (it t i).lines) : Nat) : Int) := by unfold links; rw [List.getElem?_map, List.getElem?_eq_getElem hi, it_eq t i hi]; rfl
  rw [List.getElem?_eq_getElem h] at e
  exact Option.some.inj e
theorem links_take (t : List F) (i : Nat) (hi : i < t.length) : (links t).take (i + 1) = (links t).take i ++ [((dig (blobO (it t i).lines) : Nat) : Int)] := by
  have hl : i < (links t).length := by simpa [links] using hi
  rw [List.take_succ_eq_append_getElem hl, links_get t i hi hl]
theorem links_I64 (t : List F) (i : Nat) (h : i < (links t).length) : 0 ≤ (links t)[i] ∧ (links t)[i] < 2305843009213693951 := by
  have hi : i < t.length := by simpa [links] using h
  rw [links_get t i hi h]
  have := Ob.dig_lt (blobO (it t i).lines)
  omega
def pathsB (t : List F) (i : Nat) : List UInt8 := joined ((t.map F.path).take i)
theorem pathsB_zero (t : List F) : pathsB t 0 = [] := by simp [pathsB, joined]
theorem pathsB_succ (t : List F) (i : Nat) (hi : i < t.length) : pathsB t (i + 1) = pathsB t i ++ ((it t i).path ++ [10]) := by
  have hl : i < (t.map F.path).length := by simpa using hi
  unfold pathsB
  rw [List.take_succ_eq_append_getElem hl, joined_snoc, List.getElem_map, it_eq t i hi, List.append_assoc]
theorem pathsB_end (t : List F) : pathsB t t.length = joined (t.map F.path) := by unfold pathsB; rw [List.take_of_length_le (by simp)]
theorem pathsB_len {t : List F} (h : VOk t) : ∀ i, i ≤ t.length → (pathsB t i).length ≤ 61 * i
  | 0, _ => by rw [pathsB_zero]; exact Nat.zero_le _
  | i + 1, hi => by
    have h1 := pathsB_len h i (by omega)
    have h2 := pathOk_len (h.path i (by omega))
    rw [pathsB_succ t i (by omega)]
    simp; omega
theorem lines_len {l : List Nm} (h : LnOk l) : l.length ≤ 120 ∧ (joined l).length ≤ 9720 := by
  have h1 := h.len
  have h2 : ∀ l : List Nm, (∀ s ∈ l, s.length ≤ 80 ∧ (10 : UInt8) ∉ s) → (joined l).length ≤ 81 * l.length := by
    intro l
    induction l with
    | nil => intro _; simp [joined]
    | cons s l ih =>
      intro h
      have h3 := ih fun x hx => h x (List.mem_cons_of_mem _ hx)
      have h4 := (h s (by simp)).1
      rw [joined_cons]; simp; omega
  have h3 := h2 l h.all
  exact ⟨h1, by omega⟩
theorem joined_one (p : Nm) : joined [p] = p ++ [10] := by simp [joined]
/-- What 'At' finds. -/
theorem gtO_at {s : List S} (hs : StOk s) {d r : Int} (h : AtIs s d r) : (r = -1 ∧ gtO s d = none) ∨ ∃ i : Nat, r = (i : Int) ∧ i < s.length ∧ gtO s d = some (Ob.it s i).ob := by
  rcases h with ⟨h1, h2⟩ | ⟨i, h1, h2, h3, _⟩
  · refine .inl ⟨h1, ?_⟩
    unfold gtO
    rw [if_neg]
    intro hf
    obtain ⟨h3, h4⟩ := Ob.fnd_at hf
    exact h2 _ h3 h4
  · refine .inr ⟨i, h1, h2, ?_⟩
    have hf : fnd s d = true := (Ob.fnd_iff hs.lt d).2 ⟨_, Ob.it_mem h2, h3⟩
    obtain ⟨h4, h5⟩ := Ob.fnd_at hf
    unfold gtO
    rw [if_pos hf, (show Sorted s from hs.lt).uniq (Ob.it_mem h4) (Ob.it_mem h2) (h5.trans h3.symm)]
/-- 'Write' and 'WriteTree', case by case. -/
theorem wrF_st {s : List S} {t : List F} (h : (stF s).1 ≠ 0) : wrF s t = (([], 0), stF s) := by unfold wrF; rw [if_pos h]
theorem wrF_vl {s : List S} {t : List F} (h : (stF s).1 = 0) (h2 : (vlF t).1 ≠ 0) : wrF s t = (([], 0), ((vlF t).1, -1)) := by unfold wrF; rw [if_neg (fun h3 => h3 h), if_pos h2]
theorem wrF_no {s : List S} {t : List F} (h : (stF s).1 = 0) (h2 : (vlF t).1 = 0) {c : Int} (h3 : putAll s (objs t) = ([], c)) (h4 : c ≠ 0) : wrF s t = (([], 0), (c, -2)) := by
  unfold wrF; rw [if_neg (fun h5 => h5 h), if_neg (fun h5 => h5 h2), h3, if_pos h4]
theorem wrF_ok {s : List S} {t : List F} (h : (stF s).1 = 0) (h2 : (vlF t).1 = 0) {x : List S} (h3 : putAll s (objs t) = (x, 0)) : wrF s t = ((x, ((dig (treeO t) : Nat) : Int)), (0, 0)) := by
  unfold wrF; rw [if_neg (fun h5 => h5 h), if_neg (fun h5 => h5 h2), h3, if_neg (fun h => h rfl)]
end Tr
namespace Go.V
open Go.RowKit
section
variable {P : Program} (w : World)
/-- 'step_appM', and which block the row then owns. -/
theorem step_appMo {ops : Array Oper} {o : Oper} {a : Act} {K : Act → World → Prop} {Q : Exit → Act → World → Prop} {E : Prop} (hgd : o.guard = none) (s x : Operand) (t : TypeId)
    (ho : o.op = .call { callee := .builtin .append, args := #[s, x], argTypes := #[t, t] })
    (base : Nat) (e : TypeId) (i : TypeInfo) (z : Value) (size bytes : Nat) (ht : P.underlying t = some (.slice e)) (hi : P.info? e = some i) (hz : i.zero = some z)
    (hsize : i.size = size) (hby : i.bytes = bytes) (hzs : z.cells.size = size) (hsz : 0 < size)
    (A : Option Addr) (n c : Nat) (xs : List Value) (hs : a.eval s = .slice A n c) (hown : w.ownsRow base e size (.slice A n c) n xs)
    (B : Nat) (A2 : Option Addr) (m c2 : Nat) (news : List Value) (hx : a.eval x = .slice A2 m c2) (hl : news.length = m * size) (hr : SV w B A2 news) (h1 : ∀ u ∈ news, u.oneCell' = true)
    (h63 : n + m ≤ maxLen) (hbytes : (n + m) * bytes ≤ 140737488355328) (hbase : base ≤ w.heap.size)
    (h : ∀ A' c' w', w'.ownsRow base e size (.slice A' (n + m) c') (n + m) (xs ++ news) → w.grownBy w' (Value.slice A n c).ownBlock →
      ((Value.slice A' (n + m) c').ownBlock = (Value.slice A n c).ownBlock ∨ (Value.slice A' (n + m) c').ownBlock = some w.heap.size) → K (a.put o.dst (.slice A' (n + m) c')) w') :
    if Region.wanted o (yielded ops a.tmps) = true then Oper.wp P o a w K Q else E := by
  have hw : Region.wanted o (yielded ops a.tmps) = true := by simp [Region.wanted, hgd]
  rw [if_pos hw]
  refine wp_append_sv w s x t ho base e i z size bytes ht hi hz hsize hby hzs hsz (.slice A n c) n xs hs hown B A2 m c2 news hx hl hr h1 h63 hbytes hbase fun v' w' h2 h3 h4 => ?_
  obtain ⟨A', c', rfl, hc', _⟩ := own_form h2
  exact h A' c' w' h2 h3 h4
end
end Go.V
namespace Go.Proofs.YtjljknocnebnaaaDoor
open Go.RowKit Go.V Go.Shelf
set_option linter.unusedVariables false

/-- What 'Write' may still change. -/
abbrev Wx (w : World) (g : Nat) (Al : Option Addr) (nl cl : Nat) (Ad : Option Addr) (nd cd : Nat) : Nat → Prop := Or2 (fun b => w.heap.size ≤ b ∧ b ≤ g) (.slice Al nl cl) (.slice Ad nd cd)
/-- The state of 'Write': its boxes and results, the object that is being made, the store at hand. -/
structure WrSt (w wr : World) (g : Nat) (At : Option Addr) (n kt : Nat) (A : Option Addr) (k : Nat) (s : List Ob.S) (ls : List Int) (da : List UInt8) (Al : Option Addr) (cl : Nat) (Ad : Option Addr) (cd : Nat) : Prop where
  bx : Blk wr w.heap.size 24 #[.slice A s.length k]
  bt : Blk wr (w.heap.size + 1) 27 #[.slice At n kt]
  r1 : Blk wr (w.heap.size + 2) 24 #[.slice none 0 0]
  r2 : Blk wr (w.heap.size + 3) 30 #[.int .i64 0, .int .i64 0]
  bn : Blk wr (w.heap.size + 4) 24 #[.slice none 0 0]
  rt : RtSt w wr g ls da Al cl Ad cd
  hg5 : w.heap.size + 5 ≤ g
  sv : StV wr (Wx w g Al ls.length cl Ad da.length cd) A s
/-- The state of 'Write' ahead of that: its boxes and results. -/
structure WrB (w wr : World) (At : Option Addr) (n kt : Nat) (A : Option Addr) (k m : Nat) : Prop where
  bx : Blk wr w.heap.size 24 #[.slice A m k]
  bt : Blk wr (w.heap.size + 1) 27 #[.slice At n kt]
  r1 : Blk wr (w.heap.size + 2) 24 #[.slice none 0 0]
  r2 : Blk wr (w.heap.size + 3) 30 #[.int .i64 0, .int .i64 0]
  bn : Blk wr (w.heap.size + 4) 24 #[.slice none 0 0]
  bel : Below w.heap.size w wr
theorem WrB.below {w wr w' : World} {At : Option Addr} {n kt : Nat} {A : Option Addr} {k m : Nat} (h : WrB w wr At n kt A k m) (hb : Below wr.heap.size wr w') : WrB w w' At n kt A k m :=
  ⟨h.bx.below hb h.bx.lt, h.bt.below hb h.bt.lt, h.r1.below hb h.r1.lt, h.r2.below hb h.r2.lt, h.bn.below hb h.bn.lt, h.bel.trans (hb.mono h.bel.size)⟩
theorem WrB.facts {w wr : World} {At : Option Addr} {n kt : Nat} {A : Option Addr} {k m : Nat} (h : WrB w wr At n kt A k m) :
    wr.cell? ⟨w.heap.size, 0, none⟩ = some (.slice A m k) ∧ wr.cell? ⟨w.heap.size + 1, 0, none⟩ = some (.slice At n kt) ∧ wr.cell? ⟨w.heap.size + 2, 0, none⟩ = some (.slice none 0 0) ∧ wr.frozen? ⟨w.heap.size + 2, 0, none⟩ = false ∧
    wr.cell? ⟨w.heap.size + 3, 0, none⟩ = some (.int .i64 0) ∧ wr.cell? ⟨w.heap.size + 3, 1, none⟩ = some (.int .i64 0) ∧ wr.frozen? ⟨w.heap.size + 3, 0, none⟩ = false ∧ wr.frozen? ⟨w.heap.size + 3, 1, none⟩ = false ∧
    wr.cell? ⟨w.heap.size + 4, 0, none⟩ = some (.slice none 0 0) ∧
    w.heap.size < wr.heap.size ∧ w.heap.size + 1 < wr.heap.size ∧ w.heap.size + 2 < wr.heap.size ∧ w.heap.size + 3 < wr.heap.size ∧ w.heap.size + 4 < wr.heap.size :=
  ⟨(h.bx.cell 0).trans rfl, (h.bt.cell 0).trans rfl, (h.r1.cell 0).trans rfl, h.r1.frozen 0, (h.r2.cell 0).trans rfl, (h.r2.cell 1).trans rfl, h.r2.frozen 0, h.r2.frozen 1, (h.bn.cell 0).trans rfl, h.bx.lt, h.bt.lt, h.r1.lt, h.r2.lt, h.bn.lt⟩
section
variable {w wr w' : World} {g : Nat} {At : Option Addr} {n kt : Nat} {A : Option Addr} {k : Nat} {s : List Ob.S} {ls : List Int} {da : List UInt8} {Al : Option Addr} {cl : Nat} {Ad : Option Addr} {cd : Nat}
theorem WrSt.below (h : WrSt w wr g At n kt A k s ls da Al cl Ad cd) (hb : Below wr.heap.size wr w') : WrSt w w' g At n kt A k s ls da Al cl Ad cd :=
  ⟨h.bx.below hb h.bx.lt, h.bt.below hb h.bt.lt, h.r1.below hb h.r1.lt, h.r2.below hb h.r2.lt, h.bn.below hb h.bn.lt, h.rt.below hb, h.hg5, h.sv.keep (Keeps.below hb fun _ _ h => h)⟩
theorem WrSt.under (h : WrSt w wr g At n kt A k s ls da Al cl Ad cd) : ∀ b, Wx w g Al ls.length cl Ad da.length cd b → b < wr.heap.size := by
  have hg := h.rt.sb.lt
  rintro b (hb | hb | hb)
  · omega
  · exact (h.rt.ol.lt b hb).2
  · exact (h.rt.od.lt b hb).2
theorem WrSt.bb (h : WrSt w wr g At n kt A k s ls da Al cl Ad cd) : WrB w wr At n kt A k s.length := ⟨h.bx, h.bt, h.r1, h.r2, h.bn, h.rt.bel⟩
theorem WrB.start (h : WrB w wr At n kt A k s.length) (hv : StV w Free A s) : WrSt w (wr.alloc (.cells #[.int .i64 2, .slice none 0 0, .slice none 0 0] 54)) wr.heap.size At n kt A k s [] [] none 0 none 0 := by
  have hl := h.bn.lt
  have hb := h.bel.trans ((below_alloc1 wr (.cells #[.int .i64 2, .slice none 0 0, .slice none 0 0] 54)).mono h.bel.size)
  refine ⟨h.bx.alloc _, h.bt.alloc _, h.r1.alloc _, h.r2.alloc _, h.bn.alloc _, RtSt.start _ _ hb _ h.bel.size (Blk.new _ _ _), by omega, ?_⟩
  refine hv.keep (Keeps.below hb fun b hb hx => ?_)
  rcases hx with ⟨h1, _⟩ | h1 | h1
  · omega
  · cases h1
  · cases h1
/-- Another store. -/
theorem WrSt.setS (h : WrSt w wr g At n kt A k s ls da Al cl Ad cd) {A' : Option Addr} {s' : List Ob.S} (hs : StV wr (Wx w g Al ls.length cl Ad da.length cd) A' s') (k' : Nat) :
    WrSt w (wr.setCell ⟨w.heap.size, 0, none⟩ (.slice A' s'.length k')) g At n kt A' k' s' ls da Al cl Ad cd := by
  have hg5 := h.hg5
  have hb := h.rt.bel.setCell (p := ⟨w.heap.size, 0, none⟩) (Nat.le_refl _) (.slice A' s'.length k')
  refine ⟨by simpa using h.bx.set_ 0 (.slice A' s'.length k'), h.bt.far (p := ⟨w.heap.size, 0, none⟩) (by simp) _, h.r1.far (p := ⟨w.heap.size, 0, none⟩) (by simp) _, h.r2.far (p := ⟨w.heap.size, 0, none⟩) (by simp) _, h.bn.far (p := ⟨w.heap.size, 0, none⟩) (by simp) _, ?_, h.hg5, ?_⟩
  · refine ⟨h.rt.sb.far (p := ⟨w.heap.size, 0, none⟩) (by simp; omega) _, own_setCell h.rt.ol (fun e => ?_) _, own_setCell h.rt.od (fun e => ?_) _, h.rt.hg, hb⟩
    · have := (h.rt.ol.lt _ e.symm).1; simp at this; omega
    · have := (h.rt.od.lt _ e.symm).1; simp at this; omega
  · exact hs.keep (Keeps.setCell wr _ ⟨w.heap.size, 0, none⟩ _ (.inl ⟨Nat.le_refl _, by show w.heap.size ≤ g; omega⟩))
/-- A link has been appended. -/
theorem WrSt.appL (h : WrSt w wr g At n kt A k s ls da Al cl Ad cd) {w4 : World} {A4 : Option Addr} {c4 : Nat} {d : Int} (hg : wr.grownBy w4 (Value.slice Al ls.length cl).ownBlock)
    (hown : w4.ownsRow (g + 1) 3 1 (.slice A4 (ls.length + 1) c4) (ls.length + 1) (intsV ls ++ [.int .i64 d]))
    (hob : (Value.slice A4 (ls.length + 1) c4).ownBlock = (Value.slice Al ls.length cl).ownBlock ∨ (Value.slice A4 (ls.length + 1) c4).ownBlock = some wr.heap.size) :
    WrSt w (w4.setCell ⟨g, 1, none⟩ (.slice A4 (ls.length + 1) c4)) g At n kt A k s (ls ++ [d]) da A4 c4 Ad cd := by
  have hg5 := h.hg5
  have hl : (ls ++ [d]).length = ls.length + 1 := by simp
  refine ⟨(h.bx.grown hg (own_blk_ne h.rt.ol h.bx (by decide))).far (p := ⟨g, 1, none⟩) (by simp; omega) _, (h.bt.grown hg (own_blk_ne h.rt.ol h.bt (by decide))).far (p := ⟨g, 1, none⟩) (by simp; omega) _,
    (h.r1.grown hg (own_blk_ne h.rt.ol h.r1 (by decide))).far (p := ⟨g, 1, none⟩) (by simp; omega) _, (h.r2.grown hg (own_blk_ne h.rt.ol h.r2 (by decide))).far (p := ⟨g, 1, none⟩) (by simp; omega) _,
    (h.bn.grown hg (own_blk_ne h.rt.ol h.bn (by decide))).far (p := ⟨g, 1, none⟩) (by simp; omega) _, h.rt.appL hg hown, h.hg5, ?_⟩
  rw [hl]
  exact h.sv.keep ((Keeps.or2a hg rfl hob).trans (Keeps.setCell w4 _ ⟨g, 1, none⟩ _ (.inl ⟨by show w.heap.size ≤ g; omega, Nat.le_refl _⟩)))
/-- Bytes have been appended. -/
theorem WrSt.appD (h : WrSt w wr g At n kt A k s ls da Al cl Ad cd) {w4 : World} {A4 : Option Addr} {c4 : Nat} {x : List UInt8} (hg : wr.grownBy w4 (Value.slice Ad da.length cd).ownBlock)
    (hown : w4.ownsRow (g + 1) 5 1 (.slice A4 (da.length + x.length) c4) (da.length + x.length) (bytesV da ++ bytesV x))
    (hob : (Value.slice A4 (da.length + x.length) c4).ownBlock = (Value.slice Ad da.length cd).ownBlock ∨ (Value.slice A4 (da.length + x.length) c4).ownBlock = some wr.heap.size) :
    WrSt w (w4.setCell ⟨g, 2, none⟩ (.slice A4 (da.length + x.length) c4)) g At n kt A k s ls (da ++ x) Al cl A4 c4 := by
  have hg5 := h.hg5
  have hl : (da ++ x).length = da.length + x.length := by simp
  refine ⟨(h.bx.grown hg (own_blk_ne h.rt.od h.bx (by decide))).far (p := ⟨g, 2, none⟩) (by simp; omega) _, (h.bt.grown hg (own_blk_ne h.rt.od h.bt (by decide))).far (p := ⟨g, 2, none⟩) (by simp; omega) _,
    (h.r1.grown hg (own_blk_ne h.rt.od h.r1 (by decide))).far (p := ⟨g, 2, none⟩) (by simp; omega) _, (h.r2.grown hg (own_blk_ne h.rt.od h.r2 (by decide))).far (p := ⟨g, 2, none⟩) (by simp; omega) _,
    (h.bn.grown hg (own_blk_ne h.rt.od h.bn (by decide))).far (p := ⟨g, 2, none⟩) (by simp; omega) _, h.rt.appD hg hown, h.hg5, ?_⟩
  rw [hl]
  exact h.sv.keep ((Keeps.or2b hg rfl hob).trans (Keeps.setCell w4 _ ⟨g, 2, none⟩ _ (.inl ⟨by show w.heap.size ≤ g; omega, Nat.le_refl _⟩)))
end
/-- What 'Write' tells. -/
def WrPost (w : World) (q : (List Ob.S × Int) × (Int × Int)) (e : Ending) (w' : World) : Prop :=
  ∃ A c, e = .returned (.tuple #[stV A q.1.1.length c, .int .i64 q.1.2, .agg #[.int .i64 q.2.1, .int .i64 q.2.2]]) ∧ q.1.1.length ≤ c ∧ StV w' (Under w.heap.size) A q.1.1 ∧ Below w.heap.size w w'
theorem WrPost.no {w w' : World} {q : (List Ob.S × Int) × (Int × Int)} {c i : Int} (h : q = (([], 0), (c, i))) (hb : Below w.heap.size w w') : WrPost w q (.returned (.tuple #[.agg #[.slice none 0 0], .int .i64 0, .agg #[.int .i64 c, .int .i64 i]])) w' := by
  subst h; exact ⟨none, 0, rfl, Nat.le_refl _, ⟨[], SA.nil, rfl⟩, hb⟩
theorem st_cap {w : World} {A : Option Addr} {s : List Ob.S} {n : Nat} (h : StV w (Under n) A s) : StV w (fun b => b < n ∨ w.heap.size ≤ b) A s :=
  h.keep ⟨Nat.le_refl _, fun _ _ _ => rfl, fun b hb hx hx' => hx'.elim hx (fun h => by omega)⟩
/-- What 'Put' has answered, in two variables of its own. -/
def StOut (wq wx : World) (r : List Ob.S × Int × (Int × Int)) (p d q : Value) : Prop :=
  ∃ gA gB A c, p = .pointer (some ⟨gA, 0, none⟩) ∧ d = .int .i64 r.2.1 ∧ q = .pointer (some ⟨gB, 0, none⟩) ∧ wq.heap.size ≤ gA ∧ wq.heap.size ≤ gB ∧ Blk wx gA 24 #[.slice A r.1.length c] ∧ Blk wx gB 30 #[.int .i64 r.2.2.1, .int .i64 r.2.2.2] ∧ r.1.length ≤ c ∧ StV wx (Under wq.heap.size) A r.1 ∧ Below wq.heap.size wq wx
theorem StOut.mk {wq W : World} {r : List Ob.S × Int × (Int × Int)} {gA gB : Nat} {A : Option Addr} {c : Nat} {X : Nat → Prop} {x u v : Value} (hq : Below wq.heap.size wq W) (hs : StV W X A r.1) (hX : ∀ b, b < wq.heap.size → X b) (hc : r.1.length ≤ c)
    (bA : Blk W gA 24 #[x]) (bB : Blk W gB 30 #[u, v]) (hne : gA ≠ gB) (hgA : wq.heap.size ≤ gA) (hgB : wq.heap.size ≤ gB) (hXA : X gA) (hXB : X gB) :
    StOut wq (((W.setCell ⟨gA, 0, none⟩ (.slice A r.1.length c)).setCell ⟨gB, 0, none⟩ (.int .i64 r.2.2.1)).setCell ⟨gB, 1, none⟩ (.int .i64 r.2.2.2)) r (.pointer (some ⟨gA, 0, none⟩)) (.int .i64 r.2.1) (.pointer (some ⟨gB, 0, none⟩)) := by
  obtain ⟨k1, k2, k3⟩ := put12 bA bB hne (.slice A r.1.length c) (.int .i64 r.2.2.1) (.int .i64 r.2.2.2)
  refine ⟨gA, gB, A, c, rfl, rfl, rfl, hgA, hgB, k1, k2, hc, ?_, k3 _ _ hgA hgB hq⟩
  refine (hs.keep (((Keeps.setCell W X ⟨gA, 0, none⟩ _ hXA).trans (Keeps.setCell _ X ⟨gB, 0, none⟩ _ hXB)).trans (Keeps.setCell _ X ⟨gB, 1, none⟩ _ hXB))).keep ((Keeps.refl _ X).into fun b hb => hX b hb)
end Go.Proofs.YtjljknocnebnaaaDoor
namespace Ob
theorem stFrom_ix (s : List S) : ∀ n i, s.length - i ≤ n → 0 ≤ (stFrom s i).2
  | n, i, hn => by
    by_cases hi : i < s.length
    · by_cases hc : code s i = 0
      · obtain _ | n := n
        · omega
        · rw [stFrom_next s i hi hc]; exact stFrom_ix s n (i + 1) (by omega)
      · rw [stFrom_bad s i hi hc]; exact Int.natCast_nonneg i
    · rw [stFrom_end s i (by omega)]; exact Int.le_refl 0
theorem stF_ix (s : List S) : 0 ≤ (stF s).2 := by
  unfold stF
  split
  · exact Int.le_refl 0
  · exact stFrom_ix s _ 0 (Nat.le_refl _)
end Ob
namespace Tr
open Ob (O S StOk stF)
theorem prF_links {o : O} (h : (prF o).2 = 0) : (prF o).1.2 = o.links := by
  unfold prF at h ⊢
  split at h
  · cases h
  · rename_i h1
    rw [if_neg h1]
    split at h
    · cases h
    · rename_i h2
      rw [if_neg h2]
theorem prF_none {o : O} (h : (prF o).2 ≠ 0) : (prF o).1 = ([], []) := by
  unfold prF at h ⊢
  split
  · rfl
  · split
    · rfl
    · rename_i h1 h2
      rw [if_neg h1, if_neg h2] at h
      exact absurd rfl h
theorem ptF_st {s : List S} (d ix : Int) (h : (stF s).1 ≠ 0) : ptF s d ix = (([], []), stF s) := by unfold ptF; rw [if_pos h]
theorem ptF_none {s : List S} {d : Int} (ix : Int) (h : StOk s) (h2 : gtO s d = none) : ptF s d ix = (([], []), (6, ix)) := by unfold ptF; rw [h.f, if_neg (by decide), h2]
theorem ptF_bad {s : List S} {d : Int} {o : O} (ix : Int) (h : StOk s) (h2 : gtO s d = some o) (h3 : (prF o).2 ≠ 0) : ptF s d ix = (([], []), ((prF o).2, ix)) := by
  unfold ptF; rw [h.f, if_neg (by decide), h2]; simp only; rw [if_pos h3]
theorem ptF_ok {s : List S} {d : Int} {o : O} (ix : Int) (h : StOk s) (h2 : gtO s d = some o) (h3 : (prF o).2 = 0) : ptF s d ix = ((prF o).1, (0, 0)) := by
  unfold ptF; rw [h.f, if_neg (by decide), h2]; simp only; rw [if_neg (fun h4 => h4 h3)]
end Tr
namespace Go.Proofs.YtjljknocnebnaaaDoor
open Go.RowKit Go.V Go.Shelf
set_option linter.unusedVariables false

theorem results_tt30 {fn : Func} {a b c : Tmp} (h : fn.results = #[.tmp a, .tmp b, .cell c 30]) (tmps : Array Value) (w : World) (g : Nat) (x y : Value) (hc : tmps.getD c undef = .pointer (some ⟨g, 0, none⟩))
    (hb : Blk w g 30 #[x, y]) : (results fn tmps).run Tryd.prog w = .ok (.tuple #[tmps.getD a undef, tmps.getD b undef, .agg #[x, y]]) w := by
  have k0 := hb.cell 0
  have k1 := hb.cell 1
  simp only [List.getElem?_toArray, List.getElem?_cons_zero, List.getElem?_cons_succ] at k0 k1
  have hc' : tmps[c]?.getD undef = .pointer (some ⟨g, 0, none⟩) := by simpa using hc
  simp [results, h, go_sem, hc', k0, k1]
theorem results_t30 {fn : Func} {a c : Tmp} (h : fn.results = #[.tmp a, .cell c 30]) (tmps : Array Value) (w : World) (g : Nat) (x y : Value) (hc : tmps.getD c undef = .pointer (some ⟨g, 0, none⟩))
    (hb : Blk w g 30 #[x, y]) : (results fn tmps).run Tryd.prog w = .ok (.tuple #[tmps.getD a undef, .agg #[x, y]]) w := by
  have k0 := hb.cell 0
  have k1 := hb.cell 1
  simp only [List.getElem?_toArray, List.getElem?_cons_zero, List.getElem?_cons_succ] at k0 k1
  have hc' : tmps[c]?.getD undef = .pointer (some ⟨g, 0, none⟩) := by simpa using hc
  simp [results, h, go_sem, hc', k0, k1]
theorem sa_put2 {w : World} {X : Nat → Prop} {A : Option Addr} {vs : List Value} (h : SA w X A vs) {g : Nat} (hg : X g) (x y : Value) : SA ((w.setCell ⟨g, 0, none⟩ x).setCell ⟨g, 1, none⟩ y) X A vs :=
  h.keep ((Keeps.setCell w X ⟨g, 0, none⟩ x hg).trans (Keeps.setCell _ X ⟨g, 1, none⟩ y hg))
/-- What 'paths' tells. -/
def PaPost (w : World) (q : (List (List UInt8) × List Int) × (Int × Int)) (e : Ending) (w' : World) : Prop :=
  ∃ A c B m, e = .returned (.tuple #[.slice A q.1.1.length c, .slice B q.1.2.length m, .agg #[.int .i64 q.2.1, .int .i64 q.2.2]]) ∧ LnA w' (Under w.heap.size) q.1.1 A c ∧ SA w' (Under w.heap.size) B (intsV q.1.2) ∧ q.1.2.length ≤ m ∧ Below w.heap.size w w'
theorem PaPost.no {w w' : World} {q : (List (List UInt8) × List Int) × (Int × Int)} {c i : Int} (h : q = (([], []), (c, i))) (hb : Below w.heap.size w w') : PaPost w q (.returned (.tuple #[.slice none 0 0, .slice none 0 0, .agg #[.int .i64 c, .int .i64 i]])) w' := by
  subst h; exact ⟨none, 0, none, 0, rfl, ⟨Nat.le_refl _, Nat.zero_le _, SA.nil⟩, SA.nil, Nat.le_refl _, hb⟩
set_option maxRecDepth 100000 in
set_option maxHeartbeats 4000000 in
theorem paths_any (w : World) (hm : Mx w) (hm2 : M2 w) (A : Option Addr) (k : Nat) (s : List Ob.S) (d ix : Int) (hv : StV w Free A s) (hl64 : s.length ≤ 9223372036854775807) :
    Calls Tryd.prog 32 #[stV A s.length k, .int .i64 d, .int .i64 ix] w (PaPost w (Tr.ptF s d ix)) := by
  have HG := Lib.hid (fun (w1 : World) (hb : Below w.heap.size w w1) => get_any w1 A k s d (hv.keep (free_below hb)) hl64)
  have HX := Lib.hid (Ob.stF_ix s)
  have HM := Lib.hid (fun (w1 : World) (hb : Below w.heap.size w w1) => And.intro (hm.below hb) (hm2.below hb))
  have hb0 := below_alloc2 w (.cells #[.slice A s.length k] 24) (.cells #[.int .i64 0, .int .i64 0] 30)
  have rb0 := blk_new1 w (.cells #[.slice A s.length k] 24) 30 #[.int .i64 0, .int .i64 0]
  have HQa := Lib.hid (Tr.ptF_st (s := s) d ix)
  have HQb := Lib.hid (fun (h : Ob.StOk s) (h2 : Ob.fnd s d = false) => Tr.ptF_none (s := s) (d := d) ix h (by unfold Tr.gtO; rw [if_neg (by rw [h2]; decide)]))
  have HQc := Lib.hid (fun (h : Ob.StOk s) (h2 : Ob.fnd s d = true) => And.intro (Tr.ptF_bad (s := s) (d := d) (o := (Ob.it s (Ob.lb s d)).ob) ix h (by unfold Tr.gtO; rw [if_pos h2])) (Tr.ptF_ok (s := s) (d := d) (o := (Ob.it s (Ob.lb s d)).ob) ix h (by unfold Tr.gtO; rw [if_pos h2])))
  clear hv hm hm2
  generalize Tr.ptF s d ix = q at *
  go_enter Tryd.func32, Tryd.ntmps32
  go_wp2_with fail
  go_at_call 50
  with_reducible refine (HG.out _ hb0).mono ?_
  rintro e w1 ⟨hb1, (⟨hbad, rfl⟩ | ⟨hok, hf, rfl⟩ | ⟨hok, hf, A1, k1, A2, k2, rfl, hob⟩)⟩
  · have H := Lib.hid (HQa.out hbad)
    have hx := HX.out
    have rb1 := rb0.below hb1 rb0.lt
    have hbw := hb0.trans (hb1.mono hb0.size)
    clear HQa HQb HQc HX HM HG hb1 rb0 hb0
    generalize Ob.stF s = f at *
    obtain ⟨c, x⟩ := f
    simp only at hbad hx H
    have HR := Lib.hid (fun w' hb => PaPost.no (w := w) (w' := w') H.out hb)
    generalize PaPost w q = R at *
    have hx1 : (c == 0) = false := by simpa using hbad
    have hx2 : (x == -1) = false := by simp; omega
    have l0 := rb1.lt
    have f0 := rb1.frozen 0
    have f1 := rb1.frozen 1
    have c0 := (rb1.cell 0).trans rfl
    have c1 := (rb1.cell 1).trans rfl
    have l1 : w.heap.size + 1 < w1.heap.size + 1 := Nat.lt_succ_of_lt l0
    clear H hbad hx
    go_wp2_with fail
    go_region
    all_goals
      go_wp2_with fail
      refine bodyPost_ret (results_tt30 rfl _ _ (w.heap.size + 1) (.int .i64 c) (.int .i64 x) rfl ((((blk_put2 rb1 _ _).alloc _).alloc _).drewN 1)) rfl ?_
      refine HR.out _ ?_
      exact below_drewN (((((hbw.setCell (p := ⟨w.heap.size + 1, 0, none⟩) (Nat.le_succ _) _).setCell (p := ⟨w.heap.size + 1, 1, none⟩) (Nat.le_succ _) _).alloc (by simp [World.setCell]; omega) _).alloc (by simp [World.setCell]; omega) _)) 1
  · have H := Lib.hid (HQb.out hok hf)
    have rb1 := rb0.below hb1 rb0.lt
    have hbw := hb0.trans (hb1.mono hb0.size)
    clear HQa HQb HQc HX HM HG hb1 rb0 hb0 hok hf
    have HR := Lib.hid (fun w' hb => PaPost.no (w := w) (w' := w') H.out hb)
    generalize PaPost w q = R at *
    have l0 := rb1.lt
    have f0 := rb1.frozen 0
    have f1 := rb1.frozen 1
    have c0 := (rb1.cell 0).trans rfl
    have c1 := (rb1.cell 1).trans rfl
    have l1 : w.heap.size + 1 < w1.heap.size + 1 := Nat.lt_succ_of_lt l0
    clear H
    go_wp2_with fail
    go_region
    all_goals
      go_wp2_with fail
      refine bodyPost_ret (results_tt30 rfl _ _ (w.heap.size + 1) (.int .i64 6) (.int .i64 ix) rfl ((((blk_put2 rb1 _ _).alloc _).alloc _).drewN 1)) rfl ?_
      refine HR.out _ ?_
      exact below_drewN (((((hbw.setCell (p := ⟨w.heap.size + 1, 0, none⟩) (Nat.le_succ _) _).setCell (p := ⟨w.heap.size + 1, 1, none⟩) (Nat.le_succ _) _).alloc (by simp [World.setCell]; omega) _).alloc (by simp [World.setCell]; omega) _)) 1
  · obtain ⟨HQ1, HQ2⟩ := HQc.out hok hf
    have HQ1 := Lib.hid HQ1
    have HQ2 := Lib.hid HQ2
    have hbo := below_alloc2 w1 (.cells #[.int .i64 (Ob.it s (Ob.lb s d)).ob.kind, .slice A1 (Ob.it s (Ob.lb s d)).ob.links.length k1, .slice A2 (Ob.it s (Ob.lb s d)).ob.data.length k2] 54) (.cells #[.int .i64 0, .int .i64 0] 30)
    have rb1 := (rb0.below hb1 rb0.lt).below hbo (rb0.below hb1 rb0.lt).lt
    have hbw1 := hb0.trans (hb1.mono hb0.size)
    have l1 : w.heap.size + 1 < w1.heap.size := (rb0.below hb1 rb0.lt).lt
    have hbw := hbw1.trans (hbo.mono hbw1.size)
    obtain ⟨h1, h2⟩ := Ob.fnd_at hf
    have HL := Lib.hid (fun (h : (Tr.prF (Ob.it s (Ob.lb s d)).ob).2 = 0) => Tr.prF_links h)
    have hpa := Lib.hid (parse_any _ (HM.out _ hbw).1 (HM.out _ hbw).2 (Ob.it s (Ob.lb s d)).ob A1 k1 A2 k2 ((hob.keep (Keeps.below hbo fun _ _ h => h)).keep ((Keeps.refl _ _).into (X'' := Free) fun _ h => h.elim)) (by have := (hok.ok _ h1).dn; omega))
    have HLS := Lib.hid (fun (w2 : World) (hb2 : Below w1.heap.size w1 w2) => hob.ls.keep (Keeps.below hb2 fun _ _ h => h))
    clear HQa HQb HQc HX HM HG hb1 rb0 hb0 hok hf hob h1 h2 hbw1
    generalize (Ob.it s (Ob.lb s d)).ob = o at *
    obtain ⟨kk, lo, da⟩ := o
    simp only [obV] at hpa hbo hbw rb1 HLS HL
    unfold PrPost at hpa
    generalize Tr.prF ⟨kk, lo, da⟩ = q2 at *
    obtain ⟨⟨L, ls⟩, cd⟩ := q2
    simp only at HQ1 HQ2 HL hpa
    have HR1 := Lib.hid (fun (h : cd ≠ 0) w' hb => PaPost.no (w := w) (w' := w') (HQ1.out h) hb)
    have HR2 : Hid (cd = 0 → ∀ A' c m w', LnA w' (Under w.heap.size) L A' c → SA w' (Under w.heap.size) A1 (intsV ls) → ls.length ≤ m → Below w.heap.size w w' → PaPost w q (.returned (.tuple #[.slice A' L.length c, .slice A1 ls.length m, .agg #[.int .i64 0, .int .i64 0]])) w') := Lib.hid (fun h A' c m w' h1 h2 h3 h4 => by
      rw [HQ2.out h]; exact ⟨A', c, A1, m, rfl, h1, h2, h3, h4⟩)
    generalize PaPost w q = R at *
    clear HQ1 HQ2
    go_wp2_with fail
    go_at_call 51
    with_reducible refine (hpa.out).mono ?_
    rintro e w2 ⟨A', c, Bl, m, rfl, hln, hb2, hlk, hmm⟩
    have rb2 := rb1.below hb2 rb1.lt
    have hszX := hbw.size
    have hbw2 := hbw.trans (hb2.mono hbw.size)
    have hb12 := hbo.trans (hb2.mono hbo.size)
    have l0 := rb2.lt
    have f0 := rb2.frozen 0
    have f1 := rb2.frozen 1
    have c0 := (rb2.cell 0).trans rfl
    have c1 := (rb2.cell 1).trans rfl
    clear hpa hb2 hbw rb1 hbo
    have hset := blk_put2 rb2
    have hbs : ∀ x y, Below w.heap.size w ((w2.setCell ⟨w.heap.size + 1, 0, none⟩ x).setCell ⟨w.heap.size + 1, 1, none⟩ y) := fun x y => (hbw2.setCell (p := ⟨w.heap.size + 1, 0, none⟩) (Nat.le_succ _) _).setCell (p := ⟨w.heap.size + 1, 1, none⟩) (Nat.le_succ _) _
    by_cases hcd : cd = 0
    · subst hcd
      obtain ⟨e1, e2⟩ := hlk rfl
      subst e1
      subst e2
      have H := Lib.hid (HR2.out rfl)
      have hll := HL.out rfl
      subst hll
      have hsl := HLS.out w2 hb12
      clear HR1 HR2 HL HLS hlk
      go_wp2_with fail
      refine bodyPost_ret (results_tt30 rfl _ _ (w.heap.size + 1) (.int .i64 0) (.int .i64 0) rfl (hset _ _)) rfl ?_
      refine H.out A' c _ _ ⟨hln.lk, hln.ll, (sa_put2 hln.ls (by unfold Under; simp; omega) _ _).mono fun b h => ?_⟩ ((sa_put2 hsl (by unfold Under; simp) _ _).mono fun b h => ?_) hmm (hbs _ _)
      · exact Nat.lt_of_lt_of_le h hszX
      · unfold Under at *; simp; omega
    · have H := Lib.hid (HR1.out hcd)
      have hx1 : (cd == 0) = false := by simpa using hcd
      have hx2 : (cd != 0) = true := by simpa using hcd
      clear HR1 HR2 HL HLS hlk hcd
      go_wp2_with fail
      refine bodyPost_ret (results_tt30 rfl _ _ (w.heap.size + 1) (.int .i64 cd) (.int .i64 ix) rfl (hset _ _)) rfl ?_
      exact H.out _ (hbs _ _)
end Go.Proofs.YtjljknocnebnaaaDoor
