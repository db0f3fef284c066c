/-
  Garbage collection: walk of 'Reach'.
  Garbage collection: walk of 'Mark' at a valid store.
  Garbage collection: walk of 'checkLeases' where there is no lease.
  References: walk of 'component'.
  References: names and their components. No program in sight.
-/
import Derived.Test.YtipjejnncnndeaaGreatDoorG04
import Derived.Test.YtipjejnncnndeaaGreatDoorG03
import Derived.Shelf.Strings.SlTrimAscii
import Derived.Laws.RangeString
import Derived.WalkKit
import Derived.Lib.Hide
import Derived.Below
import Derived.Deep.Draws
namespace Go.Proofs.YtipjejnncnndeaaGreatDoor
open Go.RowKit Go.V
set_option linter.unusedVariables false

theorem own_take {w : World} {base c n m : Nat} {e : TypeId} {A : Option Addr} {xs : List Value} (h : w.ownsRow base e 1 (.slice A n c) n xs) (hm : m ≤ n) : w.ownsRow base e 1 (.slice A m c) m (xs.take m) := by
  obtain ⟨h1, h2⟩ := h
  refine ⟨by rw [List.length_take, h1]; omega, ?_⟩
  rcases h2 with ⟨e1, e2⟩ | ⟨g, cap, cur, e1, h2, h3, h4, h5, h6, h7⟩
  · subst e2
    obtain rfl : m = 0 := by omega
    exact .inl ⟨e1, rfl⟩
  · injection e1 with e1 e2 e3
    subst e1
    subst e3
    refine .inr ⟨g, c, cur, rfl, h2, h3, by omega, h5, h6, ?_⟩
    rw [← h7, List.take_take, Nat.mul_one, Nat.mul_one, Nat.min_eq_left hm]
theorem own_cap {w : World} {base c n sz : Nat} {e : TypeId} {A : Option Addr} {xs : List Value} (h : w.ownsRow base e sz (.slice A n c) n xs) : n ≤ c := by
  obtain ⟨_, _, h1, h2, _⟩ := own_form h
  injection h1 with _ _ h3
  rw [h3]; exact h2
set_option maxRecDepth 100000 in
theorem slice_to31 (W : World) (A : Option Addr) (n k m : Nat) (hk : m ≤ k) : (Instr.slice 31 (.slice A n k) none (some (.int .i64 (m : Int))) none).run Tryz.prog W = .ok (.slice A m k) W := by
  have hu := Tryz.underlying31
  rw [run_slice_h W 31 A n k (by rw [hu]; rfl) .i64 (m : Int) (by omega) (by omega)]
  simp [go_sem]
def lenOf : Value → Nat
  | .slice _ n _ => n
  | _ => 0
/-- The set that a block reads as. -/
noncomputable def setOf (w : World) (b : Nat) : Int → Bool := match w.heap[b]? with
  | some (.map es _) => fun x => Maps.has (H := Unit) (.map ((es.toList.map (WideElems.rg Tryz.prog 3 (plainElem (H := Unit) Tryz.prog 4))).foldr DataW.insert [])) (.int .i64 x)
  | _ => fun _ => false
theorem SetV.eq {w : World} {b n : Nat} {m : Int → Bool} (h : SetV w b n m) : setOf w b = m := by
  obtain ⟨D, ⟨es, clock, hb, _, _, rfl⟩, hD⟩ := h
  unfold setOf
  rw [hb]
  funext x
  exact hD.has x
/-- A copy of a list of numbers, of the call's own. -/
def CnPost (w : World) (l : List Int) (e : Ending) (w' : World) : Prop := ∃ A' c', e = .returned (.slice A' l.length c') ∧ w'.ownsRow w.heap.size 3 1 (.slice A' l.length c') l.length (intsV l) ∧ Below w.heap.size w w'
theorem clone22_own (w : World) (A : Option Addr) (c : Nat) (l : List Int) (h : SV w w.heap.size A (intsV l)) (hl : l.length * 8 ≤ 140737488351232) :
    Calls Tryz.prog 22 #[.slice A l.length c] w (CnPost w l) := by
  obtain ⟨i0, hi0, hz0, hz1, hz2⟩ := info_parts info3
  have heq : ∀ (W : World) a n c, (binOp .eql 31 (.slice a n c) (.slice none 0 0)).run Tryz.prog W = .ok (.bool a.isNone) W := fun W a n c => Lib.run_eql_slice_nil W 31 3 a n c 0 0 Tryz.underlying31
  rcases A with _ | ad
  · have hl0 : l = [] := by
      rcases h with h | ⟨b, off, h, _⟩
      · simpa [intsV] using h
      · cases h
    subst hl0
    go_enter Tryz.func22, Tryz.ntmps22
    go_wp2_with fail
    go_ret
    exact ⟨none, 0, rfl, World.ownsRow_nil _ _ _ _, Below.refl _ _⟩
  · go_enter Tryz.func22, Tryz.ntmps22
    go_wp2_with (first | (at_builtin; refine wpList_appN _ rfl (.tmp 5) (.tmp 6) 31 rfl w.heap.size 3 i0 (.int .i64 0) 1 8 Tryz.underlying31 hi0 hz0 hz1 hz2 rfl (by decide) (some ⟨w.heap.size, 0, none⟩) 0 0 [] rfl (World.ownsRow_lit w #[] 0 (Nat.le_refl _) (by simp [maxLen]) rfl) _ (some ad) l.length c (intsV l) rfl ?ha (SV.alloc h (Nat.le_refl _) _) (intsV_one _) ?hb ?hc ?hd ?_))
    case ha => simp
    case hb => simp [maxLen]; omega
    case hc => omega
    case hd => simp
    intro A' c' w' hown hg hc'
    have hb := (below_alloc1 w (.cells #[] 3)).grown hg (by simp) (fun k hk => by simp [Value.ownBlock] at hk; omega)
    try simp only [Nat.zero_add, List.nil_append] at *
    go_wp2_with fail
    go_ret
    exact ⟨A', c', rfl, hown, hb⟩
/-- The state of the loop of 'Reach'. -/
structure RcSt (w wr : World) (A : Option Addr) (k : Nat) (s : List Ob.S) (rs td : List Int) (m : Int → Bool) (n : Nat) (At : Option Addr) (ct : Nat) : Prop where
  bo : Blk wr w.heap.size 24 #[.slice A s.length k]
  set : SetV wr (w.heap.size + 1) n m
  own : wr.ownsRow (w.heap.size + 2) 3 1 (.slice At td.length ct) td.length (intsV td)
  ms : Gc.MS s rs m td
  cnt : n + Gc.un s m ≤ s.length
  ln : Gc.ms s m td.length ≤ 1240 + rs.length
  all : ∀ d ∈ td, I64 d
  bel : Below w.heap.size w wr
  hi : w.heap.size + 2 ≤ wr.heap.size
section
variable {w wr w' : World} {A : Option Addr} {k : Nat} {s : List Ob.S} {rs td ts : List Int} {m : Int → Bool} {n : Nat} {At : Option Addr} {ct : Nat} {d : Int}
theorem RcSt.below (h : RcSt w wr A k s rs td m n At ct) (hb : Below wr.heap.size wr w') : RcSt w w' A k s rs td m n At ct :=
  ⟨h.bo.below hb h.bo.lt, h.set.below hb, h.own.kept (only_of_below hb none) (by cases hv : (Value.slice At td.length ct).ownBlock <;> simp), h.ms, h.cnt, h.ln, h.all, h.bel.trans (hb.mono h.bel.size), Nat.le_trans h.hi hb.size⟩
theorem RcSt.skip (h : RcSt w wr A k s rs (ts ++ [d]) m n At ct) (hd : Ob.fnd s d = false ∨ m d = true) : RcSt w wr A k s rs ts m n At ct := by
  refine ⟨h.bo, h.set, ?_, h.ms.skip hd, h.cnt, ?_, fun e he => h.all e (List.mem_append_left _ he), h.bel, h.hi⟩
  · have := own_take (m := ts.length) (by simpa using h.own) (by simp)
    simpa [intsV, List.take_left'] using this
  · have := h.ln; unfold Gc.ms at *; simp at this; omega
/-- The last of what is left to do. -/
theorem RcSt.last (h : RcSt w wr A k s rs (ts ++ [d]) m n At ct) : ∃ g, At = some ⟨g, 0, none⟩ ∧ g < wr.heap.size ∧ wr.cell? ⟨g, ts.length, none⟩ = some (.int .i64 d) := by
  obtain ⟨_, h1 | ⟨g, cap, cur, e, hg, hh, hn, hm, hs, hx⟩⟩ := h.own
  · have := h1.2; simp at this
  · injection e with e1 _ e2
    subst e1
    have hb : Blk wr g 3 cur := hh
    refine ⟨g, rfl, hb.lt, ?_⟩
    rw [hb.cell ts.length, ← Array.getElem?_toList]
    have : (cur.toList.take ((ts ++ [d]).length * 1))[ts.length]? = some (.int .i64 d) := by rw [hx]; simp [intsV]
    rw [List.getElem?_take] at this
    split at this
    · exact this
    · cases this
end
/-- What 'Reach' answers: the set of what can be reached. -/
def RcPost (w : World) (s : List Ob.S) (rs : List Int) (e : Ending) (w' : World) : Prop := ∃ b n m, e = .returned (.map (some b)) ∧ SetV w' b n m ∧ (∀ d, m d = true ↔ Gc.Rc s rs d) ∧ n ≤ s.length ∧ w.heap.size ≤ b ∧ Below w.heap.size w w'
set_option maxRecDepth 100000 in
set_option maxHeartbeats 8000000 in
theorem reach_any (w : World) (A : Option Addr) (k : Nat) (s : List Ob.S) (Ar : Option Addr) (kr : Nat) (rs : List Int) (hv : StV w Free A s) (hok : Ob.StOk s) (hr : SA w Free Ar (intsV rs)) (hrl : rs.length ≤ 1000) (hri : ∀ d ∈ rs, I64 d) :
    Calls Tryz.prog 13 #[stV A s.length k, .slice Ar rs.length kr] w (RcPost w s rs) := by
  obtain ⟨i0, hi0, hz0, hz1, hz2⟩ := info_parts info3
  have hmm := @run_makeMap Tryz.prog
  have HROW := Lib.hid (fun (w' : World) (hb : Below w.heap.size w w') i hi => (hv.keep (free_below hb)).row (w := w') i hi)
  have hl40 := hok.len
  have HF := Lib.hid (fun (w' : World) (hb : Below w.heap.size w w') (d : Int) => find_any w' A k s d (hv.keep (free_below hb)) (by omega) hok.sorted)
  have HOK := Lib.hid hok
  have HCL := Lib.hid (fun (w' : World) (hb : Below w.heap.size w w') => clone22_own w' Ar kr rs ((hr.keep (free_below hb)).sv) (by omega))
  have HRI := Lib.hid hri
  clear hv hok hr hri
  go_enter Tryz.func13, Tryz.ntmps13
  go_wp2_with fail
  go_at_call 22
  refine (HCL.out _ (below_alloc2 _ _ _)).mono ?_
  rintro e w1 ⟨A1, c1, rfl, hown1, hb1⟩
  have st0 : RcSt w w1 A k s rs rs (fun _ => false) 0 A1 c1 := by
    have e2 : ((w.alloc (.cells #[.slice A s.length k] 24)).alloc (.map #[] 0)).heap.size = w.heap.size + 2 := by simp
    rw [e2] at hown1
    refine ⟨((Blk.new _ _ _).alloc _).below hb1 (by simp; omega), ?_, hown1, Gc.MS.start s rs, by rw [Gc.un_start]; omega, by unfold Gc.ms; rw [Gc.un_start]; omega, HRI.out, (below_alloc2 _ _ _).trans (hb1.mono (by simp; omega)), by have := hb1.size; simpa using this⟩
    have := (SetV.made (w.alloc (.cells #[.slice A s.length k] 24))).below hb1
    simpa using this
  clear hb1 hown1
  go_wp2_with fail
  go_loopw [6] (fun v wr => ∃ td m n At ct, v = .slice At td.length ct ∧ RcSt w wr A k s rs td m n At ct) (fun v wr => Gc.ms s (setOf wr (w.heap.size + 1)) (lenOf v))
  case atStart => exact ⟨rs, _, 0, A1, c1, rfl, st0⟩
  case round =>
    obtain ⟨td, m, n, At, ct, rfl, st⟩ := hrel
    obtain ⟨wo, rfl⟩ : ∃ wo : World, wo = wr := ⟨_, rfl⟩
    rcases List.eq_nil_or_concat td with rfl | ⟨ts, d, rfl⟩
    · have HP : RcPost w s rs (.returned (.map (some (w.heap.size + 1)))) wo := ⟨_, n, m, rfl, st.set, st.ms.done, by have := st.cnt; omega, by omega, st.bel⟩
      clear st
      go_wp2_with fail
      go_ret
      exact HP
    · rw [List.concat_eq_append] at *
      obtain ⟨g, rfl, hgl, hgc⟩ := st.last
      have hct := own_cap st.own
      have HD : I64 d := st.all d (by simp)
      have HLN := Lib.hid (show ts.length + 1 ≤ 1240 + rs.length by have := st.ln; unfold Gc.ms at this; simp at this; omega)
      have HST := Lib.hid st
      have hln : (ts ++ [d]).length = ts.length + 1 := by simp
      rw [hln] at hct ⊢
      have HSL := fun W => slice_to31 W (some ⟨g, 0, none⟩) (ts.length + 1) ct ts.length (by omega)
      have hbo := st.bo.cell 0
      have hbw := st.bel
      simp only [List.getElem?_toArray, List.getElem?_cons_zero] at hbo
      generalize hq : ts.length = q at *
      have hqb : q ≤ 10000 := by have := HLN.out; omega
      have h1 : (0 : Int) < ((q + 1 : Nat) : Int) := by omega
      have h2 : IntKind.i64.wrap (((q + 1 : Nat) : Int) - 1) = (q : Int) := by rw [IntWalk.i64_in] <;> omega
      clear st hln
      go_wp2_with fail
      go_at_call 23
      refine (HF.out wo hbw d).mono ?_
      rintro e w1 ⟨rfl, hb1⟩
      have HS1 := Lib.hid (HST.out.below hb1)
      by_cases hf : Ob.fnd s d = false
      · rw [hf]
        have HS2 := Lib.hid (HS1.out.skip (.inl hf))
        clear hb1 hbo
        go_wp2_with fail
        go_roundw
        case rel => exact ⟨ts, m, n, _, ct, by rw [hq], HS2.out⟩
        case measure => rw [HS2.out.set.eq, HST.out.set.eq]; show Gc.ms s m q < Gc.ms s m (q + 1); unfold Gc.ms; omega
      · have hf' : Ob.fnd s d = true := by simpa using hf
        rw [hf']
        have hlk := HS1.out.set.look HD
        by_cases hm : m d = true
        · rw [hm] at hlk
          have HS2 := Lib.hid (HS1.out.skip (.inr hm))
          clear hb1 hbo
          go_wp2_with fail
          go_roundw
          case rel => exact ⟨ts, m, n, _, ct, by rw [hq], HS2.out⟩
          case measure => rw [HS2.out.set.eq, HST.out.set.eq]; show Gc.ms s m q < Gc.ms s m (q + 1); unfold Gc.ms; omega
        · have hm' : m d = false := by simpa using hm
          rw [hm'] at hlk
          obtain ⟨hlb, hdg⟩ := Ob.fnd_at hf'
          have hlk30 := Gc.lk_len HOK.out hf'
          have HUN := Lib.hid (Gc.un_ins m d hm' s ((Ob.fnd_iff HOK.out.sorted d).1 hf'))
          have HMS := Lib.hid (Gc.ms_add HOK.out hm' hf' q)
          have HMA := Lib.hid (HST.out.ms.add hf')
          obtain ⟨w2, hput, hset2, hg2⟩ := HS1.out.set.put (by have := HS1.out.cnt; unfold maxLen; omega) HD
          have hsz1 := HS1.out.hi
          have hsz2 := hg2.size
          have hne2 : some (w.heap.size + 1) ≠ (Value.slice (some ⟨g, 0, none⟩) (ts ++ [d]).length ct).ownBlock := fun e => by have := (HS1.out.own.lt _ e.symm).1; omega
          have own2 := own_take (m := q) (HS1.out.own.kept hg2 (Or.inr hne2.symm)) (by simp; omega)
          have hxs : (intsV (ts ++ [d])).take q = intsV ts := by rw [← hq]; simp [intsV]
          rw [hxs] at own2
          have hbw2 : Below w.heap.size w w2 := HS1.out.bel.grown hg2 HS1.out.bel.size (fun j hj => by cases hj; omega)
          have HBO2 := Lib.hid (HS1.out.bo.grown hg2 (by simp))
          obtain ⟨b, off, Al, kl, Ad, kd, e, hb, _, d0, d1, d2, d3, hx, hob⟩ := HROW.out w2 hbw2 _ hlb
          subst e
          have HSET := Lib.hid hset2
          have hsv := hob.ls.sv
          have HALL := Lib.hid hob.all
          have hbo2 := HBO2.out.cell 0
          simp only [List.getElem?_toArray, List.getElem?_cons_zero] at hbo2
          have HLK := Lib.hid (show Gc.lk s d = (Ob.it s (Ob.lb s d)).ob.links from rfl)
          rw [HLK.out] at hlk30
          have hib : ((Ob.lb s d : Nat) : Int) < (s.length : Int) := by omega
          clear hob hx hset2 hb1 hbo
          generalize (Ob.it s (Ob.lb s d)).ob.links = ls at *
          generalize hi : Ob.lb s d = i at *
          have h63 : q + ls.length ≤ maxLen := by unfold maxLen; omega
          have hby : (q + ls.length) * 8 ≤ 140737488355328 := by omega
          have hbase : w.heap.size + 2 ≤ w2.heap.size := by omega
          go_wp2_with (first
            | (at_builtin; refine wpList_appN _ rfl (.tmp 42) (.tmp 49) 31 rfl (w.heap.size + 2) 3 i0 (.int .i64 0) 1 8 Tryz.underlying31 hi0 hz0 hz1 hz2 rfl (by decide) (some ⟨g, 0, none⟩) q ct (intsV ts) rfl own2 w2.heap.size Al ls.length kl (intsV ls) rfl (by simp) hsv (intsV_one _) h63 hby hbase ?_; intro A' k' w3 hown3 hg3 hk3))
          have hlen : (ts ++ ls).length = q + ls.length := by rw [List.length_append, hq]
          have hne3 : some (w.heap.size + 1) ≠ (Value.slice (some ⟨g, 0, none⟩) q ct).ownBlock := fun e => by have := (own2.lt _ e.symm).1; omega
          have hne0 : some w.heap.size ≠ (Value.slice (some ⟨g, 0, none⟩) q ct).ownBlock := fun e => by have := (own2.lt _ e.symm).1; omega
          have hset3 := HSET.out.kept hg3 hne3
          have hsz3 := hg3.size
          have hma := HMA.out
          rw [HLK.out] at hma
          have hms := HMS.out
          rw [HLK.out] at hms
          refine ⟨⟨ts ++ ls, Gc.ins m d, n + 1, A', k', by rw [hlen], ?_⟩, ?_⟩
          · refine ⟨HBO2.out.grown hg3 hne0, hset3, ?_, hma, ?_, ?_, fun x hx => ?_, hbw2.grown hg3 hbw2.size (fun j hj => by have := (own2.lt _ hj).1; omega), by omega⟩
            · rw [hlen, intsV_append]; exact hown3
            · have := HUN.out; have := HST.out.cnt; omega
            · rw [hlen]; have := HST.out.ln; rw [List.length_append, hq] at this; exact Nat.le_of_lt (Nat.lt_of_lt_of_le hms this)
            · rcases List.mem_append.1 hx with h3 | h3
              · exact HST.out.all x (List.mem_append_left _ h3)
              · obtain ⟨j, hj, rfl⟩ := List.mem_iff_getElem.1 h3
                exact HALL.out j hj
          · rw [hset3.eq, HST.out.set.eq]; exact hms
end Go.Proofs.YtipjejnncnndeaaGreatDoor
namespace Go.Proofs.YtipjejnncnndeaaGreatDoor
open Go.RowKit Go.V
set_option linter.unusedVariables false

/-- The state of 'Mark': the parameter's copy and the result's cells. -/
structure MkSt (w wr : World) (A : Option Addr) (n k : Nat) : Prop where
  bo : Blk wr w.heap.size 24 #[.slice A n k]
  r1 : Blk wr (w.heap.size + 1) 33 #[.int .i64 0, .int .i64 0]
  bel : Below w.heap.size w wr
section
variable {w wr w' : World} {A : Option Addr} {n k : Nat}
theorem MkSt.below (h : MkSt w wr A n k) (hb : Below wr.heap.size wr w') : MkSt w w' A n k :=
  ⟨h.bo.below hb h.bo.lt, h.r1.below hb h.r1.lt, h.bel.trans (hb.mono h.bel.size)⟩
theorem MkSt.facts (h : MkSt w wr A n k) : wr.cell? ⟨w.heap.size, 0, none⟩ = some (.slice A n k) ∧ wr.cell? ⟨w.heap.size + 1, 0, none⟩ = some (.int .i64 0) ∧ wr.cell? ⟨w.heap.size + 1, 1, none⟩ = some (.int .i64 0) ∧
    wr.frozen? ⟨w.heap.size + 1, 0, none⟩ = false ∧ wr.frozen? ⟨w.heap.size + 1, 1, none⟩ = false ∧ w.heap.size + 1 < wr.heap.size :=
  ⟨(h.bo.cell 0).trans rfl, (h.r1.cell 0).trans rfl, (h.r1.cell 1).trans rfl, h.r1.frozen _, h.r1.frozen _, h.r1.lt⟩
end
/-- What 'Mark' answers at a valid store. -/
def MrPost (w : World) (s : List Ob.S) (rs : List Int) (e : Ending) (w' : World) : Prop := ∃ A c L, e = .returned (.tuple #[.slice A L.length c, .agg #[.int .i64 0, .int .i64 0]]) ∧ SA w' (Under w.heap.size) A (intsV L) ∧ Gc.Mk s rs L ∧ L.length ≤ 1000000 ∧ Below w.heap.size w w'
set_option maxRecDepth 100000 in
set_option maxHeartbeats 8000000 in
theorem mark_any (w : World) (A : Option Addr) (k : Nat) (s : List Ob.S) (Ar : Option Addr) (kr : Nat) (rs : List Int) (hv : StV w Free A s) (hok : Ob.StOk s) (hr : SA w Free Ar (intsV rs)) (hrl : rs.length ≤ 50) (hri : ∀ d ∈ rs, I64 d) :
    Calls Tryz.prog 5 #[stV A s.length k, .slice Ar rs.length kr] w (MrPost w s rs) := by
  have hl40 := hok.len
  have HV := Lib.hid (fun (w1 : World) (hb : Below w.heap.size w w1) => validate_any w1 A k s (hv.keep (free_below hb)) (by omega))
  have HR := Lib.hid (fun (w1 : World) (hb : Below w.heap.size w w1) => reach_any w1 A k s Ar kr rs (hv.keep (free_below hb)) hok (hr.keep (free_below hb)) (by omega) hri)
  have HOK := Lib.hid hok.f
  have h50 : ¬ (50 : Int) < (rs.length : Int) := by omega
  have st0 : MkSt w ((w.alloc (.cells #[.slice A s.length k] 24)).alloc (.cells #[.int .i64 0, .int .i64 0] 33)) A s.length k := ⟨(Blk.new _ _ _).alloc _, blk_new1 _ _ _ _, below_alloc2 _ _ _⟩
  clear hv hok hr hri
  go_enter Tryz.func5, Tryz.ntmps5
  go_wp2_with fail
  go_at_call 11
  refine (HV.out _ st0.bel).mono ?_
  rintro e w1 ⟨rfl, hb1⟩
  rw [HOK.out]
  have st1 := (st0.below hb1).below (below_alloc1 w1 (.cells #[.int .i64 0, .int .i64 0] 33))
  obtain ⟨p0, p1, p2, p3, p4, l1⟩ := st1.facts
  have hwl : w.heap.size + 1 < w1.heap.size := (st0.below hb1).r1.lt
  clear hb1
  go_wp2_with fail
  go_at_call 13
  refine (HR.out _ st1.bel).mono ?_
  rintro e w2 ⟨b, n, m, rfl, hset, hm, hn, hbl, hb2⟩
  have HSO := Lib.hid (sorted_any w2 b n m hset (by omega))
  have st2 := st1.below hb2
  clear hset p0 p1 p2 p3 p4 l1 st0 HR HV
  go_wp2_with fail
  go_at_call 12
  refine HSO.out.mono ?_
  rintro e w3 ⟨A3, c3, L, rfl, hsa, hup, hmem, hll, hb3⟩
  have st3 := st2.below hb3
  obtain ⟨p0, p1, p2, p3, p4, l1⟩ := st3.facts
  have hmk : Gc.Mk s rs L := ⟨hup, fun d => (hmem d).trans (hm d)⟩
  have hsz2 := hb2.size
  have hszw := st1.bel.size
  have HSA := Lib.hid hsa
  clear hsa hmem hm hup st1 st2 hb2 hb3
  go_wp2_with fail
  refine bodyPost_ret (results_tc rfl _ _ (w.heap.size + 1) (.int .i64 0) (.int .i64 0) rfl ?hx) rfl ?_
  case hx => exact blk_put2 st3.r1 _ _
  exact ⟨A3, c3, L, rfl, HSA.out.keep (((Keeps.setCell w3 _ ⟨w.heap.size + 1, 0, none⟩ (.int .i64 0) (by unfold Under; simp at hszw hsz2 ⊢; omega)).trans (Keeps.setCell _ _ ⟨w.heap.size + 1, 1, none⟩ (.int .i64 0) (by unfold Under; simp at hszw hsz2 ⊢; omega))).into fun x hx => by unfold Under at *; simp at hszw hsz2; omega), hmk, hll, (st3.bel.setCell (by simp) _).setCell (by simp) _⟩
end Go.Proofs.YtipjejnncnndeaaGreatDoor
namespace Go.Proofs.YtipjejnncnndeaaGreatDoor
open Go.RowKit Go.V
set_option linter.unusedVariables false

set_option maxRecDepth 100000 in
set_option maxHeartbeats 4000000 in
theorem noLease_any (w : World) : Calls Tryz.prog 16 #[.slice none 0 0, .int .i64 0] w fun e w' => e = .returned (.agg #[.int .i64 0, .int .i64 0]) ∧ Below w.heap.size w w' := by
  go_enter Tryz.func16, Tryz.ntmps16
  go_wp2_with fail
  refine wp_loop_rounds 1 ?_
  rw [rounds_succ]
  go_wp2_with fail
  refine bodyPost_ret (results_c rfl _ _ w.heap.size (.int .i64 0) (.int .i64 0) rfl (Blk.new w 33 _)) rfl ?_
  exact ⟨rfl, below_alloc1 w _⟩
end Go.Proofs.YtipjejnncnndeaaGreatDoor
namespace Rf
/-- The letters of a component. -/
def letters : List UInt8 := [97, 98, 99, 100, 101, 102, 103, 104, 105, 106, 107, 108, 109, 110, 111, 112, 113, 114, 115, 116, 117, 118, 119, 120, 121, 122, 48, 49, 50, 51, 52, 53, 54, 55, 56, 57, 45, 95, 46]
def badR (c : Nat) : Bool := (decide (c < 97) || decide (122 < c)) && (decide (c < 48) || decide (57 < c)) && decide (c ≠ 45) && decide (c ≠ 95) && decide (c ≠ 46)
theorem letters_ok (b : UInt8) : letters.contains b = !badR b.toNat := by
  revert b
  have : ∀ n : Fin 256, letters.contains (UInt8.ofNat n.val) = !badR (UInt8.ofNat n.val).toNat := by decide +kernel
  intro b
  have h := this ⟨b.toNat, b.toNat_lt⟩
  simpa using h
/-- A component of a name. -/
def comp (l : List UInt8) : Bool := !l.isEmpty && !(l[0]?.getD 0 == 46) && !(Go.Lib.hasSuffix l [46, 108, 111, 99, 107]) && !(Go.Lib.contains l [46, 46]) && l.all (fun b => letters.contains b)
theorem dw_nil (p : UInt8 → Bool) : ∀ l : List UInt8, l.dropWhile p = [] ↔ ∀ x ∈ l, p x = true
  | [] => by simp
  | a :: l => by
    by_cases ha : p a = true
    · rw [List.dropWhile_cons_of_pos ha, dw_nil p l]; simp [ha]
    · rw [List.dropWhile_cons_of_neg ha]; simp [ha]
theorem trim_nil (l cs : List UInt8) : (Go.Lib.trimS l cs).isEmpty = l.all (fun b => cs.contains b) := by
  rw [Bool.eq_iff_iff, List.isEmpty_iff, List.all_eq_true]
  unfold Go.Lib.trimS Go.Lib.trimLeftS Go.Lib.trimRightS
  constructor
  · intro h
    have h1 : ∀ x ∈ (l.reverse.dropWhile (cs.contains ·)).reverse, cs.contains x = true := by
      intro x hx
      by_cases hc : cs.contains x = true
      · exact hc
      · exfalso
        have : (List.dropWhile (cs.contains ·) ((l.reverse.dropWhile (cs.contains ·)).reverse)) ≠ [] := by
          intro h0
          rw [dw_nil] at h0
          exact hc (h0 x hx)
        exact this h
    have h2 : l.reverse.dropWhile (cs.contains ·) = [] := by
      cases hd : l.reverse.dropWhile (cs.contains ·) with
      | nil => rfl
      | cons a r =>
        exfalso
        have ha : cs.contains a = true := h1 a (by rw [hd]; simp)
        have := List.head_dropWhile_not (p := (cs.contains ·)) (l := l.reverse) (by rw [hd]; simp)
        simp only [hd, List.head_cons] at this
        rw [ha] at this; cases this
    intro x hx
    rw [dw_nil] at h2
    exact h2 x (by simpa using hx)
  · intro h
    have h2 : l.reverse.dropWhile (cs.contains ·) = [] := by
      rw [dw_nil]
      intro x hx; exact h x (by simpa using hx)
    rw [h2]; rfl
end Rf
namespace Go.Proofs.YtipjejnncnndeaaGreatDoor.RF
open Go.RowKit Go.Shelf Go.Lib
set_option linter.unusedVariables false

/-- A string of bytes. -/
abbrev strV (l : List UInt8) : Value := .string ⟨l.toArray⟩
theorem badR_any (W : World) (x : Nat) (h : x ≤ 1114111) : FnGives Tryz.prog 77 #[] #[encR x] (.bool (Rf.badR x)) W := by
  unfold FnGives encR
  have hcase : (0 ≤ x ∧ x ≤ 44) ∨ x = 45 ∨ x = 46 ∨ x = 47 ∨ (48 ≤ x ∧ x ≤ 57) ∨ (58 ≤ x ∧ x ≤ 94) ∨ x = 95 ∨ x = 96 ∨ (97 ≤ x ∧ x ≤ 122) ∨ (123 ≤ x ∧ x ≤ 1114111) := by omega
  rcases hcase with ⟨h1, h2⟩ | rfl | rfl | rfl | ⟨h1, h2⟩ | ⟨h1, h2⟩ | rfl | rfl | ⟨h1, h2⟩ | ⟨h1, h2⟩
  · have HQ : Hid (Rf.badR x = true) := Lib.hid (by
      unfold Rf.badR
      rw [Bool.eq_iff_iff]
      simp only [Bool.and_eq_true, Bool.or_eq_true, decide_eq_true_eq]
      simp
      try omega)
    have f0 : (x : Int) < 97 := by omega
    have d0 : decide ((x : Int) < 97) = true := by simp; omega
    have f1 : ¬ (122 : Int) < x := by omega
    have d1 : decide ((122 : Int) < x) = false := by simp; omega
    have f2 : (x : Int) < 48 := by omega
    have d2 : decide ((x : Int) < 48) = true := by simp; omega
    have f3 : ¬ (57 : Int) < x := by omega
    have d3 : decide ((57 : Int) < x) = false := by simp; omega
    have g45 : ((x : Int) != 45) = true := by simp; omega
    have g95 : ((x : Int) != 95) = true := by simp; omega
    have g46 : ((x : Int) != 46) = true := by simp; omega
    go_enter Tryz.func77, Tryz.ntmps77
    go_wp2
    go_ret
    exact ⟨by rw [HQ.out]; rfl, 0, rfl⟩
  · have HQ : Hid (Rf.badR 45 = false) := Lib.hid (by decide)
    go_enter Tryz.func77, Tryz.ntmps77
    go_wp2
    go_ret
    exact ⟨by rw [HQ.out]; rfl, 0, rfl⟩
  · have HQ : Hid (Rf.badR 46 = false) := Lib.hid (by decide)
    go_enter Tryz.func77, Tryz.ntmps77
    go_wp2
    go_ret
    exact ⟨by rw [HQ.out]; rfl, 0, rfl⟩
  · have HQ : Hid (Rf.badR 47 = true) := Lib.hid (by decide)
    go_enter Tryz.func77, Tryz.ntmps77
    go_wp2
    go_ret
    exact ⟨by rw [HQ.out]; rfl, 0, rfl⟩
  · have HQ : Hid (Rf.badR x = false) := Lib.hid (by
      unfold Rf.badR
      rw [Bool.eq_iff_iff]
      simp only [Bool.and_eq_true, Bool.or_eq_true, decide_eq_true_eq]
      simp
      try omega)
    have f0 : (x : Int) < 97 := by omega
    have d0 : decide ((x : Int) < 97) = true := by simp; omega
    have f1 : ¬ (122 : Int) < x := by omega
    have d1 : decide ((122 : Int) < x) = false := by simp; omega
    have f2 : ¬ (x : Int) < 48 := by omega
    have d2 : decide ((x : Int) < 48) = false := by simp; omega
    have f3 : ¬ (57 : Int) < x := by omega
    have d3 : decide ((57 : Int) < x) = false := by simp; omega
    have g45 : ((x : Int) != 45) = true := by simp; omega
    have g95 : ((x : Int) != 95) = true := by simp; omega
    have g46 : ((x : Int) != 46) = true := by simp; omega
    go_enter Tryz.func77, Tryz.ntmps77
    go_wp2
    go_ret
    exact ⟨by rw [HQ.out]; rfl, 0, rfl⟩
  · have HQ : Hid (Rf.badR x = true) := Lib.hid (by
      unfold Rf.badR
      rw [Bool.eq_iff_iff]
      simp only [Bool.and_eq_true, Bool.or_eq_true, decide_eq_true_eq]
      simp
      try omega)
    have f0 : (x : Int) < 97 := by omega
    have d0 : decide ((x : Int) < 97) = true := by simp; omega
    have f1 : ¬ (122 : Int) < x := by omega
    have d1 : decide ((122 : Int) < x) = false := by simp; omega
    have f2 : ¬ (x : Int) < 48 := by omega
    have d2 : decide ((x : Int) < 48) = false := by simp; omega
    have f3 : (57 : Int) < x := by omega
    have d3 : decide ((57 : Int) < x) = true := by simp; omega
    have g45 : ((x : Int) != 45) = true := by simp; omega
    have g95 : ((x : Int) != 95) = true := by simp; omega
    have g46 : ((x : Int) != 46) = true := by simp; omega
    go_enter Tryz.func77, Tryz.ntmps77
    go_wp2
    go_ret
    exact ⟨by rw [HQ.out]; rfl, 0, rfl⟩
  · have HQ : Hid (Rf.badR 95 = false) := Lib.hid (by decide)
    go_enter Tryz.func77, Tryz.ntmps77
    go_wp2
    go_ret
    exact ⟨by rw [HQ.out]; rfl, 0, rfl⟩
  · have HQ : Hid (Rf.badR 96 = true) := Lib.hid (by decide)
    go_enter Tryz.func77, Tryz.ntmps77
    go_wp2
    go_ret
    exact ⟨by rw [HQ.out]; rfl, 0, rfl⟩
  · have HQ : Hid (Rf.badR x = false) := Lib.hid (by
      unfold Rf.badR
      rw [Bool.eq_iff_iff]
      simp only [Bool.and_eq_true, Bool.or_eq_true, decide_eq_true_eq]
      simp
      try omega)
    have f0 : ¬ (x : Int) < 97 := by omega
    have d0 : decide ((x : Int) < 97) = false := by simp; omega
    have f1 : ¬ (122 : Int) < x := by omega
    have d1 : decide ((122 : Int) < x) = false := by simp; omega
    have f2 : ¬ (x : Int) < 48 := by omega
    have d2 : decide ((x : Int) < 48) = false := by simp; omega
    have f3 : (57 : Int) < x := by omega
    have d3 : decide ((57 : Int) < x) = true := by simp; omega
    have g45 : ((x : Int) != 45) = true := by simp; omega
    have g95 : ((x : Int) != 95) = true := by simp; omega
    have g46 : ((x : Int) != 46) = true := by simp; omega
    go_enter Tryz.func77, Tryz.ntmps77
    go_wp2
    go_ret
    exact ⟨by rw [HQ.out]; rfl, 0, rfl⟩
  · have HQ : Hid (Rf.badR x = true) := Lib.hid (by
      unfold Rf.badR
      rw [Bool.eq_iff_iff]
      simp only [Bool.and_eq_true, Bool.or_eq_true, decide_eq_true_eq]
      simp
      try omega)
    have f0 : ¬ (x : Int) < 97 := by omega
    have d0 : decide ((x : Int) < 97) = false := by simp; omega
    have f1 : (122 : Int) < x := by omega
    have d1 : decide ((122 : Int) < x) = true := by simp; omega
    have f2 : ¬ (x : Int) < 48 := by omega
    have d2 : decide ((x : Int) < 48) = false := by simp; omega
    have f3 : (57 : Int) < x := by omega
    have d3 : decide ((57 : Int) < x) = true := by simp; omega
    have g45 : ((x : Int) != 45) = true := by simp; omega
    have g95 : ((x : Int) != 95) = true := by simp; omega
    have g46 : ((x : Int) != 46) = true := by simp; omega
    go_enter Tryz.func77, Tryz.ntmps77
    go_wp2
    go_ret
    exact ⟨by rw [HQ.out]; rfl, 0, rfl⟩
theorem idx_none (p : Nat → Bool) (s : ByteArray) (h : ∀ i (hi : i < s.size), (s[i]'hi).toNat < 128 ∧ p (s[i]'hi).toNat = false) : ∀ f pos, idxFuncFrom p true s f pos = -1
  | 0, _ => rfl
  | f + 1, pos => by
    unfold idxFuncFrom
    split
    · rename_i hp
      rw [decode_ascii s pos hp (h pos hp).1]
      rw [if_neg (by rw [(h pos hp).2]; simp)]
      exact idx_none p s h f _
    · rfl
theorem idx_ok {l : List UInt8} (h : (l.all fun b => Rf.letters.contains b) = true) : decide (0 ≤ Lib.idxFunc Rf.badR true ⟨l.toArray⟩) = false := by
  have : Lib.idxFunc Rf.badR true ⟨l.toArray⟩ = -1 := by
    refine idx_none Rf.badR ⟨l.toArray⟩ (fun i hi => ?_) _ _
    have hi' : i < l.length := by simpa [ByteArray.size] using hi
    have e : (⟨l.toArray⟩ : ByteArray)[i]'hi = l[i] := rfl
    rw [e]
    have hm := List.all_eq_true.1 h l[i] (List.getElem_mem hi')
    have hb := Rf.letters_ok l[i]
    rw [hm] at hb
    refine ⟨?_, by simpa using hb.symm⟩
    have : ∀ b ∈ Rf.letters, b.toNat < 128 := by decide
    exact this _ (by simpa using hm)
  rw [this]; rfl
set_option maxRecDepth 100000 in
set_option maxHeartbeats 4000000 in
theorem component_any (w : World) (l : List UInt8) (hl : l.length ≤ 60) (m : Int) (hm : w.cell? ⟨0, 0, none⟩ = some (.int .i64 m)) :
    Calls Tryz.prog 46 #[strV l] w fun e w' => e = .returned (.bool (Rf.comp l)) ∧ Below w.heap.size w w' := by
  have hsz : (⟨l.toArray⟩ : ByteArray).size = l.length := by simp [ByteArray.size]
  have HSUF := Lib.hid (Tryz.strings_HasSuffix ⟨l.toArray⟩ ⟨#[46, 108, 111, 99, 107]⟩ w (by rw [hsz]; omega))
  have HCON := Lib.hid (Tryz.strings_Contains ⟨l.toArray⟩ ⟨#[46, 46]⟩ m w (by rw [hsz]; omega) hm)
  have hT := Any.strings_Trim_laid Tryz.lays160 (by kernel_rfl) ⟨l.toArray⟩ ⟨Rf.letters.toArray⟩ w (by rw [hsz]; omega) (by decide) (ascii_of_all (by decide))
  change Calls Tryz.prog 75 _ _ (fun e w' => e = .returned (.string ⟨(Lib.trimS l Rf.letters).toArray⟩) ∧ Below w.heap.size w w') at hT
  have HT := Lib.hid hT
  have HC := Lib.hid (fun (w1 : World) => Tryz.strings_ContainsFunc_runes 77 #[] (enters_of Tryz.func77 (by kernel_rfl) rfl) Rf.badR ⟨l.toArray⟩ w1 (fun W x hx _ => badR_any W x hx))
  have HTN := Lib.hid (Rf.trim_nil l Rf.letters)
  have HIX := Lib.hid (fun h => idx_ok (l := l) h)
  have HDEF := Lib.hid (show Rf.comp l = (!l.isEmpty && !(l[0]?.getD 0 == 46) && !(Lib.hasSuffix l [46, 108, 111, 99, 107]) && !(Lib.contains l [46, 46]) && l.all (fun b => Rf.letters.contains b)) from rfl)
  clear hT hsz
  generalize Rf.comp l = q at *
  by_cases h0 : l = []
  · subst h0
    have HQ : Hid (q = false) := Lib.hid (by rw [HDEF.out]; rfl)
    clear HSUF HCON HT HC HTN HIX HDEF
    go_enter Tryz.func46, Tryz.ntmps46
    go_wp2_with fail
    go_ret
    exact ⟨by rw [HQ.out]; rfl, Below.refl _ _⟩
  · obtain ⟨b, r, rfl⟩ : ∃ b r, l = b :: r := by cases l with | nil => exact absurd rfl h0 | cons b r => exact ⟨b, r, rfl⟩
    clear h0
    by_cases hb : b = 46
    · subst hb
      have HQ : Hid (q = false) := Lib.hid (by rw [HDEF.out]; simp)
      clear HSUF HCON HT HC HTN HIX HDEF
      go_enter Tryz.func46, Tryz.ntmps46
      go_wp2_with fail
      go_ret
      exact ⟨by rw [HQ.out]; rfl, Below.refl _ _⟩
    · have hbi : ((b.toNat : Int) == 46) = false := by
        have : b.toNat ≠ 46 := fun e => hb (by rw [← UInt8.toNat_inj]; exact e)
        simp; omega
      have hget : ∀ h, (⟨(b :: r).toArray⟩ : ByteArray)[0]'h = b := fun _ => rfl
      have hb8 : (b == 46) = false := by simpa using hb
      clear hb
      by_cases h1 : Lib.hasSuffix (b :: r) [46, 108, 111, 99, 107] = true
      · have HQ : Hid (q = false) := Lib.hid (by rw [HDEF.out, h1]; simp)
        rw [show (⟨(b :: r).toArray⟩ : ByteArray).data.toList = b :: r from rfl, show (⟨#[46, 108, 111, 99, 107]⟩ : ByteArray).data.toList = [46, 108, 111, 99, 107] from rfl, h1] at HSUF
        clear HCON HT HC HTN HIX HDEF h1 hb8
        go_enter Tryz.func46, Tryz.ntmps46
        go_wp2_with (first | (go_at_call 73; refine HSUF.out.mono ?_; rintro e w' ⟨rfl, rfl⟩))
        go_ret
        exact ⟨by rw [HQ.out]; rfl, Below.refl _ _⟩
      · have h1f : Lib.hasSuffix (b :: r) [46, 108, 111, 99, 107] = false := by simpa using h1
        rw [show (⟨(b :: r).toArray⟩ : ByteArray).data.toList = b :: r from rfl, show (⟨#[46, 108, 111, 99, 107]⟩ : ByteArray).data.toList = [46, 108, 111, 99, 107] from rfl, h1f] at HSUF
        by_cases h2 : Lib.contains (b :: r) [46, 46] = true
        · have HQ : Hid (q = false) := Lib.hid (by rw [HDEF.out, h2]; simp)
          rw [show (⟨(b :: r).toArray⟩ : ByteArray).data.toList = b :: r from rfl, show (⟨#[46, 46]⟩ : ByteArray).data.toList = [46, 46] from rfl, h2] at HCON
          clear HT HC HTN HIX HDEF h1 h1f h2 hb8
          go_enter Tryz.func46, Tryz.ntmps46
          go_wp2_with (first | (go_at_call 73; refine HSUF.out.mono ?_; rintro e w' ⟨rfl, rfl⟩) | (go_at_call 74; refine HCON.out.mono ?_; rintro e w' ⟨rfl, rfl⟩))
          go_ret
          exact ⟨by rw [HQ.out]; rfl, Below.refl _ _⟩
        · have h2f : Lib.contains (b :: r) [46, 46] = false := by simpa using h2
          rw [show (⟨(b :: r).toArray⟩ : ByteArray).data.toList = b :: r from rfl, show (⟨#[46, 46]⟩ : ByteArray).data.toList = [46, 46] from rfl, h2f] at HCON
          by_cases h3 : ((b :: r).all fun b => Rf.letters.contains b) = true
          · have HQ : Hid (q = true) := Lib.hid (by rw [HDEF.out, h1f, h2f, h3, List.getElem?_cons_zero]; simp [hb8])
            have ht : Lib.trimS (b :: r) Rf.letters = [] := by have := HTN.out; rw [h3] at this; simpa using this
            rw [ht] at HT
            have HC2 := Lib.hid (fun w1 => (HC.out w1))
            rw [HIX.out h3] at HC
            clear HC2 HTN HIX HDEF h1 h1f h2 h2f h3 hb8 ht
            go_enter Tryz.func46, Tryz.ntmps46
            go_wp2_with (first | (go_at_call 73; refine HSUF.out.mono ?_; rintro e w' ⟨rfl, rfl⟩) | (go_at_call 74; refine HCON.out.mono ?_; rintro e w' ⟨rfl, rfl⟩) | (go_at_call 75; refine HT.out.mono ?_; rintro e w1 ⟨rfl, hb1⟩) | (go_at_call 76; refine (HC.out _).mono ?_; rintro e w2 ⟨rfl, hb2⟩))
            go_ret
            exact ⟨by rw [HQ.out]; rfl, hb1.trans (hb2.mono hb1.size)⟩
          · have h3f : ((b :: r).all fun b => Rf.letters.contains b) = false := by simpa using h3
            have HQ : Hid (q = false) := Lib.hid (by rw [HDEF.out, h3f]; simp)
            have ht : ∃ a c, Lib.trimS (b :: r) Rf.letters = a :: c := by
              have := HTN.out; rw [h3f] at this
              cases he : Lib.trimS (b :: r) Rf.letters with
              | nil => rw [he] at this; cases this
              | cons a c => exact ⟨a, c, rfl⟩
            obtain ⟨a, c, ht⟩ := ht
            rw [ht] at HT
            clear HC HTN HIX HDEF h1 h1f h2 h2f h3 h3f hb8 ht
            go_enter Tryz.func46, Tryz.ntmps46
            go_wp2_with (first | (go_at_call 73; refine HSUF.out.mono ?_; rintro e w' ⟨rfl, rfl⟩) | (go_at_call 74; refine HCON.out.mono ?_; rintro e w' ⟨rfl, rfl⟩) | (go_at_call 75; refine HT.out.mono ?_; rintro e w1 ⟨rfl, hb1⟩))
            go_ret
            exact ⟨by rw [HQ.out]; rfl, hb1⟩
end Go.Proofs.YtipjejnncnndeaaGreatDoor.RF
namespace Rf
/-- The components of a name; now: what has come of the one at hand. -/
def cmp (now : List UInt8) : List UInt8 → List (List UInt8)
  | [] => [now]
  | c :: l => if c = 47 then now :: cmp [] l else cmp (now ++ [c]) l
def comps (l : List UInt8) : List (List UInt8) := cmp [] l
theorem cmp_no (now : List UInt8) : ∀ l : List UInt8, 47 ∉ l → cmp now l = [now ++ l]
  | [], _ => by simp [cmp]
  | c :: l, h => by
    rw [cmp, if_neg (fun e => h (by simp [e])), cmp_no _ l (fun h2 => h (List.mem_cons_of_mem _ h2))]
    simp
theorem cmp_sep (now : List UInt8) : ∀ a l : List UInt8, 47 ∉ a → cmp now (a ++ 47 :: l) = (now ++ a) :: comps l
  | [], l, _ => by simp [cmp, comps]
  | c :: a, l, h => by
    rw [List.cons_append, cmp, if_neg (fun e => h (by simp [e])), cmp_sep _ a l (fun h2 => h (List.mem_cons_of_mem _ h2))]
    simp
theorem comps_no {l : List UInt8} (h : 47 ∉ l) : comps l = [l] := by unfold comps; rw [cmp_no _ _ h]; rfl
theorem comps_sep {a : List UInt8} (l : List UInt8) (h : 47 ∉ a) : comps (a ++ 47 :: l) = a :: comps l := by unfold comps; rw [cmp_sep _ _ _ h]; rfl
theorem cmp_len (now : List UInt8) : ∀ l : List UInt8, (cmp now l).length ≤ l.length + 1
  | [] => by simp [cmp]
  | c :: l => by
    rw [cmp]; split
    · have := cmp_len [] l; simp; omega
    · have := cmp_len (now ++ [c]) l; simp; omega
theorem comps_len (l : List UInt8) : (comps l).length ≤ l.length + 1 := cmp_len [] l
theorem cmp_mem : ∀ (now l : List UInt8) (x : List UInt8), x ∈ cmp now l → x.length ≤ now.length + l.length
  | now, [], x, h => by simp [cmp] at h; subst h; simp
  | now, c :: l, x, h => by
    rw [cmp] at h; split at h
    · rcases List.mem_cons.1 h with rfl | h
      · omega
      · have := cmp_mem [] l x h; simp at this ⊢; omega
    · have := cmp_mem (now ++ [c]) l x h; simp at this ⊢; omega
theorem comps_mem (l x : List UInt8) (h : x ∈ comps l) : x.length ≤ l.length := by have := cmp_mem [] l x h; simpa using this
theorem comps_ne (l : List UInt8) : comps l ≠ [] := by
  unfold comps
  generalize ([] : List UInt8) = now
  induction l generalizing now with
  | nil => simp [cmp]
  | cons c l ih => rw [cmp]; split <;> simp [ih]
/-- A list is without a slash, or it is split at the first one. -/
theorem split47 (l : List UInt8) : 47 ∉ l ∨ ∃ a r, l = a ++ 47 :: r ∧ 47 ∉ a := by
  induction l with
  | nil => exact .inl (by simp)
  | cons c l ih =>
    by_cases hc : c = 47
    · exact .inr ⟨[], l, by simp [hc], by simp⟩
    · rcases ih with h | ⟨a, r, h, ha⟩
      · exact .inl (by simp [h, Ne.symm hc])
      · exact .inr ⟨c :: a, r, by simp [h], by simp [ha, Ne.symm hc]⟩
/-- A valid name. -/
def nameOk (l : List UInt8) : Bool := decide (l.length ≤ 60) && (comps l).all comp
/-- One name lies below another: its components go on. -/
theorem comps_pre : ∀ (n : Nat) (b a : List UInt8), b.length ≤ n → ((∃ r, a = b ++ 47 :: r) ↔ (∃ x, x ≠ [] ∧ comps a = comps b ++ x))
  | n, b, a, hn => by
    rcases split47 b with hb | ⟨b1, b2, rfl, hb⟩
    · rw [comps_no hb]
      constructor
      · rintro ⟨r, rfl⟩
        exact ⟨comps r, comps_ne r, by rw [comps_sep r hb]; rfl⟩
      · rintro ⟨x, hx, he⟩
        rcases split47 a with ha | ⟨a1, a2, rfl, ha⟩
        · rw [comps_no ha] at he
          injection he with _ h2
          exact absurd h2.symm (by simpa using hx)
        · rw [comps_sep a2 ha] at he
          injection he with h1 _
          exact ⟨a2, by rw [h1]⟩
    · have hn2 : b2.length ≤ n - 1 := by simp at hn; omega
      have hn1 : 0 < n := by simp at hn; omega
      rw [comps_sep b2 hb]
      rcases split47 a with ha | ⟨a1, a2, rfl, ha⟩
      · rw [comps_no ha]
        constructor
        · rintro ⟨r, rfl⟩
          exact absurd (by simp) ha
        · rintro ⟨x, hx, he⟩
          injection he with _ h2
          exact absurd h2.symm (by simp [comps_ne])
      · rw [comps_sep a2 ha]
        have ih := comps_pre (n - 1) b2 a2 hn2
        constructor
        · rintro ⟨r, he⟩
          have e1 : a1 = b1 ∧ a2 = b2 ++ 47 :: r := by
            rw [List.append_assoc, List.cons_append] at he
            exact sep_inj ha hb he
          obtain ⟨x, hx, he2⟩ := ih.1 ⟨r, e1.2⟩
          exact ⟨x, hx, by rw [e1.1, he2]; rfl⟩
        · rintro ⟨x, hx, he⟩
          injection he with h1 h2
          obtain ⟨r, hr⟩ := ih.2 ⟨x, hx, h2⟩
          exact ⟨r, by rw [h1, hr, List.append_assoc]; rfl⟩
termination_by n => n
where
  sep_inj : ∀ {a1 b1 a2 c : List UInt8}, 47 ∉ a1 → 47 ∉ b1 → a1 ++ 47 :: a2 = b1 ++ 47 :: c → a1 = b1 ∧ a2 = c
    | [], [], a2, c, _, _, h => by simpa using h
    | [], y :: b1, a2, c, _, h2, h => by
      rw [List.nil_append, List.cons_append] at h; injection h with h3 _; exact absurd (by simp [h3]) h2
    | x :: a1, [], a2, c, h1, _, h => by
      rw [List.nil_append, List.cons_append] at h; injection h with h3 _; exact absurd (by simp [h3]) h1
    | x :: a1, y :: b1, a2, c, h1, h2, h => by
      rw [List.cons_append, List.cons_append] at h
      injection h with h3 h4
      obtain ⟨h5, h6⟩ := sep_inj (fun h => h1 (List.mem_cons_of_mem _ h)) (fun h => h2 (List.mem_cons_of_mem _ h)) h4
      exact ⟨by rw [h3, h5], h6⟩
/-! ### where a slash is; two points in a row -/
theorem index_no : ∀ {l : List UInt8}, 47 ∉ l → Go.Lib.index l [47] = -1
  | [], _ => by simp [Go.Lib.index]
  | c :: l, h => by
    have ih := index_no (l := l) (fun h2 => h (List.mem_cons_of_mem _ h2))
    have hc : ¬ (47 : UInt8) = c := fun e => h (by simp [e])
    simp [Go.Lib.index, ih, List.isPrefixOf, hc]
theorem index_sep : ∀ {a : List UInt8} (r : List UInt8), 47 ∉ a → Go.Lib.index (a ++ 47 :: r) [47] = (a.length : Int)
  | [], r, _ => by simp [Go.Lib.index, List.isPrefixOf]
  | c :: a, r, h => by
    have ih := index_sep (a := a) r (fun h2 => h (List.mem_cons_of_mem _ h2))
    have hc : ¬ (47 : UInt8) = c := fun e => h (by simp [e])
    have hn : ¬ ((a.length : Int) = -1) := by omega
    rw [List.cons_append, Go.Lib.index]
    simp [ih, List.isPrefixOf, hc, hn]
/-- Two points in a row, at k and k + 1. -/
def dotsAt (l : List UInt8) (k : Nat) : Bool := decide (l[k]? = some 46) && decide (l[k + 1]? = some 46)
theorem index_ge (sub : List UInt8) : ∀ l : List UInt8, -1 ≤ Go.Lib.index l sub
  | [] => by unfold Go.Lib.index; split <;> omega
  | b :: l => by
    have := index_ge sub l
    unfold Go.Lib.index
    split
    · omega
    · split <;> omega
theorem contains_dots : ∀ l : List UInt8, Go.Lib.contains l [46, 46] = true ↔ ∃ k, dotsAt l k = true
  | [] => by simp [Go.Lib.contains, Go.Lib.index, dotsAt]
  | b :: l => by
    have ih := contains_dots l
    have hg := index_ge [46, 46] l
    unfold Go.Lib.contains at ih ⊢
    rw [decide_eq_true_iff] at ih ⊢
    unfold Go.Lib.index
    by_cases hp : ([46, 46] : List UInt8).isPrefixOf (b :: l) = true
    · rw [if_pos hp]
      refine ⟨fun _ => ⟨0, ?_⟩, fun _ => Int.le_refl _⟩
      rcases l with _ | ⟨c, l⟩
      · simp [List.isPrefixOf] at hp
      · simp [List.isPrefixOf] at hp
        simp [dotsAt, ← hp.1, ← hp.2]
    · rw [if_neg hp]
      have h0 : dotsAt (b :: l) 0 = false := by
        rcases l with _ | ⟨c, l⟩
        · simp [dotsAt]
        · simp [List.isPrefixOf] at hp
          simp [dotsAt]
          intro h; subst h
          exact fun h2 => hp rfl h2.symm
      have hs : (∃ k, dotsAt (b :: l) k = true) ↔ ∃ k, dotsAt l k = true := by
        constructor
        · rintro ⟨k, hk⟩
          rcases k with _ | k
          · rw [h0] at hk; cases hk
          · exact ⟨k, by simpa [dotsAt] using hk⟩
        · rintro ⟨k, hk⟩
          exact ⟨k + 1, by simpa [dotsAt] using hk⟩
      rw [hs, ← ih]
      by_cases hm : Go.Lib.index l [46, 46] = -1
      · simp [hm]
      · have : (Go.Lib.index l [46, 46] == -1) = false := by simpa using hm
        rw [this]
        simp only [Bool.false_eq_true, if_false]
        omega
/-! ### the reference's words -/
/-- The byte at k is a letter of components, and no second point in a row. -/
def chk (l : List UInt8) (k : Nat) : Bool := letters.contains (l[k]?.getD 0) && !(decide (0 < k) && l[k]?.getD 0 == 46 && l[k - 1]?.getD 0 == 46)
theorem comp_chk (l : List UInt8) : comp l = true ↔ l ≠ [] ∧ l[0]?.getD 0 ≠ 46 ∧ Go.Lib.hasSuffix l [46, 108, 111, 99, 107] = false ∧ ∀ k, k < l.length → chk l k = true := by
  unfold comp
  simp only [Bool.and_eq_true, Bool.not_eq_true', List.isEmpty_eq_false_iff, beq_eq_false_iff_ne, List.all_eq_true]
  constructor
  · rintro ⟨⟨⟨⟨h1, h2⟩, h3⟩, h4⟩, h5⟩
    refine ⟨h1, h2, h3, fun k hk => ?_⟩
    unfold chk
    rw [Bool.and_eq_true, Bool.not_eq_true']
    refine ⟨?_, ?_⟩
    · rw [List.getElem?_eq_getElem hk]; exact h5 _ (List.getElem_mem hk)
    · by_cases h0 : 0 < k
      · obtain ⟨j, rfl⟩ : ∃ j, k = j + 1 := ⟨k - 1, by omega⟩
        have hd : dotsAt l j ≠ true := fun h => by
          have := (contains_dots l).2 ⟨j, h⟩
          rw [h4] at this; cases this
        unfold dotsAt at hd
        rw [List.getElem?_eq_getElem (by omega : j < l.length), List.getElem?_eq_getElem hk] at hd
        rw [Nat.add_sub_cancel, List.getElem?_eq_getElem hk, List.getElem?_eq_getElem (by omega : j < l.length)]
        simp only [Option.some.injEq] at hd
        simp only [Option.getD_some, Bool.and_eq_false_iff, beq_eq_false_iff_ne, decide_eq_false_iff_not]
        by_cases hj : l[j] = 46
        · exact .inl (.inr fun h46 => hd (by simp [hj, h46]))
        · exact .inr hj
      · simp [h0]
  · rintro ⟨h1, h2, h3, h4⟩
    refine ⟨⟨⟨⟨h1, h2⟩, h3⟩, ?_⟩, fun x hx => ?_⟩
    · rw [Bool.eq_false_iff]
      intro h
      obtain ⟨j, hj⟩ := (contains_dots l).1 h
      unfold dotsAt at hj
      rw [Bool.and_eq_true, decide_eq_true_iff, decide_eq_true_iff] at hj
      have hk : j + 1 < l.length := (List.getElem?_eq_some_iff.1 hj.2).1
      have := h4 (j + 1) hk
      unfold chk at this
      rw [Nat.add_sub_cancel, hj.1, hj.2] at this
      simp at this
    · obtain ⟨k, hk, rfl⟩ := List.getElem_of_mem hx
      have := h4 k hk
      unfold chk at this
      rw [Bool.and_eq_true, List.getElem?_eq_getElem hk] at this
      exact this.1
theorem hasPrefix_sep (a b : List UInt8) : Go.Lib.hasPrefix a (b ++ [47]) = true ↔ ∃ r, a = b ++ 47 :: r := by
  unfold Go.Lib.hasPrefix
  rw [List.isPrefixOf_iff_prefix]
  constructor
  · rintro ⟨r, h⟩; exact ⟨r, by rw [← h]; simp⟩
  · rintro ⟨r, h⟩; exact ⟨r, by rw [h]; simp⟩
/-- Two names conflict. -/
def conf (a b : List UInt8) : Bool := Go.Lib.hasPrefix a (b ++ [47]) || Go.Lib.hasPrefix b (a ++ [47])
def confR (a b : List UInt8) : Bool := decide ((comps a).length ≠ (comps b).length) && decide ((comps a).take (min (comps a).length (comps b).length) = (comps b).take (min (comps a).length (comps b).length))
theorem conf_eq (a b : List UInt8) : conf a b = confR a b := by
  rw [Bool.eq_iff_iff]
  unfold conf confR
  rw [Bool.or_eq_true, hasPrefix_sep, hasPrefix_sep, comps_pre b.length b a (Nat.le_refl _), comps_pre a.length a b (Nat.le_refl _), Bool.and_eq_true, decide_eq_true_iff, decide_eq_true_iff]
  generalize comps a = x
  generalize comps b = y
  constructor
  · rintro (⟨z, hz, rfl⟩ | ⟨z, hz, rfl⟩)
    · have : 0 < z.length := List.length_pos_iff.2 hz
      refine ⟨by simp; omega, ?_⟩
      rw [Nat.min_eq_right (by simp)]
      simp
    · have : 0 < z.length := List.length_pos_iff.2 hz
      refine ⟨by simp; omega, ?_⟩
      rw [Nat.min_eq_left (by simp)]
      simp
  · rintro ⟨hl, he⟩
    by_cases h : x.length < y.length
    · rw [Nat.min_eq_left (by omega), List.take_length] at he
      refine .inr ⟨y.drop x.length, ?_, ?_⟩
      · intro h2
        have := congrArg List.length h2
        simp at this; omega
      · conv => lhs; rw [← List.take_append_drop x.length y]
        rw [← he]
    · rw [Nat.min_eq_right (by omega), List.take_length] at he
      refine .inl ⟨x.drop y.length, ?_, ?_⟩
      · intro h2
        have := congrArg List.length h2
        simp at this; omega
      · conv => lhs; rw [← List.take_append_drop y.length x]
        rw [he]
theorem conf_comm (a b : List UInt8) : conf a b = conf b a := by unfold conf; rw [Bool.or_comm]
end Rf
