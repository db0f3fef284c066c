/-
  Objects: walk of 'CopyObject'.
  Objects: walk of 'Copy'.
  Views, fifteenth part: 'copy' into a block that is known whole; 'append(s[:i], make(S, k)...)' that grows.
  Views, fourth part: opening slices of structs; what the reach says of lengths.
  Views, seventh part: a []int and a []bool that came in.
  Objects: walk of 'slices.Insert' at stored objects: one element put into a row of the call's own.
  Objects: walk of 'Find'.
-/
import Derived.Test.YtjljknocnebnaaaDoorG04
import Derived.Test.YtjljknocnebnaaaDoorG02
import Derived.Test.YtjljknocnebnaaaDoorG01
import Derived.Laws.CopyRow
import Derived.Laws.Externs
import Derived.Lib.Overlaps
import Derived.Lib.AppendZerosOnto
import Derived.Deep.Slices
import Derived.Deep.Fields
import Derived.ChangeSame
import Derived.Deep.Grids
namespace Go.Proofs.YtjljknocnebnaaaDoor
open Go.RowKit Go.V
set_option linter.unusedVariables false

theorem results_c44 {fn : Func} {a : Tmp} (h : fn.results = #[.cell a 54]) (tmps : Array Value) (w : World) (g : Nat) (x y z : Value) (ha : tmps.getD a undef = .pointer (some ⟨g, 0, none⟩)) (hb : Blk w g 54 #[x, y, z]) :
    (results fn tmps).run Tryd.prog w = .ok (.agg #[x, y, z]) w := by
  have h0 := hb.cell 0
  have h1 := hb.cell 1
  have h2 := hb.cell 2
  simp only [List.getElem?_toArray, List.getElem?_cons_zero, List.getElem?_cons_succ] at h0 h1 h2
  have ha' : tmps[a]?.getD undef = .pointer (some ⟨g, 0, none⟩) := by simpa using ha
  simp [results, h, go_sem, ha', h0, h1, h2]
theorem results_c24 {fn : Func} {a : Tmp} (h : fn.results = #[.cell a 24]) (tmps : Array Value) (w : World) (g : Nat) (x : Value) (ha : tmps.getD a undef = .pointer (some ⟨g, 0, none⟩)) (hb : Blk w g 24 #[x]) :
    (results fn tmps).run Tryd.prog w = .ok (.agg #[x]) w := by
  have h0 := hb.cell 0
  simp only [List.getElem?_toArray, List.getElem?_cons_zero] at h0
  have ha' : tmps[a]?.getD undef = .pointer (some ⟨g, 0, none⟩) := by simpa using ha
  simp [results, h, go_sem, ha', h0]
theorem blk_put3 {w : World} {g : Nat} {t : TypeId} {a b c : Value} (h : Blk w g t #[a, b, c]) (x y z : Value) : Blk (((w.setCell ⟨g, 0, none⟩ x).setCell ⟨g, 1, none⟩ y).setCell ⟨g, 2, none⟩ z) g t #[x, y, z] := by
  have := ((h.set_ 0 x).set_ 1 y).set_ 2 z
  simpa using this
/-- What 'CopyObject' answers. -/
def CoPost (w : World) (o : Ob.O) (e : Ending) (w' : World) : Prop := ∃ A1 k1 A2 k2, e = .returned (obV o A1 k1 A2 k2) ∧ ObA w' (Under w.heap.size) o A1 k1 A2 k2 ∧ Below w.heap.size w w'
set_option maxRecDepth 100000 in
set_option maxHeartbeats 8000000 in
theorem copyObject_any (w : World) (o : Ob.O) (Al : Option Addr) (kl : Nat) (Ad : Option Addr) (kd : Nat) (h : ObA w Free o Al kl Ad kd) (hl : o.links.length * 8 ≤ 140737488351232) :
    Calls Tryd.prog 60 #[obV o Al kl Ad kd] w (CoPost w o) := by
  have HC61 := Lib.hid (fun (w' : World) (hb : Below w.heap.size w w') => clone61_any w' Al kl o.links (h.ls.keep (free_below hb)).sv hl)
  have HC62 := Lib.hid (fun (w' : World) (hb : Below w.heap.size w w') => clone62_any w' Ad kd o.data (h.ds.keep (free_below hb)).sv (by have := h.dl; omega))
  have HF : Hid (∀ (w' : World) A1 k1 A2 k2, o.links.length ≤ k1 → o.data.length ≤ k2 → SA w' (Under w.heap.size) A1 (intsV o.links) → SA w' (Under w.heap.size) A2 (bytesV o.data) → Below w.heap.size w w' → CoPost w o (.returned (obV o A1 k1 A2 k2)) w') :=
    Lib.hid fun w' A1 k1 A2 k2 g1 g2 s1 s2 hb => ⟨A1, k1, A2, k2, rfl, ⟨h.kind, h.all, g1, g2, h.ll, h.dl, s1, s2⟩, hb⟩
  clear h
  obtain ⟨kk, ls, da⟩ := o
  simp only at HC61 HC62 HF hl ⊢
  generalize CoPost w _ = R at *
  have hbw : Below w.heap.size w ((w.alloc (.cells #[.int .i64 kk, .slice Al ls.length kl, .slice Ad da.length kd] 54)).alloc (.cells #[.int .i64 0, .slice none 0 0, .slice none 0 0] 54)) := below_alloc2 _ _ _
  have hbox := (Blk.new w 54 #[.int .i64 kk, .slice Al ls.length kl, .slice Ad da.length kd]).alloc (.cells #[.int .i64 0, .slice none 0 0, .slice none 0 0] 54)
  have hres := blk_new1 w (.cells #[.int .i64 kk, .slice Al ls.length kl, .slice Ad da.length kd] 54) 54 #[.int .i64 0, .slice none 0 0, .slice none 0 0]
  go_enter Tryd.func60, Tryd.ntmps60
  go_wp2_with fail
  generalize hwo : (w.alloc (.cells #[.int .i64 kk, .slice Al ls.length kl, .slice Ad da.length kd] 54)).alloc (.cells #[.int .i64 0, .slice none 0 0, .slice none 0 0] 54) = wo at *
  have hsz : wo.heap.size = w.heap.size + 2 := by rw [← hwo]; simp
  have HSZ := Lib.hid hsz
  clear hwo hsz
  have HK : Hid (∀ w6 : World, Below wo.heap.size wo w6 → w6.cell? ⟨w.heap.size, 0, none⟩ = some (.int .i64 kk) ∧ w6.cell? ⟨w.heap.size, 1, none⟩ = some (.slice Al ls.length kl) ∧ w6.cell? ⟨w.heap.size, 2, none⟩ = some (.slice Ad da.length kd)) := Lib.hid fun w6 h6 =>
    ⟨((hbox.below h6 hbox.lt).cell 0).trans rfl, ((hbox.below h6 hbox.lt).cell 1).trans rfl, ((hbox.below h6 hbox.lt).cell 2).trans rfl⟩
  have hk0 : Below wo.heap.size wo wo.drew := below_drew' (Below.refl _ _)
  have HR : Hid (∀ w6 : World, Below wo.heap.size wo w6 → w6.cell? ⟨w.heap.size + 1, 0, none⟩ = some (.int .i64 0) ∧ w6.cell? ⟨w.heap.size + 1, 1, none⟩ = some (.slice none 0 0) ∧ w6.cell? ⟨w.heap.size + 1, 2, none⟩ = some (.slice none 0 0) ∧
      w6.frozen? ⟨w.heap.size + 1, 0, none⟩ = false ∧ w6.frozen? ⟨w.heap.size + 1, 1, none⟩ = false ∧ w6.frozen? ⟨w.heap.size + 1, 2, none⟩ = false) := Lib.hid fun w6 h6 =>
    have hr := hres.below h6 hres.lt
    ⟨(hr.cell 0).trans rfl, (hr.cell 1).trans rfl, (hr.cell 2).trans rfl, hr.frozen 0, hr.frozen 1, hr.frozen 2⟩
  have HBX := Lib.hid (fun (w6 : World) (h6 : Below wo.heap.size wo w6) => hbox.below h6 hbox.lt)
  clear hbox
  go_region_held3 (fun w6 => w6.cell? ⟨w.heap.size, 0, none⟩ = some (.int .i64 kk) ∧ w6.cell? ⟨w.heap.size, 1, none⟩ = some (.slice Al ls.length kl) ∧ w6.cell? ⟨w.heap.size, 2, none⟩ = some (.slice Ad da.length kd))
    (first | exact HK.out _ hk0 | exact HK.out _ hk7 | exact HK.out _ hk8 | (have hbb := (((HBX.out _ hk8).far (p := ⟨w.heap.size + 1, 0, none⟩) (by simp) (.int .i64 kk)).far (p := ⟨w.heap.size + 1, 1, none⟩) (by simp) (.slice A1 ls.length c1)).far (p := ⟨w.heap.size + 1, 2, none⟩) (by simp) (.slice A2 da.length c2); exact ⟨(hbb.cell 0).trans rfl, (hbb.cell 1).trans rfl, (hbb.cell 2).trans rfl⟩))
    (first
      | (go_at_call 83; first
          | ((with_reducible refine (HC61.out _ (hbw.trans (hk0.mono hbw.size))).mono ?_); rintro e w3 ⟨A1, c1, rfl, hc1, hs1, hb3⟩; have hk7 : Below wo.heap.size wo w3 := hk0.trans (hb3.mono hk0.size))
          | ((with_reducible refine (HC61.out _ (hbw.trans (hk7.mono hbw.size))).mono ?_); rintro e w4 ⟨A1, c1, rfl, hc1, hs1, hb4⟩; have hk8 : Below wo.heap.size wo w4 := hk7.trans (hb4.mono hk7.size); obtain ⟨p0, p1, p2, f0, f1, f2⟩ := HR.out _ hk8))
      | (go_at_call 84; first
          | ((with_reducible refine (HC62.out _ (hbw.trans (hk0.mono hbw.size))).mono ?_); rintro e w3 ⟨A2, c2, rfl, hc2, hs2, hb3⟩; have hk7 : Below wo.heap.size wo w3 := hk0.trans (hb3.mono hk0.size))
          | ((with_reducible refine (HC62.out _ (hbw.trans (hk7.mono hbw.size))).mono ?_); rintro e w4 ⟨A2, c2, rfl, hc2, hs2, hb4⟩; have hk8 : Below wo.heap.size wo w4 := hk7.trans (hb4.mono hk7.size); obtain ⟨p0, p1, p2, f0, f1, f2⟩ := HR.out _ hk8)))
  all_goals
    go_wp2_with fail
    have hz3 := hk7.size
    have hz4 := hb4.size
    have hu : Under (w.heap.size + 2) (w.heap.size + 1) := by unfold Under; omega
    have HU := HSZ.out
    have hle1 : w.heap.size + 2 ≤ wo.drew.heap.size := by show _ ≤ wo.heap.size; omega
    have hle2 : w.heap.size + 2 ≤ w3.heap.size := by have : wo.heap.size ≤ w3.heap.size := hz3; omega
    have hr4 := hres.below hk8 hres.lt
    have hkp : Keeps w4 (Under (w.heap.size + 2)) _ (Under (w.heap.size + 2)) := ((Keeps.setCell w4 _ ⟨w.heap.size + 1, 0, none⟩ (.int .i64 kk) hu).trans (Keeps.setCell _ _ ⟨w.heap.size + 1, 1, none⟩ (.slice A1 ls.length c1) hu)).trans (Keeps.setCell _ _ ⟨w.heap.size + 1, 2, none⟩ (.slice A2 da.length c2) hu)
    refine bodyPost_ret (results_c44 rfl _ _ (w.heap.size + 1) (.int .i64 kk) (.slice A1 ls.length c1) (.slice A2 da.length c2) rfl (blk_put3 hr4 _ _ _)) rfl ?_
    refine HF.out _ _ _ _ _ hc1 hc2 ?_ ?_ ?_
    · first
        | exact (((hs1.mono (X' := Under (w.heap.size + 2)) (fun b hb => Nat.lt_of_lt_of_le hb (by first | exact hle1 | exact hle2))).keep (Keeps.below hb4 (fun _ _ h => h))).keep hkp).mono (fun b hb => Nat.lt_of_lt_of_le hb (Nat.le_add_right _ _))
        | exact ((hs1.mono (X' := Under (w.heap.size + 2)) (fun b hb => Nat.lt_of_lt_of_le hb (by first | exact hle1 | exact hle2))).keep hkp).mono (fun b hb => Nat.lt_of_lt_of_le hb (Nat.le_add_right _ _))
    · first
        | exact (((hs2.mono (X' := Under (w.heap.size + 2)) (fun b hb => Nat.lt_of_lt_of_le hb (by first | exact hle1 | exact hle2))).keep (Keeps.below hb4 (fun _ _ h => h))).keep hkp).mono (fun b hb => Nat.lt_of_lt_of_le hb (Nat.le_add_right _ _))
        | exact ((hs2.mono (X' := Under (w.heap.size + 2)) (fun b hb => Nat.lt_of_lt_of_le hb (by first | exact hle1 | exact hle2))).keep hkp).mono (fun b hb => Nat.lt_of_lt_of_le hb (Nat.le_add_right _ _))
    · exact (((hbw.trans (hk8.mono hbw.size)).setCell (by simp) _).setCell (by simp) _).setCell (by simp) _
end Go.Proofs.YtjljknocnebnaaaDoor
namespace Go.Proofs.YtjljknocnebnaaaDoor
open Go.RowKit Go.V
set_option linter.unusedVariables false

theorem info46 : (Tryd.prog.info? 66).map (fun i => (i.zero, i.size, i.bytes)) = some (some (.agg #[.int .i64 0, .int .i64 0, .slice none 0 0, .slice none 0 0]), 4, 64) := by kernel_rfl
theorem ObA.mono_ {w : World} {X X' : Nat → Prop} {o : Ob.O} {Al : Option Addr} {kl : Nat} {Ad : Option Addr} {kd : Nat} (h : ObA w X o Al kl Ad kd) (hX : ∀ b, X' b → X b) : ObA w X' o Al kl Ad kd := h.keep ((Keeps.refl w X).into hX)
theorem size_alloc_le (w : World) (o : Obj) : w.heap.size ≤ (w.alloc o).heap.size := by simp
theorem st_one (d k : Int) (A1 : Option Addr) (n1 k1 : Nat) (A2 : Option Addr) (n2 k2 : Nat) : ∀ u ∈ [Value.int .i64 d, .int .i64 k, .slice A1 n1 k1, .slice A2 n2 k2], u.oneCell' = true := by
  intro u hu; simp at hu; rcases hu with rfl | rfl | rfl | rfl <;> rfl
/-- A store of the call's own: nothing of it lies in a block that X names. -/
structure OwnSt (w : World) (base : Nat) (X : Nat → Prop) (A : Option Addr) (c : Nat) (s : List Ob.S) (xs : List Value) : Prop where
  own : w.ownsRow base 66 4 (.slice A s.length c) s.length xs
  rows : RowsR (StR w (Or1 X (.slice A s.length c))) s xs
/-- The state of the loop of 'Copy'. -/
structure CySt (w wr : World) (A : Option Addr) (n k : Nat) (s : List Ob.S) (i : Nat) (Ao : Option Addr) (co : Nat) (xs : List Value) : Prop where
  res : Blk wr (w.heap.size + 1) 24 #[.slice none 0 0]
  out : Blk wr (w.heap.size + 2) 24 #[.slice Ao i co]
  own : wr.ownsRow (w.heap.size + 3) 66 4 (.slice Ao i co) i xs
  rows : RowsR (StR wr (Or1 (Under (w.heap.size + 3)) (.slice Ao i co))) (s.take i) xs
  bel : Below w.heap.size w wr
  hi : w.heap.size + 3 ≤ wr.heap.size
theorem CySt.below {w wr w' : World} {A : Option Addr} {n k : Nat} {s : List Ob.S} {i : Nat} {Ao : Option Addr} {co : Nat} {xs : List Value} (h : CySt w wr A n k s i Ao co xs) (hb : Below wr.heap.size wr w') : CySt w w' A n k s i Ao co xs :=
  ⟨h.res.below hb h.res.lt, h.out.below hb h.out.lt, h.own.kept (only_of_below hb none) (by cases hv : (Value.slice Ao i co).ownBlock <;> simp), h.rows.mono (StR.keep (Keeps.below hb (fun _ _ h => h))), h.bel.trans (hb.mono h.bel.size), Nat.le_trans h.hi hb.size⟩
theorem CySt.app {w w3 w4 : World} {A : Option Addr} {n k : Nat} {s : List Ob.S} {i : Nat} {Ao : Option Addr} {co : Nat} {xs : List Value} (st : CySt w w3 A n k s i Ao co xs) {x : Int} {o : Ob.O} {A1 A2 : Option Addr} {k1 k2 : Nat} {o0 : Obj} {gd c' : Nat}
    (hk : I64 o.kind) (hx : I64 x) (hob : ObA w3 (Or1 (Under (w.heap.size + 3)) (.slice Ao i co)) o A1 k1 A2 k2) (hs : s.take (i + 1) = s.take i ++ [⟨x, o⟩]) (own3 : (w3.alloc o0).ownsRow (w.heap.size + 3) 66 4 (.slice Ao i co) i xs)
    (hg : (w3.alloc o0).grownBy w4 (Value.slice Ao i co).ownBlock)
    (hown : w4.ownsRow (w.heap.size + 3) 66 4 (.slice (some ⟨gd, 0, none⟩) (i + 1) c') (i + 1) (xs ++ [.int .i64 x, .int .i64 o.kind, .slice A1 o.links.length k1, .slice A2 o.data.length k2]))
    (hb : (Value.slice (some ⟨gd, 0, none⟩) (i + 1) c').ownBlock = (Value.slice Ao i co).ownBlock ∨ (Value.slice (some ⟨gd, 0, none⟩) (i + 1) c').ownBlock = some (w3.alloc o0).heap.size) :
    CySt w (w4.setCell ⟨w.heap.size + 2, 0, none⟩ (.slice (some ⟨gd, 0, none⟩) (i + 1) c')) A n k s (i + 1) (some ⟨gd, 0, none⟩) c' (xs ++ [.int .i64 x, .int .i64 o.kind, .slice A1 o.links.length k1, .slice A2 o.data.length k2]) := by
  have res4 := (st.res.alloc o0).grown hg (own_blk_ne own3 (st.res.alloc o0) (by decide))
  have out4 := (st.out.alloc o0).grown hg (own_blk_ne own3 (st.out.alloc o0) (by decide))
  have hkp := ((Keeps.alloc w3 (Or1 (Under (w.heap.size + 3)) (.slice Ao i co)) o0).trans (Keeps.or1 hg rfl hb)).trans (Keeps.setCell w4 _ ⟨w.heap.size + 2, 0, none⟩ (.slice (some ⟨gd, 0, none⟩) (i + 1) c') (.inl (by show w.heap.size + 2 < w.heap.size + 3; omega)))
  have hsz := hg.size
  have hhi := st.hi
  refine ⟨res4.far (by simp) _, by simpa using out4.set_ 0 (.slice (some ⟨gd, 0, none⟩) (i + 1) c'), own_setCell hown (own_blk_ne hown out4 (by decide)) _, ?_, ?_, ?_⟩
  · rw [hs]
    exact (st.rows.mono (StR.keep hkp)).append (RowsR.one ⟨A1, k1, A2, k2, rfl, hx, hob.keep hkp⟩)
  · refine Below.setCell ?_ (by simp) _
    exact (st.bel.alloc st.bel.size o0).grown hg (by have := st.bel.size; simp; omega) (fun b hb => by have := (own3.lt b hb).1; omega)
  · simp at hsz ⊢; omega
def CyPost (w : World) (s : List Ob.S) (e : Ending) (w' : World) : Prop := ∃ A c xs, e = .returned (stV A s.length c) ∧ OwnSt w' w.heap.size (Under w.heap.size) A c s xs ∧ Below w.heap.size w w'
set_option maxRecDepth 100000 in
set_option maxHeartbeats 16000000 in
theorem copy_any (w : World) (A : Option Addr) (k : Nat) (s : List Ob.S) (hv : StV w Free A s) (hl : s.length ≤ 1000000) (hlk : ∀ i, i < s.length → (Ob.it s i).ob.links.length * 8 ≤ 140737488351232) :
    Calls Tryd.prog 41 #[stV A s.length k] w (CyPost w s) := by
  obtain ⟨i0, hi0, hz0, hz1, hz2⟩ := info_parts info46
  have HROW := Lib.hid (fun (w' : World) (hb : Below w.heap.size w w') i hi => (hv.keep (free_below hb)).row (w := w') i hi)
  have HLK := Lib.hid hlk
  have hl' : (s.length : Int) ≤ 1000000 := by omega
  have st0 : CySt w (((w.alloc (.cells #[.slice A s.length k] 24)).alloc (.cells #[.slice none 0 0] 24)).alloc (.cells #[.slice none 0 0] 24)) A s.length k s 0 none 0 [] :=
    ⟨(blk_new1 _ _ _ _).alloc _, by simpa using Blk.new ((w.alloc (.cells #[.slice A s.length k] 24)).alloc (.cells #[.slice none 0 0] 24)) 24 #[.slice none 0 0], World.ownsRow_nil _ _ _ _, rfl, below_alloc3 _ _ _ _, by simp⟩
  clear hv hlk
  go_enter Tryd.func41, Tryd.ntmps41
  go_wp2_with fail
  go_loopw [9] (fun iv wr => ∃ (i : Nat) (Ao : Option Addr) (co : Nat) (xs : List Value), i ≤ s.length ∧ iv = .int .i64 i ∧ CySt w wr A s.length k s i Ao co xs) (fun iv _ => s.length - (intOf iv).toNat)
  case atStart => exact ⟨0, none, 0, [], Nat.zero_le _, rfl, st0⟩
  case round =>
    obtain ⟨i, Ao, co, xs, hi, rfl, st⟩ := hrel
    obtain ⟨wo, rfl⟩ : ∃ wo : World, wo = wr := ⟨_, rfl⟩
    clear st0
    have hsz := st.bel.size
    have hhi := st.hi
    by_cases hil : i < s.length
    · have hil' : (i : Int) < s.length := by omega
      obtain ⟨b, off, Al, kl, Ad, kd, e, hb, _, d0, d1, d2, d3, hx, hob⟩ := HROW.out _ st.bel i hil
      subst e
      have hlki := HLK.out i hil
      have HTK := Lib.hid (show s.take (i + 1) = s.take i ++ [Ob.it s i] by rw [List.take_succ_eq_append_getElem hil, Ob.it_eq s i hil])
      have hobk := hob.kind
      generalize hxx : Ob.it s i = x at *
      clear hxx
      have HCO := Lib.hid (fun (w' : World) (hb : Below wo.heap.size wo w') => copyObject_any w' x.ob Al kl Ad kd (hob.keep (free_below hb)) hlki)
      clear hob hlki
      obtain ⟨xd, kk, ls, da⟩ := x
      simp only at *
      have hbx := below_alloc1 wo (.cells #[.int .i64 xd, .int .i64 kk, .slice Al ls.length kl, .slice Ad da.length kd] 66)
      have stx := st.below hbx
      have hk0 : Below wo.heap.size wo (wo.alloc (.cells #[.int .i64 xd, .int .i64 kk, .slice Al ls.length kl, .slice Ad da.length kd] 66)).drew := below_drew' hbx
      have q0 := stx.out.cell 0
      have blx := Blk.new wo 66 #[.int .i64 xd, .int .i64 kk, .slice Al ls.length kl, .slice Ad da.length kd]
      simp only [List.getElem?_toArray, List.getElem?_cons_zero] at q0
      have hne46 : (66 : TypeId) ≠ 24 := by decide
      have h63 : i + 1 ≤ maxLen := by unfold maxLen; omega
      have hby : (i + 1) * 64 ≤ 140737488355328 := by omega
      go_wp2_with fail
      go_region_law
        (first
          | (go_simp; go_at_call 60; (with_reducible refine (HCO.out _ hk0).mono ?_); rintro e w3 ⟨A1, k1, A2, k2, rfl, hob3, hb3⟩; have hk3 : Below wo.heap.size wo w3 := hk0.trans (hb3.mono hk0.size); have st3 := st.below hk3; have z3 : w.heap.size + 1 + 1 < w3.heap.size := st3.out.lt; have p0 := (st3.out.cell 0).trans (rfl : _ = some (Value.slice Ao i co)); have x0 := ((blx.drew.below hb3 blx.drew.lt).cell 0).trans (rfl : _ = some (Value.int .i64 xd)); go_wp2_with fail)
          | (refine step_appNo _ rfl (.tmp 14) (.tmp 21) 22 rfl (w.heap.size + 3) 66 i0 _ 4 64 Tryd.underlying22 hi0 hz0 hz1 hz2 rfl (by decide) Ao i co xs rfl (st3.own.alloc _) w3.heap.size 1 [.int .i64 xd, .int .i64 kk, .slice A1 ls.length k1, .slice A2 da.length k2] rfl rfl (fun j v hj => cells_new w3 #[.int .i64 xd, .int .i64 kk, .slice A1 ls.length k1, .slice A2 da.length k2] 66 j v hj) (st_one _ _ _ _ _ _ _ _) h63 hby (Nat.le_trans st3.hi (size_alloc_le _ _)) ?_; intro gd c' w4 hown4 hg4 hob4; have own3 := st3.own.alloc (.cells #[.int .i64 xd, .int .i64 kk, .slice A1 ls.length k1, .slice A2 da.length k2] 66); have out3 := st3.out.alloc (.cells #[.int .i64 xd, .int .i64 kk, .slice A1 ls.length k1, .slice A2 da.length k2] 66); have out4 := out3.grown hg4 (own_blk_ne own3 out3 hne46); have r0 := (out4.cell 0).trans (rfl : _ = some (Value.slice Ao i co)); have r1 := out4.frozen 0))
      all_goals
        have hob5 := hob3.mono_ (X' := Or1 (Under (w.heap.size + 3)) (.slice Ao i co)) (fun b hb => by
          rcases hb with hb | hb
          · unfold Under at *; exact Nat.lt_of_lt_of_le hb (Nat.le_trans hhi hk0.size)
          · exact Nat.lt_of_lt_of_le ((st.own.lt b hb).2) hk0.size)
        have st5 := st3.app hobk hx hob5 HTK.out own3 hg4 hown4 hob4
        clear hob5 hown4 hg4 hob4 own3 out3 out4 st3 st stx hob3 hb3 hk3
        go_wp2_with fail
        go_roundw
        case rel => exact ⟨i + 1, _, _, _, by omega, by go_num, st5⟩
        case measure => simp [intOf]; omega
    · obtain rfl : i = s.length := by omega
      have o0 := st.out.cell 0
      have r0 := st.res.cell 0
      have r1 := st.res.frozen 0
      have l0 := st.out.lt
      simp only [List.getElem?_toArray, List.getElem?_cons_zero] at o0 r0
      go_wp2_with fail
      have hu : (Under (w.heap.size + 3)) (w.heap.size + 1) := by unfold Under; omega
      have hk := Keeps.setCell wo (Or1 (Under (w.heap.size + 3)) (.slice Ao s.length co)) ⟨w.heap.size + 1, 0, none⟩ (.slice Ao s.length co) (.inl hu)
      have hb1 := st.res.set_ 0 (.slice Ao s.length co)
      refine bodyPost_ret (results_c24 rfl _ _ (w.heap.size + 1) (.slice Ao s.length co) rfl (by simpa using hb1)) rfl ?_
      refine ⟨Ao, co, xs, rfl, ⟨own_more (own_setCell st.own (own_blk_ne st.own st.res (by decide)) _) (by omega), ?_⟩, st.bel.setCell (by simp) _⟩
      have hr := st.rows
      rw [List.take_length] at hr
      exact hr.mono (StR.keep (hk.into (X'' := Or1 (Under w.heap.size) (.slice Ao s.length co)) fun b hb => by
        rcases hb with hb | hb
        · exact .inl (by unfold Under at *; omega)
        · exact .inr hb))
end Go.Proofs.YtjljknocnebnaaaDoor
namespace Go.V
set_option linter.unusedVariables false
open Go.RowKit

/-- cs put over the cells from off on. -/
def spl (cur : Array Value) (off : Nat) (cs : List Value) : Array Value := (cur.toList.take off ++ cs ++ cur.toList.drop (off + cs.length)).toArray
section
variable {P : Program} (w : World)
theorem run_copy_into (dT sT ty elem : TypeId) (i : TypeInfo) (size : Nat) (hu : P.underlying dT = some (.slice elem)) (hi : P.info? elem = some i) (hsz : i.size = size)
    (g o dLen dCap : Nat) (ad : Addr) (sLen sCap : Nat) (cur : Array Value) (t : TypeId) (cs : List Value) (hg : Blk w g t cur) (hn : cs.length = Nat.min sLen dLen * size)
    (hsrc : ∀ j v, cs[j]? = some v → w.cell? (ad.add j) = some v) (hfit : o + cs.length ≤ cur.size) (h1 : ∀ v ∈ cs, v.oneCell' = true) :
    ∃ w', (Builtin.copy_ #[dT, sT] ty #[.slice (some ⟨g, o, none⟩) dLen dCap, .slice (some ad) sLen sCap]).run P w = .ok (goInt (Nat.min sLen dLen)) w' ∧
      Blk w' g t (spl cur o cs) ∧ w.grownBy w' (some g) ∧ w'.heap.size = w.heap.size := by
  have hl := run_loadCells_list (P := P) w ad cs hsrc
  have hst := run_storeCells_at P g o t cs 0 cur w hg (by simpa using hfit) h1
  simp only [Nat.add_zero] at hst
  refine ⟨w.setRow g (cur.toList.take o ++ cs ++ cur.toList.drop (o + cs.length)).toArray, ?_, setRow_heap w g cur _ t (0, 0) hg, ⟨rfl, rfl, rfl, by simp, fun k _ hk => setRow_other w g k _ (fun e => hk (by rw [e]))⟩, by simp⟩
  subst hsz
  simp [Builtin.copy_, run_underlying hu, Builtin.lenOf, Builtin.firstCells, sizeOf, typeInfo, hi, ← hn, hl, hst]
theorem wpList_copy_into {ops : Array Oper} {rest : List Oper} {o : Oper} {a : Act} {Q : Exit → Act → World → Prop} (hgd : o.guard = none) (d s : Operand) (dT sT : TypeId)
    (ho : o.op = .call { callee := .builtin .copy, args := #[d, s], argTypes := #[dT, sT] })
    (elem : TypeId) (i : TypeInfo) (size : Nat) (hu : P.underlying dT = some (.slice elem)) (hi : P.info? elem = some i) (hsz : i.size = size)
    (g off dLen dCap : Nat) (hd : a.eval d = .slice (some ⟨g, off, none⟩) dLen dCap) (ad : Addr) (sLen sCap : Nat) (hs : a.eval s = .slice (some ad) sLen sCap) (cur : Array Value) (t : TypeId) (cs : List Value) (hg : Blk w g t cur) (hn : cs.length = Nat.min sLen dLen * size)
    (hsrc : ∀ j v, cs[j]? = some v → w.cell? (ad.add j) = some v) (hfit : off + cs.length ≤ cur.size) (h1 : ∀ v ∈ cs, v.oneCell' = true)
    (h : ∀ w', Blk w' g t (spl cur off cs) → w.grownBy w' (some g) → w'.heap.size = w.heap.size → wpList P ops Q rest (a.put o.dst (goInt (Nat.min sLen dLen))) w') : wpList P ops Q (o :: rest) a w := by
  refine wpList_plain hgd fun K hK => ?_
  obtain ⟨w', hr, h2, h3, h4⟩ := run_copy_into (P := P) w dT sT o.type elem i size hu hi hsz g off dLen dCap ad sLen sCap cur t cs hg hn hsrc hfit h1
  unfold Oper.wp execOp
  simp only [ho, resolve, invoke, builtin, Sem.run_bind, Sem.run_pure, Result.andThen_ok, List.map_toArray, List.map_cons, List.map_nil, hd, hs, hr]
  exact hK _ _ (h w' h2 h3 h4)
theorem step_copy_into {ops : Array Oper} {o : Oper} {a : Act} {K : Act → World → Prop} {Q : Exit → Act → World → Prop} {E : Prop} (hgd : o.guard = none) (d s : Operand) (dT sT : TypeId)
    (ho : o.op = .call { callee := .builtin .copy, args := #[d, s], argTypes := #[dT, sT] })
    (elem : TypeId) (i : TypeInfo) (size : Nat) (hu : P.underlying dT = some (.slice elem)) (hi : P.info? elem = some i) (hsz : i.size = size)
    (g off dLen dCap : Nat) (hd : a.eval d = .slice (some ⟨g, off, none⟩) dLen dCap) (ad : Addr) (sLen sCap : Nat) (hs : a.eval s = .slice (some ad) sLen sCap) (cur : Array Value) (t : TypeId) (cs : List Value) (hg : Blk w g t cur) (hn : cs.length = Nat.min sLen dLen * size)
    (hsrc : ∀ j v, cs[j]? = some v → w.cell? (ad.add j) = some v) (hfit : off + cs.length ≤ cur.size) (h1 : ∀ v ∈ cs, v.oneCell' = true)
    (h : ∀ w', Blk w' g t (spl cur off cs) → w.grownBy w' (some g) → w'.heap.size = w.heap.size → K (a.put o.dst (goInt (Nat.min sLen dLen))) w') :
    if Region.wanted o (yielded ops a.tmps) = true then Oper.wp P o a w K Q else E := by
  have hw : Region.wanted o (yielded ops a.tmps) = true := by simp [Region.wanted, hgd]
  rw [if_pos hw]
  obtain ⟨w', hr, h2, h3, h4⟩ := run_copy_into (P := P) w dT sT o.type elem i size hu hi hsz g off dLen dCap ad sLen sCap cur t cs hg hn hsrc hfit h1
  unfold Oper.wp
  simp [execOp, ho, resolve, invoke, builtin, hd, hs, hr, Result.andThen]
  exact h w' h2 h3 h4
/-- 'append(s[:i], make(S, k)...)' that grows: a new block. -/
theorem wpList_app_zeros {ops : Array Oper} {rest : List Oper} {o : Oper} {a : Act} {Q : Exit → Act → World → Prop} (hgd : o.guard = none) (s x : Operand) (t tn : TypeId)
    (ho : o.op = .call { callee := .builtin .append, args := #[s, x], argTypes := #[t, tn] })
    (e : TypeId) (i : TypeInfo) (z : Value) (kn : IntKind) (size bytes : Nat) (ht : P.underlying t = some (.slice e)) (htn : P.underlying tn = some (.int kn)) (hi : P.info? e = some i) (hz : i.zero = some z) (hsize : i.size = size) (hby : i.bytes = bytes) (hzs : z.cells.size = size) (hsz : 0 < size)
    (ad : Addr) (n c : Nat) (olds : List Value) (hs : a.eval s = .slice (some ad) n c) (hl : olds.length = n * size) (hsrc : ∀ j v, olds[j]? = some v → w.cell? (ad.add j) = some v)
    (kq : IntKind) (k : Nat) (hx : a.eval x = .int kq k) (h0 : 0 < k) (hroom : c < n + k) (hnc : n ≤ c) (h63 : n + k ≤ 9223372036854775807) (hb : (n + k) * bytes ≤ 140737488355328)
    (h : ∀ q cur w', n + k ≤ q → q ≤ 9223372036854775807 → cur.size = q * size → cur.toList.take (n * size) = olds → Blk w' w.heap.size e cur → w.grownBy w' none → w'.heap.size = w.heap.size + 1 → wpList P ops Q rest (a.put o.dst (.slice (some ⟨w.heap.size, 0, none⟩) (n + k) q)) w') : wpList P ops Q (o :: rest) a w := by
  refine wpList_plain hgd fun K hK => ?_
  subst hsize
  subst hby
  have hold : (Builtin.firstCells i.size n (.slice (some ad) n c)).run P w.drew = .ok olds.toArray w.drew := run_firstCells_some w.drew i.size n ad n c olds hl (fun j v hj => hsrc j v hj)
  have hkb : k * i.bytes ≤ (n + k) * i.bytes := Nat.mul_le_mul_right _ (by omega)
  have hr := Lib.run_append_grow_zeros (P := P) w t tn o.type e i z kq kn ht htn hi hz (some ad) n c olds hold k h0 hsz hroom (by omega) (by omega) (growslice_fits hroom hb)
  have hge := grownCap_ge w (n + k) c e
  have hle := grownCap_le_maxLen w (n + k) c e (by unfold maxLen; omega)
  generalize grownCap w (n + k) c e = q at *
  unfold Oper.wp
  simp [execOp, ho, resolve, invoke, builtin, hs, hx, hr, Result.andThen]
  refine hK _ _ (h q _ _ hge (by unfold maxLen at hle; omega) ?_ ?_ (Blk.new w.drew e _) ?_ (by simp))
  · simp only [Array.size_append, List.size_toArray, size_zeroCells, hzs, hl]
    rw [← Nat.add_mul, ← Nat.add_mul]
    congr 1
    omega
  · simp only [Array.toList_append]
    rw [List.take_append_of_le_length (by omega), ← hl, List.take_length]
  · exact ⟨rfl, rfl, rfl, by simp, fun b hb _ => (Below.heap_alloc w.drew _ b hb)⟩
end
/-- Two copies put news in at p. -/
theorem ins_list {cur xs news : List Value} {p : Nat} (hx : cur.take xs.length = xs) (hp : p ≤ xs.length) (hl : xs.length + news.length ≤ cur.length) :
    (((cur.take (p + news.length) ++ xs.drop p ++ cur.drop (p + news.length + (xs.drop p).length)).take p ++ news ++ (cur.take (p + news.length) ++ xs.drop p ++ cur.drop (p + news.length + (xs.drop p).length)).drop (p + news.length)).take (xs.length + news.length)) = xs.take p ++ news ++ xs.drop p := by
  have h1 : (cur.take (p + news.length) ++ xs.drop p ++ cur.drop (p + news.length + (xs.drop p).length)).take p = xs.take p := by
    rw [List.append_assoc, List.take_append_of_le_length (by simp; omega), List.take_take, Nat.min_eq_left (by omega)]
    rw [← hx, List.take_take, Nat.min_eq_left (by omega)]
  have h2 : (cur.take (p + news.length) ++ xs.drop p ++ cur.drop (p + news.length + (xs.drop p).length)).drop (p + news.length) = xs.drop p ++ cur.drop (p + news.length + (xs.drop p).length) := by
    rw [List.append_assoc]
    have hlen : (cur.take (p + news.length)).length = p + news.length := by simp; omega
    exact List.drop_left' hlen
  rw [h1, h2, ← List.append_assoc, List.take_append_of_le_length (by simp; omega), List.take_of_length_le (by simp; omega)]
/-- The other order: first the news, then what follows. -/
theorem ins_list2 {cur xs news : List Value} {p : Nat} (hx : cur.take p = xs.take p) (hp : p ≤ xs.length) (hl : xs.length + news.length ≤ cur.length) :
    (((cur.take p ++ news ++ cur.drop (p + news.length)).take (p + news.length) ++ xs.drop p ++ (cur.take p ++ news ++ cur.drop (p + news.length)).drop (p + news.length + (xs.drop p).length)).take (xs.length + news.length)) = xs.take p ++ news ++ xs.drop p := by
  have h1 : (cur.take p ++ news ++ cur.drop (p + news.length)).take (p + news.length) = xs.take p ++ news := by
    rw [hx]
    have hlen : (xs.take p ++ news).length = p + news.length := by simp; omega
    exact List.take_left' hlen
  rw [h1, List.take_append_of_le_length (by simp; omega), List.take_of_length_le (by simp; omega)]
/-- An owned row out of a block that is known whole. -/
theorem own_of_blk {w : World} {base g : Nat} {e : TypeId} {cur : Array Value} {size n cap : Nat} {xs : List Value} (hb : Blk w g e cur) (hg : base ≤ g) (hn : n ≤ cap) (hm : cap ≤ maxLen) (hs : cur.size = cap * size) (hx : cur.toList.take (n * size) = xs) :
    w.ownsRow base e size (.slice (some ⟨g, 0, none⟩) n cap) n xs := by
  refine ⟨?_, .inr ⟨g, cap, cur, rfl, hg, hb, hn, hm, hs, hx⟩⟩
  rw [← hx, List.length_take, Nat.min_eq_left]
  simp only [Array.length_toList, hs]
  exact Nat.mul_le_mul_right _ hn
/-- The block of an owned row. -/
theorem own_blk {w : World} {base : Nat} {e : TypeId} {size n m cap : Nat} {A : Option Addr} {xs : List Value} (h : w.ownsRow base e size (.slice A m cap) n xs) (h0 : 0 < n) :
    ∃ g cur, A = some ⟨g, 0, none⟩ ∧ m = n ∧ base ≤ g ∧ Blk w g e cur ∧ n ≤ cap ∧ cap ≤ maxLen ∧ cur.size = cap * size ∧ cur.toList.take (n * size) = xs := by
  obtain ⟨_, ⟨_, h1⟩ | ⟨g, cap', cur, e1, h1, h2, h3, h4, h5, h6⟩⟩ := h
  · omega
  · injection e1 with e1 e2 e3
    subst e1 e2 e3
    exact ⟨g, cur, rfl, rfl, h1, h2, h3, h4, h5, h6⟩
end Go.V
namespace Go.V
open Go.RowKit Go.ChangeShapes Go.WideShapes Go.ChangeAt Go.Deep

/-- Rows out of cells. -/
theorem rows_of {α : Type} {R : α → List Value → Prop} (k : Nat) (cells : Nat → Value) : ∀ (n : Nat), (∀ i, i < n → ∃ a : α, R a ((List.range k).map fun j => cells (i * k + j))) →
    ∃ l : List α, l.length = n ∧ RowsR R l ((List.range (n * k)).map cells)
  | 0, _ => ⟨[], rfl, by simp [RowsR]⟩
  | n + 1, h => by
    obtain ⟨l, hl, hr⟩ := rows_of k cells n (fun i hi => h i (by omega))
    obtain ⟨a, ha⟩ := h n (by omega)
    refine ⟨l ++ [a], by simp [hl], ?_⟩
    have e : (List.range ((n + 1) * k)).map cells = (List.range (n * k)).map cells ++ (List.range k).map fun j => cells (n * k + j) := by
      rw [Nat.add_mul, Nat.one_mul, List.range_add, List.map_append, List.map_map]
      rfl
    rw [e]
    exact hr.append (RowsR.one ha)

section
variable {H : Type} {enc : TypeId × Value → H} {P : Program} {w : World} {base : Nat} {spare : Nat → Bool} {held : Bool}
/-- A slice of structs of one-cell fields, field by field. -/
theorem open_slice_fields {t e : TypeId} {fs : Array Field} {fuel : Nat} {cs : List Value} {x : DataW H × List MemPlace} (ht : P.underlying t = some (.slice e)) (he : P.underlying e = some (.struct fs))
    (hone : oneCellFields P fs = true) (hC : P.cellsOf e = fs.size) (h : DataW.trod enc P w base spare held fuel t cs = some x) :
    (cs = [.slice none 0 0] ∧ x = (.nil, [])) ∨
    ∃ (a : Addr) (len cap m : Nat) (D : Nat → DataW H) (Pl : Nat → List MemPlace), cs = [.slice (some a) len cap] ∧ base ≤ a.block ∧ len ≤ cap ∧ cap ≤ maxLen ∧ m = (if spare a.block then cap else len) ∧
      x = (.slice ((List.range len).map D) ((List.range (m - len)).map fun j => D (len + j)), MemPlace.row a (m * fs.size) ++ (List.range m).flatMap Pl) ∧
      ∀ i, i < m → ∃ (ys : List (DataW H × List MemPlace)) (n : Nat), D i = .agg (ys.map (·.1)) ∧ Pl i = ys.flatMap (·.2) ∧ ys.length = fs.size ∧
        ∀ (j : Nat) (f : Field), fs[j]? = some f → ∃ (v : Value) (y : DataW H × List MemPlace), w.cell? (a.add (i * fs.size + j)) = some v ∧ ys[j]? = some y ∧ DataW.trod enc P w base spare held n f.type [v] = some y := by
  rcases open_slice ht h with h0 | ⟨a, len, cap, m, n, D, Pl, hcs, hb, hl, hm, hmm, hx, hi⟩
  · exact .inl h0
  · refine .inr ⟨a, len, cap, m, D, Pl, hcs, hb, hl, hm, hmm, by rw [hC] at hx; exact hx, fun i him => ?_⟩
    obtain ⟨cs', hc, ht'⟩ := hi i him
    rw [hC] at hc
    obtain ⟨ys, n', hn', hy, hlen, hyl, hf⟩ := DataW.trod_struct he ht'
    obtain ⟨_, hcl, hat⟩ := World.cells?_some hc
    simp only [Prod.mk.injEq] at hy
    refine ⟨ys, n', hy.1, hy.2, hyl, fun j f hj => ?_⟩
    obtain ⟨ho, hk⟩ := hone_of hone j f hj
    have hjl : j < fs.size := (Array.getElem?_eq_some_iff.1 hj).1
    have hcell := hat j hjl
    have hv : cs'[j]? = some (cs'[j]'(by omega)) := List.getElem?_eq_getElem (by omega)
    have h1 := hf j f hj
    rw [ho, hk] at h1
    have hone' : (cs'.drop j).take 1 = [cs'[j]'(by omega)] := by
      rw [List.drop_eq_getElem_cons (by omega)]
      rfl
    rw [hone'] at h1
    have hys : ys[j]? = some (ys[j]'(by omega)) := List.getElem?_eq_getElem (by omega)
    refine ⟨_, _, ?_, hys, h1.trans hys⟩
    rw [← Go.Deep.add_add, hcell, hv]

/-- The same as a view: rows of elements that each field's reading makes. -/
theorem open_rows {α : Type} {R : α → List Value → Prop} {t e : TypeId} {fs : Array Field} {fuel : Nat} {cs : List Value} {x : DataW H × List MemPlace} (ht : P.underlying t = some (.slice e)) (he : P.underlying e = some (.struct fs))
    (hone : oneCellFields P fs = true) (hC : P.cellsOf e = fs.size) (h0 : 0 < fs.size) (h : DataW.trod enc P w base spare held fuel t cs = some x)
    (hz : ∀ n ∈ x.1.weights P t, n ≤ reachBytes)
    (hR : ∀ (c : Nat → Value) (ys : List (DataW H × List MemPlace)) (n : Nat), ys.length = fs.size → (∀ (j : Nat) (f : Field), fs[j]? = some f → ∃ y, ys[j]? = some y ∧ DataW.trod enc P w base spare held n f.type [c j] = some y ∧ ∀ k ∈ y.1.weights P f.type, k ≤ reachBytes) →
      ∃ a, R a ((List.range fs.size).map c)) :
    ∃ A c l vs, cs = [.slice A l.length c] ∧ l.length ≤ c ∧ c ≤ maxLen ∧ l.length * P.bytesOf e ≤ reachBytes ∧ SV w w.heap.size A vs ∧ RowsR R l vs := by
  rcases open_slice_fields ht he hone hC h with ⟨rfl, _⟩ | ⟨a, len, cap, m, D, Pl, rfl, hb, hl, hm, hmm, hx, hi⟩
  · exact ⟨none, 0, [], [], rfl, Nat.le_refl _, by simp [maxLen], by simp, .inl rfl, rfl⟩
  · have hlm : len ≤ m := by rw [hmm]; split <;> omega
    have hbytes : len * P.bytesOf e ≤ reachBytes := by
      have := hz ((((List.range len).map D).length + ((List.range (m - len)).map fun j => D (len + j)).length) * P.bytesOf e) (by rw [hx]; simp [DataW.weights, ht])
      refine Nat.le_trans (Nat.mul_le_mul_right _ ?_) this
      simp
    have hzD : ∀ i, i < len → ∀ n ∈ (D i).weights P e, n ≤ reachBytes := fun i hil n hn => by
      refine hz n ?_
      rw [hx]
      simp only [DataW.weights, ht, List.mem_cons, List.mem_append]
      refine .inr (.inl ?_)
      have : ∀ (l : List (DataW H)) (d : DataW H), d ∈ l → n ∈ d.weights P e → n ∈ DataW.weightsAll P e l := by
        intro l
        induction l with
        | nil => intro d hd; simp at hd
        | cons d0 l ih =>
          intro d hd hnd
          simp only [DataW.weightsAll, List.mem_append]
          rcases List.mem_cons.1 hd with rfl | hd
          · exact .inl hnd
          · exact .inr (ih d hd hnd)
      exact this _ (D i) (List.mem_map.2 ⟨i, List.mem_range.2 hil, rfl⟩) hn
    by_cases hl0 : len = 0
    · subst hl0
      exact ⟨some a, cap, [], [], rfl, Nat.zero_le _, hm, by simp, .inl rfl, rfl⟩
    · obtain ⟨b, off, spot⟩ := a
      obtain ⟨ys0, n0, _, _, _, hf0⟩ := hi 0 (by omega)
      obtain ⟨v0, _, hc0, _⟩ := hf0 0 fs[0] (by simp [h0])
      have hspot : spot = none := by simpa [Addr.add] using World.cell?_spot hc0
      subst hspot
      have hadd : ∀ j, (⟨b, off, none⟩ : Addr).add j = ⟨b, off + j, none⟩ := fun j => by
        unfold Addr.add; split
        · rename_i h; subst h; rfl
        · rfl
      let cells : Nat → Value := fun j => (w.cell? ⟨b, off + j, none⟩).getD undef
      have hcells : ∀ i, i < len → ∀ j, j < fs.size → w.cell? ⟨b, off + (i * fs.size + j), none⟩ = some (cells (i * fs.size + j)) := fun i hil j hj => by
        obtain ⟨ys, n, _, _, _, hf⟩ := hi i (by omega)
        obtain ⟨v, y, hc, _⟩ := hf j fs[j] (by simp [hj])
        rw [hadd] at hc
        simp [cells, hc]
      obtain ⟨l, hll, hrows⟩ := rows_of (R := R) fs.size cells len (fun i hil => by
        obtain ⟨ys, n, hD, _, hyl, hf⟩ := hi i (by omega)
        refine hR (fun j => cells (i * fs.size + j)) ys n hyl (fun j f hj => ?_)
        have hjl : j < fs.size := (Array.getElem?_eq_some_iff.1 hj).1
        obtain ⟨v, y, hc, hy, ht⟩ := hf j f hj
        rw [hadd, hcells i hil j hjl] at hc
        injection hc with hc
        subst hc
        refine ⟨y, hy, ht, fun k hk => hzD i hil k ?_⟩
        rw [hD]
        simp only [DataW.weights, he]
        refine DataW.weights_mem_each (j := j) (t := f.type) (d := y.1) ?_ ?_ k hk
        · simp [List.getElem?_map, Array.getElem?_toList, hj]
        · simp [List.getElem?_map, hy])
      subst hll
      refine ⟨some ⟨b, off, none⟩, cap, l, _, rfl, hl, hm, hbytes, .inr ⟨b, off, rfl, ?_, fun j u hu => ?_⟩, hrows⟩
      · have := hcells 0 (by omega) 0 h0
        exact World.block_lt_of_cell? w _ this
      · simp only [List.getElem?_map, Option.map_eq_some_iff, List.getElem?_eq_some_iff] at hu
        obtain ⟨j', ⟨hj1, hj2⟩, rfl⟩ := hu
        simp at hj1 hj2
        subst hj2
        have hdiv : j / fs.size < l.length := (Nat.div_lt_iff_lt_mul h0).2 hj1
        have hmod : j % fs.size < fs.size := Nat.mod_lt _ h0
        have := hcells (j / fs.size) hdiv (j % fs.size) hmod
        have e : j / fs.size * fs.size + j % fs.size = j := by rw [Nat.mul_comm]; exact Nat.div_add_mod j fs.size
        rw [e] at this
        exact this

/-- What the reach says of a []byte. -/
theorem bytes_len {t e : TypeId} {fuel : Nat} {A : Option Addr} {n c : Nat} {x : DataW H × List MemPlace} (ht : P.underlying t = some (.slice e)) (he : P.underlying e = some (.int .u8)) (hce : P.cellsOf e = 1) (hbe : P.bytesOf e = 1)
    (h : DataW.trod enc P w base spare held fuel t [.slice A n c] = some x) (hz : ∀ n ∈ x.1.weights P t, n ≤ reachBytes) : n ≤ reachBytes := by
  rcases open_ints ht he hce h with ⟨hcs, _⟩ | ⟨a, len, cap, zs, hcs, _, hl, hm, hz', hx, hcell, hwz⟩
  · simp at hcs; omega
  · simp at hcs
    obtain ⟨rfl, rfl, rfl⟩ := hcs
    have hlz : n ≤ zs.length := by
      have := hz'
      split at this <;> omega
    have := hz (((lits (H := H) .u8 (zs.take n)).length + (lits (H := H) .u8 (zs.drop n)).length) * P.bytesOf e) (by rw [hx]; simp [DataW.weights, ht])
    rw [hbe] at this
    simp [lits] at this
    omega
end
end Go.V
namespace Go.V
open Go.RowKit Go.ChangeShapes Go.WideShapes Go.ChangeAt Go.Deep

section
variable {H : Type} {enc : TypeId × Value → H} {P : Program} {W : World}
theorem addr_none {a : Addr} {w : World} {v : Value} (h : w.cell? a = some v) : ∃ b off, a = ⟨b, off, none⟩ := by
  obtain ⟨b, off, spot⟩ := a
  have hs : spot = none := by simpa using World.cell?_spot h
  subst hs
  exact ⟨b, off, rfl⟩
theorem add_none (b off i : Nat) : (⟨b, off, none⟩ : Addr).add i = ⟨b, off + i, none⟩ := by
  unfold Addr.add
  split
  · rename_i h; subst h; rfl
  · rfl
theorem open_intl {t e : TypeId} {fuel base : Nat} {spare : Nat → Bool} {held : Bool} {cs : List Value} {x : DataW H × List MemPlace} (ht : P.underlying t = some (.slice e)) (he : P.underlying e = some (.int .i64)) (hce : P.cellsOf e = 1)
    (h : DataW.trod enc P W base spare held fuel t cs = some x) :
    ∃ A c l, cs = [.slice A l.length c] ∧ l.length ≤ c ∧ c ≤ maxLen ∧ SV W W.heap.size A (intsV l) ∧ ∀ (i : Nat) (hi : i < l.length), I64 l[i] := by
  rcases open_ints ht he hce h with ⟨hcs, _⟩ | ⟨a, len, cap, zs, hcs, _, hl, hm, hz, _, hcell, hwz⟩
  · exact ⟨none, 0, [], by simpa using hcs, by simp, by simp [maxLen], .inl rfl, fun i hi => by simp at hi⟩
  · have hlz : len ≤ zs.length := by
      have := hz
      split at this <;> omega
    have hlen : (zs.take len).length = len := by simp; omega
    refine ⟨some a, cap, zs.take len, by rw [hlen]; exact hcs, by omega, hm, ?_, fun i hi => ?_⟩
    · by_cases h0 : len = 0
      · subst h0; exact .inl (by simp [intsV])
      · have hc0 := hcell 0 (by omega)
        have hc00 : W.cell? a = some (.int .i64 (zs.getD 0 0)) := by simpa [Addr.add] using hc0
        obtain ⟨b, off, rfl⟩ := addr_none hc00
        refine .inr ⟨b, off, rfl, World.block_lt_of_cell? W _ hc00, fun j u hu => ?_⟩
        simp only [intsV, List.getElem?_map, Option.map_eq_some_iff, List.getElem?_take] at hu
        obtain ⟨z, hz1, rfl⟩ := hu
        split at hz1
        · obtain ⟨hjl, rfl⟩ := List.getElem?_eq_some_iff.1 hz1
          have := hcell j hjl
          rw [add_none] at this
          rw [this]
          simp [List.getD, hz1]
        · cases hz1
    · have := bounds_i64 (hwz _ (List.mem_of_mem_take (List.getElem_mem hi)))
      exact this
theorem open_booll {t e : TypeId} {fuel base : Nat} {held : Bool} {cs : List Value} {x : DataW H × List MemPlace} (ht : P.underlying t = some (.slice e)) (he : P.underlying e = some .bool) (hce : P.cellsOf e = 1)
    (h : DataW.trod enc P W base (fun _ => true) held fuel t cs = some x) :
    ∃ A c l, cs = [.slice A l.length c] ∧ l.length ≤ c ∧ c ≤ maxLen ∧ SV W W.heap.size A (boolsV l) := by
  rcases open_bools ht he hce h with ⟨hcs, _⟩ | ⟨a, len, cap, B, hcs, _, hl, hm, _, hcell⟩
  · exact ⟨none, 0, [], by simpa using hcs, by simp, by simp [maxLen], .inl rfl⟩
  · have hlen : ((List.range len).map B).length = len := by simp
    refine ⟨some a, cap, (List.range len).map B, by rw [hlen]; exact hcs, by omega, hm, ?_⟩
    by_cases h0 : len = 0
    · subst h0; exact .inl (by simp [boolsV])
    · have hc0 := hcell 0 (by omega)
      have hc00 : W.cell? a = some (.bool (B 0)) := by simpa [Addr.add] using hc0
      obtain ⟨b, off, rfl⟩ := addr_none hc00
      refine .inr ⟨b, off, rfl, World.block_lt_of_cell? W _ hc00, fun j u hu => ?_⟩
      simp only [boolsV, List.getElem?_map, Option.map_eq_some_iff] at hu
      obtain ⟨z, ⟨y, hy, rfl⟩, rfl⟩ := hu
      obtain ⟨hj1, hj2⟩ := List.getElem?_eq_some_iff.1 hy
      simp at hj1 hj2
      subst hj2
      have := hcell j (by omega)
      rw [add_none] at this
      exact this
end
end Go.V
namespace Go.Proofs.YtjljknocnebnaaaDoor
open Go.RowKit Go.V
set_option linter.unusedVariables false

def InPost (w : World) (base : Nat) (A : Option Addr) (n c : Nat) (xs news : List Value) (i : Nat) (e : Ending) (w' : World) : Prop := ∃ gd c', e = .returned (.slice (some ⟨gd, 0, none⟩) (n + 1) c') ∧
  w'.ownsRow base 66 4 (.slice (some ⟨gd, 0, none⟩) (n + 1) c') (n + 1) (xs.take (i * 4) ++ news ++ xs.drop (i * 4)) ∧ w.grownBy w' (Value.slice A n c).ownBlock ∧
  ((Value.slice (some ⟨gd, 0, none⟩) (n + 1) c').ownBlock = (Value.slice A n c).ownBlock ∨ (Value.slice (some ⟨gd, 0, none⟩) (n + 1) c').ownBlock = some w.heap.size)
theorem blk_shape {w : World} {g : Nat} {t : TypeId} {cs : Array Value} (h : Blk w g t cs) : w.shape? g = some (t, cs.size) := by
  unfold Blk at h; simp [World.shape?, h]
theorem overlaps_no (w : World) (vb g : Nat) (cs cur : Array Value) (hv : Blk w vb 66 cs) (hg : Blk w g 66 cur) (hne : vb ≠ g) (hc : cur.size ≠ 0) (la ca off lb cb : Nat) :
    (callFunc 87 #[.slice (some ⟨vb, 0, none⟩) la ca, .slice (some ⟨g, off, none⟩) lb cb]).run Tryd.prog w = .ok (.value (.bool false)) w := by
  rw [run_callFunc_extern Tryd.func87 (by kernel_rfl) (by kernel_rfl) (by kernel_rfl) (e := Extern.SlicesOverlaps.overlaps #[22, 22] #[4]) (by kernel_rfl),
    Lib.run_overlaps_apart w 22 4 66 Tryd.underlying22 4 (fun w => by kernel_rfl) ⟨vb, 0, none⟩ ⟨g, off, none⟩ la ca lb cb hne 66 66 cs.size cur.size (blk_shape hv) (blk_shape hg) hc (hv.frozen 0) (hv.frozen _)]
  rfl
set_option maxRecDepth 100000 in
set_option maxHeartbeats 8000000 in
theorem insert_end (w : World) (base : Nat) (A : Option Addr) (n c : Nat) (xs news : List Value) (vb : Nat) (hown : w.ownsRow base 66 4 (.slice A n c) n xs) (hl : n ≤ 1000000) (hbase : base ≤ w.heap.size)
    (hnl : news.length = 4) (hvb : ∀ j u, news[j]? = some u → w.cell? ⟨vb, j, none⟩ = some u) (h1 : ∀ u ∈ news, u.oneCell' = true) :
    Calls Tryd.prog 62 #[.slice A n c, .int .i64 n, .slice (some ⟨vb, 0, none⟩) 1 1] w (InPost w base A n c xs news n) := by
  obtain ⟨i0, hi0, hz0, hz1, hz2⟩ := info_parts info46
  obtain ⟨A0, c0, e0, hc0, _⟩ := own_form hown
  injection e0 with e1 e2 e3
  subst e1 e3
  have hxl : xs.length = n * 4 := hown.1
  have HF : Hid (∀ gd c' w', w'.ownsRow base 66 4 (.slice (some ⟨gd, 0, none⟩) (n + 1) c') (n + 1) (xs ++ news) → w.grownBy w' (Value.slice A n c).ownBlock →
      ((Value.slice (some ⟨gd, 0, none⟩) (n + 1) c').ownBlock = (Value.slice A n c).ownBlock ∨ (Value.slice (some ⟨gd, 0, none⟩) (n + 1) c').ownBlock = some w.heap.size) → InPost w base A n c xs news n (.returned (.slice (some ⟨gd, 0, none⟩) (n + 1) c')) w') :=
    Lib.hid fun gd c' w' g1 g2 g3 => ⟨gd, c', rfl, by rw [List.take_of_length_le (by omega), List.drop_of_length_le (by omega), List.append_nil]; exact g1, g2, g3⟩
  have hsv : SV w (vb + 1) (some ⟨vb, 0, none⟩) news := .inr ⟨vb, 0, rfl, by omega, fun j u hu => by rw [Nat.zero_add]; exact hvb j u hu⟩
  generalize InPost w base A n c xs news n = R at *
  have h63 : n + 1 ≤ maxLen := by unfold maxLen; omega
  have hby : (n + 1) * 64 ≤ 140737488355328 := by omega
  clear hvb hxl
  have hfin : ∀ (A' : Option Addr) (c' : Nat) (w' : World), w'.ownsRow base 66 4 (.slice A' (n + 1) c') (n + 1) (xs ++ news) → ∃ gd, A' = some ⟨gd, 0, none⟩ := fun A' c' w' h => by
    obtain ⟨g, cur, e, _⟩ := own_blk h (by omega)
    exact ⟨g, e⟩
  have HFI := Lib.hid hfin
  clear hfin
  rcases A with _ | ⟨ab, ao, asp⟩
  · have hn0 : n = 0 ∧ c = 0 := by
      obtain ⟨_, ⟨h2, h3⟩ | ⟨g, cap, cur, h2, _⟩⟩ := hown
      · injection h2 with _ h4 h5; exact ⟨h4, h5⟩
      · cases h2
    obtain ⟨rfl, rfl⟩ := hn0
    go_enter Tryd.func62, Tryd.ntmps62
    go_wp2_with (first | (at_builtin; refine wpList_appNo _ rfl (.tmp 23) (.tmp 24) 22 rfl base 66 i0 _ 4 64 Tryd.underlying22 hi0 hz0 hz1 hz2 rfl (by decide) none 0 0 xs rfl hown (vb + 1) (some ⟨vb, 0, none⟩) 1 1 news rfl (by omega) hsv h1 h63 hby hbase ?_))
    intro A' c' w' hown' hg' _ hob'
    obtain ⟨gd, rfl⟩ := HFI.out _ _ _ hown'
    have HR := Lib.hid (HF.out _ _ _ hown' hg' hob')
    clear hown' hg' hob'
    go_wp2_with fail
    exact HR.out
  · by_cases hcn : c = n
    all_goals
      first | subst hcn | (have hcn' : n < c := by omega)
      go_enter Tryd.func62, Tryd.ntmps62
      go_wp2_with (first | (at_builtin; refine wpList_appNo _ rfl (.tmp 23) (.tmp 24) 22 rfl base 66 i0 _ 4 64 Tryd.underlying22 hi0 hz0 hz1 hz2 rfl (by decide) (some ⟨ab, ao, asp⟩) _ _ xs rfl hown (vb + 1) (some ⟨vb, 0, none⟩) 1 1 news rfl (by omega) hsv h1 h63 hby hbase ?_))
      intro A' c' w' hown' hg' _ hob'
      obtain ⟨gd, rfl⟩ := HFI.out _ _ _ hown'
      have HR := Lib.hid (HF.out _ _ _ hown' hg' hob')
      clear hown' hg' hob'
      go_wp2_with fail
      exact HR.out

set_option maxRecDepth 100000 in
set_option maxHeartbeats 8000000 in
theorem insert_room (w : World) (base g n c i : Nat) (xs news : List Value) (vb : Nat) (nv : Array Value) (cur : Array Value) (hb : Blk w g 66 cur) (hg : base ≤ g) (hroom : n + 1 ≤ c) (hm : c ≤ maxLen) (hcs : cur.size = c * 4) (hx : cur.toList.take (n * 4) = xs) (hi : i < n) (hl : n ≤ 1000000)
    (hvb : Blk w vb 66 nv) (hnv : nv.toList = news) (hne : vb ≠ g) (hnl : news.length = 4) (h1 : ∀ u ∈ news, u.oneCell' = true) (hx1 : ∀ u ∈ xs, u.oneCell' = true) :
    Calls Tryd.prog 62 #[.slice (some ⟨g, 0, none⟩) n c, .int .i64 i, .slice (some ⟨vb, 0, none⟩) 1 1] w (InPost w base (some ⟨g, 0, none⟩) n c xs news i) := by
  obtain ⟨i0, hi0, hz0, hz1, hz2⟩ := info_parts info46
  have hxl : xs.length = n * 4 := by rw [← hx, List.length_take]; simp; omega
  have hcl : cur.toList.length = c * 4 := by simpa using hcs
  have hnvs : ∀ (w' : World), Blk w' vb 66 nv → ∀ j u, news[j]? = some u → w'.cell? ((⟨vb, 0, none⟩ : Addr).add j) = some u := fun w' hb' j u hu => by
    rw [add_none, Nat.zero_add, hb'.cell j, ← Array.getElem?_toList, hnv]; exact hu
  have HF : Hid (∀ (c2 : Array Value) (w' : World), c2.toList = (cur.toList.take (i * 4 + 4) ++ xs.drop (i * 4) ++ cur.toList.drop (i * 4 + 4 + (xs.drop (i * 4)).length)).take (i * 4) ++ news ++ (cur.toList.take (i * 4 + 4) ++ xs.drop (i * 4) ++ cur.toList.drop (i * 4 + 4 + (xs.drop (i * 4)).length)).drop (i * 4 + 4) →
      Blk w' g 66 c2 → w.grownBy w' (some g) → InPost w base (some ⟨g, 0, none⟩) n c xs news i (.returned (.slice (some ⟨g, 0, none⟩) (n + 1) c)) w') := Lib.hid fun c2 w' e2 hb2 hg2 => by
    have hil := ins_list (cur := cur.toList) (xs := xs) (news := news) (p := i * 4) (by rw [hxl]; exact hx) (by omega) (by omega)
    rw [hnl] at hil
    refine ⟨g, c, rfl, own_of_blk hb2 hg hroom hm ?_ ?_, hg2, .inl rfl⟩
    · have := congrArg List.length e2
      simp only [Array.length_toList, List.length_append, List.length_take, List.length_drop, hcl, hxl, hnl] at this
      rw [this]; omega
    · rw [e2, ← hil]; congr 1; omega
  have hsrc1 : ∀ j v, (xs.drop (i * 4))[j]? = some v → w.cell? ((⟨g, i * 4, none⟩ : Addr).add j) = some v := fun j v hj => by
    rw [add_none, hb.cell, ← Array.getElem?_toList]
    rw [List.getElem?_drop, ← hx, List.getElem?_take] at hj
    split at hj
    · exact hj
    · cases hj
  have hdl : (xs.drop (i * 4)).length = (n - i) * 4 := by rw [List.length_drop, hxl]; omega
  have hd1 : ∀ u ∈ xs.drop (i * 4), u.oneCell' = true := fun u hu => hx1 u (List.mem_of_mem_drop hu)
  have hov : ∀ lb cb, (callFunc 87 #[.slice (some ⟨vb, 0, none⟩) 1 1, .slice (some ⟨g, (i + 1) * 4, none⟩) lb cb]).run Tryd.prog w = .ok (.value (.bool false)) w := fun lb cb => overlaps_no w vb g nv cur hvb hb hne (by omega) 1 1 _ lb cb
  have hfit : (i + 1) * 4 + (xs.drop (i * 4)).length ≤ cur.size := by rw [hdl, hcs]; omega
  have hn1 : (xs.drop (i * 4)).length = Nat.min (n + 1 - i) (n + 1 - (i + 1)) * 4 := by
    rw [hdl]; congr 1; simp only [Nat.min_def]; split <;> omega
  unfold maxLen at hm
  have hw1 : IntKind.i64.wrap ((i : Int) + 1) = (i : Int) + 1 := by rw [IntKind.wrap_i64]; omega
  have hb1 : (0 : Int) ≤ (i : Int) + 1 := by omega
  have htn : ((i : Int) + 1).toNat = i + 1 := by omega
  have hbi : (i : Int) ≤ n := by omega
  have hb3 : (i : Int) ≤ (n : Int) + 1 := by omega
  have hz2' : ((i : Int) == (n : Int)) = false := by simp; omega
  have hz3 : ¬ (c : Int) < (n : Int) + 1 := by omega
  have hci : ¬ (c = i) := by omega
  have hci1 : ¬ (c = i + 1) := by omega
  have HD := Lib.hid hdl
  have HX := Lib.hid hxl
  have HN := Lib.hid hnl
  have HC := Lib.hid hcl
  clear hdl hxl hcl hx hx1 hnl
  generalize InPost w base (some ⟨g, 0, none⟩) n c xs news i = R at *
  go_enter Tryd.func62, Tryd.ntmps62
  go_wp2_with (simp only [hov])
  go_region_law
    (refine step_copy_into _ rfl (.tmp 73) (.tmp 76) 22 22 rfl 66 i0 4 Tryd.underlying22 hi0 hz1 g ((i + 1) * 4) (n + 1 - (i + 1)) (c - (i + 1)) (by simp [Act.eval, Act.put]) ⟨g, i * 4, none⟩ (n + 1 - i) (c - i) (by simp [Act.eval, Act.put]) cur 66 (xs.drop (i * 4)) hb hn1 hsrc1 hfit hd1 ?_; intro w2 hb2 hg2 hz2)
  all_goals
    have hv2 := hvb.drew.grown hg2 (fun e => hne (by simpa using e))
    have hsz2 : i * 4 + news.length ≤ (spl cur ((i + 1) * 4) (xs.drop (i * 4))).size := by
      rw [HN.out]; simp only [spl, List.size_toArray, List.length_append, List.length_take, List.length_drop, HC.out]; omega
    have hn2 : news.length = Nat.min 1 (n + 1 - i) * 4 := by
      rw [HN.out, show Nat.min 1 (n + 1 - i) = 1 by simp only [Nat.min_def]; split <;> omega]
    have hs2 := hnvs w2 hv2
    have HB2 : Hid (∀ w', Blk w' g 66 (spl (spl cur ((i + 1) * 4) (xs.drop (i * 4))) (i * 4) news) →
        w2.grownBy w' (some g) → R (.returned (.slice (some ⟨g, 0, none⟩) (n + 1) c)) w') := Lib.hid fun w' h2 h3 => by
      refine HF.out _ w' ?_ h2 ⟨h3.os.trans hg2.os, h3.tape.trans hg2.tape, h3.output.trans hg2.output, Nat.le_trans hg2.size h3.size, fun b hb hk => (h3.block b (Nat.lt_of_lt_of_le hb hg2.size) hk).trans (hg2.block b hb hk)⟩
      simp only [spl]
      rw [HN.out, show (i + 1) * 4 = i * 4 + 4 by omega]
    generalize hcu : spl cur ((i + 1) * 4) (xs.drop (i * 4)) = cur2 at *
    clear hcu hsrc1 hd1 hn1 hfit hov hnvs hv2 hg2 HF
    go_wp2_with (first | (with_reducible refine wpList_copy_into _ rfl (.tmp 80) (.tmp 81) 22 22 rfl 66 i0 4 Tryd.underlying22 hi0 hz1 g (i * 4) (n + 1 - i) (c - i) rfl ⟨vb, 0, none⟩ 1 1 rfl cur2 66 news hb2 hn2 hs2 hsz2 h1 ?_))
    intro w3 hb3' hg3 hz3'
    have HR := Lib.hid (HB2.out w3 hb3' hg3)
    clear hb3' hg3 hz3'
    go_wp2_with fail
    exact HR.out
set_option maxRecDepth 100000 in
set_option maxHeartbeats 8000000 in
theorem insert_grow (w : World) (base g n i : Nat) (xs news : List Value) (vb : Nat) (nv : Array Value) (cur : Array Value) (hb : Blk w g 66 cur) (hbase : base ≤ w.heap.size) (hcs : cur.size = n * 4) (hx : cur.toList.take (n * 4) = xs) (hi : i < n) (hl : n ≤ 1000000)
    (hvb : Blk w vb 66 nv) (hnv : nv.toList = news) (hnl : news.length = 4) (h1 : ∀ u ∈ news, u.oneCell' = true) (hx1 : ∀ u ∈ xs, u.oneCell' = true) :
    Calls Tryd.prog 62 #[.slice (some ⟨g, 0, none⟩) n n, .int .i64 i, .slice (some ⟨vb, 0, none⟩) 1 1] w (InPost w base (some ⟨g, 0, none⟩) n n xs news i) := by
  obtain ⟨i0, hi0, hz0, hz1, hz2⟩ := info_parts info46
  have hxl : xs.length = n * 4 := by rw [← hx, List.length_take]; simp; omega
  have hxg : ∀ j u, xs[j]? = some u → w.cell? ⟨g, j, none⟩ = some u := fun j u hu => by
    rw [hb.cell, ← Array.getElem?_toList]
    rw [← hx, List.getElem?_take] at hu
    split at hu
    · exact hu
    · cases hu
  have hnvs : ∀ (w' : World), Blk w' vb 66 nv → ∀ j u, news[j]? = some u → w'.cell? ((⟨vb, 0, none⟩ : Addr).add j) = some u := fun w' hb' j u hu => by
    rw [add_none, Nat.zero_add, hb'.cell j, ← Array.getElem?_toList, hnv]; exact hu
  have hxs : ∀ (w' : World), Blk w' g 66 cur → ∀ j u, (xs.drop (i * 4))[j]? = some u → w'.cell? ((⟨g, i * 4, none⟩ : Addr).add j) = some u := fun w' hb' j u hu => by
    rw [add_none, hb'.cell, ← Array.getElem?_toList]
    rw [List.getElem?_drop, ← hx, List.getElem?_take] at hu
    split at hu
    · exact hu
    · cases hu
  have hol : (xs.take (i * 4)).length = i * 4 := by rw [List.length_take, hxl]; omega
  have hos : ∀ j v, (xs.take (i * 4))[j]? = some v → w.cell? ((⟨g, 0, none⟩ : Addr).add j) = some v := fun j v hj => by
    rw [add_none, Nat.zero_add]
    rw [List.getElem?_take] at hj
    split at hj
    · exact hxg j v hj
    · cases hj
  have hkk : (n : Int) + 1 - (i : Int) = ((n + 1 - i : Nat) : Int) := by omega
  have hik : i + (n + 1 - i) = n + 1 := by omega
  have hdl : (xs.drop (i * 4)).length = (n - i) * 4 := by rw [List.length_drop, hxl]; omega
  have hd1 : ∀ u ∈ xs.drop (i * 4), u.oneCell' = true := fun u hu => hx1 u (List.mem_of_mem_drop hu)
  have hn1 : news.length = Nat.min 1 (n + 1 - i) * 4 := by rw [hnl, show Nat.min 1 (n + 1 - i) = 1 by simp only [Nat.min_def]; split <;> omega]
  have hn2 : (xs.drop (i * 4)).length = Nat.min (n - i) (n + 1 - (i + 1)) * 4 := by
    rw [hdl]; congr 1; simp only [Nat.min_def]; split <;> omega
  have HF : Hid (∀ (q : Nat) (row : Array Value) (w' : World), n + 1 ≤ q → q ≤ 9223372036854775807 → row.size = q * 4 → row.toList.take (i * 4) = xs.take (i * 4) → Blk w' w.heap.size 66 (spl (spl row (i * 4) news) ((i + 1) * 4) (xs.drop (i * 4))) → w.grownBy w' none → 
      InPost w base (some ⟨g, 0, none⟩) n n xs news i (.returned (.slice (some ⟨w.heap.size, 0, none⟩) (n + 1) q)) w') := Lib.hid fun q row w' h2 h3 h4 h5 h6 h7 => by
    have hrl : row.toList.length = q * 4 := by simpa using h4
    have hil := ins_list2 (cur := row.toList) (xs := xs) (news := news) (p := i * 4) h5 (by omega) (by omega)
    rw [hnl] at hil
    refine ⟨w.heap.size, q, rfl, own_of_blk h6 hbase h2 (by unfold maxLen; omega) ?_ ?_, ⟨h7.os, h7.tape, h7.output, h7.size, fun b hb _ => h7.block b hb (by simp)⟩, .inr rfl⟩
    · simp only [spl, List.size_toArray, List.length_append, List.length_take, List.length_drop, hrl, hxl, hnl]; omega
    · simp only [spl, hnl]
      rw [show (i + 1) * 4 = i * 4 + 4 by omega, ← hil]
      congr 1
      omega
  have hw1 : IntKind.i64.wrap ((i : Int) + 1) = (i : Int) + 1 := by rw [IntKind.wrap_i64]; omega
  have hb1 : (0 : Int) ≤ (i : Int) + 1 := by omega
  have htn : ((i : Int) + 1).toNat = i + 1 := by omega
  have hbi : (i : Int) ≤ n := by omega
  have hz2' : ((i : Int) == (n : Int)) = false := by simp; omega
  have hz3 : (n : Int) < (n : Int) + 1 := by omega
  have hci : ¬ (n = i) := by omega
  have hgw := hb.lt
  have hvw := hvb.lt
  have hsum : i ≤ n + 1 := by omega
  have HN := Lib.hid hnl
  have HX := Lib.hid hxl
  have HD := Lib.hid hdl
  have HKK := Lib.hid hkk
  have HIK := Lib.hid hik
  clear hdl hxl hcs hx hx1 hnl hxg hkk hik
  generalize InPost w base (some ⟨g, 0, none⟩) n n xs news i = R at *
  go_enter Tryd.func62, Tryd.ntmps62
  go_wp2_with (first | (at_builtin; refine wpList_app_zeros _ rfl (.tmp 34) (.tmp 39) 22 3 rfl 66 i0 _ .i64 4 64 Tryd.underlying22 Tryd.underlying3 hi0 hz0 hz1 hz2 rfl (by decide) ⟨g, 0, none⟩ i n (xs.take (i * 4)) rfl hol hos .i64 (n + 1 - i) (congrArg (Value.int .i64) HKK.out) ?c1 ?c2 ?c3 ?c4 ?c5 ?_))
  case c1 => omega
  case c2 => omega
  case c3 => omega
  case c4 => omega
  case c5 => omega
  intro q row w2 hq1 hq2 hrs hrt hrb hg2 hsz2
  have hv2 := hvb.grown hg2 (by simp)
  have hb2 := hb.grown hg2 (by simp)
  have hs2 := hnvs w2 hv2
  have hfit2 : i * 4 + news.length ≤ row.size := by rw [HN.out, hrs]; omega
  have hqi : ¬ (q = i) := by omega
  have hqi1 : ¬ (q = i + 1) := by omega
  have hle1 : (i : Int) ≤ (n : Int) + 1 := by omega
  have HF2 := Lib.hid (fun w' h6 h7 => HF.out q row w' hq1 hq2 hrs hrt h6 h7)
  have hrs2 := Lib.hid hrs
  clear hrs hrt hos HF
  go_wp2_with (first | (with_reducible refine wpList_copy_into _ rfl (.tmp 43) (.tmp 44) 22 22 rfl 66 i0 4 Tryd.underlying22 hi0 hz1 w.heap.size (i * 4) (n + 1 - i) (q - i) rfl ⟨vb, 0, none⟩ 1 1 rfl row 66 news hrb hn1 hs2 hfit2 h1 ?_))
  intro w3 hb3' hg3 hz3'
  have hne3 : some g ≠ some w.heap.size := by simp; omega
  have hb3 := hb2.grown hg3 hne3
  have hs3 := hxs w3.drew hb3.drew
  have hfit3 : (i + 1) * 4 + (xs.drop (i * 4)).length ≤ (spl row (i * 4) news).size := by
    rw [HD.out]; simp only [spl, List.size_toArray, List.length_append, List.length_take, List.length_drop, Array.length_toList, HN.out, hrs2.out]; omega
  have HF3 : Hid (∀ w', Blk w' w.heap.size 66 (spl (spl row (i * 4) news) ((i + 1) * 4) (xs.drop (i * 4))) → w3.drew.grownBy w' (some w.heap.size) → R (.returned (.slice (some ⟨w.heap.size, 0, none⟩) (n + 1) q)) w') := Lib.hid fun w' h6 h7 =>
    HF2.out w' h6 ⟨h7.os.trans (hg3.os.trans hg2.os), h7.tape.trans (hg3.tape.trans hg2.tape), h7.output.trans (hg3.output.trans hg2.output), Nat.le_trans hg2.size (Nat.le_trans hg3.size h7.size), fun k hk _ => by
      have hk2 := Nat.lt_of_lt_of_le hk hg2.size
      have hne : some k ≠ some w.heap.size := by simp; omega
      exact (h7.block k (Nat.lt_of_lt_of_le hk2 hg3.size) hne).trans ((hg3.block k hk2 hne).trans (hg2.block k hk (by simp)))⟩
  generalize hcu : spl row (i * 4) news = cur2 at *
  clear hcu HF2 hs2 hfit2 hrb hv2 hb2 hnvs hxs hg2 hg3 hb3
  go_wp2_with fail
  go_region_law
    (refine step_copy_into _ rfl (.tmp 50) (.tmp 53) 22 22 rfl 66 i0 4 Tryd.underlying22 hi0 hz1 w.heap.size ((i + 1) * 4) (n + 1 - (i + 1)) (q - (i + 1)) (by simp [Act.eval, Act.put]) ⟨g, i * 4, none⟩ (n - i) (n - i) (by simp [Act.eval, Act.put]) cur2 66 (xs.drop (i * 4)) hb3'.drew hn2 hs3 hfit3 hd1 ?_; intro w4 hb4' hg4 hz4'; have HR := Lib.hid (HF3.out w4 hb4' hg4); clear hb4' hg4 hz4')
  all_goals
    go_wp2_with fail
    exact HR.out
end Go.Proofs.YtjljknocnebnaaaDoor
namespace Ob
/-- The number of stored objects whose digest is less than d. -/
def lb (s : List S) (d : Int) : Nat := (s.filter fun x => decide (x.dig < d)).length
def fnd (s : List S) (d : Int) : Bool := decide (lb s d < s.length) && decide ((it s (lb s d)).dig = d)
theorem lb_le (s : List S) (d : Int) : lb s d ≤ s.length := List.length_filter_le _ _
theorem lb_eq (s : List S) (d : Int) (i : Nat) (hi : i ≤ s.length) (h1 : ∀ k, k < i → (it s k).dig < d) (h2 : ∀ k, i ≤ k → k < s.length → d ≤ (it s k).dig) : lb s d = i := by
  unfold lb
  rw [← List.take_append_drop i s, List.filter_append]
  have e1 : (s.take i).filter (fun x => decide (x.dig < d)) = s.take i := by
    rw [List.filter_eq_self]
    intro a ha
    obtain ⟨k, hk, rfl⟩ := List.mem_iff_getElem.1 ha
    simp at hk
    have := h1 k (by omega)
    rw [← it_eq s k (by omega)] at this
    simpa using this
  have e2 : (s.drop i).filter (fun x => decide (x.dig < d)) = [] := by
    rw [List.filter_eq_nil_iff]
    intro a ha
    obtain ⟨k, hk, rfl⟩ := List.mem_iff_getElem.1 ha
    simp at hk
    have := h2 (i + k) (by omega) (by omega)
    rw [← it_eq s (i + k) (by omega)] at this
    simp; omega
  rw [e1, e2]
  simp; omega
/-- A store whose digests grow. -/
def Sorted (s : List S) : Prop := ∀ i, i + 1 < s.length → (it s i).dig < (it s (i + 1)).dig
theorem Sorted.mono_ {s : List S} (h : Sorted s) : ∀ d i, i + d < s.length → 0 < d → (it s i).dig < (it s (i + d)).dig
  | 0, _, _, hd => by omega
  | 1, i, hi, _ => h i hi
  | d + 2, i, hi, _ => Int.lt_trans (h.mono_ (d + 1) i (by omega) (by omega)) (h (i + (d + 1)) hi)
theorem Sorted.mono {s : List S} (h : Sorted s) {i j : Nat} (hij : i < j) (hj : j < s.length) : (it s i).dig < (it s j).dig := by
  have := h.mono_ (j - i) i (by omega) (by omega)
  rwa [show i + (j - i) = j by omega] at this
theorem Sorted.le {s : List S} (h : Sorted s) {i j : Nat} (hij : i ≤ j) (hj : j < s.length) : (it s i).dig ≤ (it s j).dig := by
  rcases Nat.lt_or_eq_of_le hij with h1 | h1
  · exact Int.le_of_lt (h.mono h1 hj)
  · subst h1; exact Int.le_refl _
theorem lb_lt {s : List S} (h : Sorted s) (d : Int) (k : Nat) (hk : k < lb s d) : (it s k).dig < d := by
  rcases Nat.lt_or_ge k (lb s d) with _ | hh
  · apply Decidable.byContradiction
    intro hn
    have hle : lb s d ≤ k := by
      have h2 : ∀ j, k ≤ j → j < s.length → d ≤ (it s j).dig := fun j hj hjl => by
        have := h.le hj hjl; omega
      -- the number of smaller ones is at most k
      unfold lb
      have hks : k ≤ s.length := by have := lb_le s d; omega
      rw [← List.take_append_drop k s, List.filter_append]
      have e2 : (s.drop k).filter (fun x => decide (x.dig < d)) = [] := by
        rw [List.filter_eq_nil_iff]
        intro a ha
        obtain ⟨j, hj, rfl⟩ := List.mem_iff_getElem.1 ha
        simp at hj
        have := h2 (k + j) (by omega) (by omega)
        rw [← it_eq s (k + j) (by omega)] at this
        simp; omega
      rw [e2, List.append_nil]
      have := List.length_filter_le (fun x => decide (x.dig < d)) (s.take k)
      simp at this
      omega
    omega
  · omega
theorem lb_ge {s : List S} (h : Sorted s) (d : Int) (k : Nat) (hk : lb s d ≤ k) (hl : k < s.length) : d ≤ (it s k).dig := by
  apply Decidable.byContradiction
  intro hn
  -- then all up to k are smaller
  have h1 : ∀ j, j < k + 1 → (it s j).dig < d := fun j hj => by
    have := h.le (i := j) (j := k) (by omega) hl; omega
  have : k + 1 ≤ lb s d := by
    unfold lb
    rw [← List.take_append_drop (k + 1) s, List.filter_append]
    have e1 : (s.take (k + 1)).filter (fun x => decide (x.dig < d)) = s.take (k + 1) := by
      rw [List.filter_eq_self]
      intro a ha
      obtain ⟨j, hj, rfl⟩ := List.mem_iff_getElem.1 ha
      simp at hj
      have := h1 j (by omega)
      rw [← it_eq s j (by omega)] at this
      simpa using this
    rw [e1]
    simp; omega
  omega
theorem StOk.sorted {s : List S} (h : StOk s) : Sorted s := h.lt
end Ob
namespace Go.Proofs.YtjljknocnebnaaaDoor
open Go.RowKit Go.V
set_option linter.unusedVariables false

/-- What the comparison answers. -/
def cmpD (x d : Int) : Int := if x < d then -1 else if d < x then 1 else 0
theorem cmp_any (w : World) (x k d : Int) (Al : Option Addr) (nl kl : Nat) (Ad : Option Addr) (nd kd : Nat) :
    Calls Tryd.prog 53 #[.agg #[.int .i64 x, .int .i64 k, .slice Al nl kl, .slice Ad nd kd], .int .i64 d] w fun e w' => e = .returned (.int .i64 (cmpD x d)) ∧ Below w.heap.size w w' := by
  by_cases h1 : x < d
  · have H : Hid (cmpD x d = -1) := Lib.hid (if_pos h1)
    go_enter Tryd.func53, Tryd.ntmps53
    go_wp2_with fail
    go_ret
    exact ⟨by rw [H.out]; rfl, below_alloc1 _ _⟩
  · by_cases h2 : d < x
    · have H : Hid (cmpD x d = 1) := Lib.hid (by unfold cmpD; rw [if_neg h1, if_pos h2])
      go_enter Tryd.func53, Tryd.ntmps53
      go_wp2_with fail
      go_ret
      exact ⟨by rw [H.out]; rfl, below_alloc1 _ _⟩
    · have H : Hid (cmpD x d = 0) := Lib.hid (by unfold cmpD; rw [if_neg h1, if_neg h2])
      go_enter Tryd.func53, Tryd.ntmps53
      go_wp2_with fail
      go_ret
      exact ⟨by rw [H.out]; rfl, below_alloc1 _ _⟩

set_option maxRecDepth 100000 in
set_option maxHeartbeats 8000000 in
theorem bsearch_any (w : World) (A : Option Addr) (k : Nat) (s : List Ob.S) (d : Int) (fv : Value) (hfv : fv = .func (.func 53) #[] #[]) (hv : StV w Free A s) (hl : s.length ≤ 1000000) (hs : Ob.Sorted s) :
    Calls Tryd.prog 52 #[.slice A s.length k, .int .i64 d, fv] w fun e w' => e = .returned (.tuple #[.int .i64 (Ob.lb s d : Nat), .bool (Ob.fnd s d)]) ∧ Below w.heap.size w w' := by
  have HROW := Lib.hid (fun (w' : World) (hb : Below w.heap.size w w') i hi => (hv.keep (free_below hb)).row (w := w') i hi)
  have HS := Lib.hid hs
  clear hv hs
  subst hfv
  go_enter Tryd.func52, Tryd.ntmps52
  go_wp2_with fail
  go_loopw [9, 10] (fun iv jv wr => ∃ i j : Nat, i ≤ j ∧ j ≤ s.length ∧ iv = .int .i64 i ∧ jv = .int .i64 j ∧ Hid (i ≤ Ob.lb s d ∧ Ob.lb s d ≤ j) ∧ Below w.heap.size w wr) (fun iv jv _ => (intOf jv).toNat - (intOf iv).toNat)
  case atStart => exact ⟨0, s.length, Nat.zero_le _, Nat.le_refl _, rfl, rfl, Lib.hid ⟨Nat.zero_le _, Ob.lb_le _ _⟩, Below.refl _ _⟩
  case round =>
    obtain ⟨i, j, hij, hj, rfl, rfl, HB, hbw⟩ := hrel
    obtain ⟨wo, rfl⟩ : ∃ wo : World, wo = wr := ⟨_, rfl⟩
    by_cases hlt : i < j
    · have hlt' : (i : Int) < j := by omega
      obtain ⟨m, hm1, hm2, hm⟩ : ∃ m : Nat, i ≤ m ∧ m < j ∧ ((i : Int) + j) / 2 = (m : Int) := ⟨(i + j) / 2, by omega, by omega, by omega⟩
      have hmi : (m : Int) < s.length := by omega
      obtain ⟨b, off, Al, kl, Ad, kd, e, hb, _, d0, d1, d2, d3, hx, hob⟩ := HROW.out _ hbw m (by omega)
      subst e
      have HLT := Lib.hid (fun h => Ob.lb_ge (d := d) HS.out m h (by omega))
      have HGE := Lib.hid (fun h => Ob.lb_lt (d := d) HS.out m h)
      clear hob hx
      by_cases hc : (Ob.it s m).dig < d
      · have HB' : Hid (m + 1 ≤ Ob.lb s d ∧ Ob.lb s d ≤ j) := Lib.hid ⟨by
          apply Decidable.byContradiction; intro hn; have := HLT.out (by omega); omega, HB.out.2⟩
        have hcd : Hid (cmpD (Ob.it s m).dig d = -1) := Lib.hid (if_pos hc)
        clear hc
        generalize Ob.it s m = x at *
        go_wp2_with fail
        go_at_call 53
        refine (cmp_any _ _ _ _ _ _ _ _ _ _).mono ?_
        rintro e w2 ⟨rfl, hb2⟩
        rw [hcd.out]
        have hbw2 := hbw.trans (hb2.mono hbw.size)
        clear hb2
        go_wp2_with fail
        go_roundw
        case rel => exact ⟨m + 1, j, by omega, hj, by go_num, rfl, HB', hbw2⟩
        case measure => simp [intOf]; omega
      · have HB' : Hid (i ≤ Ob.lb s d ∧ Ob.lb s d ≤ m) := Lib.hid ⟨HB.out.1, by
          apply Decidable.byContradiction; intro hn; have := HGE.out (by omega); omega⟩
        have hcd : 0 ≤ cmpD (Ob.it s m).dig d := by unfold cmpD; rw [if_neg hc]; split <;> omega
        clear hc
        generalize Ob.it s m = x at *
        generalize hcc : cmpD x.dig d = cd at *
        have HCC := Lib.hid hcc
        clear hcc
        go_wp2_with fail
        go_at_call 53
        refine (cmp_any _ _ _ _ _ _ _ _ _ _).mono ?_
        rintro e w2 ⟨rfl, hb2⟩
        rw [HCC.out]
        have hbw2 := hbw.trans (hb2.mono hbw.size)
        clear hb2
        go_wp2_with fail
        go_roundw
        case rel => exact ⟨i, m, hm1, by omega, rfl, rfl, HB', hbw2⟩
        case measure => simp [intOf]; omega
    · obtain rfl : i = j := by omega
      have hi : Ob.lb s d = i := by have := HB.out; omega
      have HI := Lib.hid hi
      clear hi HB
      by_cases hil : i < s.length
      · have hil' : (i : Int) < s.length := by omega
        obtain ⟨b, off, Al, kl, Ad, kd, e, hb, _, d0, d1, d2, d3, hx, hob⟩ := HROW.out _ hbw i hil
        subst e
        clear hob hx
        have HF : Hid (Ob.fnd s d = (cmpD (Ob.it s i).dig d == 0)) := Lib.hid (by
          unfold Ob.fnd
          rw [HI.out, decide_eq_true hil, Bool.true_and, Bool.eq_iff_iff]
          simp only [decide_eq_true_eq, beq_iff_eq]
          unfold cmpD
          split
          · omega
          · split <;> omega)
        generalize Ob.it s i = x at *
        generalize hcc : cmpD x.dig d = cd at *
        have HCC := Lib.hid hcc
        clear hcc
        go_wp2_with fail
        go_at_call 53
        refine (cmp_any _ _ _ _ _ _ _ _ _ _).mono ?_
        rintro e w2 ⟨rfl, hb2⟩
        rw [HCC.out]
        have hbw2 := hbw.trans (hb2.mono hbw.size)
        clear hb2
        go_wp2_with fail
        go_ret2
        exact ⟨by rw [HI.out, HF.out]; rfl, hbw2⟩
      · have hil' : ¬ (i : Int) < s.length := by omega
        have hil2 : decide (i < s.length) = false := decide_eq_false hil
        have HF : Hid (Ob.fnd s d = false) := Lib.hid (by unfold Ob.fnd; rw [HI.out, decide_eq_false hil]; rfl)
        clear hil
        go_wp2_with fail
        go_ret2
        exact ⟨by rw [HI.out, HF.out]; rfl, hbw⟩
theorem find_any (w : World) (A : Option Addr) (k : Nat) (s : List Ob.S) (d : Int) (hv : StV w Free A s) (hl : s.length ≤ 1000000) (hs : Ob.Sorted s) :
    Calls Tryd.prog 33 #[stV A s.length k, .int .i64 d] w fun e w' => e = .returned (.tuple #[.int .i64 (Ob.lb s d : Nat), .bool (Ob.fnd s d)]) ∧ Below w.heap.size w w' := by
  have HB := Lib.hid (fun fv hfv => bsearch_any (w.alloc (.cells #[.slice A s.length k] 24)) A k s d fv hfv (hv.keep (Keeps.alloc _ _ _)) hl hs)
  clear hv hs
  go_enter Tryd.func33, Tryd.ntmps33
  go_wp2_with fail
  go_at_call 52
  refine (HB.out _ rfl).mono ?_
  rintro e w1 ⟨rfl, hb1⟩
  go_wp2_with fail
  go_ret2
  exact ⟨rfl, (below_alloc1 _ _).trans (hb1.mono (by simp))⟩
end Go.Proofs.YtjljknocnebnaaaDoor
