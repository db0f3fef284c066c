/-
  Objects: walk of 'CopyObject'.
-/
import Derived.Test.YtiilhnfdlpgllaaOb3
import Derived.Test.YtiilhnfdlpgllaaPk6
namespace Go.Proofs.Ytiilhnfdlpgllaa
open Go.RowKit Go.V
set_option linter.unusedVariables false

theorem results_c44 {fn : Func} {a : Tmp} (h : fn.results = #[.cell a 44]) (tmps : Array Value) (w : World) (g : Nat) (x y z : Value) (ha : tmps.getD a undef = .pointer (some ⟨g, 0, none⟩)) (hb : Blk w g 44 #[x, y, z]) :
    (results fn tmps).run Try.prog w = .ok (.agg #[x, y, z]) w := by
  have h0 := hb.cell 0
  have h1 := hb.cell 1
  have h2 := hb.cell 2
  simp only [List.getElem?_toArray, List.getElem?_cons_zero, List.getElem?_cons_succ] at h0 h1 h2
  have ha' : tmps[a]?.getD undef = .pointer (some ⟨g, 0, none⟩) := by simpa using ha
  simp [results, h, go_sem, ha', h0, h1, h2]
theorem results_c24 {fn : Func} {a : Tmp} (h : fn.results = #[.cell a 24]) (tmps : Array Value) (w : World) (g : Nat) (x : Value) (ha : tmps.getD a undef = .pointer (some ⟨g, 0, none⟩)) (hb : Blk w g 24 #[x]) :
    (results fn tmps).run Try.prog w = .ok (.agg #[x]) w := by
  have h0 := hb.cell 0
  simp only [List.getElem?_toArray, List.getElem?_cons_zero, List.getElem?_cons_succ] at h0
  have ha' : tmps[a]?.getD undef = .pointer (some ⟨g, 0, none⟩) := by simpa using ha
  simp [results, h, go_sem, ha', h0]
theorem blk_put3 {w : World} {g : Nat} {t : TypeId} {a b c : Value} (h : Blk w g t #[a, b, c]) (x y z : Value) : Blk (((w.setCell ⟨g, 0, none⟩ x).setCell ⟨g, 1, none⟩ y).setCell ⟨g, 2, none⟩ z) g t #[x, y, z] := by
  have := ((h.set_ 0 x).set_ 1 y).set_ 2 z
  simpa using this
/-- What 'CopyObject' answers. -/
def CoPost (w : World) (o : Ob.O) (e : Ending) (w' : World) : Prop := ∃ A1 k1 A2 k2, e = .returned (obV o A1 k1 A2 k2) ∧ ObA w' (Under w.heap.size) o A1 k1 A2 k2 ∧ Below w.heap.size w w'
set_option maxRecDepth 100000 in
set_option maxHeartbeats 8000000 in
theorem copyObject_any (w : World) (o : Ob.O) (Al : Option Addr) (kl : Nat) (Ad : Option Addr) (kd : Nat) (h : ObA w Free o Al kl Ad kd) (hl : o.links.length * 8 ≤ 140737488351232) :
    Calls Try.prog 50 #[obV o Al kl Ad kd] w (CoPost w o) := by
  have HC61 := Lib.hid (fun (w' : World) (hb : Below w.heap.size w w') => clone61_any w' Al kl o.links (h.ls.keep (free_below hb)).sv hl)
  have HC62 := Lib.hid (fun (w' : World) (hb : Below w.heap.size w w') => clone62_any w' Ad kd o.data (h.ds.keep (free_below hb)).sv (by have := h.dl; omega))
  have HF : Hid (∀ (w' : World) A1 k1 A2 k2, o.links.length ≤ k1 → o.data.length ≤ k2 → SA w' (Under w.heap.size) A1 (intsV o.links) → SA w' (Under w.heap.size) A2 (bytesV o.data) → Below w.heap.size w w' → CoPost w o (.returned (obV o A1 k1 A2 k2)) w') :=
    Lib.hid fun w' A1 k1 A2 k2 g1 g2 s1 s2 hb => ⟨A1, k1, A2, k2, rfl, ⟨h.kind, h.all, g1, g2, h.ll, h.dl, s1, s2⟩, hb⟩
  clear h
  obtain ⟨kk, ls, da⟩ := o
  simp only at HC61 HC62 HF hl ⊢
  generalize CoPost w _ = R at *
  have hbw : Below w.heap.size w ((w.alloc (.cells #[.int .i64 kk, .slice Al ls.length kl, .slice Ad da.length kd] 44)).alloc (.cells #[.int .i64 0, .slice none 0 0, .slice none 0 0] 44)) := below_alloc2 _ _ _
  have hbox := (Blk.new w 44 #[.int .i64 kk, .slice Al ls.length kl, .slice Ad da.length kd]).alloc (.cells #[.int .i64 0, .slice none 0 0, .slice none 0 0] 44)
  have hres := blk_new1 w (.cells #[.int .i64 kk, .slice Al ls.length kl, .slice Ad da.length kd] 44) 44 #[.int .i64 0, .slice none 0 0, .slice none 0 0]
  go_enter Try.func50, Try.ntmps50
  go_wp2_with fail
  generalize hwo : (w.alloc (.cells #[.int .i64 kk, .slice Al ls.length kl, .slice Ad da.length kd] 44)).alloc (.cells #[.int .i64 0, .slice none 0 0, .slice none 0 0] 44) = wo at *
  have hsz : wo.heap.size = w.heap.size + 2 := by rw [← hwo]; simp
  have HSZ := Lib.hid hsz
  clear hwo hsz
  have HK : Hid (∀ w6 : World, Below wo.heap.size wo w6 → w6.cell? ⟨w.heap.size, 0, none⟩ = some (.int .i64 kk) ∧ w6.cell? ⟨w.heap.size, 1, none⟩ = some (.slice Al ls.length kl) ∧ w6.cell? ⟨w.heap.size, 2, none⟩ = some (.slice Ad da.length kd)) := Lib.hid fun w6 h6 =>
    ⟨((hbox.below h6 hbox.lt).cell 0).trans rfl, ((hbox.below h6 hbox.lt).cell 1).trans rfl, ((hbox.below h6 hbox.lt).cell 2).trans rfl⟩
  have hk0 : Below wo.heap.size wo wo.drew := below_drew' (Below.refl _ _)
  have HR : Hid (∀ w6 : World, Below wo.heap.size wo w6 → w6.cell? ⟨w.heap.size + 1, 0, none⟩ = some (.int .i64 0) ∧ w6.cell? ⟨w.heap.size + 1, 1, none⟩ = some (.slice none 0 0) ∧ w6.cell? ⟨w.heap.size + 1, 2, none⟩ = some (.slice none 0 0) ∧
      w6.frozen? ⟨w.heap.size + 1, 0, none⟩ = false ∧ w6.frozen? ⟨w.heap.size + 1, 1, none⟩ = false ∧ w6.frozen? ⟨w.heap.size + 1, 2, none⟩ = false) := Lib.hid fun w6 h6 =>
    have hr := hres.below h6 hres.lt
    ⟨(hr.cell 0).trans rfl, (hr.cell 1).trans rfl, (hr.cell 2).trans rfl, hr.frozen 0, hr.frozen 1, hr.frozen 2⟩
  have HBX := Lib.hid (fun (w6 : World) (h6 : Below wo.heap.size wo w6) => hbox.below h6 hbox.lt)
  clear hbox
  go_region_held3 (fun w6 => w6.cell? ⟨w.heap.size, 0, none⟩ = some (.int .i64 kk) ∧ w6.cell? ⟨w.heap.size, 1, none⟩ = some (.slice Al ls.length kl) ∧ w6.cell? ⟨w.heap.size, 2, none⟩ = some (.slice Ad da.length kd))
    (first | exact HK.out _ hk0 | exact HK.out _ hk7 | exact HK.out _ hk8 | (have hbb := (((HBX.out _ hk8).far (p := ⟨w.heap.size + 1, 0, none⟩) (by simp) (.int .i64 kk)).far (p := ⟨w.heap.size + 1, 1, none⟩) (by simp) (.slice A1 ls.length c1)).far (p := ⟨w.heap.size + 1, 2, none⟩) (by simp) (.slice A2 da.length c2); exact ⟨(hbb.cell 0).trans rfl, (hbb.cell 1).trans rfl, (hbb.cell 2).trans rfl⟩))
    (first
      | (go_at_call 61; first
          | ((with_reducible refine (HC61.out _ (hbw.trans (hk0.mono hbw.size))).mono ?_); rintro e w3 ⟨A1, c1, rfl, hc1, hs1, hb3⟩; have hk7 : Below wo.heap.size wo w3 := hk0.trans (hb3.mono hk0.size))
          | ((with_reducible refine (HC61.out _ (hbw.trans (hk7.mono hbw.size))).mono ?_); rintro e w4 ⟨A1, c1, rfl, hc1, hs1, hb4⟩; have hk8 : Below wo.heap.size wo w4 := hk7.trans (hb4.mono hk7.size); obtain ⟨p0, p1, p2, f0, f1, f2⟩ := HR.out _ hk8))
      | (go_at_call 62; first
          | ((with_reducible refine (HC62.out _ (hbw.trans (hk0.mono hbw.size))).mono ?_); rintro e w3 ⟨A2, c2, rfl, hc2, hs2, hb3⟩; have hk7 : Below wo.heap.size wo w3 := hk0.trans (hb3.mono hk0.size))
          | ((with_reducible refine (HC62.out _ (hbw.trans (hk7.mono hbw.size))).mono ?_); rintro e w4 ⟨A2, c2, rfl, hc2, hs2, hb4⟩; have hk8 : Below wo.heap.size wo w4 := hk7.trans (hb4.mono hk7.size); obtain ⟨p0, p1, p2, f0, f1, f2⟩ := HR.out _ hk8)))
  all_goals
    go_wp2_with fail
    have hz3 := hk7.size
    have hz4 := hb4.size
    have hu : Under (w.heap.size + 2) (w.heap.size + 1) := by unfold Under; omega
    have HU := HSZ.out
    have hle1 : w.heap.size + 2 ≤ wo.drew.heap.size := by show _ ≤ wo.heap.size; omega
    have hle2 : w.heap.size + 2 ≤ w3.heap.size := by have : wo.heap.size ≤ w3.heap.size := hz3; omega
    have hr4 := hres.below hk8 hres.lt
    have hkp : Keeps w4 (Under (w.heap.size + 2)) _ (Under (w.heap.size + 2)) := ((Keeps.setCell w4 _ ⟨w.heap.size + 1, 0, none⟩ (.int .i64 kk) hu).trans (Keeps.setCell _ _ ⟨w.heap.size + 1, 1, none⟩ (.slice A1 ls.length c1) hu)).trans (Keeps.setCell _ _ ⟨w.heap.size + 1, 2, none⟩ (.slice A2 da.length c2) hu)
    refine bodyPost_ret (results_c44 rfl _ _ (w.heap.size + 1) (.int .i64 kk) (.slice A1 ls.length c1) (.slice A2 da.length c2) rfl (blk_put3 hr4 _ _ _)) rfl ?_
    refine HF.out _ _ _ _ _ hc1 hc2 ?_ ?_ ?_
    · first
        | exact (((hs1.mono (X' := Under (w.heap.size + 2)) (fun b hb => Nat.lt_of_lt_of_le hb (by first | exact hle1 | exact hle2))).keep (Keeps.below hb4 (fun _ _ h => h))).keep hkp).mono (fun b hb => Nat.lt_of_lt_of_le hb (Nat.le_add_right _ _))
        | exact ((hs1.mono (X' := Under (w.heap.size + 2)) (fun b hb => Nat.lt_of_lt_of_le hb (by first | exact hle1 | exact hle2))).keep hkp).mono (fun b hb => Nat.lt_of_lt_of_le hb (Nat.le_add_right _ _))
    · first
        | exact (((hs2.mono (X' := Under (w.heap.size + 2)) (fun b hb => Nat.lt_of_lt_of_le hb (by first | exact hle1 | exact hle2))).keep (Keeps.below hb4 (fun _ _ h => h))).keep hkp).mono (fun b hb => Nat.lt_of_lt_of_le hb (Nat.le_add_right _ _))
        | exact ((hs2.mono (X' := Under (w.heap.size + 2)) (fun b hb => Nat.lt_of_lt_of_le hb (by first | exact hle1 | exact hle2))).keep hkp).mono (fun b hb => Nat.lt_of_lt_of_le hb (Nat.le_add_right _ _))
    · exact (((hbw.trans (hk8.mono hbw.size)).setCell (by simp) _).setCell (by simp) _).setCell (by simp) _
end Go.Proofs.Ytiilhnfdlpgllaa
