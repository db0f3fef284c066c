/-
  Packs: walk of 'object'.
-/
import Derived.Test.YtiilhnfdlpgllaaPk16
import Derived.Test.YtiilhnfdlpgllaaOb8
import Derived.Test.YtiilhnfdlpgllaaView16
namespace Ob
/-- The links at the head of bytes. -/
def lks (b : List UInt8) : Nat → List Int
  | 0 => []
  | j + 1 => lks b j ++ [numI (b.drop (4 + 8 * j))]
theorem lks_length (b : List UInt8) : ∀ j, (lks b j).length = j
  | 0 => rfl
  | j + 1 => by simp [lks, lks_length b j]
def bt (b : List UInt8) (i : Nat) : Nat := (b[i]?.getD 0).toNat
theorem bt_lt (b : List UInt8) (i : Nat) : bt b i < 256 := UInt8.toNat_lt _
theorem bt_eq (b : List UInt8) (i : Nat) (h : i < b.length) : b[i].toNat = bt b i := by unfold bt; rw [List.getElem?_eq_getElem h]; rfl
/-- The length of the entry at the head of bytes; the object there. -/
def enL (b : List UInt8) : Nat := 4 + 8 * bt b 1 + (bt b 2 * 256 + bt b 3)
def obP (b : List UInt8) : O := ⟨bt b 0, lks b (bt b 1), (b.drop (4 + 8 * bt b 1)).take (bt b 2 * 256 + bt b 3)⟩
def isP (b : List UInt8) : Prop := 4 ≤ b.length ∧ enL b ≤ b.length
theorem i64_bounds (n : Nat) (h : n < 18446744073709551616) : -9223372036854775808 ≤ i64 n ∧ i64 n ≤ 9223372036854775807 := by unfold i64; split <;> omega
theorem numI_64 (l : List UInt8) : -9223372036854775808 ≤ numI l ∧ numI l ≤ 9223372036854775807 := i64_bounds _ (Nat.lt_of_lt_of_le (numN_lt l 8) (by decide))
theorem lks_64 (b : List UInt8) : ∀ j, ∀ x ∈ lks b j, -9223372036854775808 ≤ x ∧ x ≤ 9223372036854775807
  | 0, x, h => by cases h
  | j + 1, x, h => by
    rcases List.mem_append.1 h with h | h
    · exact lks_64 b j x h
    · rw [List.mem_singleton] at h; subst h; exact numI_64 _
end Ob
namespace Go.Proofs.Ytiilhnfdlpgllaa
open Go.RowKit Go.V
set_option linter.unusedVariables false

theorem any_below {w w' : World} {X : Nat → Prop} (hb : Below w.heap.size w w') : Keeps w X w' X := Keeps.below hb (fun _ _ h => h)
/-- What 'object' answers. -/
def OjPost (w : World) (X : Nat → Prop) (b : List UInt8) (e : Ending) (w' : World) : Prop := Below w.heap.size w w' ∧
  ((¬ Ob.isP b ∧ e = .returned (.tuple #[zObj, .slice none 0 0, .bool false])) ∨
   (Ob.isP b ∧ ∃ Al kl Ad kd Am km, e = .returned (.tuple #[obV (Ob.obP b) Al kl Ad kd, .slice Am (b.length - Ob.enL b) km, .bool true]) ∧ b.length - Ob.enL b ≤ km ∧ ObA w' (Under w.heap.size) (Ob.obP b) Al kl Ad kd ∧ SA w X Am (bytesV (b.drop (Ob.enL b)))))
theorem OjPost.ok {w w' : World} {X : Nat → Prop} {b : List UInt8} {j ds bs m kl c5 km : Nat} {Al A5 Am : Option Addr} (hl : Ob.enL b = 4 + 8 * j + ds) (hp : Ob.obP b = ⟨Ob.bt b 0, Ob.lks b j, (b.drop (4 + 8 * j)).take ds⟩) (h4 : m + 4 + 8 * j = b.length) (hdm : ds ≤ m) (hbl : b.length ≤ 4096)
    (hb : Below w.heap.size w w') (hlo : w'.ownsRow (w.heap.size + 2) 3 1 (.slice Al j kl) j (intsV (Ob.lks b j))) (hda : w'.ownsRow bs 5 1 (.slice A5 ds c5) ds (bytesV ((b.drop (4 + 8 * j)).take ds))) (hbs : w.heap.size ≤ bs) (hkm : m - ds ≤ km)
    (hs : SA w X Am (bytesV (b.drop (4 + 8 * j + ds)))) : OjPost w X b (.returned (.tuple #[.agg #[.int .i64 (Ob.bt b 0), .slice Al j kl, .slice A5 ds c5], .slice Am (m - ds) km, .bool true])) w' := by
  have e1 := Ob.lks_length b j
  have e2 : ((b.drop (4 + 8 * j)).take ds).length = ds := by simp; omega
  have e3 : b.length - Ob.enL b = m - ds := by rw [hl]; omega
  have hq := Ob.bt_lt b 0
  refine ⟨hb, .inr ⟨⟨by omega, by rw [hl]; omega⟩, Al, kl, A5, c5, Am, km, ?_, by rw [e3]; exact hkm, ?_, by rw [hl]; exact hs⟩⟩
  · rw [e3, hp]; simp only [obV, e1, e2]
  · rw [hp]
    obtain ⟨_, _, f1, f2, _⟩ := own_form hlo
    obtain ⟨_, _, g1, g2, _⟩ := own_form hda
    injection f1 with _ _ f3
    injection g1 with _ _ g3
    subst f3 g3
    exact ⟨by unfold I64; simp only; omega, fun i hi => by have := Ob.lks_64 b j _ (List.getElem_mem hi); unfold I64; omega, by simp only [e1]; exact f2, by simp only [e2]; exact g2, by simp only [e1]; omega, by simp only [e2]; omega,
      SA.of_own hlo (fun b hb => by unfold Under at hb; omega), SA.of_own hda (fun b hb => by unfold Under at hb; omega)⟩
theorem results_44_t_t {fn : Func} {a t u : Tmp} (h : fn.results = #[.cell a 44, .tmp t, .tmp u]) (tmps : Array Value) (w : World) (g : Nat) (x y z : Value) (ha : tmps.getD a undef = .pointer (some ⟨g, 0, none⟩))
    (hb : Blk w g 44 #[x, y, z]) : (results fn tmps).run Try.prog w = .ok (.tuple #[.agg #[x, y, z], tmps.getD t undef, tmps.getD u undef]) w := by
  have h0 := hb.cell 0
  have h1 := hb.cell 1
  have h2 := hb.cell 2
  simp only [List.getElem?_toArray, List.getElem?_cons_zero, List.getElem?_cons_succ] at h0 h1 h2
  have ha' : tmps[a]?.getD undef = .pointer (some ⟨g, 0, none⟩) := by simpa using ha
  simp [results, h, go_sem, ha', h0, h1, h2]
/-- The state of the loop of 'object'. -/
structure OjSt (w wr : World) (b : List UInt8) (j : Nat) (Al : Option Addr) (kl : Nat) : Prop where
  res : Blk wr w.heap.size 44 #[.int .i64 0, .slice none 0 0, .slice none 0 0]
  bo : Blk wr (w.heap.size + 1) 44 #[.int .i64 (Ob.bt b 0), .slice Al j kl, .slice none 0 0]
  own : wr.ownsRow (w.heap.size + 2) 3 1 (.slice Al j kl) j (intsV (Ob.lks b j))
  bel : Below w.heap.size w wr
theorem OjSt.app {w wr : World} {b : List UInt8} {j : Nat} {Al : Option Addr} {kl : Nat} (h : OjSt w wr b j Al kl) {o0 : Obj} {w4 : World} {gd c' : Nat} (hg : (wr.alloc o0).grownBy w4 (Value.slice Al j kl).ownBlock)
    (hown : w4.ownsRow (w.heap.size + 2) 3 1 (.slice (some ⟨gd, 0, none⟩) (j + 1) c') (j + 1) (intsV (Ob.lks b j) ++ [.int .i64 (Ob.numI (b.drop (4 + 8 * j)))])) : OjSt w (w4.setCell ⟨w.heap.size + 1, 1, none⟩ (.slice (some ⟨gd, 0, none⟩) (j + 1) c')) b (j + 1) (some ⟨gd, 0, none⟩) c' := by
  have own3 := h.own.alloc o0
  have r4 := ((h.res.alloc o0).grown hg (fun e => by have := (own3.lt _ e.symm).1; omega)).far (p := ⟨w.heap.size + 1, 1, none⟩) (by simp) (.slice (some ⟨gd, 0, none⟩) (j + 1) c')
  have b4 := (h.bo.alloc o0).grown hg (fun e => by have := (own3.lt _ e.symm).1; omega)
  refine ⟨r4, by simpa using b4.set_ 1 (.slice (some ⟨gd, 0, none⟩) (j + 1) c'), ?_, ?_⟩
  · refine own_setCell ?_ (fun e => by have := (hown.lt _ e.symm).1; simp at this <;> omega) _
    simpa [Ob.lks, intsV] using hown
  · refine Below.setCell ?_ (by simp) _
    exact (h.bel.alloc h.bel.size o0).grown hg (by have := h.bel.size; simp <;> omega) (fun b hb => by have := (own3.lt b hb).1; omega)
theorem OjSt.below {w wr w' : World} {b : List UInt8} {j : Nat} {Al : Option Addr} {kl : Nat} (h : OjSt w wr b j Al kl) (hb : Below wr.heap.size wr w') : OjSt w w' b j Al kl :=
  ⟨h.res.below hb h.res.lt, h.bo.below hb h.bo.lt, h.own.kept (only_of_below hb none) (by cases hv : (Value.slice Al j kl).ownBlock <;> simp), h.bel.trans (hb.mono h.bel.size)⟩
theorem OjSt.drewN {w wr : World} {b : List UInt8} {j : Nat} {Al : Option Addr} {kl : Nat} (h : OjSt w wr b j Al kl) (d : Nat) : OjSt w (wr.drewN d) b j Al kl := h.below (below_drewN (Below.refl _ _) d)
set_option maxRecDepth 100000 in
set_option maxHeartbeats 4000000 in
theorem object_any (w : World) (X : Nat → Prop) (A : Option Addr) (n k : Nat) (b : List UInt8) (hv : SA w X A (bytesV b)) (hln : b.length = n) (hn : n ≤ 4096) (hk : n ≤ k) :
    Calls Try.prog 55 #[.slice A n k] w (OjPost w X b) := by
  obtain ⟨i0, hI0, hZ0, hZ1, hZ2⟩ := info_parts info3
  obtain ⟨j0, hJ0, hY0, hY1, hY2⟩ := info_parts info5
  have HV := Lib.hid (fun (w1 : World) (hb : Below w.heap.size w w1) => hv.keep (any_below hb))
  by_cases h4 : n < 4
  · have hR : Hid (∀ w', Below w.heap.size w w' → OjPost w X b (.returned (.tuple #[zObj, .slice none 0 0, .bool false])) w') := Lib.hid fun w' hb => ⟨hb, .inl ⟨fun h => by have := h.1; omega, rfl⟩⟩
    have h4' : (n : Int) < 4 := by omega
    generalize OjPost w X b = R at *
    go_enter Try.func55, Try.ntmps55
    go_wp2_with fail
    refine bodyPost_ret (results_44_t_t rfl _ _ w.heap.size (.int .i64 0) (.slice none 0 0) (.slice none 0 0) rfl (Blk.new w 44 #[.int .i64 0, .slice none 0 0, .slice none 0 0])) rfl ?_
    exact hR.out _ (below_alloc1 _ _)
  · have h4' : ¬ (n : Int) < 4 := by omega
    have hSV := hv.sv
    obtain ⟨ab, ao, e, hab, hc0⟩ := hSV.byte 0 (by omega)
    subst e
    obtain ⟨_, _, e, _, hc1⟩ := hSV.byte 1 (by omega)
    injection e with e; injection e with e1 e2; subst e1 e2
    obtain ⟨_, _, e, _, hc2⟩ := hSV.byte 2 (by omega)
    injection e with e; injection e with e1 e2; subst e1 e2
    obtain ⟨_, _, e, _, hc3⟩ := hSV.byte 3 (by omega)
    injection e with e; injection e with e1 e2; subst e1 e2
    rw [Ob.bt_eq] at hc0 hc1 hc2 hc3
    rw [Nat.add_zero] at hc0
    have q1 := Ob.bt_lt b 1
    have q2 := Ob.bt_lt b 2
    have q3 := Ob.bt_lt b 3
    have ho : bits .or .i64 ((Ob.bt b 2 : Int) * 256) (Ob.bt b 3 : Int) = (Ob.bt b 2 : Int) * 256 + Ob.bt b 3 := bits_or8 _ _ (by omega) (by omega) (by omega) q3
    have hnk : (n : Int) ≤ k := by omega
    have h4n : (4 : Int) ≤ n := by omega
    have h4k : (4 : Int) ≤ k := by omega
    have st0 : OjSt w ((w.alloc (.cells #[.int .i64 0, .slice none 0 0, .slice none 0 0] 44)).alloc (.cells #[.int .i64 (Ob.bt b 0), .slice none 0 0, .slice none 0 0] 44)) b 0 none 0 := ⟨(Blk.new _ _ _).alloc _, blk_new1 _ _ _ _, World.ownsRow_nil _ _ _ _, below_alloc2 _ _ _⟩
    clear hSV hv
    have HL0 := Lib.hid (show Ob.enL b = 4 + 8 * Ob.bt b 1 + (Ob.bt b 2 * 256 + Ob.bt b 3) from rfl)
    have HP0 := Lib.hid (show Ob.obP b = ⟨Ob.bt b 0, Ob.lks b (Ob.bt b 1), (b.drop (4 + 8 * Ob.bt b 1)).take (Ob.bt b 2 * 256 + Ob.bt b 3)⟩ from rfl)
    have q0 := Ob.bt_lt b 0
    have HD4 := Lib.hid (fun (P : Prop) (_ : Decidable P) hp => (HV.out w (Below.refl _ _)).drop 4 P hp)
    have h40 : ((n - 4 : Nat) : Int) = (n : Int) - 4 := by omega
    generalize Ob.bt b 1 = nl at *
    generalize Ob.bt b 2 = d2 at *
    generalize Ob.bt b 3 = d3 at *
    obtain ⟨ds, hds⟩ : ∃ ds, ds = d2 * 256 + d3 := ⟨_, rfl⟩
    rw [← hds] at HL0 HP0
    replace ho : bits .or .i64 ((d2 : Int) * 256) (d3 : Int) = (ds : Int) := by rw [ho, hds]; omega
    have hdl : ds < 65536 := by omega
    clear hds
    by_cases hfit : n - 4 < nl * 8 + ds
    · have hR : Hid (∀ w', Below w.heap.size w w' → OjPost w X b (.returned (.tuple #[zObj, .slice none 0 0, .bool false])) w') := Lib.hid fun w' hb => ⟨hb, .inl ⟨fun h => by have h1 := h.2; rw [HL0.out] at h1; omega, rfl⟩⟩
      have hfit' : ((n - 4 : Nat) : Int) < (nl : Int) * 8 + ds := by omega
      clear HL0 HP0 HD4
      generalize OjPost w X b = R at *
      by_cases hk4 : k = 4
      · subst hk4
        obtain rfl : n = 4 := by omega
        go_enter Try.func55, Try.ntmps55
        go_wp2_with fail
        go_quiet (fail)
        go_wp2_with fail
        refine bodyPost_ret (results_44_t_t rfl _ _ w.heap.size (.int .i64 0) (.slice none 0 0) (.slice none 0 0) rfl (blk_put3 (st0.res.drewN _) _ _ _)) rfl ?_
        exact hR.out _ ((((below_drewN st0.bel _).setCell (by simp) _).setCell (by simp) _).setCell (by simp) _)
      · go_enter Try.func55, Try.ntmps55
        go_wp2_with fail
        go_quiet (fail)
        go_wp2_with fail
        refine bodyPost_ret (results_44_t_t rfl _ _ w.heap.size (.int .i64 0) (.slice none 0 0) (.slice none 0 0) rfl (blk_put3 (st0.res.drewN _) _ _ _)) rfl ?_
        exact hR.out _ ((((below_drewN st0.bel _).setCell (by simp) _).setCell (by simp) _).setCell (by simp) _)
    · have hfit' : ¬ ((n - 4 : Nat) : Int) < (nl : Int) * 8 + ds := by omega
      by_cases hk4 : k = 4
      · subst hk4
        obtain rfl : n = 4 := by omega
        go_enter Try.func55, Try.ntmps55
        go_wp2_with fail
        go_quiet (fail)
        go_wp2_with fail
        go_loopw [0, 42] (fun sv jv wr => ∃ (j m kj : Nat) (Aj Al : Option Addr) (kl : Nat), j ≤ nl ∧ sv = .slice Aj m kj ∧ jv = .int .i64 j ∧ m + 4 + 8 * j = 4 ∧ m ≤ kj ∧ SA w X Aj (bytesV (b.drop (4 + 8 * j))) ∧ OjSt w wr b j Al kl) (fun _ jv _ => nl - (intOf jv).toNat)
        case atStart => exact ⟨0, _, _, _, none, 0, Nat.zero_le _, rfl, rfl, by omega, by omega, (by have := HD4.out True inferInstance (fun _ => .inl (by rw [bytesV_length]; omega)); rw [if_pos trivial] at this; unfold bytesV at this ⊢; rwa [← List.map_drop] at this), st0.drewN _⟩
        case round =>
          obtain ⟨j, m, kj, Aj, Al, kl, hj, rfl, rfl, hm, hmk, hsa, st⟩ := hrel
          obtain ⟨wo, rfl⟩ : ∃ wo : World, wo = wr := ⟨_, rfl⟩
          clear st0
          by_cases hjl : j < nl
          · have hjl' : (j : Int) < nl := by omega
            have h8m : (8 : Int) ≤ m := by omega
            have h8k : (8 : Int) ≤ kj := by omega
            have hmk' : (m : Int) ≤ kj := by omega
            have HN := Lib.hid (number_any wo.drew Aj m kj (b.drop (4 + 8 * j)) ((hsa.keep (any_below st.bel)).sv) (by simp; omega) (by omega))
            have HS8 := Lib.hid (fun (P : Prop) (_ : Decidable P) hp => hsa.drop 8 P hp)
            have hdl : (b.drop (4 + 8 * j)).length = m := by simp; omega
            generalize hvv : Ob.numI (b.drop (4 + 8 * j)) = v at *
            have HVV := Lib.hid hvv
            clear hvv
            have q0 := (st.bo.cell 1).trans (rfl : _ = some (Value.slice Al j kl))
            have q1 := st.bo.lt
            have hne44 : (3 : TypeId) ≠ 44 := by decide
            have h63 : j + 1 ≤ maxLen := by unfold maxLen; omega
            have hby : (j + 1) * 8 ≤ 140737488355328 := by omega
            go_wp2_with fail
            go_region_law
              (first
                | (go_simp; go_at_call 64; (with_reducible refine HN.out.mono ?_); rintro e w3 ⟨rfl, rfl⟩; go_wp2_with fail)
                | (refine step_appNo _ rfl (.tmp 45) (.tmp 48) 42 rfl (w.heap.size + 2) 3 i0 _ 1 8 Try.underlying42 hI0 hZ0 hZ1 hZ2 rfl (by decide) Al j kl (intsV (Ob.lks b j)) rfl (st.own.alloc _).drew wo.heap.size 1 [.int .i64 v] rfl rfl (fun j' u hj => cells_new wo #[.int .i64 v] 3 j' u hj) (fun u hu => by simp at hu; subst hu; rfl) h63 hby (Nat.le_trans (Nat.succ_le_of_lt st.bo.lt) (size_alloc_le _ _)) ?_; intro gd c' w4 hown4 hg4 hob4; have out4 := (st.bo.alloc (.cells #[.int .i64 v] 3)).drew.grown hg4 (own_blk_ne st.own st.bo hne44); have r5 := (out4.cell 1).trans (rfl : _ = some (Value.slice Al j kl)); have r6 := out4.frozen 1))
            all_goals
              rw [← HVV.out] at hown4
              have st6 := st.app (o0 := .cells #[.int .i64 v] 3) ⟨hg4.os, hg4.tape, hg4.output, hg4.size, hg4.block⟩ hown4
              clear hown4 hg4 hob4 out4 r5 r6 hsa
              by_cases hk8 : kj = 8
              · subst hk8
                obtain rfl : m = 8 := by omega
                go_wp2_with fail
                go_roundw
                case rel => exact ⟨j + 1, _, _, _, _, _, by omega, rfl, by go_num, by omega, by omega, (by have := HS8.out True inferInstance (fun _ => .inl (by rw [bytesV_length]; omega)); rw [if_pos trivial] at this; unfold bytesV at this ⊢; rw [← List.map_drop, List.drop_drop] at this; simpa [Addr.add, Nat.mul_add, Nat.add_assoc] using this), st6⟩
                case measure => simp [intOf]; omega
              · go_wp2_with fail
                go_roundw
                case rel => exact ⟨j + 1, _, _, _, _, _, by omega, rfl, by go_num, by omega, by omega, (by have := HS8.out False inferInstance (fun h => h.elim); rw [if_neg (fun h => h)] at this; unfold bytesV at this ⊢; rw [← List.map_drop, List.drop_drop] at this; simpa [Addr.add, Nat.mul_add, Nat.add_assoc] using this), st6⟩
                case measure => simp [intOf]; omega
          · obtain rfl : j = nl := by omega
            have hdm : ds ≤ m := by omega
            have hd0 : (0 : Int) ≤ ds := by omega
            have hd1 : (ds : Int) ≤ m := by omega
            have hd2 : (ds : Int) ≤ kj := by omega
            have hmk' : (m : Int) ≤ kj := by omega
            have hdat : ((b.drop (4 + 8 * j)).take ds).length = ds := by simp; omega
            have hsw := ((hsa.keep (any_below st.bel)).take ds).sv
            have hsv : SV wo wo.heap.size Aj (bytesV ((b.drop (4 + 8 * j)).take ds)) := by unfold bytesV at hsw ⊢; rwa [List.map_take]
            have HSM := Lib.hid (fun (P : Prop) (_ : Decidable P) hp => hsa.drop ds P hp)
            have q0 := (st.bo.cell 0).trans (rfl : _ = some (Value.int .i64 (Ob.bt b 0)))
            have q1 := (st.bo.cell 1).trans (rfl : _ = some (Value.slice Al j kl))
            have q2 := (st.bo.cell 2).trans (rfl : _ = some (Value.slice none 0 0))
            have q3 := st.bo.lt
            have hby : (0 + ds) * 1 ≤ 140737488355328 := by omega
            have h63 : 0 + ds ≤ maxLen := by unfold maxLen; omega
            have hlen : (bytesV ((b.drop (4 + 8 * j)).take ds)).length = ds * 1 := by rw [bytesV_length, hdat]; omega
            clear hsw hdat
            go_wp2_with fail
            go_region_law
              (refine step_appM _ rfl (.tmp 55) (.tmp 58) 26 rfl wo.heap.size 5 j0 _ 1 1 Try.underlying26 hJ0 hY0 hY1 hY2 rfl (by decide) none 0 0 [] rfl (World.ownsRow_nil _ _ _ _) wo.heap.size Aj ds kj (bytesV ((b.drop (4 + 8 * j)).take ds)) rfl hlen hsv (bytesV_one _) h63 hby (Nat.le_refl _) ?_; intro A5 c5 w5 hown5 hg5 hc5; have bo5 := st.bo.drew.grown hg5 (fun e => by cases e); have r0 := (bo5.cell 0).trans (rfl : _ = some (Value.int .i64 (Ob.bt b 0))); have r1 := (bo5.cell 1).trans (rfl : _ = some (Value.slice Al j kl)); have r2 := (bo5.cell 2).trans (rfl : _ = some (Value.slice none 0 0)); have r3 := bo5.frozen 2; have r4 := bo5.lt)
            all_goals
              have res5 := st.res.drew.grown hg5 (fun e => by cases e)
              have b5 := (below_drew' st.bel).grown hg5 (by have := st.bel.size; simp <;> omega) (fun b hb => by cases hb)
              have l5 := own_kept (base' := wo.heap.size) st.own.drew hg5 (fun g hg => by cases hg) (fun g hg => (st.own.lt g hg).2)
              rw [Nat.zero_add, List.nil_append] at hown5
              have hlo := st.bo.lt
              obtain ⟨w6, hw6⟩ : ∃ w6 : World, w6 = w5.setCell ⟨w.heap.size + 1, 2, none⟩ (.slice A5 ds c5) := ⟨_, rfl⟩
              rw [← hw6]
              have bo6 : Blk w6 (w.heap.size + 1) 44 #[.int .i64 (Ob.bt b 0), .slice Al j kl, .slice A5 ds c5] := by rw [hw6]; simpa using bo5.set_ 2 (.slice A5 ds c5)
              have res6 := res5.far (p := ⟨w.heap.size + 1, 2, none⟩) (by simp) (.slice A5 ds c5)
              have b6 := b5.setCell (p := ⟨w.heap.size + 1, 2, none⟩) (by simp) (.slice A5 ds c5)
              have l6 := own_setCell (p := ⟨w.heap.size + 1, 2, none⟩) l5 (fun e => by have := (l5.lt _ e.symm).1; simp only at this; omega) (.slice A5 ds c5)
              have d6 := own_setCell (p := ⟨w.heap.size + 1, 2, none⟩) hown5 (fun e => by have := (hown5.lt _ e.symm).1; simp only at this; omega) (.slice A5 ds c5)
              rw [← hw6] at res6 b6 l6 d6
              clear hw6 r0 r1 r2 r3 r4 bo5 res5 b5 l5 hown5 hg5 hc5 q0 q1 q2 q3 hsv hlen
              have r0 := (bo6.cell 0).trans (rfl : _ = some (Value.int .i64 (Ob.bt b 0)))
              have r1 := (bo6.cell 1).trans (rfl : _ = some (Value.slice Al j kl))
              have r2 := (bo6.cell 2).trans (rfl : _ = some (Value.slice A5 ds c5))
              have r4 := bo6.lt
              have t0 := (res6.cell 0).trans (rfl : _ = some (Value.int .i64 0))
              have t1 := (res6.cell 1).trans (rfl : _ = some (Value.slice none 0 0))
              have t2 := (res6.cell 2).trans (rfl : _ = some (Value.slice none 0 0))
              have t3 := res6.frozen 0
              have t4 := res6.frozen 1
              have t5 := res6.frozen 2
              have t6 := res6.lt
              have hbl : b.length ≤ 4096 := by omega
              have hwl : w.heap.size ≤ wo.heap.size := st.bel.size
              by_cases hkd : kj = ds
              · subst hkd
                obtain rfl : m = kj := by omega
                have HE := Lib.hid (fun (w7 : World) (h1 : Below w.heap.size w w7) (h2 : w7.ownsRow (w.heap.size + 2) 3 1 (.slice Al j kl) j (intsV (Ob.lks b j))) (h3 : w7.ownsRow wo.heap.size 5 1 (.slice A5 m c5) m (bytesV ((b.drop (4 + 8 * j)).take m))) => OjPost.ok (km := 0) HL0.out HP0.out (by omega) hdm hbl h1 h2 h3 hwl (by omega) (by have := HSM.out True inferInstance (fun _ => .inl (by rw [bytesV_length, List.length_drop]; omega)); rw [if_pos trivial] at this; unfold bytesV at this ⊢; rw [← List.map_drop, List.drop_drop] at this; exact this))
                have hbv : ∀ (x y z : Value), Below w.heap.size w (((w6.setCell ⟨w.heap.size, 0, none⟩ x).setCell ⟨w.heap.size, 1, none⟩ y).setCell ⟨w.heap.size, 2, none⟩ z) := fun x y z => ((b6.setCell (p := ⟨w.heap.size, 0, none⟩) (Nat.le_refl _) x).setCell (p := ⟨w.heap.size, 1, none⟩) (Nat.le_refl _) y).setCell (p := ⟨w.heap.size, 2, none⟩) (Nat.le_refl _) z
                have hlv : ∀ (x y z : Value), (((w6.setCell ⟨w.heap.size, 0, none⟩ x).setCell ⟨w.heap.size, 1, none⟩ y).setCell ⟨w.heap.size, 2, none⟩ z).ownsRow (w.heap.size + 2) 3 1 (.slice Al j kl) j (intsV (Ob.lks b j)) := fun x y z => own_setCell (own_setCell (own_setCell l6 (fun e => by have := (l6.lt _ e.symm).1; simp only at this; omega) x) (fun e => by have := (l6.lt _ e.symm).1; simp only at this; omega) y) (fun e => by have := (l6.lt _ e.symm).1; simp only at this; omega) z
                have hdv : ∀ (x y z : Value), (((w6.setCell ⟨w.heap.size, 0, none⟩ x).setCell ⟨w.heap.size, 1, none⟩ y).setCell ⟨w.heap.size, 2, none⟩ z).ownsRow wo.heap.size 5 1 (.slice A5 m c5) m (bytesV ((b.drop (4 + 8 * j)).take m)) := fun x y z => own_setCell (own_setCell (own_setCell d6 (fun e => by have := (d6.lt _ e.symm).1; simp only at this; omega) x) (fun e => by have := (d6.lt _ e.symm).1; simp only at this; omega) y) (fun e => by have := (d6.lt _ e.symm).1; simp only at this; omega) z
                go_wp2_with fail
                go_region
                all_goals
                  go_wp2_with fail
                  refine bodyPost_ret (results_44_t_t rfl _ _ w.heap.size (.int .i64 (Ob.bt b 0)) (.slice Al j kl) (.slice A5 m c5) rfl ((blk_put3 res6 _ _ _).drewN 1)) rfl ?_
                  have hz := HE.out _ (below_drewN (hbv (.int .i64 (Ob.bt b 0)) (.slice Al j kl) (.slice A5 m c5)) 1) (hlv _ _ _).drew (hdv _ _ _).drew
                  rw [Nat.sub_self] at hz
                  exact hz
              · have HE := Lib.hid (fun (w7 : World) (h1 : Below w.heap.size w w7) (h2 : w7.ownsRow (w.heap.size + 2) 3 1 (.slice Al j kl) j (intsV (Ob.lks b j))) (h3 : w7.ownsRow wo.heap.size 5 1 (.slice A5 ds c5) ds (bytesV ((b.drop (4 + 8 * j)).take ds))) => OjPost.ok (km := kj - ds) HL0.out HP0.out (by omega) hdm hbl h1 h2 h3 hwl (by omega) (by have := HSM.out False inferInstance (fun h => h.elim); rw [if_neg (fun h => h)] at this; unfold bytesV at this ⊢; rw [← List.map_drop, List.drop_drop] at this; exact this))
                have hbv : ∀ (x y z : Value), Below w.heap.size w (((w6.setCell ⟨w.heap.size, 0, none⟩ x).setCell ⟨w.heap.size, 1, none⟩ y).setCell ⟨w.heap.size, 2, none⟩ z) := fun x y z => ((b6.setCell (p := ⟨w.heap.size, 0, none⟩) (Nat.le_refl _) x).setCell (p := ⟨w.heap.size, 1, none⟩) (Nat.le_refl _) y).setCell (p := ⟨w.heap.size, 2, none⟩) (Nat.le_refl _) z
                have hlv : ∀ (x y z : Value), (((w6.setCell ⟨w.heap.size, 0, none⟩ x).setCell ⟨w.heap.size, 1, none⟩ y).setCell ⟨w.heap.size, 2, none⟩ z).ownsRow (w.heap.size + 2) 3 1 (.slice Al j kl) j (intsV (Ob.lks b j)) := fun x y z => own_setCell (own_setCell (own_setCell l6 (fun e => by have := (l6.lt _ e.symm).1; simp only at this; omega) x) (fun e => by have := (l6.lt _ e.symm).1; simp only at this; omega) y) (fun e => by have := (l6.lt _ e.symm).1; simp only at this; omega) z
                have hdv : ∀ (x y z : Value), (((w6.setCell ⟨w.heap.size, 0, none⟩ x).setCell ⟨w.heap.size, 1, none⟩ y).setCell ⟨w.heap.size, 2, none⟩ z).ownsRow wo.heap.size 5 1 (.slice A5 ds c5) ds (bytesV ((b.drop (4 + 8 * j)).take ds)) := fun x y z => own_setCell (own_setCell (own_setCell d6 (fun e => by have := (d6.lt _ e.symm).1; simp only at this; omega) x) (fun e => by have := (d6.lt _ e.symm).1; simp only at this; omega) y) (fun e => by have := (d6.lt _ e.symm).1; simp only at this; omega) z
                go_wp2_with fail
                go_region
                all_goals
                  go_wp2_with fail
                  refine bodyPost_ret (results_44_t_t rfl _ _ w.heap.size (.int .i64 (Ob.bt b 0)) (.slice Al j kl) (.slice A5 ds c5) rfl ((blk_put3 res6 _ _ _).drewN 1)) rfl ?_
                  exact HE.out _ (below_drewN (hbv (.int .i64 (Ob.bt b 0)) (.slice Al j kl) (.slice A5 ds c5)) 1) (hlv _ _ _).drew (hdv _ _ _).drew
      · go_enter Try.func55, Try.ntmps55
        go_wp2_with fail
        go_quiet (fail)
        go_wp2_with fail
        go_loopw [0, 42] (fun sv jv wr => ∃ (j m kj : Nat) (Aj Al : Option Addr) (kl : Nat), j ≤ nl ∧ sv = .slice Aj m kj ∧ jv = .int .i64 j ∧ m + 4 + 8 * j = n ∧ m ≤ kj ∧ SA w X Aj (bytesV (b.drop (4 + 8 * j))) ∧ OjSt w wr b j Al kl) (fun _ jv _ => nl - (intOf jv).toNat)
        case atStart => exact ⟨0, _, _, _, none, 0, Nat.zero_le _, rfl, rfl, by omega, by omega, (by have := HD4.out False inferInstance (fun h => h.elim); rw [if_neg (fun h => h)] at this; unfold bytesV at this ⊢; rw [← List.map_drop] at this; simpa [Addr.add] using this), st0.drewN _⟩
        case round =>
          obtain ⟨j, m, kj, Aj, Al, kl, hj, rfl, rfl, hm, hmk, hsa, st⟩ := hrel
          obtain ⟨wo, rfl⟩ : ∃ wo : World, wo = wr := ⟨_, rfl⟩
          clear st0
          by_cases hjl : j < nl
          · have hjl' : (j : Int) < nl := by omega
            have h8m : (8 : Int) ≤ m := by omega
            have h8k : (8 : Int) ≤ kj := by omega
            have hmk' : (m : Int) ≤ kj := by omega
            have HN := Lib.hid (number_any wo.drew Aj m kj (b.drop (4 + 8 * j)) ((hsa.keep (any_below st.bel)).sv) (by simp; omega) (by omega))
            have HS8 := Lib.hid (fun (P : Prop) (_ : Decidable P) hp => hsa.drop 8 P hp)
            have hdl : (b.drop (4 + 8 * j)).length = m := by simp; omega
            generalize hvv : Ob.numI (b.drop (4 + 8 * j)) = v at *
            have HVV := Lib.hid hvv
            clear hvv
            have q0 := (st.bo.cell 1).trans (rfl : _ = some (Value.slice Al j kl))
            have q1 := st.bo.lt
            have hne44 : (3 : TypeId) ≠ 44 := by decide
            have h63 : j + 1 ≤ maxLen := by unfold maxLen; omega
            have hby : (j + 1) * 8 ≤ 140737488355328 := by omega
            go_wp2_with fail
            go_region_law
              (first
                | (go_simp; go_at_call 64; (with_reducible refine HN.out.mono ?_); rintro e w3 ⟨rfl, rfl⟩; go_wp2_with fail)
                | (refine step_appNo _ rfl (.tmp 45) (.tmp 48) 42 rfl (w.heap.size + 2) 3 i0 _ 1 8 Try.underlying42 hI0 hZ0 hZ1 hZ2 rfl (by decide) Al j kl (intsV (Ob.lks b j)) rfl (st.own.alloc _).drew wo.heap.size 1 [.int .i64 v] rfl rfl (fun j' u hj => cells_new wo #[.int .i64 v] 3 j' u hj) (fun u hu => by simp at hu; subst hu; rfl) h63 hby (Nat.le_trans (Nat.succ_le_of_lt st.bo.lt) (size_alloc_le _ _)) ?_; intro gd c' w4 hown4 hg4 hob4; have out4 := (st.bo.alloc (.cells #[.int .i64 v] 3)).drew.grown hg4 (own_blk_ne st.own st.bo hne44); have r5 := (out4.cell 1).trans (rfl : _ = some (Value.slice Al j kl)); have r6 := out4.frozen 1))
            all_goals
              rw [← HVV.out] at hown4
              have st6 := st.app (o0 := .cells #[.int .i64 v] 3) ⟨hg4.os, hg4.tape, hg4.output, hg4.size, hg4.block⟩ hown4
              clear hown4 hg4 hob4 out4 r5 r6 hsa
              by_cases hk8 : kj = 8
              · subst hk8
                obtain rfl : m = 8 := by omega
                go_wp2_with fail
                go_roundw
                case rel => exact ⟨j + 1, _, _, _, _, _, by omega, rfl, by go_num, by omega, by omega, (by have := HS8.out True inferInstance (fun _ => .inl (by rw [bytesV_length]; omega)); rw [if_pos trivial] at this; unfold bytesV at this ⊢; rw [← List.map_drop, List.drop_drop] at this; simpa [Addr.add, Nat.mul_add, Nat.add_assoc] using this), st6⟩
                case measure => simp [intOf]; omega
              · go_wp2_with fail
                go_roundw
                case rel => exact ⟨j + 1, _, _, _, _, _, by omega, rfl, by go_num, by omega, by omega, (by have := HS8.out False inferInstance (fun h => h.elim); rw [if_neg (fun h => h)] at this; unfold bytesV at this ⊢; rw [← List.map_drop, List.drop_drop] at this; simpa [Addr.add, Nat.mul_add, Nat.add_assoc] using this), st6⟩
                case measure => simp [intOf]; omega
          · obtain rfl : j = nl := by omega
            have hdm : ds ≤ m := by omega
            have hd0 : (0 : Int) ≤ ds := by omega
            have hd1 : (ds : Int) ≤ m := by omega
            have hd2 : (ds : Int) ≤ kj := by omega
            have hmk' : (m : Int) ≤ kj := by omega
            have hdat : ((b.drop (4 + 8 * j)).take ds).length = ds := by simp; omega
            have hsw := ((hsa.keep (any_below st.bel)).take ds).sv
            have hsv : SV wo wo.heap.size Aj (bytesV ((b.drop (4 + 8 * j)).take ds)) := by unfold bytesV at hsw ⊢; rwa [List.map_take]
            have HSM := Lib.hid (fun (P : Prop) (_ : Decidable P) hp => hsa.drop ds P hp)
            have q0 := (st.bo.cell 0).trans (rfl : _ = some (Value.int .i64 (Ob.bt b 0)))
            have q1 := (st.bo.cell 1).trans (rfl : _ = some (Value.slice Al j kl))
            have q2 := (st.bo.cell 2).trans (rfl : _ = some (Value.slice none 0 0))
            have q3 := st.bo.lt
            have hby : (0 + ds) * 1 ≤ 140737488355328 := by omega
            have h63 : 0 + ds ≤ maxLen := by unfold maxLen; omega
            have hlen : (bytesV ((b.drop (4 + 8 * j)).take ds)).length = ds * 1 := by rw [bytesV_length, hdat]; omega
            clear hsw hdat
            go_wp2_with fail
            go_region_law
              (refine step_appM _ rfl (.tmp 55) (.tmp 58) 26 rfl wo.heap.size 5 j0 _ 1 1 Try.underlying26 hJ0 hY0 hY1 hY2 rfl (by decide) none 0 0 [] rfl (World.ownsRow_nil _ _ _ _) wo.heap.size Aj ds kj (bytesV ((b.drop (4 + 8 * j)).take ds)) rfl hlen hsv (bytesV_one _) h63 hby (Nat.le_refl _) ?_; intro A5 c5 w5 hown5 hg5 hc5; have bo5 := st.bo.drew.grown hg5 (fun e => by cases e); have r0 := (bo5.cell 0).trans (rfl : _ = some (Value.int .i64 (Ob.bt b 0))); have r1 := (bo5.cell 1).trans (rfl : _ = some (Value.slice Al j kl)); have r2 := (bo5.cell 2).trans (rfl : _ = some (Value.slice none 0 0)); have r3 := bo5.frozen 2; have r4 := bo5.lt)
            all_goals
              have res5 := st.res.drew.grown hg5 (fun e => by cases e)
              have b5 := (below_drew' st.bel).grown hg5 (by have := st.bel.size; simp <;> omega) (fun b hb => by cases hb)
              have l5 := own_kept (base' := wo.heap.size) st.own.drew hg5 (fun g hg => by cases hg) (fun g hg => (st.own.lt g hg).2)
              rw [Nat.zero_add, List.nil_append] at hown5
              have hlo := st.bo.lt
              obtain ⟨w6, hw6⟩ : ∃ w6 : World, w6 = w5.setCell ⟨w.heap.size + 1, 2, none⟩ (.slice A5 ds c5) := ⟨_, rfl⟩
              rw [← hw6]
              have bo6 : Blk w6 (w.heap.size + 1) 44 #[.int .i64 (Ob.bt b 0), .slice Al j kl, .slice A5 ds c5] := by rw [hw6]; simpa using bo5.set_ 2 (.slice A5 ds c5)
              have res6 := res5.far (p := ⟨w.heap.size + 1, 2, none⟩) (by simp) (.slice A5 ds c5)
              have b6 := b5.setCell (p := ⟨w.heap.size + 1, 2, none⟩) (by simp) (.slice A5 ds c5)
              have l6 := own_setCell (p := ⟨w.heap.size + 1, 2, none⟩) l5 (fun e => by have := (l5.lt _ e.symm).1; simp only at this; omega) (.slice A5 ds c5)
              have d6 := own_setCell (p := ⟨w.heap.size + 1, 2, none⟩) hown5 (fun e => by have := (hown5.lt _ e.symm).1; simp only at this; omega) (.slice A5 ds c5)
              rw [← hw6] at res6 b6 l6 d6
              clear hw6 r0 r1 r2 r3 r4 bo5 res5 b5 l5 hown5 hg5 hc5 q0 q1 q2 q3 hsv hlen
              have r0 := (bo6.cell 0).trans (rfl : _ = some (Value.int .i64 (Ob.bt b 0)))
              have r1 := (bo6.cell 1).trans (rfl : _ = some (Value.slice Al j kl))
              have r2 := (bo6.cell 2).trans (rfl : _ = some (Value.slice A5 ds c5))
              have r4 := bo6.lt
              have t0 := (res6.cell 0).trans (rfl : _ = some (Value.int .i64 0))
              have t1 := (res6.cell 1).trans (rfl : _ = some (Value.slice none 0 0))
              have t2 := (res6.cell 2).trans (rfl : _ = some (Value.slice none 0 0))
              have t3 := res6.frozen 0
              have t4 := res6.frozen 1
              have t5 := res6.frozen 2
              have t6 := res6.lt
              have hbl : b.length ≤ 4096 := by omega
              have hwl : w.heap.size ≤ wo.heap.size := st.bel.size
              by_cases hkd : kj = ds
              · subst hkd
                obtain rfl : m = kj := by omega
                have HE := Lib.hid (fun (w7 : World) (h1 : Below w.heap.size w w7) (h2 : w7.ownsRow (w.heap.size + 2) 3 1 (.slice Al j kl) j (intsV (Ob.lks b j))) (h3 : w7.ownsRow wo.heap.size 5 1 (.slice A5 m c5) m (bytesV ((b.drop (4 + 8 * j)).take m))) => OjPost.ok (km := 0) HL0.out HP0.out (by omega) hdm hbl h1 h2 h3 hwl (by omega) (by have := HSM.out True inferInstance (fun _ => .inl (by rw [bytesV_length, List.length_drop]; omega)); rw [if_pos trivial] at this; unfold bytesV at this ⊢; rw [← List.map_drop, List.drop_drop] at this; exact this))
                have hbv : ∀ (x y z : Value), Below w.heap.size w (((w6.setCell ⟨w.heap.size, 0, none⟩ x).setCell ⟨w.heap.size, 1, none⟩ y).setCell ⟨w.heap.size, 2, none⟩ z) := fun x y z => ((b6.setCell (p := ⟨w.heap.size, 0, none⟩) (Nat.le_refl _) x).setCell (p := ⟨w.heap.size, 1, none⟩) (Nat.le_refl _) y).setCell (p := ⟨w.heap.size, 2, none⟩) (Nat.le_refl _) z
                have hlv : ∀ (x y z : Value), (((w6.setCell ⟨w.heap.size, 0, none⟩ x).setCell ⟨w.heap.size, 1, none⟩ y).setCell ⟨w.heap.size, 2, none⟩ z).ownsRow (w.heap.size + 2) 3 1 (.slice Al j kl) j (intsV (Ob.lks b j)) := fun x y z => own_setCell (own_setCell (own_setCell l6 (fun e => by have := (l6.lt _ e.symm).1; simp only at this; omega) x) (fun e => by have := (l6.lt _ e.symm).1; simp only at this; omega) y) (fun e => by have := (l6.lt _ e.symm).1; simp only at this; omega) z
                have hdv : ∀ (x y z : Value), (((w6.setCell ⟨w.heap.size, 0, none⟩ x).setCell ⟨w.heap.size, 1, none⟩ y).setCell ⟨w.heap.size, 2, none⟩ z).ownsRow wo.heap.size 5 1 (.slice A5 m c5) m (bytesV ((b.drop (4 + 8 * j)).take m)) := fun x y z => own_setCell (own_setCell (own_setCell d6 (fun e => by have := (d6.lt _ e.symm).1; simp only at this; omega) x) (fun e => by have := (d6.lt _ e.symm).1; simp only at this; omega) y) (fun e => by have := (d6.lt _ e.symm).1; simp only at this; omega) z
                go_wp2_with fail
                go_region
                all_goals
                  go_wp2_with fail
                  refine bodyPost_ret (results_44_t_t rfl _ _ w.heap.size (.int .i64 (Ob.bt b 0)) (.slice Al j kl) (.slice A5 m c5) rfl ((blk_put3 res6 _ _ _).drewN 1)) rfl ?_
                  have hz := HE.out _ (below_drewN (hbv (.int .i64 (Ob.bt b 0)) (.slice Al j kl) (.slice A5 m c5)) 1) (hlv _ _ _).drew (hdv _ _ _).drew
                  rw [Nat.sub_self] at hz
                  exact hz
              · have HE := Lib.hid (fun (w7 : World) (h1 : Below w.heap.size w w7) (h2 : w7.ownsRow (w.heap.size + 2) 3 1 (.slice Al j kl) j (intsV (Ob.lks b j))) (h3 : w7.ownsRow wo.heap.size 5 1 (.slice A5 ds c5) ds (bytesV ((b.drop (4 + 8 * j)).take ds))) => OjPost.ok (km := kj - ds) HL0.out HP0.out (by omega) hdm hbl h1 h2 h3 hwl (by omega) (by have := HSM.out False inferInstance (fun h => h.elim); rw [if_neg (fun h => h)] at this; unfold bytesV at this ⊢; rw [← List.map_drop, List.drop_drop] at this; exact this))
                have hbv : ∀ (x y z : Value), Below w.heap.size w (((w6.setCell ⟨w.heap.size, 0, none⟩ x).setCell ⟨w.heap.size, 1, none⟩ y).setCell ⟨w.heap.size, 2, none⟩ z) := fun x y z => ((b6.setCell (p := ⟨w.heap.size, 0, none⟩) (Nat.le_refl _) x).setCell (p := ⟨w.heap.size, 1, none⟩) (Nat.le_refl _) y).setCell (p := ⟨w.heap.size, 2, none⟩) (Nat.le_refl _) z
                have hlv : ∀ (x y z : Value), (((w6.setCell ⟨w.heap.size, 0, none⟩ x).setCell ⟨w.heap.size, 1, none⟩ y).setCell ⟨w.heap.size, 2, none⟩ z).ownsRow (w.heap.size + 2) 3 1 (.slice Al j kl) j (intsV (Ob.lks b j)) := fun x y z => own_setCell (own_setCell (own_setCell l6 (fun e => by have := (l6.lt _ e.symm).1; simp only at this; omega) x) (fun e => by have := (l6.lt _ e.symm).1; simp only at this; omega) y) (fun e => by have := (l6.lt _ e.symm).1; simp only at this; omega) z
                have hdv : ∀ (x y z : Value), (((w6.setCell ⟨w.heap.size, 0, none⟩ x).setCell ⟨w.heap.size, 1, none⟩ y).setCell ⟨w.heap.size, 2, none⟩ z).ownsRow wo.heap.size 5 1 (.slice A5 ds c5) ds (bytesV ((b.drop (4 + 8 * j)).take ds)) := fun x y z => own_setCell (own_setCell (own_setCell d6 (fun e => by have := (d6.lt _ e.symm).1; simp only at this; omega) x) (fun e => by have := (d6.lt _ e.symm).1; simp only at this; omega) y) (fun e => by have := (d6.lt _ e.symm).1; simp only at this; omega) z
                go_wp2_with fail
                go_region
                all_goals
                  go_wp2_with fail
                  refine bodyPost_ret (results_44_t_t rfl _ _ w.heap.size (.int .i64 (Ob.bt b 0)) (.slice Al j kl) (.slice A5 ds c5) rfl ((blk_put3 res6 _ _ _).drewN 1)) rfl ?_
                  exact HE.out _ (below_drewN (hbv (.int .i64 (Ob.bt b 0)) (.slice Al j kl) (.slice A5 ds c5)) 1) (hlv _ _ _).drew (hdv _ _ _).drew
end Go.Proofs.Ytiilhnfdlpgllaa
