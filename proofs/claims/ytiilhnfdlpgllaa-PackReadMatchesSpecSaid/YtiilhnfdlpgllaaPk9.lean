/-
  Packs: walk of 'build'.
-/
import Derived.Test.YtiilhnfdlpgllaaPk8
import Derived.Test.YtiilhnfdlpgllaaPk6
namespace Go.Proofs.Ytiilhnfdlpgllaa
open Go.RowKit Go.V
set_option linter.unusedVariables false

def hd3 (n : Nat) : List UInt8 := [80, 75, UInt8.ofNat n]
def ents (s : List Ob.S) (i : Nat) : List UInt8 := (s.take i).flatMap fun x => Ob.ent x.ob
@[simp] theorem ents_zero (s : List Ob.S) : ents s 0 = [] := rfl
theorem ents_succ (s : List Ob.S) (i : Nat) (h : i < s.length) : ents s (i + 1) = ents s i ++ Ob.ent (Ob.it s i).ob := by
  unfold ents; rw [List.take_succ_eq_append_getElem h, List.flatMap_append, ← Ob.it_eq s i h]; simp
theorem ents_le (s : List Ob.S) (hok : ∀ i, i < s.length → Ob.Ok (Ob.it s i).ob) : ∀ i, i ≤ s.length → (ents s i).length ≤ i * 1244
  | 0, _ => by simp
  | i + 1, h => by
    have h1 := ents_le s hok i (by omega)
    have h2 := (hok i (by omega)).ln
    have h3 := (hok i (by omega)).dn
    rw [ents_succ s i (by omega), List.length_append, Ob.ent_length]; omega
/-- What a pack's digest is taken of; the pack. -/
def body (s : List Ob.S) : List UInt8 := hd3 s.length ++ ents s s.length
def packB (s : List Ob.S) : List UInt8 := body s ++ Ob.wide (Dg.ofL (body s))
theorem packB_length (s : List Ob.S) : (packB s).length = (body s).length + 8 := by simp [packB]

set_option maxHeartbeats 4000000 in
theorem of_big (w : World) (A : Option Addr) (k : Nat) (n : Nat) (hl : 4096 < n) :
    Calls Try.prog 46 #[.slice A n k] w (NumPost w 0 (2, 0)) := by
  have hl' : (4096 : Int) < n := by omega
  go_enter Try.func46, Try.ntmps46
  go_wp2_with fail
  refine bodyPost_ret (results_tc rfl _ _ w.heap.size (.int .i64 2) (.int .i64 0) rfl (Blk.new _ _ _)) rfl ⟨rfl, ?_⟩
  exact below_alloc1 _ _
/-- A pack, and whether it is short enough. -/
def BuPost (w : World) (s : List Ob.S) (e : Ending) (w' : World) : Prop :=
  ∃ A n c, e = .returned (.tuple #[.slice A n c, .bool (decide ((packB s).length ≤ 4096))]) ∧ Below w.heap.size w w' ∧
    ((body s).length ≤ 4096 → n = (packB s).length ∧ n ≤ c ∧ w'.ownsRow w.heap.size 5 1 (.slice A n c) n (bytesV (packB s)))
/-- The state of the loop of 'build'. -/
structure BuSt (w wr : World) (s : List Ob.S) (i : Nat) (A : Option Addr) (n c : Nat) : Prop where
  own : wr.ownsRow (w.heap.size + 1) 5 1 (.slice A n c) n (bytesV (hd3 s.length ++ ents s i))
  num : n = 3 + (ents s i).length
  bel : Below w.heap.size w wr
set_option maxRecDepth 100000 in
set_option maxHeartbeats 8000000 in
theorem build_any (w : World) (A : Option Addr) (k : Nat) (s : List Ob.S) (hv : StV w Free A s) (hl : s.length ≤ 255) (hok : ∀ i, i < s.length → Ob.Ok (Ob.it s i).ob) :
    Calls Try.prog 39 #[stV A s.length k] w (BuPost w s) := by
  obtain ⟨i0, hi0, hz0, hz1, hz2⟩ := info_parts info5
  have HROW := Lib.hid (fun (w' : World) (hb : Below w.heap.size w w') i hi => (hv.keep (free_below hb)).row (w := w') i hi)
  have HOK := Lib.hid hok
  have HLE := Lib.hid (ents_le s hok)
  have hl' : (s.length : Int) ≤ 255 := by omega
  have hlm : (s.length : Int) % 256 = s.length := by omega
  have HH : bytesV (hd3 s.length) = [.int .u8 80, .int .u8 75, .int .u8 (s.length : Int)] := by
    simp only [hd3, bytesV, List.map_cons, List.map_nil, u8_int, hlm]; rfl
  have st0 : BuSt w ((w.alloc (.cells #[.slice A s.length k] 24)).alloc (.cells #[.int .u8 80, .int .u8 75, .int .u8 (s.length : Int)] 5)) s 0 (some ⟨w.heap.size + 1, 0, none⟩) 3 3 := by
    refine ⟨?_, rfl, below_alloc2 _ _ _⟩
    have := World.ownsRow_lit (base := w.heap.size + 1) (size := 1) (e := 5) (w.alloc (.cells #[.slice A s.length k] 24)) #[.int .u8 80, .int .u8 75, .int .u8 (s.length : Int)] 3 (by simp) (by simp [maxLen]) rfl
    rw [ents_zero, List.append_nil, HH]
    simpa using this
  have HB := Lib.hid (show body s = hd3 s.length ++ ents s s.length from rfl)
  have HP := Lib.hid (show packB s = body s ++ Ob.wide (Dg.ofL (body s)) from rfl)
  have HPL := Lib.hid (packB_length s)
  have HBL := Lib.hid (show (body s).length = 3 + (ents s s.length).length from by unfold body; rw [List.length_append]; rfl)
  clear hv hok HH
  go_enter Try.func39, Try.ntmps39
  go_wp2_with fail
  go_loopw [4, 17] (fun vv jv wr => ∃ (j : Nat) (A2 : Option Addr) (n c : Nat), j ≤ s.length ∧ vv = .slice A2 n c ∧ jv = .int .i64 j ∧ BuSt w wr s j A2 n c) (fun _ jv _ => s.length - (intOf jv).toNat)
  case atStart => exact ⟨0, _, 3, 3, Nat.zero_le _, rfl, rfl, st0⟩
  case round =>
    obtain ⟨j, A2, n, c, hj, rfl, rfl, st⟩ := hrel
    obtain ⟨wo, rfl⟩ : ∃ wo : World, wo = wr := ⟨_, rfl⟩
    have hsz := st.bel.size
    have hnb : n ≤ 317223 := by
      have h1 := HLE.out j hj
      have h2 := st.num
      have : j * 1244 ≤ 255 * 1244 := Nat.mul_le_mul_right _ (by omega)
      omega
    by_cases hlt : j < s.length
    · have hlt' : (j : Int) < s.length := by omega
      obtain ⟨b, off, Al, kl, Ad, kd, e, hb, _, d0, d1, d2, d3, hx, hob⟩ := HROW.out _ st.bel j hlt
      subst e
      have hok := HOK.out j hlt
      have heb : (Ob.ent (Ob.it s j).ob).length ≤ 1244 := by
        have h30 := hok.ln
        have h1000 := hok.dn
        rw [Ob.ent_length]; omega
      have HEN := Lib.hid (fun (w' : World) (hb : Below wo.heap.size wo w') => entry_any w' (Ob.it s j).ob Al kl Ad kd (hob.keep (free_below hb)) hok)
      have HS := Lib.hid (ents_succ s j hlt)
      clear hok hob
      generalize hxx : Ob.it s j = x at *
      clear hxx
      generalize hen : Ob.ent x.ob = en at *
      clear hen
      obtain ⟨xd, kk, ls, da⟩ := x
      simp only at *
      go_wp2_with fail
      go_at_call 51
      refine (HEN.out _ (below_alloc1 _ _)).mono ?_
      rintro e w2 ⟨A3, c3, rfl, hc3, _, hown3, hb3'⟩
      have hb3 : Below wo.heap.size wo w2 := (below_alloc1 wo (.cells #[.int .i64 xd, .int .i64 kk, .slice Al ls.length kl, .slice Ad da.length kd] 46)).trans (hb3'.mono (by simp))
      have hbw := st.bel.trans (hb3.mono hsz)
      have hown := st.own.kept (only_of_below hb3 none) (by cases hv : (Value.slice A2 n c).ownBlock <;> simp)
      have hsv2 := SV.of_own hown3
      have HNUM := Lib.hid st.num
      have hzb : wo.heap.size + 1 ≤ w2.heap.size := by have := hb3'.size; simpa using this
      clear st hown3 hb3 hb3'
      go_wp2_with (first | (at_builtin; refine wpList_appNo _ rfl (.tmp 21) (.tmp 24) 26 rfl (w.heap.size + 1) 5 i0 _ 1 1 Try.underlying26 hi0 hz0 hz1 hz2 rfl (by decide) A2 n c _ rfl hown _ A3 en.length c3 _ rfl (by simp) hsv2 (bytesV_one _) ?ha ?hb ?hc ?_))
      case ha => simp [maxLen]; omega
      case hb => omega
      case hc => omega
      intro A' c' w' hown' hg hc' _
      have hbw' := hbw.grown hg hbw.size (fun k hk => by have := (hown.lt k hk).1; omega)
      have st2 : BuSt w w' s (j + 1) A' (n + en.length) c' := ⟨by simp only [HS.out, bytesV_app, List.append_assoc] at hown' ⊢; exact hown', by rw [HS.out, List.length_append, HNUM.out]; omega, hbw'⟩
      clear hown' hown hg hsv2 hbw
      go_wp2_with fail
      go_roundw
      case rel => exact ⟨j + 1, A', _, c', by omega, rfl, by go_num, st2⟩
      case measure => simp [intOf]; omega
    · obtain rfl : j = s.length := by omega
      have hnn : n = (body s).length := by rw [HBL.out]; exact st.num
      subst hnn
      have hown := st.own
      rw [← HB.out] at hown
      have hbel := st.bel
      clear st st0 hlt hj
      by_cases h96 : (body s).length ≤ 4096
      · have HO := of_bytes wo A2 c (body s) (SV.of_own hown) h96
        go_wp2_with fail
        go_at_call 46
        refine HO.mono ?_
        rintro e w2 ⟨rfl, hb2⟩
        have hb3 := hb2.alloc hb2.size (.cells #[.int .i64 0, .int .i64 0] 28)
        have hbw := hbel.trans (hb3.mono hsz)
        have hown2 := hown.kept (only_of_below hb3 none) (by cases hv : (Value.slice A2 (body s).length c).ownBlock <;> simp)
        have k8 := Blk.new w2 28 #[.int .i64 0, .int .i64 0]
        have hz2' := hb2.size
        clear hb2 hb3 hown hbel
        go_wp2_with fail
        go_at_call 52
        refine (big_any _ (Dg.ofL (body s)) (Dg.ofTo_lt _ _ (Nat.le_refl _))).mono ?_
        rintro e w3 ⟨A3, c3, rfl, hc3, _, hown3, hb3⟩
        rw [Ob.wide_length] at hc3 hown3 ⊢
        have hbw3 := hbw.trans (hb3.mono hbw.size)
        have hown4 := hown2.kept (only_of_below hb3 none) (by cases hv : (Value.slice A2 (body s).length c).ownBlock <;> simp)
        have hsv3 := SV.of_own hown3
        have k83 := k8.below hb3 k8.lt
        have hz3 := hb3.size
        have k81 := k83.lt
        clear hown3 hb3 hown2 k8 hbw
        go_wp2_with (first | (at_builtin; refine wpList_appNo _ rfl (.tmp 32) (.tmp 34) 26 rfl (w.heap.size + 1) 5 i0 _ 1 1 Try.underlying26 hi0 hz0 hz1 hz2 rfl (by decide) A2 (body s).length c _ rfl hown4 _ A3 8 c3 _ rfl (by simp) hsv3 (bytesV_one _) ?ha3 ?hb3 ?hc3 ?_))
        case ha3 => simp [maxLen]; omega
        case hb3 => omega
        case hc3 => simp at hz3; omega
        intro A' c' w' hown' hg hc' _
        have hbw' := hbw3.grown hg hbw3.size (fun k hk => by have := (hown4.lt k hk).1; omega)
        have k9 := k83.grown hg (own_blk_ne hown4 k83 (by decide))
        have p0 := k9.cell 0
        have p1 := k9.cell 1
        simp only [List.getElem?_toArray, List.getElem?_cons_zero, List.getElem?_cons_succ] at p0 p1
        clear k9 k83 hg hown4 hbw3 hsv3
        rw [← bytesV_app, ← HP.out] at hown'
        by_cases h88 : (body s).length + 8 ≤ 4096
        · have HR := Lib.hid (show decide ((packB s).length ≤ 4096) = true from by rw [HPL.out]; simpa using h88)
          have h89 : (((body s).length + 8 : Nat) : Int) ≤ 4096 := by omega
          have h8a : ((body s).length : Int) + 8 ≤ 4096 := by omega
          go_wp2_with fail
          refine bodyPost_ret (v := .tuple #[.slice A' ((body s).length + 8) c', .bool true]) (by simp [results, Try.results39, go_sem]) rfl ?_
          exact ⟨A', _, c', by rw [HR.out], hbw', fun _ => ⟨HPL.out.symm, hc', own_more hown' (by omega)⟩⟩
        · have HR := Lib.hid (show decide ((packB s).length ≤ 4096) = false from by rw [HPL.out]; simpa using h88)
          have h89 : ¬ (((body s).length + 8 : Nat) : Int) ≤ 4096 := by omega
          have h8a : ¬ ((body s).length : Int) + 8 ≤ 4096 := by omega
          go_wp2_with fail
          refine bodyPost_ret (v := .tuple #[.slice A' ((body s).length + 8) c', .bool false]) (by simp [results, Try.results39, go_sem]) rfl ?_
          exact ⟨A', _, c', by rw [HR.out], hbw', fun _ => ⟨HPL.out.symm, hc', own_more hown' (by omega)⟩⟩
      · have HO := of_big wo A2 c (body s).length (by omega)
        go_wp2_with fail
        go_at_call 46
        refine HO.mono ?_
        rintro e w2 ⟨rfl, hb2⟩
        have hb3 := hb2.alloc hb2.size (.cells #[.int .i64 2, .int .i64 0] 28)
        have hbw := hbel.trans (hb3.mono hsz)
        have hown2 := hown.kept (only_of_below hb3 none) (by cases hv : (Value.slice A2 (body s).length c).ownBlock <;> simp)
        have k8 := Blk.new w2 28 #[.int .i64 2, .int .i64 0]
        have hz2' := hb2.size
        clear hb2 hb3 hown hbel
        go_wp2_with fail
        go_at_call 52
        refine (big_any _ 0 (by decide)).mono ?_
        rintro e w3 ⟨A3, c3, rfl, hc3, _, hown3, hb3⟩
        rw [Ob.wide_length] at hc3 hown3 ⊢
        have hbw3 := hbw.trans (hb3.mono hbw.size)
        have hown4 := hown2.kept (only_of_below hb3 none) (by cases hv : (Value.slice A2 (body s).length c).ownBlock <;> simp)
        have hsv3 := SV.of_own hown3
        have k83 := k8.below hb3 k8.lt
        have hz3 := hb3.size
        have k81 := k83.lt
        clear hown3 hb3 hown2 k8 hbw
        go_wp2_with (first | (at_builtin; refine wpList_appNo _ rfl (.tmp 32) (.tmp 34) 26 rfl (w.heap.size + 1) 5 i0 _ 1 1 Try.underlying26 hi0 hz0 hz1 hz2 rfl (by decide) A2 (body s).length c _ rfl hown4 _ A3 8 c3 _ rfl (by simp) hsv3 (bytesV_one _) ?ha4 ?hb4 ?hc4 ?_))
        case ha4 => simp [maxLen]; omega
        case hb4 => omega
        case hc4 => simp at hz3; omega
        intro A' c' w' hown' hg hc' _
        have hbw' := hbw3.grown hg hbw3.size (fun k hk => by have := (hown4.lt k hk).1; omega)
        have k9 := k83.grown hg (own_blk_ne hown4 k83 (by decide))
        have p0 := k9.cell 0
        have p1 := k9.cell 1
        simp only [List.getElem?_toArray, List.getElem?_cons_zero, List.getElem?_cons_succ] at p0 p1
        clear k9 k83 hg hown4 hbw3 hsv3
        have HR := Lib.hid (show decide ((packB s).length ≤ 4096) = false from by rw [HPL.out]; simp; omega)
        go_wp2_with fail
        refine bodyPost_ret (v := .tuple #[.slice A' ((body s).length + 8) c', .bool false]) (by simp [results, Try.results39, go_sem]) rfl ?_
        exact ⟨A', _, c', by rw [HR.out], hbw', fun h => absurd h h96⟩
end Go.Proofs.Ytiilhnfdlpgllaa
