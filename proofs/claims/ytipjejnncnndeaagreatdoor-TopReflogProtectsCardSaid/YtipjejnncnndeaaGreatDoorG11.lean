/-
  Packs: walk of 'build'.
  Walks of 'Build' at a valid store whose pack is short enough, and of the law's example.
  References: walk of 'find'.
  References: walk of 'slices.Insert': one reference put into a row of the call's own.
-/
import Derived.Test.YtipjejnncnndeaaGreatDoorG10
import Derived.Test.YtipjejnncnndeaaGreatDoorG03
import Derived.Test.YtipjejnncnndeaaGreatDoorG05
import Derived.Test.YtipjejnncnndeaaGreatDoorG08
import Derived.Test.YtipjejnncnndeaaGreatDoorG09
namespace Go.Proofs.YtipjejnncnndeaaGreatDoor
open Go.RowKit Go.V
set_option linter.unusedVariables false

def hd3 (n : Nat) : List UInt8 := [80, 75, UInt8.ofNat n]
def ents (s : List Ob.S) (i : Nat) : List UInt8 := (s.take i).flatMap fun x => Ob.ent x.ob
@[simp] theorem ents_zero (s : List Ob.S) : ents s 0 = [] := rfl
theorem ents_succ (s : List Ob.S) (i : Nat) (h : i < s.length) : ents s (i + 1) = ents s i ++ Ob.ent (Ob.it s i).ob := by
  unfold ents; rw [List.take_succ_eq_append_getElem h, List.flatMap_append, ← Ob.it_eq s i h]; simp
theorem ents_le (s : List Ob.S) (hok : ∀ i, i < s.length → Ob.Ok (Ob.it s i).ob) : ∀ i, i ≤ s.length → (ents s i).length ≤ i * 1244
  | 0, _ => by simp
  | i + 1, h => by
    have h1 := ents_le s hok i (by omega)
    have h2 := (hok i (by omega)).ln
    have h3 := (hok i (by omega)).dn
    rw [ents_succ s i (by omega), List.length_append, Ob.ent_length]; omega
/-- What a pack's digest is taken of; the pack. -/
def body (s : List Ob.S) : List UInt8 := hd3 s.length ++ ents s s.length
def packB (s : List Ob.S) : List UInt8 := body s ++ Ob.wide (Dg.ofL (body s))
theorem packB_length (s : List Ob.S) : (packB s).length = (body s).length + 8 := by simp [packB]

set_option maxHeartbeats 4000000 in
theorem of_big (w : World) (A : Option Addr) (k : Nat) (n : Nat) (hl : 4096 < n) :
    Calls Tryz.prog 31 #[.slice A n k] w (NumPost w 0 (2, 0)) := by
  have hl' : (4096 : Int) < n := by omega
  go_enter Tryz.func31, Tryz.ntmps31
  go_wp2_with fail
  refine bodyPost_ret (results_tc rfl _ _ w.heap.size (.int .i64 2) (.int .i64 0) rfl (Blk.new _ _ _)) rfl ⟨rfl, ?_⟩
  exact below_alloc1 _ _
/-- A pack, and whether it is short enough. -/
def BuPost (w : World) (s : List Ob.S) (e : Ending) (w' : World) : Prop :=
  ∃ A n c, e = .returned (.tuple #[.slice A n c, .bool (decide ((packB s).length ≤ 4096))]) ∧ Below w.heap.size w w' ∧
    ((body s).length ≤ 4096 → n = (packB s).length ∧ n ≤ c ∧ w'.ownsRow w.heap.size 5 1 (.slice A n c) n (bytesV (packB s)))
/-- The state of the loop of 'build'. -/
structure BuSt (w wr : World) (s : List Ob.S) (i : Nat) (A : Option Addr) (n c : Nat) : Prop where
  own : wr.ownsRow (w.heap.size + 1) 5 1 (.slice A n c) n (bytesV (hd3 s.length ++ ents s i))
  num : n = 3 + (ents s i).length
  bel : Below w.heap.size w wr
set_option maxRecDepth 100000 in
set_option maxHeartbeats 8000000 in
theorem build_any (w : World) (A : Option Addr) (k : Nat) (s : List Ob.S) (hv : StV w Free A s) (hl : s.length ≤ 255) (hok : ∀ i, i < s.length → Ob.Ok (Ob.it s i).ob) :
    Calls Tryz.prog 20 #[stV A s.length k] w (BuPost w s) := by
  obtain ⟨i0, hi0, hz0, hz1, hz2⟩ := info_parts info5
  have HROW := Lib.hid (fun (w' : World) (hb : Below w.heap.size w w') i hi => (hv.keep (free_below hb)).row (w := w') i hi)
  have HOK := Lib.hid hok
  have HLE := Lib.hid (ents_le s hok)
  have hl' : (s.length : Int) ≤ 255 := by omega
  have hlm : (s.length : Int) % 256 = s.length := by omega
  have HH : bytesV (hd3 s.length) = [.int .u8 80, .int .u8 75, .int .u8 (s.length : Int)] := by
    simp only [hd3, bytesV, List.map_cons, List.map_nil, u8_int, hlm]; rfl
  have st0 : BuSt w ((w.alloc (.cells #[.slice A s.length k] 24)).alloc (.cells #[.int .u8 80, .int .u8 75, .int .u8 (s.length : Int)] 5)) s 0 (some ⟨w.heap.size + 1, 0, none⟩) 3 3 := by
    refine ⟨?_, rfl, below_alloc2 _ _ _⟩
    have := World.ownsRow_lit (base := w.heap.size + 1) (size := 1) (e := 5) (w.alloc (.cells #[.slice A s.length k] 24)) #[.int .u8 80, .int .u8 75, .int .u8 (s.length : Int)] 3 (by simp) (by simp [maxLen]) rfl
    rw [ents_zero, List.append_nil, HH]
    simpa using this
  have HB := Lib.hid (show body s = hd3 s.length ++ ents s s.length from rfl)
  have HP := Lib.hid (show packB s = body s ++ Ob.wide (Dg.ofL (body s)) from rfl)
  have HPL := Lib.hid (packB_length s)
  have HBL := Lib.hid (show (body s).length = 3 + (ents s s.length).length from by unfold body; rw [List.length_append]; rfl)
  clear hv hok HH
  go_enter Tryz.func20, Tryz.ntmps20
  go_wp2_with fail
  go_loopw [4, 17] (fun vv jv wr => ∃ (j : Nat) (A2 : Option Addr) (n c : Nat), j ≤ s.length ∧ vv = .slice A2 n c ∧ jv = .int .i64 j ∧ BuSt w wr s j A2 n c) (fun _ jv _ => s.length - (intOf jv).toNat)
  case atStart => exact ⟨0, _, 3, 3, Nat.zero_le _, rfl, rfl, st0⟩
  case round =>
    obtain ⟨j, A2, n, c, hj, rfl, rfl, st⟩ := hrel
    obtain ⟨wo, rfl⟩ : ∃ wo : World, wo = wr := ⟨_, rfl⟩
    have hsz := st.bel.size
    have hnb : n ≤ 317223 := by
      have h1 := HLE.out j hj
      have h2 := st.num
      have : j * 1244 ≤ 255 * 1244 := Nat.mul_le_mul_right _ (by omega)
      omega
    by_cases hlt : j < s.length
    · have hlt' : (j : Int) < s.length := by omega
      obtain ⟨b, off, Al, kl, Ad, kd, e, hb, _, d0, d1, d2, d3, hx, hob⟩ := HROW.out _ st.bel j hlt
      subst e
      have hok := HOK.out j hlt
      have heb : (Ob.ent (Ob.it s j).ob).length ≤ 1244 := by
        have h30 := hok.ln
        have h1000 := hok.dn
        rw [Ob.ent_length]; omega
      have HEN := Lib.hid (fun (w' : World) (hb : Below wo.heap.size wo w') => entry_any w' (Ob.it s j).ob Al kl Ad kd (hob.keep (free_below hb)) hok)
      have HS := Lib.hid (ents_succ s j hlt)
      clear hok hob
      generalize hxx : Ob.it s j = x at *
      clear hxx
      generalize hen : Ob.ent x.ob = en at *
      clear hen
      obtain ⟨xd, kk, ls, da⟩ := x
      simp only at *
      go_wp2_with fail
      go_at_call 35
      refine (HEN.out _ (below_alloc1 _ _)).mono ?_
      rintro e w2 ⟨A3, c3, rfl, hc3, _, hown3, hb3'⟩
      have hb3 : Below wo.heap.size wo w2 := (below_alloc1 wo (.cells #[.int .i64 xd, .int .i64 kk, .slice Al ls.length kl, .slice Ad da.length kd] 65)).trans (hb3'.mono (by simp))
      have hbw := st.bel.trans (hb3.mono hsz)
      have hown := st.own.kept (only_of_below hb3 none) (by cases hv : (Value.slice A2 n c).ownBlock <;> simp)
      have hsv2 := SV.of_own hown3
      have HNUM := Lib.hid st.num
      have hzb : wo.heap.size + 1 ≤ w2.heap.size := by have := hb3'.size; simpa using this
      clear st hown3 hb3 hb3'
      go_wp2_with (first | (at_builtin; refine wpList_appNo _ rfl (.tmp 21) (.tmp 24) 46 rfl (w.heap.size + 1) 5 i0 _ 1 1 Tryz.underlying46 hi0 hz0 hz1 hz2 rfl (by decide) A2 n c _ rfl hown _ A3 en.length c3 _ rfl (by simp) hsv2 (bytesV_one _) ?ha ?hb ?hc ?_))
      case ha => simp [maxLen]; omega
      case hb => omega
      case hc => omega
      intro A' c' w' hown' hg hc' _
      have hbw' := hbw.grown hg hbw.size (fun k hk => by have := (hown.lt k hk).1; omega)
      have st2 : BuSt w w' s (j + 1) A' (n + en.length) c' := ⟨by simp only [HS.out, bytesV_app] at hown' ⊢; exact hown', by rw [HS.out, List.length_append, HNUM.out]; omega, hbw'⟩
      clear hown' hown hg hsv2 hbw
      go_wp2_with fail
      go_roundw
      case rel => exact ⟨j + 1, A', _, c', by omega, rfl, by go_num, st2⟩
      case measure => simp [intOf]; omega
    · obtain rfl : j = s.length := by omega
      have hnn : n = (body s).length := by rw [HBL.out]; exact st.num
      subst hnn
      have hown := st.own
      rw [← HB.out] at hown
      have hbel := st.bel
      clear st st0 hlt hj
      by_cases h96 : (body s).length ≤ 4096
      · have HO := of_bytes wo A2 c (body s) (SV.of_own hown) h96
        go_wp2_with fail
        go_at_call 31
        refine HO.mono ?_
        rintro e w2 ⟨rfl, hb2⟩
        have hb3 := hb2.alloc hb2.size (.cells #[.int .i64 0, .int .i64 0] 33)
        have hbw := hbel.trans (hb3.mono hsz)
        have hown2 := hown.kept (only_of_below hb3 none) (by cases hv : (Value.slice A2 (body s).length c).ownBlock <;> simp)
        have k8 := Blk.new w2 33 #[.int .i64 0, .int .i64 0]
        have hz2' := hb2.size
        clear hb2 hb3 hown hbel
        go_wp2_with fail
        go_at_call 36
        refine (big_any _ (Dg.ofL (body s)) (Dg.ofTo_lt _ _ (Nat.le_refl _))).mono ?_
        rintro e w3 ⟨A3, c3, rfl, hc3, _, hown3, hb3⟩
        rw [Ob.wide_length] at hc3 hown3 ⊢
        have hbw3 := hbw.trans (hb3.mono hbw.size)
        have hown4 := hown2.kept (only_of_below hb3 none) (by cases hv : (Value.slice A2 (body s).length c).ownBlock <;> simp)
        have hsv3 := SV.of_own hown3
        have k83 := k8.below hb3 k8.lt
        have hz3 := hb3.size
        have k81 := k83.lt
        clear hown3 hb3 hown2 k8 hbw
        go_wp2_with (first | (at_builtin; refine wpList_appNo _ rfl (.tmp 32) (.tmp 34) 46 rfl (w.heap.size + 1) 5 i0 _ 1 1 Tryz.underlying46 hi0 hz0 hz1 hz2 rfl (by decide) A2 (body s).length c _ rfl hown4 _ A3 8 c3 _ rfl (by simp) hsv3 (bytesV_one _) ?ha3 ?hb3 ?hc3 ?_))
        case ha3 => simp [maxLen]; omega
        case hb3 => omega
        case hc3 => simp at hz3; omega
        intro A' c' w' hown' hg hc' _
        have hbw' := hbw3.grown hg hbw3.size (fun k hk => by have := (hown4.lt k hk).1; omega)
        have k9 := k83.grown hg (own_blk_ne hown4 k83 (by decide))
        have p0 := k9.cell 0
        have p1 := k9.cell 1
        simp only [List.getElem?_toArray, List.getElem?_cons_zero, List.getElem?_cons_succ] at p0 p1
        clear k9 k83 hg hown4 hbw3 hsv3
        rw [← bytesV_app, ← HP.out] at hown'
        by_cases h88 : (body s).length + 8 ≤ 4096
        · have HR := Lib.hid (show decide ((packB s).length ≤ 4096) = true from by rw [HPL.out]; simpa using h88)
          have h89 : (((body s).length + 8 : Nat) : Int) ≤ 4096 := by omega
          have h8a : ((body s).length : Int) + 8 ≤ 4096 := by omega
          go_wp2_with fail
          refine bodyPost_ret (v := .tuple #[.slice A' ((body s).length + 8) c', .bool true]) (by simp [results, Tryz.results20, go_sem]) rfl ?_
          exact ⟨A', _, c', by rw [HR.out], hbw', fun _ => ⟨HPL.out.symm, hc', own_more hown' (by omega)⟩⟩
        · have HR := Lib.hid (show decide ((packB s).length ≤ 4096) = false from by rw [HPL.out]; simpa using h88)
          have h89 : ¬ (((body s).length + 8 : Nat) : Int) ≤ 4096 := by omega
          have h8a : ¬ ((body s).length : Int) + 8 ≤ 4096 := by omega
          go_wp2_with fail
          refine bodyPost_ret (v := .tuple #[.slice A' ((body s).length + 8) c', .bool false]) (by simp [results, Tryz.results20, go_sem]) rfl ?_
          exact ⟨A', _, c', by rw [HR.out], hbw', fun _ => ⟨HPL.out.symm, hc', own_more hown' (by omega)⟩⟩
      · have HO := of_big wo A2 c (body s).length (by omega)
        go_wp2_with fail
        go_at_call 31
        refine HO.mono ?_
        rintro e w2 ⟨rfl, hb2⟩
        have hb3 := hb2.alloc hb2.size (.cells #[.int .i64 2, .int .i64 0] 33)
        have hbw := hbel.trans (hb3.mono hsz)
        have hown2 := hown.kept (only_of_below hb3 none) (by cases hv : (Value.slice A2 (body s).length c).ownBlock <;> simp)
        have k8 := Blk.new w2 33 #[.int .i64 2, .int .i64 0]
        have hz2' := hb2.size
        clear hb2 hb3 hown hbel
        go_wp2_with fail
        go_at_call 36
        refine (big_any _ 0 (by decide)).mono ?_
        rintro e w3 ⟨A3, c3, rfl, hc3, _, hown3, hb3⟩
        rw [Ob.wide_length] at hc3 hown3 ⊢
        have hbw3 := hbw.trans (hb3.mono hbw.size)
        have hown4 := hown2.kept (only_of_below hb3 none) (by cases hv : (Value.slice A2 (body s).length c).ownBlock <;> simp)
        have hsv3 := SV.of_own hown3
        have k83 := k8.below hb3 k8.lt
        have hz3 := hb3.size
        have k81 := k83.lt
        clear hown3 hb3 hown2 k8 hbw
        go_wp2_with (first | (at_builtin; refine wpList_appNo _ rfl (.tmp 32) (.tmp 34) 46 rfl (w.heap.size + 1) 5 i0 _ 1 1 Tryz.underlying46 hi0 hz0 hz1 hz2 rfl (by decide) A2 (body s).length c _ rfl hown4 _ A3 8 c3 _ rfl (by simp) hsv3 (bytesV_one _) ?ha4 ?hb4 ?hc4 ?_))
        case ha4 => simp [maxLen]; omega
        case hb4 => omega
        case hc4 => simp at hz3; omega
        intro A' c' w' hown' hg hc' _
        have hbw' := hbw3.grown hg hbw3.size (fun k hk => by have := (hown4.lt k hk).1; omega)
        have k9 := k83.grown hg (own_blk_ne hown4 k83 (by decide))
        have p0 := k9.cell 0
        have p1 := k9.cell 1
        simp only [List.getElem?_toArray, List.getElem?_cons_zero, List.getElem?_cons_succ] at p0 p1
        clear k9 k83 hg hown4 hbw3 hsv3
        have HR := Lib.hid (show decide ((packB s).length ≤ 4096) = false from by rw [HPL.out]; simp; omega)
        go_wp2_with fail
        refine bodyPost_ret (v := .tuple #[.slice A' ((body s).length + 8) c', .bool false]) (by simp [results, Tryz.results20, go_sem]) rfl ?_
        exact ⟨A', _, c', by rw [HR.out], hbw', fun h => absurd h h96⟩
end Go.Proofs.YtipjejnncnndeaaGreatDoor
namespace Go.Proofs.YtipjejnncnndeaaGreatDoor
open Go.RowKit Go.V
set_option linter.unusedVariables false

/-- What 'Build' answers there. -/
def BdPost (w : World) (n : Nat) (e : Ending) (w' : World) : Prop := ∃ A c, e = .returned (.tuple #[.slice A n c, .agg #[.int .i64 0, .int .i64 0]]) ∧ Below w.heap.size w w'
set_option maxRecDepth 100000 in
set_option maxHeartbeats 8000000 in
theorem Build_any (w : World) (A : Option Addr) (k : Nat) (s : List Ob.S) (hv : StV w Free A s) (hok : Ob.StOk s) (hp : (packB s).length ≤ 4096) :
    Calls Tryz.prog 10 #[stV A s.length k] w (BdPost w (packB s).length) := by
  have hl40 := hok.len
  have HV := Lib.hid (fun (w1 : World) (hb : Below w.heap.size w w1) => validate_any w1 A k s (hv.keep (free_below hb)) (by omega))
  have HB := Lib.hid (fun (w1 : World) (hb : Below w.heap.size w w1) => build_any w1 A k s (hv.keep (free_below hb)) (by omega) hok.ok)
  have HOK := Lib.hid hok.f
  have hd : decide ((packB s).length ≤ 4096) = true := decide_eq_true hp
  have hpb := packB_length s
  have HBL : Hid ((body s).length ≤ 4096) := Lib.hid (by omega)
  have st0 : MkSt w ((w.alloc (.cells #[.slice A s.length k] 24)).alloc (.cells #[.int .i64 0, .int .i64 0] 33)) A s.length k := ⟨(Blk.new _ _ _).alloc _, blk_new1 _ _ _ _, below_alloc2 _ _ _⟩
  clear hv hok hp hpb
  go_enter Tryz.func10, Tryz.ntmps10
  go_wp2_with fail
  go_at_call 11
  refine (HV.out _ st0.bel).mono ?_
  rintro e w1 ⟨rfl, hb1⟩
  rw [HOK.out]
  have st1 := (st0.below hb1).below (below_alloc1 w1 (.cells #[.int .i64 0, .int .i64 0] 33))
  obtain ⟨p0, p1, p2, p3, p4, l1⟩ := st1.facts
  have hwl : w.heap.size + 1 < w1.heap.size := (st0.below hb1).r1.lt
  clear hb1
  go_wp2_with fail
  go_at_call 20
  refine (HB.out _ st1.bel).mono ?_
  rintro e w2 ⟨A2, n2, c2, rfl, hb2, hown⟩
  obtain ⟨hn2, _, _⟩ := hown HBL.out
  subst hn2
  rw [hd]
  have st2 := st1.below hb2
  clear hown st0 st1 p0 p1 p2 p3 p4 l1 hb2
  obtain ⟨p0, p1, p2, p3, p4, l1⟩ := st2.facts
  go_wp2_with fail
  refine bodyPost_ret (results_tc rfl _ _ (w.heap.size + 1) (.int .i64 0) (.int .i64 0) rfl ?hx) rfl ?_
  case hx => exact blk_put2 st2.r1 _ _
  exact ⟨A2, c2, rfl, (st2.bel.setCell (by simp) _).setCell (by simp) _⟩
/-- The law's example: one blob of one byte, and its store. -/
def o1 : Ob.O := ⟨1, [], [7]⟩
def s1 : Ob.S := ⟨(Ob.dig o1 : Nat), o1⟩
theorem o1_ok : Ob.Ok o1 := ⟨by decide, by decide, by decide, by decide, fun _ => rfl, fun j h => by simp [o1] at h⟩
theorem stOk_nil : Ob.StOk [] := ⟨by simp, fun i h => by simp at h, fun i h => by simp at h, fun i h => by simp at h⟩
theorem s1_ok : Ob.StOk [s1] :=
  ⟨by simp, fun i h => by obtain rfl : i = 0 := by simpa using h
                          exact o1_ok, fun i h => by obtain rfl : i = 0 := by simpa using h
                                                     rfl, fun i h => by simp at h⟩
theorem put_s1 : Ob.putF [] o1 = ([s1], ((Ob.dig o1 : Nat) : Int), ((0 : Int), (0 : Int))) := by
  have h1 : Ob.addOk [] (Ob.dig o1) o1 = true := rfl
  have h2 : Ob.addS [] (Ob.dig o1) o1 = [s1] := rfl
  unfold Ob.putF
  rw [stOk_nil.f, if_neg (by simp), o1_ok.f, if_neg (by simp), h1, if_neg (by simp), h2, if_neg (by simp)]
theorem pack_s1 : (packB [s1]).length = 16 := by
  rw [packB_length]
  rfl
theorem dig_i64 : I64 ((Ob.dig o1 : Nat) : Int) := by
  have := Ob.dig_lt o1
  unfold I64; omega
theorem mk_s1 {L : List Int} (h : Gc.Mk [s1] [((Ob.dig o1 : Nat) : Int)] L) : L = [((Ob.dig o1 : Nat) : Int)] := by
  have hf : Ob.fnd [s1] ((Ob.dig o1 : Nat) : Int) = true := (Ob.fnd_iff s1_ok.sorted _).2 ⟨s1, by simp, rfl⟩
  refine Gc.up_ext h.up (List.pairwise_singleton _ _) fun x => ?_
  rw [h.mem, List.mem_singleton]
  constructor
  · intro hr
    obtain ⟨y, hy, e⟩ := (Ob.fnd_iff s1_ok.sorted x).1 hr.has
    rw [List.mem_singleton] at hy
    subst hy
    exact e.symm
  · rintro rfl
    exact .root (by simp) hf
theorem results_24_tt {fn : Func} {a s t : Tmp} (h : fn.results = #[.cell a 24, .tmp s, .tmp t]) (tmps : Array Value) (w : World) (g : Nat) (x : Value) (ha : tmps.getD a undef = .pointer (some ⟨g, 0, none⟩)) (hb : Blk w g 24 #[x]) :
    (results fn tmps).run Tryz.prog w = .ok (.tuple #[.agg #[x], tmps.getD s undef, tmps.getD t undef]) w := by
  have h0 := hb.cell 0
  simp only [List.getElem?_toArray, List.getElem?_cons_zero] at h0
  have ha' : tmps[a]?.getD undef = .pointer (some ⟨g, 0, none⟩) := by simpa using ha
  simp [results, h, go_sem, ha', h0]
/-- What the example answers. -/
def MlPost (w : World) (e : Ending) (w' : World) : Prop := ∃ A c, e = .returned (.tuple #[stV A 1 c, .int .i64 (Ob.dig o1 : Nat), .bool true]) ∧ StV w' (Under w.heap.size) A [s1] ∧ Below w.heap.size w w'
set_option maxRecDepth 100000 in
set_option maxHeartbeats 8000000 in
theorem example_any (w : World) : Calls Tryz.prog 4 #[] w (MlPost w) := by
  have HP := Lib.hid (fun (w1 : World) (g : Nat) (hb : Blk w1 g 5 #[.int .u8 7]) => put_any w1 none 0 [] o1 none 0 (some ⟨g, 0, none⟩) 1 ⟨[], SA.nil, rfl⟩ (by simp) ⟨show I64 1 from ⟨by decide, by decide⟩, fun i h => by simp [o1] at h, by simp [o1], by simp [o1], by simp [o1], by simp [o1], SA.nil, SA.of_blk hb (fun h => h)⟩)
  go_enter Tryz.func4, Tryz.ntmps4
  have hpk := pack_s1
  have HB := Lib.hid (fun (w1 : World) (A : Option Addr) (k : Nat) (hv : StV w1 Free A [s1]) => Build_any w1 A k [s1] hv s1_ok (by rw [hpk]; decide))
  rw [put_s1] at HP
  rw [hpk] at HB
  have hk1 := Blk.new (w.alloc (.cells #[.slice none 0 0] 24)) 5 #[.int .u8 7]
  have e1 : (w.alloc (.cells #[.slice none 0 0] 24)).heap.size = w.heap.size + 1 := by simp
  rw [e1] at hk1
  have b0 : Blk ((w.alloc (.cells #[.slice none 0 0] 24)).alloc (.cells #[.int .u8 7] 5)) w.heap.size 24 #[.slice none 0 0] := (Blk.new _ _ _).alloc _
  have hb0 := below_alloc2 w (.cells #[.slice none 0 0] 24) (.cells #[.int .u8 7] 5)
  clear hpk
  generalize hdd : ((Ob.dig o1 : Nat) : Int) = dd at *
  go_wp2_with fail
  go_at_call 9
  refine (HP.out _ _ hk1).mono ?_
  rintro e w1 ⟨A1, c1, rfl, hc1, hv1, hb1⟩
  have b1 := b0.below hb1 b0.lt
  have bs := (Blk.new w1 24 #[.slice A1 1 c1]).alloc (.cells #[.int .i64 0, .int .i64 0] 33)
  have bf := blk_new1 w1 (.cells #[.slice A1 1 c1] 24) 33 #[.int .i64 0, .int .i64 0]
  have hbx := below_alloc2 w1 (.cells #[.slice A1 1 c1] 24) (.cells #[.int .i64 0, .int .i64 0] 33)
  have hb01 := hb0.trans (hb1.mono hb0.size)
  have hsz1 : w.heap.size < w1.heap.size := by have := hb1.size; simp at this; omega
  have HBU := Lib.hid (HB.out _ A1 c1 (StV.keep (X' := Free) hv1 (Keeps.below hbx (fun _ _ h => h.elim))))
  have HV1 := Lib.hid hv1
  clear HP HB hb1 hk1 hv1 b0 hb0
  go_wp2_with fail
  go_at_call 10
  refine HBU.out.mono ?_
  rintro e w2 ⟨A2, c2, rfl, hb2⟩
  have b2 := (b1.below hbx b1.lt).below hb2 (by simp; omega)
  have bs2 := bs.below hb2 bs.lt
  have bf2 := bf.below hb2 bf.lt
  have hb12 : Below w1.heap.size w1 w2 := hbx.trans (hb2.mono hbx.size)
  have hb02 := hb01.trans (hb12.mono hb01.size)
  have hl0 := b2.lt
  have hls := bs2.lt
  have hlf := bf2.lt
  have q0 := (b2.cell 0).trans rfl
  have q0f := b2.frozen 0
  have qs := (bs2.cell 0).trans rfl
  have qf0 := (bf2.cell 0).trans rfl
  have qf1 := (bf2.cell 1).trans rfl
  clear b1 bs bf hbx hb2 HBU
  go_wp2_with fail
  have bz := b2.set_ 0 (.slice A1 1 c1)
  refine bodyPost_ret (results_24_tt rfl _ _ w.heap.size (.slice A1 1 c1) rfl (Blk.alloc (by simpa using bz) _)) rfl ?_
  refine ⟨A1, c1, by rw [hdd]; rfl, ?_, (hb02.setCell (p := ⟨w.heap.size, 0, none⟩) (by simp) _).alloc (by have := hb02.size; simp [World.setCell]; omega) _⟩
  have hk2 := (Keeps.below (X := Under ((w.alloc (.cells #[.slice none 0 0] 24)).alloc (.cells #[.int .u8 7] 5)).heap.size) (X' := Under ((w.alloc (.cells #[.slice none 0 0] 24)).alloc (.cells #[.int .u8 7] 5)).heap.size) hb12 (fun _ _ h => h)).trans (Keeps.setCell w2 _ ⟨w.heap.size, 0, none⟩ (.slice A1 1 c1) (by unfold Under; simp; omega))
  exact HV1.out.keep ((hk2.trans (Keeps.alloc _ _ (.cells #[.int .i64 0, .int .i64 0] 33))).into fun x hx => by unfold Under at *; simp; omega)
end Go.Proofs.YtipjejnncnndeaaGreatDoor
namespace Rf
theorem lb_lt : ∀ {s : List R} {n : Nm} {k : Nat}, k < lb s n → (it s k).name < n
  | [], _, _, h => by simp [lb] at h
  | x :: s, n, k, h => by
    unfold lb at h
    split at h
    · rename_i hx
      rcases k with _ | k
      · simpa [it] using hx
      · have := lb_lt (s := s) (n := n) (k := k) (by omega)
        simpa [it] using this
    · omega
theorem lb_ge : ∀ {s : List R} (_ : Srt s) {n : Nm} {k : Nat}, lb s n ≤ k → k < s.length → ¬ (it s k).name < n
  | [], _, _, _, _, h => by simp at h
  | x :: s, hs, n, k, h, hk => by
    obtain ⟨h1, h2⟩ := List.pairwise_cons.1 hs
    unfold lb at h
    split at h
    · rcases k with _ | k
      · omega
      · have := lb_ge h2 (n := n) (k := k) (by omega) (by simpa using hk)
        simpa [it] using this
    · rename_i hx
      rcases k with _ | k
      · simpa [it] using hx
      · have hm : it s k ∈ s := by rw [← it_eq s k (by simpa using hk)]; exact List.getElem_mem _
        have := h1 _ hm
        intro hlt
        have e : it (x :: s) (k + 1) = it s k := by simp [it]
        rw [e] at hlt
        exact hx (nlt_trans this hlt)
theorem cmp_lt {a b : List UInt8} (h : a < b) : Go.Lib.compareBytes a b = -1 := by
  induction a generalizing b with
  | nil => cases b with
    | nil => exact absurd h (nlt_irrefl _)
    | cons y b => rfl
  | cons x a ih => cases b with
    | nil => exact absurd h (by simp)
    | cons y b =>
      rw [List.cons_lt_cons_iff] at h
      unfold Go.Lib.compareBytes
      rcases h with h | ⟨rfl, h⟩
      · rw [if_pos h]
      · rw [if_neg (by simp), if_neg (by simp), ih h]
theorem cmp_eq (a : List UInt8) : Go.Lib.compareBytes a a = 0 := by
  induction a with
  | nil => rfl
  | cons x a ih => unfold Go.Lib.compareBytes; rw [if_neg (by simp), if_neg (by simp), ih]
theorem cmp_gt {a b : List UInt8} (h : b < a) : Go.Lib.compareBytes a b = 1 := by
  induction a generalizing b with
  | nil => exact absurd h (by simp)
  | cons x a ih => cases b with
    | nil => rfl
    | cons y b =>
      rw [List.cons_lt_cons_iff] at h
      unfold Go.Lib.compareBytes
      rcases h with h | ⟨rfl, h⟩
      · rw [if_neg (fun h2 => by have := UInt8.lt_trans h h2; exact absurd this (UInt8.lt_irrefl _)), if_pos h]
      · rw [if_neg (by simp), if_neg (by simp), ih h]
end Rf
namespace Go.Proofs.YtipjejnncnndeaaGreatDoor.RF
open Go.RowKit Go.V Go.Shelf Go.Lib
set_option linter.unusedVariables false

theorem find1_any (w : World) (nm n : List UInt8) (t : Int) :
    Calls Tryz.prog 68 #[.agg #[strV nm, .int .i64 t], strV n] w fun e w' => e = .returned (.int .i64 (Lib.compareBytes nm n)) ∧ Below w.heap.size w w' := by
  have HC := Lib.hid (compare_any nm n (w.alloc (.cells #[strV nm, .int .i64 t] 41)))
  go_enter Tryz.func68, Tryz.ntmps68
  go_wp2_with (first | (go_at_call 69; with_reducible refine HC.out.mono ?_; rintro e w' ⟨rfl, rfl⟩))
  go_ret
  exact ⟨rfl, below_alloc1 _ _⟩
set_option maxRecDepth 100000 in
set_option maxHeartbeats 8000000 in
theorem bsearch_any (w : World) (A : Option Addr) (k : Nat) (s : List Rf.R) (n : List UInt8) (fv : Value) (hfv : fv = .func (.func 68) #[] #[]) (hv : SA w Free A (rsV s)) (hl : s.length ≤ 1000000) (hs : Rf.Srt s) :
    Calls Tryz.prog 67 #[.slice A s.length k, strV n, fv] w fun e w' => e = .returned (.tuple #[.int .i64 (Rf.lb s n : Nat), .bool (Rf.fnd s n)]) ∧ Below w.heap.size w w' := by
  have HROW := Lib.hid (fun (w' : World) (hb : Below w.heap.size w w') i hi => rsV_row (w := w') (hv.keep (free_below hb)) i hi)
  have HS := Lib.hid hs
  clear hv hs
  subst hfv
  go_enter Tryz.func67, Tryz.ntmps67
  go_wp2_with fail
  go_loopw [9, 10] (fun iv jv wr => ∃ i j : Nat, i ≤ j ∧ j ≤ s.length ∧ iv = .int .i64 i ∧ jv = .int .i64 j ∧ Hid (i ≤ Rf.lb s n ∧ Rf.lb s n ≤ j) ∧ Below w.heap.size w wr) (fun iv jv _ => (intOf jv).toNat - (intOf iv).toNat)
  case atStart => exact ⟨0, s.length, Nat.zero_le _, Nat.le_refl _, rfl, rfl, Lib.hid ⟨Nat.zero_le _, Rf.lb_le _ _⟩, Below.refl _ _⟩
  case round =>
    obtain ⟨i, j, hij, hj, rfl, rfl, HB, hbw⟩ := hrel
    obtain ⟨wo, rfl⟩ : ∃ wo : World, wo = wr := ⟨_, rfl⟩
    by_cases hlt : i < j
    · have hlt' : (i : Int) < j := by omega
      obtain ⟨m, hm1, hm2, hm⟩ : ∃ m : Nat, i ≤ m ∧ m < j ∧ ((i : Int) + j) / 2 = (m : Int) := ⟨(i + j) / 2, by omega, by omega, by omega⟩
      have hmi : (m : Int) < s.length := by omega
      obtain ⟨b, off, e, hb, _, d0, d1⟩ := HROW.out _ hbw m (by omega)
      subst e
      have HLT := Lib.hid (fun h => Rf.lb_ge HS.out (n := n) (k := m) h (by omega))
      have HGE := Lib.hid (fun h => Rf.lb_lt (s := s) (n := n) (k := m) h)
      by_cases hc : (Rf.it s m).name < n
      · have HB' : Hid (m + 1 ≤ Rf.lb s n ∧ Rf.lb s n ≤ j) := Lib.hid ⟨by
          apply Decidable.byContradiction; intro hn; exact HLT.out (by omega) hc, HB.out.2⟩
        have hcd : Hid (Lib.compareBytes (Rf.it s m).name n = -1) := Lib.hid (Rf.cmp_lt hc)
        clear hc HLT HGE
        generalize Rf.it s m = x at *
        go_wp2_with fail
        go_at_call 68
        refine (find1_any _ _ _ _).mono ?_
        rintro e w2 ⟨rfl, hb2⟩
        rw [hcd.out]
        have hbw2 := hbw.trans (hb2.mono hbw.size)
        clear hb2
        go_wp2_with fail
        go_roundw
        case rel => exact ⟨m + 1, j, by omega, hj, by go_num, rfl, HB', hbw2⟩
        case measure => simp [intOf]; omega
      · have HB' : Hid (i ≤ Rf.lb s n ∧ Rf.lb s n ≤ m) := Lib.hid ⟨HB.out.1, by
          apply Decidable.byContradiction; intro hn; exact hc (HGE.out (by omega))⟩
        have hcd : 0 ≤ Lib.compareBytes (Rf.it s m).name n := by
          by_cases he : (Rf.it s m).name = n
          · rw [he, Rf.cmp_eq]; omega
          · rw [Rf.cmp_gt (Rf.nlt_of_not hc he)]; omega
        clear hc HLT HGE
        generalize Rf.it s m = x at *
        generalize hcc : Lib.compareBytes x.name n = cd at *
        have HCC := Lib.hid hcc
        clear hcc
        go_wp2_with fail
        go_at_call 68
        refine (find1_any _ _ _ _).mono ?_
        rintro e w2 ⟨rfl, hb2⟩
        rw [HCC.out]
        have hbw2 := hbw.trans (hb2.mono hbw.size)
        clear hb2
        go_wp2_with fail
        go_roundw
        case rel => exact ⟨i, m, hm1, by omega, rfl, rfl, HB', hbw2⟩
        case measure => simp [intOf]; omega
    · obtain rfl : i = j := by omega
      have hi : Rf.lb s n = i := by have := HB.out; omega
      have HI := Lib.hid hi
      clear hi HB
      by_cases hil : i < s.length
      · have hil' : (i : Int) < s.length := by omega
        obtain ⟨b, off, e, hb, _, d0, d1⟩ := HROW.out _ hbw i hil
        subst e
        have HF : Hid (Rf.fnd s n = (Lib.compareBytes (Rf.it s i).name n == 0)) := Lib.hid (by
          unfold Rf.fnd
          rw [HI.out, decide_eq_true hil, Bool.true_and, Bool.eq_iff_iff]
          simp only [decide_eq_true_eq, beq_iff_eq]
          constructor
          · intro h; rw [h, Rf.cmp_eq]
          · intro h
            rcases Rf.nlt_tri (Rf.it s i).name n with h2 | h2 | h2
            · rw [Rf.cmp_lt h2] at h; omega
            · exact h2
            · rw [Rf.cmp_gt h2] at h; omega)
        generalize Rf.it s i = x at *
        generalize hcc : Lib.compareBytes x.name n = cd at *
        have HCC := Lib.hid hcc
        clear hcc
        go_wp2_with fail
        go_at_call 68
        refine (find1_any _ _ _ _).mono ?_
        rintro e w2 ⟨rfl, hb2⟩
        rw [HCC.out]
        have hbw2 := hbw.trans (hb2.mono hbw.size)
        clear hb2
        go_wp2_with fail
        go_ret2
        exact ⟨by rw [HI.out, HF.out]; rfl, hbw2⟩
      · have hil' : ¬ (i : Int) < s.length := by omega
        have hil2 : decide (i < s.length) = false := decide_eq_false hil
        have HF : Hid (Rf.fnd s n = false) := Lib.hid (by unfold Rf.fnd; rw [HI.out, decide_eq_false hil]; rfl)
        clear hil
        go_wp2_with fail
        go_ret2
        exact ⟨by rw [HI.out, HF.out]; rfl, hbw⟩
theorem find_any (w : World) (A : Option Addr) (k : Nat) (s : List Rf.R) (n : List UInt8) (hv : SA w Free A (rsV s)) (hl : s.length ≤ 1000000) (hs : Rf.Srt s) :
    Calls Tryz.prog 42 #[.agg #[.slice A s.length k], strV n] w fun e w' => e = .returned (.tuple #[.int .i64 (Rf.lb s n : Nat), .bool (Rf.fnd s n)]) ∧ Below w.heap.size w w' := by
  have HB := Lib.hid (fun fv hfv => bsearch_any (w.alloc (.cells #[.slice A s.length k] 27)) A k s n fv hfv (hv.keep (Keeps.alloc _ _ _)) hl hs)
  clear hv hs
  go_enter Tryz.func42, Tryz.ntmps42
  go_wp2_with fail
  go_at_call 67
  refine (HB.out _ rfl).mono ?_
  rintro e w1 ⟨rfl, hb1⟩
  go_wp2_with fail
  go_ret2
  exact ⟨rfl, (below_alloc1 _ _).trans (hb1.mono (by simp))⟩
end Go.Proofs.YtipjejnncnndeaaGreatDoor.RF
namespace Go.Proofs.YtipjejnncnndeaaGreatDoor.RF
open Go.RowKit Go.V Go.Shelf Go.Lib
set_option linter.unusedVariables false

theorem info51 : (Tryz.prog.info? 41).map (fun i => (i.zero, i.size, i.bytes)) = some (some (.agg #[.string .empty, .int .i64 0]), 2, 24) := by kernel_rfl
def InPost (w : World) (base : Nat) (A : Option Addr) (n c : Nat) (xs news : List Value) (i : Nat) (e : Ending) (w' : World) : Prop := ∃ gd c', e = .returned (.slice (some ⟨gd, 0, none⟩) (n + 1) c') ∧
  w'.ownsRow base 41 2 (.slice (some ⟨gd, 0, none⟩) (n + 1) c') (n + 1) (xs.take (i * 2) ++ news ++ xs.drop (i * 2)) ∧ w.grownBy w' (Value.slice A n c).ownBlock ∧
  ((Value.slice (some ⟨gd, 0, none⟩) (n + 1) c').ownBlock = (Value.slice A n c).ownBlock ∨ (Value.slice (some ⟨gd, 0, none⟩) (n + 1) c').ownBlock = some w.heap.size)
theorem blk_shape {w : World} {g : Nat} {t : TypeId} {cs : Array Value} (h : Blk w g t cs) : w.shape? g = some (t, cs.size) := by
  unfold Blk at h; simp [World.shape?, h]
theorem overlaps_no (w : World) (vb g : Nat) (cs cur : Array Value) (hv : Blk w vb 41 cs) (hg : Blk w g 41 cur) (hne : vb ≠ g) (hc : cur.size ≠ 0) (la ca off lb cb : Nat) :
    (callFunc 70 #[.slice (some ⟨vb, 0, none⟩) la ca, .slice (some ⟨g, off, none⟩) lb cb]).run Tryz.prog w = .ok (.value (.bool false)) w := by
  rw [run_callFunc_extern Tryz.func70 (by kernel_rfl) (by kernel_rfl) (by kernel_rfl) (e := Extern.SlicesOverlaps.overlaps #[25, 25] #[4]) (by kernel_rfl),
    Lib.run_overlaps_apart w 25 4 41 Tryz.underlying25 2 (fun w => by kernel_rfl) ⟨vb, 0, none⟩ ⟨g, off, none⟩ la ca lb cb hne 41 41 cs.size cur.size (blk_shape hv) (blk_shape hg) hc (hv.frozen 0) (hv.frozen _)]
  rfl
set_option maxRecDepth 100000 in
set_option maxHeartbeats 8000000 in
theorem insert_end (w : World) (base : Nat) (A : Option Addr) (n c : Nat) (xs news : List Value) (vb : Nat) (hown : w.ownsRow base 41 2 (.slice A n c) n xs) (hl : n ≤ 1000000) (hbase : base ≤ w.heap.size)
    (hnl : news.length = 2) (hvb : ∀ j u, news[j]? = some u → w.cell? ⟨vb, j, none⟩ = some u) (h1 : ∀ u ∈ news, u.oneCell' = true) :
    Calls Tryz.prog 43 #[.slice A n c, .int .i64 n, .slice (some ⟨vb, 0, none⟩) 1 1] w (InPost w base A n c xs news n) := by
  obtain ⟨i0, hi0, hz0, hz1, hz2⟩ := info_parts info51
  obtain ⟨A0, c0, e0, hc0, _⟩ := own_form hown
  injection e0 with e1 e2 e3
  subst e1 e3
  have hxl : xs.length = n * 2 := hown.1
  have HF : Hid (∀ gd c' w', w'.ownsRow base 41 2 (.slice (some ⟨gd, 0, none⟩) (n + 1) c') (n + 1) (xs ++ news) → w.grownBy w' (Value.slice A n c).ownBlock →
      ((Value.slice (some ⟨gd, 0, none⟩) (n + 1) c').ownBlock = (Value.slice A n c).ownBlock ∨ (Value.slice (some ⟨gd, 0, none⟩) (n + 1) c').ownBlock = some w.heap.size) → InPost w base A n c xs news n (.returned (.slice (some ⟨gd, 0, none⟩) (n + 1) c')) w') :=
    Lib.hid fun gd c' w' g1 g2 g3 => ⟨gd, c', rfl, by rw [List.take_of_length_le (by omega), List.drop_of_length_le (by omega), List.append_nil]; exact g1, g2, g3⟩
  have hsv : SV w (vb + 1) (some ⟨vb, 0, none⟩) news := .inr ⟨vb, 0, rfl, by omega, fun j u hu => by rw [Nat.zero_add]; exact hvb j u hu⟩
  generalize InPost w base A n c xs news n = R at *
  have h63 : n + 1 ≤ maxLen := by unfold maxLen; omega
  have hby : (n + 1) * 24 ≤ 140737488355328 := by omega
  clear hvb hxl
  have hfin : ∀ (A' : Option Addr) (c' : Nat) (w' : World), w'.ownsRow base 41 2 (.slice A' (n + 1) c') (n + 1) (xs ++ news) → ∃ gd, A' = some ⟨gd, 0, none⟩ := fun A' c' w' h => by
    obtain ⟨g, cur, e, _⟩ := own_blk h (by omega)
    exact ⟨g, e⟩
  have HFI := Lib.hid hfin
  clear hfin
  rcases A with _ | ⟨ab, ao, asp⟩
  · have hn0 : n = 0 ∧ c = 0 := by
      obtain ⟨_, ⟨h2, h3⟩ | ⟨g, cap, cur, h2, _⟩⟩ := hown
      · injection h2 with _ h4 h5; exact ⟨h4, h5⟩
      · cases h2
    obtain ⟨rfl, rfl⟩ := hn0
    go_enter Tryz.func43, Tryz.ntmps43
    go_wp2_with (first | (at_builtin; refine wpList_appNo _ rfl (.tmp 23) (.tmp 24) 25 rfl base 41 i0 _ 2 24 Tryz.underlying25 hi0 hz0 hz1 hz2 rfl (by decide) none 0 0 xs rfl hown (vb + 1) (some ⟨vb, 0, none⟩) 1 1 news rfl (by omega) hsv h1 h63 hby hbase ?_))
    intro A' c' w' hown' hg' _ hob'
    obtain ⟨gd, rfl⟩ := HFI.out _ _ _ hown'
    have HR := Lib.hid (HF.out _ _ _ hown' hg' hob')
    clear hown' hg' hob'
    go_wp2_with fail
    exact HR.out
  · by_cases hcn : c = n
    all_goals
      first | subst hcn | (have hcn' : n < c := by omega)
      go_enter Tryz.func43, Tryz.ntmps43
      go_wp2_with (first | (at_builtin; refine wpList_appNo _ rfl (.tmp 23) (.tmp 24) 25 rfl base 41 i0 _ 2 24 Tryz.underlying25 hi0 hz0 hz1 hz2 rfl (by decide) (some ⟨ab, ao, asp⟩) _ _ xs rfl hown (vb + 1) (some ⟨vb, 0, none⟩) 1 1 news rfl (by omega) hsv h1 h63 hby hbase ?_))
      intro A' c' w' hown' hg' _ hob'
      obtain ⟨gd, rfl⟩ := HFI.out _ _ _ hown'
      have HR := Lib.hid (HF.out _ _ _ hown' hg' hob')
      clear hown' hg' hob'
      go_wp2_with fail
      exact HR.out

set_option maxRecDepth 100000 in
set_option maxHeartbeats 8000000 in
theorem insert_room (w : World) (base g n c i : Nat) (xs news : List Value) (vb : Nat) (nv : Array Value) (cur : Array Value) (hb : Blk w g 41 cur) (hg : base ≤ g) (hroom : n + 1 ≤ c) (hm : c ≤ maxLen) (hcs : cur.size = c * 2) (hx : cur.toList.take (n * 2) = xs) (hi : i < n) (hl : n ≤ 1000000)
    (hvb : Blk w vb 41 nv) (hnv : nv.toList = news) (hne : vb ≠ g) (hnl : news.length = 2) (h1 : ∀ u ∈ news, u.oneCell' = true) (hx1 : ∀ u ∈ xs, u.oneCell' = true) :
    Calls Tryz.prog 43 #[.slice (some ⟨g, 0, none⟩) n c, .int .i64 i, .slice (some ⟨vb, 0, none⟩) 1 1] w (InPost w base (some ⟨g, 0, none⟩) n c xs news i) := by
  obtain ⟨i0, hi0, hz0, hz1, hz2⟩ := info_parts info51
  have hxl : xs.length = n * 2 := by rw [← hx, List.length_take]; simp; omega
  have hcl : cur.toList.length = c * 2 := by simpa using hcs
  have hnvs : ∀ (w' : World), Blk w' vb 41 nv → ∀ j u, news[j]? = some u → w'.cell? ((⟨vb, 0, none⟩ : Addr).add j) = some u := fun w' hb' j u hu => by
    rw [add_none, Nat.zero_add, hb'.cell j, ← Array.getElem?_toList, hnv]; exact hu
  have HF : Hid (∀ (c2 : Array Value) (w' : World), c2.toList = (cur.toList.take (i * 2 + 2) ++ xs.drop (i * 2) ++ cur.toList.drop (i * 2 + 2 + (xs.drop (i * 2)).length)).take (i * 2) ++ news ++ (cur.toList.take (i * 2 + 2) ++ xs.drop (i * 2) ++ cur.toList.drop (i * 2 + 2 + (xs.drop (i * 2)).length)).drop (i * 2 + 2) →
      Blk w' g 41 c2 → w.grownBy w' (some g) → InPost w base (some ⟨g, 0, none⟩) n c xs news i (.returned (.slice (some ⟨g, 0, none⟩) (n + 1) c)) w') := Lib.hid fun c2 w' e2 hb2 hg2 => by
    have hil := ins_list (cur := cur.toList) (xs := xs) (news := news) (p := i * 2) (by rw [hxl]; exact hx) (by omega) (by omega)
    rw [hnl] at hil
    refine ⟨g, c, rfl, own_of_blk hb2 hg hroom hm ?_ ?_, hg2, .inl rfl⟩
    · have := congrArg List.length e2
      simp only [Array.length_toList, List.length_append, List.length_take, List.length_drop, hcl, hxl, hnl] at this
      rw [this]; omega
    · rw [e2, ← hil]; congr 1; omega
  have hsrc1 : ∀ j v, (xs.drop (i * 2))[j]? = some v → w.cell? ((⟨g, i * 2, none⟩ : Addr).add j) = some v := fun j v hj => by
    rw [add_none, hb.cell, ← Array.getElem?_toList]
    rw [List.getElem?_drop, ← hx, List.getElem?_take] at hj
    split at hj
    · exact hj
    · cases hj
  have hdl : (xs.drop (i * 2)).length = (n - i) * 2 := by rw [List.length_drop, hxl]; omega
  have hd1 : ∀ u ∈ xs.drop (i * 2), u.oneCell' = true := fun u hu => hx1 u (List.mem_of_mem_drop hu)
  have hov : ∀ lb cb, (callFunc 70 #[.slice (some ⟨vb, 0, none⟩) 1 1, .slice (some ⟨g, (i + 1) * 2, none⟩) lb cb]).run Tryz.prog w = .ok (.value (.bool false)) w := fun lb cb => overlaps_no w vb g nv cur hvb hb hne (by omega) 1 1 _ lb cb
  have hfit : (i + 1) * 2 + (xs.drop (i * 2)).length ≤ cur.size := by rw [hdl, hcs]; omega
  have hn1 : (xs.drop (i * 2)).length = Nat.min (n + 1 - i) (n + 1 - (i + 1)) * 2 := by
    rw [hdl]; congr 1; simp only [Nat.min_def]; split <;> omega
  unfold maxLen at hm
  have hw1 : IntKind.i64.wrap ((i : Int) + 1) = (i : Int) + 1 := by rw [IntKind.wrap_i64]; omega
  have hb1 : (0 : Int) ≤ (i : Int) + 1 := by omega
  have htn : ((i : Int) + 1).toNat = i + 1 := by omega
  have hbi : (i : Int) ≤ n := by omega
  have hb3 : (i : Int) ≤ (n : Int) + 1 := by omega
  have hz2' : ((i : Int) == (n : Int)) = false := by simp; omega
  have hz3 : ¬ (c : Int) < (n : Int) + 1 := by omega
  have hci : ¬ (c = i) := by omega
  have hci1 : ¬ (c = i + 1) := by omega
  have HD := Lib.hid hdl
  have HX := Lib.hid hxl
  have HN := Lib.hid hnl
  have HC := Lib.hid hcl
  clear hdl hxl hcl hx hx1 hnl
  generalize InPost w base (some ⟨g, 0, none⟩) n c xs news i = R at *
  go_enter Tryz.func43, Tryz.ntmps43
  go_wp2_with (simp only [hov])
  go_region_law
    (refine step_copy_into _ rfl (.tmp 73) (.tmp 76) 25 25 rfl 41 i0 2 Tryz.underlying25 hi0 hz1 g ((i + 1) * 2) (n + 1 - (i + 1)) (c - (i + 1)) (by simp [Act.eval, Act.put]) ⟨g, i * 2, none⟩ (n + 1 - i) (c - i) (by simp [Act.eval, Act.put]) cur 41 (xs.drop (i * 2)) hb hn1 hsrc1 hfit hd1 ?_; intro w2 hb2 hg2 hz2)
  all_goals
    have hv2 := hvb.drew.grown hg2 (fun e => hne (by simpa using e))
    have hsz2 : i * 2 + news.length ≤ (spl cur ((i + 1) * 2) (xs.drop (i * 2))).size := by
      rw [HN.out]; simp only [spl, List.size_toArray, List.length_append, List.length_take, List.length_drop, HC.out]; omega
    have hn2 : news.length = Nat.min 1 (n + 1 - i) * 2 := by
      rw [HN.out, show Nat.min 1 (n + 1 - i) = 1 by simp only [Nat.min_def]; split <;> omega]
    have hs2 := hnvs w2 hv2
    have HB2 : Hid (∀ w', Blk w' g 41 (spl (spl cur ((i + 1) * 2) (xs.drop (i * 2))) (i * 2) news) →
        w2.grownBy w' (some g) → R (.returned (.slice (some ⟨g, 0, none⟩) (n + 1) c)) w') := Lib.hid fun w' h2 h3 => by
      refine HF.out _ w' ?_ h2 ⟨h3.os.trans hg2.os, h3.tape.trans hg2.tape, h3.output.trans hg2.output, Nat.le_trans hg2.size h3.size, fun b hb hk => (h3.block b (Nat.lt_of_lt_of_le hb hg2.size) hk).trans (hg2.block b hb hk)⟩
      simp only [spl]
      rw [HN.out, show (i + 1) * 2 = i * 2 + 2 by omega]
    generalize hcu : spl cur ((i + 1) * 2) (xs.drop (i * 2)) = cur2 at *
    clear hcu hsrc1 hd1 hn1 hfit hov hnvs hv2 hg2 HF
    go_wp2_with (first | (with_reducible refine wpList_copy_into _ rfl (.tmp 80) (.tmp 81) 25 25 rfl 41 i0 2 Tryz.underlying25 hi0 hz1 g (i * 2) (n + 1 - i) (c - i) rfl ⟨vb, 0, none⟩ 1 1 rfl cur2 41 news hb2 hn2 hs2 hsz2 h1 ?_))
    intro w3 hb3' hg3 hz3'
    have HR := Lib.hid (HB2.out w3 hb3' hg3)
    clear hb3' hg3 hz3'
    go_wp2_with fail
    exact HR.out
set_option maxRecDepth 100000 in
set_option maxHeartbeats 8000000 in
theorem insert_grow (w : World) (base g n i : Nat) (xs news : List Value) (vb : Nat) (nv : Array Value) (cur : Array Value) (hb : Blk w g 41 cur) (hbase : base ≤ w.heap.size) (hcs : cur.size = n * 2) (hx : cur.toList.take (n * 2) = xs) (hi : i < n) (hl : n ≤ 1000000)
    (hvb : Blk w vb 41 nv) (hnv : nv.toList = news) (hnl : news.length = 2) (h1 : ∀ u ∈ news, u.oneCell' = true) (hx1 : ∀ u ∈ xs, u.oneCell' = true) :
    Calls Tryz.prog 43 #[.slice (some ⟨g, 0, none⟩) n n, .int .i64 i, .slice (some ⟨vb, 0, none⟩) 1 1] w (InPost w base (some ⟨g, 0, none⟩) n n xs news i) := by
  obtain ⟨i0, hi0, hz0, hz1, hz2⟩ := info_parts info51
  have hxl : xs.length = n * 2 := by rw [← hx, List.length_take]; simp; omega
  have hxg : ∀ j u, xs[j]? = some u → w.cell? ⟨g, j, none⟩ = some u := fun j u hu => by
    rw [hb.cell, ← Array.getElem?_toList]
    rw [← hx, List.getElem?_take] at hu
    split at hu
    · exact hu
    · cases hu
  have hnvs : ∀ (w' : World), Blk w' vb 41 nv → ∀ j u, news[j]? = some u → w'.cell? ((⟨vb, 0, none⟩ : Addr).add j) = some u := fun w' hb' j u hu => by
    rw [add_none, Nat.zero_add, hb'.cell j, ← Array.getElem?_toList, hnv]; exact hu
  have hxs : ∀ (w' : World), Blk w' g 41 cur → ∀ j u, (xs.drop (i * 2))[j]? = some u → w'.cell? ((⟨g, i * 2, none⟩ : Addr).add j) = some u := fun w' hb' j u hu => by
    rw [add_none, hb'.cell, ← Array.getElem?_toList]
    rw [List.getElem?_drop, ← hx, List.getElem?_take] at hu
    split at hu
    · exact hu
    · cases hu
  have hol : (xs.take (i * 2)).length = i * 2 := by rw [List.length_take, hxl]; omega
  have hos : ∀ j v, (xs.take (i * 2))[j]? = some v → w.cell? ((⟨g, 0, none⟩ : Addr).add j) = some v := fun j v hj => by
    rw [add_none, Nat.zero_add]
    rw [List.getElem?_take] at hj
    split at hj
    · exact hxg j v hj
    · cases hj
  have hkk : (n : Int) + 1 - (i : Int) = ((n + 1 - i : Nat) : Int) := by omega
  have hik : i + (n + 1 - i) = n + 1 := by omega
  have hdl : (xs.drop (i * 2)).length = (n - i) * 2 := by rw [List.length_drop, hxl]; omega
  have hd1 : ∀ u ∈ xs.drop (i * 2), u.oneCell' = true := fun u hu => hx1 u (List.mem_of_mem_drop hu)
  have hn1 : news.length = Nat.min 1 (n + 1 - i) * 2 := by rw [hnl, show Nat.min 1 (n + 1 - i) = 1 by simp only [Nat.min_def]; split <;> omega]
  have hn2 : (xs.drop (i * 2)).length = Nat.min (n - i) (n + 1 - (i + 1)) * 2 := by
    rw [hdl]; congr 1; simp only [Nat.min_def]; split <;> omega
  have HF : Hid (∀ (q : Nat) (row : Array Value) (w' : World), n + 1 ≤ q → q ≤ 9223372036854775807 → row.size = q * 2 → row.toList.take (i * 2) = xs.take (i * 2) → Blk w' w.heap.size 41 (spl (spl row (i * 2) news) ((i + 1) * 2) (xs.drop (i * 2))) → w.grownBy w' none → 
      InPost w base (some ⟨g, 0, none⟩) n n xs news i (.returned (.slice (some ⟨w.heap.size, 0, none⟩) (n + 1) q)) w') := Lib.hid fun q row w' h2 h3 h4 h5 h6 h7 => by
    have hrl : row.toList.length = q * 2 := by simpa using h4
    have hil := ins_list2 (cur := row.toList) (xs := xs) (news := news) (p := i * 2) h5 (by omega) (by omega)
    rw [hnl] at hil
    refine ⟨w.heap.size, q, rfl, own_of_blk h6 hbase h2 (by unfold maxLen; omega) ?_ ?_, ⟨h7.os, h7.tape, h7.output, h7.size, fun b hb _ => h7.block b hb (by simp)⟩, .inr rfl⟩
    · simp only [spl, List.size_toArray, List.length_append, List.length_take, List.length_drop, hrl, hxl, hnl]; omega
    · simp only [spl, hnl]
      rw [show (i + 1) * 2 = i * 2 + 2 by omega, ← hil]
      congr 1
      omega
  have hw1 : IntKind.i64.wrap ((i : Int) + 1) = (i : Int) + 1 := by rw [IntKind.wrap_i64]; omega
  have hb1 : (0 : Int) ≤ (i : Int) + 1 := by omega
  have htn : ((i : Int) + 1).toNat = i + 1 := by omega
  have hbi : (i : Int) ≤ n := by omega
  have hz2' : ((i : Int) == (n : Int)) = false := by simp; omega
  have hz3 : (n : Int) < (n : Int) + 1 := by omega
  have hci : ¬ (n = i) := by omega
  have hgw := hb.lt
  have hvw := hvb.lt
  have hsum : i ≤ n + 1 := by omega
  have HN := Lib.hid hnl
  have HX := Lib.hid hxl
  have HD := Lib.hid hdl
  have HKK := Lib.hid hkk
  have HIK := Lib.hid hik
  clear hdl hxl hcs hx hx1 hnl hxg hkk hik
  generalize InPost w base (some ⟨g, 0, none⟩) n n xs news i = R at *
  go_enter Tryz.func43, Tryz.ntmps43
  go_wp2_with (first | (at_builtin; refine wpList_app_zeros _ rfl (.tmp 34) (.tmp 39) 25 3 rfl 41 i0 _ .i64 2 24 Tryz.underlying25 Tryz.underlying3 hi0 hz0 hz1 hz2 rfl (by decide) ⟨g, 0, none⟩ i n (xs.take (i * 2)) rfl hol hos .i64 (n + 1 - i) (congrArg (Value.int .i64) HKK.out) ?c1 ?c2 ?c3 ?c4 ?c5 ?_))
  case c1 => omega
  case c2 => omega
  case c3 => omega
  case c4 => omega
  case c5 => omega
  intro q row w2 hq1 hq2 hrs hrt hrb hg2 hsz2
  have hv2 := hvb.grown hg2 (by simp)
  have hb2 := hb.grown hg2 (by simp)
  have hs2 := hnvs w2 hv2
  have hfit2 : i * 2 + news.length ≤ row.size := by rw [HN.out, hrs]; omega
  have hqi : ¬ (q = i) := by omega
  have hqi1 : ¬ (q = i + 1) := by omega
  have hle1 : (i : Int) ≤ (n : Int) + 1 := by omega
  have HF2 := Lib.hid (fun w' h6 h7 => HF.out q row w' hq1 hq2 hrs hrt h6 h7)
  have hrs2 := Lib.hid hrs
  clear hrs hrt hos HF
  go_wp2_with (first | (with_reducible refine wpList_copy_into _ rfl (.tmp 43) (.tmp 44) 25 25 rfl 41 i0 2 Tryz.underlying25 hi0 hz1 w.heap.size (i * 2) (n + 1 - i) (q - i) rfl ⟨vb, 0, none⟩ 1 1 rfl row 41 news hrb hn1 hs2 hfit2 h1 ?_))
  intro w3 hb3' hg3 hz3'
  have hne3 : some g ≠ some w.heap.size := by simp; omega
  have hb3 := hb2.grown hg3 hne3
  have hs3 := hxs w3.drew hb3.drew
  have hfit3 : (i + 1) * 2 + (xs.drop (i * 2)).length ≤ (spl row (i * 2) news).size := by
    rw [HD.out]; simp only [spl, List.size_toArray, List.length_append, List.length_take, List.length_drop, Array.length_toList, HN.out, hrs2.out]; omega
  have HF3 : Hid (∀ w', Blk w' w.heap.size 41 (spl (spl row (i * 2) news) ((i + 1) * 2) (xs.drop (i * 2))) → w3.drew.grownBy w' (some w.heap.size) → R (.returned (.slice (some ⟨w.heap.size, 0, none⟩) (n + 1) q)) w') := Lib.hid fun w' h6 h7 =>
    HF2.out w' h6 ⟨h7.os.trans (hg3.os.trans hg2.os), h7.tape.trans (hg3.tape.trans hg2.tape), h7.output.trans (hg3.output.trans hg2.output), Nat.le_trans hg2.size (Nat.le_trans hg3.size h7.size), fun k hk _ => by
      have hk2 := Nat.lt_of_lt_of_le hk hg2.size
      have hne : some k ≠ some w.heap.size := by simp; omega
      exact (h7.block k (Nat.lt_of_lt_of_le hk2 hg3.size) hne).trans ((hg3.block k hk2 hne).trans (hg2.block k hk (by simp)))⟩
  generalize hcu : spl row (i * 2) news = cur2 at *
  clear hcu HF2 hs2 hfit2 hrb hv2 hb2 hnvs hxs hg2 hg3 hb3
  go_wp2_with fail
  go_region_law
    (refine step_copy_into _ rfl (.tmp 50) (.tmp 53) 25 25 rfl 41 i0 2 Tryz.underlying25 hi0 hz1 w.heap.size ((i + 1) * 2) (n + 1 - (i + 1)) (q - (i + 1)) (by simp [Act.eval, Act.put]) ⟨g, i * 2, none⟩ (n - i) (n - i) (by simp [Act.eval, Act.put]) cur2 41 (xs.drop (i * 2)) hb3'.drew hn2 hs3 hfit3 hd1 ?_; intro w4 hb4' hg4 hz4'; have HR := Lib.hid (HF3.out w4 hb4' hg4); clear hb4' hg4 hz4')
  all_goals
    go_wp2_with fail
    exact HR.out
end Go.Proofs.YtipjejnncnndeaaGreatDoor.RF
