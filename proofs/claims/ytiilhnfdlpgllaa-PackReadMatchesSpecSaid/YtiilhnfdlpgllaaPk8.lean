/-
  Packs: walk of 'entry'.
-/
import Derived.Test.YtiilhnfdlpgllaaPk3
namespace Go.Proofs.Ytiilhnfdlpgllaa
open Go.RowKit Go.V
set_option linter.unusedVariables false

def hd4 (o : Ob.O) : List UInt8 := [UInt8.ofNat o.kind.toNat, UInt8.ofNat o.links.length, UInt8.ofNat (o.data.length / 256), UInt8.ofNat o.data.length]
/-- The entry of an object in a pack. -/
def Ob.ent (o : Ob.O) : List UInt8 := hd4 o ++ Ob.lnB o.links o.links.length ++ o.data
theorem Ob.ent_length (o : Ob.O) : (Ob.ent o).length = 4 + 8 * o.links.length + o.data.length := by simp [Ob.ent, hd4]; omega
theorem ent_eq (o : Ob.O) : Ob.ent o = hd4 o ++ Ob.lnB o.links o.links.length ++ o.data := rfl
theorem hd4_cells {o : Ob.O} (ho : Ob.Ok o) : bytesV (hd4 o) = [.int .u8 o.kind, .int .u8 (o.links.length : Int), .int .u8 ((o.data.length : Int) / 256), .int .u8 ((o.data.length : Int) % 256)] := by
  have h1 := ho.lo
  have h2 := ho.hi
  have h3 := ho.ln
  obtain ⟨k, hk⟩ := Int.eq_ofNat_of_zero_le (show 0 ≤ o.kind by omega)
  simp only [hd4, bytesV, List.map_cons, List.map_nil, u8_int]
  rw [hk, Int.toNat_natCast]
  have e1 : (k : Int) % 256 = k := by omega
  have e2 : (o.links.length : Int) % 256 = o.links.length := by omega
  have h4 := ho.dn
  have e3 : ((o.data.length / 256 : Nat) : Int) % 256 = (o.data.length : Int) / 256 := by omega
  rw [e1, e2, e3]
/-- The state of the loop of 'Bytes'. -/
structure EnSt (w wr : World) (o : Ob.O) (Al : Option Addr) (kl : Nat) (Ad : Option Addr) (kd : Nat) (j : Nat) (A : Option Addr) (c : Nat) : Prop where
  own : wr.ownsRow (w.heap.size + 1) 5 1 (.slice A (4 + 8 * j) c) (4 + 8 * j) (bytesV (hd4 o ++ Ob.lnB o.links j))
  box : Blk wr w.heap.size 44 #[.int .i64 o.kind, .slice Al o.links.length kl, .slice Ad o.data.length kd]
  bel : Below w.heap.size w wr
set_option maxRecDepth 100000 in
set_option maxHeartbeats 8000000 in
theorem entry_any (w : World) (o : Ob.O) (Al : Option Addr) (kl : Nat) (Ad : Option Addr) (kd : Nat) (ho : ObA w Free o Al kl Ad kd) (hok : Ob.Ok o) :
    Calls Try.prog 51 #[obV o Al kl Ad kd] w (BtPost w (Ob.ent o)) := by
  obtain ⟨i0, hi0, hz0, hz1, hz2⟩ := info_parts info5
  have HL := Lib.hid (fun (w' : World) (hb : Below w.heap.size w w') => (ho.ls.keep (free_below hb)).sv)
  have HD := Lib.hid (fun (w' : World) (hb : Below w.heap.size w w') => (ho.ds.keep (free_below hb)).sv)
  have HALL := Lib.hid hok.all
  have hk1 := hok.lo
  have hk2 := hok.hi
  have hl30 := hok.ln
  have hl30' : (o.links.length : Int) ≤ 30 := by omega
  have hd1000 := hok.dn
  have HE := Lib.hid (ent_eq o)
  have HBL := Lib.hid (Ob.ent_length o)
  have HH := hd4_cells hok
  have st0 : EnSt w ((w.alloc (.cells #[.int .i64 o.kind, .slice Al o.links.length kl, .slice Ad o.data.length kd] 44)).alloc (.cells #[.int .u8 o.kind, .int .u8 (o.links.length : Int), .int .u8 ((o.data.length : Int) / 256), .int .u8 ((o.data.length : Int) % 256)] 5)) o Al kl Ad kd 0 (some ⟨w.heap.size + 1, 0, none⟩) 4 := by
    refine ⟨?_, (Blk.new _ _ _).alloc _, below_alloc2 _ _ _⟩
    have := World.ownsRow_lit (base := w.heap.size + 1) (size := 1) (e := 5) (w.alloc (.cells #[.int .i64 o.kind, .slice Al o.links.length kl, .slice Ad o.data.length kd] 44)) #[.int .u8 o.kind, .int .u8 (o.links.length : Int), .int .u8 ((o.data.length : Int) / 256), .int .u8 ((o.data.length : Int) % 256)] 4 (by simp) (by simp [maxLen]) rfl
    rw [Ob.lnB_zero, List.append_nil, HH]
    simpa using this
  clear ho hok HH
  obtain ⟨kk, ls, da⟩ := o
  simp only at *
  have hkm : kk % 256 = kk := by omega
  go_enter Try.func51, Try.ntmps51
  go_wp2_with fail
  go_loopw [3, 26] (fun vv jv wr => ∃ (j : Nat) (A : Option Addr) (c : Nat), j ≤ ls.length ∧ vv = .slice A (4 + 8 * j) c ∧ jv = .int .i64 j ∧ EnSt w wr ⟨kk, ls, da⟩ Al kl Ad kd j A c) (fun _ jv _ => ls.length - (intOf jv).toNat)
  case atStart => exact ⟨0, _, 4, Nat.zero_le _, rfl, rfl, st0⟩
  case round =>
    obtain ⟨j, A, c, hj, rfl, rfl, st⟩ := hrel
    obtain ⟨wo, rfl⟩ : ∃ wo : World, wo = wr := ⟨_, rfl⟩
    have hsz := st.bel.size
    have hbl := st.box.lt
    by_cases hlt : j < ls.length
    · have hlt' : (j : Int) < ls.length := by omega
      obtain ⟨b, off, e, hb, hc⟩ := (HL.out _ st.bel).int j hlt
      subst e
      obtain ⟨hr0, hr1⟩ := HALL.out j hlt
      obtain ⟨m, hm⟩ := Int.eq_ofNat_of_zero_le hr0
      have hs := Ob.lnB_succ ls j hlt
      rw [hm] at hc
      rw [hm, Int.toNat_natCast] at hs
      have HS := Lib.hid hs
      have hmb : m < 2305843009213693951 := by omega
      clear hm hs hr0 hr1
      go_wp2_with fail
      go_at_call 52
      refine (big_any wo m hmb).mono ?_
      rintro e w2 ⟨A2, c2, rfl, hc2, _, hown2, hb2⟩
      have hbw := st.bel.trans (hb2.mono hsz)
      have hown := st.own.kept (only_of_below hb2 none) (by cases hv : (Value.slice A (4 + 8 * j) c).ownBlock <;> simp)
      have hbox := st.box.below hb2 hbl
      have hz2' := hb2.size
      have hsv2 := SV.of_own hown2
      simp only [Ob.wide_length]
      rw [Ob.wide_length] at hc2
      clear st hown2 hb2
      go_wp2_with (first | (at_builtin; refine wpList_appNo _ rfl (.tmp 30) (.tmp 32) 26 rfl (w.heap.size + 1) 5 i0 _ 1 1 Try.underlying26 hi0 hz0 hz1 hz2 rfl (by decide) A (4 + 8 * j) c _ rfl hown _ A2 8 c2 _ rfl (by simp) hsv2 (bytesV_one _) ?ha ?hb ?hc ?_))
      case ha => simp [maxLen]; omega
      case hb => omega
      case hc => omega
      intro A' c' w' hown' hg hc' _
      have hbw' := hbw.grown hg hbw.size (fun k hk => by have := (hown.lt k hk).1; omega)
      have hbox' := hbox.grown hg (own_blk_ne hown hbox (by decide))
      have st2 : EnSt w w' ⟨kk, ls, da⟩ _ kl Ad kd (j + 1) A' c' := ⟨by rw [show 4 + 8 * (j + 1) = 4 + 8 * j + 8 by omega]; simp only [HS.out, bytesV_app, List.append_assoc] at hown' ⊢; exact hown', hbox', hbw'⟩
      clear hown' hown hg hsv2 hbw hbox
      go_wp2_with fail
      go_roundw
      case rel => exact ⟨j + 1, A', c', by omega, rfl, by go_num, st2⟩
      case measure => simp [intOf]; omega
    · obtain rfl : j = ls.length := by omega
      have hbx := st.box.cell 2
      simp only [List.getElem?_toArray, List.getElem?_cons_zero, List.getElem?_cons_succ] at hbx
      have hdv := HD.out _ st.bel
      have hown := st.own
      have hbel := st.bel
      clear st st0
      go_wp2_with (first | (at_builtin; refine wpList_appNo _ rfl (.tmp 35) (.tmp 37) 26 rfl (w.heap.size + 1) 5 i0 _ 1 1 Try.underlying26 hi0 hz0 hz1 hz2 rfl (by decide) A (4 + 8 * ls.length) c _ rfl hown _ Ad da.length kd _ rfl (by simp) hdv (bytesV_one _) ?hd ?he ?hf ?_))
      case hd => simp [maxLen]; omega
      case he => omega
      case hf => omega
      intro A' c' w' hown' hg hc' _
      have hbw' := hbel.grown hg hbel.size (fun k hk => by have := (hown.lt k hk).1; omega)
      have hown2 : w'.ownsRow (w.heap.size + 1) 5 1 (.slice A' (4 + 8 * ls.length + da.length) c') (4 + 8 * ls.length + da.length) (bytesV (Ob.ent ⟨kk, ls, da⟩)) := by
        rw [HE.out]; simp only [bytesV_app, List.append_assoc] at hown' ⊢; exact hown'
      have hm : c' ≤ maxLen := by
        obtain ⟨_, _, e, _, hm⟩ := own_form hown'
        injection e with _ _ e2
        rw [e2]; exact hm
      have hbn : (Ob.ent ⟨kk, ls, da⟩).length = 4 + 8 * ls.length + da.length := HBL.out
      clear hown hg
      go_wp2_with fail
      go_ret
      refine ⟨A', c', ret_eq (by rw [hbn]; rfl), by rw [hbn]; exact hc', hm, ?_, hbw'⟩
      rw [hbn]
      exact own_more hown2 (by omega)
end Go.Proofs.Ytiilhnfdlpgllaa
