/-
  PackDetectsChange: the law's walk.
-/
import Derived.Test.YtiilhnfdlpgllaaPk12
import Derived.Test.YtiilhnfdlpgllaaPk14
import Derived.Test.YtiilhnfdlpgllaaOb14
namespace Go.Proofs.Ytiilhnfdlpgllaa
open Go.RowKit Go.V
set_option linter.unusedVariables false

/-- A byte of an owned row is set. -/
theorem own_byte {w : World} {base g c : Nat} {cur : Array Value} {l : List UInt8} (hb : Blk w g 5 cur) (hx : cur.toList.take (l.length * 1) = bytesV l) (i : Nat) (hi : i < l.length) (x : UInt8) (V : Int) (hV : V = (x.toNat : Int)) :
    w.cell? ⟨g, i, none⟩ = some (.int .u8 l[i].toNat) ∧ SA (w.setCell ⟨g, i, none⟩ (.int .u8 V)) Free (some ⟨g, 0, none⟩) (bytesV (l.set i x)) := by
  subst hV
  rw [Nat.mul_one] at hx
  constructor
  · rw [hb.cell i]
    have h1 : (cur.toList.take l.length)[i]? = (bytesV l)[i]? := by rw [hx]
    rw [List.getElem?_take_of_lt hi] at h1
    rw [← Array.getElem?_toList, h1]
    unfold bytesV; simp [hi]
  · have h2 := (SA.of_blk (X := Free) (hb.set_ i (.int .u8 x.toNat)) (fun h => h.elim)).take l.length
    have e : ((cur.setIfInBounds i (.int .u8 x.toNat)).toList).take l.length = bytesV (l.set i x) := by
      rw [Array.toList_setIfInBounds, List.take_set, hx]
      unfold bytesV
      rw [List.map_set]
    rwa [e] at h2
set_option maxRecDepth 100000 in
set_option maxHeartbeats 1000000 in
theorem law4_any (w : World) (A : Option Addr) (k : Nat) (s : List Ob.S) (at_ by_ : Int) (hv : StV w Free A s) (hl64 : s.length ≤ 9223372036854775807) :
    Calls Try.prog 4 #[stV A s.length k, .int .i64 at_, .int .i64 by_] w fun e w' => e = .returned (.bool true) ∧ Below w.heap.size w w' := by
  obtain ⟨i0, hI0, hZ0, hZ1, hZ2⟩ := info_parts info5
  have HC15 := Lib.hid (fun (w1 : World) (hb : Below w.heap.size w w1) => build_all w1 A k s (hv.keep (free_below hb)) hl64)
  have hb0 : Below w.heap.size w w := Below.refl _ _
  clear hv
  go_enter Try.func4, Try.ntmps4
  have bx := Blk.new w 24 #[.slice A s.length k]
  have wB0a0 := hb0.alloc hb0.size (.cells #[.slice A s.length k] 24)
  go_wp2_with fail
  go_at_call 14
  refine (example_any _).mono ?_
  rintro e w1 ⟨rfl, hb1'⟩
  have wB1 := wB0a0.trans (hb1'.mono wB0a0.size)
  replace bx := bx.below hb1' bx.lt
  have bx_l : w.heap.size < w1.heap.size := bx.lt
  have bx_l2 : w.heap.size < w1.heap.size + 1 + 1 := Nat.lt_succ_of_lt (Nat.lt_succ_of_lt bx_l)
  have bx_0 : w1.cell? ⟨w.heap.size, 0, none⟩ = some (.slice A s.length k) := (bx.cell 0).trans rfl
  clear hb1'
  go_wp2_with fail
  go_at_call 15
  refine (HC15.out _ wB1).mono ?_
  rintro e w2 ⟨hb2', hres⟩
  have wB2 := wB1.trans (hb2'.mono wB1.size)
  replace bx := bx.below hb2' bx.lt
  clear bx_0 bx_l bx_l2
  have bx_l : w.heap.size < w2.heap.size := bx.lt
  have bx_l2 : w.heap.size < w2.heap.size + 1 + 1 := Nat.lt_succ_of_lt (Nat.lt_succ_of_lt bx_l)
  have bx_0 : w2.cell? ⟨w.heap.size, 0, none⟩ = some (.slice A s.length k) := (bx.cell 0).trans rfl
  clear hb2'
  rcases hres with ⟨hne, rfl⟩ | ⟨hok, hbig, rfl⟩ | ⟨hok, hsm, A2, c2, rfl, hc2, hs2⟩
  · have hx1 : ((Ob.stF s).1 == 0) = false := by simpa using hne
    have hx2 : ((Ob.stF s).1 != 0) = true := by simpa using hne
    clear HC15 hne
    generalize Ob.stF s = r at *
    obtain ⟨cd, ix⟩ := r
    simp only at hx1 hx2 ⊢
    replace bx := bx.alloc (.cells #[.int .i64 cd, .int .i64 ix] 28)
    have f := Blk.new w2 28 #[.int .i64 cd, .int .i64 ix]
    have wB2a0 := wB2.alloc wB2.size (.cells #[.int .i64 cd, .int .i64 ix] 28)
    go_wp2_with fail
    go_ret
    exact ⟨by simp, wB2a0⟩
  · clear HC15 hok hbig
    replace bx := bx.alloc (.cells #[.int .i64 10, .int .i64 (-1)] 28)
    have f := Blk.new w2 28 #[.int .i64 10, .int .i64 (-1)]
    have wB2a0 := wB2.alloc wB2.size (.cells #[.int .i64 10, .int .i64 (-1)] 28)
    go_wp2_with fail
    go_ret
    exact ⟨by simp, wB2a0⟩
  · obtain ⟨n, hn⟩ : ∃ n, (packB s).length = n + 8 := ⟨(body s).length, packB_length s⟩
    have h3 : 3 ≤ n := by
      have h1 := packB_length s
      have h2 : 3 ≤ (body s).length := by unfold body hd3; simp
      omega
    have HBK := Lib.hid (pack_broken s)
    have HS := Lib.hid (hs2.mono (X' := Free) (fun _ h => h.elim))
    clear HC15 hok hs2
    generalize packB s = pb at *
    rw [hn] at hsm hc2 ⊢
    have hq0 : ((0 : Int) != 0) = false := rfl
    have q0 : Below (w2).heap.size (w2) (w2) := Below.refl _ _
    replace bx := bx.alloc (.cells #[.int .i64 0, .int .i64 0] 28)
    have f := Blk.new w2 28 #[.int .i64 0, .int .i64 0]
    have wB2a0 := wB2.alloc wB2.size (.cells #[.int .i64 0, .int .i64 0] 28)
    have q0B2a0 := q0.alloc q0.size (.cells #[.int .i64 0, .int .i64 0] 28)
    by_cases hin : 0 ≤ at_ ∧ at_ ≤ (n : Int) + 8 - 1
    · have hib : (decide (0 ≤ at_) && decide (at_ ≤ (n : Int) + 8 - 1)) = true := by simp; omega
      have HI := Lib.hid (fun w1 => in_any w1 at_ 0 ((n : Int) + 8 - 1))
      rw [hib] at HI
      by_cases hbn : 1 ≤ by_ ∧ by_ ≤ 255
      · have hbb : (decide (1 ≤ by_) && decide (by_ ≤ 255)) = true := by simp; omega
        have HJ := Lib.hid (fun w1 => in_any w1 by_ 1 255)
        rw [hbb] at HJ
        obtain ⟨i, rfl⟩ : ∃ i : Nat, at_ = i := ⟨at_.toNat, by omega⟩
        have hil : i < pb.length := by omega
        have hil8 : (i : Int) < (n : Int) + 8 := by omega
        have hi0 : (0 : Int) ≤ i := by omega
        have hbt := pb[i].toNat_lt
        have hx := byte_ne pb[i] by_ hbn.1 hbn.2
        have hbrk := HBK.out i hil _ hx
        obtain ⟨x, hxd⟩ : ∃ x, x = UInt8.ofNat (((pb[i].toNat : Int) + by_) % 256).toNat := ⟨_, rfl⟩
        rw [← hxd] at hbrk
        have hxv : (x.toNat : Int) = ((pb[i].toNat : Int) + by_) % 256 := by rw [hxd]; simp; omega
        clear hib hbb HBK hx hxd
        have hsv := (HS.out.keep (free_below q0B2a0)).sv
        go_wp2_with (first | (go_at_call 19; (first | (with_reducible refine (HI.out _).mono ?_) | (with_reducible refine (HJ.out _).mono ?_)); rintro e w9 ⟨rfl, rfl⟩) | (at_builtin; refine wpList_appNo _ rfl (.const (.slice none 0 0)) (.tmp 43) 26 rfl (w2.alloc (.cells #[.int .i64 0, .int .i64 0] 28)).heap.size 5 i0 _ 1 1 Try.underlying26 hI0 hZ0 hZ1 hZ2 rfl (by decide) none 0 0 [] rfl (World.ownsRow_nil _ _ _ _) _ A2 (n + 8) c2 (bytesV pb) rfl (by simp [hn]) hsv (by intro u hu; unfold bytesV at hu; simp at hu; obtain ⟨z, _, rfl⟩ := hu; rfl) ?ha ?hb ?hc ?_))
        case ha => unfold maxLen; omega
        case hb => omega
        case hc => exact Nat.le_refl _
        intro A4 c4 w4 hown4 hg4 hc4 _
        have hc4' : n + 8 ≤ c4 := by omega
        obtain ⟨g, cur, rfl, _, hgB, hblk, _, _, _, hcur⟩ := own_blk hown4 (by omega)
        have B4 := wB2a0.grown hg4 wB2a0.size (fun k hk => by cases hk)
        rw [← hn] at hcur
        have hcell := (own_byte (base := 0) (c := 0) hblk hcur i hil x _ rfl).1
        have HSA := Lib.hid (fun V hV => (own_byte (base := 0) (c := 0) hblk hcur i hil x V hV).2)
        have hfz := hblk.frozen i
        have hglt := hblk.lt
        have hpl : (pb.set i x).length = n + 8 := by simp [hn]
        have hgw : w.heap.size ≤ g := by have := wB2.size; omega
        generalize pb[i].toNat = bt at *
        clear hown4 hg4 hblk hcur hsv HS HI HJ
        have hm0 : (0 : Int) ≤ (bt : Int) + by_ := by omega
        go_wp2_with fail
        go_at_call 20
        refine (Read_broken _ _ _ n (pb.set i x) (HSA.out _ (by first | (rw [hxv]; done) | (rw [hxv]; omega))) hpl h3 (by omega) hc4' hbrk).mono ?_
        rintro e w5 ⟨rfl, hb5⟩
        have B5 := (B4.setCell (p := ⟨g, i, none⟩) hgw _).trans (hb5.mono (B4.setCell (p := ⟨g, i, none⟩) hgw _).size)
        clear hb5 B4 hcell hfz HSA hbrk
    
        have xs := Blk.new w5 24 #[.slice none 0 0]
        have wB5a0 := B5.alloc B5.size (.cells #[.slice none 0 0] 24)
        replace xs := xs.alloc (.cells #[.int .i64 18, .int .i64 0] 28)
        have fs : Blk ((w5.alloc (.cells #[.slice none 0 0] 24)).alloc (.cells #[.int .i64 18, .int .i64 0] 28)) (w5.heap.size + 1) 28 #[.int .i64 18, .int .i64 0] := by simpa using Blk.new (w5.alloc (.cells #[.slice none 0 0] 24)) 28 #[.int .i64 18, .int .i64 0]
        have wB5a1 := wB5a0.alloc wB5a0.size (.cells #[.int .i64 18, .int .i64 0] 28)
        have xs_l := xs.lt
        have fs_l := fs.lt
        have xs_0 := (xs.cell 0).trans (rfl : _ = some (Value.slice none 0 0))
        have fs_0 := (fs.cell 0).trans (rfl : _ = some (Value.int .i64 18))
        have fs_1 := (fs.cell 1).trans (rfl : _ = some (Value.int .i64 0))
        have hk0 : Below ((w5.alloc (.cells #[.slice none 0 0] 24)).alloc (.cells #[.int .i64 18, .int .i64 0] 28)).heap.size ((w5.alloc (.cells #[.slice none 0 0] 24)).alloc (.cells #[.int .i64 18, .int .i64 0] 28)) ((w5.alloc (.cells #[.slice none 0 0] 24)).alloc (.cells #[.int .i64 18, .int .i64 0] 28)).drew := below_drew' (Below.refl _ _)
        have HK : Hid (∀ w6 : World, Below ((w5.alloc (.cells #[.slice none 0 0] 24)).alloc (.cells #[.int .i64 18, .int .i64 0] 28)).heap.size ((w5.alloc (.cells #[.slice none 0 0] 24)).alloc (.cells #[.int .i64 18, .int .i64 0] 28)) w6 → w6.cell? ⟨w5.heap.size, 0, none⟩ = some (.slice none 0 0) ∧ w6.cell? ⟨w5.heap.size + 1, 0, none⟩ = some (.int .i64 18) ∧ w6.cell? ⟨w5.heap.size + 1, 1, none⟩ = some (.int .i64 0)) := Lib.hid fun w6 h6 => ⟨(h6.cell (p := ⟨_, _, none⟩) xs_l).trans xs_0, (h6.cell (p := ⟨_, _, none⟩) fs_l).trans fs_0, (h6.cell (p := ⟨_, _, none⟩) fs_l).trans fs_1⟩
        clear xs_l fs_l xs_0 fs_0 fs_1 xs fs
        go_wp2_with fail
        go_region_held3 (fun w6 => w6.cell? ⟨w5.heap.size, 0, none⟩ = some (.slice none 0 0) ∧ w6.cell? ⟨w5.heap.size + 1, 0, none⟩ = some (.int .i64 18) ∧ w6.cell? ⟨w5.heap.size + 1, 1, none⟩ = some (.int .i64 0))
          (first | exact HK.out _ hk0 | exact HK.out _ hk1)
          (first | (go_at_call 18; (with_reducible refine (fault_b _ _ _).mono ?_); rintro e wz ⟨rfl, hz1⟩; have hk1 := hk0.trans (hz1.mono hk0.size)))
        go_wp2_with fail
        go_ret
        exact ⟨by simp, wB5a1.trans (hk1.mono wB5a1.size)⟩
      · have hbb : (decide (1 ≤ by_) && decide (by_ ≤ 255)) = false := by
          simp; omega
        have HJ := Lib.hid (fun w1 => in_any w1 by_ 1 255)
        rw [hbb] at HJ
        go_wp2_with (go_at_call 19; (first | (with_reducible refine (HI.out _).mono ?_) | (with_reducible refine (HJ.out _).mono ?_)); rintro e w9 ⟨rfl, rfl⟩)
        go_ret
        exact ⟨by simp, wB2a0⟩
    · have hib : (decide (0 ≤ at_) && decide (at_ ≤ (n : Int) + 8 - 1)) = false := by
        simp; omega
      have HI := Lib.hid (fun w1 => in_any w1 at_ 0 ((n : Int) + 8 - 1))
      rw [hib] at HI
      go_wp2_with (go_at_call 19; refine (HI.out _).mono ?_; rintro e w9 ⟨rfl, rfl⟩)
      go_ret
      exact ⟨by simp, wB2a0⟩
end Go.Proofs.Ytiilhnfdlpgllaa
