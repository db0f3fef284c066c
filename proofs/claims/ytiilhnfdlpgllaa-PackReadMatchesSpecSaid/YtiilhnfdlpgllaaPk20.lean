/-
  Packs: walk of 'read', its loop.
-/
import Derived.Test.YtiilhnfdlpgllaaPk19
namespace Go.Proofs.Ytiilhnfdlpgllaa
open Go.RowKit Go.V
set_option linter.unusedVariables false

/-- 'Digest' of an object, whatever it is. -/
theorem digest_all (w : World) (o : Ob.O) (Al : Option Addr) (kl : Nat) (Ad : Option Addr) (kd : Nat) (ho : ObA w Free o Al kl Ad kd) :
    Calls Try.prog 29 #[obV o Al kl Ad kd] w fun e w' => Below w.heap.size w w' ∧ (((Ob.obF o).1 ≠ 0 ∧ e = .returned (.tuple #[.int .i64 0, .agg #[.int .i64 (Ob.obF o).1, .int .i64 (Ob.obF o).2]])) ∨ (Ob.Ok o ∧ e = .returned (.tuple #[.int .i64 ((Ob.dig o : Nat) : Int), .agg #[.int .i64 0, .int .i64 0]]))) := by
  by_cases h : (Ob.obF o).1 ≠ 0
  · exact (digest_bad w o Al kl Ad kd ho h).mono fun e w' ⟨h1, h2⟩ => ⟨h2, .inl ⟨h, h1⟩⟩
  · have hok := (Ob.obF_ok (by simpa using h)).2
    exact (digest_ok w o Al kl Ad kd ho hok).mono fun e w' ⟨h1, h2⟩ => ⟨h2, .inr ⟨hok, h1⟩⟩
theorem rdL_bad {tot c : Nat} {rest : List UInt8} {out : List Ob.S} {ix : List PE} (h : ¬ (Ob.isP rest ∧ (Ob.obF (Ob.obP rest)).1 = 0)) : rdL tot (c + 1) rest out ix = none := by rw [rdL, if_neg h]
theorem rdL_next {tot c : Nat} {rest : List UInt8} {out : List Ob.S} {ix : List PE} (h : Ob.isP rest) (h2 : (Ob.obF (Ob.obP rest)).1 = 0) :
    rdL tot (c + 1) rest out ix = rdL tot c (rest.drop (Ob.enL rest)) (out ++ [⟨Ob.dig (Ob.obP rest), Ob.obP rest⟩]) (ix ++ [⟨Ob.dig (Ob.obP rest), tot - rest.length, Ob.enL rest⟩]) := by rw [rdL, if_pos ⟨h, h2⟩]
/-- What is made of what the loop leaves. -/
def rdFin (b : List UInt8) : Option (List Ob.S × List PE) → List Ob.S × List PE × (Int × Int)
  | none => ([], [], (1, 0))
  | some (s, ix) => if (Ob.stF s).1 ≠ 0 ∨ packB s ≠ b then ([], [], (1, 0)) else (s, ix, (0, 0))
theorem readF_fin (n : Nat) (b : List UInt8) (hln : b.length = n + 8) (h3 : 3 ≤ n) (h4 : n + 8 ≤ 4096) (hbr : ¬ Broken b) : readF b = rdFin b (rdL n (Ob.bt b 2) ((b.take n).drop 3) [] []) := by
  unfold readF
  rw [if_neg (by omega), if_neg (by omega), if_neg hbr, show b.length - 8 = n by omega]
  unfold rdFin
  rcases rdL n (Ob.bt b 2) ((b.take n).drop 3) [] [] with _ | ⟨s, ix⟩ <;> rfl
/-- Behind the last stores. -/
theorem RdSt.fin {w wr : World} {out : List Ob.S} {ix : List PE} {Ao : Option Addr} {co : Nat} {xs : List Value} {Ai : Option Addr} {ci : Nat} (h : RdSt w wr out ix Ao co xs Ai ci) (x y z : Value) :
    StV (((wr.setCell ⟨w.heap.size, 0, none⟩ x).setCell ⟨w.heap.size + 1, 0, none⟩ y).setCell ⟨w.heap.size + 1, 1, none⟩ z) (Under w.heap.size) Ao out ∧
    SA (((wr.setCell ⟨w.heap.size, 0, none⟩ x).setCell ⟨w.heap.size + 1, 0, none⟩ y).setCell ⟨w.heap.size + 1, 1, none⟩ z) (Under w.heap.size) Ai (ixV ix) := by
  have hu0 : Under (w.heap.size + 3) w.heap.size := by unfold Under; omega
  have hu1 : Under (w.heap.size + 3) (w.heap.size + 1) := by unfold Under; omega
  have k1 := ((Keeps.setCell wr (Under (w.heap.size + 3)) ⟨w.heap.size, 0, none⟩ x hu0).trans (Keeps.setCell _ _ ⟨w.heap.size + 1, 0, none⟩ y hu1)).trans (Keeps.setCell _ _ ⟨w.heap.size + 1, 1, none⟩ z hu1)
  have k2 := k1.into (X'' := Under w.heap.size) (fun b hb => by unfold Under at *; omega)
  refine ⟨⟨xs, (SA.of_own h.own (fun b hb => hb)).keep k2, ?_⟩, (SA.of_own h.oi (fun b hb => hb)).keep k2⟩
  refine (h.rows.mono (StR.keep ((Keeps.refl wr _).into (X'' := Under (w.heap.size + 3)) fun b hb => .inl hb))).mono (StR.keep k2)
theorem RdSt.view {w wr : World} {out : List Ob.S} {ix : List PE} {Ao : Option Addr} {co : Nat} {xs : List Value} {Ai : Option Addr} {ci : Nat} (h : RdSt w wr out ix Ao co xs Ai ci) : StV wr Free Ao out :=
  ⟨xs, SA.of_own h.own (fun b hb => hb.elim), h.rows.mono (StR.keep ((Keeps.refl wr _).into fun b hb => hb.elim))⟩
theorem ix_one (a b c : Int) : ∀ u ∈ ([.int .i64 a, .int .i64 b, .int .i64 c] : List Value), u.oneCell' = true := by
  intro u hu
  simp at hu
  rcases hu with rfl | rfl | rfl <;> rfl
theorem sa_back {w wo : World} {A : Option Addr} {vs : List Value} (h : SA wo (From w.heap.size) A vs) (hb : Below w.heap.size w wo) : SA w Free A vs := by
  rcases h with h | ⟨b, off, e, _, hx, hc⟩
  · exact .inl h
  · have hlt : b < w.heap.size := by unfold From at hx; omega
    exact .inr ⟨b, off, e, hlt, fun h => h, fun j u hu => (hb.cell (p := ⟨b, off + j, none⟩) hlt).symm.trans (hc j u hu)⟩
theorem sa_forth {w wo : World} {A : Option Addr} {vs : List Value} (h : SA w Free A vs) (hb : Below w.heap.size w wo) : SA wo (From w.heap.size) A vs :=
  h.keep ⟨hb.size, fun b h _ => hb.block b h, fun b h _ hx => by unfold From at hx; omega⟩
theorem it_app_lt (s : List Ob.S) (x : Ob.S) (j : Nat) (h : j < s.length) : Ob.it (s ++ [x]) j = Ob.it s j := by unfold Ob.it; rw [List.getElem?_append_left h]
theorem it_app_eq (s : List Ob.S) (x : Ob.S) : Ob.it (s ++ [x]) s.length = x := by unfold Ob.it; simp
theorem ok_app {s : List Ob.S} {x : Ob.S} (h : ∀ j, j < s.length → Ob.Ok (Ob.it s j).ob) (hx : Ob.Ok x.ob) : ∀ j, j < (s ++ [x]).length → Ob.Ok (Ob.it (s ++ [x]) j).ob := by
  intro j hj
  rw [List.length_append, List.length_singleton] at hj
  by_cases h2 : j < s.length
  · rw [it_app_lt s x j h2]; exact h j h2
  · obtain rfl : j = s.length := by omega
    rw [it_app_eq]; exact hx
theorem rdFin_no {b : List UInt8} {n c i : Nat} {rest : List UInt8} {out : List Ob.S} {ix : List PE} {r : List Ob.S × List PE × (Int × Int)} (h : r = rdFin b (rdL n (c - i) rest out ix)) (hi : i < c) (hb : ¬ (Ob.isP rest ∧ (Ob.obF (Ob.obP rest)).1 = 0)) : r = ([], [], (1, 0)) := by
  obtain ⟨d, hd⟩ : ∃ d, c - i = d + 1 := ⟨c - i - 1, by omega⟩
  rw [h, hd, rdL_bad hb]; rfl
theorem rdFin_next {b : List UInt8} {n c i : Nat} {rest : List UInt8} {out : List Ob.S} {ix : List PE} {r : List Ob.S × List PE × (Int × Int)} (h : r = rdFin b (rdL n (c - i) rest out ix)) (hi : i < c) (hp : Ob.isP rest) (hf : (Ob.obF (Ob.obP rest)).1 = 0) :
    r = rdFin b (rdL n (c - (i + 1)) (rest.drop (Ob.enL rest)) (out ++ [⟨Ob.dig (Ob.obP rest), Ob.obP rest⟩]) (ix ++ [⟨Ob.dig (Ob.obP rest), n - rest.length, Ob.enL rest⟩])) := by
  obtain ⟨d, hd⟩ : ∃ d, c - i = d + 1 := ⟨c - i - 1, by omega⟩
  rw [h, hd, rdL_next hp hf, show c - (i + 1) = d by omega]
set_option maxRecDepth 100000 in
set_option maxHeartbeats 4000000 in
theorem read_any (w : World) (A : Option Addr) (k n : Nat) (b : List UInt8) (hv : SA w Free A (bytesV b)) (hln : b.length = n + 8) (h3 : 3 ≤ n) (h4 : n + 8 ≤ 4096) (hk : n + 8 ≤ k) (hbr : ¬ Broken b) :
    Calls Try.prog 42 #[.slice A (n + 8) k] w (RdPost w (readF b)) := by
  obtain ⟨i0, hI0, hZ0, hZ1, hZ2⟩ := info_parts info46
  obtain ⟨j0, hJ0, hY0, hY1, hY2⟩ := info_parts info48
  have ht : (b.take n).length = n := by simp; omega
  have hd : (b.drop n).length = 8 := by simp; omega
  have H46 := Lib.hid (fun (w1 : World) (hb : Below w.heap.size w w1) => of_bytes w1 A k (b.take n) (by have := ((hv.keep (free_below hb)).take n).sv; unfold bytesV at this ⊢; rwa [List.map_take]) (by omega))
  rw [ht] at H46
  have hofl : Dg.ofL (b.take n) < 2305843009213693951 := Dg.ofTo_lt _ _ (Nat.le_refl _)
  have H52 := Lib.hid (fun (w1 : World) => (big_any w1 (Dg.ofL (b.take n)) hofl).mono (fun e w' (h : BtPost w1 (Ob.wide (Dg.ofL (b.take n))) e w') => show ∃ A2 c2, e = .returned (.slice A2 8 c2) ∧ SV w' w'.heap.size A2 (bytesV (Ob.wide (Dg.ofL (b.take n)))) ∧ Below w1.heap.size w1 w' from by
    obtain ⟨A2, c2, rfl, _, _, hown, hb⟩ := h
    rw [Ob.wide_length] at hown ⊢
    exact ⟨A2, c2, rfl, SV.of_own hown, hb⟩))
  have hne : decide (Ob.wide (Dg.ofL (b.take n)) = b.drop n) = true := by
    unfold Broken at hbr
    rw [hln, Nat.add_sub_cancel] at hbr
    exact decide_eq_true (Classical.not_not.1 hbr)
  obtain ⟨ab, ao, e, hab, hc2⟩ := hv.sv.byte 2 (by omega)
  subst e
  rw [Ob.bt_eq] at hc2
  have H54 := Lib.hid (fun (w1 : World) (hb : Below w.heap.size w w1) (A2 : Option Addr) (c2 : Nat) (h2 : SV w1 w1.heap.size A2 (bytesV (Ob.wide (Dg.ofL (b.take n))))) (cc : Nat) => bytesEq_any w1 A2 (some ⟨ab, ao + n, none⟩) c2 cc (Ob.wide (Dg.ofL (b.take n))) (b.drop n) h2
    (by have := ((hv.keep (free_below hb)).drop n False (fun h => h.elim)).sv; rw [if_neg (fun h => h)] at this; unfold bytesV at this ⊢; rw [List.map_drop]; simpa [Addr.add, show n ≠ 0 by omega] using this))
  rw [Ob.wide_length, hd, hne] at H54
  have HF := Lib.hid (readF_fin n b hln h3 h4 hbr)
  have HE := Lib.hid (fun (w1 : World) (hb : Below w.heap.size w w1) => (hv.keep (free_below hb)).sv)
  have hcnt := Ob.bt_lt b 2
  have HR3 := Lib.hid (show SA w Free (some ⟨ab, ao + 3, none⟩) (bytesV ((b.take n).drop 3)) from by
    have := (hv.take n).drop 3 False (fun h => h.elim)
    rw [if_neg (fun h => h)] at this; unfold bytesV at this ⊢; rw [← List.map_take, ← List.map_drop] at this; simpa [Addr.add] using this)
  have h3l : ((b.take n).drop 3).length = n - 3 := by simp; omega
  have H3L := Lib.hid h3l
  clear hne hd ht hv hbr h3l
  generalize Dg.ofL (b.take n) = d at *
  generalize readF b = r at *
  generalize (b.take n).drop 3 = rest0 at *
  generalize Ob.bt b 2 = cnt at *
  have hd0 : (0 : Int) ≤ d := by omega
  have b0 := below_alloc3 w (.cells #[.slice none 0 0] 24) (.cells #[.int .i64 0, .int .i64 0] 28) (.cells #[.slice none 0 0] 24)
  have r1 := ((Blk.new w 24 #[.slice none 0 0]).alloc (.cells #[.int .i64 0, .int .i64 0] 28)).alloc (.cells #[.slice none 0 0] 24)
  have r2 := (blk_new1 w (.cells #[.slice none 0 0] 24) 28 #[.int .i64 0, .int .i64 0]).alloc (.cells #[.slice none 0 0] 24)
  have sb := blk_new2 w (.cells #[.slice none 0 0] 24) (.cells #[.int .i64 0, .int .i64 0] 28) 24 #[.slice none 0 0]
  have hn8 : ((n : Int) + 8 - 8) = n := by omega
  have hi0 : (0 : Int) ≤ n := by omega
  have hi1 : (n : Int) ≤ (n : Int) + 8 := by omega
  have hi2 : (n : Int) + 8 ≤ k := by omega
  have hi3 : (n : Int) ≤ k := by omega
  have hi4 : (3 : Int) ≤ n := by omega
  have hi5 : (3 : Int) ≤ k := by omega
  go_enter Try.func42, Try.ntmps42
  go_wp2_with fail
  go_at_call 46
  refine (H46.out _ b0).mono ?_
  rintro e w1 ⟨rfl, hb1⟩
  have b1 := (b0.trans (hb1.mono b0.size)).alloc (b0.trans (hb1.mono b0.size)).size (.cells #[.int .i64 0, .int .i64 0] 28)
  replace r1 := (r1.below hb1 r1.lt).alloc (.cells #[.int .i64 0, .int .i64 0] 28)
  replace r2 := (r2.below hb1 r2.lt).alloc (.cells #[.int .i64 0, .int .i64 0] 28)
  replace sb := (sb.below hb1 sb.lt).alloc (.cells #[.int .i64 0, .int .i64 0] 28)
  clear hb1 H46 b0
  have hk0 : Below (w1.alloc (.cells #[.int .i64 0, .int .i64 0] 28)).heap.size (w1.alloc (.cells #[.int .i64 0, .int .i64 0] 28)) (w1.alloc (.cells #[.int .i64 0, .int .i64 0] 28)).drew := below_drew' (Below.refl _ _)
  go_wp2_with fail
  go_region_held3 (fun w6 => True)
    (exact True.intro)
    (first
      | (go_at_call 52; (with_reducible refine (H52.out _).mono ?_); rintro e v1 ⟨A2, c2, rfl, hs2, hv1⟩; have hk1 := hk0.trans (hv1.mono hk0.size))
      | (go_at_call 54; (with_reducible refine (H54.out _ (b1.trans (hk1.mono b1.size)) A2 c2 hs2 _).mono ?_); rintro e v2 ⟨rfl, rfl⟩))
  have b2 := b1.trans (hk1.mono b1.size)
  replace r1 := r1.below hk1 r1.lt
  replace r2 := r2.below hk1 r2.lt
  replace sb := sb.below hk1 sb.lt
  have hlt1 := r1.lt
  have hcb := (b2.cell (p := ⟨ab, ao + 2, none⟩) hab).trans hc2
  have habw : ab < v1.heap.size := Nat.lt_of_lt_of_le hab b2.size
  have st0 : RdSt w v1 [] [] none 0 [] none 0 := ⟨r1, r2, sb, World.ownsRow_nil _ _ _ _, rfl, World.ownsRow_nil _ _ _ _, fun g h => (by cases h), b2⟩
  clear H52 H54 hk0 hv1 hk1 hs2 b1 b2 r1 r2 sb hc2 hlt1
  go_wp2_with fail
  go_loopw [6, 10, 54] (fun xv rv iv wr => ∃ (i rl kr : Nat) (Ar : Option Addr) (Ao : Option Addr) (co : Nat) (xs : List Value) (Ai : Option Addr) (ci : Nat) (out : List Ob.S) (ix : List PE) (rest : List UInt8), i ≤ cnt ∧ xv = .slice Ai ix.length ci ∧ rv = .slice Ar rl kr ∧ iv = .int .i64 i ∧ rest.length = rl ∧ rl ≤ kr ∧ rl ≤ n ∧ SA w Free Ar (bytesV rest) ∧ Hid (out.length = i) ∧ Hid (ix.length = i) ∧
      RdSt w wr out ix Ao co xs Ai ci ∧ Hid (∀ j, j < out.length → Ob.Ok (Ob.it out j).ob) ∧ Hid (r = rdFin b (rdL n (cnt - i) rest out ix))) (fun _ _ iv _ => cnt - (intOf iv).toNat)
  case atStart => exact ⟨0, n - 3, k - 3, _, none, 0, [], none, 0, [], [], rest0, Nat.zero_le _, rfl, rfl, rfl, H3L.out, by omega, by omega, HR3.out, Lib.hid rfl, Lib.hid rfl, st0, Lib.hid (fun j h => by cases h), HF⟩
  case round =>
    obtain ⟨i, rl, kr, Ar, Ao, co, xs, Ai, ci, out, ix, rest, hi, rfl, rfl, rfl, hrl, hkr, hrn, hsa, HOL, HIL, st, HOK, HRD⟩ := hrel
    obtain ⟨wo, rfl⟩ : ∃ wo : World, wo = wr := ⟨_, rfl⟩
    clear st0 HR3 H3L HF
    have HRL := Lib.hid hrl
    have hsz := st.bel.size
    by_cases hlt : i < cnt
    · have hlt' : (i : Int) < cnt := by omega
      have HO := Lib.hid (object_any wo (From w.heap.size) Ar rl kr rest (sa_forth hsa st.bel) hrl (by omega) hkr)
      by_cases hp : Ob.isP rest
      · by_cases hf : (Ob.obF (Ob.obP rest)).1 = 0
        · have hok := (Ob.obF_ok hf).2
          have HNX := Lib.hid (rdFin_next HRD.out hlt hp hf)
          have hel : Ob.enL rest ≤ rest.length := hp.2
          have HO2 : Hid (Calls Try.prog 55 #[.slice Ar rl kr] wo fun e w' => ∃ Al kl Ad kd Am km, e = .returned (.tuple #[obV (Ob.obP rest) Al kl Ad kd, .slice Am (rl - Ob.enL rest) km, .bool true]) ∧ rl - Ob.enL rest ≤ km ∧ ObA w' (Under wo.heap.size) (Ob.obP rest) Al kl Ad kd ∧ SA w Free Am (bytesV (rest.drop (Ob.enL rest))) ∧ Below wo.heap.size wo w') := Lib.hid (HO.out.mono fun e w' h => by
            rcases h.2 with h2 | ⟨_, Al, kl, Ad, kd, Am, km, h3, h4, h5, h6⟩
            · exact absurd hp h2.1
            · rw [hrl] at h3 h4
              exact ⟨Al, kl, Ad, kd, Am, km, h3, h4, h5, sa_back h6 st.bel, h.1⟩)
          have HDG : Hid (∀ (w1 : World) Al kl Ad kd, ObA w1 Free (Ob.obP rest) Al kl Ad kd → Calls Try.prog 29 #[obV (Ob.obP rest) Al kl Ad kd] w1 fun e w' => e = .returned (.tuple #[.int .i64 ((Ob.dig (Ob.obP rest) : Nat) : Int), .agg #[.int .i64 0, .int .i64 0]]) ∧ Below w1.heap.size w1 w') := Lib.hid fun w1 Al kl Ad kd h => digest_ok w1 _ Al kl Ad kd h hok
          have hdg := Ob.dig_lt (Ob.obP rest)
          have HDR := Lib.hid (show (rest.drop (Ob.enL rest)).length = rl - Ob.enL rest by simp; omega)
          have HOK2 := Lib.hid (ok_app (x := ⟨((Ob.dig (Ob.obP rest) : Nat) : Int), Ob.obP rest⟩) HOK.out hok)
          rw [HRL.out] at HNX hel
          clear HO HRD hp hf hok HE HOK
          generalize rest.drop (Ob.enL rest) = rest2 at *
          generalize Ob.dig (Ob.obP rest) = dg at *
          generalize Ob.obP rest = o at *
          generalize Ob.enL rest = el at *
          obtain ⟨m, hm⟩ : ∃ m, m = rl - el := ⟨_, rfl⟩
          have hrm : rl = m + el := by omega
          rw [← hm] at HO2 HDR
          clear hm hsa
          have HRM := Lib.hid hrm
          have HE1 : Hid (((n - rl : Nat) : Int) = (n : Int) - rl) := Lib.hid (by omega)
          have HE2 : Hid ((el : Int) = (rl : Int) - m) := Lib.hid (by omega)
          have hmr : m ≤ rl := by omega
          have hrn4 : rl ≤ 4096 := by omega
          have hn4 : n ≤ 4096 := by omega
          clear hrl hrm hel
          obtain ⟨kk, ls, da⟩ := o
          simp only [obV] at HO2 HDG
          have h64 : I64 (dg : Int) := by unfold I64; omega
          have hoi : out.length ≤ 256 := by rw [HOL.out]; omega
          have hii : ix.length ≤ 256 := by rw [HIL.out]; omega
          have hlo : ∀ g, (Value.slice Ao out.length co).ownBlock = some g → g < wo.heap.size := fun g hg => (st.own.lt g hg).2
          have hli : ∀ g, (Value.slice Ai ix.length ci).ownBlock = some g → g < wo.heap.size := fun g hg => (st.oi.lt g hg).2
          have HUN : Hid (∀ b', Or2 (Under (w.heap.size + 3)) (.slice Ao out.length co) (.slice Ai ix.length ci) b' → Under wo.heap.size b') := Lib.hid fun b' hb => by
            have h3 := st.sb.lt
            rcases hb with hb | hb | hb
            · unfold Under at *; omega
            · exact hlo _ hb
            · exact hli _ hb
          clear hlo hli
          go_wp2_with fail
          go_at_call 55
          refine HO2.out.mono ?_
          rintro e w3 ⟨Al, kl, Ad, kd, Am, km, rfl, hkm, hob, hsm, hb3⟩
          have bl3 := below_alloc1 w3 (.cells #[.int .i64 kk, .slice Al ls.length kl, .slice Ad da.length kd] 44)
          have st3 := (st.below hb3).below bl3
          have bo3 := Blk.new w3 44 #[.int .i64 kk, .slice Al ls.length kl, .slice Ad da.length kd]
          have hob3 := (hob.mono_ HUN.out).keep (any_below bl3)
          clear hb3 HO2 hob HUN bl3 st
          have HDG2 := Lib.hid (HDG.out _ Al kl Ad kd (hob3.mono_ (fun _ h => h.elim)))
          clear HDG
          go_wp2_with fail
          go_at_call 29
          refine HDG2.out.mono ?_
          rintro e w4 ⟨rfl, hb4⟩
          have bl4 := below_alloc1 w4 (.cells #[.int .i64 0, .int .i64 0] 28)
          have st4 := (st3.below hb4).below bl4
          have bo4 := (bo3.below hb4 bo3.lt).alloc (.cells #[.int .i64 0, .int .i64 0] 28)
          have hob4 := (hob3.keep (any_below hb4)).keep (any_below bl4)
          clear hb4 HDG2 st3 bo3 hob3 bl4
          have n0 := (bo4.cell 0).trans (rfl : _ = some (Value.int .i64 kk))
          have n1 := (bo4.cell 1).trans (rfl : _ = some (Value.slice Al ls.length kl))
          have n2 := (bo4.cell 2).trans (rfl : _ = some (Value.slice Ad da.length kd))
          have nl := bo4.lt
          have q0 := (st4.sb.cell 0).trans (rfl : _ = some (Value.slice Ao out.length co))
          have ql := st4.sb.lt
          have hsv : SV ((w4.alloc (.cells #[.int .i64 0, .int .i64 0] 28)).alloc (.cells #[.int .i64 (dg : Int), .int .i64 kk, .slice Al ls.length kl, .slice Ad da.length kd] 46)) (w4.heap.size + 1 + 1) (some ⟨w4.heap.size + 1, 0, none⟩) [.int .i64 (dg : Int), .int .i64 kk, .slice Al ls.length kl, .slice Ad da.length kd] := by
            have := SV.lit (w4.alloc (.cells #[.int .i64 0, .int .i64 0] 28)) #[.int .i64 (dg : Int), .int .i64 kk, .slice Al ls.length kl, .slice Ad da.length kd] 46
            simpa using this
          go_wp2_with (first | (at_builtin; refine wpList_appNo _ rfl (.tmp 77) (.tmp 81) 22 rfl (w.heap.size + 3) 46 i0 _ 4 64 Try.underlying22 hI0 hZ0 hZ1 hZ2 rfl (by decide) Ao out.length co xs rfl (st4.own.alloc _) _ (some ⟨w4.heap.size + 1, 0, none⟩) 1 1 [.int .i64 (dg : Int), .int .i64 kk, .slice Al ls.length kl, .slice Ad da.length kd] rfl rfl hsv (st_one _ _ _ _ _ _ _ _) ?ha1 ?hb1 ?hc1 ?_))
          case ha1 => unfold maxLen; omega
          case hb1 => omega
          case hc1 => exact Nat.le_trans (Nat.succ_le_of_lt st4.sb.lt) (size_alloc_le _ _)
          intro A5 c5 w5 hown5 hg5 _ hob5
          have out5 := (st4.sb.alloc (.cells #[.int .i64 (dg : Int), .int .i64 kk, .slice Al ls.length kl, .slice Ad da.length kd] 46)).grown hg5 (fun e => by have := (st4.own.lt _ e.symm).1; omega)
          have r5 := (out5.cell 0).trans (rfl : _ = some (Value.slice Ao out.length co))
          have r6 := out5.frozen 0
          have r7 := out5.lt
          have st6 := st4.app (o0 := .cells #[.int .i64 (dg : Int), .int .i64 kk, .slice Al ls.length kl, .slice Ad da.length kd] 46) (x := ⟨(dg : Int), ⟨kk, ls, da⟩⟩) hg5 hown5 (by simpa using hob5) h64 hob4
          clear hown5 hg5 hob5 out5 n0 n1 n2 nl q0 ql hsv st4 bo4 hob4
          obtain ⟨gd, _, rfl, _⟩ := own_blk st6.own (by simp)
          have hsv : SV ((w5.setCell ⟨w.heap.size + 2, 0, none⟩ (.slice (some ⟨gd, 0, none⟩) (out.length + 1) c5)).alloc (.cells #[.int .i64 (dg : Int), .int .i64 ((n : Int) - rl), .int .i64 ((rl : Int) - m)] 48)) (w5.heap.size + 1) (some ⟨w5.heap.size, 0, none⟩) [.int .i64 (dg : Int), .int .i64 ((n : Int) - rl), .int .i64 ((rl : Int) - m)] := by
            have := SV.lit (w5.setCell ⟨w.heap.size + 2, 0, none⟩ (.slice (some ⟨gd, 0, none⟩) (out.length + 1) c5)) #[.int .i64 (dg : Int), .int .i64 ((n : Int) - rl), .int .i64 ((rl : Int) - m)] 48
            simpa using this
          go_wp2_with (first | (at_builtin; refine wpList_appNo _ rfl (.tmp 84) (.tmp 97) 39 rfl (w.heap.size + 3) 48 j0 _ 3 24 Try.underlying39 hJ0 hY0 hY1 hY2 rfl (by decide) Ai ix.length ci (ixV ix) rfl (st6.oi.alloc _) _ (some ⟨w5.heap.size, 0, none⟩) 1 1 [.int .i64 (dg : Int), .int .i64 ((n : Int) - rl), .int .i64 ((rl : Int) - m)] rfl rfl hsv (ix_one _ _ _) ?ha2 ?hb2 ?hc2 ?_))
          case ha2 => unfold maxLen; omega
          case hb2 => omega
          case hc2 => have := st6.sb.lt; simp [World.setCell] at this ⊢; omega
          intro A8 c8 w8 hown8 hg8 _ hob8
          have st8 := st6.appI (o0 := .cells #[.int .i64 (dg : Int), .int .i64 ((n : Int) - rl), .int .i64 ((rl : Int) - m)] 48) (e := ⟨(dg : Int), n - rl, el⟩) hg8 (by rw [HE1.out, HE2.out]; exact hown8) (by simpa using hob8)
          clear hown8 hg8 hob8 hsv st6 r5 r6 r7
          go_wp2_with fail
          go_roundw
          case rel => exact ⟨i + 1, m, km, Am, _, c5, _, A8, c8, _, _, rest2, by omega, by simp, rfl, by go_num, HDR.out, hkm, by omega, hsm, Lib.hid (by simp [HOL.out]), Lib.hid (by simp [HIL.out]), st8, HOK2, HNX⟩
          case measure => simp [intOf]; omega
        · have HNO := Lib.hid (fun (w' : World) (hb : Below w.heap.size w w') => RdPost.no (rdFin_no HRD.out hlt (fun h => hf h.2)) hb)
          have HO2 : Hid (Calls Try.prog 55 #[.slice Ar rl kr] wo fun e w' => ∃ Al kl Ad kd Am km, e = .returned (.tuple #[obV (Ob.obP rest) Al kl Ad kd, .slice Am (rl - Ob.enL rest) km, .bool true]) ∧ ObA w' Free (Ob.obP rest) Al kl Ad kd ∧ Below wo.heap.size wo w') := Lib.hid (HO.out.mono fun e w' h => by
            rcases h.2 with h2 | ⟨_, Al, kl, Ad, kd, Am, km, h3, h4, h5, h6⟩
            · exact absurd hp h2.1
            · rw [hrl] at h3
              exact ⟨Al, kl, Ad, kd, Am, km, h3, h5.mono_ (fun _ h => h.elim), h.1⟩)
          have HDG : Hid (∀ (w1 : World) Al kl Ad kd, ObA w1 Free (Ob.obP rest) Al kl Ad kd → Calls Try.prog 29 #[obV (Ob.obP rest) Al kl Ad kd] w1 fun e w' => e = .returned (.tuple #[.int .i64 0, .agg #[.int .i64 (Ob.obF (Ob.obP rest)).1, .int .i64 (Ob.obF (Ob.obP rest)).2]]) ∧ Below w1.heap.size w1 w') := Lib.hid fun w1 Al kl Ad kd h => digest_bad w1 _ Al kl Ad kd h hf
          have hc1 : ((Ob.obF (Ob.obP rest)).1 == 0) = false := by simpa using hf
          have hc2 : ((Ob.obF (Ob.obP rest)).1 != 0) = true := by simpa using hf
          clear HO HRD hp hf HE HOK
          generalize (Ob.obF (Ob.obP rest)).1 = c1 at *
          generalize (Ob.obF (Ob.obP rest)).2 = c2 at *
          generalize Ob.obP rest = o at *
          obtain ⟨kk, ls, da⟩ := o
          simp only [obV] at HO2 HDG
          generalize RdPost w r = R at *
          go_wp2_with fail
          go_at_call 55
          refine HO2.out.mono ?_
          rintro e w3 ⟨Al, kl, Ad, kd, Am, km, rfl, hob, hb3⟩
          have bl3 := below_alloc1 w3 (.cells #[.int .i64 kk, .slice Al ls.length kl, .slice Ad da.length kd] 44)
          replace st := (st.below hb3).below bl3
          have HDG2 := Lib.hid (HDG.out _ Al kl Ad kd (hob.keep (free_below bl3)))
          clear hb3 HO2 HDG hob bl3
          go_wp2_with fail
          go_at_call 29
          refine HDG2.out.mono ?_
          rintro e w4 ⟨rfl, hb4⟩
          replace st := (st.below hb4).below (below_alloc1 w4 (.cells #[.int .i64 c1, .int .i64 c2] 28))
          have y0 := (st.r1.cell 0).trans (rfl : _ = some (Value.slice none 0 0))
          have y1 := st.r1.lt
          have y2 := st.r1.frozen 0
          have z0 := (st.r2.cell 0).trans (rfl : _ = some (Value.int .i64 0))
          have z1 := (st.r2.cell 1).trans (rfl : _ = some (Value.int .i64 0))
          have z2 := st.r2.lt
          have z3 := st.r2.frozen 0
          have z4 := st.r2.frozen 1
          clear hb4 HDG2
          go_wp2_with fail
          obtain ⟨k1, k2, k3⟩ := put12 st.r1 st.r2 (by omega) (.slice none 0 0) (.int .i64 1) (.int .i64 0)
          refine bodyPost_ret (results_24_t_28 rfl _ _ w.heap.size (w.heap.size + 1) (.slice none 0 0) (.int .i64 1) (.int .i64 0) rfl rfl k1 k2) rfl ?_
          exact HNO.out _ (k3 _ _ (by omega) (by omega) st.bel)
      · have HNO := Lib.hid (fun (w' : World) (hb : Below w.heap.size w w') => RdPost.no (rdFin_no HRD.out hlt (fun h => hp h.1)) hb)
        have HO2 : Hid (Calls Try.prog 55 #[.slice Ar rl kr] wo fun e w' => e = .returned (.tuple #[zObj, .slice none 0 0, .bool false]) ∧ Below wo.heap.size wo w') := Lib.hid (HO.out.mono fun e w' h => ⟨by
          rcases h.2 with h2 | h2
          · exact h2.2
          · exact absurd h2.1 hp, h.1⟩)
        have HDG : Hid (∀ w1 : World, Calls Try.prog 29 #[zObj] w1 fun e w' => ∃ d c1 c2, e = .returned (.tuple #[.int .i64 d, .agg #[.int .i64 c1, .int .i64 c2]]) ∧ Below w1.heap.size w1 w') := Lib.hid fun w1 => (digest_all w1 ⟨0, [], []⟩ none 0 none 0 ⟨by unfold I64; simp, fun i h => (by cases h), Nat.le_refl _, Nat.le_refl _, Nat.zero_le _, Nat.zero_le _, SA.nil, SA.nil⟩).mono fun e w' h => by
          rcases h.2 with ⟨_, h2⟩ | ⟨_, h2⟩
          · exact ⟨_, _, _, h2, h.1⟩
          · exact ⟨_, _, _, h2, h.1⟩
        clear HO HRD hp HE HOK
        generalize RdPost w r = R at *
        go_wp2_with fail
        go_at_call 55
        refine HO2.out.mono ?_
        rintro e w3 ⟨rfl, hb3⟩
        replace st := (st.below hb3).below (below_alloc1 w3 (.cells #[.int .i64 0, .slice none 0 0, .slice none 0 0] 44))
        clear hb3 HO2
        go_wp2_with fail
        go_at_call 29
        refine (HDG.out _).mono ?_
        rintro e w4 ⟨d', c1, c2, rfl, hb4⟩
        replace st := (st.below hb4).below (below_alloc1 w4 (.cells #[.int .i64 c1, .int .i64 c2] 28))
        have y0 := (st.r1.cell 0).trans (rfl : _ = some (Value.slice none 0 0))
        have y1 := st.r1.lt
        have y2 := st.r1.frozen 0
        have z0 := (st.r2.cell 0).trans (rfl : _ = some (Value.int .i64 0))
        have z1 := (st.r2.cell 1).trans (rfl : _ = some (Value.int .i64 0))
        have z2 := st.r2.lt
        have z3 := st.r2.frozen 0
        have z4 := st.r2.frozen 1
        clear hb4 HDG
        go_wp2_with fail
        obtain ⟨k1, k2, k3⟩ := put12 st.r1 st.r2 (by omega) (.slice none 0 0) (.int .i64 1) (.int .i64 0)
        refine bodyPost_ret (results_24_t_28 rfl _ _ w.heap.size (w.heap.size + 1) (.slice none 0 0) (.int .i64 1) (.int .i64 0) rfl rfl k1 k2) rfl ?_
        exact HNO.out _ (k3 _ _ (by omega) (by omega) st.bel)
    · obtain rfl : i = cnt := by omega
      have HR0 : Hid (r = if (Ob.stF out).1 ≠ 0 ∨ packB out ≠ b then ([], [], (1, 0)) else (out, ix, (0, 0))) := Lib.hid (by rw [HRD.out, Nat.sub_self]; rfl)
      have hl40 : out.length ≤ 255 := by rw [HOL.out]; omega
      have HBU := Lib.hid (build_any wo Ao co out st.view hl40 HOK.out)
      have HVA := Lib.hid (fun (w' : World) (hb : Below wo.heap.size wo w') => validate_any w' Ao co out (st.below hb).view (by omega))
      have HEQ := Lib.hid (fun (w' : World) (hb : Below w.heap.size w w') (A2 : Option Addr) (c2 : Nat) (h2 : SV w' w'.heap.size A2 (bytesV (packB out))) => bytesEq_any w' A2 (some ⟨ab, ao, none⟩) c2 k (packB out) b h2 (HE.out w' hb))
      have hpl := packB_length out
      have sb0 := (st.sb.cell 0).trans (rfl : _ = some (Value.slice Ao out.length co))
      have sb1 := st.sb.lt
      clear HE HRD hsa hrl
      by_cases hbig : (packB out).length ≤ 4096
      · have hbd : decide ((packB out).length ≤ 4096) = true := decide_eq_true hbig
        have HBU2 : Hid (Calls Try.prog 39 #[.agg #[.slice Ao out.length co]] wo fun e w' => ∃ A2 c2, e = .returned (.tuple #[.slice A2 (packB out).length c2, .bool true]) ∧ SV w' w'.heap.size A2 (bytesV (packB out)) ∧ Below wo.heap.size wo w') := Lib.hid (HBU.out.mono fun e w' h => by
          obtain ⟨A2, n2, c2, rfl, hb, h2⟩ := h
          obtain ⟨rfl, _, hown⟩ := h2 (by omega)
          exact ⟨A2, c2, by rw [hbd], SV.of_own hown, hb⟩)
        clear HBU hbd hpl hbig
        by_cases hv0 : (Ob.stF out).1 = 0
        · have hv1 := (Ob.stF_ok hv0).1
          have HVA2 : Hid (∀ w' : World, Below wo.heap.size wo w' → Calls Try.prog 32 #[.agg #[.slice Ao out.length co]] w' fun e w2 => e = .returned (.agg #[.int .i64 0, .int .i64 0]) ∧ Below w'.heap.size w' w2) := Lib.hid fun w' hb => by
            have := HVA.out w' hb
            unfold FaultPost at this
            rw [hv1] at this
            exact this
          clear HVA
          by_cases heq : packB out = b
          · have hr : r = (out, ix, (0, 0)) := by rw [HR0.out, if_neg (fun h => by rcases h with h | h; exact h hv0; exact h heq)]
            have HEQ2 : Hid (∀ (w' : World), Below w.heap.size w w' → ∀ (A2 : Option Addr) (c2 : Nat), SV w' w'.heap.size A2 (bytesV (packB out)) → Calls Try.prog 54 #[.slice A2 (packB out).length c2, .slice (some ⟨ab, ao, none⟩) (n + 8) k] w' fun e w2 => e = .returned (.bool true) ∧ w' = w2) := Lib.hid fun w' hb A2 c2 h2 => by
              have := HEQ.out w' hb A2 c2 h2
              rw [decide_eq_true heq, hln] at this
              exact this
            have HEND : Hid (∀ w' : World, RdSt w w' out ix Ao co xs Ai ci → RdPost w r (.returned (.tuple #[.agg #[.slice Ao out.length co], .slice Ai ix.length ci, .agg #[.int .i64 0, .int .i64 0]])) (((w'.setCell ⟨w.heap.size, 0, none⟩ (.slice Ao out.length co)).setCell ⟨w.heap.size + 1, 0, none⟩ (.int .i64 0)).setCell ⟨w.heap.size + 1, 1, none⟩ (.int .i64 0))) := Lib.hid fun w' h => by
              subst hr
              obtain ⟨f1, f2⟩ := h.fin (.slice Ao out.length co) (.int .i64 0) (.int .i64 0)
              obtain ⟨_, _, k3⟩ := put12 h.r1 h.r2 (by omega) (.slice Ao out.length co) (.int .i64 0) (.int .i64 0)
              exact ⟨Ao, co, Ai, ci, rfl, f1, f2, k3 _ _ (by omega) (by omega) h.bel⟩
            clear HEQ hv0 hv1 heq HR0 hr hln
            generalize RdPost w r = R at *
            generalize (packB out).length = pl at *
            go_wp2_with fail
            go_at_call 39
            refine HBU2.out.mono ?_
            rintro e w2 ⟨A2, c2, rfl, hs2, hb2⟩
            have HV3 := Lib.hid (HVA2.out w2 hb2)
            have st2 := st.below hb2
            have sb0 := (st2.sb.cell 0).trans (rfl : _ = some (Value.slice Ao out.length co))
            have sb1 := st2.sb.lt
            clear HBU2 HVA2 hb2 st
            go_wp2_with fail
            go_at_call 32
            refine HV3.out.mono ?_
            rintro e w3 ⟨rfl, hb3⟩
            have st3 := st2.below hb3
            have hs3 := ((SA.of_sv hs2).keep (free_below hb3)).sv
            have HQ3 := Lib.hid (HEQ2.out w3 st3.bel A2 c2 hs3)
            clear HV3 hb3 st2 HEQ2 hs2 hs3
            go_wp2_with fail
            go_at_call 54
            refine HQ3.out.mono ?_
            rintro e w4 ⟨rfl, rfl⟩
            have y0 := (st3.r1.cell 0).trans (rfl : _ = some (Value.slice none 0 0))
            have y1 := st3.r1.lt
            have y2 := st3.r1.frozen 0
            have z0 := (st3.r2.cell 0).trans (rfl : _ = some (Value.int .i64 0))
            have z1 := (st3.r2.cell 1).trans (rfl : _ = some (Value.int .i64 0))
            have z2 := st3.r2.lt
            have z3 := st3.r2.frozen 0
            have z4 := st3.r2.frozen 1
            have sb0 := (st3.sb.cell 0).trans (rfl : _ = some (Value.slice Ao out.length co))
            have sb1 := st3.sb.lt
            clear HQ3
            go_wp2_with fail
            obtain ⟨k1, k2, k3⟩ := put12 st3.r1 st3.r2 (by omega) (.slice Ao out.length co) (.int .i64 0) (.int .i64 0)
            refine bodyPost_ret (results_24_t_28 rfl _ _ w.heap.size (w.heap.size + 1) (.slice Ao out.length co) (.int .i64 0) (.int .i64 0) rfl rfl k1 k2) rfl ?_
            exact HEND.out _ st3
          · have hr : r = ([], [], (1, 0)) := by rw [HR0.out, if_pos (.inr heq)]
            have HEQ2 : Hid (∀ (w' : World), Below w.heap.size w w' → ∀ (A2 : Option Addr) (c2 : Nat), SV w' w'.heap.size A2 (bytesV (packB out)) → Calls Try.prog 54 #[.slice A2 (packB out).length c2, .slice (some ⟨ab, ao, none⟩) (n + 8) k] w' fun e w2 => e = .returned (.bool false) ∧ w' = w2) := Lib.hid fun w' hb A2 c2 h2 => by
              have := HEQ.out w' hb A2 c2 h2
              rw [decide_eq_false heq, hln] at this
              exact this
            have HNO := Lib.hid (fun (w' : World) (hb : Below w.heap.size w w') => RdPost.no hr hb)
            clear HEQ hv0 hv1 heq HR0 hr hln
            generalize RdPost w r = R at *
            generalize (packB out).length = pl at *
            go_wp2_with fail
            go_at_call 39
            refine HBU2.out.mono ?_
            rintro e w2 ⟨A2, c2, rfl, hs2, hb2⟩
            have HV3 := Lib.hid (HVA2.out w2 hb2)
            have st2 := st.below hb2
            have sb0 := (st2.sb.cell 0).trans (rfl : _ = some (Value.slice Ao out.length co))
            have sb1 := st2.sb.lt
            clear HBU2 HVA2 hb2 st
            go_wp2_with fail
            go_at_call 32
            refine HV3.out.mono ?_
            rintro e w3 ⟨rfl, hb3⟩
            have st3 := st2.below hb3
            have hs3 := ((SA.of_sv hs2).keep (free_below hb3)).sv
            have HQ3 := Lib.hid (HEQ2.out w3 st3.bel A2 c2 hs3)
            clear HV3 hb3 st2 HEQ2 hs2 hs3
            go_wp2_with fail
            go_at_call 54
            refine HQ3.out.mono ?_
            rintro e w4 ⟨rfl, rfl⟩
            have y0 := (st3.r1.cell 0).trans (rfl : _ = some (Value.slice none 0 0))
            have y1 := st3.r1.lt
            have y2 := st3.r1.frozen 0
            have z0 := (st3.r2.cell 0).trans (rfl : _ = some (Value.int .i64 0))
            have z1 := (st3.r2.cell 1).trans (rfl : _ = some (Value.int .i64 0))
            have z2 := st3.r2.lt
            have z3 := st3.r2.frozen 0
            have z4 := st3.r2.frozen 1
            clear HQ3
            go_wp2_with fail
            obtain ⟨k1, k2, k3⟩ := put12 st3.r1 st3.r2 (by omega) (.slice none 0 0) (.int .i64 1) (.int .i64 0)
            refine bodyPost_ret (results_24_t_28 rfl _ _ w.heap.size (w.heap.size + 1) (.slice none 0 0) (.int .i64 1) (.int .i64 0) rfl rfl k1 k2) rfl ?_
            exact HNO.out _ (k3 _ _ (by omega) (by omega) st3.bel)
        · have hr : r = ([], [], (1, 0)) := by rw [HR0.out, if_pos (.inl hv0)]
          have HNO := Lib.hid (fun (w' : World) (hb : Below w.heap.size w w') => RdPost.no hr hb)
          have hc1 : ((Ob.stF out).1 == 0) = false := by simpa using hv0
          have hc2 : ((Ob.stF out).1 != 0) = true := by simpa using hv0
          have HVA2 : Hid (∀ w' : World, Below wo.heap.size wo w' → Calls Try.prog 32 #[.agg #[.slice Ao out.length co]] w' fun e w2 => e = .returned (.agg #[.int .i64 (Ob.stF out).1, .int .i64 (Ob.stF out).2]) ∧ Below w'.heap.size w' w2) := Lib.hid fun w' hb => HVA.out w' hb
          clear HVA HEQ hv0 HR0 hr hln
          generalize (Ob.stF out).1 = c1 at *
          generalize (Ob.stF out).2 = c2 at *
          generalize RdPost w r = R at *
          generalize (packB out).length = pl at *
          go_wp2_with fail
          go_at_call 39
          refine HBU2.out.mono ?_
          rintro e w2 ⟨A2, c3, rfl, hs2, hb2⟩
          have HV3 := Lib.hid (HVA2.out w2 hb2)
          have st2 := st.below hb2
          have sb0 := (st2.sb.cell 0).trans (rfl : _ = some (Value.slice Ao out.length co))
          have sb1 := st2.sb.lt
          clear HBU2 HVA2 hb2 st hs2
          go_wp2_with fail
          go_at_call 32
          refine HV3.out.mono ?_
          rintro e w3 ⟨rfl, hb3⟩
          have st3 := st2.below hb3
          have y0 := (st3.r1.cell 0).trans (rfl : _ = some (Value.slice none 0 0))
          have y1 := st3.r1.lt
          have y2 := st3.r1.frozen 0
          have z0 := (st3.r2.cell 0).trans (rfl : _ = some (Value.int .i64 0))
          have z1 := (st3.r2.cell 1).trans (rfl : _ = some (Value.int .i64 0))
          have z2 := st3.r2.lt
          have z3 := st3.r2.frozen 0
          have z4 := st3.r2.frozen 1
          clear HV3 hb3 st2
          go_wp2_with fail
          obtain ⟨k1, k2, k3⟩ := put12 st3.r1 st3.r2 (by omega) (.slice none 0 0) (.int .i64 1) (.int .i64 0)
          refine bodyPost_ret (results_24_t_28 rfl _ _ w.heap.size (w.heap.size + 1) (.slice none 0 0) (.int .i64 1) (.int .i64 0) rfl rfl k1 k2) rfl ?_
          exact HNO.out _ (k3 _ _ (by omega) (by omega) st3.bel)
      · have hbd : decide ((packB out).length ≤ 4096) = false := decide_eq_false hbig
        have HBU2 : Hid (Calls Try.prog 39 #[.agg #[.slice Ao out.length co]] wo fun e w' => ∃ A2 n2 c2, e = .returned (.tuple #[.slice A2 n2 c2, .bool false]) ∧ Below wo.heap.size wo w') := Lib.hid (HBU.out.mono fun e w' h => by
          obtain ⟨A2, n2, c2, rfl, hb, _⟩ := h
          exact ⟨A2, n2, c2, by rw [hbd], hb⟩)
        have hr : r = ([], [], (1, 0)) := by rw [HR0.out, if_pos (.inr (fun e => hbig (by rw [e]; omega)))]
        have HNO := Lib.hid (fun (w' : World) (hb : Below w.heap.size w w') => RdPost.no hr hb)
        clear HBU hbd hpl hbig HVA HEQ HR0 hr hln
        generalize RdPost w r = R at *
        go_wp2_with fail
        go_at_call 39
        refine HBU2.out.mono ?_
        rintro e w2 ⟨A2, n2, c2, rfl, hb2⟩
        have st2 := st.below hb2
        have y0 := (st2.r1.cell 0).trans (rfl : _ = some (Value.slice none 0 0))
        have y1 := st2.r1.lt
        have y2 := st2.r1.frozen 0
        have z0 := (st2.r2.cell 0).trans (rfl : _ = some (Value.int .i64 0))
        have z1 := (st2.r2.cell 1).trans (rfl : _ = some (Value.int .i64 0))
        have z2 := st2.r2.lt
        have z3 := st2.r2.frozen 0
        have z4 := st2.r2.frozen 1
        clear HBU2 hb2 st
        go_wp2_with fail
        obtain ⟨k1, k2, k3⟩ := put12 st2.r1 st2.r2 (by omega) (.slice none 0 0) (.int .i64 1) (.int .i64 0)
        refine bodyPost_ret (results_24_t_28 rfl _ _ w.heap.size (w.heap.size + 1) (.slice none 0 0) (.int .i64 1) (.int .i64 0) rfl rfl k1 k2) rfl ?_
        exact HNO.out _ (k3 _ _ (by omega) (by omega) st2.bel)
end Go.Proofs.Ytiilhnfdlpgllaa
