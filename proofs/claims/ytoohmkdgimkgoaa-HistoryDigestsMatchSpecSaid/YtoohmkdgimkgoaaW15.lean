/-
  Histories: walk of 'best' (the best common ancestors of some commits of a valid history).
-/
import Derived.Test.YtoohmkdgimkgoaaL8
import Derived.Test.YtoohmkdgimkgoaaPure6
namespace Go.Proofs.Ytoohmkdgimkgoaa
open Go.RowKit Go.V
set_option linter.unusedVariables false

theorem own_below {w w' : World} {B base : Nat} {e : TypeId} {size n : Nat} {v : Value} {xs : List Value} (h : w.ownsRow base e size v n xs) (hb : Below w.heap.size w w') : w'.ownsRow base e size v n xs :=
  h.kept (only_of_below hb none) (by cases hv : v.ownBlock <;> simp)
theorem own_base {w : World} {base base' : Nat} {e : TypeId} {size n : Nat} {v : Value} {xs : List Value} (h : w.ownsRow base e size v n xs) (hb : base' ≤ base) : w.ownsRow base' e size v n xs := by
  refine ⟨h.1, ?_⟩
  rcases h.2 with h2 | ⟨g, cap, cur, e1, h3, r⟩
  · exact .inl h2
  · exact .inr ⟨g, cap, cur, e1, by omega, r⟩
theorem TabRel.below {w wr w' : World} {n : Nat} {f : Nat → Int} (h : TabRel w wr n f) (hb : Below wr.heap.size wr w') : TabRel w w' n f := ⟨h.blk.below hb h.blk.lt, h.bel.trans (hb.mono h.bel.size)⟩
theorem TabRel.congr2 {w wr : World} {n : Nat} {f f' : Nat → Int} (h : TabRel w wr n f) (hf : ∀ j, j < n → f' j = f j) : TabRel w wr n f' :=
  ⟨by have := h.blk; rw [← tab_congr (f := f') (g := f) hf] at this; exact this, h.bel⟩
theorem ofOne (l : List Hs.Cm) (hok : Hs.Ok l) (n : Nat) (hn : n < l.length) : tab l.length (Hs.of l fun x => [n].contains x) = tab l.length (Hs.reach l n) := tab_congr fun i _ => by
  have : (fun x => [n].contains x) = fun x => x == n := funext fun x => Hs.contains_one n x
  rw [this, hok.of_one n hn]
/-- 'Of' of one commit. -/
theorem of_single (w : World) (A A2 : Option Addr) (k : Nat) (l : List Hs.Cm) (n : Nat) (hv : CV w A l) (hok : Hs.Ok l) (hn : n < l.length) (h2 : IV w A2 (Hs.ints [n])) :
    Calls Try.prog 50 #[.slice A l.length k, .slice A2 1 1] w (TabBPost w l.length (Hs.reach l n)) := by
  refine (of_any w A A2 k 1 l [n] hv hok h2 (by simpa using hn) (by simp)).mono ?_
  rintro e w' ⟨g, he, hg, hb, hbel⟩
  rw [ofOne l hok n hn] at hb
  exact ⟨g, he, hg, hb, hbel⟩

structure BestSt (w wr : World) (l : List Hs.Cm) (cs : Nat → Int) (g2 base : Nat) (out : List Nat) (Ao : Option Addr) (co : Nat) (f : Nat → Bool) : Prop where
  cnt : Blk wr w.heap.size 3 (intsA (tab l.length cs))
  cov : Blk wr g2 4 (boolsA (tab l.length f))
  own : wr.ownsRow base 3 1 (.slice Ao out.length co) out.length (intsV (Hs.ints out))
  lt : g2 < base
  lo : w.heap.size < g2
  hi : base ≤ wr.heap.size
  bel : Below w.heap.size w wr
theorem BestSt.below {w wr w' : World} {l : List Hs.Cm} {cs : Nat → Int} {g2 base : Nat} {out : List Nat} {Ao : Option Addr} {co : Nat} {f : Nat → Bool} (h : BestSt w wr l cs g2 base out Ao co f) (hb : Below wr.heap.size wr w') : BestSt w w' l cs g2 base out Ao co f :=
  ⟨h.cnt.below hb h.cnt.lt, h.cov.below hb h.cov.lt, own_below (B := 0) h.own hb, h.lt, h.lo, Nat.le_trans h.hi hb.size, h.bel.trans (hb.mono h.bel.size)⟩
theorem BestSt.set_ {w wr : World} {l : List Hs.Cm} {cs : Nat → Int} {g2 base : Nat} {out : List Nat} {Ao : Option Addr} {co : Nat} {f f' : Nat → Bool} (h : BestSt w wr l cs g2 base out Ao co f) (i : Nat) (x : Bool)
    (hf : ∀ j, j < l.length → f' j = if j = i then x else f j) : BestSt w (wr.setCell ⟨g2, i, none⟩ (.bool x)) l cs g2 base out Ao co f' :=
  ⟨h.cnt.far (by have := h.lo; simp; omega) _, blk_tabB_set h.cov i x hf, own_far h.own h.lt _, h.lt, h.lo, by simpa [World.setCell] using h.hi, h.bel.setCell (by have := h.lo; simp; omega) _⟩
theorem BestSt.congr {w wr : World} {l : List Hs.Cm} {cs : Nat → Int} {g2 base : Nat} {out : List Nat} {Ao : Option Addr} {co : Nat} {f f' : Nat → Bool} (h : BestSt w wr l cs g2 base out Ao co f) (hf : ∀ j, j < l.length → f' j = f j) : BestSt w wr l cs g2 base out Ao co f' :=
  ⟨h.cnt, by have := h.cov; rw [← tab_congr (f := f') (g := f) hf] at this; exact this, h.own, h.lt, h.lo, h.hi, h.bel⟩
/-- A commit is put ahead of the row. -/
theorem BestSt.push {w wr w' : World} {l : List Hs.Cm} {cs : Nat → Int} {g2 base : Nat} {out : List Nat} {Ao A' : Option Addr} {co c' : Nat} {f : Nat → Bool} {i gl : Nat} (h : BestSt w wr l cs g2 base out Ao co f)
    (hgl : wr.heap.size = gl) (hg : (wr.alloc (.cells #[.int .i64 (i : Int)] 3)).grownBy w' (some gl)) (hown : w'.ownsRow gl 3 1 (.slice A' (1 + out.length) c') (1 + out.length) ([.int .i64 (i : Int)] ++ intsV (Hs.ints out))) :
    BestSt w w' l cs g2 base (i :: out) A' c' f := by
  subst hgl
  have hsz := hg.size
  have h1 := h.hi
  have h2 := h.cnt.lt
  have h3 := h.cov.lt
  refine ⟨(h.cnt.alloc _).grown hg (fun e => by injection e with e; omega), (h.cov.alloc _).grown hg (fun e => by injection e with e; omega), ?_, h.lt, h.lo, by simp at hsz; omega, (h.bel.alloc h.bel.size _).grown hg (by simp; have := h.bel.size; omega) (fun k e => by injection e with e; have := h.bel.size; omega)⟩
  have := own_base hown h1
  rw [Nat.add_comm] at this
  exact this

/-- Numbers. -/
def IPost (w : World) (xs : List Int) (e : Ending) (w' : World) : Prop := ∃ A c, e = .returned (.slice A xs.length c) ∧ xs.length ≤ c ∧ IV w' A xs ∧ (∀ ad, A = some ad → w.heap.size ≤ ad.block) ∧ Below w.heap.size w w'
theorem SV.setLow {w : World} {B lo : Nat} {A : Option Addr} {vs : List Value} (h : SV w B A vs) (hf : ∀ ad, A = some ad → lo ≤ ad.block) {p : Addr} (hp : p.block < lo) (u : Value) : SV (w.setCell p u) B A vs := by
  rcases h with h | ⟨b, off, e, hb, hc⟩
  · exact .inl h
  · have := hf _ e
    refine .inr ⟨b, off, e, hb, fun j x hx => (World.cell?_setCell_other w p _ u (fun e2 => ?_)).trans (hc j x hx)⟩
    subst e2; simp at hp this; omega
theorem IV.setLow {w : World} {lo : Nat} {A : Option Addr} {xs : List Int} (h : IV w A xs) (hf : ∀ ad, A = some ad → lo ≤ ad.block) {p : Addr} (hp : p.block < lo) (u : Value) : IV (w.setCell p u) A xs := by
  have := SV.setLow h hf hp u
  have e : (w.setCell p u).heap.size = w.heap.size := by simp [World.setCell]
  unfold IV; rw [e]; exact this

set_option maxRecDepth 100000 in
set_option maxHeartbeats 8000000 in
theorem best_any (w : World) (A A2 : Option Addr) (k c2 : Nat) (l : List Hs.Cm) (list : List Nat) (hv : CV w A l) (hok : Hs.Ok l) (h2 : IV w A2 (Hs.ints list)) (hin : ∀ x ∈ list, x < l.length) (hlen : list.length ≤ 60) :
    Calls Try.prog 55 #[.slice A l.length k, .slice A2 list.length c2] w (IPost w (Hs.ints (Hs.best l list))) := by
  obtain ⟨i0, hi0, hz0, hz1, hz2⟩ := info_parts info3
  have hl := hok.len
  have hmk := run_make_row' (P := Try.prog) 37 3 (.int .i64 0) 8 Try.underlying37 info3 rfl .i64 .i64 l.length (by omega) (by omega)
  have hmk2 := run_make_row' (P := Try.prog) 24 4 (.bool false) 1 Try.underlying24 info4 rfl .i64 .i64 l.length (by omega) (by omega)
  have HIN := Lib.hid hin
  have HO := Lib.hid (fun (w1 : World) (A2 : Option Addr) (n : Nat) h hn h2 => of_single w1 A A2 k l n h hok hn h2)
  have HL := Lib.hid (fun (i : Nat) (hi : i < list.length) (wr : World) hbel => nat_at (wr := wr) h2 hbel i hi)
  clear hin
  go_enter Try.func55, Try.ntmps55
  go_wp2_with fail
  go_loopw [20] (fun v wr => ∃ j : Nat, j ≤ list.length ∧ v = .int .i64 j ∧ TabRel w wr l.length (Hs.cntC l list j)) (fun v _ => list.length - (intOf v).toNat)
  case atStart => exact ⟨0, Nat.zero_le _, rfl, TabRel.congr2 (f := fun _ => 0) ⟨blk_made_int w 3 l.length, below_alloc1 _ _⟩ fun i _ => by simp [Hs.cntC]⟩
  case round =>
    obtain ⟨j, hj, rfl, st⟩ := hrel
    obtain ⟨wo, rfl⟩ : ∃ wo : World, wo = wr := ⟨_, rfl⟩
    have hsz := st.bel.size
    by_cases hjl : j < list.length
    · have hjl' : (j : Int) < list.length := by omega
      obtain ⟨b, off, e, hb, hc⟩ := HL.out j hjl wo st.bel
      subst e
      have hxl := HIN.out _ (List.getElem_mem hjl)
      have HE := Lib.hid (fun i hi => (Hs.cntCIn_all l list j i hjl hi).symm)
      generalize list[j] = x at *
      have st1 := st.alloc (.cells #[.int .i64 (x : Int)] 3)
      have hcv := hv.below st1.bel
      go_wp2_with fail
      go_at_call 50
      refine (HO.out _ _ x hcv hxl (lit_ints wo [(x : Int)] 3 _ rfl)).mono ?_
      rintro e w2 ⟨g2, rfl, hg2, hrow, hb2⟩
      have st2 : TabRel w w2 l.length (Hs.cntCIn l list j x 0) := (st1.below hb2).congr2 fun i _ => Hs.cntCIn_zero l list j x i
      have hne2 : w.heap.size < g2 := by have := st.blk.lt; simp at hg2; omega
      clear st st1 hb2 hcv
      go_wp2_with fail
      go_loopw [29] (fun v wr => ∃ kk : Nat, kk ≤ l.length ∧ v = .int .i64 kk ∧ TabRel w wr l.length (Hs.cntCIn l list j x kk) ∧ Blk wr g2 4 (boolsA (tab l.length (Hs.reach l x)))) (fun v _ => l.length - (intOf v).toNat)
      case atStart => exact ⟨0, Nat.zero_le _, rfl, st2, hrow⟩
      case round =>
        obtain ⟨kk, hk, rfl, st3, hrow3⟩ := hrel
        obtain ⟨w3, rfl⟩ : ∃ w3 : World, w3 = wr := ⟨_, rfl⟩
        clear st2 hrow
        by_cases hkl : kk < l.length
        · have hkl' : (kk : Int) < l.length := by omega
          have hr := blk_tabB hrow3 kk hkl
          have hcc := blk_tab st3.blk kk hkl
          have hfc := st3.blk.frozen kk
          have hbd := Hs.cntCIn_bd l list j x kk kk
          by_cases hre : Hs.reach l x kk = true
          · have HY := Lib.hid (fun i => Hs.cntCIn_yes l list j x kk i hre)
            have hst := st3.set_ (f' := Hs.cntCIn l list j x (kk + 1)) kk (Hs.cntCIn l list j x kk kk + 1) (fun i _ => HY.out i)
            have hfar := hrow3.far (p := ⟨w.heap.size, kk, none⟩) (by simp; omega) (.int .i64 (Hs.cntCIn l list j x kk kk + 1))
            rw [hre] at hr
            clear hre
            generalize Hs.cntCIn l list j x kk kk = cv at *
            go_wp2_with fail
            go_roundw
            case rel => exact ⟨kk + 1, by omega, by go_num, hst, hfar⟩
            case measure => simp [intOf]; omega
          · have hre' : Hs.reach l x kk = false := by simpa using hre
            have hst := st3.congr2 (f' := Hs.cntCIn l list j x (kk + 1)) (fun i _ => Hs.cntCIn_no l list j x kk i hre')
            rw [hre'] at hr
            clear hre hre'
            go_wp2_with fail
            go_roundw
            case rel => exact ⟨kk + 1, by omega, by go_num, hst, hrow3⟩
            case measure => simp [intOf]; omega
        · obtain rfl : kk = l.length := by omega
          have st4 : TabRel w w3 l.length (Hs.cntC l list (j + 1)) := st3.congr2 fun i hi => HE.out i hi
          go_wp2_with fail
          go_roundw
          case rel => exact ⟨j + 1, by omega, by go_num, st4⟩
          case measure => simp [intOf]; omega
    · obtain rfl : j = list.length := by omega
      have hlt0 := st.blk.lt
      have HCL := Lib.hid (Hs.cntC_lt l list)
      have HBD := Lib.hid (Hs.cntC_bd l list list.length)
      have HBEST := Lib.hid (hok.bestSt_best list)
      have st0 : BestSt w (wo.alloc (.cells (madeCells #[.bool false] l.length) 4)) l (Hs.cntC l list list.length) wo.heap.size (wo.heap.size + 1) [] none 0 (Hs.bestSt l (Hs.common l list) 0).2 :=
        ⟨st.blk.alloc _, blk_made_bool wo 4 l.length, World.ownsRow_nil _ _ _ _, by omega, hlt0, by simp, st.bel.alloc hsz _⟩
      clear st
      go_wp2_with fail
      go_loopw [10, 12] (fun ov iv wr => ∃ (m : Nat) (Ao : Option Addr) (co : Nat), m ≤ l.length ∧ ov = .slice Ao (Hs.bestSt l (Hs.common l list) m).1.length co ∧ iv = .int .i64 ((l.length : Int) - 1 - m) ∧
        BestSt w wr l (Hs.cntC l list list.length) wo.heap.size (wo.heap.size + 1) (Hs.bestSt l (Hs.common l list) m).1 Ao co (Hs.bestSt l (Hs.common l list) m).2) (fun _ iv _ => (intOf iv + 1).toNat)
      case atStart => exact ⟨0, none, 0, Nat.zero_le _, rfl, by simp, st0⟩
      case round =>
        obtain ⟨m, Ao, co, hm, rfl, rfl, st⟩ := hrel
        obtain ⟨w4, rfl⟩ : ∃ w4 : World, w4 = wr := ⟨_, rfl⟩
        clear st0
        by_cases hml : m < l.length
        · obtain ⟨i, hi⟩ : ∃ i : Nat, l.length - 1 - m = i := ⟨_, rfl⟩
          have hil : i < l.length := by omega
          have hri : (l.length : Int) - 1 - m = (i : Int) := by omega
          have HRI := Lib.hid hri
          rw [hri]
          clear hri
          have HNO := Lib.hid (Hs.bestSt_no l (Hs.common l list) m)
          have HYES := Lib.hid (Hs.bestSt_yes l (Hs.common l list) m)
          rw [hi] at HNO HYES
          clear hi
          have hbl := Hs.bestSt_len l (Hs.common l list) m
          have hci := blk_tab st.cnt i hil
          have hgi := blk_tabB st.cov i hil
          have hfi := st.cov.frozen i
          have hbd := HBD.out i
          have hlti := HCL.out i
          have hil' : (i : Int) < l.length := by omega
          have hnat : ((i : Int) - 1) = (l.length : Int) - 1 - ((m + 1 : Nat) : Int) := by have := HRI.out; omega
          have HNAT := Lib.hid hnat
          clear hnat
          by_cases hcom : Hs.common l list i = true
          · cases hcov : (Hs.bestSt l (Hs.common l list) m).2 i with
            | true =>
              rw [hcov] at hgi
              have HN2 := Lib.hid (HNO.out (.inr hcov))
              have hge : ¬ Hs.cntC l list list.length i < list.length := fun h => by rw [hlti.1 h] at hcom; cases hcom
              have hge' : decide (Hs.cntC l list list.length i < (list.length : Int)) = false := by simpa using hge
              clear hcov hcom hlti hge
              generalize Hs.cntC l list list.length i = cv at *
              go_wp2_with fail
              go_roundw
              case rel => exact ⟨m + 1, Ao, co, by omega, by rw [HN2.out], by rw [← HNAT.out], by rw [HN2.out]; exact st⟩
              case measure => simp [intOf]
            | false =>
              rw [hcov] at hgi
              have HY2 := Lib.hid (HYES.out hcom hcov)
              have hge : ¬ Hs.cntC l list list.length i < list.length := fun h => by rw [hlti.1 h] at hcom; cases hcom
              have hge' : decide (Hs.cntC l list list.length i < (list.length : Int)) = false := by simpa using hge
              clear hcov hcom hlti hge HNO HYES
              generalize Hs.cntC l list list.length i = cv at *
              generalize Hs.bestSt l (Hs.common l list) m = bs at *
              obtain ⟨out, cov⟩ := bs
              simp only at st hgi hbl HY2 ⊢
              have hsz4 := st.bel.size
              have hlt4 := st.cov.lt
              go_wp2_with (first | (at_builtin; refine wpList_appN _ rfl (.tmp 67) (.tmp 68) 37 rfl w4.heap.size 3 i0 _ 1 8 Try.underlying37 hi0 hz0 hz1 hz2 rfl (by decide) (some ⟨w4.heap.size, 0, none⟩) 1 1 [.int .i64 (i : Int)] rfl (World.ownsRow_lit w4 #[.int .i64 (i : Int)] 1 (Nat.le_refl _) (by simp [maxLen]) rfl) _ Ao out.length co (intsV (Hs.ints out)) rfl ?ha (SV.of_own (st.own.alloc _)) (intsV_one _) ?hb ?hc ?hd ?_))
              case ha => simp
              case hb => simp [maxLen]; omega
              case hc => omega
              case hd => simp
              intro A' c' w5 hown5 hg5 _
              have st5 := st.push rfl hg5 hown5
              have hsz5 := hg5.size
              have hcv := hv.below (st5.bel.alloc st5.bel.size (.cells #[.int .i64 (i : Int)] 3))
              clear hown5 hg5 st
              go_wp2_with fail
              go_at_call 50
              refine (HO.out _ _ i hcv hil (lit_ints w5 [(i : Int)] 3 _ rfl)).mono ?_
              rintro e w6 ⟨g6, rfl, hg6, hrow, hb6⟩
              have st6 : BestSt w w6 l (Hs.cntC l list list.length) wo.heap.size (wo.heap.size + 1) (i :: out) A' c' (Hs.covIn l cov i 0) :=
                ((st5.below (below_alloc1 w5 _)).below hb6).congr fun kx _ => by unfold Hs.covIn; rw [if_neg (by omega)]
              have hne6 : wo.heap.size < g6 := by simp at hg6 hsz5; omega
              clear st5 hb6 hcv hg6
              go_wp2_with fail
              go_loopw [75] (fun v wr => ∃ kk : Nat, kk ≤ l.length ∧ v = .int .i64 kk ∧ BestSt w wr l (Hs.cntC l list list.length) wo.heap.size (wo.heap.size + 1) (i :: out) A' c' (Hs.covIn l cov i kk) ∧ Blk wr g6 4 (boolsA (tab l.length (Hs.reach l i)))) (fun v _ => l.length - (intOf v).toNat)
              case atStart => exact ⟨0, Nat.zero_le _, rfl, st6, hrow⟩
              case round =>
                obtain ⟨kk, hk, rfl, st7, hrow7⟩ := hrel
                obtain ⟨w7, rfl⟩ : ∃ w7 : World, w7 = wr := ⟨_, rfl⟩
                clear st6 hrow
                by_cases hkl : kk < l.length
                · have hkl' : (kk : Int) < l.length := by omega
                  have hr := blk_tabB hrow7 kk hkl
                  have hcc := blk_tabB st7.cov kk hkl
                  have hfc := st7.cov.frozen kk
                  have hst := st7.set_ (f' := Hs.covIn l cov i (kk + 1)) kk (Hs.covIn l cov i kk kk || Hs.reach l i kk) (fun j _ => Hs.covIn_succ l cov i kk j)
                  have HFAR := Lib.hid (fun u => hrow7.far (p := ⟨wo.heap.size, kk, none⟩) (by simp; omega) u)
                  generalize Hs.covIn l cov i kk kk = v1 at *
                  generalize Hs.reach l i kk = v2 at *
                  cases v1
                  · simp only [Bool.false_or] at hst
                    go_wp2_with fail
                    go_roundw
                    case rel => exact ⟨kk + 1, by omega, by go_num, hst, HFAR.out _⟩
                    case measure => simp [intOf]; omega
                  · simp only [Bool.true_or] at hst
                    go_wp2_with fail
                    go_roundw
                    case rel => exact ⟨kk + 1, by omega, by go_num, hst, HFAR.out _⟩
                    case measure => simp [intOf]; omega
                · obtain rfl : kk = l.length := by omega
                  have st8 : BestSt w w7 l (Hs.cntC l list list.length) wo.heap.size (wo.heap.size + 1) (i :: out) A' c' (fun kx => cov kx || Hs.reach l i kx) := st7.congr fun kx hkx => by unfold Hs.covIn; rw [if_pos hkx]
                  go_wp2_with fail
                  go_roundw
                  case rel => exact ⟨m + 1, A', _, by omega, by rw [HY2.out, List.length_cons, Nat.add_comm], by rw [← HNAT.out], by rw [HY2.out]; exact st8⟩
                  case measure => simp [intOf]
          · have hcom' : Hs.common l list i = false := by simpa using hcom
            have HN2 := Lib.hid (HNO.out (.inl hcom'))
            have hlt' : decide (Hs.cntC l list list.length i < (list.length : Int)) = true := by simpa using hlti.2 hcom'
            clear hcom hcom' hlti
            generalize Hs.cntC l list list.length i = cv at *
            go_wp2_with fail
            go_roundw
            case rel => exact ⟨m + 1, Ao, co, by omega, by rw [HN2.out], by rw [← HNAT.out], by rw [HN2.out]; exact st⟩
            case measure => simp [intOf]
        · obtain rfl : m = l.length := by omega
          rw [HBEST.out] at st ⊢
          go_wp2_with fail
          go_ret
          obtain ⟨A', c', e1, hcc, _⟩ := own_form st.own
          injection e1 with _ _ e3
          subst e3
          exact ⟨Ao, co, by rw [Hs.ints_length]; rfl, by rw [Hs.ints_length]; exact hcc, SV.of_own st.own, fun ad ea => by have := (st.own.lt ad.block (by rw [ea]; rfl)).1; have := st.lo; have := st.lt; omega, st.bel⟩
end Go.Proofs.Ytoohmkdgimkgoaa
