/-
  Queries: walks of 'Join' and 'mlSelects'.
-/
import Derived.Test.YtebohncdhhikkaaOq12
import Derived.Test.YtebohncdhhikkaaOq13
import Derived.OwnWalk
namespace Go.Proofs.Ytebohncdhhikkaa
open Go.RowKit Go.V
set_option linter.unusedVariables false
theorem results_q {fn : Func} {a : Tmp} (h : fn.results = #[.cell a 38]) (tmps : Array Value) (w : World) (g : Nat) (x : Value) (ha : tmps.getD a undef = .pointer (some ⟨g, 0, none⟩)) (hb : Blk w g 38 #[x]) :
    (results fn tmps).run Try.prog w = .ok (.agg #[x]) w := by
  have h0 := hb.cell 0
  simp only [List.getElem?_toArray, List.getElem?_cons_zero] at h0
  have ha' : tmps[a]?.getD undef = .pointer (some ⟨g, 0, none⟩) := by simpa using ha
  simp [results, h, go_sem, ha', h0]
theorem own_base {w : World} {base base' : Nat} {e : TypeId} {size n : Nat} {v : Value} {xs : List Value} (h : w.ownsRow base e size v n xs) (hb : base' ≤ base) : w.ownsRow base' e size v n xs := by
  obtain ⟨h3, h4⟩ := h
  refine ⟨h3, ?_⟩
  rcases h4 with h4 | ⟨g, cap, cur, e1, e2, h5⟩
  · exact .inl h4
  · exact .inr ⟨g, cap, cur, e1, Nat.le_trans hb e2, h5⟩
/-- A query that the call has made. -/
def JnPost (w : World) (l : List Oq.N) (e : Ending) (w' : World) : Prop := ∃ A c, e = .returned (.agg #[.slice A l.length c]) ∧ w'.ownsRow w.heap.size 50 4 (.slice A l.length c) l.length (nsV l) ∧ Below w.heap.size w w'
set_option maxRecDepth 100000 in
set_option maxHeartbeats 8000000 in
theorem join_any (w : World) (kk : Int) (A1 A2 : Option Addr) (k1 k2 : Nat) (l m : List Oq.N) (h1 : QV w A1 l) (h2 : QV w A2 m) (hl : l.length ≤ 40) (hm : m.length ≤ 40) (hp : ∀ x ∈ m, (-1000 ≤ x.left ∧ x.left ≤ 1000) ∧ (-1000 ≤ x.right ∧ x.right ≤ 1000)) :
    Calls Try.prog 10 #[.int .i64 kk, .agg #[.slice A1 l.length k1], .agg #[.slice A2 m.length k2]] w (JnPost w (Oq.joined kk l m)) := by
  have HJ := Lib.hid (fun (w1 : World) (hb : Below w.heap.size w w1) => joined_any w1 kk A1 A2 k1 k2 l m (h1.below hb) (h2.below hb) hl hm hp)
  have b1 := ((Blk.new w 38 #[.slice A1 l.length k1]).alloc (.cells #[.slice A2 m.length k2] 38)).alloc (.cells #[.slice none 0 0] 38)
  have b2 := (blk_new1 w (.cells #[.slice A1 l.length k1] 38) 38 #[.slice A2 m.length k2]).alloc (.cells #[.slice none 0 0] 38)
  have b3 : Blk (((w.alloc (.cells #[.slice A1 l.length k1] 38)).alloc (.cells #[.slice A2 m.length k2] 38)).alloc (.cells #[.slice none 0 0] 38)) (w.heap.size + 2) 38 #[.slice none 0 0] := by
    have := Blk.new ((w.alloc (.cells #[.slice A1 l.length k1] 38)).alloc (.cells #[.slice A2 m.length k2] 38)) 38 #[.slice none 0 0]
    simpa using this
  have hb0 := below_alloc3 w (.cells #[.slice A1 l.length k1] 38) (.cells #[.slice A2 m.length k2] 38) (.cells #[.slice none 0 0] 38)
  have c1 := (b1.cell 0).trans rfl
  have c2 := (b2.cell 0).trans rfl
  have HJ2 := Lib.hid (HJ.out _ hb0)
  clear h1 h2 hp HJ
  generalize Oq.joined kk l m = J at *
  go_enter Try.func10, Try.ntmps10
  go_wp2_with fail
  go_at_call 26
  with_reducible refine HJ2.out.mono ?_
  rintro e w1 ⟨A, c, rfl, hown, hb1⟩
  have b3' := b3.below hb1 b3.lt
  have hbel := hb0.trans (hb1.mono hb0.size)
  have hs0 := hb0.size
  have hown2 := own_setCell (own_base hown hs0) (own_blk_ne hown b3' (by decide)) (p := ⟨w.heap.size + 2, 0, none⟩) (.slice A J.length c)
  have b4 := b3'.set_ 0 (.slice A J.length c)
  have f3 := b3'.frozen 0
  have l3 := b3'.lt
  have q3 := (b3'.cell 0).trans rfl
  clear b1 b2 c1 c2 hown hb1 HJ2 b3
  go_wp2_with fail
  refine bodyPost_ret (results_q rfl _ _ (w.heap.size + 2) (.slice A J.length c) rfl b4) rfl ?_
  exact ⟨A, c, rfl, hown2, hbel.setCell (by simp; omega) _⟩
/-- What 'mlSelects' tells of a query that is right. -/
def MsPost (w : World) (l : List Hs.Cm) (q : List Oq.N) (e : Ending) (w' : World) : Prop :=
  ∃ A c, e = .returned (.tuple #[.slice A (Oq.selN (Oq.val l q) l.length).length c, .bool true]) ∧ IV w' A (Hs.ints (Oq.selN (Oq.val l q) l.length)) ∧ Below w.heap.size w w'
set_option maxRecDepth 100000 in
set_option maxHeartbeats 8000000 in
theorem mlSelects_any (w : World) (A A2 : Option Addr) (k k2 : Nat) (l : List Hs.Cm) (q : List Oq.N) (hv : CV w A l) (hok : Hs.Ok l) (hq : QV w A2 q) (h0 : 0 < q.length) (h40 : q.length ≤ 40) (r : Int) (hrun : Oq.run q 0 [] = some [r]) (hko : Oq.KOk q) :
    Calls Try.prog 9 #[.slice A l.length k, .agg #[.slice A2 q.length k2]] w (MsPost w l q) := by
  have hl60 := hok.len
  have hb0 := below_alloc1 w (.cells #[.slice A2 q.length k2] 38)
  have HE := Lib.hid (eval_any _ A A2 k k2 l q (hv.below hb0) hok (hq.below hb0) h0 h40 r hrun hko)
  have hPost : ∀ e w', MsPost w l q e w' ↔ ∃ A c, e = .returned (.tuple #[.slice A (Oq.selN (Oq.val l q) l.length).length c, .bool true]) ∧ IV w' A (Hs.ints (Oq.selN (Oq.val l q) l.length)) ∧ Below w.heap.size w w' := fun _ _ => Iff.rfl
  obtain ⟨i0, hi0, hz0, hz1, hz2⟩ := info_parts info3
  clear hv hq hrun hko hok
  go_enter Try.func9, Try.ntmps9
  go_wp2_with fail
  go_at_call 14
  with_reducible refine HE.out.mono ?_
  rintro e w1 ⟨A3, c3, rfl, hbv, hb1⟩
  have hbel1 := hb0.trans (hb1.mono hb0.size)
  have hbB := hbel1.alloc hbel1.size (.cells #[.int .i64 0, .int .i64 0] 28)
  have bF := Blk.new w1 28 #[.int .i64 0, .int .i64 0]
  have HPs := Lib.hid hPost
  clear HE hb0 hb1 hPost
  generalize Oq.val l q = f at *
  generalize l.length = n at *
  have HV := Lib.hid (fun (wr : World) (hb : Below w1.heap.size w1 wr) (i : Nat) (hi : i < n) => hbv.atIn hb i (by simpa using hi))
  have HG := Lib.hid (fun (i : Nat) (hi : i < n) => tab_get n f i (by simpa using hi))
  have hq1 := below_alloc1 w1 (.cells #[.int .i64 0, .int .i64 0] 28)
  clear hbv
  go_wp2_with fail
  go_loopw [8, 9] (fun ov iv wr => ∃ (i : Nat) (Ao : Option Addr) (co : Nat), i ≤ n ∧ ov = .slice Ao (Oq.selN f i).length co ∧ iv = .int .i64 i ∧ Below w1.heap.size w1 wr ∧ Blk wr w1.heap.size 28 #[.int .i64 0, .int .i64 0] ∧ wr.ownsRow w1.heap.size 3 1 (.slice Ao (Oq.selN f i).length co) (Oq.selN f i).length (intsV (Hs.ints (Oq.selN f i)))) (fun _ iv _ => n - (intOf iv).toNat)
  case atStart => exact ⟨0, none, 0, Nat.zero_le _, rfl, rfl, hq1, bF, World.ownsRow_nil _ _ _ _⟩
  case round =>
    clear bF hq1 hbB
    obtain ⟨i, Ao, co, hi, rfl, rfl, hb, bF, hown⟩ := hrel
    obtain ⟨wo, rfl⟩ : ∃ wo : World, wo = wr := ⟨_, rfl⟩
    have hsz := hb.size
    by_cases hlt : i < n
    · have hlt' : (i : Int) < n := by omega
      obtain ⟨b, off, e, hbs, hc⟩ := HV.out _ hb i hlt
      subst e
      rw [HG.out i hlt] at hc
      have HS := Lib.hid (Oq.selN_succ f i)
      have hsl := Oq.selN_len f i
      generalize Oq.selN f i = os at *
      generalize f i = v at *
      cases v with
      | false =>
        have HE : Hid (Oq.selN f (i + 1) = os) := Lib.hid (by rw [HS.out]; simp)
        clear HS
        go_wp2_with fail
        go_roundw
        case rel => exact ⟨i + 1, Ao, co, by omega, by rw [HE.out], by go_num, hb, bF, by rw [HE.out]; exact hown⟩
        case measure => simp [intOf]; omega
      | true =>
        have HE : Hid (Oq.selN f (i + 1) = os ++ [i]) := Lib.hid (by rw [HS.out]; simp)
        clear HS
        have h63 : os.length + 1 ≤ maxLen := by unfold maxLen; omega
        have hby : (os.length + 1) * 8 ≤ 140737488355328 := by omega
        have hu : (wo.alloc (.cells #[.int .i64 (i : Int)] 3)).cell? ⟨wo.heap.size, 0, none⟩ = some (.int .i64 (i : Int)) := ((Blk.new wo 3 #[.int .i64 (i : Int)]).cell 0).trans rfl
        go_wp2_with (first | (at_builtin; refine wpList_app1 _ rfl (.tmp 26) (.tmp 28) 26 rfl w1.heap.size 3 i0 (.int .i64 0) 8 Try.underlying26 hi0 hz0 hz1 hz2 rfl Ao os.length co (intsV (Hs.ints os)) rfl (hown.alloc _) wo.heap.size 1 (.int .i64 (i : Int)) rfl hu rfl h63 hby (Nat.le_trans hsz (by simp)) ?_))
        intro A' c' w' hown' hg' hc'
        have hb5 := (app_keep hown _ hg' hsz).2.1 w1 _ (Nat.le_refl _) hb
        have bF5 := (app_keep hown _ hg' hsz).1 _ _ _ (by decide) bF
        clear hg' hown hu hc' bF
        go_wp2_with fail
        go_roundw
        case rel => exact ⟨i + 1, A', c', by omega, by rw [HE.out]; simp, by go_num, hb5, bF5, by rw [HE.out, ints_snoc]; simpa using hown'⟩
        case measure => simp [intOf]; omega
    · obtain rfl : i = n := by omega
      have hfin := hbel1.trans (hb.mono hbel1.size)
      have HF := Lib.hid ((HPs.out _ wo).2 ⟨Ao, co, rfl, SV.of_own hown, hfin⟩)
      have q0 := (bF.cell 0).trans rfl
      have l0 := bF.lt
      clear hown HPs
      generalize Oq.selN f i = os at *
      go_wp2_with fail
      go_ret2
      exact HF.out
end Go.Proofs.Ytebohncdhhikkaa
