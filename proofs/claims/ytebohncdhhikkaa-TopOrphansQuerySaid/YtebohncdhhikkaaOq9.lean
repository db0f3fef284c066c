/-
  Queries: the view of a slice of nodes; walks of 'revset.Validate' at a query that is right, and of 'one'.
-/
import Derived.Test.YtebohncdhhikkaaOq8
namespace Fl
section
variable {α : Type} {f : α → List Go.Value} {k : Nat}
theorem len (hk : ∀ a, (f a).length = k) : ∀ l : List α, (l.flatMap f).length = l.length * k
  | [] => by simp
  | a :: l => by rw [List.flatMap_cons, List.length_append, hk, len hk l, List.length_cons, Nat.succ_mul]; omega
theorem get (hk : ∀ a, (f a).length = k) : ∀ (i : Nat) (l : List α) (hi : i < l.length) (j : Nat) (u : Go.Value), (f l[i])[j]? = some u → (l.flatMap f)[i * k + j]? = some u
  | 0, a :: l, hi, j, u, h => by
    have hj : j < (f a).length := (List.getElem?_eq_some_iff.1 h).1
    rw [List.flatMap_cons, Nat.zero_mul, Nat.zero_add, List.getElem?_append_left hj]; exact h
  | i + 1, a :: l, hi, j, u, h => by
    rw [List.flatMap_cons, List.getElem?_append_right (by rw [hk, Nat.succ_mul]; omega), hk]
    have e : (i + 1) * k + j - k = i * k + j := by rw [Nat.succ_mul]; omega
    rw [e]
    exact get hk i l (by simpa using hi) j u h
end
end Fl
namespace Oq
theorem run_drop {l : List N} {i : Nat} {rs : List Int} {r : Int} (hi : i < l.length) (h : run (l.drop i) i rs = some [r]) : chk l[i] rs = 0 ∧ run (l.drop (i + 1)) (i + 1) (nxt l[i] i rs) = some [r] := by
  rw [List.drop_eq_getElem_cons hi, run] at h
  split at h
  · rename_i hc; exact ⟨hc, h⟩
  · cases h
end Oq
namespace Go.Proofs.Ytebohncdhhikkaa
open Go.RowKit Go.V
set_option linter.unusedVariables false

/-- A slice of nodes reads as l. -/
def QV (w : World) (A : Option Addr) (l : List Oq.N) : Prop := SV w w.heap.size A (nsV l)
theorem QV.below {w w' : World} {A : Option Addr} {l : List Oq.N} (h : QV w A l) (hb : Below w.heap.size w w') : QV w' A l := (SV.below h hb (Nat.le_refl _)).more hb.size
theorem QV.at_ {w wr : World} {A : Option Addr} {l : List Oq.N} (h : QV w A l) (hb : Below w.heap.size w wr) (i : Nat) (hi : i < l.length) : ∃ b off, A = some ⟨b, off, none⟩ ∧ b < w.heap.size ∧
    wr.cell? ⟨b, off + i * 4, none⟩ = some (.int .i64 l[i].kind) ∧ wr.cell? ⟨b, off + i * 4 + 1, none⟩ = some (.int .i64 l[i].num) ∧ wr.cell? ⟨b, off + i * 4 + 2, none⟩ = some (.int .i64 l[i].left) ∧ wr.cell? ⟨b, off + i * 4 + 3, none⟩ = some (.int .i64 l[i].right) := by
  have hl := Fl.len nC_len l
  rcases h with h | ⟨b, off, e, hbs, hc⟩
  · have : (nsV l).length = 0 := by rw [h]; rfl
    rw [hl] at this; omega
  · have G : ∀ j u, (nC l[i])[j]? = some u → wr.cell? ⟨b, off + (i * 4 + j), none⟩ = some u := fun j u hu => (hb.cell (p := ⟨b, off + (i * 4 + j), none⟩) hbs).trans (hc _ u (Fl.get nC_len i l hi j u hu))
    exact ⟨b, off, e, hbs, G 0 _ rfl, by have := G 1 _ rfl; rwa [← Nat.add_assoc] at this, by have := G 2 _ rfl; rwa [← Nat.add_assoc] at this, by have := G 3 _ rfl; rwa [← Nat.add_assoc] at this⟩
theorem own_take {w : World} {base c n m : Nat} {e : TypeId} {A : Option Addr} {xs : List Value} (h : w.ownsRow base e 1 (.slice A n c) n xs) (hm : m ≤ n) : w.ownsRow base e 1 (.slice A m c) m (xs.take m) := by
  obtain ⟨h1, h2⟩ := h
  refine ⟨by rw [List.length_take, h1]; omega, ?_⟩
  rcases h2 with ⟨e1, e2⟩ | ⟨g, cap, cur, e1, h2, h3, h4, h5, h6, h7⟩
  · subst e2
    obtain rfl : m = 0 := by omega
    exact .inl ⟨e1, rfl⟩
  · injection e1 with e1 e2 e3
    subst e1
    subst e3
    refine .inr ⟨g, c, cur, rfl, h2, h3, by omega, h5, h6, ?_⟩
    rw [← h7, List.take_take, Nat.mul_one, Nat.mul_one, Nat.min_eq_left hm]
theorem own_cap {w : World} {base c n sz : Nat} {e : TypeId} {A : Option Addr} {xs : List Value} (h : w.ownsRow base e sz (.slice A n c) n xs) : n ≤ c := by
  obtain ⟨_, _, h1, h2, _⟩ := own_form h
  injection h1 with _ _ h3
  rw [h3]; exact h2
theorem slice_to26 (W : World) (A : Option Addr) (n k m : Nat) (hk : m ≤ k) : (Instr.slice 26 (.slice A n k) none (some (.int .i64 (m : Int))) none).run Try.prog W = .ok (.slice A m k) W := by
  have hu := Try.underlying26
  rw [run_slice_h W 26 A n k (by rw [hu]; rfl) .i64 (m : Int) (by omega) (by omega)]
  simp [go_sem]
set_option maxRecDepth 100000 in
set_option maxHeartbeats 16000000 in
theorem vq_any (w : World) (A : Option Addr) (k : Nat) (l : List Oq.N) (r : Int) (hv : QV w A l) (h0 : 0 < l.length) (h40 : l.length ≤ 40) (hrun : Oq.run l 0 [] = some [r]) :
    Calls Try.prog 27 #[.agg #[.slice A l.length k]] w fun e w' => e = .returned (.agg #[.int .i64 0, .int .i64 0]) ∧ Below w.heap.size w w' := by
  have HV := Lib.hid (fun (w1 : World) (hb : Below w.heap.size w w1) (i : Nat) (hi : i < l.length) => hv.at_ hb i hi)
  have HD := Lib.hid (fun (i : Nat) (rs : List Int) (hi : i < l.length) (h : Oq.run (l.drop i) i rs = some [r]) => Oq.run_drop hi h)
  have HR0 := Lib.hid (show Oq.run (l.drop 0) 0 [] = some [r] from hrun)
  have HE := Lib.hid (show ∀ rs, Oq.run (l.drop l.length) l.length rs = some [r] → rs = [r] from fun rs h => by rw [List.drop_length] at h; simpa [Oq.run] using h)
  obtain ⟨i0, hi0, hz0, hz1, hz2⟩ := info_parts info3
  have hz : ¬ ((l.length : Int) = 0) := by omega
  have hz' : ((l.length : Int) == 0) = false := by simpa using hz
  have h40' : ¬ (40 : Int) < (l.length : Int) := by omega
  have bq := (Blk.new w 38 #[.slice A l.length k]).alloc (.cells #[.int .i64 0, .int .i64 0] 28)
  have br := blk_new1 w (.cells #[.slice A l.length k] 38) 28 #[.int .i64 0, .int .i64 0]
  have hb0 := below_alloc2 w (.cells #[.slice A l.length k] 38) (.cells #[.int .i64 0, .int .i64 0] 28)
  clear hrun hv
  go_enter Try.func27, Try.ntmps27
  go_wp2_with fail
  go_loopw [3, 21] (fun ov iv wr => ∃ (i : Nat) (rs : List Int) (Ao : Option Addr) (co : Nat), i ≤ l.length ∧ rs.length ≤ i ∧ ov = .slice Ao rs.length co ∧ iv = .int .i64 i ∧ Hid (Oq.run (l.drop i) i rs = some [r]) ∧ Blk wr w.heap.size 38 #[.slice A l.length k] ∧ Blk wr (w.heap.size + 1) 28 #[.int .i64 0, .int .i64 0] ∧ Below w.heap.size w wr ∧ wr.ownsRow w.heap.size 3 1 (.slice Ao rs.length co) rs.length (intsV rs)) (fun _ iv _ => l.length - (intOf iv).toNat)
  case atStart => exact ⟨0, [], none, 0, Nat.zero_le _, Nat.le_refl _, rfl, rfl, HR0, bq, br, hb0, World.ownsRow_nil _ _ _ _⟩
  case round =>
    clear bq br hb0 HR0
    obtain ⟨i, rs, Ao, co, hi, hrl, rfl, rfl, HR, bq, br, hbel, hown⟩ := hrel
    obtain ⟨wo, rfl⟩ : ∃ wo : World, wo = wr := ⟨_, rfl⟩
    have hsz := hbel.size
    by_cases hlt : i < l.length
    · have hlt' : (i : Int) < l.length := by omega
      obtain ⟨b, off, e, hbs, d0, d1, d2, d3⟩ := HV.out _ hbel i hlt
      subst e
      have HD2 := Lib.hid (HD.out i rs hlt HR.out)
      have hbo : b < wo.heap.size := Nat.lt_of_lt_of_le hbs hsz
      generalize l[i] = x at *
      have hc := HD2.out.1
      have HN := Lib.hid HD2.out.2
      obtain ⟨c1, c2, c3, c4, c5, c6, c7⟩ := Oq.chk_zero hc
      clear HD2 HR c1 c2 c3 c4 c6 c7
      have hivw := SV.of_own (hown.alloc (.cells #[.int .i64 x.kind, .int .i64 x.num, .int .i64 x.left, .int .i64 x.right] 50))
      have hf2 := own_cap hown
      have HCK := Lib.hid (ncheck_ok (wo.alloc (.cells #[.int .i64 x.kind, .int .i64 x.num, .int .i64 x.left, .int .i64 x.right] 50)) x i Ao co rs hivw (by omega) hf2 hc)
      have HO := Lib.hid (fun w1 => operands_any w1 x.kind)
      have bx := Blk.new wo 50 #[.int .i64 x.kind, .int .i64 x.num, .int .i64 x.left, .int .i64 x.right]
      replace bq := bq.alloc (.cells #[.int .i64 x.kind, .int .i64 x.num, .int .i64 x.left, .int .i64 x.right] 50)
      replace br := br.alloc (.cells #[.int .i64 x.kind, .int .i64 x.num, .int .i64 x.left, .int .i64 x.right] 50)
      replace hbel := hbel.alloc hsz (.cells #[.int .i64 x.kind, .int .i64 x.num, .int .i64 x.left, .int .i64 x.right] 50)
      replace hown := hown.alloc (.cells #[.int .i64 x.kind, .int .i64 x.num, .int .i64 x.left, .int .i64 x.right] 50)
      have hnl : (Oq.nxt x i rs).length = rs.length - Oq.ar x.kind + 1 := by unfold Oq.nxt; simp
      have hnx : Oq.nxt x i rs = rs.take (rs.length - Oq.ar x.kind) ++ [(i : Int)] := rfl
      generalize Oq.nxt x i rs = ns at *
      generalize Oq.ar x.kind = ar at *
      obtain ⟨xk, xn, xl, xr⟩ := x
      simp only at *
      clear hc hivw
      have hq0 := (bq.cell 0).trans rfl
      have hlq := bq.lt
      go_wp2_with fail
      go_at_call 38
      with_reducible refine HCK.out.mono ?_
      rintro e w1 ⟨rfl, hb1⟩
      replace bx := bx.below hb1 (by simp)
      replace bq := bq.below hb1 (by simp; omega)
      replace br := br.below hb1 (by have := br.lt; simpa using this)
      replace hbel := hbel.trans (hb1.mono (by simp; omega))
      replace hown := own_below hown hb1
      clear HCK hb1 hq0
      have q0 := (bx.cell 0).trans rfl
      have lx := bx.lt
      have hsz1 := hbel.size
      have hsub : IntKind.i64.wrap ((rs.length : Int) - (ar : Nat)) = ((rs.length - ar : Nat) : Int) := by rw [IntWalk.i64_in _ (by omega)]; omega
      have hsl := fun W => slice_to26 W Ao rs.length co (rs.length - ar) (by omega)
      have hot := own_take hown (Nat.sub_le rs.length ar)
      have hxs : (intsV rs).take (rs.length - ar) = intsV (rs.take (rs.length - ar)) := by simp [intsV, List.map_take]
      rw [hxs] at hot
      have h63 : rs.length - ar + 1 ≤ maxLen := by unfold maxLen; omega
      have hby : (rs.length - ar + 1) * 8 ≤ 140737488355328 := by omega
      have hlm : rs.length - ar + 1 ≤ i + 1 := by omega
      have hns : intsV ns = intsV (rs.take (rs.length - ar)) ++ [.int .i64 (i : Int)] := by rw [hnx]; simp [intsV]
      clear hnx hxs hown
      have hu : (w1.alloc (.cells #[.int .i64 (i : Int)] 3)).cell? ⟨w1.heap.size, 0, none⟩ = some (.int .i64 (i : Int)) := ((Blk.new w1 3 #[.int .i64 (i : Int)]).cell 0).trans rfl
      generalize rs.take (rs.length - ar) = ts at *
      generalize hm : rs.length - ar = m at *
      go_wp2_with (first
        | (go_at_call 28; with_reducible refine (HO.out _).mono ?_; rintro e w' ⟨rfl, rfl⟩)
        | (at_builtin; refine wpList_app1 _ rfl (.tmp 42) (.tmp 44) 26 rfl w.heap.size 3 i0 (.int .i64 0) 8 Try.underlying26 hi0 hz0 hz1 hz2 rfl Ao m co (intsV ts) rfl (hot.alloc _) _ 1 (.int .i64 (i : Int)) rfl hu rfl h63 hby (Nat.le_trans hsz1 (by simp)) ?_))
      intro A' c' w' hown' hg' hc'
      have hk := app_keep hot _ hg' hsz1
      have hb5 := hk.2.1 w _ (Nat.le_refl _) hbel
      have bq5 := hk.1 _ _ _ (by decide) bq
      have br5 := hk.1 _ _ _ (by decide) br
      clear hk hg' hot hu hc' bq br hbel
      rw [← hns] at hown'
      go_wp2_with fail
      go_roundw
      case rel => exact ⟨i + 1, ns, A', c', by omega, by omega, by rw [hnl], by go_num, HN, bq5, br5, hb5, by rw [hnl]; exact hown'⟩
      case measure => simp [intOf]; omega
    · obtain rfl : i = l.length := by omega
      obtain rfl := HE.out rs HR.out
      have q0 := (br.cell 0).trans rfl
      have q1 := (br.cell 1).trans rfl
      have f0 := br.frozen 0
      have f1 := br.frozen 1
      have l1 := br.lt
      have hb5 := (hbel.setCell (p := ⟨w.heap.size + 1, 0, none⟩) (by simp) (.int .i64 0)).setCell (p := ⟨w.heap.size + 1, 1, none⟩) (by simp) (.int .i64 0)
      go_wp2_with fail
      refine bodyPost_ret (results_c rfl _ _ (w.heap.size + 1) (.int .i64 0) (.int .i64 0) rfl (blk_put26 br _ _)) rfl ?_
      exact ⟨rfl, hb5⟩
end Go.Proofs.Ytebohncdhhikkaa
