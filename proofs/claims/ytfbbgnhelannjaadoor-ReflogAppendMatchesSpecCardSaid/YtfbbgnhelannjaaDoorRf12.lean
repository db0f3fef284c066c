/-
  References: walk of 'slices.Insert': one reference put into a row of the call's own.
-/
import Derived.Test.YtfbbgnhelannjaaDoorRf11
import Derived.Test.YtfbbgnhelannjaaDoorView15
import Derived.Test.YtfbbgnhelannjaaDoorView7
namespace Go.Proofs.YtfbbgnhelannjaaDoor
open Go.RowKit Go.V Go.Shelf Go.Lib
set_option linter.unusedVariables false

theorem info51 : (Tryd.prog.info? 51).map (fun i => (i.zero, i.size, i.bytes)) = some (some (.agg #[.string .empty, .int .i64 0]), 2, 24) := by kernel_rfl
def InPost (w : World) (base : Nat) (A : Option Addr) (n c : Nat) (xs news : List Value) (i : Nat) (e : Ending) (w' : World) : Prop := ∃ gd c', e = .returned (.slice (some ⟨gd, 0, none⟩) (n + 1) c') ∧
  w'.ownsRow base 51 2 (.slice (some ⟨gd, 0, none⟩) (n + 1) c') (n + 1) (xs.take (i * 2) ++ news ++ xs.drop (i * 2)) ∧ w.grownBy w' (Value.slice A n c).ownBlock ∧
  ((Value.slice (some ⟨gd, 0, none⟩) (n + 1) c').ownBlock = (Value.slice A n c).ownBlock ∨ (Value.slice (some ⟨gd, 0, none⟩) (n + 1) c').ownBlock = some w.heap.size)
theorem blk_shape {w : World} {g : Nat} {t : TypeId} {cs : Array Value} (h : Blk w g t cs) : w.shape? g = some (t, cs.size) := by
  unfold Blk at h; simp [World.shape?, h]
theorem overlaps_no (w : World) (vb g : Nat) (cs cur : Array Value) (hv : Blk w vb 51 cs) (hg : Blk w g 51 cur) (hne : vb ≠ g) (hc : cur.size ≠ 0) (la ca off lb cb : Nat) :
    (callFunc 86 #[.slice (some ⟨vb, 0, none⟩) la ca, .slice (some ⟨g, off, none⟩) lb cb]).run Tryd.prog w = .ok (.value (.bool false)) w := by
  rw [run_callFunc_extern Tryd.func86 (by kernel_rfl) (by kernel_rfl) (by kernel_rfl) (e := Extern.SlicesOverlaps.overlaps #[24, 24] #[4]) (by kernel_rfl),
    Lib.run_overlaps_apart w 24 4 51 Tryd.underlying24 2 (fun w => by kernel_rfl) ⟨vb, 0, none⟩ ⟨g, off, none⟩ la ca lb cb hne 51 51 cs.size cur.size (blk_shape hv) (blk_shape hg) hc (hv.frozen 0) (hv.frozen _)]
  rfl
set_option maxRecDepth 100000 in
set_option maxHeartbeats 8000000 in
theorem insert_end (w : World) (base : Nat) (A : Option Addr) (n c : Nat) (xs news : List Value) (vb : Nat) (hown : w.ownsRow base 51 2 (.slice A n c) n xs) (hl : n ≤ 1000000) (hbase : base ≤ w.heap.size)
    (hnl : news.length = 2) (hvb : ∀ j u, news[j]? = some u → w.cell? ⟨vb, j, none⟩ = some u) (h1 : ∀ u ∈ news, u.oneCell' = true) :
    Calls Tryd.prog 64 #[.slice A n c, .int .i64 n, .slice (some ⟨vb, 0, none⟩) 1 1] w (InPost w base A n c xs news n) := by
  obtain ⟨i0, hi0, hz0, hz1, hz2⟩ := info_parts info51
  obtain ⟨A0, c0, e0, hc0, _⟩ := own_form hown
  injection e0 with e1 e2 e3
  subst e1 e3
  have hxl : xs.length = n * 2 := hown.1
  have HF : Hid (∀ gd c' w', w'.ownsRow base 51 2 (.slice (some ⟨gd, 0, none⟩) (n + 1) c') (n + 1) (xs ++ news) → w.grownBy w' (Value.slice A n c).ownBlock →
      ((Value.slice (some ⟨gd, 0, none⟩) (n + 1) c').ownBlock = (Value.slice A n c).ownBlock ∨ (Value.slice (some ⟨gd, 0, none⟩) (n + 1) c').ownBlock = some w.heap.size) → InPost w base A n c xs news n (.returned (.slice (some ⟨gd, 0, none⟩) (n + 1) c')) w') :=
    Lib.hid fun gd c' w' g1 g2 g3 => ⟨gd, c', rfl, by rw [List.take_of_length_le (by omega), List.drop_of_length_le (by omega), List.append_nil]; exact g1, g2, g3⟩
  have hsv : SV w (vb + 1) (some ⟨vb, 0, none⟩) news := .inr ⟨vb, 0, rfl, by omega, fun j u hu => by rw [Nat.zero_add]; exact hvb j u hu⟩
  generalize InPost w base A n c xs news n = R at *
  have h63 : n + 1 ≤ maxLen := by unfold maxLen; omega
  have hby : (n + 1) * 24 ≤ 140737488355328 := by omega
  clear hvb hxl
  have hfin : ∀ (A' : Option Addr) (c' : Nat) (w' : World), w'.ownsRow base 51 2 (.slice A' (n + 1) c') (n + 1) (xs ++ news) → ∃ gd, A' = some ⟨gd, 0, none⟩ := fun A' c' w' h => by
    obtain ⟨g, cur, e, _⟩ := own_blk h (by omega)
    exact ⟨g, e⟩
  have HFI := Lib.hid hfin
  clear hfin
  rcases A with _ | ⟨ab, ao, asp⟩
  · have hn0 : n = 0 ∧ c = 0 := by
      obtain ⟨_, ⟨h2, h3⟩ | ⟨g, cap, cur, h2, _⟩⟩ := hown
      · injection h2 with _ h4 h5; exact ⟨h4, h5⟩
      · cases h2
    obtain ⟨rfl, rfl⟩ := hn0
    go_enter Tryd.func64, Tryd.ntmps64
    go_wp2_with (first | (at_builtin; refine wpList_appNo _ rfl (.tmp 23) (.tmp 24) 24 rfl base 51 i0 _ 2 24 Tryd.underlying24 hi0 hz0 hz1 hz2 rfl (by decide) none 0 0 xs rfl hown (vb + 1) (some ⟨vb, 0, none⟩) 1 1 news rfl (by omega) hsv h1 h63 hby hbase ?_))
    intro A' c' w' hown' hg' _ hob'
    obtain ⟨gd, rfl⟩ := HFI.out _ _ _ hown'
    have HR := Lib.hid (HF.out _ _ _ hown' hg' hob')
    clear hown' hg' hob'
    go_wp2_with fail
    exact HR.out
  · by_cases hcn : c = n
    all_goals
      first | subst hcn | (have hcn' : n < c := by omega)
      go_enter Tryd.func64, Tryd.ntmps64
      go_wp2_with (first | (at_builtin; refine wpList_appNo _ rfl (.tmp 23) (.tmp 24) 24 rfl base 51 i0 _ 2 24 Tryd.underlying24 hi0 hz0 hz1 hz2 rfl (by decide) (some ⟨ab, ao, asp⟩) _ _ xs rfl hown (vb + 1) (some ⟨vb, 0, none⟩) 1 1 news rfl (by omega) hsv h1 h63 hby hbase ?_))
      intro A' c' w' hown' hg' _ hob'
      obtain ⟨gd, rfl⟩ := HFI.out _ _ _ hown'
      have HR := Lib.hid (HF.out _ _ _ hown' hg' hob')
      clear hown' hg' hob'
      go_wp2_with fail
      exact HR.out

set_option maxRecDepth 100000 in
set_option maxHeartbeats 8000000 in
theorem insert_room (w : World) (base g n c i : Nat) (xs news : List Value) (vb : Nat) (nv : Array Value) (cur : Array Value) (hb : Blk w g 51 cur) (hg : base ≤ g) (hroom : n + 1 ≤ c) (hm : c ≤ maxLen) (hcs : cur.size = c * 2) (hx : cur.toList.take (n * 2) = xs) (hi : i < n) (hl : n ≤ 1000000)
    (hvb : Blk w vb 51 nv) (hnv : nv.toList = news) (hne : vb ≠ g) (hnl : news.length = 2) (h1 : ∀ u ∈ news, u.oneCell' = true) (hx1 : ∀ u ∈ xs, u.oneCell' = true) :
    Calls Tryd.prog 64 #[.slice (some ⟨g, 0, none⟩) n c, .int .i64 i, .slice (some ⟨vb, 0, none⟩) 1 1] w (InPost w base (some ⟨g, 0, none⟩) n c xs news i) := by
  obtain ⟨i0, hi0, hz0, hz1, hz2⟩ := info_parts info51
  have hxl : xs.length = n * 2 := by rw [← hx, List.length_take]; simp; omega
  have hcl : cur.toList.length = c * 2 := by simpa using hcs
  have hnvs : ∀ (w' : World), Blk w' vb 51 nv → ∀ j u, news[j]? = some u → w'.cell? ((⟨vb, 0, none⟩ : Addr).add j) = some u := fun w' hb' j u hu => by
    rw [add_none, Nat.zero_add, hb'.cell j, ← Array.getElem?_toList, hnv]; exact hu
  have HF : Hid (∀ (c2 : Array Value) (w' : World), c2.toList = (cur.toList.take (i * 2 + 2) ++ xs.drop (i * 2) ++ cur.toList.drop (i * 2 + 2 + (xs.drop (i * 2)).length)).take (i * 2) ++ news ++ (cur.toList.take (i * 2 + 2) ++ xs.drop (i * 2) ++ cur.toList.drop (i * 2 + 2 + (xs.drop (i * 2)).length)).drop (i * 2 + 2) →
      Blk w' g 51 c2 → w.grownBy w' (some g) → InPost w base (some ⟨g, 0, none⟩) n c xs news i (.returned (.slice (some ⟨g, 0, none⟩) (n + 1) c)) w') := Lib.hid fun c2 w' e2 hb2 hg2 => by
    have hil := ins_list (cur := cur.toList) (xs := xs) (news := news) (p := i * 2) (by rw [hxl]; exact hx) (by omega) (by omega)
    rw [hnl] at hil
    refine ⟨g, c, rfl, own_of_blk hb2 hg hroom hm ?_ ?_, hg2, .inl rfl⟩
    · have := congrArg List.length e2
      simp only [Array.length_toList, List.length_append, List.length_take, List.length_drop, hcl, hxl, hnl] at this
      rw [this]; omega
    · rw [e2, ← hil]; congr 1; omega
  have hsrc1 : ∀ j v, (xs.drop (i * 2))[j]? = some v → w.cell? ((⟨g, i * 2, none⟩ : Addr).add j) = some v := fun j v hj => by
    rw [add_none, hb.cell, ← Array.getElem?_toList]
    rw [List.getElem?_drop, ← hx, List.getElem?_take] at hj
    split at hj
    · exact hj
    · cases hj
  have hdl : (xs.drop (i * 2)).length = (n - i) * 2 := by rw [List.length_drop, hxl]; omega
  have hd1 : ∀ u ∈ xs.drop (i * 2), u.oneCell' = true := fun u hu => hx1 u (List.mem_of_mem_drop hu)
  have hov : ∀ lb cb, (callFunc 86 #[.slice (some ⟨vb, 0, none⟩) 1 1, .slice (some ⟨g, (i + 1) * 2, none⟩) lb cb]).run Tryd.prog w = .ok (.value (.bool false)) w := fun lb cb => overlaps_no w vb g nv cur hvb hb hne (by omega) 1 1 _ lb cb
  have hfit : (i + 1) * 2 + (xs.drop (i * 2)).length ≤ cur.size := by rw [hdl, hcs]; omega
  have hn1 : (xs.drop (i * 2)).length = Nat.min (n + 1 - i) (n + 1 - (i + 1)) * 2 := by
    rw [hdl]; congr 1; simp only [Nat.min_def]; split <;> omega
  unfold maxLen at hm
  have hw1 : IntKind.i64.wrap ((i : Int) + 1) = (i : Int) + 1 := by rw [IntKind.wrap_i64]; omega
  have hb1 : (0 : Int) ≤ (i : Int) + 1 := by omega
  have htn : ((i : Int) + 1).toNat = i + 1 := by omega
  have hbi : (i : Int) ≤ n := by omega
  have hb3 : (i : Int) ≤ (n : Int) + 1 := by omega
  have hz2' : ((i : Int) == (n : Int)) = false := by simp; omega
  have hz3 : ¬ (c : Int) < (n : Int) + 1 := by omega
  have hci : ¬ (c = i) := by omega
  have hci1 : ¬ (c = i + 1) := by omega
  have HD := Lib.hid hdl
  have HX := Lib.hid hxl
  have HN := Lib.hid hnl
  have HC := Lib.hid hcl
  clear hdl hxl hcl hx hx1 hnl
  generalize InPost w base (some ⟨g, 0, none⟩) n c xs news i = R at *
  go_enter Tryd.func64, Tryd.ntmps64
  go_wp2_with (simp only [hov])
  go_region_law
    (refine step_copy_into _ rfl (.tmp 73) (.tmp 76) 24 24 rfl 51 i0 2 Tryd.underlying24 hi0 hz1 g ((i + 1) * 2) (n + 1 - (i + 1)) (c - (i + 1)) (by simp [Act.eval, Act.put]) ⟨g, i * 2, none⟩ (n + 1 - i) (c - i) (by simp [Act.eval, Act.put]) cur 51 (xs.drop (i * 2)) hb hn1 hsrc1 hfit hd1 ?_; intro w2 hb2 hg2 hz2)
  all_goals
    have hv2 := hvb.drew.grown hg2 (fun e => hne (by simpa using e))
    have hsz2 : i * 2 + news.length ≤ (spl cur ((i + 1) * 2) (xs.drop (i * 2))).size := by
      rw [HN.out]; simp only [spl, List.size_toArray, List.length_append, List.length_take, List.length_drop, HC.out]; omega
    have hn2 : news.length = Nat.min 1 (n + 1 - i) * 2 := by
      rw [HN.out, show Nat.min 1 (n + 1 - i) = 1 by simp only [Nat.min_def]; split <;> omega]
    have hs2 := hnvs w2 hv2
    have HB2 : Hid (∀ w', Blk w' g 51 (spl (spl cur ((i + 1) * 2) (xs.drop (i * 2))) (i * 2) news) →
        w2.grownBy w' (some g) → R (.returned (.slice (some ⟨g, 0, none⟩) (n + 1) c)) w') := Lib.hid fun w' h2 h3 => by
      refine HF.out _ w' ?_ h2 ⟨h3.os.trans hg2.os, h3.tape.trans hg2.tape, h3.output.trans hg2.output, Nat.le_trans hg2.size h3.size, fun b hb hk => (h3.block b (Nat.lt_of_lt_of_le hb hg2.size) hk).trans (hg2.block b hb hk)⟩
      simp only [spl]
      rw [HN.out, show (i + 1) * 2 = i * 2 + 2 by omega]
    generalize hcu : spl cur ((i + 1) * 2) (xs.drop (i * 2)) = cur2 at *
    clear hcu hsrc1 hd1 hn1 hfit hov hnvs hv2 hg2 HF
    go_wp2_with (first | (with_reducible refine wpList_copy_into _ rfl (.tmp 80) (.tmp 81) 24 24 rfl 51 i0 2 Tryd.underlying24 hi0 hz1 g (i * 2) (n + 1 - i) (c - i) rfl ⟨vb, 0, none⟩ 1 1 rfl cur2 51 news hb2 hn2 hs2 hsz2 h1 ?_))
    intro w3 hb3' hg3 hz3'
    have HR := Lib.hid (HB2.out w3 hb3' hg3)
    clear hb3' hg3 hz3'
    go_wp2_with fail
    exact HR.out
set_option maxRecDepth 100000 in
set_option maxHeartbeats 8000000 in
theorem insert_grow (w : World) (base g n i : Nat) (xs news : List Value) (vb : Nat) (nv : Array Value) (cur : Array Value) (hb : Blk w g 51 cur) (hbase : base ≤ w.heap.size) (hcs : cur.size = n * 2) (hx : cur.toList.take (n * 2) = xs) (hi : i < n) (hl : n ≤ 1000000)
    (hvb : Blk w vb 51 nv) (hnv : nv.toList = news) (hnl : news.length = 2) (h1 : ∀ u ∈ news, u.oneCell' = true) (hx1 : ∀ u ∈ xs, u.oneCell' = true) :
    Calls Tryd.prog 64 #[.slice (some ⟨g, 0, none⟩) n n, .int .i64 i, .slice (some ⟨vb, 0, none⟩) 1 1] w (InPost w base (some ⟨g, 0, none⟩) n n xs news i) := by
  obtain ⟨i0, hi0, hz0, hz1, hz2⟩ := info_parts info51
  have hxl : xs.length = n * 2 := by rw [← hx, List.length_take]; simp; omega
  have hxg : ∀ j u, xs[j]? = some u → w.cell? ⟨g, j, none⟩ = some u := fun j u hu => by
    rw [hb.cell, ← Array.getElem?_toList]
    rw [← hx, List.getElem?_take] at hu
    split at hu
    · exact hu
    · cases hu
  have hnvs : ∀ (w' : World), Blk w' vb 51 nv → ∀ j u, news[j]? = some u → w'.cell? ((⟨vb, 0, none⟩ : Addr).add j) = some u := fun w' hb' j u hu => by
    rw [add_none, Nat.zero_add, hb'.cell j, ← Array.getElem?_toList, hnv]; exact hu
  have hxs : ∀ (w' : World), Blk w' g 51 cur → ∀ j u, (xs.drop (i * 2))[j]? = some u → w'.cell? ((⟨g, i * 2, none⟩ : Addr).add j) = some u := fun w' hb' j u hu => by
    rw [add_none, hb'.cell, ← Array.getElem?_toList]
    rw [List.getElem?_drop, ← hx, List.getElem?_take] at hu
    split at hu
    · exact hu
    · cases hu
  have hol : (xs.take (i * 2)).length = i * 2 := by rw [List.length_take, hxl]; omega
  have hos : ∀ j v, (xs.take (i * 2))[j]? = some v → w.cell? ((⟨g, 0, none⟩ : Addr).add j) = some v := fun j v hj => by
    rw [add_none, Nat.zero_add]
    rw [List.getElem?_take] at hj
    split at hj
    · exact hxg j v hj
    · cases hj
  have hkk : (n : Int) + 1 - (i : Int) = ((n + 1 - i : Nat) : Int) := by omega
  have hik : i + (n + 1 - i) = n + 1 := by omega
  have hdl : (xs.drop (i * 2)).length = (n - i) * 2 := by rw [List.length_drop, hxl]; omega
  have hd1 : ∀ u ∈ xs.drop (i * 2), u.oneCell' = true := fun u hu => hx1 u (List.mem_of_mem_drop hu)
  have hn1 : news.length = Nat.min 1 (n + 1 - i) * 2 := by rw [hnl, show Nat.min 1 (n + 1 - i) = 1 by simp only [Nat.min_def]; split <;> omega]
  have hn2 : (xs.drop (i * 2)).length = Nat.min (n - i) (n + 1 - (i + 1)) * 2 := by
    rw [hdl]; congr 1; simp only [Nat.min_def]; split <;> omega
  have HF : Hid (∀ (q : Nat) (row : Array Value) (w' : World), n + 1 ≤ q → q ≤ 9223372036854775807 → row.size = q * 2 → row.toList.take (i * 2) = xs.take (i * 2) → Blk w' w.heap.size 51 (spl (spl row (i * 2) news) ((i + 1) * 2) (xs.drop (i * 2))) → w.grownBy w' none → 
      InPost w base (some ⟨g, 0, none⟩) n n xs news i (.returned (.slice (some ⟨w.heap.size, 0, none⟩) (n + 1) q)) w') := Lib.hid fun q row w' h2 h3 h4 h5 h6 h7 => by
    have hrl : row.toList.length = q * 2 := by simpa using h4
    have hil := ins_list2 (cur := row.toList) (xs := xs) (news := news) (p := i * 2) h5 (by omega) (by omega)
    rw [hnl] at hil
    refine ⟨w.heap.size, q, rfl, own_of_blk h6 hbase h2 (by unfold maxLen; omega) ?_ ?_, ⟨h7.os, h7.tape, h7.output, h7.size, fun b hb _ => h7.block b hb (by simp)⟩, .inr rfl⟩
    · simp only [spl, List.size_toArray, List.length_append, List.length_take, List.length_drop, hrl, hxl, hnl]; omega
    · simp only [spl, hnl]
      rw [show (i + 1) * 2 = i * 2 + 2 by omega, ← hil]
      congr 1
      omega
  have hw1 : IntKind.i64.wrap ((i : Int) + 1) = (i : Int) + 1 := by rw [IntKind.wrap_i64]; omega
  have hb1 : (0 : Int) ≤ (i : Int) + 1 := by omega
  have htn : ((i : Int) + 1).toNat = i + 1 := by omega
  have hbi : (i : Int) ≤ n := by omega
  have hz2' : ((i : Int) == (n : Int)) = false := by simp; omega
  have hz3 : (n : Int) < (n : Int) + 1 := by omega
  have hci : ¬ (n = i) := by omega
  have hgw := hb.lt
  have hvw := hvb.lt
  have hsum : i ≤ n + 1 := by omega
  have HN := Lib.hid hnl
  have HX := Lib.hid hxl
  have HD := Lib.hid hdl
  have HKK := Lib.hid hkk
  have HIK := Lib.hid hik
  clear hdl hxl hcs hx hx1 hnl hxg hkk hik
  generalize InPost w base (some ⟨g, 0, none⟩) n n xs news i = R at *
  go_enter Tryd.func64, Tryd.ntmps64
  go_wp2_with (first | (at_builtin; refine wpList_app_zeros _ rfl (.tmp 34) (.tmp 39) 24 3 rfl 51 i0 _ .i64 2 24 Tryd.underlying24 Tryd.underlying3 hi0 hz0 hz1 hz2 rfl (by decide) ⟨g, 0, none⟩ i n (xs.take (i * 2)) rfl hol hos .i64 (n + 1 - i) (congrArg (Value.int .i64) HKK.out) ?c1 ?c2 ?c3 ?c4 ?c5 ?_))
  case c1 => omega
  case c2 => omega
  case c3 => omega
  case c4 => omega
  case c5 => omega
  intro q row w2 hq1 hq2 hrs hrt hrb hg2 hsz2
  have hv2 := hvb.grown hg2 (by simp)
  have hb2 := hb.grown hg2 (by simp)
  have hs2 := hnvs w2 hv2
  have hfit2 : i * 2 + news.length ≤ row.size := by rw [HN.out, hrs]; omega
  have hqi : ¬ (q = i) := by omega
  have hqi1 : ¬ (q = i + 1) := by omega
  have hle1 : (i : Int) ≤ (n : Int) + 1 := by omega
  have HF2 := Lib.hid (fun w' h6 h7 => HF.out q row w' hq1 hq2 hrs hrt h6 h7)
  have hrs2 := Lib.hid hrs
  clear hrs hrt hos HF
  go_wp2_with (first | (with_reducible refine wpList_copy_into _ rfl (.tmp 43) (.tmp 44) 24 24 rfl 51 i0 2 Tryd.underlying24 hi0 hz1 w.heap.size (i * 2) (n + 1 - i) (q - i) rfl ⟨vb, 0, none⟩ 1 1 rfl row 51 news hrb hn1 hs2 hfit2 h1 ?_))
  intro w3 hb3' hg3 hz3'
  have hne3 : some g ≠ some w.heap.size := by simp; omega
  have hb3 := hb2.grown hg3 hne3
  have hs3 := hxs w3.drew hb3.drew
  have hfit3 : (i + 1) * 2 + (xs.drop (i * 2)).length ≤ (spl row (i * 2) news).size := by
    rw [HD.out]; simp only [spl, List.size_toArray, List.length_append, List.length_take, List.length_drop, Array.length_toList, HN.out, hrs2.out]; omega
  have HF3 : Hid (∀ w', Blk w' w.heap.size 51 (spl (spl row (i * 2) news) ((i + 1) * 2) (xs.drop (i * 2))) → w3.drew.grownBy w' (some w.heap.size) → R (.returned (.slice (some ⟨w.heap.size, 0, none⟩) (n + 1) q)) w') := Lib.hid fun w' h6 h7 =>
    HF2.out w' h6 ⟨h7.os.trans (hg3.os.trans hg2.os), h7.tape.trans (hg3.tape.trans hg2.tape), h7.output.trans (hg3.output.trans hg2.output), Nat.le_trans hg2.size (Nat.le_trans hg3.size h7.size), fun k hk _ => by
      have hk2 := Nat.lt_of_lt_of_le hk hg2.size
      have hne : some k ≠ some w.heap.size := by simp; omega
      exact (h7.block k (Nat.lt_of_lt_of_le hk2 hg3.size) hne).trans ((hg3.block k hk2 hne).trans (hg2.block k hk (by simp)))⟩
  generalize hcu : spl row (i * 2) news = cur2 at *
  clear hcu HF2 hs2 hfit2 hrb hv2 hb2 hnvs hxs hg2 hg3 hb3
  go_wp2_with fail
  go_region_law
    (refine step_copy_into _ rfl (.tmp 50) (.tmp 53) 24 24 rfl 51 i0 2 Tryd.underlying24 hi0 hz1 w.heap.size ((i + 1) * 2) (n + 1 - (i + 1)) (q - (i + 1)) (by simp [Act.eval, Act.put]) ⟨g, i * 2, none⟩ (n - i) (n - i) (by simp [Act.eval, Act.put]) cur2 51 (xs.drop (i * 2)) hb3'.drew hn2 hs3 hfit3 hd1 ?_; intro w4 hb4' hg4 hz4'; have HR := Lib.hid (HF3.out w4 hb4' hg4); clear hb4' hg4 hz4')
  all_goals
    go_wp2_with fail
    exact HR.out
end Go.Proofs.YtfbbgnhelannjaaDoor
