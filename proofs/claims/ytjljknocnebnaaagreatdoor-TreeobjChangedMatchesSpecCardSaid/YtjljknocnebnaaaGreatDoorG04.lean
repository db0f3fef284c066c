/-
  Objects: walk of 'slices.Insert' at stored objects: one element put into a row of the call's own.
  Objects: walk of 'Find'.
  Objects: walk of 'add'.
  Objects: walks of 'Has' and 'Get'.
  Objects: walk of 'Put'.
-/
import Derived.Test.YtjljknocnebnaaaGreatDoorG03
namespace Go.Proofs.YtjljknocnebnaaaGreatDoor
open Go.RowKit Go.V
set_option linter.unusedVariables false

def InPost (w : World) (base : Nat) (A : Option Addr) (n c : Nat) (xs news : List Value) (i : Nat) (e : Ending) (w' : World) : Prop := ∃ gd c', e = .returned (.slice (some ⟨gd, 0, none⟩) (n + 1) c') ∧
  w'.ownsRow base 58 4 (.slice (some ⟨gd, 0, none⟩) (n + 1) c') (n + 1) (xs.take (i * 4) ++ news ++ xs.drop (i * 4)) ∧ w.grownBy w' (Value.slice A n c).ownBlock ∧
  ((Value.slice (some ⟨gd, 0, none⟩) (n + 1) c').ownBlock = (Value.slice A n c).ownBlock ∨ (Value.slice (some ⟨gd, 0, none⟩) (n + 1) c').ownBlock = some w.heap.size)
theorem blk_shape {w : World} {g : Nat} {t : TypeId} {cs : Array Value} (h : Blk w g t cs) : w.shape? g = some (t, cs.size) := by
  unfold Blk at h; simp [World.shape?, h]
theorem overlaps_no (w : World) (vb g : Nat) (cs cur : Array Value) (hv : Blk w vb 58 cs) (hg : Blk w g 58 cur) (hne : vb ≠ g) (hc : cur.size ≠ 0) (la ca off lb cb : Nat) :
    (callFunc 84 #[.slice (some ⟨vb, 0, none⟩) la ca, .slice (some ⟨g, off, none⟩) lb cb]).run Tryz.prog w = .ok (.value (.bool false)) w := by
  rw [run_callFunc_extern Tryz.func84 (by kernel_rfl) (by kernel_rfl) (by kernel_rfl) (e := Extern.SlicesOverlaps.overlaps #[22, 22] #[4]) (by kernel_rfl),
    Lib.run_overlaps_apart w 22 4 58 Tryz.underlying22 4 (fun w => by kernel_rfl) ⟨vb, 0, none⟩ ⟨g, off, none⟩ la ca lb cb hne 58 58 cs.size cur.size (blk_shape hv) (blk_shape hg) hc (hv.frozen 0) (hv.frozen _)]
  rfl
set_option maxRecDepth 100000 in
set_option maxHeartbeats 8000000 in
theorem insert_end (w : World) (base : Nat) (A : Option Addr) (n c : Nat) (xs news : List Value) (vb : Nat) (hown : w.ownsRow base 58 4 (.slice A n c) n xs) (hl : n ≤ 1000000) (hbase : base ≤ w.heap.size)
    (hnl : news.length = 4) (hvb : ∀ j u, news[j]? = some u → w.cell? ⟨vb, j, none⟩ = some u) (h1 : ∀ u ∈ news, u.oneCell' = true) :
    Calls Tryz.prog 65 #[.slice A n c, .int .i64 n, .slice (some ⟨vb, 0, none⟩) 1 1] w (InPost w base A n c xs news n) := by
  obtain ⟨i0, hi0, hz0, hz1, hz2⟩ := info_parts info46
  obtain ⟨A0, c0, e0, hc0, _⟩ := own_form hown
  injection e0 with e1 e2 e3
  subst e1 e3
  have hxl : xs.length = n * 4 := hown.1
  have HF : Hid (∀ gd c' w', w'.ownsRow base 58 4 (.slice (some ⟨gd, 0, none⟩) (n + 1) c') (n + 1) (xs ++ news) → w.grownBy w' (Value.slice A n c).ownBlock →
      ((Value.slice (some ⟨gd, 0, none⟩) (n + 1) c').ownBlock = (Value.slice A n c).ownBlock ∨ (Value.slice (some ⟨gd, 0, none⟩) (n + 1) c').ownBlock = some w.heap.size) → InPost w base A n c xs news n (.returned (.slice (some ⟨gd, 0, none⟩) (n + 1) c')) w') :=
    Lib.hid fun gd c' w' g1 g2 g3 => ⟨gd, c', rfl, by rw [List.take_of_length_le (by omega), List.drop_of_length_le (by omega), List.append_nil]; exact g1, g2, g3⟩
  have hsv : SV w (vb + 1) (some ⟨vb, 0, none⟩) news := .inr ⟨vb, 0, rfl, by omega, fun j u hu => by rw [Nat.zero_add]; exact hvb j u hu⟩
  generalize InPost w base A n c xs news n = R at *
  have h63 : n + 1 ≤ maxLen := by unfold maxLen; omega
  have hby : (n + 1) * 64 ≤ 140737488355328 := by omega
  clear hvb hxl
  have hfin : ∀ (A' : Option Addr) (c' : Nat) (w' : World), w'.ownsRow base 58 4 (.slice A' (n + 1) c') (n + 1) (xs ++ news) → ∃ gd, A' = some ⟨gd, 0, none⟩ := fun A' c' w' h => by
    obtain ⟨g, cur, e, _⟩ := own_blk h (by omega)
    exact ⟨g, e⟩
  have HFI := Lib.hid hfin
  clear hfin
  rcases A with _ | ⟨ab, ao, asp⟩
  · have hn0 : n = 0 ∧ c = 0 := by
      obtain ⟨_, ⟨h2, h3⟩ | ⟨g, cap, cur, h2, _⟩⟩ := hown
      · injection h2 with _ h4 h5; exact ⟨h4, h5⟩
      · cases h2
    obtain ⟨rfl, rfl⟩ := hn0
    go_enter Tryz.func65, Tryz.ntmps65
    go_wp2_with (first | (at_builtin; refine wpList_appNo _ rfl (.tmp 23) (.tmp 24) 22 rfl base 58 i0 _ 4 64 Tryz.underlying22 hi0 hz0 hz1 hz2 rfl (by decide) none 0 0 xs rfl hown (vb + 1) (some ⟨vb, 0, none⟩) 1 1 news rfl (by omega) hsv h1 h63 hby hbase ?_))
    intro A' c' w' hown' hg' _ hob'
    obtain ⟨gd, rfl⟩ := HFI.out _ _ _ hown'
    have HR := Lib.hid (HF.out _ _ _ hown' hg' hob')
    clear hown' hg' hob'
    go_wp2_with fail
    exact HR.out
  · by_cases hcn : c = n
    all_goals
      first | subst hcn | (have hcn' : n < c := by omega)
      go_enter Tryz.func65, Tryz.ntmps65
      go_wp2_with (first | (at_builtin; refine wpList_appNo _ rfl (.tmp 23) (.tmp 24) 22 rfl base 58 i0 _ 4 64 Tryz.underlying22 hi0 hz0 hz1 hz2 rfl (by decide) (some ⟨ab, ao, asp⟩) _ _ xs rfl hown (vb + 1) (some ⟨vb, 0, none⟩) 1 1 news rfl (by omega) hsv h1 h63 hby hbase ?_))
      intro A' c' w' hown' hg' _ hob'
      obtain ⟨gd, rfl⟩ := HFI.out _ _ _ hown'
      have HR := Lib.hid (HF.out _ _ _ hown' hg' hob')
      clear hown' hg' hob'
      go_wp2_with fail
      exact HR.out

set_option maxRecDepth 100000 in
set_option maxHeartbeats 8000000 in
theorem insert_room (w : World) (base g n c i : Nat) (xs news : List Value) (vb : Nat) (nv : Array Value) (cur : Array Value) (hb : Blk w g 58 cur) (hg : base ≤ g) (hroom : n + 1 ≤ c) (hm : c ≤ maxLen) (hcs : cur.size = c * 4) (hx : cur.toList.take (n * 4) = xs) (hi : i < n) (hl : n ≤ 1000000)
    (hvb : Blk w vb 58 nv) (hnv : nv.toList = news) (hne : vb ≠ g) (hnl : news.length = 4) (h1 : ∀ u ∈ news, u.oneCell' = true) (hx1 : ∀ u ∈ xs, u.oneCell' = true) :
    Calls Tryz.prog 65 #[.slice (some ⟨g, 0, none⟩) n c, .int .i64 i, .slice (some ⟨vb, 0, none⟩) 1 1] w (InPost w base (some ⟨g, 0, none⟩) n c xs news i) := by
  obtain ⟨i0, hi0, hz0, hz1, hz2⟩ := info_parts info46
  have hxl : xs.length = n * 4 := by rw [← hx, List.length_take]; simp; omega
  have hcl : cur.toList.length = c * 4 := by simpa using hcs
  have hnvs : ∀ (w' : World), Blk w' vb 58 nv → ∀ j u, news[j]? = some u → w'.cell? ((⟨vb, 0, none⟩ : Addr).add j) = some u := fun w' hb' j u hu => by
    rw [add_none, Nat.zero_add, hb'.cell j, ← Array.getElem?_toList, hnv]; exact hu
  have HF : Hid (∀ (c2 : Array Value) (w' : World), c2.toList = (cur.toList.take (i * 4 + 4) ++ xs.drop (i * 4) ++ cur.toList.drop (i * 4 + 4 + (xs.drop (i * 4)).length)).take (i * 4) ++ news ++ (cur.toList.take (i * 4 + 4) ++ xs.drop (i * 4) ++ cur.toList.drop (i * 4 + 4 + (xs.drop (i * 4)).length)).drop (i * 4 + 4) →
      Blk w' g 58 c2 → w.grownBy w' (some g) → InPost w base (some ⟨g, 0, none⟩) n c xs news i (.returned (.slice (some ⟨g, 0, none⟩) (n + 1) c)) w') := Lib.hid fun c2 w' e2 hb2 hg2 => by
    have hil := ins_list (cur := cur.toList) (xs := xs) (news := news) (p := i * 4) (by rw [hxl]; exact hx) (by omega) (by omega)
    rw [hnl] at hil
    refine ⟨g, c, rfl, own_of_blk hb2 hg hroom hm ?_ ?_, hg2, .inl rfl⟩
    · have := congrArg List.length e2
      simp only [Array.length_toList, List.length_append, List.length_take, List.length_drop, hcl, hxl, hnl] at this
      rw [this]; omega
    · rw [e2, ← hil]; congr 1; omega
  have hsrc1 : ∀ j v, (xs.drop (i * 4))[j]? = some v → w.cell? ((⟨g, i * 4, none⟩ : Addr).add j) = some v := fun j v hj => by
    rw [add_none, hb.cell, ← Array.getElem?_toList]
    rw [List.getElem?_drop, ← hx, List.getElem?_take] at hj
    split at hj
    · exact hj
    · cases hj
  have hdl : (xs.drop (i * 4)).length = (n - i) * 4 := by rw [List.length_drop, hxl]; omega
  have hd1 : ∀ u ∈ xs.drop (i * 4), u.oneCell' = true := fun u hu => hx1 u (List.mem_of_mem_drop hu)
  have hov : ∀ lb cb, (callFunc 84 #[.slice (some ⟨vb, 0, none⟩) 1 1, .slice (some ⟨g, (i + 1) * 4, none⟩) lb cb]).run Tryz.prog w = .ok (.value (.bool false)) w := fun lb cb => overlaps_no w vb g nv cur hvb hb hne (by omega) 1 1 _ lb cb
  have hfit : (i + 1) * 4 + (xs.drop (i * 4)).length ≤ cur.size := by rw [hdl, hcs]; omega
  have hn1 : (xs.drop (i * 4)).length = Nat.min (n + 1 - i) (n + 1 - (i + 1)) * 4 := by
    rw [hdl]; congr 1; simp only [Nat.min_def]; split <;> omega
  unfold maxLen at hm
  have hw1 : IntKind.i64.wrap ((i : Int) + 1) = (i : Int) + 1 := by rw [IntKind.wrap_i64]; omega
  have hb1 : (0 : Int) ≤ (i : Int) + 1 := by omega
  have htn : ((i : Int) + 1).toNat = i + 1 := by omega
  have hbi : (i : Int) ≤ n := by omega
  have hb3 : (i : Int) ≤ (n : Int) + 1 := by omega
  have hz2' : ((i : Int) == (n : Int)) = false := by simp; omega
  have hz3 : ¬ (c : Int) < (n : Int) + 1 := by omega
  have hci : ¬ (c = i) := by omega
  have hci1 : ¬ (c = i + 1) := by omega
  have HD := Lib.hid hdl
  have HX := Lib.hid hxl
  have HN := Lib.hid hnl
  have HC := Lib.hid hcl
  clear hdl hxl hcl hx hx1 hnl
  generalize InPost w base (some ⟨g, 0, none⟩) n c xs news i = R at *
  go_enter Tryz.func65, Tryz.ntmps65
  go_wp2_with (simp only [hov])
  go_region_law
    (refine step_copy_into _ rfl (.tmp 73) (.tmp 76) 22 22 rfl 58 i0 4 Tryz.underlying22 hi0 hz1 g ((i + 1) * 4) (n + 1 - (i + 1)) (c - (i + 1)) (by simp [Act.eval, Act.put]) ⟨g, i * 4, none⟩ (n + 1 - i) (c - i) (by simp [Act.eval, Act.put]) cur 58 (xs.drop (i * 4)) hb hn1 hsrc1 hfit hd1 ?_; intro w2 hb2 hg2 hz2)
  all_goals
    have hv2 := hvb.drew.grown hg2 (fun e => hne (by simpa using e))
    have hsz2 : i * 4 + news.length ≤ (spl cur ((i + 1) * 4) (xs.drop (i * 4))).size := by
      rw [HN.out]; simp only [spl, List.size_toArray, List.length_append, List.length_take, List.length_drop, HC.out]; omega
    have hn2 : news.length = Nat.min 1 (n + 1 - i) * 4 := by
      rw [HN.out, show Nat.min 1 (n + 1 - i) = 1 by simp only [Nat.min_def]; split <;> omega]
    have hs2 := hnvs w2 hv2
    have HB2 : Hid (∀ w', Blk w' g 58 (spl (spl cur ((i + 1) * 4) (xs.drop (i * 4))) (i * 4) news) →
        w2.grownBy w' (some g) → R (.returned (.slice (some ⟨g, 0, none⟩) (n + 1) c)) w') := Lib.hid fun w' h2 h3 => by
      refine HF.out _ w' ?_ h2 ⟨h3.os.trans hg2.os, h3.tape.trans hg2.tape, h3.output.trans hg2.output, Nat.le_trans hg2.size h3.size, fun b hb hk => (h3.block b (Nat.lt_of_lt_of_le hb hg2.size) hk).trans (hg2.block b hb hk)⟩
      simp only [spl]
      rw [HN.out, show (i + 1) * 4 = i * 4 + 4 by omega]
    generalize hcu : spl cur ((i + 1) * 4) (xs.drop (i * 4)) = cur2 at *
    clear hcu hsrc1 hd1 hn1 hfit hov hnvs hv2 hg2 HF
    go_wp2_with (first | (with_reducible refine wpList_copy_into _ rfl (.tmp 80) (.tmp 81) 22 22 rfl 58 i0 4 Tryz.underlying22 hi0 hz1 g (i * 4) (n + 1 - i) (c - i) rfl ⟨vb, 0, none⟩ 1 1 rfl cur2 58 news hb2 hn2 hs2 hsz2 h1 ?_))
    intro w3 hb3' hg3 hz3'
    have HR := Lib.hid (HB2.out w3 hb3' hg3)
    clear hb3' hg3 hz3'
    go_wp2_with fail
    exact HR.out
set_option maxRecDepth 100000 in
set_option maxHeartbeats 8000000 in
theorem insert_grow (w : World) (base g n i : Nat) (xs news : List Value) (vb : Nat) (nv : Array Value) (cur : Array Value) (hb : Blk w g 58 cur) (hbase : base ≤ w.heap.size) (hcs : cur.size = n * 4) (hx : cur.toList.take (n * 4) = xs) (hi : i < n) (hl : n ≤ 1000000)
    (hvb : Blk w vb 58 nv) (hnv : nv.toList = news) (hnl : news.length = 4) (h1 : ∀ u ∈ news, u.oneCell' = true) (hx1 : ∀ u ∈ xs, u.oneCell' = true) :
    Calls Tryz.prog 65 #[.slice (some ⟨g, 0, none⟩) n n, .int .i64 i, .slice (some ⟨vb, 0, none⟩) 1 1] w (InPost w base (some ⟨g, 0, none⟩) n n xs news i) := by
  obtain ⟨i0, hi0, hz0, hz1, hz2⟩ := info_parts info46
  have hxl : xs.length = n * 4 := by rw [← hx, List.length_take]; simp; omega
  have hxg : ∀ j u, xs[j]? = some u → w.cell? ⟨g, j, none⟩ = some u := fun j u hu => by
    rw [hb.cell, ← Array.getElem?_toList]
    rw [← hx, List.getElem?_take] at hu
    split at hu
    · exact hu
    · cases hu
  have hnvs : ∀ (w' : World), Blk w' vb 58 nv → ∀ j u, news[j]? = some u → w'.cell? ((⟨vb, 0, none⟩ : Addr).add j) = some u := fun w' hb' j u hu => by
    rw [add_none, Nat.zero_add, hb'.cell j, ← Array.getElem?_toList, hnv]; exact hu
  have hxs : ∀ (w' : World), Blk w' g 58 cur → ∀ j u, (xs.drop (i * 4))[j]? = some u → w'.cell? ((⟨g, i * 4, none⟩ : Addr).add j) = some u := fun w' hb' j u hu => by
    rw [add_none, hb'.cell, ← Array.getElem?_toList]
    rw [List.getElem?_drop, ← hx, List.getElem?_take] at hu
    split at hu
    · exact hu
    · cases hu
  have hol : (xs.take (i * 4)).length = i * 4 := by rw [List.length_take, hxl]; omega
  have hos : ∀ j v, (xs.take (i * 4))[j]? = some v → w.cell? ((⟨g, 0, none⟩ : Addr).add j) = some v := fun j v hj => by
    rw [add_none, Nat.zero_add]
    rw [List.getElem?_take] at hj
    split at hj
    · exact hxg j v hj
    · cases hj
  have hkk : (n : Int) + 1 - (i : Int) = ((n + 1 - i : Nat) : Int) := by omega
  have hik : i + (n + 1 - i) = n + 1 := by omega
  have hdl : (xs.drop (i * 4)).length = (n - i) * 4 := by rw [List.length_drop, hxl]; omega
  have hd1 : ∀ u ∈ xs.drop (i * 4), u.oneCell' = true := fun u hu => hx1 u (List.mem_of_mem_drop hu)
  have hn1 : news.length = Nat.min 1 (n + 1 - i) * 4 := by rw [hnl, show Nat.min 1 (n + 1 - i) = 1 by simp only [Nat.min_def]; split <;> omega]
  have hn2 : (xs.drop (i * 4)).length = Nat.min (n - i) (n + 1 - (i + 1)) * 4 := by
    rw [hdl]; congr 1; simp only [Nat.min_def]; split <;> omega
  have HF : Hid (∀ (q : Nat) (row : Array Value) (w' : World), n + 1 ≤ q → q ≤ 9223372036854775807 → row.size = q * 4 → row.toList.take (i * 4) = xs.take (i * 4) → Blk w' w.heap.size 58 (spl (spl row (i * 4) news) ((i + 1) * 4) (xs.drop (i * 4))) → w.grownBy w' none → 
      InPost w base (some ⟨g, 0, none⟩) n n xs news i (.returned (.slice (some ⟨w.heap.size, 0, none⟩) (n + 1) q)) w') := Lib.hid fun q row w' h2 h3 h4 h5 h6 h7 => by
    have hrl : row.toList.length = q * 4 := by simpa using h4
    have hil := ins_list2 (cur := row.toList) (xs := xs) (news := news) (p := i * 4) h5 (by omega) (by omega)
    rw [hnl] at hil
    refine ⟨w.heap.size, q, rfl, own_of_blk h6 hbase h2 (by unfold maxLen; omega) ?_ ?_, ⟨h7.os, h7.tape, h7.output, h7.size, fun b hb _ => h7.block b hb (by simp)⟩, .inr rfl⟩
    · simp only [spl, List.size_toArray, List.length_append, List.length_take, List.length_drop, hrl, hxl, hnl]; omega
    · simp only [spl, hnl]
      rw [show (i + 1) * 4 = i * 4 + 4 by omega, ← hil]
      congr 1
      omega
  have hw1 : IntKind.i64.wrap ((i : Int) + 1) = (i : Int) + 1 := by rw [IntKind.wrap_i64]; omega
  have hb1 : (0 : Int) ≤ (i : Int) + 1 := by omega
  have htn : ((i : Int) + 1).toNat = i + 1 := by omega
  have hbi : (i : Int) ≤ n := by omega
  have hz2' : ((i : Int) == (n : Int)) = false := by simp; omega
  have hz3 : (n : Int) < (n : Int) + 1 := by omega
  have hci : ¬ (n = i) := by omega
  have hgw := hb.lt
  have hvw := hvb.lt
  have hsum : i ≤ n + 1 := by omega
  have HN := Lib.hid hnl
  have HX := Lib.hid hxl
  have HD := Lib.hid hdl
  have HKK := Lib.hid hkk
  have HIK := Lib.hid hik
  clear hdl hxl hcs hx hx1 hnl hxg hkk hik
  generalize InPost w base (some ⟨g, 0, none⟩) n n xs news i = R at *
  go_enter Tryz.func65, Tryz.ntmps65
  go_wp2_with (first | (at_builtin; refine wpList_app_zeros _ rfl (.tmp 34) (.tmp 39) 22 3 rfl 58 i0 _ .i64 4 64 Tryz.underlying22 Tryz.underlying3 hi0 hz0 hz1 hz2 rfl (by decide) ⟨g, 0, none⟩ i n (xs.take (i * 4)) rfl hol hos .i64 (n + 1 - i) (congrArg (Value.int .i64) HKK.out) ?c1 ?c2 ?c3 ?c4 ?c5 ?_))
  case c1 => omega
  case c2 => omega
  case c3 => omega
  case c4 => omega
  case c5 => omega
  intro q row w2 hq1 hq2 hrs hrt hrb hg2 hsz2
  have hv2 := hvb.grown hg2 (by simp)
  have hb2 := hb.grown hg2 (by simp)
  have hs2 := hnvs w2 hv2
  have hfit2 : i * 4 + news.length ≤ row.size := by rw [HN.out, hrs]; omega
  have hqi : ¬ (q = i) := by omega
  have hqi1 : ¬ (q = i + 1) := by omega
  have hle1 : (i : Int) ≤ (n : Int) + 1 := by omega
  have HF2 := Lib.hid (fun w' h6 h7 => HF.out q row w' hq1 hq2 hrs hrt h6 h7)
  have hrs2 := Lib.hid hrs
  clear hrs hrt hos HF
  go_wp2_with (first | (with_reducible refine wpList_copy_into _ rfl (.tmp 43) (.tmp 44) 22 22 rfl 58 i0 4 Tryz.underlying22 hi0 hz1 w.heap.size (i * 4) (n + 1 - i) (q - i) rfl ⟨vb, 0, none⟩ 1 1 rfl row 58 news hrb hn1 hs2 hfit2 h1 ?_))
  intro w3 hb3' hg3 hz3'
  have hne3 : some g ≠ some w.heap.size := by simp; omega
  have hb3 := hb2.grown hg3 hne3
  have hs3 := hxs w3.drew hb3.drew
  have hfit3 : (i + 1) * 4 + (xs.drop (i * 4)).length ≤ (spl row (i * 4) news).size := by
    rw [HD.out]; simp only [spl, List.size_toArray, List.length_append, List.length_take, List.length_drop, Array.length_toList, HN.out, hrs2.out]; omega
  have HF3 : Hid (∀ w', Blk w' w.heap.size 58 (spl (spl row (i * 4) news) ((i + 1) * 4) (xs.drop (i * 4))) → w3.drew.grownBy w' (some w.heap.size) → R (.returned (.slice (some ⟨w.heap.size, 0, none⟩) (n + 1) q)) w') := Lib.hid fun w' h6 h7 =>
    HF2.out w' h6 ⟨h7.os.trans (hg3.os.trans hg2.os), h7.tape.trans (hg3.tape.trans hg2.tape), h7.output.trans (hg3.output.trans hg2.output), Nat.le_trans hg2.size (Nat.le_trans hg3.size h7.size), fun k hk _ => by
      have hk2 := Nat.lt_of_lt_of_le hk hg2.size
      have hne : some k ≠ some w.heap.size := by simp; omega
      exact (h7.block k (Nat.lt_of_lt_of_le hk2 hg3.size) hne).trans ((hg3.block k hk2 hne).trans (hg2.block k hk (by simp)))⟩
  generalize hcu : spl row (i * 4) news = cur2 at *
  clear hcu HF2 hs2 hfit2 hrb hv2 hb2 hnvs hxs hg2 hg3 hb3
  go_wp2_with fail
  go_region_law
    (refine step_copy_into _ rfl (.tmp 50) (.tmp 53) 22 22 rfl 58 i0 4 Tryz.underlying22 hi0 hz1 w.heap.size ((i + 1) * 4) (n + 1 - (i + 1)) (q - (i + 1)) (by simp [Act.eval, Act.put]) ⟨g, i * 4, none⟩ (n - i) (n - i) (by simp [Act.eval, Act.put]) cur2 58 (xs.drop (i * 4)) hb3'.drew hn2 hs3 hfit3 hd1 ?_; intro w4 hb4' hg4 hz4'; have HR := Lib.hid (HF3.out w4 hb4' hg4); clear hb4' hg4 hz4')
  all_goals
    go_wp2_with fail
    exact HR.out
end Go.Proofs.YtjljknocnebnaaaGreatDoor
namespace Ob
/-- The number of stored objects whose digest is less than d. -/
def lb (s : List S) (d : Int) : Nat := (s.filter fun x => decide (x.dig < d)).length
def fnd (s : List S) (d : Int) : Bool := decide (lb s d < s.length) && decide ((it s (lb s d)).dig = d)
theorem lb_le (s : List S) (d : Int) : lb s d ≤ s.length := List.length_filter_le _ _
theorem lb_eq (s : List S) (d : Int) (i : Nat) (hi : i ≤ s.length) (h1 : ∀ k, k < i → (it s k).dig < d) (h2 : ∀ k, i ≤ k → k < s.length → d ≤ (it s k).dig) : lb s d = i := by
  unfold lb
  rw [← List.take_append_drop i s, List.filter_append]
  have e1 : (s.take i).filter (fun x => decide (x.dig < d)) = s.take i := by
    rw [List.filter_eq_self]
    intro a ha
    obtain ⟨k, hk, rfl⟩ := List.mem_iff_getElem.1 ha
    simp at hk
    have := h1 k (by omega)
    rw [← it_eq s k (by omega)] at this
    simpa using this
  have e2 : (s.drop i).filter (fun x => decide (x.dig < d)) = [] := by
    rw [List.filter_eq_nil_iff]
    intro a ha
    obtain ⟨k, hk, rfl⟩ := List.mem_iff_getElem.1 ha
    simp at hk
    have := h2 (i + k) (by omega) (by omega)
    rw [← it_eq s (i + k) (by omega)] at this
    simp; omega
  rw [e1, e2]
  simp; omega
/-- A store whose digests grow. -/
def Sorted (s : List S) : Prop := ∀ i, i + 1 < s.length → (it s i).dig < (it s (i + 1)).dig
theorem Sorted.mono_ {s : List S} (h : Sorted s) : ∀ d i, i + d < s.length → 0 < d → (it s i).dig < (it s (i + d)).dig
  | 0, _, _, hd => by omega
  | 1, i, hi, _ => h i hi
  | d + 2, i, hi, _ => Int.lt_trans (h.mono_ (d + 1) i (by omega) (by omega)) (h (i + (d + 1)) hi)
theorem Sorted.mono {s : List S} (h : Sorted s) {i j : Nat} (hij : i < j) (hj : j < s.length) : (it s i).dig < (it s j).dig := by
  have := h.mono_ (j - i) i (by omega) (by omega)
  rwa [show i + (j - i) = j by omega] at this
theorem Sorted.le {s : List S} (h : Sorted s) {i j : Nat} (hij : i ≤ j) (hj : j < s.length) : (it s i).dig ≤ (it s j).dig := by
  rcases Nat.lt_or_eq_of_le hij with h1 | h1
  · exact Int.le_of_lt (h.mono h1 hj)
  · subst h1; exact Int.le_refl _
theorem lb_lt {s : List S} (h : Sorted s) (d : Int) (k : Nat) (hk : k < lb s d) : (it s k).dig < d := by
  rcases Nat.lt_or_ge k (lb s d) with _ | hh
  · apply Decidable.byContradiction
    intro hn
    have hle : lb s d ≤ k := by
      have h2 : ∀ j, k ≤ j → j < s.length → d ≤ (it s j).dig := fun j hj hjl => by
        have := h.le hj hjl; omega
      -- the number of smaller ones is at most k
      unfold lb
      have hks : k ≤ s.length := by have := lb_le s d; omega
      rw [← List.take_append_drop k s, List.filter_append]
      have e2 : (s.drop k).filter (fun x => decide (x.dig < d)) = [] := by
        rw [List.filter_eq_nil_iff]
        intro a ha
        obtain ⟨j, hj, rfl⟩ := List.mem_iff_getElem.1 ha
        simp at hj
        have := h2 (k + j) (by omega) (by omega)
        rw [← it_eq s (k + j) (by omega)] at this
        simp; omega
      rw [e2, List.append_nil]
      have := List.length_filter_le (fun x => decide (x.dig < d)) (s.take k)
      simp at this
      omega
    omega
  · omega
theorem lb_ge {s : List S} (h : Sorted s) (d : Int) (k : Nat) (hk : lb s d ≤ k) (hl : k < s.length) : d ≤ (it s k).dig := by
  apply Decidable.byContradiction
  intro hn
  -- then all up to k are smaller
  have h1 : ∀ j, j < k + 1 → (it s j).dig < d := fun j hj => by
    have := h.le (i := j) (j := k) (by omega) hl; omega
  have : k + 1 ≤ lb s d := by
    unfold lb
    rw [← List.take_append_drop (k + 1) s, List.filter_append]
    have e1 : (s.take (k + 1)).filter (fun x => decide (x.dig < d)) = s.take (k + 1) := by
      rw [List.filter_eq_self]
      intro a ha
      obtain ⟨j, hj, rfl⟩ := List.mem_iff_getElem.1 ha
      simp at hj
      have := h1 j (by omega)
      rw [← it_eq s j (by omega)] at this
      simpa using this
    rw [e1]
    simp; omega
  omega
theorem StOk.sorted {s : List S} (h : StOk s) : Sorted s := h.lt
end Ob
namespace Go.Proofs.YtjljknocnebnaaaGreatDoor
open Go.RowKit Go.V
set_option linter.unusedVariables false

/-- What the comparison answers. -/
def cmpD (x d : Int) : Int := if x < d then -1 else if d < x then 1 else 0
theorem cmp_any (w : World) (x k d : Int) (Al : Option Addr) (nl kl : Nat) (Ad : Option Addr) (nd kd : Nat) :
    Calls Tryz.prog 40 #[.agg #[.int .i64 x, .int .i64 k, .slice Al nl kl, .slice Ad nd kd], .int .i64 d] w fun e w' => e = .returned (.int .i64 (cmpD x d)) ∧ Below w.heap.size w w' := by
  by_cases h1 : x < d
  · have H : Hid (cmpD x d = -1) := Lib.hid (if_pos h1)
    go_enter Tryz.func40, Tryz.ntmps40
    go_wp2_with fail
    go_ret
    exact ⟨by rw [H.out]; rfl, below_alloc1 _ _⟩
  · by_cases h2 : d < x
    · have H : Hid (cmpD x d = 1) := Lib.hid (by unfold cmpD; rw [if_neg h1, if_pos h2])
      go_enter Tryz.func40, Tryz.ntmps40
      go_wp2_with fail
      go_ret
      exact ⟨by rw [H.out]; rfl, below_alloc1 _ _⟩
    · have H : Hid (cmpD x d = 0) := Lib.hid (by unfold cmpD; rw [if_neg h1, if_neg h2])
      go_enter Tryz.func40, Tryz.ntmps40
      go_wp2_with fail
      go_ret
      exact ⟨by rw [H.out]; rfl, below_alloc1 _ _⟩

set_option maxRecDepth 100000 in
set_option maxHeartbeats 8000000 in
theorem bsearch_any (w : World) (A : Option Addr) (k : Nat) (s : List Ob.S) (d : Int) (fv : Value) (hfv : fv = .func (.func 40) #[] #[]) (hv : StV w Free A s) (hl : s.length ≤ 1000000) (hs : Ob.Sorted s) :
    Calls Tryz.prog 39 #[.slice A s.length k, .int .i64 d, fv] w fun e w' => e = .returned (.tuple #[.int .i64 (Ob.lb s d : Nat), .bool (Ob.fnd s d)]) ∧ Below w.heap.size w w' := by
  have HROW := Lib.hid (fun (w' : World) (hb : Below w.heap.size w w') i hi => (hv.keep (free_below hb)).row (w := w') i hi)
  have HS := Lib.hid hs
  clear hv hs
  subst hfv
  go_enter Tryz.func39, Tryz.ntmps39
  go_wp2_with fail
  go_loopw [9, 10] (fun iv jv wr => ∃ i j : Nat, i ≤ j ∧ j ≤ s.length ∧ iv = .int .i64 i ∧ jv = .int .i64 j ∧ Hid (i ≤ Ob.lb s d ∧ Ob.lb s d ≤ j) ∧ Below w.heap.size w wr) (fun iv jv _ => (intOf jv).toNat - (intOf iv).toNat)
  case atStart => exact ⟨0, s.length, Nat.zero_le _, Nat.le_refl _, rfl, rfl, Lib.hid ⟨Nat.zero_le _, Ob.lb_le _ _⟩, Below.refl _ _⟩
  case round =>
    obtain ⟨i, j, hij, hj, rfl, rfl, HB, hbw⟩ := hrel
    obtain ⟨wo, rfl⟩ : ∃ wo : World, wo = wr := ⟨_, rfl⟩
    by_cases hlt : i < j
    · have hlt' : (i : Int) < j := by omega
      obtain ⟨m, hm1, hm2, hm⟩ : ∃ m : Nat, i ≤ m ∧ m < j ∧ ((i : Int) + j) / 2 = (m : Int) := ⟨(i + j) / 2, by omega, by omega, by omega⟩
      have hmi : (m : Int) < s.length := by omega
      obtain ⟨b, off, Al, kl, Ad, kd, e, hb, _, d0, d1, d2, d3, hx, hob⟩ := HROW.out _ hbw m (by omega)
      subst e
      have HLT := Lib.hid (fun h => Ob.lb_ge (d := d) HS.out m h (by omega))
      have HGE := Lib.hid (fun h => Ob.lb_lt (d := d) HS.out m h)
      clear hob hx
      by_cases hc : (Ob.it s m).dig < d
      · have HB' : Hid (m + 1 ≤ Ob.lb s d ∧ Ob.lb s d ≤ j) := Lib.hid ⟨by
          apply Decidable.byContradiction; intro hn; have := HLT.out (by omega); omega, HB.out.2⟩
        have hcd : Hid (cmpD (Ob.it s m).dig d = -1) := Lib.hid (if_pos hc)
        clear hc
        generalize Ob.it s m = x at *
        go_wp2_with fail
        go_at_call 40
        refine (cmp_any _ _ _ _ _ _ _ _ _ _).mono ?_
        rintro e w2 ⟨rfl, hb2⟩
        rw [hcd.out]
        have hbw2 := hbw.trans (hb2.mono hbw.size)
        clear hb2
        go_wp2_with fail
        go_roundw
        case rel => exact ⟨m + 1, j, by omega, hj, by go_num, rfl, HB', hbw2⟩
        case measure => simp [intOf]; omega
      · have HB' : Hid (i ≤ Ob.lb s d ∧ Ob.lb s d ≤ m) := Lib.hid ⟨HB.out.1, by
          apply Decidable.byContradiction; intro hn; have := HGE.out (by omega); omega⟩
        have hcd : 0 ≤ cmpD (Ob.it s m).dig d := by unfold cmpD; rw [if_neg hc]; split <;> omega
        clear hc
        generalize Ob.it s m = x at *
        generalize hcc : cmpD x.dig d = cd at *
        have HCC := Lib.hid hcc
        clear hcc
        go_wp2_with fail
        go_at_call 40
        refine (cmp_any _ _ _ _ _ _ _ _ _ _).mono ?_
        rintro e w2 ⟨rfl, hb2⟩
        rw [HCC.out]
        have hbw2 := hbw.trans (hb2.mono hbw.size)
        clear hb2
        go_wp2_with fail
        go_roundw
        case rel => exact ⟨i, m, hm1, by omega, rfl, rfl, HB', hbw2⟩
        case measure => simp [intOf]; omega
    · obtain rfl : i = j := by omega
      have hi : Ob.lb s d = i := by have := HB.out; omega
      have HI := Lib.hid hi
      clear hi HB
      by_cases hil : i < s.length
      · have hil' : (i : Int) < s.length := by omega
        obtain ⟨b, off, Al, kl, Ad, kd, e, hb, _, d0, d1, d2, d3, hx, hob⟩ := HROW.out _ hbw i hil
        subst e
        clear hob hx
        have HF : Hid (Ob.fnd s d = (cmpD (Ob.it s i).dig d == 0)) := Lib.hid (by
          unfold Ob.fnd
          rw [HI.out, decide_eq_true hil, Bool.true_and, Bool.eq_iff_iff]
          simp only [decide_eq_true_eq, beq_iff_eq]
          unfold cmpD
          split
          · omega
          · split <;> omega)
        generalize Ob.it s i = x at *
        generalize hcc : cmpD x.dig d = cd at *
        have HCC := Lib.hid hcc
        clear hcc
        go_wp2_with fail
        go_at_call 40
        refine (cmp_any _ _ _ _ _ _ _ _ _ _).mono ?_
        rintro e w2 ⟨rfl, hb2⟩
        rw [HCC.out]
        have hbw2 := hbw.trans (hb2.mono hbw.size)
        clear hb2
        go_wp2_with fail
        go_ret2
        exact ⟨by rw [HI.out, HF.out]; rfl, hbw2⟩
      · have hil' : ¬ (i : Int) < s.length := by omega
        have hil2 : decide (i < s.length) = false := decide_eq_false hil
        have HF : Hid (Ob.fnd s d = false) := Lib.hid (by unfold Ob.fnd; rw [HI.out, decide_eq_false hil]; rfl)
        clear hil
        go_wp2_with fail
        go_ret2
        exact ⟨by rw [HI.out, HF.out]; rfl, hbw⟩
theorem find_any (w : World) (A : Option Addr) (k : Nat) (s : List Ob.S) (d : Int) (hv : StV w Free A s) (hl : s.length ≤ 1000000) (hs : Ob.Sorted s) :
    Calls Tryz.prog 25 #[stV A s.length k, .int .i64 d] w fun e w' => e = .returned (.tuple #[.int .i64 (Ob.lb s d : Nat), .bool (Ob.fnd s d)]) ∧ Below w.heap.size w w' := by
  have HB := Lib.hid (fun fv hfv => bsearch_any (w.alloc (.cells #[.slice A s.length k] 24)) A k s d fv hfv (hv.keep (Keeps.alloc _ _ _)) hl hs)
  clear hv hs
  go_enter Tryz.func25, Tryz.ntmps25
  go_wp2_with fail
  go_at_call 39
  refine (HB.out _ rfl).mono ?_
  rintro e w1 ⟨rfl, hb1⟩
  go_wp2_with fail
  go_ret2
  exact ⟨rfl, (below_alloc1 _ _).trans (hb1.mono (by simp))⟩
end Go.Proofs.YtjljknocnebnaaaGreatDoor
namespace Ob
/-- What 'add' answers, and the store behind it. -/
def addOk (s : List S) (d : Int) (o : O) : Bool := if fnd s d then Go.Proofs.YtjljknocnebnaaaGreatDoor.eqO (it s (lb s d)).ob o else true
def addS (s : List S) (d : Int) (o : O) : List S := if fnd s d then s else s.take (lb s d) ++ [⟨d, o⟩] ++ s.drop (lb s d)
end Ob
namespace Go.V
open Go.RowKit
theorem RowsR.take {α : Type} {R : α → List Value → Prop} {k : Nat} (hk : ∀ a cs, R a cs → cs.length = k) : ∀ {l : List α} {vs : List Value}, RowsR R l vs → ∀ i, RowsR R (l.take i) (vs.take (i * k)) ∧ RowsR R (l.drop i) (vs.drop (i * k))
  | l, vs, h, 0 => by simp [RowsR]; exact h
  | [], vs, h, i + 1 => by simp only [RowsR] at h; subst h; simp [RowsR]
  | a :: l, vs, h, i + 1 => by
    obtain ⟨cs, rest, rfl, hc, hr⟩ := h
    have hl := hk a cs hc
    obtain ⟨h1, h2⟩ := RowsR.take hk hr i
    have e : (i + 1) * k = cs.length + i * k := by rw [Nat.add_mul, hl]; omega
    rw [e, List.take_length_add_append, List.drop_length_add_append]
    exact ⟨⟨cs, _, rfl, hc, h1⟩, h2⟩
/-- All but one block and one row are as they were. -/
structure TouchS (w w' : World) (g : Nat) (row : Option Nat) : Prop where
  os : w'.os = w.os
  tape : w'.tape = w.tape
  output : w'.output = w.output
  size : w.heap.size ≤ w'.heap.size
  block : ∀ b, b < w.heap.size → b ≠ g → some b ≠ row → w'.heap[b]? = w.heap[b]?
theorem TouchS.of_below {w w' : World} (h : Below w.heap.size w w') (g : Nat) (row : Option Nat) : TouchS w w' g row := ⟨h.os, h.tape, h.output, h.size, fun b hb _ _ => h.block b hb⟩
theorem TouchS.below {w w' : World} {g B : Nat} {row : Option Nat} (h : TouchS w w' g row) (hB : B ≤ w.heap.size) (hg : B ≤ g) (hr : ∀ k, row = some k → B ≤ k) : Below B w w' :=
  ⟨h.os, h.tape, h.output, h.size, fun b hb => h.block b (by omega) (by omega) (fun e => by have := hr b e.symm; omega)⟩
theorem TouchS.grown {w w1 w' : World} {g : Nat} {row : Option Nat} (h : Below w.heap.size w w1) (hg : w1.grownBy w' row) : TouchS w w' g row :=
  ⟨hg.os.trans h.os, hg.tape.trans h.tape, hg.output.trans h.output, Nat.le_trans h.size hg.size, fun b hb _ hr => (hg.block b (Nat.lt_of_lt_of_le hb h.size) hr).trans (h.block b hb)⟩
theorem TouchS.set {w w' : World} {g : Nat} {row : Option Nat} (h : TouchS w w' g row) (i : Nat) (v : Value) : TouchS w (w'.setCell ⟨g, i, none⟩ v) g row :=
  ⟨h.os, h.tape, h.output, by simpa [World.setCell] using h.size, fun b hb hne hr => (Below.heap_setCell w' ⟨g, i, none⟩ v b hne).trans (h.block b hb hne hr)⟩
theorem Blk.touchS {w w' : World} {g b : Nat} {row : Option Nat} {t : TypeId} {cs : Array Value} (hb : Blk w b t cs) (h : TouchS w w' g row) (hne : b ≠ g) (hr : some b ≠ row) : Blk w' b t cs := (h.block b hb.lt hne hr).trans hb
end Go.V
namespace Go.Proofs.YtjljknocnebnaaaGreatDoor
open Go.RowKit Go.V
set_option linter.unusedVariables false

theorem rows_one {w : World} {X : Nat → Prop} : ∀ {s : List Ob.S} {xs : List Value}, RowsR (StR w X) s xs → ∀ u ∈ xs, u.oneCell' = true
  | [], xs, h, u, hu => by simp only [RowsR] at h; subst h; cases hu
  | a :: l, xs, h, u, hu => by
    obtain ⟨cs, rest, rfl, ⟨Al, kl, Ad, kd, rfl, _⟩, hr⟩ := h
    rcases List.mem_append.1 hu with hu | hu
    · exact st_one _ _ _ _ _ _ _ _ u hu
    · exact rows_one hr u hu
theorem insert_any (w : World) (base : Nat) (A : Option Addr) (n c i : Nat) (xs : List Value) (nv : Array Value) (vb : Nat) (hown : w.ownsRow base 58 4 (.slice A n c) n xs) (hi : i ≤ n) (hl : n ≤ 1000000) (hbase : base ≤ w.heap.size)
    (hvb : Blk w vb 58 nv) (hnl : nv.size = 4) (hne : some vb ≠ (Value.slice A n c).ownBlock) (h1 : ∀ u ∈ nv.toList, u.oneCell' = true) (hx1 : ∀ u ∈ xs, u.oneCell' = true) :
    Calls Tryz.prog 65 #[.slice A n c, .int .i64 i, .slice (some ⟨vb, 0, none⟩) 1 1] w (InPost w base A n c xs nv.toList i) := by
  by_cases hin : i = n
  · subst hin
    exact insert_end w base A i c xs nv.toList vb hown hl hbase (by simpa using hnl) (fun j u hu => by rw [hvb.cell, ← Array.getElem?_toList]; exact hu) h1
  · obtain ⟨g, cur, rfl, _, hg, hb, hc, hm, hcs, hx⟩ := own_blk hown (by omega)
    have hne' : vb ≠ g := fun e => hne (by rw [e]; rfl)
    by_cases hr : n + 1 ≤ c
    · exact insert_room w base g n c i xs nv.toList vb nv cur hb hg hr hm hcs hx (by omega) hl hvb rfl hne' (by simpa using hnl) h1 hx1
    · obtain rfl : c = n := by omega
      exact insert_grow w base g c i xs nv.toList vb nv cur hb hbase hcs hx (by omega) hl hvb rfl (by simpa using hnl) h1 hx1
theorem own_new_ne {w : World} {base : Nat} {e : TypeId} {size n : Nat} {v : Value} {xs : List Value} (h : w.ownsRow base e size v n xs) : some w.heap.size ≠ v.ownBlock := fun e => by have := (h.lt _ e.symm).2; omega
theorem hne46 : (58 : TypeId) ≠ 24 := by decide
/-- A store in a variable of the call's own. -/
structure OutSt (w : World) (g base : Nat) (X : Nat → Prop) (A : Option Addr) (c : Nat) (s : List Ob.S) (xs : List Value) : Prop where
  blk : Blk w g 24 #[.slice A s.length c]
  own : w.ownsRow base 58 4 (.slice A s.length c) s.length xs
  rows : RowsR (StR w (Or1 X (.slice A s.length c))) s xs
  hX : X g
  hi : base ≤ w.heap.size
section
variable {w w' : World} {g base : Nat} {X : Nat → Prop} {A : Option Addr} {c : Nat} {s : List Ob.S} {xs : List Value}
theorem OutSt.below (h : OutSt w g base X A c s xs) (hb : Below w.heap.size w w') : OutSt w' g base X A c s xs :=
  ⟨h.blk.below hb h.blk.lt, h.own.kept (only_of_below hb none) (by cases hv : (Value.slice A s.length c).ownBlock <;> simp), h.rows.mono (StR.keep (Keeps.below hb (fun _ _ h => h))), h.hX, Nat.le_trans h.hi hb.size⟩
theorem OutSt.view (h : OutSt w g base X A c s xs) : StV w Free A s :=
  ⟨xs, SA.of_own' h.own (fun _ _ h => h), h.rows.mono (StR.keep ((Keeps.refl w _).into fun _ h => h.elim))⟩
end
def AdPost (w : World) (g base : Nat) (X : Nat → Prop) (A : Option Addr) (c : Nat) (s : List Ob.S) (d : Int) (o : Ob.O) (e : Ending) (w' : World) : Prop :=
  ∃ A' c' xs', e = .returned (.bool (Ob.addOk s d o)) ∧ OutSt w' g base X A' c' (Ob.addS s d o) xs' ∧ TouchS w w' g (Value.slice A s.length c).ownBlock
set_option maxRecDepth 100000 in
set_option maxHeartbeats 16000000 in
theorem add_any (w : World) (g base : Nat) (X : Nat → Prop) (A : Option Addr) (c : Nat) (s : List Ob.S) (xs : List Value) (d : Int) (o : Ob.O) (Al : Option Addr) (kl : Nat) (Ad : Option Addr) (kd : Nat)
    (h : OutSt w g base X A c s xs) (hXs : ∀ b, X b → b < w.heap.size) (hs : Ob.Sorted s) (hl : s.length ≤ 100000) (hd : I64 d) (ho : ObA w Free o Al kl Ad kd) (hlk : o.links.length * 8 ≤ 140737488351232) :
    Calls Tryz.prog 38 #[.pointer (some ⟨g, 0, none⟩), .int .i64 d, obV o Al kl Ad kd] w (AdPost w g base X A c s d o) := by
  have hOL := Ob.lb_le s d
  have hb1 := below_alloc1 w (.cells #[.int .i64 o.kind, .slice Al o.links.length kl, .slice Ad o.data.length kd] 56)
  have h1 := h.below hb1
  have HFI := Lib.hid (find_any _ A c s d h1.view (by omega) hs)
  have HOV := Lib.hid (fun (w' : World) (hb : Below w.heap.size w w') => ho.keep (free_below hb))
  have HST := Lib.hid (fun (w' : World) (hb : Below w.heap.size w w') => h.below hb)
  have q0 := h1.blk.cell 0
  simp only [List.getElem?_toArray, List.getElem?_cons_zero] at q0
  have HSR := Lib.hid hs
  have hgl := h1.blk.lt
  clear h1 hs
  by_cases hf : Ob.fnd s d = true
  · have hpl : Ob.lb s d < s.length := by
      unfold Ob.fnd at hf; rw [Bool.and_eq_true] at hf; simpa using hf.1
    have HOK : Hid (Ob.addOk s d o = eqO (Ob.it s (Ob.lb s d)).ob o) := Lib.hid (by unfold Ob.addOk; rw [hf]; rfl)
    have HAS : Hid (Ob.addS s d o = s) := Lib.hid (by unfold Ob.addS; rw [hf]; rfl)
    rw [hf] at HFI
    clear hf
    have HROW := Lib.hid (fun (w' : World) (hb : Below w.heap.size w w') => ((h.view).keep (free_below hb)).row (w := w') _ hpl)
    have HSM := Lib.hid (fun (w' : World) (hb : Below w.heap.size w w') Al' kl' Ad' kd' (h' : ObA w' Free (Ob.it s (Ob.lb s d)).ob Al' kl' Ad' kd') => same_any w' (Ob.it s (Ob.lb s d)).ob o Al' kl' Ad' kd' Al kl Ad kd h' (HOV.out w' hb))
    generalize hx : Ob.it s (Ob.lb s d) = x at *
    clear hx
    generalize eqO x.ob o = q at *
    obtain ⟨xd, kk', ls', da'⟩ := x
    obtain ⟨kk, ls, da⟩ := o
    simp only at *
    generalize Ob.lb s d = p at *
    have hpi : (p : Int) < s.length := by omega
    go_enter Tryz.func38, Tryz.ntmps38
    go_wp2_with fail
    go_at_call 25
    refine HFI.out.mono ?_
    rintro e w2 ⟨rfl, hb2⟩
    have hbw := hb1.trans (hb2.mono hb1.size)
    have h2 := HST.out _ hbw
    have r0 := h2.blk.cell 0
    simp only [List.getElem?_toArray, List.getElem?_cons_zero] at r0
    have blx := (Blk.new w 56 #[.int .i64 kk, .slice Al ls.length kl, .slice Ad da.length kd]).below hb2 (by simp)
    have x0 := blx.cell 0
    have x1 := blx.cell 1
    have x2 := blx.cell 2
    simp only [List.getElem?_toArray, List.getElem?_cons_zero, List.getElem?_cons_succ] at x0 x1 x2
    have hk0 : Below w2.heap.size w2 w2.drew := below_drew' (Below.refl _ _)
    obtain ⟨b, off, Al', kl', Ad', kd', eA, hb, _, d0, d1, d2, d3, _, hob⟩ := HROW.out _ hbw
    subst eA
    have hobd := hob.keep (free_below hk0)
    have HK : Hid (∀ w6 : World, Below w2.heap.size w2 w6 → w6.cell? ⟨g, 0, none⟩ = some (.slice (some ⟨b, off, none⟩) s.length c) ∧ w6.cell? ⟨w.heap.size, 0, none⟩ = some (.int .i64 kk) ∧ w6.cell? ⟨w.heap.size, 1, none⟩ = some (.slice Al ls.length kl) ∧ w6.cell? ⟨w.heap.size, 2, none⟩ = some (.slice Ad da.length kd) ∧
        w6.cell? ⟨b, off + p * 4 + 1, none⟩ = some (.int .i64 kk') ∧ w6.cell? ⟨b, off + p * 4 + 1 + 1, none⟩ = some (.slice Al' ls'.length kl') ∧ w6.cell? ⟨b, off + p * 4 + 1 + 2, none⟩ = some (.slice Ad' da'.length kd')) := Lib.hid fun w6 h6 =>
      ⟨(h6.cell (p := ⟨_, _, none⟩) h2.blk.lt).trans r0, (h6.cell (p := ⟨_, _, none⟩) blx.lt).trans x0, (h6.cell (p := ⟨_, _, none⟩) blx.lt).trans x1, (h6.cell (p := ⟨_, _, none⟩) blx.lt).trans x2, (h6.cell (p := ⟨_, _, none⟩) hb).trans d1, (h6.cell (p := ⟨_, _, none⟩) hb).trans d2, (h6.cell (p := ⟨_, _, none⟩) hb).trans d3⟩
    have hp0 : (0 : Int) ≤ p := by omega
    clear hb2 HFI d0 d1 d2 d3 hob
    go_wp2_with fail
    go_region_held3 (fun w6 => w6.cell? ⟨g, 0, none⟩ = some (.slice (some ⟨b, off, none⟩) s.length c) ∧ w6.cell? ⟨w.heap.size, 0, none⟩ = some (.int .i64 kk) ∧ w6.cell? ⟨w.heap.size, 1, none⟩ = some (.slice Al ls.length kl) ∧ w6.cell? ⟨w.heap.size, 2, none⟩ = some (.slice Ad da.length kd) ∧
        w6.cell? ⟨b, off + p * 4 + 1, none⟩ = some (.int .i64 kk') ∧ w6.cell? ⟨b, off + p * 4 + 1 + 1, none⟩ = some (.slice Al' ls'.length kl') ∧ w6.cell? ⟨b, off + p * 4 + 1 + 2, none⟩ = some (.slice Ad' da'.length kd'))
      (first | exact HK.out _ hk0 | exact HK.out _ hk3)
      (first | (go_at_call 64; (with_reducible refine (HSM.out _ (hbw.trans (hk0.mono hbw.size)) _ _ _ _ hobd).mono ?_); rintro e w3 ⟨rfl, hb3⟩; have hk3 : Below w2.heap.size w2 w3 := hk0.trans (hb3.mono hk0.size)))
    go_wp2_with fail
    go_ret
    refine ⟨_, c, xs, by rw [HOK.out]; rfl, by rw [HAS.out]; exact h2.below hk3, .of_below (hbw.trans (hk3.mono hbw.size)) _ _⟩
  · have hff : Ob.fnd s d = false := by simpa using hf
    clear hf
    have HOK : Hid (Ob.addOk s d o = true) := Lib.hid (by unfold Ob.addOk; rw [hff]; rfl)
    have HAS : Hid (Ob.addS s d o = s.take (Ob.lb s d) ++ [⟨d, o⟩] ++ s.drop (Ob.lb s d)) := Lib.hid (by unfold Ob.addS; rw [hff]; rfl)
    rw [hff] at HFI
    clear hff
    have HCO := Lib.hid (fun (w' : World) (hb : Below w.heap.size w w') => copyObject_any w' o Al kl Ad kd (HOV.out w' hb) hlk)
    obtain ⟨kk, ls, da⟩ := o
    simp only at *
    generalize Ob.lb s d = p at *
    go_enter Tryz.func38, Tryz.ntmps38
    go_wp2_with fail
    go_at_call 25
    refine HFI.out.mono ?_
    rintro e w2 ⟨rfl, hb2⟩
    have hbw := hb1.trans (hb2.mono hb1.size)
    have h2 := HST.out _ hbw
    have r0 := h2.blk.cell 0
    simp only [List.getElem?_toArray, List.getElem?_cons_zero] at r0
    have blx := (Blk.new w 56 #[.int .i64 kk, .slice Al ls.length kl, .slice Ad da.length kd]).below hb2 (by simp)
    have x0 := blx.cell 0
    have x1 := blx.cell 1
    have x2 := blx.cell 2
    simp only [List.getElem?_toArray, List.getElem?_cons_zero, List.getElem?_cons_succ] at x0 x1 x2
    clear hb2 HFI
    go_wp2_with fail
    have hk0 : Below w2.heap.size w2 w2.drew := below_drew' (Below.refl _ _)
    have hplen : p ≤ s.length := hOL
    have hl6 : s.length ≤ 1000000 := by omega
    go_region_law
      (first
        | (go_simp; go_at_call 42; (with_reducible refine (HCO.out _ (hbw.trans (hk0.mono hbw.size))).mono ?_); rintro e w3 ⟨A1, k1, A2, k2, rfl, hob3, hb3⟩; have hk3 : Below w2.heap.size w2 w3 := hk0.trans (hb3.mono hk0.size); have h3 := h2.below hk3; have p0 := (h3.blk.cell 0).trans (rfl : _ = some (Value.slice A s.length c)); have z3 := h3.blk.lt; go_wp2_with fail)
        | (go_simp; go_at_call 65; (with_reducible refine (insert_any _ base A s.length c p xs #[.int .i64 d, .int .i64 kk, .slice A1 ls.length k1, .slice A2 da.length k2] w3.heap.size (h3.own.alloc _) hplen hl6 (Nat.le_trans h3.hi (size_alloc_le _ _)) (Blk.new w3 58 #[.int .i64 d, .int .i64 kk, .slice A1 ls.length k1, .slice A2 da.length k2]) rfl (own_new_ne h3.own) (st_one _ _ _ _ _ _ _ _) (rows_one h3.rows)).mono ?_); rintro e w4 ⟨gd, c4, rfl, hown4, hg4, hob4⟩; have own3 := h3.own.alloc (.cells #[.int .i64 d, .int .i64 kk, .slice A1 ls.length k1, .slice A2 da.length k2] 58); have blk3 := h3.blk.alloc (.cells #[.int .i64 d, .int .i64 kk, .slice A1 ls.length k1, .slice A2 da.length k2] 58); have blk4 := blk3.grown hg4 (own_blk_ne own3 blk3 hne46); have r5 := (blk4.cell 0).trans (rfl : _ = some (Value.slice A s.length c)); have r6 := blk4.frozen 0; go_wp2_with fail))
    all_goals
      go_wp2_with fail
      go_ret
      have hkp := ((Keeps.alloc w3 (Or1 X (.slice A s.length c)) (.cells #[.int .i64 d, .int .i64 kk, .slice A1 ls.length k1, .slice A2 da.length k2] 58)).trans (Keeps.or1 hg4 rfl hob4)).trans (Keeps.setCell w4 _ ⟨g, 0, none⟩ (.slice (some ⟨gd, 0, none⟩) (s.length + 1) c4) (.inl h.hX))
      have hrows := RowsR.take StR.len (h3.rows.mono (StR.keep hkp)) p
      have hlen : (Ob.addS s d ⟨kk, ls, da⟩).length = s.length + 1 := by rw [HAS.out]; simp; omega
      refine ⟨some ⟨gd, 0, none⟩, c4, xs.take (p * 4) ++ (#[.int .i64 d, .int .i64 kk, .slice A1 ls.length k1, .slice A2 da.length k2] : Array Value).toList ++ xs.drop (p * 4), by rw [HOK.out]; rfl, ⟨?_, ?_, ?_, h.hX, ?_⟩, ?_⟩
      · rw [hlen]; simpa using blk4.set_ 0 (.slice (some ⟨gd, 0, none⟩) (s.length + 1) c4)
      · rw [hlen]; exact own_setCell hown4 (own_blk_ne hown4 blk4 hne46) _
      · rw [hlen, HAS.out]
        refine (hrows.1.append (RowsR.one ⟨A1, k1, A2, k2, rfl, hd, ObA.keep ?_ hkp⟩)).append hrows.2
        exact hob3.mono_ (fun b hb => by
          rcases hb with hb | hb
          · exact Nat.lt_of_lt_of_le (hXs b hb) (hbw.trans (hk0.mono hbw.size)).size
          · exact Nat.lt_of_lt_of_le (h2.own.lt b hb).2 hk0.size)
      · have := hg4.size; have := h3.hi; simp [World.setCell] at *; omega
      · refine (TouchS.grown (w1 := w3.alloc (.cells #[.int .i64 d, .int .i64 kk, .slice A1 ls.length k1, .slice A2 da.length k2] 58)) ?_ hg4).set 0 _
        exact ((hbw.trans (hk3.mono hbw.size))).alloc (hbw.trans (hk3.mono hbw.size)).size _
end Go.Proofs.YtjljknocnebnaaaGreatDoor
namespace Go.Proofs.YtjljknocnebnaaaGreatDoor
open Go.RowKit Go.V
set_option linter.unusedVariables false

theorem results_44_28 {fn : Func} {a b : Tmp} (h : fn.results = #[.cell a 56, .cell b 28]) (tmps : Array Value) (w : World) (g g' : Nat) (x y z c i : Value) (ha : tmps.getD a undef = .pointer (some ⟨g, 0, none⟩)) (hb' : tmps.getD b undef = .pointer (some ⟨g', 0, none⟩))
    (hb : Blk w g 56 #[x, y, z]) (hc : Blk w g' 28 #[c, i]) : (results fn tmps).run Tryz.prog w = .ok (.tuple #[.agg #[x, y, z], .agg #[c, i]]) w := by
  have h0 := hb.cell 0
  have h1 := hb.cell 1
  have h2 := hb.cell 2
  have k0 := hc.cell 0
  have k1 := hc.cell 1
  simp only [List.getElem?_toArray, List.getElem?_cons_zero, List.getElem?_cons_succ] at h0 h1 h2 k0 k1
  have ha' : tmps[a]?.getD undef = .pointer (some ⟨g, 0, none⟩) := by simpa using ha
  have hb'' : tmps[b]?.getD undef = .pointer (some ⟨g', 0, none⟩) := by simpa using hb'
  simp [results, h, go_sem, ha', hb'', h0, h1, h2, k0, k1]
abbrev zObj : Value := .agg #[.int .i64 0, .slice none 0 0, .slice none 0 0]
/-- What 'Get' answers. -/
def GtPost (w : World) (s : List Ob.S) (d : Int) (e : Ending) (w' : World) : Prop := Below w.heap.size w w' ∧
  (((Ob.stF s).1 ≠ 0 ∧ e = .returned (.tuple #[zObj, .agg #[.int .i64 (Ob.stF s).1, .int .i64 (Ob.stF s).2]])) ∨ (Ob.StOk s ∧ Ob.fnd s d = false ∧ e = .returned (.tuple #[zObj, .agg #[.int .i64 6, .int .i64 (-1)]])) ∨
    (Ob.StOk s ∧ Ob.fnd s d = true ∧ ∃ A1 k1 A2 k2, e = .returned (.tuple #[obV (Ob.it s (Ob.lb s d)).ob A1 k1 A2 k2, .agg #[.int .i64 0, .int .i64 0]]) ∧ ObA w' (Under w.heap.size) (Ob.it s (Ob.lb s d)).ob A1 k1 A2 k2))
theorem put32 {w1 : World} {g1 g2 : Nat} {t1 t2 : TypeId} {a b c d e : Value} (h1 : Blk w1 g1 t1 #[a, b, c]) (h2 : Blk w1 g2 t2 #[d, e]) (hne : g1 ≠ g2) (x y z u v : Value) :
    Blk (((((w1.setCell ⟨g1, 0, none⟩ x).setCell ⟨g1, 1, none⟩ y).setCell ⟨g1, 2, none⟩ z).setCell ⟨g2, 0, none⟩ u).setCell ⟨g2, 1, none⟩ v) g1 t1 #[x, y, z] ∧
    Blk (((((w1.setCell ⟨g1, 0, none⟩ x).setCell ⟨g1, 1, none⟩ y).setCell ⟨g1, 2, none⟩ z).setCell ⟨g2, 0, none⟩ u).setCell ⟨g2, 1, none⟩ v) g2 t2 #[u, v] ∧
    ∀ (B : Nat) (w0 : World), B ≤ g1 → B ≤ g2 → Below B w0 w1 → Below B w0 (((((w1.setCell ⟨g1, 0, none⟩ x).setCell ⟨g1, 1, none⟩ y).setCell ⟨g1, 2, none⟩ z).setCell ⟨g2, 0, none⟩ u).setCell ⟨g2, 1, none⟩ v) :=
  ⟨((blk_put3 h1 x y z).far (p := ⟨g2, 0, none⟩) hne u).far (p := ⟨g2, 1, none⟩) hne v,
   blk_put2 (((h2.far (p := ⟨g1, 0, none⟩) (Ne.symm hne) x).far (p := ⟨g1, 1, none⟩) (Ne.symm hne) y).far (p := ⟨g1, 2, none⟩) (Ne.symm hne) z) u v,
   fun B w0 h3 h4 hb => ((((hb.setCell (p := ⟨g1, 0, none⟩) h3 _).setCell (p := ⟨g1, 1, none⟩) h3 _).setCell (p := ⟨g1, 2, none⟩) h3 _).setCell (p := ⟨g2, 0, none⟩) h4 _).setCell (p := ⟨g2, 1, none⟩) h4 _⟩
theorem blk_new2 (w : World) (o o' : Obj) (t : TypeId) (cs : Array Value) : Blk (((w.alloc o).alloc o').alloc (.cells cs t)) (w.heap.size + 2) t cs := by
  simpa using Blk.new ((w.alloc o).alloc o') t cs
set_option maxRecDepth 100000 in
set_option maxHeartbeats 8000000 in
theorem get_any (w : World) (A : Option Addr) (k : Nat) (s : List Ob.S) (d : Int) (hv : StV w Free A s) (hl64 : s.length ≤ 9223372036854775807) :
    Calls Tryz.prog 27 #[stV A s.length k, .int .i64 d] w (GtPost w s d) := by
  have HC := Lib.hid (fun (w1 : World) (hb : Below w.heap.size w w1) => validate_any w1 A k s (hv.keep (free_below hb)) hl64)
  have HFI := Lib.hid (fun (w1 : World) (hb : Below w.heap.size w w1) (h : Ob.StOk s) => find_any w1 A k s d (hv.keep (free_below hb)) (by have := h.len; omega) h.sorted)
  have HROW := Lib.hid (fun (w' : World) (hb : Below w.heap.size w w') i hi => (hv.keep (free_below hb)).row (w := w') i hi)
  clear hv
  go_enter Tryz.func27, Tryz.ntmps27
  go_wp2_with fail
  go_at_call 21
  refine (HC.out _ (below_alloc3 _ _ _ _)).mono ?_
  rintro e w1 ⟨rfl, hb1⟩
  have hobj := ((blk_new1 w (.cells #[.slice A s.length k] 24) 56 #[.int .i64 0, .slice none 0 0, .slice none 0 0]).alloc (.cells #[.int .i64 0, .int .i64 0] 28)).below hb1 (by simp)
  have hblk := (blk_new2 w (.cells #[.slice A s.length k] 24) (.cells #[.int .i64 0, .slice none 0 0, .slice none 0 0] 56) 28 #[.int .i64 0, .int .i64 0]).below hb1 (by simp)
  have hbox := (((Blk.new w 24 #[.slice A s.length k]).alloc (.cells #[.int .i64 0, .slice none 0 0, .slice none 0 0] 56)).alloc (.cells #[.int .i64 0, .int .i64 0] 28)).below hb1 (by simp; omega)
  have hbw := (below_alloc3 w (.cells #[.slice A s.length k] 24) (.cells #[.int .i64 0, .slice none 0 0, .slice none 0 0] 56) (.cells #[.int .i64 0, .int .i64 0] 28)).trans (hb1.mono (by simp; omega))
  have hsz := hbw.size
  have hlt := hblk.lt
  have hltb : w.heap.size < w1.heap.size := by omega
  have hlto : w.heap.size + 1 < w1.heap.size := by omega
  have hc0 := hblk.cell 0
  have hc1 := hblk.cell 1
  have hf0 := hblk.frozen 0
  have hf1 := hblk.frozen 1
  have o0 := hobj.cell 0
  have o1 := hobj.cell 1
  have o2 := hobj.cell 2
  have of0 := hobj.frozen 0
  have of1 := hobj.frozen 1
  have of2 := hobj.frozen 2
  have p0 := hbox.cell 0
  simp only [List.getElem?_toArray, List.getElem?_cons_zero, List.getElem?_cons_succ] at hc0 hc1 p0 o0 o1 o2
  clear hb1 HC
  by_cases hbad : (Ob.stF s).1 ≠ 0
  · have H : Hid (∀ w' : World, Below w.heap.size w w' → GtPost w s d (.returned (.tuple #[zObj, .agg #[.int .i64 (Ob.stF s).1, .int .i64 (Ob.stF s).2]])) w') := Lib.hid fun w' hb => ⟨hb, .inl ⟨hbad, rfl⟩⟩
    have hb1 : ((Ob.stF s).1 == 0) = false := by simpa using hbad
    have hb2 : ((Ob.stF s).1 != 0) = true := by simpa using hbad
    clear hbad HFI HROW
    generalize GtPost w s d = R at *
    generalize Ob.stF s = r at *
    obtain ⟨cd, ix⟩ := r
    simp only at hb1 hb2
    go_wp2_with fail
    go_region
    all_goals
      go_wp2_with fail
      obtain ⟨k1, k2, k3⟩ := put32 hobj hblk (by omega) (.int .i64 0) (.slice none 0 0) (.slice none 0 0) (.int .i64 cd) (.int .i64 ix)
      refine bodyPost_ret (results_44_28 rfl _ _ (w.heap.size + 1) (w.heap.size + 2) (.int .i64 0) (.slice none 0 0) (.slice none 0 0) (.int .i64 cd) (.int .i64 ix) rfl rfl ((k1.alloc _).drewN 1) ((k2.alloc _).drewN 1)) rfl ?_
      refine H.out _ ?_
      exact below_drewN ((k3 _ _ (by omega) (by omega) hbw).alloc (by simp [World.setCell]; omega) _) 1
  · obtain ⟨hz, hok⟩ := Ob.stF_ok (by simpa using hbad)
    rw [hz]
    have hbw2 := hbw.alloc hsz (.cells #[.int .i64 0, .int .i64 0] 28)
    have hblk2 := hblk.alloc (.cells #[.int .i64 0, .int .i64 0] 28)
    have hobj2 := hobj.alloc (.cells #[.int .i64 0, .int .i64 0] 28)
    have hbox2 := hbox.alloc (.cells #[.int .i64 0, .int .i64 0] 28)
    have HF2 := Lib.hid (HFI.out _ hbw2 hok)
    have HNO : Hid (∀ w' : World, Ob.fnd s d = false → Below w.heap.size w w' → GtPost w s d (.returned (.tuple #[zObj, .agg #[.int .i64 6, .int .i64 (-1)]])) w') := Lib.hid fun w' h hb => ⟨hb, .inr (.inl ⟨hok, h, rfl⟩)⟩
    have HYES : Hid (∀ (w' : World) A1 k1 A2 k2, Ob.fnd s d = true → Below w.heap.size w w' → ObA w' (Under w.heap.size) (Ob.it s (Ob.lb s d)).ob A1 k1 A2 k2 → GtPost w s d (.returned (.tuple #[obV (Ob.it s (Ob.lb s d)).ob A1 k1 A2 k2, .agg #[.int .i64 0, .int .i64 0]])) w') := Lib.hid fun w' A1 k1 A2 k2 h hb ho => ⟨hb, .inr (.inr ⟨hok, h, A1, k1, A2, k2, rfl, ho⟩)⟩
    have HLK := Lib.hid (fun i hi => (hok.ok i hi).ln)
    have HFD := Lib.hid (show Ob.fnd s d = (decide (Ob.lb s d < s.length) && decide ((Ob.it s (Ob.lb s d)).dig = d)) from rfl)
    clear HFI hz hbad hok
    generalize GtPost w s d = R at *
    have hlt2 := hobj2.lt
    go_wp2_with fail
    go_at_call 25
    refine HF2.out.mono ?_
    rintro e w2 ⟨rfl, hb2⟩
    have hbw3 := hbw2.trans (hb2.mono hbw2.size)
    have hblk3 := hblk2.below hb2 hblk2.lt
    have hobj3 := hobj2.below hb2 hobj2.lt
    have hbox3 := hbox2.below hb2 hbox2.lt
    have hlt3 := hblk3.lt
    have hlt4 := hobj3.lt
    have hlt5 := hbox3.lt
    have hf03 := hblk3.frozen 0
    have hf13 := hblk3.frozen 1
    have hc03 := hblk3.cell 0
    have hc13 := hblk3.cell 1
    have o03 := hobj3.cell 0
    have o13 := hobj3.cell 1
    have o23 := hobj3.cell 2
    have of03 := hobj3.frozen 0
    have of13 := hobj3.frozen 1
    have of23 := hobj3.frozen 2
    have p03 := hbox3.cell 0
    simp only [List.getElem?_toArray, List.getElem?_cons_zero, List.getElem?_cons_succ] at hc03 hc13 o03 o13 o23 p03
    clear HF2 hobj hobj2 hblk hblk2 hbox hbox2 o0 o1 o2 of0 of1 of2 p0 hc0 hc1 hf0 hf1
    by_cases hf : Ob.fnd s d = true
    · have hpl : Ob.lb s d < s.length := by
        have := HFD.out; rw [hf] at this; have h := this.symm; rw [Bool.and_eq_true] at h; simpa using h.1
      obtain ⟨b, off, Al, kl, Ad, kd, e, hb, _, d0, d1, d2, d3, hx, hob⟩ := HROW.out _ hbw3 _ hpl
      subst e
      have hlk := HLK.out _ hpl
      have HCO := Lib.hid (copyObject_any w2 _ Al kl Ad kd hob (by omega))
      have HY := Lib.hid (fun w' A1 k1 A2 k2 => HYES.out w' A1 k1 A2 k2 hf)
      rw [hf]
      clear hf hob hlk HYES HNO HFD HLK
      generalize hxx : Ob.it s (Ob.lb s d) = x at *
      clear hxx
      generalize Ob.lb s d = p at *
      obtain ⟨xd, kk, ls, da⟩ := x
      simp only at *
      have hpi : (p : Int) < s.length := by omega
      go_wp2_with fail
      go_at_call 42
      refine HCO.out.mono ?_
      rintro e w4 ⟨A1, k1, A2, k2, rfl, hob4, hb4⟩
      have hbw4 := hbw3.trans (hb4.mono hbw3.size)
      have hblk4 := hblk3.below hb4 hblk3.lt
      have hobj4 := hobj3.below hb4 hobj3.lt
      have m0 := hblk4.cell 0
      have m1 := hblk4.cell 1
      have m2 := hblk4.frozen 0
      have m3 := hblk4.frozen 1
      have n0 := hobj4.cell 0
      have n1 := hobj4.cell 1
      have n2 := hobj4.cell 2
      have n3 := hobj4.frozen 0
      have n4 := hobj4.frozen 1
      have n5 := hobj4.frozen 2
      simp only [List.getElem?_toArray, List.getElem?_cons_zero, List.getElem?_cons_succ] at m0 m1 n0 n1 n2
      clear HCO
      go_wp2_with fail
      obtain ⟨j1, j2, j3⟩ := put32 hobj4 hblk4 (by omega) (.int .i64 kk) (.slice A1 ls.length k1) (.slice A2 da.length k2) (.int .i64 0) (.int .i64 0)
      refine bodyPost_ret (results_44_28 rfl _ _ (w.heap.size + 1) (w.heap.size + 2) (.int .i64 kk) (.slice A1 ls.length k1) (.slice A2 da.length k2) (.int .i64 0) (.int .i64 0) rfl rfl j1 j2) rfl ?_
      have hu1 : Under w2.heap.size (w.heap.size + 1) := hlt4
      have hu2 : Under w2.heap.size (w.heap.size + 2) := hlt3
      have hkp := ((((Keeps.setCell w4 (Under w2.heap.size) ⟨w.heap.size + 1, 0, none⟩ (.int .i64 kk) hu1).trans (Keeps.setCell _ _ ⟨w.heap.size + 1, 1, none⟩ (.slice A1 ls.length k1) hu1)).trans (Keeps.setCell _ _ ⟨w.heap.size + 1, 2, none⟩ (.slice A2 da.length k2) hu1)).trans (Keeps.setCell _ _ ⟨w.heap.size + 2, 0, none⟩ (.int .i64 0) hu2)).trans (Keeps.setCell _ _ ⟨w.heap.size + 2, 1, none⟩ (.int .i64 0) hu2)
      exact HY.out _ _ _ _ _ (j3 _ _ (by omega) (by omega) hbw4) ((hob4.keep hkp).mono_ (fun b hb => Nat.lt_of_lt_of_le hb (by omega)))
    · have hff : Ob.fnd s d = false := by simpa using hf
      have HN := Lib.hid (fun w' => HNO.out w' hff)
      rw [hff]
      clear hf hff HYES HNO HFD HLK HROW
      generalize Ob.lb s d = p at *
      go_wp2_with fail
      obtain ⟨j1, j2, j3⟩ := put32 hobj3 hblk3 (by omega) (.int .i64 0) (.slice none 0 0) (.slice none 0 0) (.int .i64 6) (.int .i64 (-1))
      refine bodyPost_ret (results_44_28 rfl _ _ (w.heap.size + 1) (w.heap.size + 2) (.int .i64 0) (.slice none 0 0) (.slice none 0 0) (.int .i64 6) (.int .i64 (-1)) rfl rfl j1 j2) rfl ?_
      exact HN.out _ (j3 _ _ (by omega) (by omega) hbw3)
end Go.Proofs.YtjljknocnebnaaaGreatDoor
namespace Ob
/-- What 'Put' answers. -/
def putF (s : List S) (o : O) : List S × Int × (Int × Int) :=
  if (stF s).1 ≠ 0 then ([], 0, stF s) else if (obF o).1 ≠ 0 then ([], 0, ((obF o).1, -1)) else if addOk s (dig o) o = false then ([], 0, (19, -1))
  else if 40 < (addS s (dig o) o).length then ([], 0, (14, -1)) else (addS s (dig o) o, dig o, (0, 0))
end Ob
namespace Go.Proofs.YtjljknocnebnaaaGreatDoor
open Go.RowKit Go.V
set_option linter.unusedVariables false

theorem results_24_t_28 {fn : Func} {a b t : Tmp} (h : fn.results = #[.cell a 24, .tmp t, .cell b 28]) (tmps : Array Value) (w : World) (g g' : Nat) (x c i : Value) (ha : tmps.getD a undef = .pointer (some ⟨g, 0, none⟩)) (hb' : tmps.getD b undef = .pointer (some ⟨g', 0, none⟩))
    (hb : Blk w g 24 #[x]) (hc : Blk w g' 28 #[c, i]) : (results fn tmps).run Tryz.prog w = .ok (.tuple #[.agg #[x], tmps.getD t undef, .agg #[c, i]]) w := by
  have h0 := hb.cell 0
  have k0 := hc.cell 0
  have k1 := hc.cell 1
  simp only [List.getElem?_toArray, List.getElem?_cons_zero, List.getElem?_cons_succ] at h0 k0 k1
  have ha' : tmps[a]?.getD undef = .pointer (some ⟨g, 0, none⟩) := by simpa using ha
  have hb'' : tmps[b]?.getD undef = .pointer (some ⟨g', 0, none⟩) := by simpa using hb'
  simp [results, h, go_sem, ha', hb'', h0, k0, k1]
theorem put12 {w1 : World} {g1 g2 : Nat} {t1 t2 : TypeId} {a d e : Value} (h1 : Blk w1 g1 t1 #[a]) (h2 : Blk w1 g2 t2 #[d, e]) (hne : g1 ≠ g2) (x u v : Value) :
    Blk (((w1.setCell ⟨g1, 0, none⟩ x).setCell ⟨g2, 0, none⟩ u).setCell ⟨g2, 1, none⟩ v) g1 t1 #[x] ∧
    Blk (((w1.setCell ⟨g1, 0, none⟩ x).setCell ⟨g2, 0, none⟩ u).setCell ⟨g2, 1, none⟩ v) g2 t2 #[u, v] ∧
    ∀ (B : Nat) (w0 : World), B ≤ g1 → B ≤ g2 → Below B w0 w1 → Below B w0 (((w1.setCell ⟨g1, 0, none⟩ x).setCell ⟨g2, 0, none⟩ u).setCell ⟨g2, 1, none⟩ v) :=
  ⟨((by simpa using h1.set_ 0 x : Blk (w1.setCell ⟨g1, 0, none⟩ x) g1 t1 #[x]).far (p := ⟨g2, 0, none⟩) hne u).far (p := ⟨g2, 1, none⟩) hne v,
   blk_put2 (h2.far (p := ⟨g1, 0, none⟩) (Ne.symm hne) x) u v,
   fun B w0 h3 h4 hb => ((hb.setCell (p := ⟨g1, 0, none⟩) h3 _).setCell (p := ⟨g2, 0, none⟩) h4 _).setCell (p := ⟨g2, 1, none⟩) h4 _⟩
/-- The state of 'Put': its boxes and results. -/
structure PtSt (w wr : World) (A : Option Addr) (n k : Nat) (ov : Array Value) : Prop where
  bx : Blk wr w.heap.size 24 #[.slice A n k]
  bo : Blk wr (w.heap.size + 1) 56 ov
  r1 : Blk wr (w.heap.size + 2) 24 #[.slice none 0 0]
  r2 : Blk wr (w.heap.size + 3) 28 #[.int .i64 0, .int .i64 0]
  bel : Below w.heap.size w wr
section
variable {w wr w' : World} {A : Option Addr} {n k : Nat} {ov : Array Value}
theorem PtSt.below (h : PtSt w wr A n k ov) (hb : Below wr.heap.size wr w') : PtSt w w' A n k ov :=
  ⟨h.bx.below hb h.bx.lt, h.bo.below hb h.bo.lt, h.r1.below hb h.r1.lt, h.r2.below hb h.r2.lt, h.bel.trans (hb.mono h.bel.size)⟩
theorem PtSt.touch (h : PtSt w wr A n k ov) {g : Nat} {row : Option Nat} (ht : TouchS wr w' g row) (hg : w.heap.size + 4 ≤ g) (hr : ∀ b, row = some b → w.heap.size + 4 ≤ b) : PtSt w w' A n k ov := by
  have hl := h.r2.lt
  exact ⟨h.bx.touchS ht (by omega) (fun e => by have := hr _ e.symm; omega), h.bo.touchS ht (by omega) (fun e => by have := hr _ e.symm; omega), h.r1.touchS ht (by omega) (fun e => by have := hr _ e.symm; omega), h.r2.touchS ht (by omega) (fun e => by have := hr _ e.symm; omega),
    h.bel.trans (ht.below (by omega) (by omega) (fun k hk => by have := hr k hk; omega))⟩
theorem PtSt.facts (h : PtSt w wr A n k ov) : wr.cell? ⟨w.heap.size, 0, none⟩ = some (.slice A n k) ∧ wr.cell? ⟨w.heap.size + 2, 0, none⟩ = some (.slice none 0 0) ∧ wr.frozen? ⟨w.heap.size + 2, 0, none⟩ = false ∧
    wr.cell? ⟨w.heap.size + 3, 0, none⟩ = some (.int .i64 0) ∧ wr.cell? ⟨w.heap.size + 3, 1, none⟩ = some (.int .i64 0) ∧ wr.frozen? ⟨w.heap.size + 3, 0, none⟩ = false ∧ wr.frozen? ⟨w.heap.size + 3, 1, none⟩ = false ∧
    w.heap.size < wr.heap.size ∧ w.heap.size + 1 < wr.heap.size ∧ w.heap.size + 2 < wr.heap.size ∧ w.heap.size + 3 < wr.heap.size :=
  ⟨(h.bx.cell 0).trans rfl, (h.r1.cell 0).trans rfl, h.r1.frozen 0, (h.r2.cell 0).trans rfl, (h.r2.cell 1).trans rfl, h.r2.frozen 0, h.r2.frozen 1, h.bx.lt, h.bo.lt, h.r1.lt, h.r2.lt⟩
end
def PtPost (w : World) (r : List Ob.S × Int × (Int × Int)) (e : Ending) (w' : World) : Prop := ∃ A c, e = .returned (.tuple #[stV A r.1.length c, .int .i64 r.2.1, .agg #[.int .i64 r.2.2.1, .int .i64 r.2.2.2]]) ∧ r.1.length ≤ c ∧ StV w' (Under w.heap.size) A r.1 ∧ Below w.heap.size w w'
theorem PtPost.no {w w' : World} {r : List Ob.S × Int × (Int × Int)} {c i : Int} (h : r = ([], 0, (c, i))) (hb : Below w.heap.size w w') : PtPost w r (.returned (.tuple #[.agg #[.slice none 0 0], .int .i64 0, .agg #[.int .i64 c, .int .i64 i]])) w' := by
  subst h; exact ⟨none, 0, rfl, Nat.le_refl _, ⟨[], SA.nil, rfl⟩, hb⟩
set_option maxRecDepth 100000 in
set_option maxHeartbeats 16000000 in
theorem put_any (w : World) (A : Option Addr) (k : Nat) (s : List Ob.S) (o : Ob.O) (Al : Option Addr) (kl : Nat) (Ad : Option Addr) (kd : Nat) (hv : StV w Free A s) (hl64 : s.length ≤ 9223372036854775807) (ho : ObA w Free o Al kl Ad kd) :
    Calls Tryz.prog 23 #[stV A s.length k, obV o Al kl Ad kd] w (PtPost w (Ob.putF s o)) := by
  have HV := Lib.hid (fun (w1 : World) (hb : Below w.heap.size w w1) => hv.keep (free_below hb))
  have HO := Lib.hid (fun (w1 : World) (hb : Below w.heap.size w w1) => ho.keep (free_below hb))
  have HPF := Lib.hid (Ob.putF.eq_1 s o)
  have HC := Lib.hid (fun (w1 : World) (hb : Below w.heap.size w w1) => validate_any w1 A k s (HV.out _ hb) hl64)
  clear hv ho
  generalize hr : Ob.putF s o = r at *
  clear hr
  obtain ⟨kk, ls, da⟩ := o
  have st0 : PtSt w ((((w.alloc (.cells #[.slice A s.length k] 24)).alloc (.cells #[.int .i64 kk, .slice Al ls.length kl, .slice Ad da.length kd] 56)).alloc (.cells #[.slice none 0 0] 24)).alloc (.cells #[.int .i64 0, .int .i64 0] 28)) A s.length k #[.int .i64 kk, .slice Al ls.length kl, .slice Ad da.length kd] :=
    ⟨(((Blk.new _ _ _).alloc _).alloc _).alloc _, ((blk_new1 _ _ _ _).alloc _).alloc _, (blk_new2 _ _ _ _ _).alloc _, by simpa using Blk.new (((w.alloc (.cells #[.slice A s.length k] 24)).alloc (.cells #[.int .i64 kk, .slice Al ls.length kl, .slice Ad da.length kd] 56)).alloc (.cells #[.slice none 0 0] 24)) 28 #[.int .i64 0, .int .i64 0], (below_alloc3 _ _ _ _).alloc (by simp; omega) _⟩
  go_enter Tryz.func23, Tryz.ntmps23
  go_wp2_with fail
  go_at_call 21
  refine (HC.out _ st0.bel).mono ?_
  rintro e w1 ⟨rfl, hb1⟩
  have st1 := st0.below hb1
  obtain ⟨p0, p1, p2, p3, p4, p5, p6, l0, l1, l2, l3⟩ := st1.facts
  clear hb1 HC st0
  by_cases hbad : (Ob.stF s).1 ≠ 0
  · have H := Lib.hid (show r = ([], 0, Ob.stF s) from by rw [HPF.out, if_pos hbad])
    have hb1 : ((Ob.stF s).1 == 0) = false := by simpa using hbad
    have hb2 : ((Ob.stF s).1 != 0) = true := by simpa using hbad
    clear hbad HPF HV HO
    generalize Ob.stF s = q at *
    obtain ⟨cd, ix⟩ := q
    simp only at hb1 hb2
    have HR : Hid (∀ w', Below w.heap.size w w' → PtPost w r (.returned (.tuple #[.agg #[.slice none 0 0], .int .i64 0, .agg #[.int .i64 cd, .int .i64 ix]])) w') := Lib.hid fun w' hb => PtPost.no H.out hb
    clear H
    generalize PtPost w r = R at *
    go_wp2_with fail
    go_region
    all_goals
      go_wp2_with fail
      obtain ⟨k1, k2, k3⟩ := put12 st1.r1 st1.r2 (by omega) (.slice none 0 0) (.int .i64 cd) (.int .i64 ix)
      refine bodyPost_ret (results_24_t_28 rfl _ _ (w.heap.size + 2) (w.heap.size + 3) (.slice none 0 0) (.int .i64 cd) (.int .i64 ix) rfl rfl ((k1.alloc _).drewN 1) ((k2.alloc _).drewN 1)) rfl ?_
      refine HR.out _ ?_
      exact below_drewN ((k3 _ _ (by omega) (by omega) st1.bel).alloc (by simp [World.setCell]; omega) _) 1
  · obtain ⟨hz, hok⟩ := Ob.stF_ok (by simpa using hbad)
    have HP2 := Lib.hid (HPF.out.trans (if_neg hbad))
    rw [hz]
    have st2 := st1.below (below_alloc1 w1 (.cells #[.int .i64 0, .int .i64 0] 28))
    clear hz hbad p0 p1 p2 p3 p4 p5 p6 l0 l1 l2 l3 HPF
    obtain ⟨p0, p1, p2, p3, p4, p5, p6, l0, l1, l2, l3⟩ := st2.facts
    have po0 := st2.bo.cell 0
    have po1 := st2.bo.cell 1
    have po2 := st2.bo.cell 2
    simp only [List.getElem?_toArray, List.getElem?_cons_zero, List.getElem?_cons_succ] at po0 po1 po2
    have hol := st2.bo.lt
    by_cases hob : (Ob.obF ⟨kk, ls, da⟩).1 ≠ 0
    · have HD := Lib.hid (digest_bad _ ⟨kk, ls, da⟩ Al kl Ad kd (HO.out _ st2.bel) hob)
      have H := Lib.hid (HP2.out.trans (if_pos hob))
      have hb1 : ((Ob.obF ⟨kk, ls, da⟩).1 == 0) = false := by simpa using hob
      have hb2 : ((Ob.obF ⟨kk, ls, da⟩).1 != 0) = true := by simpa using hob
      clear hob HV HO hok HP2
      generalize Ob.obF ⟨kk, ls, da⟩ = q at *
      obtain ⟨cd, ix⟩ := q
      simp only at hb1 hb2 H
      have HR : Hid (∀ w', Below w.heap.size w w' → PtPost w r (.returned (.tuple #[.agg #[.slice none 0 0], .int .i64 0, .agg #[.int .i64 cd, .int .i64 (-1)]])) w') := Lib.hid fun w' hb => PtPost.no H.out hb
      clear H
      generalize PtPost w r = R at *
      go_wp2_with fail
      go_at_call 36
      refine HD.out.mono ?_
      rintro e w2 ⟨rfl, hb2'⟩
      have st3 := st2.below hb2'
      obtain ⟨p0, p1, p2, p3, p4, p5, p6, l0, l1, l2, l3⟩ := st3.facts
      clear hb2' HD st2 st1
      go_wp2_with fail
      go_region
      all_goals
        go_wp2_with fail
        obtain ⟨k1, k2, k3⟩ := put12 st3.r1 st3.r2 (by omega) (.slice none 0 0) (.int .i64 cd) (.int .i64 (-1))
        refine bodyPost_ret (results_24_t_28 rfl _ _ (w.heap.size + 2) (w.heap.size + 3) (.slice none 0 0) (.int .i64 cd) (.int .i64 (-1)) rfl rfl ((k1.alloc _).drewN 1) ((k2.alloc _).drewN 1)) rfl ?_
        refine HR.out _ ?_
        exact below_drewN ((k3 _ _ (by omega) (by omega) st3.bel).alloc (by simp [World.setCell]; omega) _) 1
    · have hobk := (Ob.obF_ok (by simpa using hob)).2
      have HD := Lib.hid (digest_ok _ ⟨kk, ls, da⟩ Al kl Ad kd (HO.out _ st2.bel) hobk)
      have HP3 := Lib.hid (HP2.out.trans (if_neg hob))
      have hdl := Ob.dig_lt ⟨kk, ls, da⟩
      have HCY := Lib.hid (fun (w' : World) (hb : Below w.heap.size w w') => copy_any w' A k s (HV.out _ hb) (by have := hok.len; omega) (fun i hi => by have := (hok.ok i hi).ln; omega))
      have HSO := Lib.hid hok.sorted
      have hsl := hok.len
      have hln := hobk.ln
      simp only at hln
      clear hob HP2 hobk hok HV st1
      generalize hdg : ((Ob.dig ⟨kk, ls, da⟩ : Nat) : Int) = dg at *
      have hd64 : I64 dg := by rw [← hdg]; unfold I64; omega
      clear hdl hdg
      go_wp2_with fail
      go_at_call 36
      refine HD.out.mono ?_
      rintro e w2 ⟨rfl, hb2'⟩
      have st3 := (st2.below hb2').below (below_alloc1 w2 (.cells #[.int .i64 0, .int .i64 0] 28))
      clear p0 p1 p2 p3 p4 p5 p6 l0 l1 l2 l3 po0 po1 po2 hol
      obtain ⟨p0, p1, p2, p3, p4, p5, p6, l0, l1, l2, l3⟩ := st3.facts
      have st3' := st2.below hb2'
      obtain ⟨q0, q1, q2, q3, q4, q5, q6, m0, m1, m2, m3⟩ := st3'.facts
      clear hb2' HD st2
      go_wp2_with fail
      go_at_call 37
      refine (HCY.out _ st3.bel).mono ?_
      rintro e w3 ⟨A3, c3, xs, rfl, hown3, hb3⟩
      have st4' := st3.below hb3
      have st4 := st4'.below (below_alloc1 w3 (.cells #[.slice A3 s.length c3] 24))
      have hz3 := hb3.size
      have out4 : OutSt (w3.alloc (.cells #[.slice A3 s.length c3] 24)) w3.heap.size (w2.alloc (.cells #[.int .i64 0, .int .i64 0] 28)).heap.size (fun b => Under (w2.alloc (.cells #[.int .i64 0, .int .i64 0] 28)).heap.size b ∨ b = w3.heap.size) A3 c3 s xs :=
        ⟨Blk.new _ _ _, hown3.own.alloc _, hown3.rows.mono (StR.keep (Keeps.below (below_alloc1 _ _) (fun b hb h => by
          rcases h with (h | h) | h
          · exact .inl h
          · omega
          · exact .inr h))), .inr rfl, Nat.le_trans hz3 (size_alloc_le _ _)⟩
      have hXs : ∀ b, (Under (w2.alloc (.cells #[.int .i64 0, .int .i64 0] 28)).heap.size b ∨ b = w3.heap.size) → b < (w3.alloc (.cells #[.slice A3 s.length c3] 24)).heap.size := fun b hb => by
        rcases hb with hb | hb
        · exact Nat.lt_of_lt_of_le hb (Nat.le_trans hz3 (size_alloc_le _ _))
        · simp; omega
      have HAD := Lib.hid (add_any _ _ _ _ _ _ _ _ dg ⟨kk, ls, da⟩ Al kl Ad kd out4 hXs HSO.out (by omega) hd64 (HO.out _ st4.bel) (by simp only; omega))
      have hrowlo : ∀ b, (Value.slice A3 s.length c3).ownBlock = some b → w.heap.size + 4 ≤ b := fun b hb => by
        have h1 := (hown3.own.lt b hb).1
        have h2 : w.heap.size + 3 < (w2.alloc (.cells #[.int .i64 0, .int .i64 0] 28)).heap.size := l3
        omega
      clear p0 p1 p2 p3 p4 p5 p6 l0 l1 l2 l3 q0 q1 q2 q3 q4 q5 q6 m0 m1 m2 m3
      obtain ⟨p0, p1, p2, p3, p4, p5, p6, l0, l1, l2, l3⟩ := st4.facts
      obtain ⟨q0, q1, q2, q3, q4, q5, q6, m0, m1, m2, m3⟩ := st4'.facts
      have po0 := st4'.bo.cell 0
      have po1 := st4'.bo.cell 1
      have po2 := st4'.bo.cell 2
      simp only [List.getElem?_toArray, List.getElem?_cons_zero, List.getElem?_cons_succ] at po0 po1 po2
      clear hb3 HCY hown3 out4 hXs HSO
      go_wp2_with fail
      go_at_call 38
      refine HAD.out.mono ?_
      rintro e w4 ⟨A4, c4, xs4, rfl, out4, ht4⟩
      have st5 := st4.touch ht4 (by omega) hrowlo
      have g0 := out4.blk.cell 0
      have gl := out4.blk.lt
      simp only [List.getElem?_toArray, List.getElem?_cons_zero] at g0
      clear ht4 HAD st4 st4' p0 p1 p2 p3 p4 p5 p6 l0 l1 l2 l3 q0 q1 q2 q3 q4 q5 q6 po0 po1 po2
      obtain ⟨p0, p1, p2, p3, p4, p5, p6, l0, l1, l2, l3⟩ := st5.facts
      by_cases hok : Ob.addOk s dg ⟨kk, ls, da⟩ = false
      · have HR : Hid (∀ w', Below w.heap.size w w' → PtPost w r (.returned (.tuple #[.agg #[.slice none 0 0], .int .i64 0, .agg #[.int .i64 19, .int .i64 (-1)]])) w') := Lib.hid fun w' hb => PtPost.no (HP3.out.trans (if_pos hok)) hb
        rw [hok]
        clear hok HP3
        generalize PtPost w r = R at *
        go_wp2_with fail
        obtain ⟨k1, k2, k3⟩ := put12 st5.r1 st5.r2 (by omega) (.slice none 0 0) (.int .i64 19) (.int .i64 (-1))
        refine bodyPost_ret (results_24_t_28 rfl _ _ (w.heap.size + 2) (w.heap.size + 3) (.slice none 0 0) (.int .i64 19) (.int .i64 (-1)) rfl rfl k1 k2) rfl ?_
        exact HR.out _ (k3 _ _ (by omega) (by omega) st5.bel)
      · have HP4 := Lib.hid (HP3.out.trans (if_neg hok))
        have hok2 : Ob.addOk s dg ⟨kk, ls, da⟩ = true := by simpa using hok
        rw [hok2]
        clear hok hok2 HP3
        have hcap : (Ob.addS s dg ⟨kk, ls, da⟩).length ≤ c4 := by
          obtain ⟨A', c', e1, hcc, _⟩ := own_form out4.own
          injection e1 with _ _ e3
          subst e3
          exact hcc
        generalize Ob.addS s dg ⟨kk, ls, da⟩ = s4 at *
        by_cases h40 : 40 < s4.length
        · have HR : Hid (∀ w', Below w.heap.size w w' → PtPost w r (.returned (.tuple #[.agg #[.slice none 0 0], .int .i64 0, .agg #[.int .i64 14, .int .i64 (-1)]])) w') := Lib.hid fun w' hb => PtPost.no (HP4.out.trans (if_pos h40)) hb
          have h40' : (40 : Int) < s4.length := by omega
          clear HP4
          generalize PtPost w r = R at *
          go_wp2_with fail
          obtain ⟨k1, k2, k3⟩ := put12 st5.r1 st5.r2 (by omega) (.slice none 0 0) (.int .i64 14) (.int .i64 (-1))
          refine bodyPost_ret (results_24_t_28 rfl _ _ (w.heap.size + 2) (w.heap.size + 3) (.slice none 0 0) (.int .i64 14) (.int .i64 (-1)) rfl rfl k1 k2) rfl ?_
          exact HR.out _ (k3 _ _ (by omega) (by omega) st5.bel)
        · have H := Lib.hid (HP4.out.trans (if_neg h40))
          have h40' : ¬ (40 : Int) < s4.length := by omega
          clear HP4 h40
          go_wp2_with fail
          obtain ⟨k1, k2, k3⟩ := put12 st5.r1 st5.r2 (by omega) (.slice A4 s4.length c4) (.int .i64 0) (.int .i64 0)
          refine bodyPost_ret (results_24_t_28 rfl _ _ (w.heap.size + 2) (w.heap.size + 3) (.slice A4 s4.length c4) (.int .i64 0) (.int .i64 0) rfl rfl k1 k2) rfl ?_
          rw [H.out]
          have hb2 : w.heap.size + 4 ≤ (w2.alloc (.cells #[.int .i64 0, .int .i64 0] 28)).heap.size := st3.r2.lt
          have hu1 : Under (w2.alloc (.cells #[.int .i64 0, .int .i64 0] 28)).heap.size (w.heap.size + 2) := by unfold Under; omega
          have hu2 : Under (w2.alloc (.cells #[.int .i64 0, .int .i64 0] 28)).heap.size (w.heap.size + 3) := by unfold Under; omega
          have hkp := (((Keeps.setCell w4 (Or1 (fun b => Under (w2.alloc (.cells #[.int .i64 0, .int .i64 0] 28)).heap.size b ∨ b = w3.heap.size) (.slice A4 s4.length c4)) ⟨w.heap.size + 2, 0, none⟩ (.slice A4 s4.length c4) (.inl (.inl hu1))).trans (Keeps.setCell _ _ ⟨w.heap.size + 3, 0, none⟩ (.int .i64 0) (.inl (.inl hu2)))).trans (Keeps.setCell _ _ ⟨w.heap.size + 3, 1, none⟩ (.int .i64 0) (.inl (.inl hu2)))).into (X'' := Under w.heap.size) (fun b hb => .inl (.inl (by unfold Under at *; omega)))
          have hne1 : some (w.heap.size + 2) ≠ (Value.slice A4 s4.length c4).ownBlock := fun e => by have := (out4.own.lt _ e.symm).1; omega
          have hne2 : some (w.heap.size + 3) ≠ (Value.slice A4 s4.length c4).ownBlock := fun e => by have := (out4.own.lt _ e.symm).1; omega
          refine ⟨A4, c4, rfl, hcap, ⟨xs4, ?_, out4.rows.mono (StR.keep hkp)⟩, k3 _ _ (by omega) (by omega) st5.bel⟩
          exact SA.of_own' (own_setCell (own_setCell (own_setCell out4.own hne1 _) hne2 _) hne2 _) (fun b hb hU => by have := (out4.own.lt b hb).1; unfold Under at hU; omega)
end Go.Proofs.YtjljknocnebnaaaGreatDoor
