/-
  File trees: walk of 'TreeObject'.
  Objects: walk of the reference's 'StoreFault'.
-/
import Derived.Test.YtjljknocnebnaaaDoorG08
import Derived.Test.YtjljknocnebnaaaDoorG09
import Derived.Test.YtjljknocnebnaaaDoorG05
import Derived.Test.YtjljknocnebnaaaDoorG04
namespace Go.V
open Go.RowKit Go.Lib
section
variable {P : Program} (w : World)
theorem step_app_str {ops : Array Oper} {o : Oper} {a : Act} {K : Act → World → Prop} {Q : Exit → Act → World → Prop} {E : Prop} (hgd : o.guard = none) (sl x : Operand) (t u : TypeId)
    (ho : o.op = .call { callee := .builtin .append, args := #[sl, x], argTypes := #[t, u] })
    (base : Nat) (e : TypeId) (i : TypeInfo) (ht : P.underlying t = some (.slice e)) (hu : P.underlying u = some .string) (hi : P.info? e = some i) (hz : i.zero = some (.int .u8 0)) (hsize : i.size = 1) (hby : i.bytes = 1)
    (A : Option Addr) (n c : Nat) (xs : List Value) (hs : a.eval sl = .slice A n c) (hown : w.ownsRow base e 1 (.slice A n c) n xs) (l : List UInt8) (hx : a.eval x = .string ⟨l.toArray⟩)
    (h63 : n + l.length ≤ maxLen) (hbytes : n + l.length ≤ 140737488355328) (hbase : base ≤ w.heap.size)
    (h : ∀ A' c' w', w'.ownsRow base e 1 (.slice A' (n + l.length) c') (n + l.length) (xs ++ bytesV l) → w.grownBy w' (Value.slice A n c).ownBlock → K (a.put o.dst (.slice A' (n + l.length) c')) w') :
    if Region.wanted o (yielded ops a.tmps) = true then Oper.wp P o a w K Q else E := by
  have hw : Region.wanted o (yielded ops a.tmps) = true := by simp [Region.wanted, hgd]
  have hsl : (⟨l.toArray⟩ : ByteArray).size = l.length := by simp [ByteArray.size]
  rw [if_pos hw]
  obtain ⟨v', w', hr, h2, h3, h4⟩ := run_append_own_string (P := P) w base t u o.type e i ht hu hi hz hsize hby (.slice A n c) n xs hown ⟨l.toArray⟩ (by rw [hsl]; exact h63) (by rw [hsl]; exact hbytes) hbase
  rw [hsl] at h2
  obtain ⟨A', c', rfl, hc', _⟩ := own_form h2
  unfold Oper.wp execOp
  simp only [ho, resolve, invoke, builtin, Sem.run_bind, Sem.run_pure, Result.andThen_ok, List.map_toArray, List.map_cons, List.map_nil, hs, hx, hr]
  exact h A' c' w' h2 h3
end
end Go.V
namespace Go.Proofs.YtjljknocnebnaaaDoor
open Go.RowKit Go.V Go.Shelf
set_option linter.unusedVariables false

theorem free_of {w : World} {X : Nat → Prop} {o : Ob.O} {Al : Option Addr} {kl : Nat} {Ad : Option Addr} {kd : Nat} (h : ObA w X o Al kl Ad kd) : ObA w Free o Al kl Ad kd := h.keep ((Keeps.refl w X).into fun _ h => h.elim)
set_option maxRecDepth 100000 in
set_option maxHeartbeats 8000000 in
theorem treeObject_any (w : World) (A : Option Addr) (k : Nat) (t : List Tr.F) (hv : VfV w Free A t) (hk : t.length ≤ k) (ht : Tr.VOk t) (hd : ∀ i, i < t.length → Ob.Ok (Tr.blobO (Tr.it t i).lines)) :
    Calls Tryd.prog 27 #[.agg #[.slice A t.length k]] w (OjPost w (Tr.treeO t)) := by
  obtain ⟨i0, hi0, hz0, hz1, hz2⟩ := info_parts info3
  obtain ⟨j0, hj0, hy0, hy1, hy2⟩ := info_parts info5
  have st0 : RtSt ((w.alloc (.cells #[.slice A t.length k] 27)).alloc (.cells #[.int .i64 0, .slice none 0 0, .slice none 0 0] 54)) (((w.alloc (.cells #[.slice A t.length k] 27)).alloc (.cells #[.int .i64 0, .slice none 0 0, .slice none 0 0] 54)).alloc (.cells #[.int .i64 2, .slice none 0 0, .slice none 0 0] 54)) (w.heap.size + 2) [] [] none 0 none 0 :=
    RtSt.start _ _ (below_alloc1 _ _) _ (by simp) (blk_new2 _ _ _ _ _)
  have hb2 : Below w.heap.size w ((w.alloc (.cells #[.slice A t.length k] 27)).alloc (.cells #[.int .i64 0, .slice none 0 0, .slice none 0 0] 54)) := below_alloc2 _ _ _
  have bx2 := (Blk.new w 27 #[.slice A t.length k]).alloc (.cells #[.int .i64 0, .slice none 0 0, .slice none 0 0] 54)
  have rb2 := blk_new1 w (.cells #[.slice A t.length k] 27) 54 #[.int .i64 0, .slice none 0 0, .slice none 0 0]
  have hsz2 : ((w.alloc (.cells #[.slice A t.length k] 27)).alloc (.cells #[.int .i64 0, .slice none 0 0, .slice none 0 0] 54)).heap.size = w.heap.size + 2 := by simp
  have HG := Lib.hid (fun i hi => (hv.keep (free_below hb2)).row i hi)
  have hI := Tr.links_I64 t
  have HPB := Lib.hid (Tr.pathsB_len ht)
  have HPS := Lib.hid (Tr.pathsB_succ t)
  have HLS := Lib.hid (Tr.links_take t)
  have HP := Lib.hid (fun i hi => Tr.pathOk_len (ht.path i hi))
  have HLN := Lib.hid (fun i hi => Tr.lines_len (ht.lines i hi))
  have hlen := ht.len
  have HO := Lib.hid hd
  have HE : Hid (Tr.treeO t = ⟨2, Tr.links t, Tr.pathsB t t.length⟩) := Lib.hid (by rw [Tr.pathsB_end]; rfl)
  have HLL : Hid ((Tr.links t).length = t.length) := Lib.hid (by simp [Tr.links])
  have HIL : Hid (∀ (i : Nat) (h : i < (Tr.links t).length), I64 (Tr.links t)[i]) := Lib.hid (fun i h => by have := hI i h; unfold I64; omega)
  have hz := Tr.pathsB_zero t
  have HST : Hid (((w.alloc (.cells #[.slice A t.length k] 27)).alloc (.cells #[.int .i64 0, .slice none 0 0, .slice none 0 0] 54)).alloc (.cells #[.int .i64 2, .slice none 0 0, .slice none 0 0] 54) = ((w.alloc (.cells #[.slice A t.length k] 27)).alloc (.cells #[.int .i64 0, .slice none 0 0, .slice none 0 0] 54)).alloc (.cells #[.int .i64 2, .slice none 0 0, .slice none 0 0] 54)) := Lib.hid rfl
  clear hv ht hd hI
  generalize Tr.treeO t = tO at *
  go_enter Tryd.func27, Tryd.ntmps27
  go_wp2_with fail
  obtain ⟨W2, hW2⟩ : ∃ W2 : World, W2 = (w.alloc (.cells #[.slice A t.length k] 27)).alloc (.cells #[.int .i64 0, .slice none 0 0, .slice none 0 0] 54) := ⟨_, rfl⟩
  rw [← hW2] at st0 hb2 bx2 rb2 hsz2 HG
  have HS0 := Lib.hid st0
  clear st0 HST
  go_loopw [4] (fun iv wr => ∃ (i : Nat) (Al : Option Addr) (cl : Nat) (Ad : Option Addr) (cd : Nat), i ≤ t.length ∧ iv = .int .i64 i ∧ RtSt W2 wr (w.heap.size + 2) ((Tr.links t).take i) (Tr.pathsB t i) Al cl Ad cd) (fun iv _ => t.length - (intOf iv).toNat)
  case atStart => exact ⟨0, none, 0, none, 0, Nat.zero_le _, rfl, by rw [hz, List.take_zero]; have := HS0.out; rw [hW2] at this ⊢; exact this⟩
  case round =>
    obtain ⟨i, Al, cl, Ad, cd, hi, rfl, st⟩ := hrel
    obtain ⟨wo, rfl⟩ : ∃ wo : World, wo = wr := ⟨_, rfl⟩
    clear HS0 hz hW2
    have hbx := st.bel
    have q0 := ((bx2.below hbx bx2.lt).cell 0).trans rfl
    have q0l := (bx2.below hbx bx2.lt).lt
    by_cases hlt2 : i < t.length
    · have hlt' : (i : Int) < t.length := by omega
      have hi0' : (0 : Int) ≤ i := by omega
      obtain ⟨b, off, A', k', e, hb, _, d0, d1, hln⟩ := HG.out i hlt2
      subst e
      have HK : Hid (∀ w6 : World, Below W2.heap.size W2 w6 → w6.cell? ⟨w.heap.size, 0, none⟩ = some (.slice (some ⟨b, off, none⟩) t.length k) ∧ w6.cell? ⟨b, off + i * 2, none⟩ = some (strV (Tr.it t i).path) ∧ w6.cell? ⟨b, off + i * 2 + 1, none⟩ = some (.slice A' (Tr.it t i).lines.length k')) :=
        Lib.hid fun w6 h6 => ⟨((bx2.below h6 bx2.lt).cell 0).trans rfl, (h6.cell (p := ⟨b, off + i * 2, none⟩) hb).trans d0, (h6.cell (p := ⟨b, off + i * 2 + 1, none⟩) hb).trans d1⟩
      have h1 := HP.out i hlt2
      obtain ⟨h2, h3⟩ := HLN.out i hlt2
      have hok := HO.out i hlt2
      have HPS2 := Lib.hid (HPS.out i hlt2)
      have HLS2 := Lib.hid (HLS.out i hlt2)
      have h4 := HPB.out i hi
      have h5 : ((Tr.links t).take i).length = i := by rw [List.length_take, HLL.out]; omega
      have HLB : Hid (∀ w1 : World, Below W2.heap.size W2 w1 → Calls Tryd.prog 26 #[.slice A' (Tr.it t i).lines.length k'] w1 fun e w' => ∃ A1 k1 A2 k2, e = .returned (obV (Tr.blobO (Tr.it t i).lines) A1 k1 A2 k2) ∧ ObA w' Free (Tr.blobO (Tr.it t i).lines) A1 k1 A2 k2 ∧ Below w1.heap.size w1 w') :=
        Lib.hid fun w1 hb1 => (linesBlob_any w1 A' k' _ ((hln.keep (free_below hb1)).ls) (by omega) (by omega)).mono fun e w' h => by
          obtain ⟨A1, k1, A2, k2, h1, h2, h3⟩ := h
          exact ⟨A1, k1, A2, k2, h1, free_of h2, h3⟩
      have HDG : Hid (∀ (w1 : World) A1 k1 A2 k2, ObA w1 Free (Tr.blobO (Tr.it t i).lines) A1 k1 A2 k2 → Calls Tryd.prog 30 #[obV (Tr.blobO (Tr.it t i).lines) A1 k1 A2 k2] w1 fun e w' => e = .returned (.int .i64 ((Ob.dig (Tr.blobO (Tr.it t i).lines) : Nat) : Int)) ∧ Below w1.heap.size w1 w') :=
        Lib.hid fun w1 A1 k1 A2 k2 h => objDigest_any w1 _ A1 k1 A2 k2 h hok
      have hdg := Ob.dig_lt (Tr.blobO (Tr.it t i).lines)
      clear HPS HLS HP HLN HPB HO HG hln d0 d1 hok hbx
      generalize (Tr.it t i).path = p at *
      generalize Tr.blobO (Tr.it t i).lines = ob at *
      generalize (Tr.it t i).lines = L at *
      generalize Ob.dig ob = dg at *
      generalize Tr.pathsB t i = da at *
      generalize (Tr.links t).take i = ls at *
      obtain ⟨kk, lo, dd⟩ := ob
      simp only [obV] at HLB HDG
      have h63 : ls.length + 1 ≤ maxLen := by unfold maxLen; omega
      have hby : (ls.length + 1) * 8 ≤ 140737488355328 := by omega
      have hbw : b < wo.heap.size := Nat.lt_of_lt_of_le hb st.bel.size
      have H5 := Lib.hid h5
      clear h5
      go_wp2_with fail
      go_cut [] (fun wx => ∃ Al' cl', RtSt W2 wx (w.heap.size + 2) (ls ++ [(dg : Int)]) da Al' cl' Ad cd)
      case first =>
        replace st := st.below (below_drew' (Below.refl _ _))
        refine wp_region_noPanic ?_
        refine wp_region_held_drew (S := (fun w6 : World => w6.cell? ⟨w.heap.size, 0, none⟩ = some (.slice (some ⟨b, off, none⟩) t.length k) ∧ w6.cell? ⟨b, off + i * 2, none⟩ = some (strV p) ∧ w6.cell? ⟨b, off + i * 2 + 1, none⟩ = some (.slice A' L.length k'))) (by kernel_rfl) ?_ (fun hP => ?_)
        · exact HK.out _ st.bel
        obtain ⟨WP, hWP⟩ : ∃ W : World, W = wo.drew := ⟨_, rfl⟩
        rw [← hWP] at st hP ⊢
        clear hWP
        refine wpAnyH_take (i := 0) (v := .pointer (some ⟨w.heap.size + 2, 1, none⟩)) rfl (by kernel_rfl) (by kernel_rfl) (by kernel_rfl) (fun _ _ _ h => h) (Or.inl ⟨by kernel_rfl, ?qP0⟩) (by assumption) ?rP0
        case qP0 => (intro w hSw; (try dsimp only at hSw); go_simp)
        try simp only [Act.put, List.setIfInBounds_toArray]
        refine wpAnyH_take (i := 2) (v := .pointer (some ⟨w.heap.size, 0, none⟩)) rfl (by kernel_rfl) (by kernel_rfl) (by kernel_rfl) (fun _ _ _ h => h) (Or.inl ⟨by kernel_rfl, ?qP2⟩) (by assumption) ?rP2
        case qP2 => (intro w hSw; (try dsimp only at hSw); go_simp)
        try simp only [Act.put]
        refine wpAnyH_take (i := 3) (v := .slice (some ⟨b, off, none⟩) t.length k) rfl (by kernel_rfl) (by kernel_rfl) (by kernel_rfl) (fun _ _ _ h => h) (Or.inl ⟨by kernel_rfl, ?qP3⟩) (by assumption) ?rP3
        case qP3 => (intro w hSw; (try dsimp only at hSw); go_simp)
        try simp only [Act.put]
        refine wpAnyH_take (i := 4) (v := .int .i64 (i : Int)) rfl (by kernel_rfl) (by kernel_rfl) (by kernel_rfl) (fun _ _ _ h => h) (Or.inl ⟨by kernel_rfl, ?qP4⟩) (by assumption) ?rP4
        case qP4 => (intro w hSw; (try dsimp only at hSw); go_simp)
        try simp only [Act.put]
        refine wpAnyH_take (i := 5) (v := .pointer (some ⟨b, off + i * 2, none⟩)) rfl (by kernel_rfl) (by kernel_rfl) (by kernel_rfl) (fun _ _ _ h => h) (Or.inl ⟨by kernel_rfl, ?qP5⟩) (by assumption) ?rP5
        case qP5 => (intro w hSw; (try dsimp only at hSw); go_simp)
        try simp only [Act.put]
        refine wpAnyH_take (i := 6) (v := .pointer (some ⟨b, off + i * 2 + 1, none⟩)) rfl (by kernel_rfl) (by kernel_rfl) (by kernel_rfl) (fun _ _ _ h => h) (Or.inl ⟨by kernel_rfl, ?qP6⟩) (by assumption) ?rP6
        case qP6 => (intro w hSw; (try dsimp only at hSw); go_simp)
        try simp only [Act.put]
        refine wpAnyH_take (i := 7) (v := .slice A' L.length k') rfl (by kernel_rfl) (by kernel_rfl) (by kernel_rfl) (fun _ _ _ h => h) (Or.inl ⟨by kernel_rfl, ?qP7⟩) (by assumption) ?rP7
        case qP7 => (intro w hSw; (try dsimp only at hSw); go_simp)
        try simp only [Act.put]
        refine wpAnyH_ready (rs := [1, 8]) (by kernel_rfl) (by simp) ?_
        refine AllReadyH.cons rfl (fun K hK => ?n1) (AllReadyH.cons rfl (fun K hK => ?n2) (AllReadyH.nil))
        case n1 =>
          have f1 := (st.sb.cell 1).trans rfl
          have f1l := st.sb.lt
          go_simp
          refine hK.out _ _ ?_ (fun hS3 => ?_)
          · exact HK.out _ (st.bel)
          clear hK K
          try simp only [Act.put, List.setIfInBounds_toArray]
          refine wpAnyH_ready (rs := [8]) (by kernel_rfl) (by simp) ?_
          refine AllReadyH.cons rfl (fun K hK => ?n4) (AllReadyH.nil)
          case n4 =>
            go_simp
            go_at_call 26
            with_reducible refine (HLB.out _ st.bel).mono ?_
            rintro e V5 ⟨A1, k1, A2, k2, rfl, ho, hb9⟩
            try go_wp2_with fail
            refine hK.out _ _ ?_ (fun hS6 => ?_)
            · exact HK.out _ ((st.below hb9).bel)
            clear hK K
            try simp only [Act.put, List.setIfInBounds_toArray]
            replace st := st.below hb9
            clear hb9
            refine wpAnyH_ready (rs := [9]) (by kernel_rfl) (by simp) ?_
            refine AllReadyH.cons rfl (fun K hK => ?n7) (AllReadyH.nil)
            case n7 =>
              go_simp
              go_at_call 30
              with_reducible refine (HDG.out _ A1 k1 A2 k2 ho).mono ?_
              rintro e V8 ⟨rfl, hb9⟩
              try go_wp2_with fail
              refine hK.out _ _ ?_ (fun hS9 => ?_)
              · exact HK.out _ ((st.below hb9).bel)
              clear hK K
              try simp only [Act.put, List.setIfInBounds_toArray]
              replace st := st.below hb9
              clear hb9 ho
              refine wpAnyH_ready (rs := [10]) (by kernel_rfl) (by simp) ?_
              refine AllReadyH.cons rfl (fun K hK => ?n10) (AllReadyH.nil)
              case n10 =>
                go_simp
                refine hK.out _ _ ?_ (fun hS12 => ?_)
                · exact HK.out _ ((st.below (below_alloc1 V8 (.cells #[.int .i64 (dg : Int)] 3))).bel)
                clear hK K
                try simp only [Act.put, List.setIfInBounds_toArray]
                replace st := st.below (below_alloc1 V8 (.cells #[.int .i64 (dg : Int)] 3))
                have bl := Blk.new V8 3 #[.int .i64 (dg : Int)]
                generalize V8.alloc (.cells #[.int .i64 (dg : Int)] 3) = V11 at *
                generalize V8.heap.size = gn at *
                refine wpAnyH_ready (rs := [11]) (by kernel_rfl) (by simp) ?_
                refine AllReadyH.cons rfl (fun K hK => ?n13) (AllReadyH.nil)
                case n13 =>
                  refine step_appNo _ rfl (.tmp 14) (.tmp 23) 41 rfl (w.heap.size + 2 + 1) 3 i0 _ 1 8 Tryd.underlying41 hi0 hz0 hz1 hz2 rfl (by decide) Al ls.length cl (intsV ls) rfl st.ol gn 1 [.int .i64 (dg : Int)] rfl rfl (fun j v hj => by rw [bl.cell j, ← Array.getElem?_toList]; exact hj) (by intro u hu; simp at hu; subst hu; rfl) h63 hby (Nat.succ_le_of_lt st.sb.lt) ?_
                  intro gd c4 V14 hown4 hg4 hob4
                  have st6 := st.appL hg4 hown4
                  have hb6 := st.bel.grown hg4 st.bel.size (fun b hb => by have := (st.ol.lt b hb).1; omega)
                  have bk6 := st.sb.grown hg4 (own_blk_ne st.ol st.sb (by decide))
                  have f6 := bk6.frozen 1
                  have f6l := bk6.lt
                  have f6c := (bk6.cell 1).trans rfl
                  refine hK.out _ _ ?_ (fun hS15 => ?_)
                  · exact HK.out _ (hb6)
                  clear hK K
                  try simp only [Act.put, List.setIfInBounds_toArray]
                  clear hown4 hg4 hob4 bk6
                  refine wpAnyH_take (i := 12) (v := .pointer (some ⟨w.heap.size + 2, 1, none⟩)) rfl (by kernel_rfl) (by kernel_rfl) (by kernel_rfl) (fun _ _ _ h => h) (Or.inl ⟨by kernel_rfl, ?qP1512⟩) (by assumption) ?rP1512
                  case qP1512 => (intro w hSw; (try dsimp only at hSw); go_simp)
                  try simp only [Act.put]
                  refine wpAnyH_ready (rs := [13]) (by kernel_rfl) (by simp) ?_
                  refine AllReadyH.cons rfl (fun K hK => ?n16) (AllReadyH.nil)
                  case n16 =>
                    go_simp
                    refine hK.out _ _ ?_ (fun hS18 => ?_)
                    · exact HK.out _ (st6.bel)
                    clear hK K
                    try simp only [Act.put, List.setIfInBounds_toArray]
                    refine wpAnyH_done (by kernel_rfl) ?_ _
                    refine NoPanic.normal ?_
                    go_wp2_with fail
                    go_meet
                    exact ⟨_, _, st6⟩
        case n2 =>
          go_simp
          go_at_call 26
          with_reducible refine (HLB.out _ st.bel).mono ?_
          rintro e V19 ⟨A1, k1, A2, k2, rfl, ho, hb9⟩
          try go_wp2_with fail
          refine hK.out _ _ ?_ (fun hS20 => ?_)
          · exact HK.out _ ((st.below hb9).bel)
          clear hK K
          try simp only [Act.put, List.setIfInBounds_toArray]
          replace st := st.below hb9
          clear hb9
          refine wpAnyH_ready (rs := [1, 9]) (by kernel_rfl) (by simp) ?_
          refine AllReadyH.cons rfl (fun K hK => ?n21) (AllReadyH.cons rfl (fun K hK => ?n22) (AllReadyH.nil))
          case n21 =>
            have f1 := (st.sb.cell 1).trans rfl
            have f1l := st.sb.lt
            go_simp
            refine hK.out _ _ ?_ (fun hS23 => ?_)
            · exact HK.out _ (st.bel)
            clear hK K
            try simp only [Act.put, List.setIfInBounds_toArray]
            refine wpAnyH_ready (rs := [9]) (by kernel_rfl) (by simp) ?_
            refine AllReadyH.cons rfl (fun K hK => ?n24) (AllReadyH.nil)
            case n24 =>
              go_simp
              go_at_call 30
              with_reducible refine (HDG.out _ A1 k1 A2 k2 ho).mono ?_
              rintro e V25 ⟨rfl, hb9⟩
              try go_wp2_with fail
              refine hK.out _ _ ?_ (fun hS26 => ?_)
              · exact HK.out _ ((st.below hb9).bel)
              clear hK K
              try simp only [Act.put, List.setIfInBounds_toArray]
              replace st := st.below hb9
              clear hb9 ho
              refine wpAnyH_ready (rs := [10]) (by kernel_rfl) (by simp) ?_
              refine AllReadyH.cons rfl (fun K hK => ?n27) (AllReadyH.nil)
              case n27 =>
                go_simp
                refine hK.out _ _ ?_ (fun hS29 => ?_)
                · exact HK.out _ ((st.below (below_alloc1 V25 (.cells #[.int .i64 (dg : Int)] 3))).bel)
                clear hK K
                try simp only [Act.put, List.setIfInBounds_toArray]
                replace st := st.below (below_alloc1 V25 (.cells #[.int .i64 (dg : Int)] 3))
                have bl := Blk.new V25 3 #[.int .i64 (dg : Int)]
                generalize V25.alloc (.cells #[.int .i64 (dg : Int)] 3) = V28 at *
                generalize V25.heap.size = gn at *
                refine wpAnyH_ready (rs := [11]) (by kernel_rfl) (by simp) ?_
                refine AllReadyH.cons rfl (fun K hK => ?n30) (AllReadyH.nil)
                case n30 =>
                  refine step_appNo _ rfl (.tmp 14) (.tmp 23) 41 rfl (w.heap.size + 2 + 1) 3 i0 _ 1 8 Tryd.underlying41 hi0 hz0 hz1 hz2 rfl (by decide) Al ls.length cl (intsV ls) rfl st.ol gn 1 [.int .i64 (dg : Int)] rfl rfl (fun j v hj => by rw [bl.cell j, ← Array.getElem?_toList]; exact hj) (by intro u hu; simp at hu; subst hu; rfl) h63 hby (Nat.succ_le_of_lt st.sb.lt) ?_
                  intro gd c4 V31 hown4 hg4 hob4
                  have st6 := st.appL hg4 hown4
                  have hb6 := st.bel.grown hg4 st.bel.size (fun b hb => by have := (st.ol.lt b hb).1; omega)
                  have bk6 := st.sb.grown hg4 (own_blk_ne st.ol st.sb (by decide))
                  have f6 := bk6.frozen 1
                  have f6l := bk6.lt
                  have f6c := (bk6.cell 1).trans rfl
                  refine hK.out _ _ ?_ (fun hS32 => ?_)
                  · exact HK.out _ (hb6)
                  clear hK K
                  try simp only [Act.put, List.setIfInBounds_toArray]
                  clear hown4 hg4 hob4 bk6
                  refine wpAnyH_take (i := 12) (v := .pointer (some ⟨w.heap.size + 2, 1, none⟩)) rfl (by kernel_rfl) (by kernel_rfl) (by kernel_rfl) (fun _ _ _ h => h) (Or.inl ⟨by kernel_rfl, ?qP3212⟩) (by assumption) ?rP3212
                  case qP3212 => (intro w hSw; (try dsimp only at hSw); go_simp)
                  try simp only [Act.put]
                  refine wpAnyH_ready (rs := [13]) (by kernel_rfl) (by simp) ?_
                  refine AllReadyH.cons rfl (fun K hK => ?n33) (AllReadyH.nil)
                  case n33 =>
                    go_simp
                    refine hK.out _ _ ?_ (fun hS35 => ?_)
                    · exact HK.out _ (st6.bel)
                    clear hK K
                    try simp only [Act.put, List.setIfInBounds_toArray]
                    refine wpAnyH_done (by kernel_rfl) ?_ _
                    refine NoPanic.normal ?_
                    go_wp2_with fail
                    go_meet
                    exact ⟨_, _, st6⟩
          case n22 =>
            go_simp
            go_at_call 30
            with_reducible refine (HDG.out _ A1 k1 A2 k2 ho).mono ?_
            rintro e V36 ⟨rfl, hb9⟩
            try go_wp2_with fail
            refine hK.out _ _ ?_ (fun hS37 => ?_)
            · exact HK.out _ ((st.below hb9).bel)
            clear hK K
            try simp only [Act.put, List.setIfInBounds_toArray]
            replace st := st.below hb9
            clear hb9 ho
            refine wpAnyH_ready (rs := [1, 10]) (by kernel_rfl) (by simp) ?_
            refine AllReadyH.cons rfl (fun K hK => ?n38) (AllReadyH.cons rfl (fun K hK => ?n39) (AllReadyH.nil))
            case n38 =>
              have f1 := (st.sb.cell 1).trans rfl
              have f1l := st.sb.lt
              go_simp
              refine hK.out _ _ ?_ (fun hS40 => ?_)
              · exact HK.out _ (st.bel)
              clear hK K
              try simp only [Act.put, List.setIfInBounds_toArray]
              refine wpAnyH_ready (rs := [10]) (by kernel_rfl) (by simp) ?_
              refine AllReadyH.cons rfl (fun K hK => ?n41) (AllReadyH.nil)
              case n41 =>
                go_simp
                refine hK.out _ _ ?_ (fun hS43 => ?_)
                · exact HK.out _ ((st.below (below_alloc1 V36 (.cells #[.int .i64 (dg : Int)] 3))).bel)
                clear hK K
                try simp only [Act.put, List.setIfInBounds_toArray]
                replace st := st.below (below_alloc1 V36 (.cells #[.int .i64 (dg : Int)] 3))
                have bl := Blk.new V36 3 #[.int .i64 (dg : Int)]
                generalize V36.alloc (.cells #[.int .i64 (dg : Int)] 3) = V42 at *
                generalize V36.heap.size = gn at *
                refine wpAnyH_ready (rs := [11]) (by kernel_rfl) (by simp) ?_
                refine AllReadyH.cons rfl (fun K hK => ?n44) (AllReadyH.nil)
                case n44 =>
                  refine step_appNo _ rfl (.tmp 14) (.tmp 23) 41 rfl (w.heap.size + 2 + 1) 3 i0 _ 1 8 Tryd.underlying41 hi0 hz0 hz1 hz2 rfl (by decide) Al ls.length cl (intsV ls) rfl st.ol gn 1 [.int .i64 (dg : Int)] rfl rfl (fun j v hj => by rw [bl.cell j, ← Array.getElem?_toList]; exact hj) (by intro u hu; simp at hu; subst hu; rfl) h63 hby (Nat.succ_le_of_lt st.sb.lt) ?_
                  intro gd c4 V45 hown4 hg4 hob4
                  have st6 := st.appL hg4 hown4
                  have hb6 := st.bel.grown hg4 st.bel.size (fun b hb => by have := (st.ol.lt b hb).1; omega)
                  have bk6 := st.sb.grown hg4 (own_blk_ne st.ol st.sb (by decide))
                  have f6 := bk6.frozen 1
                  have f6l := bk6.lt
                  have f6c := (bk6.cell 1).trans rfl
                  refine hK.out _ _ ?_ (fun hS46 => ?_)
                  · exact HK.out _ (hb6)
                  clear hK K
                  try simp only [Act.put, List.setIfInBounds_toArray]
                  clear hown4 hg4 hob4 bk6
                  refine wpAnyH_take (i := 12) (v := .pointer (some ⟨w.heap.size + 2, 1, none⟩)) rfl (by kernel_rfl) (by kernel_rfl) (by kernel_rfl) (fun _ _ _ h => h) (Or.inl ⟨by kernel_rfl, ?qP4612⟩) (by assumption) ?rP4612
                  case qP4612 => (intro w hSw; (try dsimp only at hSw); go_simp)
                  try simp only [Act.put]
                  refine wpAnyH_ready (rs := [13]) (by kernel_rfl) (by simp) ?_
                  refine AllReadyH.cons rfl (fun K hK => ?n47) (AllReadyH.nil)
                  case n47 =>
                    go_simp
                    refine hK.out _ _ ?_ (fun hS49 => ?_)
                    · exact HK.out _ (st6.bel)
                    clear hK K
                    try simp only [Act.put, List.setIfInBounds_toArray]
                    refine wpAnyH_done (by kernel_rfl) ?_ _
                    refine NoPanic.normal ?_
                    go_wp2_with fail
                    go_meet
                    exact ⟨_, _, st6⟩
            case n39 =>
              go_simp
              refine hK.out _ _ ?_ (fun hS51 => ?_)
              · exact HK.out _ ((st.below (below_alloc1 V36 (.cells #[.int .i64 (dg : Int)] 3))).bel)
              clear hK K
              try simp only [Act.put, List.setIfInBounds_toArray]
              replace st := st.below (below_alloc1 V36 (.cells #[.int .i64 (dg : Int)] 3))
              have bl := Blk.new V36 3 #[.int .i64 (dg : Int)]
              generalize V36.alloc (.cells #[.int .i64 (dg : Int)] 3) = V50 at *
              generalize V36.heap.size = gn at *
              refine wpAnyH_ready (rs := [1]) (by kernel_rfl) (by simp) ?_
              refine AllReadyH.cons rfl (fun K hK => ?n52) (AllReadyH.nil)
              case n52 =>
                have f1 := (st.sb.cell 1).trans rfl
                have f1l := st.sb.lt
                go_simp
                refine hK.out _ _ ?_ (fun hS53 => ?_)
                · exact HK.out _ (st.bel)
                clear hK K
                try simp only [Act.put, List.setIfInBounds_toArray]
                refine wpAnyH_ready (rs := [11]) (by kernel_rfl) (by simp) ?_
                refine AllReadyH.cons rfl (fun K hK => ?n54) (AllReadyH.nil)
                case n54 =>
                  refine step_appNo _ rfl (.tmp 14) (.tmp 23) 41 rfl (w.heap.size + 2 + 1) 3 i0 _ 1 8 Tryd.underlying41 hi0 hz0 hz1 hz2 rfl (by decide) Al ls.length cl (intsV ls) rfl st.ol gn 1 [.int .i64 (dg : Int)] rfl rfl (fun j v hj => by rw [bl.cell j, ← Array.getElem?_toList]; exact hj) (by intro u hu; simp at hu; subst hu; rfl) h63 hby (Nat.succ_le_of_lt st.sb.lt) ?_
                  intro gd c4 V55 hown4 hg4 hob4
                  have st6 := st.appL hg4 hown4
                  have hb6 := st.bel.grown hg4 st.bel.size (fun b hb => by have := (st.ol.lt b hb).1; omega)
                  have bk6 := st.sb.grown hg4 (own_blk_ne st.ol st.sb (by decide))
                  have f6 := bk6.frozen 1
                  have f6l := bk6.lt
                  have f6c := (bk6.cell 1).trans rfl
                  refine hK.out _ _ ?_ (fun hS56 => ?_)
                  · exact HK.out _ (hb6)
                  clear hK K
                  try simp only [Act.put, List.setIfInBounds_toArray]
                  clear hown4 hg4 hob4 bk6
                  refine wpAnyH_take (i := 12) (v := .pointer (some ⟨w.heap.size + 2, 1, none⟩)) rfl (by kernel_rfl) (by kernel_rfl) (by kernel_rfl) (fun _ _ _ h => h) (Or.inl ⟨by kernel_rfl, ?qP5612⟩) (by assumption) ?rP5612
                  case qP5612 => (intro w hSw; (try dsimp only at hSw); go_simp)
                  try simp only [Act.put]
                  refine wpAnyH_ready (rs := [13]) (by kernel_rfl) (by simp) ?_
                  refine AllReadyH.cons rfl (fun K hK => ?n57) (AllReadyH.nil)
                  case n57 =>
                    go_simp
                    refine hK.out _ _ ?_ (fun hS59 => ?_)
                    · exact HK.out _ (st6.bel)
                    clear hK K
                    try simp only [Act.put, List.setIfInBounds_toArray]
                    refine wpAnyH_done (by kernel_rfl) ?_ _
                    refine NoPanic.normal ?_
                    go_wp2_with fail
                    go_meet
                    exact ⟨_, _, st6⟩
      case rest =>
        obtain ⟨Al, cl, st⟩ := hcut
        obtain ⟨wo, rfl⟩ : ∃ wo : World, wo = wc := ⟨_, rfl⟩
        clear HLB HDG q0 q0l hbw h63 hby
        have q0 := (HK.out _ st.bel).1
        have q0l : w.heap.size < wo.heap.size := Nat.lt_of_lt_of_le bx2.lt st.bel.size
        have hbw : b < wo.heap.size := Nat.lt_of_lt_of_le hb st.bel.size
        have sx : (⟨p.toArray⟩ : ByteArray).size = p.length := by simp [ByteArray.size]
        have e2 : (⟨p.toArray⟩ : ByteArray) ++ ⟨#[10]⟩ = ⟨(p ++ [10]).toArray⟩ := str_add p [10]
        have hpl : (p ++ [10]).length = p.length + 1 := by simp
        have h63 : da.length + (p ++ [10]).length ≤ maxLen := by unfold maxLen; omega
        have hby : da.length + (p ++ [10]).length ≤ 140737488355328 := by omega
        have hp6 : p.length ≤ 9223372036854775806 := by omega
        generalize hpn : p ++ [10] = pn at *
        clear hpl hpn
        go_wp2_with fail
        replace st := st.below (below_drew' (Below.refl _ _))
        refine wp_region_noPanic ?_
        refine wp_region_held_drew (S := (fun w6 : World => w6.cell? ⟨w.heap.size, 0, none⟩ = some (.slice (some ⟨b, off, none⟩) t.length k) ∧ w6.cell? ⟨b, off + i * 2, none⟩ = some (strV p) ∧ w6.cell? ⟨b, off + i * 2 + 1, none⟩ = some (.slice A' L.length k'))) (by kernel_rfl) ?_ (fun hR => ?_)
        · exact HK.out _ st.bel
        obtain ⟨WR, hWR⟩ : ∃ W : World, W = wo.drew := ⟨_, rfl⟩
        rw [← hWR] at st hR ⊢
        clear hWR
        refine wpAnyH_take (i := 0) (v := .pointer (some ⟨w.heap.size + 2, 2, none⟩)) rfl (by kernel_rfl) (by kernel_rfl) (by kernel_rfl) (fun _ _ _ h => h) (Or.inl ⟨by kernel_rfl, ?qR0⟩) (by assumption) ?rR0
        case qR0 => (intro w hSw; (try dsimp only at hSw); go_simp)
        try simp only [Act.put, List.setIfInBounds_toArray]
        refine wpAnyH_take (i := 2) (v := .pointer (some ⟨w.heap.size, 0, none⟩)) rfl (by kernel_rfl) (by kernel_rfl) (by kernel_rfl) (fun _ _ _ h => h) (Or.inl ⟨by kernel_rfl, ?qR2⟩) (by assumption) ?rR2
        case qR2 => (intro w hSw; (try dsimp only at hSw); go_simp)
        try simp only [Act.put]
        refine wpAnyH_take (i := 3) (v := .slice (some ⟨b, off, none⟩) t.length k) rfl (by kernel_rfl) (by kernel_rfl) (by kernel_rfl) (fun _ _ _ h => h) (Or.inl ⟨by kernel_rfl, ?qR3⟩) (by assumption) ?rR3
        case qR3 => (intro w hSw; (try dsimp only at hSw); go_simp)
        try simp only [Act.put]
        refine wpAnyH_take (i := 4) (v := .int .i64 (i : Int)) rfl (by kernel_rfl) (by kernel_rfl) (by kernel_rfl) (fun _ _ _ h => h) (Or.inl ⟨by kernel_rfl, ?qR4⟩) (by assumption) ?rR4
        case qR4 => (intro w hSw; (try dsimp only at hSw); go_simp)
        try simp only [Act.put]
        refine wpAnyH_take (i := 5) (v := .pointer (some ⟨b, off + i * 2, none⟩)) rfl (by kernel_rfl) (by kernel_rfl) (by kernel_rfl) (fun _ _ _ h => h) (Or.inl ⟨by kernel_rfl, ?qR5⟩) (by assumption) ?rR5
        case qR5 => (intro w hSw; (try dsimp only at hSw); go_simp)
        try simp only [Act.put]
        refine wpAnyH_take (i := 6) (v := .pointer (some ⟨b, off + i * 2, none⟩)) rfl (by kernel_rfl) (by kernel_rfl) (by kernel_rfl) (fun _ _ _ h => h) (Or.inl ⟨by kernel_rfl, ?qR6⟩) (by assumption) ?rR6
        case qR6 => (intro w hSw; (try dsimp only at hSw); go_simp)
        try simp only [Act.put]
        refine wpAnyH_take (i := 7) (v := strV p) rfl (by kernel_rfl) (by kernel_rfl) (by kernel_rfl) (fun _ _ _ h => h) (Or.inl ⟨by kernel_rfl, ?qR7⟩) (by assumption) ?rR7
        case qR7 => (intro w hSw; (try dsimp only at hSw); go_simp)
        try simp only [Act.put]
        refine wpAnyH_take (i := 8) (v := .string ⟨pn.toArray⟩) rfl (by kernel_rfl) (by kernel_rfl) (by kernel_rfl) (fun _ _ _ h => h) (Or.inl ⟨by kernel_rfl, ?qR8⟩) (by assumption) ?rR8
        case qR8 => (intro w hSw; (try dsimp only at hSw); go_simp)
        try simp only [Act.put]
        refine wpAnyH_ready (rs := [1]) (by kernel_rfl) (by simp) ?_
        refine AllReadyH.cons rfl (fun K hK => ?n60) (AllReadyH.nil)
        have f1 := (st.sb.cell 2).trans rfl
        have f1l := st.sb.lt
        go_simp
        refine hK.out _ _ ?_ (fun hS61 => ?_)
        · exact HK.out _ (st.bel)
        clear hK K
        try simp only [Act.put, List.setIfInBounds_toArray]
        refine wpAnyH_ready (rs := [9]) (by kernel_rfl) (by simp) ?_
        refine AllReadyH.cons rfl (fun K hK => ?n62) (AllReadyH.nil)
        refine step_app_str _ rfl (.tmp 27) (.tmp 34) 52 9 rfl (w.heap.size + 2 + 1) 5 j0 Tryd.underlying52 Tryd.underlying9 hj0 hy0 hy1 hy2 Ad da.length cd (bytesV da) rfl st.od pn rfl h63 hby (Nat.succ_le_of_lt st.sb.lt) ?_
        intro A4 c4 w4 hown4 hg4
        have st6 := st.appD hg4 hown4
        have hb6 := st.bel.grown hg4 st.bel.size (fun b hb => by have := (st.od.lt b hb).1; omega)
        have bk6 := st.sb.grown hg4 (own_blk_ne st.od st.sb (by decide))
        have f6 := bk6.frozen 2
        have f6l := bk6.lt
        have f6c := (bk6.cell 2).trans rfl
        refine hK.out _ _ ?_ (fun hS63 => ?_)
        · exact HK.out _ (hb6)
        clear hK K
        try simp only [Act.put, List.setIfInBounds_toArray]
        clear hown4 hg4 bk6
        refine wpAnyH_take (i := 10) (v := .pointer (some ⟨w.heap.size + 2, 2, none⟩)) rfl (by kernel_rfl) (by kernel_rfl) (by kernel_rfl) (fun _ _ _ h => h) (Or.inl ⟨by kernel_rfl, ?qR1010⟩) (by assumption) ?rR1010
        case qR1010 => (intro w hSw; (try dsimp only at hSw); go_simp)
        try simp only [Act.put]
        refine wpAnyH_ready (rs := [11]) (by kernel_rfl) (by simp) ?_
        refine AllReadyH.cons rfl (fun K hK => ?n64) (AllReadyH.nil)
        go_simp
        refine hK.out _ _ ?_ (fun hS65 => ?_)
        · exact HK.out _ (st6.bel)
        clear hK K
        try simp only [Act.put, List.setIfInBounds_toArray]
        refine wpAnyH_done (by kernel_rfl) ?_ _
        refine NoPanic.normal ?_
        go_wp2_with fail
        go_roundw
        case rel => exact ⟨i + 1, _, _, _, _, by omega, by go_num, by rw [HLS2.out, HPS2.out]; exact st6⟩
        case measure => simp [intOf]; omega
    · obtain rfl : i = t.length := by omega
      rw [List.take_of_length_le (by rw [HLL.out]; exact Nat.le_refl _)] at st
      have h4 := HPB.out t.length (Nat.le_refl _)
      have hll := HLL.out
      have hE := HE.out
      subst hE
      have hob := st.ob (X := fun b => b ≤ w.heap.size + 1) HIL.out (by omega) (by omega) (fun b hb => by rw [hsz2]; show b < w.heap.size + 2; have : b ≤ w.heap.size + 1 := hb; omega)
      have rb := rb2.below st.bel rb2.lt
      have hbt := hb2.trans (st.bel.mono hb2.size)
      clear HPB HPS HLS HP HLN HO HG HIL HE hlen
      generalize Tr.pathsB t t.length = da at *
      generalize Tr.links t = ls at *
      have r0 := rb.lt
      have r1 := rb.frozen 0
      have r2 := rb.frozen 1
      have r3 := rb.frozen 2
      have r4 := (rb.cell 0).trans rfl
      have r5 := (rb.cell 1).trans rfl
      have r6 := (rb.cell 2).trans rfl
      have s0 := (st.sb.cell 0).trans rfl
      have s1 := (st.sb.cell 1).trans rfl
      have s2 := (st.sb.cell 2).trans rfl
      have s3 := st.sb.lt
      have br2 := (((rb.set_ 0 (.int .i64 2)).set_ 1 (.slice Al ls.length cl)).set_ 2 (.slice Ad da.length cd))
      have hbf := ((hbt.setCell (p := ⟨w.heap.size + 1, 0, none⟩) (Nat.le_succ _) (.int .i64 2)).setCell (p := ⟨w.heap.size + 1, 1, none⟩) (Nat.le_succ _) (.slice Al ls.length cl)).setCell (p := ⟨w.heap.size + 1, 2, none⟩) (Nat.le_succ _) (.slice Ad da.length cd)
      have kk := ((Keeps.setCell wo (fun b => b ≤ w.heap.size + 1) ⟨w.heap.size + 1, 0, none⟩ (.int .i64 2) (Nat.le_refl _)).trans (Keeps.setCell _ (fun b => b ≤ w.heap.size + 1) ⟨w.heap.size + 1, 1, none⟩ (.slice Al ls.length cl) (Nat.le_refl _))).trans (Keeps.setCell _ (fun b => b ≤ w.heap.size + 1) ⟨w.heap.size + 1, 2, none⟩ (.slice Ad da.length cd) (Nat.le_refl _))
      have hob2 := (hob.keep kk).keep ((Keeps.refl _ (fun b => b ≤ w.heap.size + 1)).into (X'' := Under w.heap.size) (fun b (hb : b < w.heap.size) => by show b ≤ w.heap.size + 1; omega))
      clear kk hob st bx2 rb2 hll
      go_wp2_with fail
      refine bodyPost_ret (results_o54 rfl _ _ (w.heap.size + 1) _ _ _ rfl br2) rfl ?_
      exact ⟨Al, cl, Ad, cd, rfl, hob2, hbf⟩
end Go.Proofs.YtjljknocnebnaaaDoor
namespace Go.Proofs.YtjljknocnebnaaaDoor
open Go.RowKit Go.V
set_option linter.unusedVariables false

set_option maxRecDepth 100000 in
set_option maxHeartbeats 16000000 in
theorem storeFault_any (w : World) (A : Option Addr) (k : Nat) (s : List Ob.S) (hv : StV w Free A s) (hl64 : s.length ≤ 9223372036854775807) :
    Calls Tryd.prog 23 #[stV A s.length k] w (FaultPost w (Ob.stF s)) := by
  by_cases hl : 40 < s.length
  · have H := Lib.hid (show Ob.stF s = (2, 0) from by unfold Ob.stF; rw [if_pos hl])
    have hl' : (40 : Int) < s.length := by omega
    clear hv
    go_enter Tryd.func23, Tryd.ntmps23
    go_wp2_with (go_at_call 25; refine (fault_any _ _ _).mono ?_; rintro e w' ⟨rfl, rfl⟩)
    refine bodyPost_ret (results_c rfl _ _ (w.heap.size + 1) (.int .i64 2) (.int .i64 0) rfl ((blk_new1 _ _ _ _).alloc _)) rfl (FaultPost.mk_ H.out ?_)
    exact below_alloc3 _ _ _ _
  · have hl' : (s.length : Int) ≤ 40 := by omega
    have H := Lib.hid (show Ob.stF s = Ob.stFrom s 0 from by unfold Ob.stF; rw [if_neg hl])
    have HROW := Lib.hid (fun (w' : World) (hb : Below w.heap.size w w') i hi => (hv.keep (free_below hb)).row (w := w') i hi)
    clear hv hl
    go_enter Tryd.func23, Tryd.ntmps23
    go_wp2_with fail
    go_loopw [3] (fun v wr => ∃ i : Nat, i ≤ s.length ∧ v = .int .i64 i ∧ VaSt w wr A s.length k ∧ Hid (Ob.stFrom s 0 = Ob.stFrom s i)) (fun v _ => s.length - (intOf v).toNat)
    case atStart => exact ⟨0, Nat.zero_le _, rfl, ⟨(Blk.new _ _ _).alloc _, blk_new1 _ _ _ _, below_alloc2 _ _ _⟩, Lib.hid rfl⟩
    case round =>
      obtain ⟨i, hi, rfl, st, HJ⟩ := hrel
      obtain ⟨wo, rfl⟩ : ∃ wo : World, wo = wr := ⟨_, rfl⟩
      have hsz := st.bel.size
      have hlt0 := st.res.lt
      have hlb0 := st.box.lt
      have hbx := st.box.cell 0
      simp only [List.getElem?_toArray, List.getElem?_cons_zero] at hbx
      by_cases hlt : i < s.length
      · have hlt' : (i : Int) < s.length := by omega
        obtain ⟨b, off, Al, kl, Ad, kd, e, hb, _, d0, d1, d2, d3, hx, hob⟩ := HROW.out _ st.bel i hlt
        subst e
        have HC1 := Lib.hid (Ob.stFrom_next s i hlt)
        have HC2 := Lib.hid (Ob.stFrom_bad s i hlt)
        have HCO := Lib.hid (Ob.code.eq_1 s i)
        have HBAD := Lib.hid (fun (h : Ob.code s i ≠ 0) => show Ob.stF s = (Ob.code s i, (i : Int)) from by rw [H.out, HJ.out, HC2.out h])
        have HF30 := Lib.hid (obFault_any wo (Ob.it s i).ob Al kl Ad kd hob)
        unfold I64 at hx
        by_cases hf : (Ob.obF (Ob.it s i).ob).1 ≠ 0
        · have hcc : Ob.code s i = (Ob.obF (Ob.it s i).ob).1 := by rw [HCO.out, if_pos hf]
          have HB := Lib.hid (show Ob.stF s = ((Ob.obF (Ob.it s i).ob).1, (i : Int)) from by rw [HBAD.out (by rw [hcc]; exact hf), hcc])
          have hf1 : ((Ob.obF (Ob.it s i).ob).1 == 0) = false := by simpa using hf
          have hf2 : ((Ob.obF (Ob.it s i).ob).1 != 0) = true := by simpa using hf
          clear HC1 HC2 HCO HBAD hcc hob hf
          generalize Ob.it s i = x at *
          generalize Ob.obF x.ob = r at *
          obtain ⟨cd, ix⟩ := r
          obtain ⟨xd, kk, ls, da⟩ := x
          simp only at *
          go_wp2_with fail
          go_at_call 28
          refine HF30.out.mono ?_
          rintro e w2 ⟨rfl, hb2⟩
          have st2 := st.below hb2
          have hlt2 := st2.res.lt
          have hlt2b : w.heap.size < w2.heap.size := Nat.lt_of_succ_lt hlt2
          have hf0 := st2.res.frozen 0
          have hf1' := st2.res.frozen 1
          have hc0 := st2.res.cell 0
          have hc1 := st2.res.cell 1
          simp only [List.getElem?_toArray, List.getElem?_cons_zero, List.getElem?_cons_succ] at hc0 hc1
          have hsz2 := st2.bel.size
          clear hb2 st HF30
          go_wp2_with (go_at_call 25; refine (fault_any _ _ _).mono ?_; rintro e w' ⟨rfl, rfl⟩)
          refine bodyPost_ret (results_c rfl _ _ (w.heap.size + 1) (.int .i64 cd) (.int .i64 i) rfl (((blk_put2 st2.res _ _).alloc _).alloc _)) rfl (FaultPost.mk_ HB.out ?_)
          exact ((((st2.bel.setCell (by simp) _).setCell (by simp) _).alloc (by simp; omega) _).alloc (by simp; omega) _)
        · have hok : Ob.Ok (Ob.it s i).ob := (Ob.obF_ok (by simpa using hf)).2
          have hofz := hok.f
          have HD := Lib.hid (fun (w' : World) (hb : Below wo.heap.size wo w') => objDigest_any w' (Ob.it s i).ob Al kl Ad kd (hob.keep (free_below hb)) hok)
          have hcp := Lib.hid (HCO.out.trans (if_neg hf))
          rw [hofz] at HF30
          clear HCO hob hok hf hofz
          by_cases hd : ((Ob.dig (Ob.it s i).ob : Nat) : Int) ≠ (Ob.it s i).dig
          · have hcc : Ob.code s i = 18 := by rw [hcp.out, if_pos hd]
            have HB := Lib.hid (show Ob.stF s = (18, (i : Int)) from by rw [HBAD.out (by rw [hcc]; decide), hcc])
            have hd1 : (((Ob.dig (Ob.it s i).ob : Nat) : Int) == (Ob.it s i).dig) = false := by simpa using hd
            have hd2 : (((Ob.dig (Ob.it s i).ob : Nat) : Int) != (Ob.it s i).dig) = true := bne_iff_ne.2 hd
            clear HC1 HC2 HBAD hcp hcc hd
            generalize Ob.it s i = x at *
            generalize Ob.dig x.ob = dg at *
            obtain ⟨xd, kk, ls, da⟩ := x
            simp only at *
            go_wp2_with fail
            go_at_call 28
            refine HF30.out.mono ?_
            rintro e w2 ⟨rfl, hb2'⟩
            have hb2 : Below wo.heap.size wo (w2.alloc (.cells #[.int .i64 0, .int .i64 0] 30)) := hb2'.alloc hb2'.size _
            have HK : Hid (∀ w6 : World, Below wo.heap.size wo w6 → w6.cell? ⟨w.heap.size, 0, none⟩ = some (.slice (some ⟨b, off, none⟩) s.length k) ∧ w6.cell? ⟨b, off + i * 4, none⟩ = some (.int .i64 xd) ∧ w6.cell? ⟨b, off + i * 4 + 1, none⟩ = some (.int .i64 kk) ∧ w6.cell? ⟨b, off + i * 4 + 2, none⟩ = some (.slice Al ls.length kl) ∧ w6.cell? ⟨b, off + i * 4 + 3, none⟩ = some (.slice Ad da.length kd)) := Lib.hid fun w6 h6 =>
              ⟨(h6.cell (p := ⟨w.heap.size, 0, none⟩) hlb0).trans hbx, (h6.cell (p := ⟨b, _, none⟩) hb).trans d0, (h6.cell (p := ⟨b, _, none⟩) hb).trans d1, (h6.cell (p := ⟨b, _, none⟩) hb).trans d2, (h6.cell (p := ⟨b, _, none⟩) hb).trans d3⟩
            have hk0 : Below wo.heap.size wo (w2.alloc (.cells #[.int .i64 0, .int .i64 0] 30)).drew := below_drew' hb2
            go_wp2_with fail
            go_region_held3 (fun w6 => w6.cell? ⟨w.heap.size, 0, none⟩ = some (.slice (some ⟨b, off, none⟩) s.length k) ∧ w6.cell? ⟨b, off + i * 4, none⟩ = some (.int .i64 xd) ∧ w6.cell? ⟨b, off + i * 4 + 1, none⟩ = some (.int .i64 kk) ∧ w6.cell? ⟨b, off + i * 4 + 2, none⟩ = some (.slice Al ls.length kl) ∧ w6.cell? ⟨b, off + i * 4 + 3, none⟩ = some (.slice Ad da.length kd))
              (first | exact HK.out _ hk0 | exact HK.out _ hk7)
              (first | (go_at_call 30; (with_reducible refine (HD.out _ hk0).mono ?_); rintro e w3 ⟨rfl, hb3⟩; have hk7 : Below wo.heap.size wo w3 := hk0.trans (hb3.mono hk0.size)))
            have st3 := st.below hk7
            have hlt2 := st3.res.lt
            have hf0 := st3.res.frozen 0
            have hf1' := st3.res.frozen 1
            have hc0 := st3.res.cell 0
            have hc1 := st3.res.cell 1
            have hbx3 := st3.box.cell 0
            simp only [List.getElem?_toArray, List.getElem?_cons_zero, List.getElem?_cons_succ] at hc0 hc1 hbx3
            have hsz2 := st3.bel.size
            have hlbx := st3.box.lt
            have hd0 := (HK.out _ hk7).2.1
            clear hb2 hb2' st HD HK hk0
            go_wp2_with (go_at_call 25; refine (fault_any _ _ _).mono ?_; rintro e w' ⟨rfl, rfl⟩)
            refine bodyPost_ret (results_c rfl _ _ (w.heap.size + 1) (.int .i64 18) (.int .i64 i) rfl ((blk_put2 st3.res _ _).alloc _)) rfl (FaultPost.mk_ HB.out ?_)
            exact (((st3.bel.setCell (by simp) _).setCell (by simp) _).alloc (by simp; omega) _)
          · have hcq := Lib.hid (hcp.out.trans (if_neg hd))
            have hde : ((Ob.dig (Ob.it s i).ob : Nat) : Int) = (Ob.it s i).dig := by omega
            by_cases hi0 : i = 0
            · have hcc : Ob.code s i = 0 := by rw [hcq.out, if_neg (by omega)]
              have HJ2 := Lib.hid (HJ.out.trans (HC1.out hcc))
              have hz1 : decide ((0 : Int) < (i : Int)) = false := by simp; omega
              have hz2 : decide (0 < i) = false := by simp; omega
              clear HC1 HC2 HBAD hcp hcq hcc hd hi0
              generalize Ob.it s i = x at *
              generalize Ob.dig x.ob = dg at *
              obtain ⟨xd, kk, ls, da⟩ := x
              simp only at *
              subst hde
              have hd1 : ((dg : Int) == (dg : Int)) = true := by simp
              have hd2 : ((dg : Int) != (dg : Int)) = false := by simp
              go_wp2_with fail
              go_at_call 28
              refine HF30.out.mono ?_
              rintro e w2 ⟨rfl, hb2'⟩
              have hb2 : Below wo.heap.size wo (w2.alloc (.cells #[.int .i64 0, .int .i64 0] 30)) := hb2'.alloc hb2'.size _
              have HK : Hid (∀ w6 : World, Below wo.heap.size wo w6 → w6.cell? ⟨w.heap.size, 0, none⟩ = some (.slice (some ⟨b, off, none⟩) s.length k) ∧ w6.cell? ⟨b, off + i * 4, none⟩ = some (.int .i64 (dg : Int)) ∧ w6.cell? ⟨b, off + i * 4 + 1, none⟩ = some (.int .i64 kk) ∧ w6.cell? ⟨b, off + i * 4 + 2, none⟩ = some (.slice Al ls.length kl) ∧ w6.cell? ⟨b, off + i * 4 + 3, none⟩ = some (.slice Ad da.length kd)) := Lib.hid fun w6 h6 =>
                ⟨(h6.cell (p := ⟨w.heap.size, 0, none⟩) hlb0).trans hbx, (h6.cell (p := ⟨b, _, none⟩) hb).trans d0, (h6.cell (p := ⟨b, _, none⟩) hb).trans d1, (h6.cell (p := ⟨b, _, none⟩) hb).trans d2, (h6.cell (p := ⟨b, _, none⟩) hb).trans d3⟩
              have hk0 : Below wo.heap.size wo (w2.alloc (.cells #[.int .i64 0, .int .i64 0] 30)).drew := below_drew' hb2
              go_wp2_with fail
              go_region_held3 (fun w6 => w6.cell? ⟨w.heap.size, 0, none⟩ = some (.slice (some ⟨b, off, none⟩) s.length k) ∧ w6.cell? ⟨b, off + i * 4, none⟩ = some (.int .i64 (dg : Int)) ∧ w6.cell? ⟨b, off + i * 4 + 1, none⟩ = some (.int .i64 kk) ∧ w6.cell? ⟨b, off + i * 4 + 2, none⟩ = some (.slice Al ls.length kl) ∧ w6.cell? ⟨b, off + i * 4 + 3, none⟩ = some (.slice Ad da.length kd))
                (first | exact HK.out _ hk0 | exact HK.out _ hk7)
                (first | (go_at_call 30; (with_reducible refine (HD.out _ hk0).mono ?_); rintro e w3 ⟨rfl, hb3⟩; have hk7 : Below wo.heap.size wo w3 := hk0.trans (hb3.mono hk0.size)))
              have st3 := st.below hk7
              have hlt2 := st3.res.lt
              have hf0 := st3.res.frozen 0
              have hf1' := st3.res.frozen 1
              have hc0 := st3.res.cell 0
              have hc1 := st3.res.cell 1
              have hbx3 := st3.box.cell 0
              simp only [List.getElem?_toArray, List.getElem?_cons_zero, List.getElem?_cons_succ] at hc0 hc1 hbx3
              have hsz2 := st3.bel.size
              have hlbx := st3.box.lt
              have hd0 := (HK.out _ hk7).2.1
              clear hb2 hb2' st HD HK hk0
              go_wp2_with fail
              go_quiet (fail)
              go_wp2_with fail
              go_roundw
              case rel => exact ⟨i + 1, by omega, by go_num, st3.drewN _, HJ2⟩
              case measure => simp [intOf]; omega
            · have hz1 : decide ((0 : Int) < (i : Int)) = true := by simp; omega
              have hz2 : decide (0 < i) = true := by simp; omega
              have hz3 : (0 : Int) ≤ (i : Int) - 1 := by omega
              have hz4 : (i : Int) - 1 < s.length := by omega
              have hz5 : IntKind.i64.wrap ((i : Int) - 1) = (i : Int) - 1 := IntWalk.i64_in _ (by omega)
              have hz6 : ((i : Int) - 1).toNat = i - 1 := by omega
              obtain ⟨b', off', Al', kl', Ad', kd', e', hb', _, d0', _, _, _, hx', _⟩ := HROW.out _ st.bel (i - 1) (by omega)
              cases e'
              by_cases hle : (Ob.it s i).dig ≤ (Ob.it s (i - 1)).dig
              · have hcc : Ob.code s i = 5 := by rw [hcq.out, if_pos ⟨by omega, hle⟩]
                have HB := Lib.hid (show Ob.stF s = (5, (i : Int)) from by rw [HBAD.out (by rw [hcc]; decide), hcc])
                have hle' : decide ((Ob.it s i).dig ≤ (Ob.it s (i - 1)).dig) = true := by simpa using hle
                clear HC1 HC2 HBAD hcp hcq hcc hd hi0 hle
                generalize (Ob.it s (i - 1)).dig = pd at *
                generalize Ob.it s i = x at *
                generalize Ob.dig x.ob = dg at *
                obtain ⟨xd, kk, ls, da⟩ := x
                simp only at *
                subst hde
                have hd1 : ((dg : Int) == (dg : Int)) = true := by simp
                have hd2 : ((dg : Int) != (dg : Int)) = false := by simp
                go_wp2_with fail
                go_at_call 28
                refine HF30.out.mono ?_
                rintro e w2 ⟨rfl, hb2'⟩
                have hb2 : Below wo.heap.size wo (w2.alloc (.cells #[.int .i64 0, .int .i64 0] 30)) := hb2'.alloc hb2'.size _
                have HK : Hid (∀ w6 : World, Below wo.heap.size wo w6 → w6.cell? ⟨w.heap.size, 0, none⟩ = some (.slice (some ⟨b, off, none⟩) s.length k) ∧ w6.cell? ⟨b, off + i * 4, none⟩ = some (.int .i64 (dg : Int)) ∧ w6.cell? ⟨b, off + i * 4 + 1, none⟩ = some (.int .i64 kk) ∧ w6.cell? ⟨b, off + i * 4 + 2, none⟩ = some (.slice Al ls.length kl) ∧ w6.cell? ⟨b, off + i * 4 + 3, none⟩ = some (.slice Ad da.length kd)) := Lib.hid fun w6 h6 =>
                  ⟨(h6.cell (p := ⟨w.heap.size, 0, none⟩) hlb0).trans hbx, (h6.cell (p := ⟨b, _, none⟩) hb).trans d0, (h6.cell (p := ⟨b, _, none⟩) hb).trans d1, (h6.cell (p := ⟨b, _, none⟩) hb).trans d2, (h6.cell (p := ⟨b, _, none⟩) hb).trans d3⟩
                have hk0 : Below wo.heap.size wo (w2.alloc (.cells #[.int .i64 0, .int .i64 0] 30)).drew := below_drew' hb2
                go_wp2_with fail
                go_region_held3 (fun w6 => w6.cell? ⟨w.heap.size, 0, none⟩ = some (.slice (some ⟨b, off, none⟩) s.length k) ∧ w6.cell? ⟨b, off + i * 4, none⟩ = some (.int .i64 (dg : Int)) ∧ w6.cell? ⟨b, off + i * 4 + 1, none⟩ = some (.int .i64 kk) ∧ w6.cell? ⟨b, off + i * 4 + 2, none⟩ = some (.slice Al ls.length kl) ∧ w6.cell? ⟨b, off + i * 4 + 3, none⟩ = some (.slice Ad da.length kd))
                  (first | exact HK.out _ hk0 | exact HK.out _ hk7)
                  (first | (go_at_call 30; (with_reducible refine (HD.out _ hk0).mono ?_); rintro e w3 ⟨rfl, hb3⟩; have hk7 : Below wo.heap.size wo w3 := hk0.trans (hb3.mono hk0.size)))
                have hpd := (hk7.cell (p := ⟨b, off + (i - 1) * 4, none⟩) hb).trans d0'
                have hbb : b < w3.heap.size := Nat.lt_of_lt_of_le hb hk7.size
                have st3 := st.below hk7
                have hlt2 := st3.res.lt
                have hf0 := st3.res.frozen 0
                have hf1' := st3.res.frozen 1
                have hc0 := st3.res.cell 0
                have hc1 := st3.res.cell 1
                have hbx3 := st3.box.cell 0
                simp only [List.getElem?_toArray, List.getElem?_cons_zero, List.getElem?_cons_succ] at hc0 hc1 hbx3
                have hsz2 := st3.bel.size
                have hlbx := st3.box.lt
                have hd0 := (HK.out _ hk7).2.1
                clear hb2 hb2' st HD HK hk0
                go_wp2_with fail
                go_quiet (fail)
                refine gen_world (C := fun w9 => Exit.then _ _ _ _ w9) (fun w9 => VaSt w w9 _ s.length k) (st3.drewN _) ?_
                intro w9 st9
                have nlt2 := st9.res.lt
                have nf0 := st9.res.frozen 0
                have nf1' := st9.res.frozen 1
                have nc0 := st9.res.cell 0
                have nc1 := st9.res.cell 1
                have nsz2 := st9.bel.size
                simp only [List.getElem?_toArray, List.getElem?_cons_zero, List.getElem?_cons_succ] at nc0 nc1
                go_wp2_with (go_at_call 25; refine (fault_any _ _ _).mono ?_; rintro e w' ⟨rfl, rfl⟩)
                refine bodyPost_ret (results_c rfl _ _ (w.heap.size + 1) (.int .i64 5) (.int .i64 i) rfl ((blk_put2 st9.res _ _).alloc _)) rfl (FaultPost.mk_ HB.out ?_)
                exact (((st9.bel.setCell (by simp) _).setCell (by simp) _).alloc (by simp; omega) _)
              · have hcc : Ob.code s i = 0 := by rw [hcq.out, if_neg (by rintro ⟨_, h⟩; exact hle h)]
                have HJ2 := Lib.hid (HJ.out.trans (HC1.out hcc))
                have hle' : decide ((Ob.it s i).dig ≤ (Ob.it s (i - 1)).dig) = false := by simpa using hle
                clear HC1 HC2 HBAD hcp hcq hcc hd hi0 hle
                generalize (Ob.it s (i - 1)).dig = pd at *
                generalize Ob.it s i = x at *
                generalize Ob.dig x.ob = dg at *
                obtain ⟨xd, kk, ls, da⟩ := x
                simp only at *
                subst hde
                have hd1 : ((dg : Int) == (dg : Int)) = true := by simp
                have hd2 : ((dg : Int) != (dg : Int)) = false := by simp
                go_wp2_with fail
                go_at_call 28
                refine HF30.out.mono ?_
                rintro e w2 ⟨rfl, hb2'⟩
                have hb2 : Below wo.heap.size wo (w2.alloc (.cells #[.int .i64 0, .int .i64 0] 30)) := hb2'.alloc hb2'.size _
                have HK : Hid (∀ w6 : World, Below wo.heap.size wo w6 → w6.cell? ⟨w.heap.size, 0, none⟩ = some (.slice (some ⟨b, off, none⟩) s.length k) ∧ w6.cell? ⟨b, off + i * 4, none⟩ = some (.int .i64 (dg : Int)) ∧ w6.cell? ⟨b, off + i * 4 + 1, none⟩ = some (.int .i64 kk) ∧ w6.cell? ⟨b, off + i * 4 + 2, none⟩ = some (.slice Al ls.length kl) ∧ w6.cell? ⟨b, off + i * 4 + 3, none⟩ = some (.slice Ad da.length kd)) := Lib.hid fun w6 h6 =>
                  ⟨(h6.cell (p := ⟨w.heap.size, 0, none⟩) hlb0).trans hbx, (h6.cell (p := ⟨b, _, none⟩) hb).trans d0, (h6.cell (p := ⟨b, _, none⟩) hb).trans d1, (h6.cell (p := ⟨b, _, none⟩) hb).trans d2, (h6.cell (p := ⟨b, _, none⟩) hb).trans d3⟩
                have hk0 : Below wo.heap.size wo (w2.alloc (.cells #[.int .i64 0, .int .i64 0] 30)).drew := below_drew' hb2
                go_wp2_with fail
                go_region_held3 (fun w6 => w6.cell? ⟨w.heap.size, 0, none⟩ = some (.slice (some ⟨b, off, none⟩) s.length k) ∧ w6.cell? ⟨b, off + i * 4, none⟩ = some (.int .i64 (dg : Int)) ∧ w6.cell? ⟨b, off + i * 4 + 1, none⟩ = some (.int .i64 kk) ∧ w6.cell? ⟨b, off + i * 4 + 2, none⟩ = some (.slice Al ls.length kl) ∧ w6.cell? ⟨b, off + i * 4 + 3, none⟩ = some (.slice Ad da.length kd))
                  (first | exact HK.out _ hk0 | exact HK.out _ hk7)
                  (first | (go_at_call 30; (with_reducible refine (HD.out _ hk0).mono ?_); rintro e w3 ⟨rfl, hb3⟩; have hk7 : Below wo.heap.size wo w3 := hk0.trans (hb3.mono hk0.size)))
                have hpd := (hk7.cell (p := ⟨b, off + (i - 1) * 4, none⟩) hb).trans d0'
                have hbb : b < w3.heap.size := Nat.lt_of_lt_of_le hb hk7.size
                have st3 := st.below hk7
                have hlt2 := st3.res.lt
                have hf0 := st3.res.frozen 0
                have hf1' := st3.res.frozen 1
                have hc0 := st3.res.cell 0
                have hc1 := st3.res.cell 1
                have hbx3 := st3.box.cell 0
                simp only [List.getElem?_toArray, List.getElem?_cons_zero, List.getElem?_cons_succ] at hc0 hc1 hbx3
                have hsz2 := st3.bel.size
                have hlbx := st3.box.lt
                have hd0 := (HK.out _ hk7).2.1
                clear hb2 hb2' st HD HK hk0
                go_wp2_with fail
                go_quiet (fail)
                go_wp2_with fail
                go_roundw
                case rel => exact ⟨i + 1, by omega, by go_num, st3.drewN _, HJ2⟩
                case measure => simp [intOf]; omega
      · obtain rfl : i = s.length := by omega
        have hf0 := st.res.frozen 0
        have hf1' := st.res.frozen 1
        have hc0 := st.res.cell 0
        have hc1 := st.res.cell 1
        simp only [List.getElem?_toArray, List.getElem?_cons_zero, List.getElem?_cons_succ] at hc0 hc1
        go_wp2_with fail
        refine bodyPost_ret (results_c rfl _ _ (w.heap.size + 1) (.int .i64 0) (.int .i64 0) rfl (blk_put2 st.res _ _)) rfl (FaultPost.mk_ ?_ ?_)
        · rw [H.out, HJ.out, Ob.stFrom_end s _ (Nat.le_refl _)]
        · exact (st.bel.setCell (by simp) _).setCell (by simp) _
end Go.Proofs.YtjljknocnebnaaaDoor
