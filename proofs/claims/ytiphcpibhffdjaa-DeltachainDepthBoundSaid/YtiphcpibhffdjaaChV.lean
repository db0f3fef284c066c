/-
  Delta chains: what slices of entries, of byte strings and of operations read as; slices.Clone of bytes.
-/
import Derived.Test.YtiphcpibhffdjaaWalk6
import Derived.Test.YtiphcpibhffdjaaView9
import Derived.Test.YtiphcpibhffdjaaPure3
import Derived.WalkSpells
namespace Go.Proofs.Ytiphcpibhffdjaa
open Go.RowKit Go.V
set_option linter.unusedVariables false

theorem below_alloc1 (w : World) (o : Obj) : Below w.heap.size w (w.alloc o) := (Below.refl _ _).alloc (Nat.le_refl _) _
/-- One operation as three cells. -/
def OpA (w : World) (X : Nat → Prop) (o : Dc.Op) (cs : List Value) : Prop :=
  ∃ A c, cs = [.int .i64 o.off, .int .i64 o.len, .slice A o.data.length c] ∧ o.data.length ≤ c ∧ o.data.length ≤ 140737488351232 ∧ I64 o.off ∧ I64 o.len ∧ SA w X A (bytesV o.data)
/-- One byte string as one cell. -/
def BsR (w : World) (X : Nat → Prop) (l : List UInt8) (cs : List Value) : Prop := ∃ A c, cs = [.slice A l.length c] ∧ l.length ≤ c ∧ l.length ≤ 140737488351232 ∧ SA w X A (bytesV l)
/-- One entry as three cells. -/
def EnR (w : World) (X : Nat → Prop) (e : Dc.En) (cs : List Value) : Prop :=
  ∃ Ad kd Ao ko vs, cs = [.int .i64 e.base, .slice Ad e.data.length kd, .slice Ao e.delta.length ko] ∧ I64 e.base ∧ e.data.length ≤ kd ∧ e.data.length ≤ 140737488351232 ∧ e.delta.length ≤ ko ∧ e.delta.length ≤ 140737488351232 ∧
    SA w X Ad (bytesV e.data) ∧ SA w X Ao vs ∧ RowsR (OpA w X) e.delta vs
section
variable {w w' : World} {X X' : Nat → Prop}
theorem OpA.len (o : Dc.Op) (cs : List Value) (h : OpA w X o cs) : cs.length = 3 := by obtain ⟨A, c, rfl, _⟩ := h; rfl
theorem BsR.len (l : List UInt8) (cs : List Value) (h : BsR w X l cs) : cs.length = 1 := by obtain ⟨A, c, rfl, _⟩ := h; rfl
theorem EnR.len (e : Dc.En) (cs : List Value) (h : EnR w X e cs) : cs.length = 3 := by obtain ⟨A, c, _, _, _, rfl, _⟩ := h; rfl
theorem OpA.keep (k : Keeps w X w' X') (o : Dc.Op) (cs : List Value) (h : OpA w X o cs) : OpA w' X' o cs := by
  obtain ⟨A, c, e, h1, h2, h3, h4, h5⟩ := h; exact ⟨A, c, e, h1, h2, h3, h4, h5.keep k⟩
theorem BsR.keep (k : Keeps w X w' X') (l : List UInt8) (cs : List Value) (h : BsR w X l cs) : BsR w' X' l cs := by
  obtain ⟨A, c, e, h1, h2, h3⟩ := h; exact ⟨A, c, e, h1, h2, h3.keep k⟩
theorem EnR.keep (k : Keeps w X w' X') (e : Dc.En) (cs : List Value) (h : EnR w X e cs) : EnR w' X' e cs := by
  obtain ⟨Ad, kd, Ao, ko, vs, e, h1, h2, h3, h4, h5, h6, h7, h8⟩ := h
  exact ⟨Ad, kd, Ao, ko, vs, e, h1, h2, h3, h4, h5, h6.keep k, h7.keep k, h8.mono (OpA.keep k)⟩
theorem OpA.toR (o : Dc.Op) (cs : List Value) (h : OpA w X o cs) : OpR w w.heap.size o cs := by
  obtain ⟨A, c, e, h1, h2, h3, h4, h5⟩ := h; exact ⟨A, c, e, h1, h2, h3, h4, h5.sv⟩
theorem OpA.of_R (o : Dc.Op) (cs : List Value) (h : OpR w w.heap.size o cs) : OpA w Free o cs := by
  obtain ⟨A, c, e, h1, h2, h3, h4, h5⟩ := h; exact ⟨A, c, e, h1, h2, h3, h4, .of_sv h5⟩
theorem OpA.of_O {lo hi : Nat} (hX : ∀ b, X b → b < lo) (o : Dc.Op) (cs : List Value) (h : OpO w lo hi o cs) : OpA w X o cs := by
  obtain ⟨A, c, e, h1, h2, h3, h4, h5, h6⟩ := h; exact ⟨A, c, e, h1, by omega, h5, h6, .of_own h3 hX⟩
/-- The slice at A holds the entries; the byte strings. -/
def ChV (w : World) (X : Nat → Prop) (A : Option Addr) (c : List Dc.En) : Prop := ∃ vs, SA w X A vs ∧ RowsR (EnR w X) c vs
def VsV (w : World) (X : Nat → Prop) (A : Option Addr) (l : List (List UInt8)) : Prop := ∃ vs, SA w X A vs ∧ RowsR (BsR w X) l vs
theorem ChV.keep {A : Option Addr} {c : List Dc.En} (h : ChV w X A c) (k : Keeps w X w' X') : ChV w' X' A c := by
  obtain ⟨vs, h1, h2⟩ := h; exact ⟨vs, h1.keep k, h2.mono (EnR.keep k)⟩
theorem VsV.keep {A : Option Addr} {l : List (List UInt8)} (h : VsV w X A l) (k : Keeps w X w' X') : VsV w' X' A l := by
  obtain ⟨vs, h1, h2⟩ := h; exact ⟨vs, h1.keep k, h2.mono (BsR.keep k)⟩
/-- The cells of entry i. -/
theorem ChV.row {A : Option Addr} {c : List Dc.En} (h : ChV w X A c) (i : Nat) (hi : i < c.length) : ∃ b off Ad kd Ao ko vs, A = some ⟨b, off, none⟩ ∧ b < w.heap.size ∧ ¬ X b ∧
    w.cell? ⟨b, off + i * 3, none⟩ = some (.int .i64 c[i].base) ∧ w.cell? ⟨b, off + i * 3 + 1, none⟩ = some (.slice Ad c[i].data.length kd) ∧ w.cell? ⟨b, off + i * 3 + 2, none⟩ = some (.slice Ao c[i].delta.length ko) ∧
    I64 c[i].base ∧ c[i].data.length ≤ kd ∧ c[i].data.length ≤ 140737488351232 ∧ c[i].delta.length ≤ ko ∧ c[i].delta.length ≤ 140737488351232 ∧ SA w X Ad (bytesV c[i].data) ∧ SA w X Ao vs ∧ RowsR (OpA w X) c[i].delta vs := by
  obtain ⟨us, h1, h2⟩ := h
  obtain ⟨b, off, cs, e, hb, hx, ⟨Ad, kd, Ao, ko, vs, rfl, k1, k2, k3, k4, k5, k6, k7, k8⟩, hc⟩ := SA.row EnR.len (by omega) h1 h2 i hi
  exact ⟨b, off, Ad, kd, Ao, ko, vs, e, hb, hx, hc 0 _ rfl, hc 1 _ rfl, hc 2 _ rfl, k1, k2, k3, k4, k5, k6, k7, k8⟩
theorem VsV.row {A : Option Addr} {l : List (List UInt8)} (h : VsV w X A l) (i : Nat) (hi : i < l.length) : ∃ b off Ad kd, A = some ⟨b, off, none⟩ ∧ b < w.heap.size ∧ ¬ X b ∧
    w.cell? ⟨b, off + i, none⟩ = some (.slice Ad l[i].length kd) ∧ l[i].length ≤ kd ∧ l[i].length ≤ 140737488351232 ∧ SA w X Ad (bytesV l[i]) := by
  obtain ⟨us, h1, h2⟩ := h
  obtain ⟨b, off, cs, e, hb, hx, ⟨Ad, kd, rfl, k1, k2, k3⟩, hc⟩ := SA.row BsR.len (by omega) h1 h2 i hi
  refine ⟨b, off, Ad, kd, e, hb, hx, ?_, k1, k2, k3⟩
  have := hc 0 _ rfl
  simpa using this
end

set_option maxRecDepth 100000 in
set_option maxHeartbeats 4000000 in
theorem clone_any (w : World) (A : Option Addr) (c : Nat) (l : List UInt8) (h : SV w w.heap.size A (bytesV l)) (hl : l.length ≤ 140737488351232) :
    Calls Try.prog 26 #[.slice A l.length c] w fun e w' => ∃ A' c', e = .returned (.slice A' l.length c') ∧ l.length ≤ c' ∧ w'.ownsRow w.heap.size 5 1 (.slice A' l.length c') l.length (bytesV l) ∧ Below w.heap.size w w' := by
  obtain ⟨i0, hi0, hz0, hz1, hz2⟩ := info_parts info5
  have heq : ∀ (W : World) a n c, (binOp .eql 22 (.slice a n c) (.slice none 0 0)).run Try.prog W = .ok (.bool a.isNone) W := fun W a n c => Lib.run_eql_slice_nil W 22 5 a n c 0 0 Try.underlying22
  rcases A with _ | ad
  · have hl0 : l = [] := by
      rcases h with h | ⟨b, off, h, _⟩
      · simpa [bytesV] using h
      · cases h
    subst hl0
    go_enter Try.func26, Try.ntmps26
    go_wp2_with fail
    go_ret
    exact ⟨none, 0, rfl, Nat.le_refl _, World.ownsRow_nil _ _ _ _, Below.refl _ _⟩
  · go_enter Try.func26, Try.ntmps26
    go_wp2_with (first | (at_builtin; refine wpList_appN _ rfl (.tmp 5) (.tmp 6) 22 rfl w.heap.size 5 i0 (.int .u8 0) 1 1 Try.underlying22 hi0 hz0 hz1 hz2 rfl (by decide) (some ⟨w.heap.size, 0, none⟩) 0 0 [] rfl (World.ownsRow_lit w #[] 0 (Nat.le_refl _) (by simp [maxLen]) rfl) _ (some ad) l.length c (bytesV l) rfl ?ha (SV.alloc h (Nat.le_refl _) _) (bytesV_one _) ?hb ?hc ?hd ?_))
    case ha => simp
    case hb => simp [maxLen]; omega
    case hc => omega
    case hd => simp
    intro A' c' w' hown hg hc'
    have hb := (below_alloc1 w (.cells #[] 5)).grown hg (by simp) (fun k hk => by simp [Value.ownBlock] at hk; omega)
    try simp only [Nat.zero_add, List.nil_append] at *
    go_wp2_with fail
    go_ret
    exact ⟨A', c', rfl, hc', hown, hb⟩
end Go.Proofs.Ytiphcpibhffdjaa
