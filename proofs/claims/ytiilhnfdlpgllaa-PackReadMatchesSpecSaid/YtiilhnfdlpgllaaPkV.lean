/-
  Objects and stores: what their values and slices read as.
-/
import Derived.Test.YtiilhnfdlpgllaaPkP
namespace Go.Proofs.Ytiilhnfdlpgllaa
open Go.RowKit Go.V
set_option linter.unusedVariables false

/-- The slices of an object read as its links and its data. -/
structure ObA (w : World) (X : Nat → Prop) (o : Ob.O) (Al : Option Addr) (kl : Nat) (Ad : Option Addr) (kd : Nat) : Prop where
  kind : I64 o.kind
  all : ∀ (i : Nat) (h : i < o.links.length), I64 o.links[i]
  lk : o.links.length ≤ kl
  dk : o.data.length ≤ kd
  ll : o.links.length ≤ 140737488351232
  dl : o.data.length ≤ 140737488351232
  ls : SA w X Al (intsV o.links)
  ds : SA w X Ad (bytesV o.data)
/-- The value of an object. -/
abbrev obV (o : Ob.O) (Al : Option Addr) (kl : Nat) (Ad : Option Addr) (kd : Nat) : Value := .agg #[.int .i64 o.kind, .slice Al o.links.length kl, .slice Ad o.data.length kd]
/-- One stored object as four cells. -/
def StR (w : World) (X : Nat → Prop) (s : Ob.S) (cs : List Value) : Prop :=
  ∃ Al kl Ad kd, cs = [.int .i64 s.dig, .int .i64 s.ob.kind, .slice Al s.ob.links.length kl, .slice Ad s.ob.data.length kd] ∧ I64 s.dig ∧ ObA w X s.ob Al kl Ad kd
section
variable {w w' : World} {X X' : Nat → Prop}
theorem ObA.keep {o : Ob.O} {Al : Option Addr} {kl : Nat} {Ad : Option Addr} {kd : Nat} (h : ObA w X o Al kl Ad kd) (k : Keeps w X w' X') : ObA w' X' o Al kl Ad kd :=
  ⟨h.kind, h.all, h.lk, h.dk, h.ll, h.dl, h.ls.keep k, h.ds.keep k⟩
theorem StR.len (s : Ob.S) (cs : List Value) (h : StR w X s cs) : cs.length = 4 := by obtain ⟨_, _, _, _, rfl, _⟩ := h; rfl
theorem StR.keep (k : Keeps w X w' X') (s : Ob.S) (cs : List Value) (h : StR w X s cs) : StR w' X' s cs := by
  obtain ⟨Al, kl, Ad, kd, e, h1, h2⟩ := h; exact ⟨Al, kl, Ad, kd, e, h1, h2.keep k⟩
/-- The slice at A holds the stored objects. -/
def StV (w : World) (X : Nat → Prop) (A : Option Addr) (s : List Ob.S) : Prop := ∃ vs, SA w X A vs ∧ RowsR (StR w X) s vs
theorem StV.keep {A : Option Addr} {s : List Ob.S} (h : StV w X A s) (k : Keeps w X w' X') : StV w' X' A s := by
  obtain ⟨vs, h1, h2⟩ := h; exact ⟨vs, h1.keep k, h2.mono (StR.keep k)⟩
theorem StV.row {A : Option Addr} {s : List Ob.S} (h : StV w X A s) (i : Nat) (hi : i < s.length) : ∃ b off Al kl Ad kd, A = some ⟨b, off, none⟩ ∧ b < w.heap.size ∧ ¬ X b ∧
    w.cell? ⟨b, off + i * 4, none⟩ = some (.int .i64 (Ob.it s i).dig) ∧ w.cell? ⟨b, off + i * 4 + 1, none⟩ = some (.int .i64 (Ob.it s i).ob.kind) ∧
    w.cell? ⟨b, off + i * 4 + 2, none⟩ = some (.slice Al (Ob.it s i).ob.links.length kl) ∧ w.cell? ⟨b, off + i * 4 + 3, none⟩ = some (.slice Ad (Ob.it s i).ob.data.length kd) ∧
    I64 (Ob.it s i).dig ∧ ObA w X (Ob.it s i).ob Al kl Ad kd := by
  obtain ⟨us, h1, h2⟩ := h
  obtain ⟨b, off, cs, e, hb, hx, ⟨Al, kl, Ad, kd, rfl, k1, k2⟩, hc⟩ := SA.row StR.len (by omega) h1 h2 i hi
  rw [← Ob.it_eq s i hi]
  exact ⟨b, off, Al, kl, Ad, kd, e, hb, hx, hc 0 _ rfl, hc 1 _ rfl, hc 2 _ rfl, hc 3 _ rfl, k1, k2⟩
end
theorem free_below {w w' : World} (hb : Below w.heap.size w w') : Keeps w Free w' Free := Keeps.below hb (fun _ _ h => h)
theorem below_drew' {B : Nat} {a w : World} (h : Below B a w) : Below B a w.drew := below_drewN h 1
theorem gen_world {C : World → Prop} {w : World} (F : World → Prop) (hF : F w) (h : ∀ wz, F wz → C wz) : C w := h w hF
end Go.Proofs.Ytiilhnfdlpgllaa
