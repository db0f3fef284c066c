/-
  A range over a function whose iterator writes a variable that it has captured: a block of cells that lay before the loop began.
  A region that draws its order inside a round of a range over a function: where all its operations are plain (no call), what is shown outside a fence holds inside.
  References: the library's 'strings.SplitSeq' at "/": its contract as an iterator.
  References: walk of 'Name'.
  References: walks of 'conflict', 'clash'.
-/
import Derived.RangeFuncNested
import Derived.StillTailTactics
import Derived.OrdersIn
import Derived.TacticsIn
import Derived.KernelRfl
import Derived.Test.YtipjejnncnndeaaGreatDoorG06
import Derived.RangeFuncBound
import Derived.RangeFuncCalls
import Derived.RangeFuncLeaves
import Derived.RangeFuncBox
import Derived.Shelf.Abstract
import Derived.Shelf.RegionOpen
import Derived.OwnWalkIn
import Derived.TacticsInMore
import Derived.LoopNIn
import Derived.LoopIn
import Derived.Outline
namespace Go.V
open Go Go.RowKit

/-- A store into the iterator's variable does not turn it. -/
def StaysB {β : Type} (Bx : Nat) (J : β → World → Prop) : Prop := ∀ s W v, J s W → J s (W.setCell ⟨Bx, 0, none⟩ v)
/-- The contract of an iterator that keeps its state in block Bx. -/
def SeqB {α : Type} (F : Fence) (n : Nat) (P : Program) (g : Nat) (lb : Array Value) (encs : α → Array Value) (Kp : World → World → Prop) (Bx : Nat) (S Sp : List α → Prop) (N : Nat) (w0 : World) : Prop :=
  ∀ (l : Nat) (J Jx : List α → World → Prop) (W : World), Below w0.heap.size w0 W → AbidesFrom W.heap.size J → AbidesFrom W.heap.size Jx → StaysB Bx J → StaysB Bx Jx →
    (∀ pre x W1, J pre W1 → pre.length < N → YieldAt F (n - 1) P l (encs x) W1 fun e W2 => (e = .returned (.bool true) ∧ J (pre ++ [x]) W2 ∧ Kp W1 W2) ∨ (e = .returned (.bool false) ∧ Jx (pre ++ [x]) W2)) →
    J [] W → CallsIn F n P g (#[.func (.yield l) #[] #[]] ++ lb) W fun e W2 => (∃ v, e = .returned v) ∧ ((∃ xs, S xs ∧ J xs W2) ∨ (∃ pre, Sp pre ∧ Jx pre W2))
theorem heap_setCell_ne (W : World) (Bx l : Nat) (v : Value) (h : l ≠ Bx) : (W.setCell ⟨Bx, 0, none⟩ v).heap[l]? = W.heap[l]? := Below.heap_setCell W ⟨Bx, 0, none⟩ v l h
section
variable {F : Fence} {n : Nat} {P : Program}
/-- The loop's record behind one round that has ended with the pending jump. -/
theorem round_ends {W2 W3 : World} {lr ld : Nat} {r : Loop} (hne : ld ≠ lr) (hl : W2.heap[lr]? = some (.loop r)) (hd : W2.heap[ld]? = some (.deferred (some []))) (hk : KeepsOthers W2 W3) (hr : r.state = .busy) (hp : r.pending = none) (jump : Option Code) :
    (Instr.endRound lr jump).run P W3 = .ok (.bool jump.isNone) (W3.putObj lr (.loop { r with state := if jump.isNone then .ready else .done, pending := jump })) ∧ W3.heap[lr]? = some (.loop r) ∧
    (W3.putObj lr (.loop { r with state := if jump.isNone then .ready else .done, pending := jump })).heap[lr]? = some (.loop { r with state := if jump.isNone then .ready else .done, pending := jump }) ∧
    (W3.putObj lr (.loop { r with state := if jump.isNone then .ready else .done, pending := jump })).heap[ld]? = some (.deferred (some [])) := by
  have h3 := hk.same _ _ hl rfl
  obtain ⟨st, pe, fn, tmps, ps, assign, body, defers⟩ := r
  simp only at hr hp
  subst hr hp
  exact ⟨run_endRound (P := P) jump h3, h3, World.putObj_heap_same (Array.getElem?_eq_some_iff.1 h3).1, (World.putObj_heap_other hne).trans (hk.same _ _ hd rfl)⟩
/-- **The loop, by the contract of such an iterator.** I: what holds between two rounds; Ix c: what holds when a round has left by the jump c. -/
theorem wpIn_rangeFunc_B {α : Type} {g : Operand} {ps : Array Tmp} {assign body : Code} {Q : Exit → Act → World → Prop} {a : Act} {w : World} (hro : F.round = none) (h1 : 1 ≤ n) {gf : Nat} {lb : Array Value}
    (hg : a.eval g = .func (.func gf) #[] lb) (hFg : F.fn gf) (eg : ∀ args w, (callFunc gf args).run P w = .ok (.enter gf args) w) {encs : α → Array Value} {Kp : World → World → Prop} {Bx : Nat} {S Sp : List α → Prop} {N : Nat}
    (hseq : SeqB F (n - 1) P gf lb encs Kp Bx S Sp N w) (hBx : Bx < w.heap.size) (hKt : ∀ {A B C : World}, Kp A B → Kp B C → Kp A C)
    (hKb : ∀ (W : World) (l : Nat) (o o' : Obj), w.heap.size ≤ l → W.heap[l]? = some o → o.isCells = false → o.isWalk = false → Kp W (W.putObj l o')) (hps : ∀ x, (encs x).size = ps.size)
    (I : List α → World → Prop) (Ix : Code → List α → World → Prop) (hI : OwnFrom w.heap.size I) (hIx : ∀ c, OwnFrom w.heap.size (Ix c)) (hIB : StaysB Bx I) (hIxB : ∀ c, StaysB Bx (Ix c)) (h0 : I [] w) (a₁ : α → Act)
    (hassign : ∀ (l : Nat) (x : α) (W : World) (K : Act → World → Prop), K (a₁ x) W →
      assign.wpIn (F.inRound l) (n - 1 - 1) P (Exit.then K (fun _ _ _ => False)) { tmps := (ps.zip (encs x)).foldl (fun t (p, v) => t.setIfInBounds p v) a.tmps, defers := [] } W)
    (hbody : ∀ (l : Nat) (pre : List α) (x : α) (W : World), I pre W → pre.length < N → body.wpIn (F.inRound l) (n - 1 - 1) P (ownPostK Kp I Ix (pre ++ [x]) W) (a₁ x) W)
    (hdone : ∀ (D : Nat) (xs : List α) (W : World), w.heap.size ≤ D → S xs → I xs W → W.heap[D]? = some (.deferred (some [])) → Q .normal { a with defers := { target := .collected D, args := #[] } :: a.defers } W)
    (hstop : ∀ (D : Nat) (c : Code) (pre : List α) (W : World), w.heap.size ≤ D → Sp pre → Ix c pre W → W.heap[D]? = some (.deferred (some [])) → c.wpIn F n P Q { a with defers := { target := .collected D, args := #[] } :: a.defers } W) :
    (Code.rangeFunc g ps assign body).wpIn F n P Q a w := by
  refine wpIn_rangeFunc ?_
  intro fn hfn
  rw [hro]
  obtain ⟨rc, hrc⟩ : ∃ rc : LoopState → Option Code → Loop, rc = fun st pe => { state := st, pending := pe, fn, tmps := a.tmps, params := ps, assign, body, defers := w.heap.size } := ⟨_, rfl⟩
  have hst : ∀ st pe, (rc st pe).state = st := fun st pe => by rw [hrc]
  have hpe : ∀ st pe, (rc st pe).pending = pe := fun st pe => by rw [hrc]
  have hup : ∀ st pe st' pe', ({ rc st pe with state := st', pending := pe' } : Loop) = rc st' pe' := fun st pe st' pe' => by rw [hrc]
  obtain ⟨W1, hW1⟩ : ∃ W1, W1 = (w.alloc (.deferred (some []))).alloc (.loop (rc .ready none)) := ⟨_, rfl⟩
  have hsz : W1.heap.size = w.heap.size + 2 := by rw [hW1]; simp
  have hL1 : W1.heap[w.heap.size + 1]? = some (.loop (rc .ready none)) := by
    have := World.alloc_heap_new (w.alloc (.deferred (some []))) (.loop (rc .ready none))
    rw [World.size_alloc] at this; rw [hW1]; exact this
  have hD1 : W1.heap[w.heap.size]? = some (.deferred (some [])) := by rw [hW1]; exact (Below.heap_alloc _ _ _ (by simp)).trans (World.alloc_heap_new w _)
  have hb1 : Below w.heap.size w W1 := by rw [hW1]; exact ((Below.refl _ w).alloc (Nat.le_refl _) _).alloc (by simp) _
  have hnw : ∀ {A : World} {row : Option Nat}, (∀ r, row = some r → W1.heap.size ≤ r ∧ ∃ o : Obj, A.heap[r]? = some o ∧ o.isWalk = true) → (∀ r, row = some r → w.heap.size ≤ r ∧ ∃ o : Obj, A.heap[r]? = some o ∧ o.isCells = false) := fun hr r e => by
    obtain ⟨hB, o, ho, hw⟩ := hr r e
    exact ⟨by omega, o, ho, Obj.not_cells_of_walk hw⟩
  refine ⟨w.heap.size + 1, [{ target := .collected w.heap.size, args := #[] }], W1, { target := .fn (.func gf) lb, args := #[.func (.yield (w.heap.size + 1)) #[] #[]] }, W1, gf, #[.func (.yield (w.heap.size + 1)) #[] #[]] ++ lb, W1, ?_, ?_, ?_, ?_, fun _ => h1, ?_⟩
  · rw [hW1, hrc]; exact run_enterLoop_outer _ _ _ _ _
  · simp only [resolve, hg]
    simp [go_sem]
  · intro f' hf'; simp [Target.leads] at hf'; subst hf'; exact hFg
  · simp [invoke, go_sem, eg]
  have hj := hseq (w.heap.size + 1)
    (fun pre W => I pre W ∧ W.heap[w.heap.size + 1]? = some (.loop (rc .ready none)) ∧ W.heap[w.heap.size]? = some (.deferred (some [])))
    (fun pre W => ∃ c, Ix c pre W ∧ W.heap[w.heap.size + 1]? = some (.loop (rc .done (some c))) ∧ W.heap[w.heap.size]? = some (.deferred (some []))) W1 hb1
    (fun s A B row hs hg' hr => ⟨hI s A B row hs.1 hg' (hnw hr), (grownBy_keeps hg' (fun r e => (hr r e).2) hs.2.1 rfl).trans hs.2.1, (grownBy_keeps hg' (fun r e => (hr r e).2) hs.2.2 rfl).trans hs.2.2⟩)
    (fun s A B row hs hg' hr => by
      obtain ⟨c, hc, hl, hk⟩ := hs
      exact ⟨c, hIx c s A B row hc hg' (hnw hr), (grownBy_keeps hg' (fun r e => (hr r e).2) hl rfl).trans hl, (grownBy_keeps hg' (fun r e => (hr r e).2) hk rfl).trans hk⟩)
    (fun s W v hs => ⟨hIB s W v hs.1, (heap_setCell_ne W Bx _ v (by omega)).trans hs.2.1, (heap_setCell_ne W Bx _ v (by omega)).trans hs.2.2⟩)
    (fun s W v hs => by
      obtain ⟨c, hc, hl, hk⟩ := hs
      exact ⟨c, hIxB c s W v hc, (heap_setCell_ne W Bx _ v (by omega)).trans hl, (heap_setCell_ne W Bx _ v (by omega)).trans hk⟩)
    ?round ⟨by rw [hW1]; exact hI.alloc _ (hI.alloc _ h0), hL1, hD1⟩
  · refine hj.mono ?_
    rintro e W2 ⟨⟨v, rfl⟩, (⟨xs, hS, hi, hl, hk⟩ | ⟨pre, hSp, c, hi, hl, hk⟩)⟩
    · refine ⟨none, _, by have := run_endLoop (P := P) hl (by rw [hst]; simp); rw [hpe] at this; exact this, ?_⟩
      exact hdone _ xs _ (Nat.le_refl _) hS (hI.putObj _ hi (by omega) hl rfl) ((World.putObj_heap_other (by omega)).trans hk)
    · refine ⟨some c, _, by have := run_endLoop (P := P) hl (by rw [hst]; simp); rw [hpe] at this; exact this, ?_⟩
      exact hstop _ c pre _ (Nat.le_refl _) hSp ((hIx c).putObj _ hi (by omega) hl rfl) ((World.putObj_heap_other (by omega)).trans hk)
  · rintro pre x W ⟨hi, hl, hk⟩ hlen
    have hy := run_yield (P := P) (args := encs x) hl (by rw [hrc]; exact hps x)
    refine ⟨_, _, _, _, hy, ?_⟩
    rw [hrc]
    refine roundIn_of_wpIn hfn (hassign _ x W _ ⟨_, run_beginRound hl (hst _ _), ?_⟩)
    have hlt := (Array.getElem?_eq_some_iff.1 hl).1
    obtain ⟨Wb, hWb⟩ : ∃ Wb, Wb = W.putObj (w.heap.size + 1) (.loop (rc .busy none)) := ⟨_, rfl⟩
    have hl2 : Wb.heap[w.heap.size + 1]? = some (.loop (rc .busy none)) := by rw [hWb]; exact World.putObj_heap_same hlt
    have hk2 : Wb.heap[w.heap.size]? = some (.deferred (some [])) := by rw [hWb]; exact (World.putObj_heap_other (by omega)).trans hk
    have hw2 : Kp W Wb := by rw [hWb]; exact hKb _ _ _ _ (by omega) hl rfl rfl
    have hi2 : I pre Wb := by rw [hWb]; exact hI.putObj _ hi (by omega) hl rfl
    have hWe : W.putObj (w.heap.size + 1) (.loop { rc .ready none with state := .busy }) = Wb := by rw [hWb, hrc]
    rw [hWe]
    refine wpIn_mono (hbody _ pre x Wb hi2 hlen) ?_
    rintro e a3 W3 hp
    cases e with
    | normal =>
      obtain ⟨hk3, hkp3, hi3⟩ := hp
      obtain ⟨hr, hl3, hl4, hk4⟩ := round_ends (P := P) (by omega) hl2 hk2 hk3 (hst _ _) (hpe _ _) none
      exact ⟨_, _, hr, .inl ⟨rfl, ⟨hI.putObj _ hi3 (by omega) hl3 rfl, by rw [hl4, hup, hrc]; rfl, hk4⟩, hKt (hKt hw2 hkp3) (hKb _ _ _ _ (by omega) hl3 rfl rfl)⟩⟩
    | ret =>
      obtain ⟨hk3, hi3⟩ := hp
      obtain ⟨hr, hl3, hl4, hk4⟩ := round_ends (P := P) (by omega) hl2 hk2 hk3 (hst _ _) (hpe _ _) (some .ret)
      exact ⟨_, _, hr, .inr ⟨rfl, .ret, (hIx _).putObj _ hi3 (by omega) hl3 rfl, by rw [hl4, hup, hrc]; rfl, hk4⟩⟩
    | exit id =>
      obtain ⟨hk3, hi3⟩ := hp
      obtain ⟨hr, hl3, hl4, hk4⟩ := round_ends (P := P) (by omega) hl2 hk2 hk3 (hst _ _) (hpe _ _) (some (.exit id))
      exact ⟨_, _, hr, .inr ⟨rfl, .exit id, (hIx _).putObj _ hi3 (by omega) hl3 rfl, by rw [hl4, hup, hrc]; rfl, hk4⟩⟩
    | goto t =>
      obtain ⟨hk3, hi3⟩ := hp
      obtain ⟨hr, hl3, hl4, hk4⟩ := round_ends (P := P) (by omega) hl2 hk2 hk3 (hst _ _) (hpe _ _) (some (.goto t))
      exact ⟨_, _, hr, .inr ⟨rfl, .goto t, (hIx _).putObj _ hi3 (by omega) hl3 rfl, by rw [hl4, hup, hrc]; rfl, hk4⟩⟩
    | panic ch => exact hp.elim
    | outgrown => exact hp.elim
end
end Go.V
namespace Go.V

/-- An operation that calls nothing. -/
def plainB (o : Oper) : Bool :=
  match o.op with
  | .move _ | .assign _ | .pick _ _ _ | .load _ _ | .store _ _ _ | .fieldAddr _ _ _ | .indexAddr _ _ _ | .binOp _ _ _ _ _ | .unOp _ _ _ => true
  | _ => false

theorem plain_run {P : Program} {o : Oper} (hp : plainB o = true) (ρ : Operand → Value) (w : World) :
    (∃ v w', (execOp ρ o).run P w = .ok (.value v) w') ∨ (∃ w', (execOp ρ o).run P w = .ok .skip w') ∨ ∃ x w', (execOp ρ o).run P w = .halt x w' := by
  have hv : ∀ s : Sem Value, (∃ v w', ((do pure (Next.value (← s)) : Sem Next)).run P w = .ok (.value v) w') ∨ (∃ w', ((do pure (Next.value (← s)) : Sem Next)).run P w = .ok .skip w') ∨ ∃ x w', ((do pure (Next.value (← s)) : Sem Next)).run P w = .halt x w' := by
    intro s
    simp only [Sem.run_bind, Sem.run_pure]
    cases h : s.run P w with
    | ok v w' => exact .inl ⟨v, w', rfl⟩
    | halt x w' => exact .inr (.inr ⟨x, w', rfl⟩)
  have hu : ∀ s : Sem Unit, (∃ v w', ((do s; pure Next.skip : Sem Next)).run P w = .ok (.value v) w') ∨ (∃ w', ((do s; pure Next.skip : Sem Next)).run P w = .ok .skip w') ∨ ∃ x w', ((do s; pure Next.skip : Sem Next)).run P w = .halt x w' := by
    intro s
    simp only [Sem.run_bind, Sem.run_pure]
    cases h : s.run P w with
    | ok v w' => exact .inr (.inl ⟨w', rfl⟩)
    | halt x w' => exact .inr (.inr ⟨x, w', rfl⟩)
  unfold plainB at hp
  unfold execOp
  cases ho : o.op <;> rw [ho] at hp <;> first | cases hp | skip
  all_goals simp only
  case move x => exact .inl ⟨_, _, rfl⟩
  case assign x => exact .inl ⟨_, _, rfl⟩
  case pick c x y =>
    simp only [Sem.run_bind, Sem.run_pure]
    cases h : (asBool (ρ c)).run P w with
    | ok v w' => exact .inl ⟨_, w', rfl⟩
    | halt x w' => exact .inr (.inr ⟨x, w', rfl⟩)
  all_goals first | exact hv _ | exact hu _

theorem plain_about {P : Program} {o : Oper} (hp : plainB o = true) (w : World) (ρ : Operand → Value) : o.about P w ρ = none := by
  unfold plainB at hp
  unfold Oper.about
  cases ho : o.op with
  | call c => rw [ho] at hp; simp at hp
  | _ => rfl
/-- The region's end alone. -/
def NQ (K : Act → World → Prop) : Exit → Act → World → Prop
  | .normal => K
  | _ => fun _ _ => False
section
variable {F : Fence} {n : Nat} {P : Program} {ops : Array Oper} {Q : Exit → Act → World → Prop} {md : Region.Mode}
theorem plain_wpIn {o : Oper} (hp : plainB o = true) {a : Act} {w : World} {K : Act → World → Prop} (h : o.wp P a w K Q) : o.wpIn F n P a w K Q := by
  have hd : ∀ c, o.op ≠ .defer c := fun c e => by unfold plainB at hp; rw [e] at hp; cases hp
  have ha : ∀ f, o.about P w a.eval = some f → F.fn f := fun f hf => by
    exact absurd hf (by rw [plain_about hp]; simp)
  unfold Oper.wp at h
  refine ⟨ha, ?_⟩
  rw [Oper.semAt_eq _ _ _ hd]
  rcases plain_run (P := P) hp a.eval w with ⟨v, w', e⟩ | ⟨w', e⟩ | ⟨x, w', e⟩
  · rw [e] at h ⊢; exact h
  · rw [e] at h ⊢; exact h
  · rw [e] at h ⊢
    cases x <;> first | exact h | exact h.elim
theorem plain_wpOpIn {i : Nat} (hp : ∀ o, ops[i]? = some o → plainB o = true) {a : Act} {w : World} {K K' : Act → World → Prop} (hK : ∀ a w, K a w → K' a w) (hQ : ¬ LetsOut Q) (h : wpOp P ops Q i K a w) : wpOpIn F n P ops Q i K' a w := by
  refine wpOpIn_mono hK ?_
  unfold wpOp at h
  unfold wpOpIn
  cases ho : ops[i]? with
  | none => rw [ho] at h; exact h
  | some o =>
    rw [ho] at h
    simp only at h ⊢
    have hp' := hp o ho
    by_cases hw : Region.wanted o (yielded ops a.tmps) = true
    · rw [if_pos hw] at h ⊢
      rcases h with h | ⟨_, h⟩
      · exact plain_wpIn hp' h
      · exact absurd h hQ
    · rw [if_neg hw] at h ⊢
      exact ⟨fun f hf => absurd hf (by rw [plain_about hp']; simp), h⟩
theorem plain_wpAnyIn (hQ : ¬ LetsOut Q) (hp : ∀ (i : Nat) o, ops[i]? = some o → plainB o = true) : ∀ (f : Nat) (listed : Array Bool) (a : Act) (w : World), wpAny P md ops Q f listed a w → wpAnyIn F n P md ops Q f listed a w
  | 0, _, _, _, h => h
  | f + 1, _, _, _, h => ⟨h.1, fun i hi => plain_wpOpIn (hp i) (fun a w hh => plain_wpAnyIn hQ hp f _ a w hh) hQ (h.2 i hi)⟩

/-- Reads alone, then the rest in its one order: inside a fence. -/
theorem wpIn_region_reads {id : Nat} {a : Act} {w : World} {l : List Oper} (k : Nat) (hm : P.follows .mixedOrders = true) (hp : (l.all plainB) = true) (hB : Region.lexTailB .any l.toArray k = true)
    (h : wpStill P l.toArray { w with drawn := w.drawn + 1 } (fun a' => wpList P l.toArray (NQ (Q .normal)) (l.drop k) a' { w with drawn := w.drawn + 1 }) (l.take k) a) : (Code.region id l.toArray true).wpIn F n P Q a w := by
  refine Code.wpIn_mono (Q := NQ (Q .normal)) (fun e a w hh => by cases e <;> first | exact hh | exact hh.elim) ?_
  refine wpIn_region_any hm (plain_wpAnyIn (fun hh => by obtain ⟨_, _, hh⟩ := hh; exact hh) (fun i o ho => List.all_eq_true.1 hp o (List.mem_of_getElem? (i := i) (by simpa using ho))) _ _ _ _ ?_)
  unfold Region.lexTailB at hB
  rw [Bool.and_eq_true, Bool.and_eq_true, Bool.and_eq_true, Bool.and_eq_true] at hB
  have hk : k < l.length := by simpa using hB.1.1.1.2
  have e1 : (l.take k).length = k := List.length_take_of_le (by omega)
  have e2 : (l.drop k).length = l.length - k := List.length_drop
  have start : HeadInv .any l.toArray k (Array.replicate l.toArray.size false) := by
    refine ⟨by simp, fun j oj _ hl => ?_, fun t _ ht => ?_⟩
    · rw [getD_replicate_false] at hl; cases hl
    · exact getD_in (by simpa using ht) (getD_replicate_false _ _)
  have hd : l.toArray.size = (l.take k).length + (l.length - k) := by rw [e1]; simp; omega
  have begin_ := wpAnyL_lex (md := .any) (g := l.length - k) hB.1.1.1.1 hB.1.1.2 hB.1.2 (by simpa using hk) (l.take k) 0 _ a
    (fun j hj => by simp [Nat.lt_of_lt_of_eq hj e1]) (by rw [e1, Nat.zero_add]) start (by rw [e1]; simpa using hB.2) h
  have fin := wpAny_of_head (Q' := NQ (Q .normal)) (g := l.length - k) (fun listed a' hL => by
    have := wpAny_of_seq (md := .any) (Q' := NQ (Q .normal)) (l.drop k) k listed a' { w with drawn := w.drawn + 1 } (fun j => by simp [List.getElem?_drop]) (by rw [e2]; exact hL.1) hL.2
    rwa [e2] at this) _ _ _ begin_
  rw [← hd] at fin
  exact fin
end
end Go.V
namespace Go.Proofs.YtipjejnncnndeaaGreatDoor.RF
open Go.RowKit Go.V Go.Shelf Go.Lib
set_option linter.unusedVariables false
attribute [local go_sem] Oper.semAt_some

theorem indexByte_index (l : List UInt8) : Lib.indexByte l 47 = Lib.index l [47] := by
  induction l with
  | nil => simp [Lib.indexByte, Lib.index]
  | cons b l ih =>
    unfold Lib.indexByte Lib.index
    rw [← ih]
    by_cases h : b = 47
    · simp [h, List.isPrefixOf]
    · have h2 : ¬ (47 : UInt8) = b := fun e => h e.symm
      simp [h, h2, List.isPrefixOf]
/-- The bytes of the string in a cell, counted. -/
def strLen : Option Value → Nat
  | some (.string b) => b.size
  | _ => 0
theorem extract_take (l : List UInt8) (k : Nat) : (⟨l.toArray⟩ : ByteArray).extract 0 k = ⟨(l.take k).toArray⟩ := by
  apply ByteArray.ext
  rw [ByteArray.data_extract]
  simp
theorem extract_drop (l : List UInt8) (k n : Nat) (hn : l.length ≤ n) : (⟨l.toArray⟩ : ByteArray).extract k n = ⟨(l.drop k).toArray⟩ := by
  apply ByteArray.ext
  rw [ByteArray.data_extract]
  simp
  rw [List.take_of_length_le (by simp; omega)]
def splW (w : World) (l : List UInt8) : World := ((w.alloc (.cells #[strV l] 9)).alloc (.cells #[.string ⟨#[47]⟩] 9)).alloc (.cells #[.int .i64 0] 3)
def splC (w : World) : Array Value := #[.pointer (some ⟨w.heap.size + 1, 0, none⟩), .pointer (some ⟨w.heap.size, 0, none⟩), .pointer (some ⟨w.heap.size + 2, 0, none⟩)]
theorem splitSeq_in (n : Nat) (l : List UInt8) (w : World) :
    CallsIn Fence.wide n Tryz.prog 72 #[strV l, .string ⟨#[47]⟩, .int .i64 0] w fun e w' => e = .returned (.func (.func 90) #[] (splC w)) ∧ w' = splW w l := by
  refine callsIn_of_wp Tryz.func72 rfl trivial ?_ rfl
  simp only [Tryz.ntmps72, List.size_toArray, List.length_cons, List.length_nil, Nat.reduceAdd, Nat.reduceSub, Array.replicate_succ, Array.replicate_zero, List.push_toArray, List.append_toArray, List.nil_append, List.cons_append]
  gi_wp2
  go_ret
  exact ⟨rfl, rfl⟩
theorem SplitSeq_in (n : Nat) (hn : 1 ≤ n) (l : List UInt8) (w : World) :
    CallsIn Fence.wide n Tryz.prog 45 #[strV l, .string ⟨#[47]⟩] w fun e w' => e = .returned (.func (.func 90) #[] (splC w)) ∧ w' = splW w l := by
  refine callsIn_of_wp Tryz.func45 rfl trivial ?_ rfl
  simp only [Tryz.ntmps45, List.size_toArray, List.length_cons, List.length_nil, Nat.reduceAdd, Nat.reduceSub, Array.replicate_succ, Array.replicate_zero, List.push_toArray, List.append_toArray, List.nil_append, List.cons_append]
  gi_wp2_with (refine ⟨trivial, ?_⟩; gi_at_call 72; refine (splitSeq_in _ _ _).mono ?_; rintro e w' ⟨rfl, rfl⟩)
  go_ret
  exact ⟨rfl, rfl⟩
/-- What comes in a round: a part. -/
abbrev Cx := {x : List UInt8 // x.length ≤ 60}
/-- What a round keeps. -/
def KpS (B : Nat) (W W' : World) : Prop := Below B W W'
set_option maxRecDepth 100000 in
set_option maxHeartbeats 8000000 in
theorem split_in (n : Nat) (hn : 1 ≤ n) (w0 : World) (l : List UInt8) (hlen : l.length ≤ 60) :
    SeqB Fence.wide n Tryz.prog 90 (splC w0) (fun x : Cx => #[strV x.1]) (KpS (w0.heap.size + 3)) w0.heap.size (fun xs => xs.map (·.1) = Rf.comps l) (fun pre => ∃ r, Rf.comps l = pre.map (·.1) ++ r) (Rf.comps l).length (splW w0 l) := by
  intro lp J Jx W hW hJ hJx hB hBx hY h0
  have hb0 : Below (splW w0 l).heap.size (splW w0 l) W := hW
  have hsz0 : (splW w0 l).heap.size = w0.heap.size + 3 := by simp [splW]
  have bs : Blk W w0.heap.size 9 #[strV l] := ((((Blk.new w0 9 #[strV l]).alloc (.cells #[.string ⟨#[47]⟩] 9)).alloc (.cells #[.int .i64 0] 3)).below hb0 (by rw [hsz0]; omega) : _)
  have bp : Blk W (w0.heap.size + 1) 9 #[.string ⟨#[47]⟩] := ((show Blk (splW w0 l) (w0.heap.size + 1) 9 #[.string ⟨#[47]⟩] from by
    have := (Blk.new (w0.alloc (.cells #[strV l] 9)) 9 #[.string ⟨#[47]⟩]).alloc (.cells #[.int .i64 0] 3)
    simpa [splW] using this).below hb0 (by rw [hsz0]; omega))
  have bv : Blk W (w0.heap.size + 2) 3 #[.int .i64 0] := ((show Blk (splW w0 l) (w0.heap.size + 2) 3 #[.int .i64 0] from by
    have := Blk.new ((w0.alloc (.cells #[strV l] 9)).alloc (.cells #[.string ⟨#[47]⟩] 9)) 3 #[.int .i64 0]
    simpa [splW] using this).below hb0 (by rw [hsz0]; omega))
  refine callsIn_of_wp Tryz.func90 rfl trivial ?_ rfl
  simp only [splC, Tryz.ntmps90, List.size_toArray, List.length_cons, List.length_nil, Nat.reduceAdd, Nat.reduceSub, Array.replicate_succ, Array.replicate_zero, List.push_toArray, List.append_toArray, List.nil_append, List.cons_append]
  have hp0 := (bp.cell 0).trans rfl
  simp only [List.getElem?_toArray, List.getElem?_cons_zero] at hp0
  gi_wp2
  gi_loopw [] (fun wr => ∃ (pre : List Cx) (r : List UInt8), Hid (Rf.comps l = pre.map (·.1) ++ Rf.comps r) ∧ r.length ≤ 60 ∧ J pre wr ∧ Blk wr w0.heap.size 9 #[strV r] ∧ Blk wr (w0.heap.size + 1) 9 #[.string ⟨#[47]⟩] ∧ Blk wr (w0.heap.size + 2) 3 #[.int .i64 0])
    (fun wr => strLen (wr.cell? ⟨w0.heap.size, 0, none⟩))
  case atStart => exact ⟨[], l, Lib.hid rfl, hlen, h0, bs, bp, bv⟩
  case round =>
    obtain ⟨pre, r, HC, hr, hj, cs, cp, cv⟩ := hrel
    have q0 : wr.cell? ⟨w0.heap.size, 0, none⟩ = some (strV r) := (cs.cell 0).trans rfl
    have q1 : wr.cell? ⟨w0.heap.size + 1, 0, none⟩ = some (.string ⟨#[47]⟩) := (cp.cell 0).trans rfl
    have q2 : wr.cell? ⟨w0.heap.size + 2, 0, none⟩ = some (.int .i64 0) := (cv.cell 0).trans rfl
    have HX := Lib.hid (Tryz.strings_Index_one ⟨r.toArray⟩ 47 wr)
    have HY := Lib.hid hY
    have HJ := Lib.hid hj
    clear hY hj hJ hJx h0 hb0 hW
    rcases Rf.split47 r with hno | ⟨x, r2, rfl, hno⟩
    · have hix : Lib.indexByte r 47 = -1 := by rw [indexByte_index, Rf.index_no hno]
      have hc := Lib.hid (show Rf.comps l = pre.map (·.1) ++ [r] from by rw [HC.out, Rf.comps_no hno])
      rw [show (⟨r.toArray⟩ : ByteArray).data.toList = r from rfl, hix] at HX
      have hpl : pre.length < (Rf.comps l).length := by rw [hc.out]; simp
      clear hix HC hno
      obtain ⟨fn, tmps, assign, body, hy, hR⟩ := HY.out pre ⟨r, hr⟩ wr HJ.out hpl
      gi_wp2_with (refine ⟨trivial, ?_⟩; gi_at_call 92; refine (callsIn_wide.2 HX.out).mono ?_; rintro e w' ⟨rfl, rfl⟩)
      refine hR.mono ?_
      rintro e W3 (⟨rfl, hJ3, hk3⟩ | ⟨rfl, hJx3⟩)
      · gi_wp2
        go_end0
        exact ⟨⟨_, rfl⟩, .inl ⟨_, by rw [hc.out]; simp, hJ3⟩⟩
      · gi_wp2
        go_end0
        exact ⟨⟨_, rfl⟩, .inr ⟨_, ⟨[], by rw [hc.out]; simp⟩, hJx3⟩⟩
    · have hix : Lib.indexByte (x ++ 47 :: r2) 47 = (x.length : Int) := by rw [indexByte_index, Rf.index_sep r2 hno]
      have hc := Lib.hid (show Rf.comps l = pre.map (·.1) ++ x :: Rf.comps r2 from by rw [HC.out, Rf.comps_sep r2 hno])
      rw [show (⟨(x ++ 47 :: r2).toArray⟩ : ByteArray).data.toList = x ++ 47 :: r2 from rfl, hix] at HX
      have hpl : pre.length < (Rf.comps l).length := by rw [hc.out]; simp
      have e1 : (⟨(x ++ 47 :: r2).toArray⟩ : ByteArray).extract 0 x.length = ⟨x.toArray⟩ := by rw [extract_take]; simp
      have e2 : ∀ n, (x ++ 47 :: r2).length ≤ n → (⟨(x ++ 47 :: r2).toArray⟩ : ByteArray).extract (x.length + 1) n = ⟨r2.toArray⟩ := fun n hn => by rw [extract_drop _ _ _ hn]; simp [← List.drop_drop]
      have hl1 : x.length + r2.length + 1 ≤ 60 := by simpa [Nat.add_assoc] using hr
      have hsz : (⟨(x ++ 47 :: r2).toArray⟩ : ByteArray).size = x.length + r2.length + 1 := by simp [ByteArray.size]; omega
      clear hix HC hno hr
      obtain ⟨fn, tmps, assign, body, hy, hR⟩ := HY.out pre ⟨x, by omega⟩ wr HJ.out hpl
      gi_wp2_with (refine ⟨trivial, ?_⟩; gi_at_call 92; refine (callsIn_wide.2 HX.out).mono ?_; rintro e w' ⟨rfl, rfl⟩)
      refine hR.mono ?_
      rintro e W3 (⟨rfl, hJ3, hk3⟩ | ⟨rfl, hJx3⟩)
      · have cs3 := cs.below hk3 (by omega)
        have cp3 := cp.below hk3 (by omega)
        have cv3 := cv.below hk3 (by omega)
        have p0 : W3.cell? ⟨w0.heap.size, 0, none⟩ = some (strV (x ++ 47 :: r2)) := (cs3.cell 0).trans rfl
        have p1 : W3.cell? ⟨w0.heap.size + 1, 0, none⟩ = some (.string ⟨#[47]⟩) := (cp3.cell 0).trans rfl
        have pf := cs3.frozen 0
        have e2' := e2 _ (Nat.le_refl _)
        have e2'' := e2 (x.length + r2.length + 1) (by simp; omega)
        gi_wp2
        go_roundw
        case rel => exact ⟨_, r2, Lib.hid (by rw [hc.out]; simp), by omega, hB _ _ _ hJ3, by simpa using cs3.set_ 0 (strV r2), cp3.far (by simp) _, cv3.far (by simp) _⟩
        case measure =>
          have m1 := ((cs3.set_ 0 (strV r2)).cell 0)
          have m2 := (cs.cell 0)
          simp only [Array.setIfInBounds, List.size_toArray, List.length_cons, List.length_nil, List.getElem?_toArray, List.getElem?_cons_zero] at m1 m2
          simp at m1
          rw [m1, m2]
          simp [strLen, ByteArray.size]; omega
      · gi_wp2
        refine bodyPost_ret (results_none rfl _ _ _) rfl ?_
        exact ⟨⟨_, rfl⟩, .inr ⟨_, ⟨Rf.comps r2, by rw [hc.out]; simp⟩, hJx3⟩⟩
end Go.Proofs.YtipjejnncnndeaaGreatDoor.RF
namespace Go.Proofs.YtipjejnncnndeaaGreatDoor.RF
open Go.RowKit Go.V Go.Shelf Go.Lib
set_option linter.unusedVariables false
attribute [local go_sem] Oper.semAt_some

/-- The library's own variable at block 0 holds a number. -/
def Mx (w : World) : Prop := ∃ m, w.cell? ⟨0, 0, none⟩ = some (.int .i64 m)
theorem Mx.pos {w : World} (h : Mx w) : 0 < w.heap.size := by obtain ⟨m, hm⟩ := h; exact World.block_lt_of_cell? w _ hm
theorem Mx.below {w w' : World} (h : Mx w) (hb : Below w.heap.size w w') : Mx w' := by
  have hp := h.pos
  obtain ⟨m, hm⟩ := h; exact ⟨m, (hb.cell (p := ⟨0, 0, none⟩) hp).trans hm⟩
theorem results_c4 {fn : Func} {a : Tmp} (h : fn.results = #[.cell a 4]) (tmps : Array Value) (w : World) (g : Nat) (x : Value) (ha : tmps.getD a undef = .pointer (some ⟨g, 0, none⟩)) (hb : w.cell? ⟨g, 0, none⟩ = some x) :
    (results fn tmps).run Tryz.prog w = .ok x w := by
  have ha' : tmps[a]?.getD undef = .pointer (some ⟨g, 0, none⟩) := by simpa using ha
  simp [results, h, go_sem, ha', hb]
set_option maxRecDepth 100000 in
set_option maxHeartbeats 8000000 in
theorem name_any (w : World) (hm : Mx w) (l : List UInt8) : Calls Tryz.prog 26 #[strV l] w fun e w' => e = .returned (.bool (Rf.nameOk l)) ∧ Below w.heap.size w w' := by
  by_cases hlen : l.length ≤ 60
  · have HQ := Lib.hid (show Rf.nameOk l = (Rf.comps l).all Rf.comp from by unfold Rf.nameOk; rw [decide_eq_true hlen]; rfl)
    have hl' : ¬ (60 : Int) < l.length := by omega
    have hsz : (⟨l.toArray⟩ : ByteArray).size = l.length := by simp [ByteArray.size]
    generalize Rf.nameOk l = q at *
    refine (callsIn_wide (n := 5)).1 ?_
    refine callsIn_of_wp_marks Tryz.func26 rfl trivial ?_ rfl
    simp only [Tryz.ntmps26, List.size_toArray, List.length_cons, List.length_nil, Nat.reduceAdd, Nat.reduceSub, Array.replicate_succ, Array.replicate_zero, List.push_toArray, List.append_toArray, List.nil_append, List.cons_append]
    gi_wp2_with (refine ⟨trivial, ?_⟩; gi_at_call 45; refine (SplitSeq_in _ (by omega) _ _).mono ?_; rintro e w' ⟨rfl, rfl⟩)
    have hsz0 : (w.alloc (.cells #[.bool false] 4)).heap.size = w.heap.size + 1 := by simp
    have hszS : (splW (w.alloc (.cells #[.bool false] 4)) l).heap.size = w.heap.size + 4 := by simp [splW]
    have bS : Below w.heap.size w (splW (w.alloc (.cells #[.bool false] 4)) l) := (below_alloc3 _ _ _ _).mono (by simp) |> (below_alloc1 w (.cells #[.bool false] 4)).trans
    have rS : Blk (splW (w.alloc (.cells #[.bool false] 4)) l) w.heap.size 4 #[.bool false] := ((((Blk.new w 4 #[.bool false]).alloc _).alloc _).alloc _ : _)
    refine wpIn_rangeFunc_B (F := Fence.wide) rfl (by omega : 1 ≤ 5) (gf := 90) (lb := splC (w.alloc (.cells #[.bool false] 4))) rfl trivial (enters_of Tryz.func90 (by kernel_rfl) rfl)
      (split_in (5 - 1) (by omega) (w.alloc (.cells #[.bool false] 4)) l hlen) (by rw [hszS, hsz0]; omega) (fun h1 h2 => Below.trans h1 h2)
      (fun W k o o' hk ho h1 h2 => belowK_b (w := splW (w.alloc (.cells #[.bool false] 4)) l) (by rw [hszS, hsz0]; omega) W k o o' hk ho h1 h2) (fun _ => rfl)
      (fun pre W => Hid (∀ x ∈ pre, Rf.comp x.1 = true) ∧ Below w.heap.size w W ∧ Blk W w.heap.size 4 #[.bool false] ∧ w.heap.size + 4 ≤ W.heap.size)
      (fun c pre W => Hid (∃ x ∈ pre, Rf.comp x.1 = false) ∧ c = .ret ∧ Below w.heap.size w W ∧ Blk W w.heap.size 4 #[.bool false])
      (fun s W W' row hs hg hr => ⟨hs.1, hs.2.1.grown hg hs.2.1.size (fun k e => by have := (hr k e).1; omega), hs.2.2.1.grown hg (fun e => by have := (hr _ e.symm).1; omega), Nat.le_trans hs.2.2.2 hg.size⟩)
      (fun c s W W' row hs hg hr => ⟨hs.1, hs.2.1, hs.2.2.1.grown hg hs.2.2.1.size (fun k e => by have := (hr k e).1; omega), hs.2.2.2.grown hg (fun e => by have := (hr _ e.symm).1; omega)⟩)
      (fun s W v hs => ⟨hs.1, hs.2.1.setCell (by simp) v, hs.2.2.1.far (by simp) v, by simpa [World.setCell] using hs.2.2.2⟩)
      (fun c s W v hs => ⟨hs.1, hs.2.1, hs.2.2.1.setCell (by simp) v, hs.2.2.2.far (by simp) v⟩)
      ⟨Lib.hid (fun x hx => by cases hx), bS, rS, by rw [hszS]; omega⟩
      (fun x : Cx => { tmps := #[strV l, undef, .pointer (some { block := w.heap.size, off := 0 }), strV x.1, strV l, .int .i64 l.length, .bool false, strV l, .func (Fn.func 90) #[] (splC (w.alloc (Obj.cells #[Value.bool false] 4))), strV x.1, undef, undef, undef], defers := [] })
      ?assign ?body ?done ?stop
    case assign =>
      intro lr x W K hK
      gi_wp2
      exact hK
    case body =>
      rintro lr pre ⟨x, hx60⟩ W ⟨hall, hbW, hrb, hz4⟩ hplt
      have hmW : Mx W := hm.below hbW
      obtain ⟨m, hm0⟩ := hmW
      have HCO := Lib.hid (component_any W x hx60 m hm0)
      have hsW := hbW.size
      clear hm0
      cases hc : Rf.comp x with
      | true =>
        rw [hc] at HCO
        have hall2 := Lib.hid (show ∀ y ∈ pre ++ [(⟨x, hx60⟩ : Cx)], Rf.comp y.1 = true from fun y hy => by
          rcases List.mem_append.1 hy with hy | hy
          · exact hall.out y hy
          · rw [List.mem_singleton.1 hy]; exact hc)
        clear hc hall
        gi_wp2_with (refine ⟨trivial, ?_⟩; gi_at_call 46; refine (CallsIn.inRound lr (callsIn_wide.2 HCO.out)).mono ?_; rintro e w' ⟨rfl, hb'⟩)
        have hz5 := hb'.size
        exact ⟨⟨hb'.size, fun k o hk _ => (hb'.block k (Array.getElem?_eq_some_iff.1 hk).1).trans hk⟩, hb'.mono (by rw [hsz0]; omega), hall2, hbW.trans (hb'.mono hsW), hrb.below hb' hrb.lt, by omega⟩
      | false =>
        rw [hc] at HCO
        have hex2 := Lib.hid (show ∃ y ∈ pre ++ [(⟨x, hx60⟩ : Cx)], Rf.comp y.1 = false from ⟨⟨x, hx60⟩, by simp, hc⟩)
        clear hc hall
        gi_wp2_with (refine ⟨trivial, ?_⟩; gi_at_call 46; refine (CallsIn.inRound lr (callsIn_wide.2 HCO.out)).mono ?_; rintro e w' ⟨rfl, hb'⟩; have hrb' := hrb.below hb' hrb.lt; have q0 : w'.cell? ⟨w.heap.size, 0, none⟩ = some (.bool false) := (hrb'.cell 0).trans rfl; have qf := hrb'.frozen 0)
        exact ⟨(KeepsOthers.trans ⟨hb'.size, fun k o hk _ => (hb'.block k (Array.getElem?_eq_some_iff.1 hk).1).trans hk⟩ (KeepsOthers.setCell _ _ _)), hex2, rfl, (hbW.trans (hb'.mono hsW)).setCell (by simp) _, by simpa using hrb'.set_ 0 (.bool false)⟩
    case done =>
      rintro D ys W hD hS ⟨hall, hbW, hrb, hz4⟩ hK
      have hq : Hid (q = true) := Lib.hid (by
        rw [HQ.out, List.all_eq_true]; intro x hx
        rw [← hS] at hx
        obtain ⟨y, hy, rfl⟩ := List.mem_map.1 hx
        exact hall.out y hy)
      have q0 : W.cell? ⟨w.heap.size, 0, none⟩ = some (.bool false) := (hrb.cell 0).trans rfl
      have hf := hrb.frozen 0
      have hlt := hrb.lt
      gi_wp2
      have hne : D ≠ w.heap.size := by omega
      refine ⟨by simp, .inl ⟨_, _, rfl, run_takeDeferred ((heap_setCell_ne W w.heap.size D (.bool true) hne).trans hK), ?_⟩⟩
      have hg := grownBy_putObj' (W.setCell ⟨w.heap.size, 0, none⟩ (.bool true)) D (.deferred none)
      have hr2 := (hrb.set_ 0 (.bool true)).grown hg (fun e => hne (by injection e with e; exact e.symm))
      have hb2 := (hbW.setCell (p := ⟨w.heap.size, 0, none⟩) (Nat.le_refl _) (.bool true)).grown hg (by simpa [World.setCell] using hbW.size) (fun k e => by injection e with e; omega)
      exact ⟨_, results_c4 rfl _ _ w.heap.size (.bool true) rfl ((hr2.cell 0).trans rfl), by rw [hq.out], hb2⟩
    case stop =>
      rintro D c pre W hD ⟨r, hr⟩ ⟨hex, rfl, hbW, hrb⟩ hK
      have hq : Hid (q = false) := Lib.hid (by
        obtain ⟨x, hx, hc⟩ := hex.out
        rw [HQ.out, List.all_eq_false]; exact ⟨x.1, by rw [hr]; exact List.mem_append_left _ (List.mem_map.2 ⟨x, hx, rfl⟩), by simp [hc]⟩)
      have hne : D ≠ w.heap.size := by omega
      gi_wp2
      refine ⟨by simp, .inl ⟨_, _, rfl, run_takeDeferred hK, ?_⟩⟩
      have hg := grownBy_putObj' W D (.deferred none)
      have hr2 := hrb.grown hg (fun e => hne (by injection e with e; exact e.symm))
      have hb2 := hbW.grown hg hbW.size (fun k e => by injection e with e; omega)
      exact ⟨_, results_c4 rfl _ _ w.heap.size (.bool false) rfl ((hr2.cell 0).trans rfl), by rw [hq.out], hb2⟩
  · have HQ : Hid (Rf.nameOk l = false) := Lib.hid (by unfold Rf.nameOk; rw [decide_eq_false hlen]; rfl)
    have hl' : (60 : Int) < l.length := by omega
    have hsz : (⟨l.toArray⟩ : ByteArray).size = l.length := by simp [ByteArray.size]
    generalize Rf.nameOk l = q at *
    clear hlen
    go_enter Tryz.func26, Tryz.ntmps26
    go_wp2
    refine bodyPost_ret (results_c4 rfl _ _ w.heap.size (.bool false) rfl ?_) rfl ⟨by rw [HQ.out], ?_⟩
    · simp
    · exact below_alloc1 _ _
end Go.Proofs.YtipjejnncnndeaaGreatDoor.RF
namespace Go.Proofs.YtipjejnncnndeaaGreatDoor.RF
open Go.RowKit Go.V Go.Shelf Go.Lib
set_option linter.unusedVariables false

theorem str_add (a b : List UInt8) : (⟨a.toArray⟩ : ByteArray) ++ ⟨b.toArray⟩ = ⟨(a ++ b).toArray⟩ := by
  apply ByteArray.ext
  simp
theorem hasPrefix_any (a b : List UInt8) (w : World) : Calls Tryz.prog 79 #[strV a, strV b] w fun e w' => e = .returned (.bool (Lib.hasPrefix a b)) ∧ w' = w := Tryz.strings_HasPrefix ⟨a.toArray⟩ ⟨b.toArray⟩ w
theorem compare_any (a b : List UInt8) (w : World) : Calls Tryz.prog 69 #[strV a, strV b] w fun e w' => e = .returned (.int .i64 (Lib.compareBytes a b)) ∧ w' = w := Tryz.strings_Compare ⟨a.toArray⟩ ⟨b.toArray⟩ w
set_option maxHeartbeats 4000000 in
theorem conflict_any (w : World) (a b : List UInt8) (ha : a.length ≤ 60) (hb : b.length ≤ 60) : Calls Tryz.prog 49 #[strV a, strV b] w fun e w' => e = .returned (.bool (Rf.conf a b)) ∧ w' = w := by
  have H1 := Lib.hid (hasPrefix_any a (b ++ [47]) w)
  have H2 := Lib.hid (hasPrefix_any b (a ++ [47]) w)
  have e1 : (⟨a.toArray⟩ : ByteArray) ++ ⟨#[47]⟩ = ⟨(a ++ [47]).toArray⟩ := str_add a [47]
  have e2 : (⟨b.toArray⟩ : ByteArray) ++ ⟨#[47]⟩ = ⟨(b ++ [47]).toArray⟩ := str_add b [47]
  have s1 : (⟨a.toArray⟩ : ByteArray).size = a.length := by simp [ByteArray.size]
  have s2 : (⟨b.toArray⟩ : ByteArray).size = b.length := by simp [ByteArray.size]
  have HQ := Lib.hid (show Rf.conf a b = (Lib.hasPrefix a (b ++ [47]) || Lib.hasPrefix b (a ++ [47])) from rfl)
  generalize Rf.conf a b = q at *
  cases h : Lib.hasPrefix a (b ++ [47]) with
  | true =>
    rw [h] at H1
    have HQ2 : Hid (q = true) := Lib.hid (by rw [HQ.out, h]; rfl)
    clear h HQ
    go_enter Tryz.func49, Tryz.ntmps49
    go_wp2_with (first | (go_at_call 79; with_reducible refine H1.out.mono ?_; rintro e w' ⟨rfl, rfl⟩))
    go_ret
    exact ⟨by rw [HQ2.out]; rfl, rfl⟩
  | false =>
    rw [h] at H1
    have HQ2 : Hid (q = Lib.hasPrefix b (a ++ [47])) := Lib.hid (by rw [HQ.out, h]; rfl)
    clear h HQ
    generalize Lib.hasPrefix b (a ++ [47]) = q2 at *
    go_enter Tryz.func49, Tryz.ntmps49
    go_wp2_with (first | (go_at_call 79; with_reducible refine H1.out.mono ?_; rintro e w' ⟨rfl, rfl⟩) | (go_at_call 79; with_reducible refine H2.out.mono ?_; rintro e w' ⟨rfl, rfl⟩))
    go_ret
    exact ⟨by rw [HQ2.out]; rfl, rfl⟩
theorem clash1_any (w : World) (nm : List UInt8) (t : Int) (Bx : Nat) (n : List UInt8) (hB : w.cell? ⟨Bx, 0, none⟩ = some (strV n)) (ha : nm.length ≤ 60) (hn : n.length ≤ 60) :
    Calls Tryz.prog 48 #[.agg #[strV nm, .int .i64 t], .pointer (some ⟨Bx, 0, none⟩)] w fun e w' => e = .returned (.bool (Rf.conf nm n)) ∧ Below w.heap.size w w' := by
  have hlt := World.block_lt_of_cell? w _ hB
  have HC := Lib.hid (conflict_any (w.alloc (.cells #[strV nm, .int .i64 t] 41)) nm n ha hn)
  go_enter Tryz.func48, Tryz.ntmps48
  go_wp2_with (first | (go_at_call 49; with_reducible refine HC.out.mono ?_; rintro e w' ⟨rfl, rfl⟩))
  go_ret
  exact ⟨rfl, below_alloc1 _ _⟩
theorem any_take {α : Type} {p : α → Bool} {s : List α} {i : Nat} (h : (s.take i).any p = false) (hi : i < s.length) (hp : p s[i] = false) : (s.take (i + 1)).any p = false := by
  rw [List.take_succ_eq_append_getElem hi, List.any_append, h]; simp [hp]
set_option maxRecDepth 100000 in
set_option maxHeartbeats 8000000 in
theorem indexFunc_any (w : World) (A : Option Addr) (k : Nat) (s : List Rf.R) (Bx : Nat) (n : List UInt8) (hB : w.cell? ⟨Bx, 0, none⟩ = some (strV n)) (hv : SA w Free A (rsV s)) (hl : s.length ≤ 1000000) (hs : ∀ x ∈ s, x.name.length ≤ 60) (hn : n.length ≤ 60) :
    Calls Tryz.prog 78 #[.slice A s.length k, .func (.func 48) #[] #[.pointer (some ⟨Bx, 0, none⟩)]] w fun e w' => ∃ i : Int, e = .returned (.int .i64 i) ∧ decide (0 ≤ i) = s.any (fun r => Rf.conf r.name n) ∧ Below w.heap.size w w' := by
  have hlt := World.block_lt_of_cell? w _ hB
  have HROW := Lib.hid (fun (w' : World) (hb : Below w.heap.size w w') i hi => rsV_row (hv.keep (free_below hb)) i hi)
  have HBX := Lib.hid (fun (w' : World) (hb : Below w.heap.size w w') => (hb.cell (p := ⟨Bx, 0, none⟩) hlt).trans hB)
  have HS := Lib.hid hs
  clear hv hs hB
  go_enter Tryz.func78, Tryz.ntmps78
  go_wp2_with fail
  go_loopw [8] (fun iv wr => ∃ i : Nat, i ≤ s.length ∧ iv = .int .i64 i ∧ Hid ((s.take i).any (fun r => Rf.conf r.name n) = false) ∧ Below w.heap.size w wr) (fun iv _ => s.length - (intOf iv).toNat)
  case atStart => exact ⟨0, Nat.zero_le _, rfl, Lib.hid (by simp), Below.refl _ _⟩
  case round =>
    obtain ⟨i, hi, rfl, H, hbw⟩ := hrel
    by_cases hlt2 : i < s.length
    · have hlt' : (i : Int) < s.length := by omega
      obtain ⟨b, off, e, hb, _, d0, d1⟩ := HROW.out _ hbw i hlt2
      subst e
      have hnm := HS.out _ (List.getElem_mem hlt2)
      rw [Rf.it_eq s i hlt2] at hnm
      have HC := Lib.hid (clash1_any wr (Rf.it s i).name (Rf.it s i).tgt Bx n (HBX.out _ hbw) hnm hn)
      have HN : Hid (Rf.conf (Rf.it s i).name n = false → (s.take (i + 1)).any (fun r => Rf.conf r.name n) = false) := Lib.hid fun h => any_take H.out hlt2 (by rw [Rf.it_eq s i hlt2]; exact h)
      have HY : Hid (Rf.conf (Rf.it s i).name n = true → s.any (fun r => Rf.conf r.name n) = true) := Lib.hid fun h => by
        rw [List.any_eq_true]; exact ⟨s[i], List.getElem_mem hlt2, by rw [Rf.it_eq s i hlt2]; exact h⟩
      clear hnm
      generalize Rf.it s i = x at *
      cases hc : Rf.conf x.name n with
      | false =>
        rw [hc] at HC
        have HN2 := Lib.hid (HN.out hc)
        clear hc HN HY
        go_wp2_with (first | (go_at_call 48; with_reducible refine HC.out.mono ?_; rintro e w' ⟨rfl, hb'⟩; have hbw' := hbw.trans (hb'.mono hbw.size)))
        go_roundw
        case rel => exact ⟨i + 1, by omega, by go_num, HN2, hbw'⟩
        case measure => simp [intOf]; omega
      | true =>
        rw [hc] at HC
        have HY2 := Lib.hid (HY.out hc)
        clear hc HN HY
        go_wp2_with (first | (go_at_call 48; with_reducible refine HC.out.mono ?_; rintro e w' ⟨rfl, hb'⟩; have hbw' := hbw.trans (hb'.mono hbw.size)))
        go_ret
        exact ⟨(i : Int), rfl, by rw [HY2.out]; simp, hbw'⟩
    · obtain rfl : i = s.length := by omega
      have H2 := Lib.hid (show s.any (fun r => Rf.conf r.name n) = false from by have := H.out; rwa [List.take_length] at this)
      go_wp2_with fail
      go_ret
      exact ⟨-1, rfl, by rw [H2.out]; rfl, hbw⟩
theorem containsFunc_any (w : World) (A : Option Addr) (k : Nat) (s : List Rf.R) (Bx : Nat) (n : List UInt8) (hB : w.cell? ⟨Bx, 0, none⟩ = some (strV n)) (hv : SA w Free A (rsV s)) (hl : s.length ≤ 1000000) (hs : ∀ x ∈ s, x.name.length ≤ 60) (hn : n.length ≤ 60) :
    Calls Tryz.prog 47 #[.slice A s.length k, .func (.func 48) #[] #[.pointer (some ⟨Bx, 0, none⟩)]] w fun e w' => e = .returned (.bool (s.any (fun r => Rf.conf r.name n))) ∧ Below w.heap.size w w' := by
  have HI := Lib.hid (indexFunc_any w A k s Bx n hB hv hl hs hn)
  clear hv hs hB
  generalize s.any (fun r => Rf.conf r.name n) = q at *
  go_enter Tryz.func47, Tryz.ntmps47
  go_wp2_with (first | (go_at_call 78; with_reducible refine HI.out.mono ?_; rintro e w' ⟨i, rfl, hi, hb'⟩))
  go_ret
  exact ⟨by rw [← hi]; rfl, hb'⟩
theorem clash_any (w : World) (A : Option Addr) (k : Nat) (s : List Rf.R) (n : List UInt8) (hv : SA w Free A (rsV s)) (hl : s.length ≤ 1000000) (hs : ∀ x ∈ s, x.name.length ≤ 60) (hn : n.length ≤ 60) :
    Calls Tryz.prog 28 #[.slice A s.length k, strV n] w fun e w' => e = .returned (.bool (s.any (fun r => Rf.conf r.name n))) ∧ Below w.heap.size w w' := by
  have HI := Lib.hid (containsFunc_any (w.alloc (.cells #[strV n] 9)) A k s w.heap.size n (((Blk.new w 9 #[strV n]).cell 0).trans rfl) (hv.keep (Keeps.alloc _ _ _)) hl hs hn)
  clear hv hs
  generalize s.any (fun r => Rf.conf r.name n) = q at *
  go_enter Tryz.func28, Tryz.ntmps28
  go_wp2_with (first | (go_at_call 47; with_reducible refine HI.out.mono ?_; rintro e w' ⟨rfl, hb'⟩))
  go_ret
  exact ⟨rfl, (below_alloc1 w _).trans (hb'.mono (by simp))⟩
end Go.Proofs.YtipjejnncnndeaaGreatDoor.RF
