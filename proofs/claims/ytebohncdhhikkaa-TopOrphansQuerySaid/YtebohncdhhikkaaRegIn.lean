/-
  A region that draws its order inside a round of a range over a function: where all its operations are plain (no call), what is shown outside a fence holds inside.
-/
import Derived.StillTailTactics
import Derived.OrdersIn
import Derived.TacticsIn
import Derived.KernelRfl
namespace Go.V

/-- An operation that calls nothing. -/
def plainB (o : Oper) : Bool :=
  match o.op with
  | .move _ | .assign _ | .pick _ _ _ | .load _ _ | .store _ _ _ | .fieldAddr _ _ _ | .indexAddr _ _ _ | .binOp _ _ _ _ _ | .unOp _ _ _ => true
  | _ => false

theorem plain_run {P : Program} {o : Oper} (hp : plainB o = true) (ρ : Operand → Value) (w : World) :
    (∃ v w', (execOp ρ o).run P w = .ok (.value v) w') ∨ (∃ w', (execOp ρ o).run P w = .ok .skip w') ∨ ∃ x w', (execOp ρ o).run P w = .halt x w' := by
  have hv : ∀ s : Sem Value, (∃ v w', ((do pure (Next.value (← s)) : Sem Next)).run P w = .ok (.value v) w') ∨ (∃ w', ((do pure (Next.value (← s)) : Sem Next)).run P w = .ok .skip w') ∨ ∃ x w', ((do pure (Next.value (← s)) : Sem Next)).run P w = .halt x w' := by
    intro s
    simp only [Sem.run_bind, Sem.run_pure]
    cases h : s.run P w with
    | ok v w' => exact .inl ⟨v, w', rfl⟩
    | halt x w' => exact .inr (.inr ⟨x, w', rfl⟩)
  have hu : ∀ s : Sem Unit, (∃ v w', ((do s; pure Next.skip : Sem Next)).run P w = .ok (.value v) w') ∨ (∃ w', ((do s; pure Next.skip : Sem Next)).run P w = .ok .skip w') ∨ ∃ x w', ((do s; pure Next.skip : Sem Next)).run P w = .halt x w' := by
    intro s
    simp only [Sem.run_bind, Sem.run_pure]
    cases h : s.run P w with
    | ok v w' => exact .inr (.inl ⟨w', rfl⟩)
    | halt x w' => exact .inr (.inr ⟨x, w', rfl⟩)
  unfold plainB at hp
  unfold execOp
  cases ho : o.op <;> rw [ho] at hp <;> first | cases hp | skip
  all_goals simp only
  case move x => exact .inl ⟨_, _, rfl⟩
  case assign x => exact .inl ⟨_, _, rfl⟩
  case pick c x y =>
    simp only [Sem.run_bind, Sem.run_pure]
    cases h : (asBool (ρ c)).run P w with
    | ok v w' => exact .inl ⟨_, w', rfl⟩
    | halt x w' => exact .inr (.inr ⟨x, w', rfl⟩)
  all_goals first | exact hv _ | exact hu _

theorem plain_about {P : Program} {o : Oper} (hp : plainB o = true) (w : World) (ρ : Operand → Value) : o.about P w ρ = none := by
  unfold plainB at hp
  unfold Oper.about
  cases ho : o.op with
  | call c => rw [ho] at hp; simp at hp
  | _ => rfl
/-- The region's end alone. -/
def NQ (K : Act → World → Prop) : Exit → Act → World → Prop
  | .normal => K
  | _ => fun _ _ => False
section
variable {F : Fence} {n : Nat} {P : Program} {ops : Array Oper} {Q : Exit → Act → World → Prop} {md : Region.Mode}
theorem plain_wpIn {o : Oper} (hp : plainB o = true) {a : Act} {w : World} {K : Act → World → Prop} (h : o.wp P a w K Q) : o.wpIn F n P a w K Q := by
  have hd : ∀ c, o.op ≠ .defer c := fun c e => by unfold plainB at hp; rw [e] at hp; cases hp
  have ha : ∀ f, o.about P w a.eval = some f → F.fn f := fun f hf => by
    exact absurd hf (by rw [plain_about hp]; simp)
  unfold Oper.wp at h
  refine ⟨ha, ?_⟩
  rw [Oper.semAt_eq _ _ _ hd]
  rcases plain_run (P := P) hp a.eval w with ⟨v, w', e⟩ | ⟨w', e⟩ | ⟨x, w', e⟩
  · rw [e] at h ⊢; exact h
  · rw [e] at h ⊢; exact h
  · rw [e] at h ⊢
    cases x <;> first | exact h | exact h.elim
theorem plain_wpOpIn {i : Nat} (hp : ∀ o, ops[i]? = some o → plainB o = true) {a : Act} {w : World} {K K' : Act → World → Prop} (hK : ∀ a w, K a w → K' a w) (hQ : ¬ LetsOut Q) (h : wpOp P ops Q i K a w) : wpOpIn F n P ops Q i K' a w := by
  refine wpOpIn_mono hK ?_
  unfold wpOp at h
  unfold wpOpIn
  cases ho : ops[i]? with
  | none => rw [ho] at h; exact h
  | some o =>
    rw [ho] at h
    simp only at h ⊢
    have hp' := hp o ho
    by_cases hw : Region.wanted o (yielded ops a.tmps) = true
    · rw [if_pos hw] at h ⊢
      rcases h with h | ⟨_, h⟩
      · exact plain_wpIn hp' h
      · exact absurd h hQ
    · rw [if_neg hw] at h ⊢
      exact ⟨fun f hf => absurd hf (by rw [plain_about hp']; simp), h⟩
theorem plain_wpAnyIn (hQ : ¬ LetsOut Q) (hp : ∀ (i : Nat) o, ops[i]? = some o → plainB o = true) : ∀ (f : Nat) (listed : Array Bool) (a : Act) (w : World), wpAny P md ops Q f listed a w → wpAnyIn F n P md ops Q f listed a w
  | 0, _, _, _, h => h
  | f + 1, _, _, _, h => ⟨h.1, fun i hi => plain_wpOpIn (hp i) (fun a w hh => plain_wpAnyIn hQ hp f _ a w hh) hQ (h.2 i hi)⟩

/-- Reads alone, then the rest in its one order: inside a fence. -/
theorem wpIn_region_reads {id : Nat} {a : Act} {w : World} {l : List Oper} (k : Nat) (hm : P.follows .mixedOrders = true) (hp : (l.all plainB) = true) (hB : Region.lexTailB .any l.toArray k = true)
    (h : wpStill P l.toArray { w with drawn := w.drawn + 1 } (fun a' => wpList P l.toArray (NQ (Q .normal)) (l.drop k) a' { w with drawn := w.drawn + 1 }) (l.take k) a) : (Code.region id l.toArray true).wpIn F n P Q a w := by
  refine Code.wpIn_mono (Q := NQ (Q .normal)) (fun e a w hh => by cases e <;> first | exact hh | exact hh.elim) ?_
  refine wpIn_region_any hm (plain_wpAnyIn (fun hh => by obtain ⟨_, _, hh⟩ := hh; exact hh) (fun i o ho => List.all_eq_true.1 hp o (List.mem_of_getElem? (i := i) (by simpa using ho))) _ _ _ _ ?_)
  unfold Region.lexTailB at hB
  rw [Bool.and_eq_true, Bool.and_eq_true, Bool.and_eq_true, Bool.and_eq_true] at hB
  have hk : k < l.length := by simpa using hB.1.1.1.2
  have e1 : (l.take k).length = k := List.length_take_of_le (by omega)
  have e2 : (l.drop k).length = l.length - k := List.length_drop
  have start : HeadInv .any l.toArray k (Array.replicate l.toArray.size false) := by
    refine ⟨by simp, fun j oj _ hl => ?_, fun t _ ht => ?_⟩
    · rw [getD_replicate_false] at hl; cases hl
    · exact getD_in (by simpa using ht) (getD_replicate_false _ _)
  have hd : l.toArray.size = (l.take k).length + (l.length - k) := by rw [e1]; simp; omega
  have begin_ := wpAnyL_lex (md := .any) (g := l.length - k) hB.1.1.1.1 hB.1.1.2 hB.1.2 (by simpa using hk) (l.take k) 0 _ a
    (fun j hj => by simp [Nat.lt_of_lt_of_eq hj e1]) (by rw [e1, Nat.zero_add]) start (by rw [e1]; simpa using hB.2) h
  have fin := wpAny_of_head (Q' := NQ (Q .normal)) (g := l.length - k) (fun listed a' hL => by
    have := wpAny_of_seq (md := .any) (Q' := NQ (Q .normal)) (l.drop k) k listed a' { w with drawn := w.drawn + 1 } (fun j => by simp [List.getElem?_drop]) (by rw [e2]; exact hL.1) hL.2
    rwa [e2] at this) _ _ _ begin_
  rw [← hd] at fin
  exact fin
end
end Go.V
