/-
  Regions in which a round of a range over a function is asked for: the walk in the widest fence.
-/
import Derived.Test.YtnaebllojkodbaaVtree
import Derived.RangeFuncSeq
import Derived.TacticsIn
namespace Go.Proofs.Ytnaebllojkodbaa.V
open Go Go.RowKit

section
variable {P : Program} {n m : Nat} {ops : Array Oper} {K : Loc → World → Prop} {L : Loc} {w : World} {o : Oper} {rest : List Oper}
def LSI (m : Nat) (P : Program) (n : Nat) (ops : Array Oper) (K : Loc → World → Prop) (l : List Oper) (L : Loc) (w : World) : Prop :=
  ∀ a, Know n L a → wpListIn Fence.wide m P ops (fun e a' w' => e = .normal ∧ ∃ L', Know n L' a' ∧ K L' w') l a w
theorem LSI.nil (h : K L w) : LSI m P n ops K [] L w := fun _ ha => ⟨rfl, L, ha, h⟩
theorem in_of_wp {a : Act} {next : Act → World → Prop} {Q : Exit → Act → World → Prop} (hrow : ∀ row args w', (execOp a.eval o).run P w ≠ .ok (.row row args) w') (h : o.wp P a w next Q) : o.wpIn Fence.wide m P a w next Q := by
  unfold Oper.wp at h
  unfold Oper.wpIn
  refine ⟨fun _ _ => trivial, ?_⟩
  rw [show Fence.wide.round = none from rfl, Oper.semAt_none]
  generalize (execOp a.eval o).run P w = r at h hrow
  cases r with
  | ok x w' =>
    cases x with
    | value v => exact h
    | skip => exact h
    | defer d => exact h
    | enter f args => exact ⟨fun h9 => by simp [Fence.wide] at h9, callsIn_wide.2 h⟩
    | row row args => exact absurd rfl (hrow row args w')
    | _ => exact h.elim
  | halt x w' =>
    cases x with
    | panic v => exact h
    | _ => exact h.elim
theorem W.regI {id : Nat} {l : List Oper} {Q : Post} (h : LSI m P n l.toArray (fun L w => Q .normal L w) l L w) : W P n (.region id l.toArray false) Q L w :=
  fun a ha => wpIn_wide.1 (wpIn_mono (wpIn_region_lit (h a ha)) fun e a' w' q => by
    obtain ⟨rfl, L', hk, hy⟩ := q
    exact ⟨L', hk, hy⟩)
theorem wpListIn_mono' {Q : Exit → Act → World → Prop} {l : List Oper} {a a' : Act} {w w' : World} (h : wpListIn Fence.wide m P ops Q l a w) (e1 : a = a') (e2 : w = w') : wpListIn Fence.wide m P ops Q l a' w' := by subst e1; subst e2; exact h
/-- a value -/
theorem LSI.v {d : Nat} {v : Value} (hg : o.guard = none) (hd : o.dst = some d) (hlt : d < n) (hv : Val P (fun _ => True) o.op L v) (h : LSI m P n ops K rest ((d, v) :: L) w) : LSI m P n ops K (o :: rest) L w := by
  intro a ha
  unfold wpListIn
  rw [if_pos (by simp [Region.wanted, hg])]
  have hr := hv a.eval (fun e => ha.ev e) w trivial o.dst o.type o.pos o.after o.guard
  rw [show (⟨o.dst, o.op, o.type, o.pos, o.after, o.guard⟩ : Oper) = o from rfl] at hr
  refine ⟨fun _ _ => trivial, ?_⟩
  rw [show Fence.wide.round = none from rfl, Oper.semAt_none, hr, Oper.uponIn_value, hd]
  exact h _ (ha.put hlt v)
/-- a value that memory tells -/
theorem LSI.l {d : Nat} {v : Value} {S : World → Prop} (hg : o.guard = none) (hd : o.dst = some d) (hlt : d < n) (hv : Val P S o.op L v) (hS : S w) (h : LSI m P n ops K rest ((d, v) :: L) w) : LSI m P n ops K (o :: rest) L w := by
  intro a ha
  unfold wpListIn
  rw [if_pos (by simp [Region.wanted, hg])]
  have hr := hv a.eval (fun e => ha.ev e) w hS o.dst o.type o.pos o.after o.guard
  rw [show (⟨o.dst, o.op, o.type, o.pos, o.after, o.guard⟩ : Oper) = o from rfl] at hr
  refine ⟨fun _ _ => trivial, ?_⟩
  rw [show Fence.wide.round = none from rfl, Oper.semAt_none, hr, Oper.uponIn_value, hd]
  exact h _ (ha.put hlt v)
theorem yield_mono {l : Nat} {args : Array Value} {W : World} {R R' : Ending → World → Prop} (h : YieldAt Fence.wide m P l args W R) (hr : ∀ e w, R e w → R' e w) : YieldAt Fence.wide m P l args W R' := by
  obtain ⟨a, b, c, d, h1, h2⟩ := h
  exact ⟨a, b, c, d, h1, h2.mono hr⟩
/-- a round is asked for -/
theorem LSI.yield {d l : Nat} {f x : Operand} {u : Value} {tys : Array TypeId} (hg : o.guard = none) (hop : o.op = .call { callee := .value f, args := #[x], argTypes := tys }) (hd : o.dst = some d) (hlt : d < n)
    (hf : ev L f = some (.func (.yield l) #[] #[])) (hx : ev L x = some u)
    (hY : YieldAt Fence.wide (m - 1) P l #[u] w (fun e w' => ∃ v, e = .returned v ∧ LSI m P n ops K rest ((d, v) :: L) w')) : LSI m P n ops K (o :: rest) L w := by
  intro a ha
  unfold wpListIn
  rw [if_pos (by simp [Region.wanted, hg])]
  obtain ⟨fn, tmps, assign, body, hy, hR⟩ := hY
  have e1 := ha.ev hf
  have e2 := ha.ev hx
  have hr : (execOp a.eval o).run P w = .ok (.round l fn tmps assign body) w := by
    have hargs : (#[x] : Array Operand).map a.eval = #[u] := by
      rw [← e2]; exact Array.map_singleton ..
    simp only [execOp, hop, resolve, hargs, e1, Deferred.ofValue]
    have hi : (invoke (.fn (.yield l) #[]) (#[] ++ #[u])).run P w = .ok (.round l fn tmps assign body) w := by
      show (Instr.yield l (#[] ++ #[u])).run P w = _
      rw [show (#[] ++ #[u] : Array Value) = #[u] from rfl]
      exact hy
    simp only [Sem.run_bind, Sem.run_pure, Result.andThen]
    exact hi
  refine ⟨fun _ _ => trivial, ?_⟩
  rw [show Fence.wide.round = none from rfl, Oper.semAt_none, hr, Oper.uponIn_round]
  refine ⟨fun h9 => by simp [Fence.wide] at h9, RoundIn.mono hR ?_⟩
  rintro e w' ⟨v, rfl, h⟩
  show wpListIn _ _ _ _ _ _ _ _
  rw [hd]
  exact h _ (ha.put hlt v)
theorem W.seqI {id : Nat} {l : List Oper} {y : Code} {Q : Post} (h : LSI m P n l.toArray (fun L w => W P n y Q L w) l L w) : W P n (.seq (.region id l.toArray false) y) Q L w :=
  W.seq (W.regI h)
end
end Go.Proofs.Ytnaebllojkodbaa.V
