/-
  Functions whose only result stands in a block; arrays of two as values.
-/
import Derived.Test.YtbfcmfjdjldepaaVz4
import Derived.Test.YtbfcmfjdjldepaaVbuild
namespace Go.Proofs.Ytbfcmfjdjldepaa.V
open Go Go.RowKit

section
variable {P : Program} {S : World → Prop} {L : Loc} {x y : Operand} {n : Nat} {w : World} {R : Value → World → Prop}
theorem results_cell1 {fn : Func} {p : Tmp} {ty : TypeId} (h : fn.results = #[.cell p ty]) (tmps : Array Value) (P : Program) (w : World) :
    (results fn tmps).run P w = ((asAddr (tmps.getD p undef)).run P w).andThen fun a w₁ => (loadVar ty a).run P w₁ := by
  simp only [results, h]
  simp [Sem.run_bind, Result.andThen]
def resultsC1 (P : Program) (t : Nat) (ty : TypeId) (R : Value → World → Prop) : Post := fun e L w => (e = .normal ∨ e = .ret) ∧ ∃ g k xs, look L t = some (.pointer (some ⟨g, 0, none⟩)) ∧ Agg P ty k ∧ Rd w (some ⟨g, 0, none⟩) xs ∧ xs.length = k ∧ 0 < k ∧ R (.agg xs.toArray) w
theorem retC1 {e : Exit} {t k g : Nat} {ty : TypeId} {xs : List Value} (he : e = .normal ∨ e = .ret) (ht : look L t = some (.pointer (some ⟨g, 0, none⟩))) (hA : Agg P ty k) (hr : Rd w (some ⟨g, 0, none⟩) xs) (hk : xs.length = k) (h0 : 0 < k)
    (h : R (.agg xs.toArray) w) : resultsC1 P t ty R e L w := ⟨he, g, k, xs, ht, hA, hr, hk, h0, h⟩
theorem enterC1 {f : FuncId} {fn : Func} {c : Code} {args : List Value} {t : Nat} {ty : TypeId} (hf : P.funcs[f]? = some fn) (hb : fn.body = some c) (hn : fn.ntmps = n) (hl : args.length ≤ n)
    (hr : fn.results = #[.cell t ty]) (h : W P n c (resultsC1 P t ty R) (argLoc 0 args) w) : CallsV P f args.toArray w R := by
  refine enter_gen hf hb hn hl (fun e L a w ha q => ?_) h
  obtain ⟨he, g, k, xs, ht, hA, hrd, hk, h0, hR⟩ := q
  have hrun : (results fn a.tmps).run P w = .ok (.agg xs.toArray) w := by
    rw [results_cell1 hr, ha.at_ t _ ht]
    have hl := run_loadAgg hA (p := some ⟨g, 0, none⟩) (j := 0) hrd (by rw [List.drop_zero, List.take_of_length_le (by omega)]) hk h0
    rw [Option.map_some, Addr.add_lit] at hl
    have hl2 : (loadVar ty ⟨g, 0, none⟩).run P w = .ok (.agg xs.toArray) w := by
      simpa only [Instr.loadAt, Instr.sureAddr, Sem.run_bind, Sem.run_pure, Result.andThen_ok] using hl
    simp only [asAddr, Sem.run_pure, Result.andThen_ok, hl2]
  have : a.defers = [] ∧ ∃ v, (results fn a.tmps).run P w = .ok v w ∧ ∃ v', Ending.returned v = .returned v' ∧ R v' w := ⟨ha.def0, _, hrun, _, rfl, hR⟩
  rcases he with rfl | rfl <;> exact this
end
section
variable {P : Program} {S : World → Prop} {L : Loc} {x y : Operand} {t e : TypeId}
theorem fill_b2 (a b : Bool) : Instr.fill (fun i => some (i * 1, 1)) (Value.agg #[.bool false, .bool false]).cells [(0, .bool a), (1, .bool b)] = some [.bool a, .bool b].toArray := by rfl
theorem Val.indexV2 {j : Nat} {k : IntKind} {u v : Value} {bytes : Nat} {z0 : Value} (ht : P.underlying t = some (.array 2 e)) (hE : Elem P e 1 bytes z0) (hag : ∀ w, (isAgg e).run P w = .ok false w)
    (h1 : ev L x = some (.agg #[u, v])) (h2 : ev L y = some (.int k (j : Int))) (hj : j < 2) :
    Val P S (.index t x y) L (if j = 0 then u else v) := by
  intro ρ ha w _ dst ty pos after guard
  have e1 := ha h1; have e2 := ha h2
  obtain ⟨i, hi, hz, hs, _⟩ := hE.parts
  have hj2 : j = 0 ∨ j = 1 := by omega
  rcases hj2 with rfl | rfl <;> simp [execOp, e1, e2, Instr.index, asIntOf, run_underlying ht, run_sizeOf hi, hs, part, hag, go_sem]
end
end Go.Proofs.Ytbfcmfjdjldepaa.V
