/-
  More operations: min, max of two integers.
-/
import Derived.Test.YtnaebllojkodbaaVbase
namespace Go.Proofs.Ytnaebllojkodbaa.V
open Go Go.RowKit
section
variable {P : Program} {S : World → Prop} {L : Loc} {x y : Operand} {k : IntKind} {ts : Array TypeId}
theorem Val.min {i j : Int} (h1 : ev L x = some (.int k i)) (h2 : ev L y = some (.int k j)) :
    Val P S (.call { callee := .builtin .min, args := #[x, y], argTypes := ts }) L (.int k (if j < i then j else i)) := by
  intro ρ ha w _ dst ty pos after guard
  have e1 := ha h1
  have e2 := ha h2
  simp [Builtin.min_, Builtin.min2, e1, e2, go_sem]
theorem Val.max {i j : Int} (h1 : ev L x = some (.int k i)) (h2 : ev L y = some (.int k j)) :
    Val P S (.call { callee := .builtin .max, args := #[x, y], argTypes := ts }) L (.int k (if i < j then j else i)) := by
  intro ρ ha w _ dst ty pos after guard
  have e1 := ha h1
  have e2 := ha h2
  simp [Builtin.max_, Builtin.max2, e1, e2, go_sem]
theorem Val.minN {i j : Nat} (h1 : ev L x = some (.int k (i : Int))) (h2 : ev L y = some (.int k (j : Int))) :
    Val P S (.call { callee := .builtin .min, args := #[x, y], argTypes := ts }) L (.int k ((Min.min i j : Nat) : Int)) := by
  refine Val.cast (Val.min h1 h2) (congrArg (Value.int k) ?_)
  split <;> omega
theorem Val.maxN {i j : Nat} (h1 : ev L x = some (.int k (i : Int))) (h2 : ev L y = some (.int k (j : Int))) :
    Val P S (.call { callee := .builtin .max, args := #[x, y], argTypes := ts }) L (.int k ((Max.max i j : Nat) : Int)) := by
  refine Val.cast (Val.max h1 h2) (congrArg (Value.int k) ?_)
  split <;> omega
end
end Go.Proofs.Ytnaebllojkodbaa.V
