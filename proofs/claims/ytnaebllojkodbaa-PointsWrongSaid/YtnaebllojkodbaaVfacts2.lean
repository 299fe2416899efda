/-
  More facts of the loaded program: the elements of what is stored. Printed by gen.py.
-/
import Derived.Test.YtnaebllojkodbaaVfacts
import Derived.Test.YtnaebllojkodbaaVmem3
namespace Go.Proofs.Ytnaebllojkodbaa.V
open Go
theorem elem22 : Elem Try.prog 22 1 8 (.int .i64 0) := ⟨by kernel_rfl⟩
theorem elem27 : Elem Try.prog 27 1 24 (.slice none 0 0) := ⟨by kernel_rfl⟩
theorem elem72 : Elem Try.prog 72 15 15 (.agg #[.bool false, .bool false, .bool false, .bool false, .bool false, .bool false, .bool false, .bool false, .bool false, .bool false, .bool false, .bool false, .bool false, .bool false, .bool false]) := ⟨by kernel_rfl⟩
end Go.Proofs.Ytnaebllojkodbaa.V
