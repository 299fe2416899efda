/-
  More facts of the loaded program: the elements of what is stored. Printed by gen.py.
-/
import Derived.Test.YtbbmgcmibgdkiaaVfacts
import Derived.Test.YtbbmgcmibgdkiaaVmem3
namespace Go.Proofs.Ytbbmgcmibgdkiaa.V
open Go
theorem elem78 : Elem Try.prog 78 2 2 (.agg #[.bool false, .bool false]) := ⟨by kernel_rfl⟩
theorem elem79 : Elem Try.prog 79 2 2 (.agg #[.bool false, .bool false]) := ⟨by kernel_rfl⟩
theorem elem82 : Elem Try.prog 82 2 32 (.agg #[.slice none 0 0, .int .i64 0]) := ⟨by kernel_rfl⟩
end Go.Proofs.Ytbbmgcmibgdkiaa.V
