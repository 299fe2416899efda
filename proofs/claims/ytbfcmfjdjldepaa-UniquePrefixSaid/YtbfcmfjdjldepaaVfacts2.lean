/-
  More facts of the loaded program: the elements of what is stored. Printed by gen.py.
-/
import Derived.Test.YtbfcmfjdjldepaaVfacts
import Derived.Test.YtbfcmfjdjldepaaVmem3
namespace Go.Proofs.Ytbfcmfjdjldepaa.V
open Go
theorem elem28 : Elem Try.prog 28 1 24 (.slice none 0 0) := ⟨by kernel_rfl⟩
end Go.Proofs.Ytbfcmfjdjldepaa.V
