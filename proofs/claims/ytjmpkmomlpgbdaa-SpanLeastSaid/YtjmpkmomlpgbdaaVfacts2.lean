/-
  More facts of the loaded program: the elements of what is stored. Printed by gen.py.
-/
import Derived.Test.YtjmpkmomlpgbdaaVfacts
import Derived.Test.YtjmpkmomlpgbdaaVmem3
namespace Go.Proofs.Ytjmpkmomlpgbdaa.V
open Go
theorem elem89 : Elem Try.prog 89 1 8 (.int .u64 0) := ⟨by kernel_rfl⟩
end Go.Proofs.Ytjmpkmomlpgbdaa.V
