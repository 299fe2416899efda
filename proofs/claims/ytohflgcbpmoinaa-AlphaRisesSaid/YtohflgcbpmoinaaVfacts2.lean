/-
  More facts of the loaded program: the elements of what is stored. Printed by gen.py.
-/
import Derived.Test.YtohflgcbpmoinaaVfacts
import Derived.Test.YtohflgcbpmoinaaVmem3
namespace Go.Proofs.Ytohflgcbpmoinaa.V
open Go
theorem elem45 : Elem Try.prog 45 1 24 (.slice none 0 0) := ⟨by kernel_rfl⟩
theorem elem47 : Elem Try.prog 47 2 48 (.agg #[.slice none 0 0, .slice none 0 0]) := ⟨by kernel_rfl⟩
end Go.Proofs.Ytohflgcbpmoinaa.V
