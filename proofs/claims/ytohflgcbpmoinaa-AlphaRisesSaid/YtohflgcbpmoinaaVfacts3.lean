/-
  Facts of structs. Printed by gen.py.
-/
import Derived.Test.YtohflgcbpmoinaaVfacts2
import Derived.Test.YtohflgcbpmoinaaVz3
namespace Go.Proofs.Ytohflgcbpmoinaa.V
open Go
theorem agg47 : Agg Try.prog 47 2 := ⟨by kernel_rfl⟩
theorem agg56 : Agg Try.prog 56 2 := ⟨by kernel_rfl⟩
theorem fld47_0 : Fld Try.prog 47 0 0 := ⟨by kernel_rfl⟩
theorem fld47_1 : Fld Try.prog 47 1 1 := ⟨by kernel_rfl⟩
theorem fld56_0 : Fld Try.prog 56 0 0 := ⟨by kernel_rfl⟩
theorem fld56_1 : Fld Try.prog 56 1 1 := ⟨by kernel_rfl⟩
theorem str47 : Str Try.prog 47 2 := ⟨by kernel_rfl⟩
theorem str56 : Str Try.prog 56 2 := ⟨by kernel_rfl⟩
end Go.Proofs.Ytohflgcbpmoinaa.V
