/-
  Facts of structs. Printed by gen.py.
-/
import Derived.Test.YtbfcmfjdjldepaaVfacts2
import Derived.Test.YtbfcmfjdjldepaaVz3
namespace Go.Proofs.Ytbfcmfjdjldepaa.V
open Go
theorem agg60 : Agg Try.prog 60 3 := ⟨by kernel_rfl⟩
theorem fld60_0 : Fld Try.prog 60 0 0 := ⟨by kernel_rfl⟩
theorem fld60_1 : Fld Try.prog 60 1 1 := ⟨by kernel_rfl⟩
theorem fld60_2 : Fld Try.prog 60 2 2 := ⟨by kernel_rfl⟩
theorem str60 : Str Try.prog 60 3 := ⟨by kernel_rfl⟩
end Go.Proofs.Ytbfcmfjdjldepaa.V
