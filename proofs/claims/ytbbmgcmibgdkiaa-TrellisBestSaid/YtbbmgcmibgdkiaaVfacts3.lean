/-
  Facts of structs. Printed by gen.py.
-/
import Derived.Test.YtbbmgcmibgdkiaaVfacts2
import Derived.Test.YtbbmgcmibgdkiaaVz3
namespace Go.Proofs.Ytbbmgcmibgdkiaa.V
open Go
theorem agg78 : Agg Try.prog 78 2 := ⟨by kernel_rfl⟩
theorem agg79 : Agg Try.prog 79 2 := ⟨by kernel_rfl⟩
theorem agg82 : Agg Try.prog 82 2 := ⟨by kernel_rfl⟩
theorem fld82_0 : Fld Try.prog 82 0 0 := ⟨by kernel_rfl⟩
theorem fld82_1 : Fld Try.prog 82 1 1 := ⟨by kernel_rfl⟩
theorem str82 : Str Try.prog 82 2 := ⟨by kernel_rfl⟩
end Go.Proofs.Ytbbmgcmibgdkiaa.V
