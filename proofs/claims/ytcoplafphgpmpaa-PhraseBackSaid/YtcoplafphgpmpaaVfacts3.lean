/-
  Facts of structs. Printed by gen.py.
-/
import Derived.Test.YtcoplafphgpmpaaVfacts2
import Derived.Test.YtcoplafphgpmpaaVz3
namespace Go.Proofs.Ytcoplafphgpmpaa.V
open Go
theorem agg28 : Agg Try.prog 28 2 := ⟨by kernel_rfl⟩
theorem fld28_0 : Fld Try.prog 28 0 0 := ⟨by kernel_rfl⟩
theorem fld28_1 : Fld Try.prog 28 1 1 := ⟨by kernel_rfl⟩
theorem str28 : Str Try.prog 28 2 := ⟨by kernel_rfl⟩
theorem int2_28 : Int2 Try.prog 28 := ⟨by kernel_rfl, by kernel_rfl⟩
end Go.Proofs.Ytcoplafphgpmpaa.V
