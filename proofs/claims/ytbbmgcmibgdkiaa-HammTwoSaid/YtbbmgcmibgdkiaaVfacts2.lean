/-
  More facts of the loaded program: the elements of what is stored. Printed by gen.py.
-/
import Derived.Test.YtbbmgcmibgdkiaaVfacts
import Derived.Test.YtbbmgcmibgdkiaaVmem3
namespace Go.Proofs.Ytbbmgcmibgdkiaa.V
open Go
end Go.Proofs.Ytbbmgcmibgdkiaa.V
