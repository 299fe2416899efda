/-
  More facts of the loaded program: the elements of what is stored. Printed by gen.py.
-/
import Derived.Test.YtpogedmkmplckaaVfacts
import Derived.Test.YtpogedmkmplckaaVmem3
namespace Go.Proofs.Ytpogedmkmplckaa.V
open Go
end Go.Proofs.Ytpogedmkmplckaa.V
