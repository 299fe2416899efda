/-
  More facts of the loaded program: the elements of what is stored. Printed by gen.py.
-/
import Derived.Test.YtclobhnclogaoaaVfacts
import Derived.Test.YtclobhnclogaoaaVmem3
namespace Go.Proofs.Ytclobhnclogaoaa.V
open Go
end Go.Proofs.Ytclobhnclogaoaa.V
