/-
  More facts of the loaded program: the elements of what is stored. Printed by gen.py.
-/
import Derived.Test.YtcoplafphgpmpaaVfacts
import Derived.Test.YtcoplafphgpmpaaVmem3
namespace Go.Proofs.Ytcoplafphgpmpaa.V
open Go
end Go.Proofs.Ytcoplafphgpmpaa.V
