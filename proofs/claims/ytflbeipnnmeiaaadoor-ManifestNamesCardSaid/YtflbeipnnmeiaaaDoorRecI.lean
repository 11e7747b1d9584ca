
/-
  The walk of record.backends.
-/
import Derived.Test.YtflbeipnnmeiaaaDoorRecH
namespace Go.Proofs.YtflbeipnnmeiaaaDoor
open Go.RowKit Go.ChangeShapes Go.WideShapes Go.Deep
set_option linter.unusedVariables false
set_option maxRecDepth 100000

section
variable {W W0 w w' : World} {sl : Value} {l : List BackD}
end
end Go.Proofs.YtflbeipnnmeiaaaDoor
