
/-
  The walk of record.read.
-/
import Derived.Test.YtflbeipnnmeiaaaDoorRecI
namespace Go.Proofs.YtflbeipnnmeiaaaDoor
open Go.RowKit Go.ChangeShapes Go.WideShapes Go.Deep
set_option linter.unusedVariables false
set_option maxRecDepth 100000

end Go.Proofs.YtflbeipnnmeiaaaDoor
