
/-
  Contracts: may a record be.
-/
import Derived.Test.YtflbeipnnmeiaaaDoorRecC
namespace Go.Proofs.YtflbeipnnmeiaaaDoor
open Go.RowKit Go.ChangeShapes Go.WideShapes Go.Deep
set_option linter.unusedVariables false
set_option maxRecDepth 100000

-- MAY BEGINS
end Go.Proofs.YtflbeipnnmeiaaaDoor
