
/-
  The contract of record.write.
-/
import Derived.Test.YtflbeipnnmeiaaaDoorRecW
namespace Go.Proofs.YtflbeipnnmeiaaaDoor
open Go.RowKit Go.ChangeShapes Go.WideShapes Go.Deep
set_option linter.unusedVariables false
set_option maxRecDepth 100000

end Go.Proofs.YtflbeipnnmeiaaaDoor
