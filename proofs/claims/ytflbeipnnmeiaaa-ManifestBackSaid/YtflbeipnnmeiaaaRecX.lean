
/-
  The contract of record.write.
-/
import Derived.Test.YtflbeipnnmeiaaaRecW
namespace Go.Proofs.Ytflbeipnnmeiaaa
open Go.RowKit Go.ChangeShapes Go.WideShapes Go.Deep
set_option linter.unusedVariables false

end Go.Proofs.Ytflbeipnnmeiaaa
