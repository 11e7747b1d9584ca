
/-
  Contracts: may a record be.
-/
import Derived.Test.YtflbeipnnmeiaaaRecC
namespace Go.Proofs.Ytflbeipnnmeiaaa
open Go.RowKit Go.ChangeShapes Go.WideShapes Go.Deep
set_option linter.unusedVariables false

-- MAY BEGINS
end Go.Proofs.Ytflbeipnnmeiaaa
