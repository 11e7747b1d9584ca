
/-
  The walk of record.backends.
-/
import Derived.Test.YtflbeipnnmeiaaaRecH
namespace Go.Proofs.Ytflbeipnnmeiaaa
open Go.RowKit Go.ChangeShapes Go.WideShapes Go.Deep
set_option linter.unusedVariables false

section
variable {W W0 w w' : World} {sl : Value} {l : List BackD}
end
end Go.Proofs.Ytflbeipnnmeiaaa
