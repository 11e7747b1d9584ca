
/-
  The walks of record.flow, record.backends, record.read.
-/
import Derived.Test.YtflbeipnnmeiaaaRecG
import Derived.Test.YtflbeipnnmeiaaaPut
import Derived.Outline
import Derived.Deep.RegionWith
import Derived.Deep.DeepCutAuto
namespace Go.Proofs.Ytflbeipnnmeiaaa
open Go.RowKit Go.ChangeShapes Go.WideShapes Go.Deep
set_option linter.unusedVariables false

end Go.Proofs.Ytflbeipnnmeiaaa
