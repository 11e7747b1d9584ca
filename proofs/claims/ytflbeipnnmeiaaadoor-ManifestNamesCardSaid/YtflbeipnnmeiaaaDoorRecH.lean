
/-
  The walks of record.flow, record.backends, record.read.
-/
import Derived.Test.YtflbeipnnmeiaaaDoorRecG
import Derived.Test.YtflbeipnnmeiaaaDoorPut
import Derived.Outline
import Derived.Deep.RegionWith
import Derived.Deep.DeepCutAuto
namespace Go.Proofs.YtflbeipnnmeiaaaDoor
open Go.RowKit Go.ChangeShapes Go.WideShapes Go.Deep
set_option linter.unusedVariables false
set_option maxRecDepth 100000

end Go.Proofs.YtflbeipnnmeiaaaDoor
