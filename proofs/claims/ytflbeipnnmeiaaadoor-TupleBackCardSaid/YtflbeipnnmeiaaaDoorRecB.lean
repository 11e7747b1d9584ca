
/-
  Contracts on rows of backends: is one no backend; copied; the same.
-/
import Derived.Test.YtflbeipnnmeiaaaDoorRecA
import Derived.BigQuiet
import Derived.Laws.StructEq
namespace Go.Proofs.YtflbeipnnmeiaaaDoor
open Go.RowKit Go.ChangeShapes Go.WideShapes Go.Deep
set_option linter.unusedVariables false
set_option maxRecDepth 100000

theorem u32_cast (a b : UInt32) : (((a.toNat : Nat) : Int) == ((b.toNat : Nat) : Int)) = (a == b) := by
  rw [Bool.eq_iff_iff]; simp [← UInt32.toNat_inj]; omega
end Go.Proofs.YtflbeipnnmeiaaaDoor
