
/-
  Contracts: a record plain, the same, may it be, as it is read.
-/
import Derived.Test.YtflbeipnnmeiaaaDoorRecB
import Derived.Test.YtflbeipnnmeiaaaDoorBlk
namespace Go.Proofs.YtflbeipnnmeiaaaDoor
open Go.RowKit Go.ChangeShapes Go.WideShapes Go.Deep
set_option linter.unusedVariables false
set_option maxRecDepth 100000

/-- what a kind decides -/
theorem kind_cases (r : RecD) : (r.kind = 1 ∨ r.kind = 2 ∨ r.kind = 3) ∨ (r.kind = 4 ∨ r.kind = 5 ∨ r.kind = 6) ∨ (r.kind < 1 ∨ 6 < r.kind) := by omega
abbrev SmallB (w : World) (G : List Nat) (A : Option Addr) (m c : Nat) (l : List BackD) : Prop := BkArr w G (.slice A m c) l ∧ (∀ k ∈ G, k < w.heap.size) ∧ m ≤ 1099511627776

end Go.Proofs.YtflbeipnnmeiaaaDoor
