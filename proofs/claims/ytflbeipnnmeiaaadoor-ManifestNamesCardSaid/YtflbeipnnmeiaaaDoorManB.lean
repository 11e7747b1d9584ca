
/-
  The contracts of slices.Equal on ints, of manifest.Same, of the law's own same.
-/
import Derived.Test.YtflbeipnnmeiaaaDoorManA
import Derived.BigQuiet
namespace Go.Proofs.YtflbeipnnmeiaaaDoor
open Go.RowKit Go.ChangeShapes Go.WideShapes Go.Deep
set_option linter.unusedVariables false
set_option maxRecDepth 100000

theorem eqL_drop {l l' : List Int} {k : Nat} (h : k < l.length) (h' : k < l'.length) : (l.drop k == l'.drop k) = ((l[k] == l'[k]) && (l.drop (k + 1) == l'.drop (k + 1))) := by
  rw [← List.getElem_cons_drop (h := h), ← List.getElem_cons_drop (h := h')]; rfl
theorem eqL_len {l l' : List Int} (h : l.length ≠ l'.length) : (l == l') = false := by
  rw [beq_eq_false_iff_ne]; rintro rfl; exact h rfl
end Go.Proofs.YtflbeipnnmeiaaaDoor
