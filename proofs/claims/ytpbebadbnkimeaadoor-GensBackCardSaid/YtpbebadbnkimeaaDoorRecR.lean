
/-
  Contracts of the reference: a tuple's bytes; may a record be; a record's frame.
-/
import Derived.Test.YtpbebadbnkimeaaDoorRecY
import Derived.Test.YtpbebadbnkimeaaDoorFrameR
namespace Go.Proofs.YtpbebadbnkimeaaDoor
open Go.RowKit Go.ChangeShapes Go.WideShapes Go.Deep
set_option linter.unusedVariables false
set_option maxRecDepth 100000

theorem Blk.at5 {w : World} {g : Nat} {t : TypeId} {a b c d e : Value} (h : Blk w g t #[a, b, c, d, e]) : w.cell? ⟨g, 0, none⟩ = some a ∧ w.cell? ⟨g, 1, none⟩ = some b ∧ w.cell? ⟨g, 2, none⟩ = some c ∧ w.cell? ⟨g, 3, none⟩ = some d ∧ w.cell? ⟨g, 4, none⟩ = some e :=
  ⟨by simpa using h.cell 0, by simpa using h.cell 1, by simpa using h.cell 2, by simpa using h.cell 3, by simpa using h.cell 4⟩

end Go.Proofs.YtpbebadbnkimeaaDoor
