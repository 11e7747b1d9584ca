
/-
  A writer of the call's own, step by step: contracts that name neither its row nor its footprint.
-/
import Derived.Test.YthdjdfdefibepaaOctR
namespace Go.Proofs.Ythdjdfdefibepaa
open Go.RowKit
set_option linter.unusedVariables false

section
variable {W w : World} {b : Nat} {bs : List UInt8}
end
theorem Blk.cells3 {w : World} {g : Nat} {t : TypeId} {a b c : Value} (h : Blk w g t #[a, b, c]) (x y z : Value) :
    (w.setCell ⟨g, 0, none⟩ x).cell? ⟨g, 0, none⟩ = some x ∧ ((w.setCell ⟨g, 0, none⟩ x).setCell ⟨g, 1, none⟩ y).cell? ⟨g, 1, none⟩ = some y ∧ (((w.setCell ⟨g, 0, none⟩ x).setCell ⟨g, 1, none⟩ y).setCell ⟨g, 2, none⟩ z).cell? ⟨g, 2, none⟩ = some z := by
  have h1 := h.set 0 x
  have h2 := h1.set 1 y
  have h3 := h2.set 2 z
  exact ⟨by simpa using h1.cell 0, by simpa using h2.cell 1, by simpa using h3.cell 2⟩
theorem Kept.cells3 {W w : World} {g : Nat} (h : Kept [] W w) (hg : W.heap.size ≤ g) (x y z : Value) : Kept [] W (((w.setCell ⟨g, 0, none⟩ x).setCell ⟨g, 1, none⟩ y).setCell ⟨g, 2, none⟩ z) :=
  h.trans (((((Kept.refl [g] w).setCell (p := ⟨g, 0, none⟩) (.inl (by simp)) x).setCell (p := ⟨g, 1, none⟩) (.inl (by simp)) y).setCell (p := ⟨g, 2, none⟩) (.inl (by simp)) z)) (fun i hi => .inr (by simp at hi; omega))
end Go.Proofs.Ythdjdfdefibepaa
