
/-
  States: their records, copies; a state out of a view.
-/
import Derived.Test.YtdabbkkjmmbigaaGreatSuD
import Derived.Laws.EntriesVeiled
namespace Go.Proofs.YtdabbkkjmmbigaaGreat
open Go.RowKit Go.ChangeShapes Go.WideShapes Go.ChangeAt Go.Deep Go.MapKept
set_option linter.unusedVariables false

theorem may_len {l : List BackD} (h : mayBs l = true) : l.length ≤ 16 := by
  unfold mayBs at h
  simp at h
  exact h.1
theorem IsView.lens {S : StD} (ok : OkS S) {V : VwD} (h : IsView S V) : V.drains.length ≤ 16 ∧ V.flows.length ≤ 256 ∧ V.backs.length ≤ 16 :=
  ⟨by rw [h.dp.length_eq]; exact ok.ld, by rw [h.fp.length_eq, List.length_map]; exact ok.lf, by rw [h.backs]; exact may_len ok.mb⟩
end Go.Proofs.YtdabbkkjmmbigaaGreat
