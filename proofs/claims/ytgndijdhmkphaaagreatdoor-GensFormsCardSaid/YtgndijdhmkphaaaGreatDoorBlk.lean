/-
  A struct of many cells stored whole, loaded whole: by laws, not cell by cell.
-/
import Derived.Deep.MidRow
import Derived.Test.YtgndijdhmkphaaaGreatDoorLv
namespace Go.Proofs.YtgndijdhmkphaaaGreatDoor
set_option linter.unusedVariables false
section
open Go.RowKit
set_option maxRecDepth 100000
theorem Blk.new' (w : World) {g : Nat} (h : w.heap.size = g) (t : TypeId) (cs : Array Value) : Blk (w.alloc (.cells cs t)) g t cs := by subst h; exact Blk.new w t cs
theorem Blk.setCells {g : Nat} {t : TypeId} : ∀ (vs : List Value) (o : Nat) (w : World) (cs : Array Value), Blk w g t cs → o + vs.length ≤ cs.size →
    ∃ cs', Blk (w.setCells g o vs) g t cs' ∧ cs'.size = cs.size ∧ (∀ j, j < o → cs'[j]? = cs[j]?) ∧ ∀ j v, vs[j]? = some v → cs'[o + j]? = some v
  | [], o, w, cs, h, _ => ⟨cs, h, rfl, fun _ _ => rfl, fun j v hj => by simp at hj⟩
  | u :: vs, o, w, cs, h, hl => by
    simp only [List.length_cons] at hl
    obtain ⟨cs', h1, h2, h3, h4⟩ := Blk.setCells vs (o + 1) (w.setCell ⟨g, o, none⟩ u) (cs.setIfInBounds o u) (h.set o u) (by simp; omega)
    refine ⟨cs', h1, by simpa using h2, fun j hj => ?_, fun j v hj => ?_⟩
    · rw [h3 j (by omega), Array.getElem?_setIfInBounds, if_neg (by omega)]
    · cases j with
      | zero =>
        simp at hj
        rw [Nat.add_zero, h3 o (by omega), Array.getElem?_setIfInBounds, if_pos rfl, if_pos (by omega), hj]
      | succ j =>
        have := h4 j v (by simpa using hj)
        rwa [show o + 1 + j = o + (j + 1) by omega] at this
theorem Kept.setCells {g : Nat} : ∀ (vs : List Value) (o : Nat) (w w' : World), Kept [g] w w' → Kept [g] w (w'.setCells g o vs)
  | [], _, _, _, h => h
  | u :: vs, o, w, w', h => Kept.setCells vs (o + 1) w _ (h.setCell (.inl (by simp)) u)
theorem Blk.whole {w : World} {g : Nat} {t : TypeId} {cs : Array Value} (h : Blk w g t cs) (vs : Array Value) (hs : cs.size = vs.size) : Blk (w.setCells g 0 vs.toList) g t vs := by
  obtain ⟨cs', h1, h2, _, h4⟩ := Blk.setCells vs.toList 0 w cs h (by simp; omega)
  have : cs' = vs := by
    apply Array.ext (by omega)
    intro i h5 h6
    have := h4 i vs[i] (by simp [h6])
    rw [Nat.zero_add, Array.getElem?_eq_getElem h5] at this
    exact Option.some.inj this
  rwa [this] at h1
theorem wpList_put {P : Program} {ops : Array Oper} {rest : List Oper} {op : Oper} {a : Act} {w : World} {Q : Exit → Act → World → Prop} (hgd : op.guard = none) (ty : TypeId) (x y : Operand) (ho : op.op = .store ty x y)
    {g : Nat} {t : TypeId} {cs0 : Array Value} (cells : Array Value) (hx : a.eval x = .pointer (some ⟨g, 0, none⟩)) (hy : a.eval y = .agg cells) (hb : Blk w g t cs0) (hs : cs0.size = cells.size)
    (hi : (P.info? ty).map (·.size) = some cells.size) (h1 : cells.all (·.oneCell') = true)
    (h : ∀ w', Blk w' g t cells → Kept [g] w w' → wpList P ops Q rest (a.put op.dst undef) w') : wpList P ops Q (op :: rest) a w := by
  refine wpList_store_mid hgd ty x y ho g 0 cells hx hy (fun j hj => ?_) hi h1 (h _ (hb.whole cells hs) (Kept.setCells _ _ _ _ (Kept.refl _ _)))
  rw [Nat.zero_add, hb.cell j, hb.frozen j]
  exact ⟨by rw [Array.getElem?_eq_getElem (by omega)]; rfl, rfl⟩
theorem run_loadWhole {P : Program} {w : World} {g : Nat} {t ty : TypeId} {cells : Array Value} (hb : Blk w g t cells) (d : TypeDesc) (hu : P.underlying ty = some d) (hd : d.isRow = true) (hi : (P.info? ty).map (·.size) = some cells.size) :
    (loadVar ty ⟨g, 0, none⟩).run P w = .ok (.agg cells) w := by
  have h := run_loadVar_mid (P := P) w g 0 ty cells.toList d (fun j v hv => by rw [Nat.zero_add, hb.cell j]; simpa using hv) hu hd (by simpa using hi)
  simpa using h
theorem results_cell1 {P : Program} {fn : Func} {s s1 : Tmp} {ty : TypeId} {tmps : Array Value} {w : World} {g : Nat} {t : TypeId} {cells : Array Value} (h : fn.results = #[.cell s ty, .tmp s1]) (hs : tmps.getD s undef = .pointer (some ⟨g, 0, none⟩))
    (hb : Blk w g t cells) (d : TypeDesc) (hu : P.underlying ty = some d) (hd : d.isRow = true) (hi : (P.info? ty).map (·.size) = some cells.size) : (results fn tmps).run P w = .ok (.tuple #[.agg cells, tmps.getD s1 undef]) w := by
  have hs' : tmps[s]?.getD undef = .pointer (some ⟨g, 0, none⟩) := by rw [← Array.getD_eq_getD_getElem?]; exact hs
  simp [results, h, hs', asAddr, run_loadWhole hb d hu hd hi]
end
end Go.Proofs.YtgndijdhmkphaaaGreatDoor
