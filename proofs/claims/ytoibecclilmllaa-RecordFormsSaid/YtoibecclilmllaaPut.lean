
/-
  A part of a struct stored: by a law, not cell by cell.
-/
import Derived.Test.YtoibecclilmllaaBlk
namespace Go.Proofs.Ytoibecclilmllaa
open Go.RowKit
set_option linter.unusedVariables false

def setsAt : Array Value → Nat → List Value → Array Value
  | cs, _, [] => cs
  | cs, o, v :: vs => setsAt (cs.setIfInBounds o v) (o + 1) vs
theorem Blk.puts {g : Nat} {t : TypeId} : ∀ (vs : List Value) (o : Nat) (w : World) (cs : Array Value), Blk w g t cs → Blk (w.setCells g o vs) g t (setsAt cs o vs)
  | [], _, _, _, h => h
  | u :: vs, o, w, cs, h => Blk.puts vs (o + 1) (w.setCell ⟨g, o, none⟩ u) (cs.setIfInBounds o u) (h.set o u)
theorem run_storeVar_v {P : Program} (w : World) (b o : Nat) (ty : TypeId) (v : Value) (ht : w.there b o v.cells.size) (hi : (P.info? ty).map (·.size) = some v.cells.size) (h1 : v.cells.all (·.oneCell') = true) :
    (storeVar ty ⟨b, o, none⟩ v).run P w = .ok () (w.setCells b o v.cells.toList) := by
  have := run_storeCells_cells (P := P) b o v.cells.toList 0 w (fun j hj => by simpa using (ht j (by simpa using hj)).1) (fun j hj => by simpa using (ht j (by simpa using hj)).2)
    (fun u hu => (Array.all_eq_true_iff_forall_mem.1 h1) u (by simpa using hu))
  cases hq : P.info? ty with
  | none => simp [hq] at hi
  | some i =>
    have hs : v.cells.size = i.size := by simp [hq] at hi; omega
    simp only [Nat.add_zero] at this
    simp [storeVar, sizeOf, typeInfo, hq, hs, this]
theorem wp_storeV {P : Program} {op : Oper} {a : Act} {w : World} {K : Act → World → Prop} {Q : Exit → Act → World → Prop} (ty : TypeId) (x y : Operand) (ho : op.op = .store ty x y)
    (b o : Nat) (v : Value) (hx : a.eval x = .pointer (some ⟨b, o, none⟩)) (hy : a.eval y = v)
    (ht : w.there b o v.cells.size) (hi : (P.info? ty).map (·.size) = some v.cells.size) (h1 : v.cells.all (·.oneCell') = true)
    (h : K (a.put op.dst undef) (w.setCells b o v.cells.toList)) : op.wp P a w K Q := by
  unfold Oper.wp execOp
  simp only [ho, hx, hy, Instr.storeAt, Instr.sureAddr, Sem.run_bind, Sem.run_pure, Result.andThen_ok, run_storeVar_v w b o ty v ht hi h1]
  exact h
theorem wpList_putAt {P : Program} {ops : Array Oper} {rest : List Oper} {op : Oper} {a : Act} {w : World} {Q : Exit → Act → World → Prop} (hgd : op.guard = none) (ty : TypeId) (x y : Operand) (ho : op.op = .store ty x y)
    {g o : Nat} {t : TypeId} {cs0 : Array Value} {v : Value} (hx : a.eval x = .pointer (some ⟨g, o, none⟩)) (hy : a.eval y = v) (hb : Blk w g t cs0) (hs : o + v.cells.size ≤ cs0.size)
    (hi : (P.info? ty).map (·.size) = some v.cells.size) (h1 : v.cells.all (·.oneCell') = true)
    (h : ∀ w', Blk w' g t (setsAt cs0 o v.cells.toList) → Kept [g] w w' → wpList P ops Q rest (a.put op.dst undef) w') : wpList P ops Q (op :: rest) a w := by
  refine wpList_plain hgd fun _ hK => wp_storeV ty x y ho g o v hx hy (fun j hj => ?_) hi h1 (hK _ _ (h _ (hb.puts v.cells.toList o) (Kept.setCells _ _ _ _ (Kept.refl _ _))))
  rw [hb.cell (o + j), hb.frozen (o + j)]
  exact ⟨by rw [Array.getElem?_eq_getElem (by omega)]; rfl, rfl⟩
theorem step_putAt {P : Program} {ops : Array Oper} {op : Oper} {a : Act} {K : Act → World → Prop} {Q : Exit → Act → World → Prop} {E0 : Prop} {w : World} (hgd : op.guard = none) (ty : TypeId) (x y : Operand) (ho : op.op = .store ty x y)
    {g o : Nat} {t : TypeId} {cs0 : Array Value} {v : Value} (hx : a.eval x = .pointer (some ⟨g, o, none⟩)) (hy : a.eval y = v) (hb : Blk w g t cs0) (hs : o + v.cells.size ≤ cs0.size)
    (hi : (P.info? ty).map (·.size) = some v.cells.size) (h1 : v.cells.all (·.oneCell') = true)
    (h : ∀ w', Blk w' g t (setsAt cs0 o v.cells.toList) → Kept [g] w w' → K (a.put op.dst undef) w') : if Region.wanted op (yielded ops a.tmps) = true then Oper.wp P op a w K Q else E0 := by
  rw [if_pos (by simp [Region.wanted, hgd])]
  refine wp_storeV ty x y ho g o v hx hy (fun j hj => ?_) hi h1 (h _ (hb.puts v.cells.toList o) (Kept.setCells _ _ _ _ (Kept.refl _ _)))
  rw [hb.cell (o + j), hb.frozen (o + j)]
  exact ⟨by rw [Array.getElem?_eq_getElem (by omega)]; rfl, rfl⟩
end Go.Proofs.Ytoibecclilmllaa
