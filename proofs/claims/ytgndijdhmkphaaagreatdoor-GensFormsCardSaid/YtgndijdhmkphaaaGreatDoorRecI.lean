/-
  The walk of record.backends.
-/
import Derived.Outline
import Derived.Deep.RegionWith
import Derived.Deep.DeepCutAuto
import Derived.Test.YtgndijdhmkphaaaGreatDoorRecB
import Derived.Test.YtgndijdhmkphaaaGreatDoorBlk
import Derived.Test.YtgndijdhmkphaaaGreatDoorRef1
import Derived.Test.YtgndijdhmkphaaaGreatDoorManF
namespace Go.Proofs.YtgndijdhmkphaaaGreatDoor
set_option linter.unusedVariables false
section
open Go.RowKit Go.ChangeShapes Go.WideShapes Go.Deep
set_option maxRecDepth 100000
def BkO (W W0 w : World) (sl : Value) (l : List BackD) : Prop := ∃ css, LVx BkDec 27 3 W w sl l css [] ∧ ∀ k ∈ rowOf sl, W0.heap.size ≤ k
section
variable {W W0 w w' : World} {sl : Value} {l : List BackD}
theorem BkO.nil (hk : Kept [] W w) : BkO W W0 w (.slice none 0 0) [] := ⟨[], ⟨Own.nil _ _ _, by simp [rowOf, Value.ownBlock], Decs.nil, by simp, hk⟩, by simp [rowOf, Value.ownBlock]⟩
theorem BkO.form (h : BkO W W0 w sl l) : ∃ A m c, sl = .slice A m c := by obtain ⟨_, h, _⟩ := h; exact Own.form' h.own
theorem BkO.len (h : BkO W W0 w sl l) : ∃ A c, sl = .slice A l.length c := by obtain ⟨_, h, _⟩ := h; obtain ⟨A, c, e, _⟩ := h.own.form; exact ⟨A, c, e⟩
theorem BkO.bk (h : BkO W W0 w sl l) : BkV W w sl l := by obtain ⟨css, h, _⟩ := h; exact ⟨css, [], h⟩
theorem BkO.row (h : BkO W W0 w sl l) : ∀ k ∈ rowOf sl, W0.heap.size ≤ k := by obtain ⟨_, _, h⟩ := h; exact h
theorem BkO.other {S : List Nat} (h : BkO W W0 w sl l) (hk : Kept S w w') (hS : ∀ k ∈ S, k < W0.heap.size ∧ W.heap.size ≤ k) : BkO W W0 w' sl l := by
  obtain ⟨css, h1, h2⟩ := h
  exact ⟨css, h1.other BkOk hk (fun k hk' hm => by have := h2 k hk'; have := (hS k hm).1; omega) (by simp) (fun k hk' => (hS k hk').2), h2⟩
theorem BkO.go (h : BkO W W0 w sl l) (hk : Kept [] w w') : BkO W W0 w' sl l := h.other hk (by simp)
theorem BkO.lt (h : BkO W W0 w sl l) : ∀ k ∈ rowOf sl, k < w.heap.size := by obtain ⟨_, h, _⟩ := h; exact h.own.lt
theorem BkO.cast {l' : List BackD} (h : BkO W W0 w sl l) (e : l = l') : BkO W W0 w sl l' := e ▸ h
end
theorem wpList_bk {ops : Array Oper} {rest : List Oper} {o : Oper} {a : Act} {Q : Exit → Act → World → Prop} {w0 : World} (hgd : o.guard = none) (s x : Operand)
    (ho : o.op = .call { callee := .builtin .append, args := #[s, x], argTypes := #[22, 22] }) {W W0 : World} {sl : Value} {l : List BackD} {bk : BackD} {g : Nat} (hg : g = w0.heap.size) (hW0 : W0.heap.size ≤ w0.heap.size)
    (hs : a.eval s = sl) (hN : BkO W W0 w0 sl l) (hx : a.eval x = .slice (some ⟨g, 0, none⟩) 1 1) (hl : l.length ≤ 1000000)
    (h : ∀ A m c w', BkO W W0 w' (.slice A m c) (l ++ [bk]) → Kept (rowOf sl) w0 w' → wpList Tryz.prog ops Q rest (a.put o.dst (.slice A m c)) w') : wpList Tryz.prog ops Q (o :: rest) a (w0.alloc (.cells #[.int .i64 bk.id, .int .u32 (bk.addr.toNat : Nat), .int .i64 bk.weight] 27)) := by
  subst hg
  obtain ⟨css, h1, h2⟩ := hN
  have ha := h1.go BkOk ((Kept.refl [] w0).alloc (.cells #[.int .i64 bk.id, .int .u32 (bk.addr.toNat : Nat), .int .i64 bk.weight] 27))
  refine wpList_app _ hgd s x 22 ho elem_back hs ha.own hx (Rd.laid w0 [.int .i64 bk.id, .int .u32 (bk.addr.toNat : Nat), .int .i64 bk.weight] _) rfl (by simp [Value.oneCell']) (by unfold maxLen; omega) (by omega) (fun v' w' ho' hk hr => ?_)
  have hx := LVx.app BkOk ha (Kept.refl [] _) (css' := [[.int .i64 bk.id, .int .u32 (bk.addr.toNat : Nat), .int .i64 bk.weight]]) (l' := [bk]) (G' := []) (Decs.one' rfl) (by simp) ho' (by simp) (by simp) hk hr
  obtain ⟨A, m, c, rfl⟩ := Own.form' ho'
  refine h A m c w' ⟨_, hx, fun k hk' => ?_⟩ (((Kept.refl (rowOf sl) w0).alloc _).trans hk (fun i hi => .inl hi))
  rcases hr k hk' with h3 | h3
  · exact h2 k h3
  · have : w0.heap.size ≤ (w0.alloc (.cells #[.int .i64 bk.id, .int .u32 (bk.addr.toNat : Nat), .int .i64 bk.weight] 27)).heap.size := by simp
    omega
end
end Go.Proofs.YtgndijdhmkphaaaGreatDoor
