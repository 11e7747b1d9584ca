/-
  Slices of backends of the call's own, and a list among a law's arguments: small laws.
-/
import Derived.Test.YtgndijdhmkphaaaGreatDoorArgs
import Derived.Test.YtgndijdhmkphaaaGreatDoorRecB
import Derived.Test.YtgndijdhmkphaaaGreatDoorBlk
namespace Go.Proofs.YtgndijdhmkphaaaGreatDoor
set_option linter.unusedVariables false
section
open Go.RowKit Go.ChangeShapes Go.WideShapes Go.ChangeAt Go.Deep
set_option maxRecDepth 100000
section
variable {H : Type} {enc : TypeId × Value → H} {w : World}
theorem u32_of {n : Int} (h : (Lit.int .u32 n).wf = true) : ∃ x : UInt32, n = (x.toNat : Nat) := by
  simp [Lit.wf, IntKind.min, IntKind.max, IntKind.signed, IntKind.bits] at h
  refine ⟨UInt32.ofNat n.toNat, ?_⟩
  simp only [UInt32.toNat_ofNat']
  omega
end
end
section
open Go.RowKit Go.ChangeShapes Go.WideShapes Go.ChangeAt
set_option maxRecDepth 100000
set_option maxRecDepth 100000
theorem BkV.form {W w : World} {sl : Value} {l : List BackD} (h : BkV W w sl l) : ∃ A m c, sl = .slice A m c := by obtain ⟨_, _, h⟩ := h; exact Own.form' h.own
theorem open_list {H : Type} {enc : TypeId × Value → H} {w : World} {α : Type} [Inhabited α] {t e : TypeId} {n : Nat} {Dec : World → List Nat → List Value → α → Prop} {bk : α → Nat} (ht : Tryz.prog.underlying t = some (.slice e)) (hn : Tryz.prog.cellsOf e = n) (hp : 0 < n)
    (ho : ∀ {fuel : Nat} {cs : List Value} {x : DataW H × List MemPlace}, DataW.trod enc Tryz.prog w 0 (fun _ => true) true fuel e cs = some x → ∃ a : α, Dec w (old w) cs a ∧ bk a ≤ Rows.uptoBulk x.1)
    {v : Value} {d : DataW H} {p : List MemPlace} {base : Nat} (hv : Value.okWide Tryz.prog w .any base t v) (h : DataW.Trod enc Tryz.prog w 0 (fun _ => true) true t v d p) :
    ∃ l : List α, ArrOf w (old w) n (fun w => Dec w (old w)) v l ∧ (l.map bk).sum + 1 ≤ Rows.uptoBulk d := by
  obtain ⟨a0, len, cap, rfl⟩ := okWide_slice ht hv
  obtain ⟨fuel, hf⟩ := h
  obtain ⟨A, m, c, E, D, e1, h2, h3, h4, h5, h6, h7⟩ := open_slice_at ht hn hp hf
  obtain ⟨l, hl, hd, hs⟩ := list_of_dec (α := α) (m := m) (E := E) (D := D) (Dec := fun cs a => Dec w (old w) cs a) (bk := bk) (fun i hi => by
    obtain ⟨_, fu, ps, ht⟩ := h6 i hi
    exact ho ht)
  refine ⟨l, ⟨A, m, c, by simpa [Value.cells] using e1, hl, h2, h3, h4, fun hne => ?_⟩, by simp only at h7; omega⟩
  obtain ⟨g, o, e2, e3, e4⟩ := h5 (by
    rcases Nat.eq_zero_or_pos m with h0 | h0
    · subst h0; exact absurd (List.eq_nil_of_length_eq_zero hl) hne
    · exact h0)
  refine ⟨g, o, e2, List.mem_range.2 e3, e3, fun i a hi => ?_⟩
  have hlt : i < m := by have := (List.getElem?_eq_some_iff.1 hi).1; omega
  exact ⟨E i, (h6 i hlt).1, hd i a hi, fun j hj => e4 i j hlt hj⟩
end
end Go.Proofs.YtgndijdhmkphaaaGreatDoor
