/-
  The arguments of goitlaw13's laws.
-/
import Derived.Test.YtgndijdhmkphaaaGreatDoorBkx
import Derived.Test.YtgndijdhmkphaaaGreatDoorFrameA
import Derived.Test.YtgndijdhmkphaaaGreatDoorGenU
namespace Go.Proofs.YtgndijdhmkphaaaGreatDoor
set_option linter.unusedVariables false
section
open Go.ChangeShapes Go.WideShapes Go.ChangeAt Go.RowKit
set_option maxRecDepth 100000
def BkDecN (w : World) (G : List Nat) (cs : List Value) (b : BackD) : Prop := BkDec w G cs b ∧ numB b
theorem in_ofN {n : Int} (h : (Lit.int .i64 n).wf = true) : inI n := by
  simp [Lit.wf, IntKind.min, IntKind.max, IntKind.signed, IntKind.bits] at h
  exact ⟨by omega, by omega⟩
theorem open_backN {H : Type} {enc : TypeId × Value → H} {w : World} {fuel : Nat} {cs : List Value} {x : DataW H × List MemPlace} (h : DataW.trod enc Tryz.prog w 0 (fun _ => true) true fuel 27 cs = some x) :
    ∃ b : BackD, BkDecN w (old w) cs b ∧ 0 ≤ Rows.uptoBulk x.1 := by
  obtain ⟨xs, n, _, hx, hlen, hxl, hf⟩ := DataW.trod_struct Tryz.underlying27 h
  have hl3 : cs.length = 3 := hlen.trans (by kernel_rfl)
  match cs, hl3 with
  | [c0, c1, c2], _ =>
    match xs, hxl with
    | [x0, x1, x2], _ =>
      have f0 := hf 0 _ rfl
      have f1 := hf 1 _ rfl
      have f2 := hf 2 _ rfl
      have k3 : Tryz.prog.cellsOf 3 = 1 := by kernel_rfl
      have k22 : Tryz.prog.cellsOf 25 = 1 := by kernel_rfl
      simp [k3, k22] at f0 f1 f2
      obtain ⟨a, e0, _, wa⟩ := DataW.trod_int Tryz.underlying3 f0
      obtain ⟨b, e1, _, wb⟩ := DataW.trod_int Tryz.underlying25 f1
      obtain ⟨c, e2, _, wc⟩ := DataW.trod_int Tryz.underlying3 f2
      injection e0 with e0; injection e1 with e1; injection e2 with e2
      subst e0 e1 e2
      obtain ⟨y, rfl⟩ := u32_of wb
      exact ⟨⟨a, y, c⟩, ⟨rfl, in_ofN wa, in_ofN wc⟩, Nat.zero_le _⟩
theorem open_listN {H : Type} {enc : TypeId × Value → H} {w : World} {v : Value} {d : DataW H} {p : List MemPlace} {base : Nat} (hv : Value.okWide Tryz.prog w .any base 22 v) (h : DataW.Trod enc Tryz.prog w 0 (fun _ => true) true 22 v d p) :
    ∃ (A : Option Addr) (m c : Nat) (l : List BackD), v = .slice A m c ∧ BkArr w (old w) (.slice A m c) l ∧ ∀ b ∈ l, numB b := by
  obtain ⟨l, hl, -⟩ := open_list (n := 3) (Dec := BkDecN) (bk := fun _ => 0) Tryz.underlying22 (by kernel_rfl) (by omega) (fun {fuel cs x} h => open_backN h) hv h
  obtain ⟨A, m, c, rfl, h1, h2, h3, h4, h5⟩ := hl
  refine ⟨A, m, c, l, rfl, ⟨A, m, c, rfl, h1, h2, h3, h4, fun hne => ?_⟩, fun b hb => ?_⟩
  · obtain ⟨g, o, e, hg, hlt, hc⟩ := h5 hne
    refine ⟨g, o, e, hg, hlt, fun i a hi => ?_⟩
    obtain ⟨cs, q1, q2, q3⟩ := hc i a hi
    exact ⟨cs, q1, q2.1, q3⟩
  · obtain ⟨i, hi⟩ := List.getElem?_of_mem hb
    obtain ⟨g, o, e, hg, hlt, hc⟩ := h5 (by rintro rfl; cases hb)
    obtain ⟨cs, q1, q2, q3⟩ := hc i b hi
    exact q2.2
theorem open_i64N {H : Type} {enc : TypeId × Value → H} {w : World} {v : Value} {d : DataW H} {p : List MemPlace} {base : Nat} (hv : Value.okWide Tryz.prog w .any base 3 v) (h : DataW.Trod enc Tryz.prog w 0 (fun _ => true) true 3 v d p) : ∃ n : Int, v = .int .i64 n ∧ inI n := by
  obtain ⟨n, rfl, rfl, rfl, hw⟩ := open_int Tryz.underlying3 hv h
  exact ⟨n, rfl, in_ofN hw⟩
end
end Go.Proofs.YtgndijdhmkphaaaGreatDoor
