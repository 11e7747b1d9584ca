
/-
  Arguments of the laws on records, opened.
-/
import Derived.Test.YtpbebadbnkimeaaDoorRecC
import Derived.Test.YtpbebadbnkimeaaDoorArgs
namespace Go.Proofs.YtpbebadbnkimeaaDoor
open Go.RowKit Go.ChangeShapes Go.WideShapes Go.ChangeAt Go.Deep
set_option linter.unusedVariables false
set_option maxRecDepth 100000
section
variable {H : Type} {enc : TypeId × Value → H} {w : World}
theorem u32_of {n : Int} (h : (Lit.int .u32 n).wf = true) : ∃ x : UInt32, n = (x.toNat : Nat) := by
  simp [Lit.wf, IntKind.min, IntKind.max, IntKind.signed, IntKind.bits] at h
  refine ⟨UInt32.ofNat n.toNat, ?_⟩
  simp only [UInt32.toNat_ofNat']
  omega
set_option maxRecDepth 100000 in
theorem open_back {fuel : Nat} {cs : List Value} {x : DataW H × List MemPlace} (h : DataW.trod enc Tryd.prog w 0 (fun _ => true) true fuel 27 cs = some x) :
    ∃ b : BackD, BkDec w (old w) cs b ∧ 0 ≤ Rows.uptoBulk x.1 := by
  obtain ⟨xs, n, _, hx, hlen, hxl, hf⟩ := DataW.trod_struct Tryd.underlying27 h
  have hl3 : cs.length = 3 := hlen.trans (by kernel_rfl)
  match cs, hl3 with
  | [c0, c1, c2], _ =>
    match xs, hxl with
    | [x0, x1, x2], _ =>
      have f0 := hf 0 _ rfl
      have f1 := hf 1 _ rfl
      have f2 := hf 2 _ rfl
      have k3 : Tryd.prog.cellsOf 3 = 1 := by kernel_rfl
      have k22 : Tryd.prog.cellsOf 25 = 1 := by kernel_rfl
      simp [k3, k22] at f0 f1 f2
      obtain ⟨a, e0, _, _⟩ := DataW.trod_int Tryd.underlying3 f0
      obtain ⟨b, e1, _, wb⟩ := DataW.trod_int Tryd.underlying25 f1
      obtain ⟨c, e2, _, wc⟩ := DataW.trod_int Tryd.underlying3 f2
      injection e0 with e0; injection e1 with e1; injection e2 with e2
      subst e0 e1 e2
      obtain ⟨y, rfl⟩ := u32_of wb
      exact ⟨⟨a, y, c⟩, rfl, Nat.zero_le _⟩
set_option maxRecDepth 100000 in
theorem open_backs {fuel : Nat} {cs : List Value} {x : DataW H × List MemPlace} (h : DataW.trod enc Tryd.prog w 0 (fun _ => true) true fuel 22 cs = some x) :
    ∃ A m c l, cs = [.slice A m c] ∧ BkArr w (old w) (.slice A m c) l := by
  obtain ⟨A, m, c, E, D, e1, h2, h3, h4, h5, h6, h7⟩ := open_slice_at (n := 3) Tryd.underlying22 (by kernel_rfl) (by omega) h
  obtain ⟨l, hl, hd, hs⟩ := list_of_dec (α := BackD) (m := m) (E := E) (D := D) (Dec := fun cs a => BkDec w (old w) cs a) (bk := fun _ => 0) (fun i hi => by
    obtain ⟨_, fu, ps, ht⟩ := h6 i hi
    exact open_back ht)
  refine ⟨A, m, c, l, e1, A, m, c, rfl, hl, h2, h3, h4, fun hne => ?_⟩
  obtain ⟨g, o, e2, e3, e4⟩ := h5 (by
    rcases Nat.eq_zero_or_pos m with h0 | h0
    · subst h0; exact absurd (List.eq_nil_of_length_eq_zero hl) hne
    · exact h0)
  refine ⟨g, o, e2, List.mem_range.2 e3, e3, fun i a hi => ?_⟩
  have hlt : i < m := by have := (List.getElem?_eq_some_iff.1 hi).1; omega
  exact ⟨E i, (h6 i hlt).1, hd i a hi, fun j hj => e4 i j hlt hj⟩
end
end Go.Proofs.YtpbebadbnkimeaaDoor
