
/-
  Arguments of the laws on records, opened.
-/
import Derived.Test.YtflbeipnnmeiaaaDoorRecD
import Derived.Test.YtflbeipnnmeiaaaDoorArgs
namespace Go.Proofs.YtflbeipnnmeiaaaDoor
open Go.RowKit Go.ChangeShapes Go.WideShapes Go.ChangeAt Go.Deep
set_option linter.unusedVariables false
set_option maxRecDepth 100000
section
variable {H : Type} {enc : TypeId × Value → H} {w : World}
theorem u32_of {n : Int} (h : (Lit.int .u32 n).wf = true) : ∃ x : UInt32, n = (x.toNat : Nat) := by
  simp [Lit.wf, IntKind.min, IntKind.max, IntKind.signed, IntKind.bits] at h
  refine ⟨UInt32.ofNat n.toNat, ?_⟩
  simp only [UInt32.toNat_ofNat']
  omega
set_option maxRecDepth 100000 in
theorem open_tuple {fuel : Nat} {cs : List Value} {x : DataW H × List MemPlace} (h : DataW.trod enc Tryd.prog w 0 (fun _ => true) true fuel 24 cs = some x) : ∃ t : TupD, cs = [.int .u32 (t.src.toNat : Nat), .int .u32 (t.dst.toNat : Nat), .int .i64 t.proto, .int .i64 t.sport, .int .i64 t.dport] := by
  obtain ⟨xs, n, _, hx, hlen, hxl, hf⟩ := DataW.trod_struct Tryd.underlying24 h
  have hl3 : cs.length = 5 := hlen.trans (by kernel_rfl)
  match cs, hl3 with
  | [c0, c1, c2, c3, c4], _ =>
    match xs, hxl with
    | [x0, x1, x2, x3, x4], _ =>
      have f0 := hf 0 _ rfl
      have f1 := hf 1 _ rfl
      have f2 := hf 2 _ rfl
      have f3 := hf 3 _ rfl
      have f4 := hf 4 _ rfl
      have k3 : Tryd.prog.cellsOf 3 = 1 := by kernel_rfl
      have k22 : Tryd.prog.cellsOf 22 = 1 := by kernel_rfl
      simp [k3, k22] at f0 f1 f2 f3 f4
      obtain ⟨a, e0, _, wa⟩ := DataW.trod_int Tryd.underlying22 f0
      obtain ⟨b, e1, _, wb⟩ := DataW.trod_int Tryd.underlying22 f1
      obtain ⟨c, e2, _, _⟩ := DataW.trod_int Tryd.underlying3 f2
      obtain ⟨d, e3, _, _⟩ := DataW.trod_int Tryd.underlying3 f3
      obtain ⟨e, e4, _, _⟩ := DataW.trod_int Tryd.underlying3 f4
      injection e0 with e0; injection e1 with e1; injection e2 with e2; injection e3 with e3; injection e4 with e4
      subst e0 e1 e2 e3 e4
      obtain ⟨x, rfl⟩ := u32_of wa
      obtain ⟨y, rfl⟩ := u32_of wb
      exact ⟨⟨x, y, c, d, e⟩, rfl⟩
end
end Go.Proofs.YtflbeipnnmeiaaaDoor
