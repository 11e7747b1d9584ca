
/-
  The walk of MigrateParts, joined.
-/
import Derived.Test.YtogdpfjbclnlnaaLawT1
import Derived.Test.YtogdpfjbclnlnaaLawT2
import Derived.Test.YtogdpfjbclnlnaaLawT3
namespace Go.Proofs.Ytogdpfjbclnlnaa
open Go.RowKit Go.ChangeShapes Go.WideShapes Go.Deep
set_option linter.unusedVariables false
theorem MigrateParts_any (w : World) {A : Option Addr} {m c : Nat} (r : RecD) (from_ by_ to_ : Int) (h1 : BkArr w (old w) (.slice A m c) r.backs) :
    Calls Try.prog 6 #[.agg #[.int .i64 r.kind, .int .u32 (r.tup.src.toNat : Nat), .int .u32 (r.tup.dst.toNat : Nat), .int .i64 r.tup.proto, .int .i64 r.tup.sport, .int .i64 r.tup.dport, .int .i64 r.fb, .int .i64 r.fg, .int .i64 r.fs, .int .i64 r.gen, .slice A m c, .int .i64 r.back, .int .i64 r.until_, .int .i64 r.count], .int .i64 from_, .int .i64 by_, .int .i64 to_] w fun e w' => e = .returned (.bool true) ∧ Kept [] w w' := by
  by_cases g1 : m ≤ 40
  · cases dm : mayR r
    · exact MigrateParts_5 w r from_ by_ to_ g1 dm h1
    · by_cases hk : r.kind = 1
      · exact MigrateParts_1 w r from_ by_ to_ g1 dm hk h1
      · by_cases hk3 : r.kind = 3
        · exact MigrateParts_2 w r from_ by_ to_ g1 dm hk3 h1
        · exact MigrateParts_3 w r from_ by_ to_ g1 dm hk hk3 h1
  · exact MigrateParts_4 w r from_ by_ to_ g1 h1

set_option maxRecDepth 100000 in
theorem MigrateParts_walk {H : Type} {enc : TypeId × Value → H} {S : Prop} (W : World) (base : Nat) (v0 : Value) (d0 : DataW H) (p0 : List MemPlace) (v1 : Value) (d1 : DataW H) (p1 : List MemPlace) (v2 : Value) (d2 : DataW H) (p2 : List MemPlace) (v3 : Value) (d3 : DataW H) (p3 : List MemPlace)
    (hv0 : Value.okWide Try.prog W .any base 29 v0) (hv1 : Value.okWide Try.prog W .any base 3 v1) (hv2 : Value.okWide Try.prog W .any base 3 v2) (hv3 : Value.okWide Try.prog W .any base 3 v3)
    (h0 : DataW.Trod enc Try.prog W 0 (fun _ => true) true 29 v0 d0 p0) (h1 : DataW.Trod enc Try.prog W 0 (fun _ => true) true 3 v1 d1 p1) (h2 : DataW.Trod enc Try.prog W 0 (fun _ => true) true 3 v2 d2 p2) (h3 : DataW.Trod enc Try.prog W 0 (fun _ => true) true 3 v3 d3 p3) (_ : S) :
    Calls Try.prog 6 #[v0, v1, v2, v3] W fun e W' => e = .returned (.bool true) ∧ Below W.heap.size W W' := by
  obtain ⟨r, A, m, c, rfl, hr⟩ := open_record hv0 h0
  obtain ⟨x, rfl, rfl, rfl, _⟩ := open_int Try.underlying3 hv1 h1
  obtain ⟨y, rfl, rfl, rfl, _⟩ := open_int Try.underlying3 hv2 h2
  obtain ⟨z, rfl, rfl, rfl, _⟩ := open_int Try.underlying3 hv3 h3
  exact (MigrateParts_any W r x y z hr).mono fun e W' ⟨h, hk⟩ => ⟨h, hk.below (Nat.le_refl _) (by simp)⟩
end Go.Proofs.Ytogdpfjbclnlnaa
