
/-
  The walk of RecordFields, joined.
-/
import Derived.Test.YtogdpfjbclnlnaaLawN1
import Derived.Test.YtogdpfjbclnlnaaLawN2
import Derived.Test.YtogdpfjbclnlnaaLawN3
import Derived.Test.YtogdpfjbclnlnaaLawN4
namespace Go.Proofs.Ytogdpfjbclnlnaa
open Go.RowKit Go.ChangeShapes Go.WideShapes Go.Deep
set_option linter.unusedVariables false
theorem RecordFields_any (w : World) {A : Option Addr} {m c : Nat} {B : Option Addr} {n d : Nat} (r s : RecD) (v : Int) (h1 : BkArr w (old w) (.slice A m c) r.backs) (h2 : BkArr w (old w) (.slice B n d) s.backs) :
    Calls Try.prog 7 #[.agg #[.int .i64 r.kind, .int .u32 (r.tup.src.toNat : Nat), .int .u32 (r.tup.dst.toNat : Nat), .int .i64 r.tup.proto, .int .i64 r.tup.sport, .int .i64 r.tup.dport, .int .i64 r.fb, .int .i64 r.fg, .int .i64 r.fs, .int .i64 r.gen, .slice A m c, .int .i64 r.back, .int .i64 r.until_, .int .i64 r.count], .agg #[.int .i64 s.kind, .int .u32 (s.tup.src.toNat : Nat), .int .u32 (s.tup.dst.toNat : Nat), .int .i64 s.tup.proto, .int .i64 s.tup.sport, .int .i64 s.tup.dport, .int .i64 s.fb, .int .i64 s.fg, .int .i64 s.fs, .int .i64 s.gen, .slice B n d, .int .i64 s.back, .int .i64 s.until_, .int .i64 s.count], .int .i64 v] w fun e w' => e = .returned (.bool true) ∧ Kept [] w w' := by
  by_cases g1 : m ≤ 40
  · by_cases g2 : n ≤ 40
    · have hk : r.kind = 1 ∨ r.kind = 2 ∨ r.kind = 3 ∨ r.kind = 4 ∨ r.kind = 5 ∨ r.kind = 6 ∨ (r.kind < 1 ∨ 6 < r.kind) := by omega
      rcases hk with hk | hk | hk | hk | hk | hk | hk
      · exact RecordFields_1 w r s v g1 g2 hk h1 h2
      · exact RecordFields_2 w r s v g1 g2 hk h1 h2
      · exact RecordFields_3 w r s v g1 g2 hk h1 h2
      · exact RecordFields_4 w r s v g1 g2 hk h1 h2
      · exact RecordFields_5 w r s v g1 g2 hk h1 h2
      · exact RecordFields_6 w r s v g1 g2 hk h1 h2
      · exact RecordFields_7 w r s v g1 g2 hk h1 h2
    · exact RecordFields_9 w r s v g1 g2 h1 h2
  · exact RecordFields_8 w r s v g1 h1 h2

set_option maxRecDepth 100000 in
theorem RecordFields_walk {H : Type} {enc : TypeId × Value → H} {S : Prop} (W : World) (base : Nat) (v0 : Value) (d0 : DataW H) (p0 : List MemPlace) (v1 : Value) (d1 : DataW H) (p1 : List MemPlace) (v2 : Value) (d2 : DataW H) (p2 : List MemPlace)
    (hv0 : Value.okWide Try.prog W .any base 29 v0) (hv1 : Value.okWide Try.prog W .any base 29 v1) (hv2 : Value.okWide Try.prog W .any base 3 v2)
    (h0 : DataW.Trod enc Try.prog W 0 (fun _ => true) true 29 v0 d0 p0) (h1 : DataW.Trod enc Try.prog W 0 (fun _ => true) true 29 v1 d1 p1) (h2 : DataW.Trod enc Try.prog W 0 (fun _ => true) true 3 v2 d2 p2) (_ : S) :
    Calls Try.prog 7 #[v0, v1, v2] W fun e W' => e = .returned (.bool true) ∧ Below W.heap.size W W' := by
  obtain ⟨r, A, m, c, rfl, hr⟩ := open_record hv0 h0
  obtain ⟨s, B, n, d, rfl, hs⟩ := open_record hv1 h1
  obtain ⟨v, rfl, rfl, rfl, _⟩ := open_int Try.underlying3 hv2 h2
  exact (RecordFields_any W r s v hr hs).mono fun e W' ⟨h, hk⟩ => ⟨h, hk.below (Nat.le_refl _) (by simp)⟩
end Go.Proofs.Ytogdpfjbclnlnaa
