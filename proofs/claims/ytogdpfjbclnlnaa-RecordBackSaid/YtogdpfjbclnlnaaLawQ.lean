
/-
  The walk of RecordBack, joined.
-/
import Derived.Test.YtogdpfjbclnlnaaLawQ1
import Derived.Test.YtogdpfjbclnlnaaLawQ2
import Derived.Test.YtogdpfjbclnlnaaLawQ3
import Derived.Test.YtogdpfjbclnlnaaLawQ4
namespace Go.Proofs.Ytogdpfjbclnlnaa
open Go.RowKit Go.ChangeShapes Go.WideShapes Go.Deep
set_option linter.unusedVariables false
theorem RecordBack_any (w : World) {A : Option Addr} {m c : Nat} {B : Option Addr} {n d : Nat} (r : RecD) (v : Int) (f : FrameD) (h1 : BkArr w (old w) (.slice A m c) r.backs) (h2 : RdB w (old w) (.slice B n d) f.body) :
    Calls Try.prog 11 #[.agg #[.int .i64 r.kind, .int .u32 (r.tup.src.toNat : Nat), .int .u32 (r.tup.dst.toNat : Nat), .int .i64 r.tup.proto, .int .i64 r.tup.sport, .int .i64 r.tup.dport, .int .i64 r.fb, .int .i64 r.fg, .int .i64 r.fs, .int .i64 r.gen, .slice A m c, .int .i64 r.back, .int .i64 r.until_, .int .i64 r.count], .int .i64 v, .agg #[.int .i64 f.kind, .int .i64 f.ver, .slice B n d]] w fun e w' => e = .returned (.bool true) ∧ Kept [] w w' := by
  by_cases g1 : m ≤ 40
  · by_cases g2 : n ≤ 400
    · by_cases k1 : v < 1
      · exact RecordBack_3 w r v f g1 g2 k1 h1 h2
      · by_cases k3 : 3 < v
        · exact RecordBack_4 w r v f g1 g2 k3 h1 h2
        · cases dm : mayR r
          · exact RecordBack_5 w r v f g1 g2 k1 k3 dm h1 h2
          · by_cases k2 : v < 3
            · exact RecordBack_6 w r v f g1 g2 k1 k2 dm h1 h2
            · exact RecordBack_7 w r v f g1 g2 (by omega) dm h1 h2
    · exact RecordBack_2 w r v f g1 g2 h1 h2
  · exact RecordBack_1 w r v f g1 h1 h2

set_option maxRecDepth 100000 in
theorem RecordBack_walk {H : Type} {enc : TypeId × Value → H} {S : Prop} (W : World) (base : Nat) (v0 : Value) (d0 : DataW H) (p0 : List MemPlace) (v1 : Value) (d1 : DataW H) (p1 : List MemPlace) (v2 : Value) (d2 : DataW H) (p2 : List MemPlace)
    (hv0 : Value.okWide Try.prog W .any base 29 v0) (hv1 : Value.okWide Try.prog W .any base 3 v1) (hv2 : Value.okWide Try.prog W .any base 34 v2)
    (h0 : DataW.Trod enc Try.prog W 0 (fun _ => true) true 29 v0 d0 p0) (h1 : DataW.Trod enc Try.prog W 0 (fun _ => true) true 3 v1 d1 p1) (h2 : DataW.Trod enc Try.prog W 0 (fun _ => true) true 34 v2 d2 p2) (_ : S) :
    Calls Try.prog 11 #[v0, v1, v2] W fun e W' => e = .returned (.bool true) ∧ Below W.heap.size W W' := by
  obtain ⟨r, A, m, c, rfl, hr⟩ := open_record hv0 h0
  obtain ⟨v, rfl, rfl, rfl, _⟩ := open_int Try.underlying3 hv1 h1
  obtain ⟨f, B, n, d, rfl, hf, _⟩ := open_frame hv2 h2
  exact (RecordBack_any W r v f hr hf).mono fun e W' ⟨h, hk⟩ => ⟨h, hk.below (Nat.le_refl _) (by simp)⟩
end Go.Proofs.Ytogdpfjbclnlnaa
