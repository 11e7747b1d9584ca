
/-
  The contract of the reference's Take.
-/
import Derived.Test.YtogdpfjbclnlnaaFrameU
namespace Go.Proofs.Ytogdpfjbclnlnaa
open Go.RowKit
set_option linter.unusedVariables false

theorem i64_two (p q : UInt8) : bits .or .i64 (wrap64 (wrap64 (p.toNat : Int) * 256)) (wrap64 (q.toNat : Int)) = (num [p, q] : Nat) := by
  have hp := p.toNat_lt
  have hq := q.toNat_lt
  rw [show wrap64 (wrap64 (p.toNat : Int) * 256) = ((p.toNat * 256 : Nat) : Int) by unfold wrap64; omega, show wrap64 (q.toNat : Int) = ((q.toNat : Nat) : Int) by unfold wrap64; omega]
  have hx : p.toNat * 256 ||| q.toNat < 2 ^ 64 := Nat.or_lt_two_pow (by omega) (by omega)
  have hj := nat_join 8 (p.toNat * 256) q.toNat (by omega) (by omega)
  show IntKind.i64.wrap ((BitVec.ofInt 64 ((p.toNat * 256 : Nat) : Int) ||| BitVec.ofInt 64 ((q.toNat : Nat) : Int)).toNat : Int) = _
  rw [BitVec.toNat_or, ofInt_u64 _ (by omega), ofInt_u64 _ (by omega), hj]
  have : num [p, q] = p.toNat * 256 + q.toNat := by simp [num]
  rw [this]
  exact IntWalk.i64_in _ (by omega)

end Go.Proofs.Ytogdpfjbclnlnaa
