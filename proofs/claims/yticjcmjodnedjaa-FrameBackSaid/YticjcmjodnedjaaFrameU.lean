/-
  Contracts of the reference's u32 and Take.
-/
import Derived.Test.YticjcmjodnedjaaFrameR
import Derived.BigQuiet
namespace Go.Proofs.Yticjcmjodnedjaa
open Go.RowKit
set_option linter.unusedVariables false

theorem u32_four (a b c d : UInt8) : bits .or .u32 (bits .or .u32 (bits .or .u32 ((a.toNat : Int) % 4294967296 * 16777216 % 4294967296) ((b.toNat : Int) % 4294967296 * 65536 % 4294967296)) ((c.toNat : Int) % 4294967296 * 256 % 4294967296)) ((d.toNat : Int) % 4294967296) = (num [a, b, c, d] : Nat) := by
  have ha := a.toNat_lt
  have hb := b.toNat_lt
  have hc := c.toNat_lt
  have hd := d.toNat_lt
  rw [show ((a.toNat : Int) % 4294967296 * 16777216 % 4294967296) = ((a.toNat * 256 * 65536 : Nat) : Int) by omega, show ((b.toNat : Int) % 4294967296 * 65536 % 4294967296) = ((b.toNat * 65536 : Nat) : Int) by omega,
    show ((c.toNat : Int) % 4294967296 * 256 % 4294967296) = ((c.toNat * 256 : Nat) : Int) by omega, show ((d.toNat : Int) % 4294967296) = ((d.toNat : Nat) : Int) by omega]
  rw [u32_or_nat _ _ (by omega) (by omega), show a.toNat * 256 * 65536 = a.toNat * 2 ^ 24 by omega, nat_join 24 _ _ (by omega) (by omega)]
  rw [u32_or_nat _ _ (by omega) (by omega), show a.toNat * 2 ^ 24 + b.toNat * 65536 = (a.toNat * 256 + b.toNat) * 2 ^ 16 by omega, nat_join 16 _ _ (by omega) (by omega)]
  rw [u32_or_nat _ _ (by omega) (by omega), show (a.toNat * 256 + b.toNat) * 2 ^ 16 + c.toNat * 256 = ((a.toNat * 256 + b.toNat) * 256 + c.toNat) * 2 ^ 8 by omega, nat_join 8 _ _ (by omega) (by omega)]
  simp [num]

set_option maxHeartbeats 1600000 in
theorem ru32_any (w : World) (G : List Nat) (A : Option Addr) (m c : Nat) (x0 x1 x2 x3 : UInt8) (rest : List UInt8) (h : RdB w G (.slice A m c) (x0 :: x1 :: x2 :: x3 :: rest)) :
    Calls Try.prog 61 #[.slice A m c] w fun e w' => e = .returned (.int .u32 (num [x0, x1, x2, x3] : Nat)) ∧ ∃ n, w' = w.drewN n := by
  have hm := h.len
  have hm4 : 4 ≤ m := by rw [← hm.1]; simp
  obtain ⟨g, o, rfl, hc⟩ := h.rd (by simp [u8s])
  have hc0 := hc 0 (.int .u8 x0.toNat) (by simp [u8s, u8v])
  have hc1 := hc 1 (.int .u8 x1.toNat) (by simp [u8s, u8v])
  have hc2 := hc 2 (.int .u8 x2.toNat) (by simp [u8s, u8v])
  have hc3 := hc 3 (.int .u8 x3.toNat) (by simp [u8s, u8v])
  simp only [Nat.add_zero] at hc0
  clear h hc hm
  go_enter Try.func61, Try.ntmps61
  go_wp2
  go_quiet (fail)
  go_wp2
  go_ret
  exact ⟨by rw [← u32_four]; rfl, _, rfl⟩
end Go.Proofs.Yticjcmjodnedjaa
