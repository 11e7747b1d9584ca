
/-
  The CRC-32C of bytes: both programs compute one function.
-/
import Derived.Test.YtoibecclilmllaaOctS
namespace Go.Proofs.Ytoibecclilmllaa
open Go.RowKit
set_option linter.unusedVariables false

/-- one bit of the sum -/
def crcBit (c : Nat) : Nat := if c % 2 = 1 then (c / 2) ^^^ 2197175160 else c / 2
def crcBits : Nat → Nat → Nat
  | 0, c => c
  | k + 1, c => crcBit (crcBits k c)
def crcByte (c : Nat) (b : UInt8) : Nat := crcBits 8 (c ^^^ b.toNat)
def crcFrom (c : Nat) (bs : List UInt8) : Nat := bs.foldl crcByte c
def crc (bs : List UInt8) : Nat := 4294967295 ^^^ crcFrom 4294967295 bs
theorem crcBit_lt {c : Nat} (h : c < 4294967296) : crcBit c < 4294967296 := by
  unfold crcBit
  split
  · exact Nat.xor_lt_two_pow (n := 32) (by omega) (by omega)
  · omega
theorem crcBits_lt {c : Nat} (h : c < 4294967296) (k : Nat) : crcBits k c < 4294967296 := by
  induction k with
  | zero => exact h
  | succ k ih => exact crcBit_lt ih
theorem xor_byte_lt {c : Nat} (h : c < 4294967296) (b : UInt8) : c ^^^ b.toNat < 4294967296 :=
  Nat.xor_lt_two_pow (n := 32) (by omega) (by have := b.toNat_lt; omega)
theorem crcByte_lt {c : Nat} (h : c < 4294967296) (b : UInt8) : crcByte c b < 4294967296 := crcBits_lt (xor_byte_lt h b) 8
theorem crcFrom_lt (bs : List UInt8) : ∀ {c : Nat}, c < 4294967296 → crcFrom c bs < 4294967296 := by
  induction bs with
  | nil => intro c h; exact h
  | cons b bs ih => intro c h; exact ih (crcByte_lt h b)
theorem crcFrom_snoc (c : Nat) (bs : List UInt8) (b : UInt8) : crcFrom c (bs ++ [b]) = crcByte (crcFrom c bs) b := by simp [crcFrom]
theorem crcFrom_take (c : Nat) (bs : List UInt8) (k : Nat) (h : k < bs.length) : crcFrom c (bs.take (k + 1)) = crcByte (crcFrom c (bs.take k)) (bs[k]?.getD 0) := by
  rw [List.take_succ_eq_append_getElem h, crcFrom_snoc, List.getElem?_eq_getElem h]; rfl
theorem crc_lt (bs : List UInt8) : crc bs < 4294967296 := Nat.xor_lt_two_pow (n := 32) (by omega) (crcFrom_lt bs (by omega))
theorem bit_odd {z : Nat} (hz : z < 4294967296) (h : z % 2 = 1) : bits .xor .u32 ((z : Int) / 2) 2197175160 = (crcBit z : Nat) := by
  unfold crcBit
  rw [if_pos h, show ((z : Int) / 2) = ((z / 2 : Nat) : Int) by omega, show (2197175160 : Int) = ((2197175160 : Nat) : Int) from rfl, u32_xor_nat _ _ (by omega) (by omega)]
theorem bit_even {z : Nat} (h : ¬ z % 2 = 1) : (z : Int) / 2 = (crcBit z : Nat) := by
  unfold crcBit; rw [if_neg h]; omega
theorem crc_end (bs : List UInt8) : bits .xor .u32 IntKind.u32.max (crcFrom 4294967295 bs : Nat) = (crc bs : Nat) := by
  rw [show IntKind.u32.max = ((4294967295 : Nat) : Int) by decide, u32_xor_nat _ _ (by omega) (crcFrom_lt bs (by omega))]; rfl

end Go.Proofs.Ytoibecclilmllaa
