
/-
  The CRC-32C of bytes: both programs compute one function.
-/
import Derived.Test.YtflbeipnnmeiaaaDoorOctS
namespace Go.Proofs.YtflbeipnnmeiaaaDoor
open Go.RowKit
set_option linter.unusedVariables false
set_option maxRecDepth 100000

/-- one bit of the sum -/
def crcBit (c : Nat) : Nat := if c % 2 = 1 then (c / 2) ^^^ 2197175160 else c / 2
def crcBits : Nat → Nat → Nat
  | 0, c => c
  | k + 1, c => crcBit (crcBits k c)
def crcByte (c : Nat) (b : UInt8) : Nat := crcBits 8 (c ^^^ b.toNat)
def crcFrom (c : Nat) (bs : List UInt8) : Nat := bs.foldl crcByte c
def crc (bs : List UInt8) : Nat := 4294967295 ^^^ crcFrom 4294967295 bs
theorem crcBit_lt {c : Nat} (h : c < 4294967296) : crcBit c < 4294967296 := by
  unfold crcBit
  split
  · exact Nat.xor_lt_two_pow (n := 32) (by omega) (by omega)
  · omega
theorem crcBits_lt {c : Nat} (h : c < 4294967296) (k : Nat) : crcBits k c < 4294967296 := by
  induction k with
  | zero => exact h
  | succ k ih => exact crcBit_lt ih
theorem xor_byte_lt {c : Nat} (h : c < 4294967296) (b : UInt8) : c ^^^ b.toNat < 4294967296 :=
  Nat.xor_lt_two_pow (n := 32) (by omega) (by have := b.toNat_lt; omega)
theorem crcByte_lt {c : Nat} (h : c < 4294967296) (b : UInt8) : crcByte c b < 4294967296 := crcBits_lt (xor_byte_lt h b) 8
theorem crcFrom_lt (bs : List UInt8) : ∀ {c : Nat}, c < 4294967296 → crcFrom c bs < 4294967296 := by
  induction bs with
  | nil => intro c h; exact h
  | cons b bs ih => intro c h; exact ih (crcByte_lt h b)
theorem crcFrom_snoc (c : Nat) (bs : List UInt8) (b : UInt8) : crcFrom c (bs ++ [b]) = crcByte (crcFrom c bs) b := by simp [crcFrom]
theorem crcFrom_take (c : Nat) (bs : List UInt8) (k : Nat) (h : k < bs.length) : crcFrom c (bs.take (k + 1)) = crcByte (crcFrom c (bs.take k)) (bs[k]?.getD 0) := by
  rw [List.take_succ_eq_append_getElem h, crcFrom_snoc, List.getElem?_eq_getElem h]; rfl
theorem crc_lt (bs : List UInt8) : crc bs < 4294967296 := Nat.xor_lt_two_pow (n := 32) (by omega) (crcFrom_lt bs (by omega))
theorem bit_odd {z : Nat} (hz : z < 4294967296) (h : z % 2 = 1) : bits .xor .u32 ((z : Int) / 2) 2197175160 = (crcBit z : Nat) := by
  unfold crcBit
  rw [if_pos h, show ((z : Int) / 2) = ((z / 2 : Nat) : Int) by omega, show (2197175160 : Int) = ((2197175160 : Nat) : Int) from rfl, u32_xor_nat _ _ (by omega) (by omega)]
theorem bit_even {z : Nat} (h : ¬ z % 2 = 1) : (z : Int) / 2 = (crcBit z : Nat) := by
  unfold crcBit; rw [if_neg h]; omega
theorem crc_end (bs : List UInt8) : bits .xor .u32 IntKind.u32.max (crcFrom 4294967295 bs : Nat) = (crc bs : Nat) := by
  rw [show IntKind.u32.max = ((4294967295 : Nat) : Int) by decide, u32_xor_nat _ _ (by omega) (crcFrom_lt bs (by omega))]; rfl

set_option maxHeartbeats 800000 in
theorem Crc_any (w : World) (G : List Nat) (A : Option Addr) (m c : Nat) (bs : List UInt8) (h : RdB w G (.slice A m c) bs) :
    Calls Tryd.prog 64 #[.slice A m c] w fun e w' => e = .returned (.int .u32 (crc bs : Nat)) ∧ w = w' := by
  have hl := h.len
  have H := Lib.hid h
  have Hl := Lib.hid hl.1
  have hcm := hl.2.2.1
  have hmc := hl.2.1
  unfold maxLen at hcm
  clear h hl
  go_enter Tryd.func64, Tryd.ntmps64
  go_wp2
  go_loop [3, 9] (fun x i => ∃ k : Nat, k ≤ m ∧ i = .int .i64 k ∧ x = .int .u32 (crcFrom 4294967295 (bs.take k) : Nat)) (fun _ i => m - (intOf i).toNat)
  case atStart => exact ⟨0, by omega, rfl, rfl⟩
  case round =>
    obtain ⟨k, hk, rfl, rfl⟩ := hrel
    have hlt0 : crcFrom 4294967295 (bs.take k) < 4294967296 := crcFrom_lt _ (by omega)
    by_cases hlt : k < m
    · obtain ⟨g, o, rfl, hc⟩ := H.out.at hlt
      have Hst := Lib.hid (crcFrom_take 4294967295 bs k (by rw [Hl.out]; exact hlt))
      generalize crcFrom 4294967295 (bs.take k) = s at *
      generalize bs[k]?.getD 0 = b at *
      have hb := b.toNat_lt
      have hx : bits .xor .u32 (s : Int) (b.toNat : Int) = ((s ^^^ b.toNat : Nat) : Int) := u32_xor_nat _ _ hlt0 (by omega)
      have hxl := xor_byte_lt hlt0 b
      have hst2 : crcByte s b = crcBits 8 (s ^^^ b.toNat) := rfl
      have Hst2 := Lib.hid hst2
      clear hst2
      generalize s ^^^ b.toNat = y at *
      go_wp2
      clear hx
      go_loop [3, 17] (fun x j => ∃ i : Nat, i ≤ 8 ∧ j = .int .i64 i ∧ x = .int .u32 (crcBits i y : Nat)) (fun _ j => 8 - (intOf j).toNat)
      case atStart => exact ⟨0, by omega, rfl, rfl⟩
      case round =>
        obtain ⟨i, hi, rfl, rfl⟩ := hrel
        have hz := crcBits_lt hxl i
        by_cases hi8 : i < 8
        · have hs2 : crcBits (i + 1) y = crcBit (crcBits i y) := rfl
          have Hs2 := Lib.hid hs2
          clear hs2
          generalize crcBits i y = z at *
          have ha : bits .and .u32 (z : Int) 1 = ((z % 2 : Nat) : Int) := by
            rw [show (1 : Int) = ((1 : Nat) : Int) from rfl, u32_and_nat _ _ hz (by omega), nat_mask1]
          by_cases hodd : z % 2 = 1
          · go_wp2
            go_round
            case rel => exact ⟨i + 1, by omega, by go_num, by rw [bit_odd hz hodd, Hs2.out]⟩
            case measure => simp [intOf]; omega
          · go_wp2
            go_round
            case rel => exact ⟨i + 1, by omega, by go_num, by rw [bit_even hodd, Hs2.out]⟩
            case measure => simp [intOf]; omega
        · obtain rfl : i = 8 := by omega
          go_wp2
          go_round
          case rel => exact ⟨k + 1, by omega, by go_num, by rw [Hst.out, Hst2.out]⟩
          case measure => simp [intOf]; omega
    · have hf : bs.take k = bs := List.take_of_length_le (by rw [Hl.out]; omega)
      rw [hf]
      clear hf hlt0
      go_wp2
      go_ret
      exact ⟨by rw [← crc_end]; rfl, rfl⟩

end Go.Proofs.YtflbeipnnmeiaaaDoor
