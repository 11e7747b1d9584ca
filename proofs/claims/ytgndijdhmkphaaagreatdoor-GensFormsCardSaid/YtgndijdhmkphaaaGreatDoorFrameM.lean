/-
  Frames as bytes: plain laws. What is put is taken; what is scanned.
-/
import Derived.Laws.BytesArg
import Derived.Test.YtgndijdhmkphaaaGreatDoorOctR
import Derived.Lib.SlBytesConst
import Derived.Test.YtgndijdhmkphaaaGreatDoorRecM
import Derived.Test.YtgndijdhmkphaaaGreatDoorRef1
import Derived.Test.YtgndijdhmkphaaaGreatDoorLv
namespace Go.Proofs.YtgndijdhmkphaaaGreatDoor
set_option linter.unusedVariables false
section
open Go.RowKit
set_option maxRecDepth 100000
def strOf (bs : List UInt8) : ByteArray := ⟨bs.toArray⟩
theorem strOf_toList (l : List UInt8) : (strOf l).toList = l := by rw [ByteArray.toList_eq]; simp [strOf]
end
section
open Go.RowKit
set_option maxRecDepth 100000
structure FrameD where
  kind : Int
  ver : Int
  body : List UInt8
instance : Inhabited FrameD := ⟨⟨0, 0, []⟩⟩
end
section
open Go.RowKit
set_option maxRecDepth 100000
theorem num_beK' (x w : Nat) : num (beK x w w) = x % 256 ^ w := by
  have h : ∀ w k, k ≤ w → num (beK x w k) = x / 256 ^ (w - k) % 256 ^ k := by
    intro w k
    induction k with
    | zero => intro _; simp [beK, num, Nat.mod_one]
    | succ k ih =>
      intro hk
      rw [beK_succ, num_snoc, ih (by omega)]
      have e1 : (2 : Nat) ^ (8 * (w - 1 - k)) = 256 ^ (w - (k + 1)) := by
        rw [Nat.pow_mul]; congr 1; omega
      have e2 : 256 ^ (w - k) = 256 ^ (w - (k + 1)) * 256 := by rw [← Nat.pow_succ]; congr 1; omega
      rw [e1, e2, ← Nat.div_div_eq_div_mul, UInt8.toNat_ofNat']
      generalize x / 256 ^ (w - (k + 1)) = y
      have e3 : (256 : Nat) ^ (k + 1) = 256 * 256 ^ k := by rw [Nat.pow_succ, Nat.mul_comm]
      have e4 : (2 : Nat) ^ 8 = 256 := by decide
      rw [e3, e4, Nat.mod_mul]
      generalize y / 256 % 256 ^ k = z
      omega
  have := h w w (Nat.le_refl _)
  simpa using this
end
end Go.Proofs.YtgndijdhmkphaaaGreatDoor
