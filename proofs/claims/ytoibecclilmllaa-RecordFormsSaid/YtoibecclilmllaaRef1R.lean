
/-
  Contracts of the reference's reader.
-/
import Derived.Test.YtoibecclilmllaaRef1
namespace Go.Proofs.Ytoibecclilmllaa
open Go.RowKit
set_option linter.unusedVariables false

def tkr (bs : List UInt8) (e n : Int) : List UInt8 × List UInt8 × Int :=
  if e ≠ 0 ∨ (bs.length : Int) < n then ([], [], 2) else (bs.take n.toNat, bs.drop n.toNat, e)

theorem RdB.nil (w : World) (G : List Nat) : RdB w G (.slice none 0 0) [] := ⟨none, 0, 0, rfl, rfl, by omega, by unfold maxLen; omega, Rd.nil _ _, by simp [addrOf], by simp⟩
theorem mem_add {A : Option Addr} {k i : Nat} (h : i ∈ addrOf (A.map (·.add k))) : i ∈ addrOf A := by
  cases A <;> simp_all [addrOf, Addr.add]
  split at h <;> simp_all

theorem tkr_len (bs : List UInt8) (e : Int) (n : Nat) : (tkr bs e n).1.length ≤ n := by
  unfold tkr; split <;> simp; omega

end Go.Proofs.Ytoibecclilmllaa
