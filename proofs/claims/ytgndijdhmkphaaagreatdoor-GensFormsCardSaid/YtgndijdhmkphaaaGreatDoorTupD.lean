/-
  Plain laws of tuples: they are in an order; two have one text just if they are the same.
-/
import Derived.Test.YtgndijdhmkphaaaGreatDoorRecB
import Derived.Test.YtgndijdhmkphaaaGreatDoorBlk
import Derived.Test.YtgndijdhmkphaaaGreatDoorRef1
import Derived.Test.YtgndijdhmkphaaaGreatDoorManF
import Derived.Test.YtgndijdhmkphaaaGreatDoorTupA
import Derived.Test.YtgndijdhmkphaaaGreatDoorBkx
import Derived.Test.YtgndijdhmkphaaaGreatDoorFrameA
namespace Go.Proofs.YtgndijdhmkphaaaGreatDoor
set_option linter.unusedVariables false
section
open Go.RowKit
set_option maxRecDepth 100000
theorem dec_digs : ∀ (n : Nat), ∀ c ∈ Lib.decDigits n, 48 ≤ c.toNat ∧ c.toNat ≤ 57 := by
  intro n
  induction n using Nat.strongRecOn with
  | ind n ih =>
    intro c hc
    by_cases h : n < 10
    · rw [Lib.decDigits_one h] at hc
      have : c = UInt8.ofNat (48 + n) := by simpa using hc
      rw [this, UInt8.toNat_ofNat', Nat.mod_eq_of_lt (by omega)]
      omega
    · rw [dec_step h, List.mem_append] at hc
      rcases hc with hc | hc
      · exact ih (n / 10) (by omega) c hc
      · have : c = UInt8.ofNat (48 + n % 10) := by simpa using hc
        rw [this, UInt8.toNat_ofNat', Nat.mod_eq_of_lt (by omega)]
        omega
theorem dec_val : ∀ (n : Nat), numV (Lib.decDigits n) = n := by
  intro n
  induction n using Nat.strongRecOn with
  | ind n ih =>
    by_cases h : n < 10
    · rw [Lib.decDigits_one h]
      simp only [numV, List.foldl_cons, List.foldl_nil, UInt8.toNat_ofNat']
      omega
    · rw [dec_step h, numV_snoc, ih (n / 10) (by omega), UInt8.toNat_ofNat']
      omega
theorem dec_no {n : Nat} {s : UInt8} (h : ¬ (48 ≤ s.toNat ∧ s.toNat ≤ 57)) : s ∉ Lib.decDigits n := fun hm => h (dec_digs n s hm)
theorem addr_no (a : UInt32) {s : UInt8} (h : ¬ (48 ≤ s.toNat ∧ s.toNat ≤ 57)) (h2 : s ≠ 46) : s ∉ addrF a := by
  rw [addrF_eq]
  simp only [List.mem_append, List.mem_cons]
  have := fun j => @dec_no (byteN a j) s h
  simp [this, h2]
end
end Go.Proofs.YtgndijdhmkphaaaGreatDoor
