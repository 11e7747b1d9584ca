
/-
  Contracts of the reference's functions on bytes.
-/
import Derived.Test.YtoibecclilmllaaOctS
namespace Go.Proofs.Ytoibecclilmllaa
open Go.RowKit
set_option linter.unusedVariables false

theorem New.made (w : World) (xs : Array Value) (n : Nat) (h : xs.size = n) (hn : n ≤ maxLen) : New w 5 1 (.slice (some ⟨w.heap.size, 0, none⟩) n n) n xs.toList (w.alloc (.cells xs 5)) := by
  refine ⟨?_, (Kept.refl _ _).alloc _, fun k hk => by simp [rowOf, Value.ownBlock] at hk; omega⟩
  exact ⟨by simp [h], .inr ⟨_, _, xs, rfl, Nat.zero_le _, heap_alloc_new w _, Nat.le_refl _, hn, by simp [h], by simp [← h, List.take_of_length_le]⟩⟩
theorem be1 (n : Int) : u8s (beK (nat64 n) 1 1) = [.int .u8 (n % 256)] := by
  have := nat64_cast n
  simp [u8s, beK, List.range_succ, u8v]
  omega
theorem be2 (n : Int) : u8s (beK (nat64 n) 2 2) = [.int .u8 (n / 256 % 256), .int .u8 (n % 256)] := by
  have := nat64_cast n
  simp [u8s, beK, List.range_succ, u8v]
  omega
theorem be4 (n : Nat) (hn : n < 4294967296) : u8s (beK n 4 4) = [.int .u8 ((n : Int) / 16777216), .int .u8 ((n : Int) / 65536 % 256), .int .u8 ((n : Int) / 256 % 256), .int .u8 ((n : Int) % 256)] := by
  simp [u8s, beK, List.range_succ, u8v]
  omega
theorem be8 (n : Nat) : beK n 8 8 = beK (n / 4294967296) 4 4 ++ beK (n % 4294967296) 4 4 := by
  simp [beK, List.range_succ]
  refine ⟨?_, ?_, ?_, ?_, ?_, ?_, ?_⟩ <;> (apply UInt8.toNat_inj.1; (try simp); (try omega))
theorem New.cast {w w' : World} {e : TypeId} {s n n' : Nat} {v : Value} {xs xs' : List Value} (h : New w e s v n xs w') (hn : n = n') (hx : xs = xs') : New w e s v n' xs' w' := by subst hn hx; exact h

end Go.Proofs.Ytoibecclilmllaa
