
/-
  Contracts of octet.Writer's other functions.
-/
import Derived.Test.YtdabbkkjmmbigaaOct
namespace Go.Proofs.Ytdabbkkjmmbigaa
open Go.RowKit
set_option linter.unusedVariables false

/-- a number as 64 bits -/
def nat64 (n : Int) : Nat := (n % 18446744073709551616).toNat
theorem nat64_cast (n : Int) : ((nat64 n : Nat) : Int) = n % 18446744073709551616 := by unfold nat64; omega
theorem wrap_u64 (n : Int) : IntKind.u64.wrap n = (nat64 n : Int) := by rw [IntKind.wrap_u64, nat64_cast]
theorem nat64_small (n : Nat) (h : n < 18446744073709551616) : nat64 n = n := by unfold nat64; omega

/-- a slice of the call's own that was not there before w -/
def New (w : World) (e : TypeId) (s : Nat) (v : Value) (n : Nat) (xs : List Value) (w' : World) : Prop := Own w' e s v n xs ∧ Kept [] w w' ∧ ∀ k ∈ rowOf v, w.heap.size ≤ k
theorem New.nil (w : World) (e : TypeId) (s : Nat) : New w e s (.slice none 0 0) 0 [] w := ⟨Own.nil _ _ _, Kept.refl _ _, fun k hk => by simp [rowOf, Value.ownBlock] at hk⟩

theorem Own.slice {w : World} {e : TypeId} {s n : Nat} {v : Value} {xs : List Value} (h : Own w e s v n xs) : ∃ A cap, v = .slice A n cap ∧ n ≤ cap ∧ cap ≤ maxLen ∧ Rd w A xs ∧ addrOf A = rowOf v ∧ (A = none → n = 0 ∧ cap = 0) := by
  rcases h.2 with ⟨rfl, h0⟩ | ⟨g, cap, cur, rfl, hb, hg, hn, hm, hs, ht⟩
  · obtain ⟨A, cap, h1, h2, h3, h4, h5⟩ := Rd.of_own h
    injection h1 with e1 e2 e3
    subst e1 e3
    exact ⟨none, 0, by rw [← e2], h2, h3, h4, h5, fun _ => ⟨e2.symm, rfl⟩⟩
  · obtain ⟨A, cap, h1, h2, h3, h4, h5⟩ := Rd.of_own h
    injection h1 with e1 e2 e3
    subst e1 e3
    exact ⟨_, _, rfl, h2, h3, h4, h5, fun h => by cases h⟩

end Go.Proofs.Ytdabbkkjmmbigaa
