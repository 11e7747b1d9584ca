/-
  Contracts of octet.Reader's functions.
-/
import Derived.Test.YtgndijdhmkphaaaGreatDoorRows
import Derived.Deep.RegionHeld3
import Derived.Deep.RegionLaw
import Derived.Deep.LoopGhost
import Derived.Outline
import Derived.Test.YtgndijdhmkphaaaGreatDoorBase
namespace Go.Proofs.YtgndijdhmkphaaaGreatDoor
set_option linter.unusedVariables false
section
open Go.RowKit
set_option maxRecDepth 100000
abbrev u8v (b : UInt8) : Value := .int .u8 (b.toNat : Int)
def u8s (bs : List UInt8) : List Value := bs.map u8v
def beK (x width k : Nat) : List UInt8 := (List.range k).map fun i => UInt8.ofNat (x / 2 ^ (8 * (width - 1 - i)))
theorem beK_succ (x width k : Nat) : beK x width (k + 1) = beK x width k ++ [UInt8.ofNat (x / 2 ^ (8 * (width - 1 - k)))] := by simp [beK, List.range_succ]
end
section
open Go.RowKit
set_option maxRecDepth 100000
def nat64 (n : Int) : Nat := (n % 18446744073709551616).toNat
theorem nat64_cast (n : Int) : ((nat64 n : Nat) : Int) = n % 18446744073709551616 := by unfold nat64; omega
theorem wrap_u64 (n : Int) : IntKind.u64.wrap n = (nat64 n : Int) := by rw [IntKind.wrap_u64, nat64_cast]
def New (w : World) (e : TypeId) (s : Nat) (v : Value) (n : Nat) (xs : List Value) (w' : World) : Prop := Own w' e s v n xs ∧ Kept [] w w' ∧ ∀ k ∈ rowOf v, w.heap.size ≤ k
theorem New.nil (w : World) (e : TypeId) (s : Nat) : New w e s (.slice none 0 0) 0 [] w := ⟨Own.nil _ _ _, Kept.refl _ _, fun k hk => by simp [rowOf, Value.ownBlock] at hk⟩
theorem Own.slice {w : World} {e : TypeId} {s n : Nat} {v : Value} {xs : List Value} (h : Own w e s v n xs) : ∃ A cap, v = .slice A n cap ∧ n ≤ cap ∧ cap ≤ maxLen ∧ Rd w A xs ∧ addrOf A = rowOf v ∧ (A = none → n = 0 ∧ cap = 0) := by
  rcases h.2 with ⟨rfl, h0⟩ | ⟨g, cap, cur, rfl, hb, hg, hn, hm, hs, ht⟩
  · obtain ⟨A, cap, h1, h2, h3, h4, h5⟩ := Rd.of_own h
    injection h1 with e1 e2 e3
    subst e1 e3
    exact ⟨none, 0, by rw [← e2], h2, h3, h4, h5, fun _ => ⟨e2.symm, rfl⟩⟩
  · obtain ⟨A, cap, h1, h2, h3, h4, h5⟩ := Rd.of_own h
    injection h1 with e1 e2 e3
    subst e1 e3
    exact ⟨_, _, rfl, h2, h3, h4, h5, fun h => by cases h⟩
end
section
open Go.RowKit
set_option maxRecDepth 100000
theorem u8s_nil {bs : List UInt8} (h : u8s bs = []) : bs = [] := by simpa [u8s] using h
theorem Rd.take {w : World} {A : Option Addr} {bs : List UInt8} (h : Rd w A (u8s bs)) (n : Nat) : Rd w A (u8s (bs.take n)) := by
  intro hne
  have : u8s bs ≠ [] := by
    intro h0; rw [u8s_nil h0] at hne; simp [u8s] at hne
  obtain ⟨g, o, rfl, hc⟩ := h this
  refine ⟨g, o, rfl, fun j u hu => hc j u ?_⟩
  simp only [u8s, List.map_take, List.getElem?_take] at hu
  split at hu
  · exact hu
  · cases hu
theorem Rd.drop {w : World} {A : Option Addr} {bs : List UInt8} (h : Rd w A (u8s bs)) (n : Nat) : Rd w (A.map (·.add n)) (u8s (bs.drop n)) := by
  intro hne
  have : u8s bs ≠ [] := by
    intro h0; rw [u8s_nil h0] at hne; simp [u8s] at hne
  obtain ⟨g, o, rfl, hc⟩ := h this
  refine ⟨g, o + n, by simp [Addr.add_lit], fun j u hu => ?_⟩
  rw [Nat.add_assoc]
  refine hc (n + j) u ?_
  simpa [u8s, List.getElem?_drop] using hu
end
end Go.Proofs.YtgndijdhmkphaaaGreatDoor
