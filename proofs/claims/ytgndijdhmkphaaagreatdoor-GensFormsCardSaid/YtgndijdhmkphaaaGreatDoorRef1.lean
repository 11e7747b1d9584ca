/-
  Contracts of the reference's functions on bytes.
-/
import Derived.WalkLawsBesides
import Derived.Deep.RegionHeld3
import Derived.Test.YtgndijdhmkphaaaGreatDoorRecA
import Derived.Test.YtgndijdhmkphaaaGreatDoorRecB
import Derived.Test.YtgndijdhmkphaaaGreatDoorBlk
import Derived.Test.YtgndijdhmkphaaaGreatDoorRecM
namespace Go.Proofs.YtgndijdhmkphaaaGreatDoor
set_option linter.unusedVariables false
section
open Go.RowKit Go.ChangeShapes Go.WideShapes Go.ChangeAt Go.Deep
set_option maxRecDepth 100000
def cmpI (a b : Int) : Int := if a < b then -1 else if b < a then 1 else 0
theorem isNaN64 (w : World) (n : Int) : Calls Tryz.prog 54 #[.int .i64 n] w fun e w' => e = .returned (.bool false) ∧ w = w' := by
  go_enter Tryz.func54, Tryz.ntmps54
  go_wp2
  go_ret
  exact ⟨rfl, rfl⟩
theorem cmp64 (w : World) (a b : Int) : Calls Tryz.prog 37 #[.int .i64 a, .int .i64 b] w fun e w' => e = .returned (.int .i64 (cmpI a b)) ∧ w = w' := by
  have hw : a < b ∨ (¬ a < b ∧ b < a) ∨ (¬ a < b ∧ ¬ b < a) := by omega
  rcases hw with h | ⟨h, h'⟩ | ⟨h, h'⟩
  · have e := Lib.hid (show cmpI a b = -1 by unfold cmpI; rw [if_pos h])
    go_enter Tryz.func37, Tryz.ntmps37
    go_wp2_with (go_at_call 54; refine (isNaN64 _ _).mono ?_; rintro e w' ⟨rfl, rfl⟩)
    go_ret
    exact ⟨by rw [e.out]; rfl, rfl⟩
  · have e := Lib.hid (show cmpI a b = 1 by unfold cmpI; rw [if_neg h, if_pos h'])
    go_enter Tryz.func37, Tryz.ntmps37
    go_wp2_with (go_at_call 54; refine (isNaN64 _ _).mono ?_; rintro e w' ⟨rfl, rfl⟩)
    go_ret
    exact ⟨by rw [e.out]; rfl, rfl⟩
  · have e := Lib.hid (show cmpI a b = 0 by unfold cmpI; rw [if_neg h, if_neg h'])
    go_enter Tryz.func37, Tryz.ntmps37
    go_wp2_with (go_at_call 54; refine (isNaN64 _ _).mono ?_; rintro e w' ⟨rfl, rfl⟩)
    go_ret
    exact ⟨by rw [e.out]; rfl, rfl⟩
theorem cmpI_lt {a b : Int} : cmpI a b < 0 ↔ a < b := by unfold cmpI; split <;> (try split) <;> omega
end
section
open Go.RowKit
set_option maxRecDepth 100000
theorem New.made (w : World) (xs : Array Value) (n : Nat) (h : xs.size = n) (hn : n ≤ maxLen) : New w 5 1 (.slice (some ⟨w.heap.size, 0, none⟩) n n) n xs.toList (w.alloc (.cells xs 5)) := by
  refine ⟨?_, (Kept.refl _ _).alloc _, fun k hk => by simp [rowOf, Value.ownBlock] at hk; omega⟩
  exact ⟨by simp [h], .inr ⟨_, _, xs, rfl, Nat.zero_le _, heap_alloc_new w _, Nat.le_refl _, hn, by simp [h], by simp [← h, List.take_of_length_le]⟩⟩
theorem be4 (n : Nat) (hn : n < 4294967296) : u8s (beK n 4 4) = [.int .u8 ((n : Int) / 16777216), .int .u8 ((n : Int) / 65536 % 256), .int .u8 ((n : Int) / 256 % 256), .int .u8 ((n : Int) % 256)] := by
  simp [u8s, beK, List.range_succ, u8v]
  omega
theorem New.cast {w w' : World} {e : TypeId} {s n n' : Nat} {v : Value} {xs xs' : List Value} (h : New w e s v n xs w') (hn : n = n') (hx : xs = xs') : New w e s v n' xs' w' := by subst hn hx; exact h
set_option maxHeartbeats 400000 in
theorem rU32_any (w : World) (x : Int) (n : Nat) (hx : x = n) (hn : n < 4294967296) : Calls Tryz.prog 59 #[.int .u32 x] w fun e w' => ∃ v, e = .returned v ∧ New w 5 1 v 4 (u8s (beK n 4 4)) w' := by
  subst hx
  go_enter Tryz.func59, Tryz.ntmps59
  go_wp2
  go_ret
  exact ⟨_, rfl, (New.made w _ 4 rfl (by unfold maxLen; omega)).cast rfl (be4 n hn).symm⟩
end
end Go.Proofs.YtgndijdhmkphaaaGreatDoor
