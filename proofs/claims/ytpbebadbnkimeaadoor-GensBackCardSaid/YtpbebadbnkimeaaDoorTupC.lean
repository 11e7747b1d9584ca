
/-
  The contract of tuple.Less.
-/
import Derived.Test.YtpbebadbnkimeaaDoorTupB
namespace Go.Proofs.YtpbebadbnkimeaaDoor
open Go.RowKit Go.ChangeShapes Go.WideShapes Go.ChangeAt Go.Deep
set_option linter.unusedVariables false
set_option maxRecDepth 100000

/-- one of two numbers ahead of the other -/
def cmpI (a b : Int) : Int := if a < b then -1 else if b < a then 1 else 0
theorem isNaN64 (w : World) (n : Int) : Calls Tryd.prog 38 #[.int .i64 n] w fun e w' => e = .returned (.bool false) ∧ w = w' := by
  go_enter Tryd.func38, Tryd.ntmps38
  go_wp2
  go_ret
  exact ⟨rfl, rfl⟩
theorem cmp64 (w : World) (a b : Int) : Calls Tryd.prog 21 #[.int .i64 a, .int .i64 b] w fun e w' => e = .returned (.int .i64 (cmpI a b)) ∧ w = w' := by
  have hw : a < b ∨ (¬ a < b ∧ b < a) ∨ (¬ a < b ∧ ¬ b < a) := by omega
  rcases hw with h | ⟨h, h'⟩ | ⟨h, h'⟩
  · have e := Lib.hid (show cmpI a b = -1 by unfold cmpI; rw [if_pos h])
    go_enter Tryd.func21, Tryd.ntmps21
    go_wp2_with (go_at_call 38; refine (isNaN64 _ _).mono ?_; rintro e w' ⟨rfl, rfl⟩)
    go_ret
    exact ⟨by rw [e.out]; rfl, rfl⟩
  · have e := Lib.hid (show cmpI a b = 1 by unfold cmpI; rw [if_neg h, if_pos h'])
    go_enter Tryd.func21, Tryd.ntmps21
    go_wp2_with (go_at_call 38; refine (isNaN64 _ _).mono ?_; rintro e w' ⟨rfl, rfl⟩)
    go_ret
    exact ⟨by rw [e.out]; rfl, rfl⟩
  · have e := Lib.hid (show cmpI a b = 0 by unfold cmpI; rw [if_neg h, if_neg h'])
    go_enter Tryd.func21, Tryd.ntmps21
    go_wp2_with (go_at_call 38; refine (isNaN64 _ _).mono ?_; rintro e w' ⟨rfl, rfl⟩)
    go_ret
    exact ⟨by rw [e.out]; rfl, rfl⟩
def orI : List Int → Int
  | [] => 0
  | a :: l => if a ≠ 0 then a else orI l
theorem orI_drop {l : List Int} {k : Nat} (h : k < l.length) : orI (l.drop k) = if l[k] ≠ 0 then l[k] else orI (l.drop (k + 1)) := by
  rw [← List.getElem_cons_drop (h := h)]; rfl
theorem cells5 (w : World) (c1 c2 c3 c4 c5 : Int) : ∀ (j : Nat) (h : j < [c1, c2, c3, c4, c5].length), (w.alloc (.cells #[.int .i64 c1, .int .i64 c2, .int .i64 c3, .int .i64 c4, .int .i64 c5] 3)).cell? ⟨w.heap.size, j, none⟩ = some (.int .i64 [c1, c2, c3, c4, c5][j]) := by
  intro j hj
  rw [(Blk.new w 3 #[.int .i64 c1, .int .i64 c2, .int .i64 c3, .int .i64 c4, .int .i64 c5]).cell j]
  match j, hj with
  | 0, _ => rfl
  | 1, _ => rfl
  | 2, _ => rfl
  | 3, _ => rfl
  | 4, _ => rfl
  | j + 5, h => exact absurd h (by simp only [List.length_cons, List.length_nil]; omega)
def cmpsT (a b : TupD) : List Int := [cmpI (a.src.toNat : Nat) (b.src.toNat : Nat), cmpI (a.dst.toNat : Nat) (b.dst.toNat : Nat), cmpI a.proto b.proto, cmpI a.sport b.sport, cmpI a.dport b.dport]
def lessT (a b : TupD) : Bool := decide (orI (cmpsT a b) < 0)
end Go.Proofs.YtpbebadbnkimeaaDoor
