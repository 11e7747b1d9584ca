/-
  Plain: where the document's SortBackends puts one in. (GensForms)
-/
import Derived.Test.YtgndijdhmkphaaaGreatDoorGenR
namespace Go.Proofs.YtgndijdhmkphaaaGreatDoor
set_option linter.unusedVariables false
section
open Go.RowKit
set_option maxRecDepth 100000
theorem repB_new {x : BackD} : ∀ {l : List BackD} {k : Nat}, k ≤ l.length → (∀ i a, i < k → l[i]? = some a → a.id < x.id) → (∀ a, l[k]? = some a → x.id < a.id) → repB x l = l.take k ++ [x] ++ l.drop k
  | [], k, hk, _, _ => by simp at hk; subst hk; rfl
  | y :: r, 0, _, _, h2 => by
    have h := h2 y rfl
    rw [repB, if_neg (by omega), if_neg (by omega)]; rfl
  | y :: r, k + 1, hk, h1, h2 => by
    have h := h1 0 y (by omega) rfl
    rw [repB, if_pos h, repB_new (k := k) (by simpa using hk) (fun i a hi ha => h1 (i + 1) a (by omega) (by simpa using ha)) (fun a ha => h2 a (by simpa using ha))]
    rfl
theorem repB_set {x y : BackD} : ∀ {l : List BackD} {k : Nat}, (∀ i a, i < k → l[i]? = some a → a.id < x.id) → l[k]? = some y → y.id = x.id → repB x l = l.set k x
  | [], k, _, hy, _ => by simp at hy
  | z :: r, 0, _, hy, he => by
    simp at hy; subst hy
    rw [repB, if_neg (by omega), if_pos he]; rfl
  | z :: r, k + 1, h1, hy, he => by
    have h := h1 0 z (by omega) rfl
    rw [repB, if_pos h, repB_set (k := k) (fun i a hi ha => h1 (i + 1) a (by omega) (by simpa using ha)) (by simpa using hy) he]
    rfl
theorem repB_len (x : BackD) : ∀ l : List BackD, (repB x l).length ≤ l.length + 1
  | [] => by simp [repB]
  | y :: r => by
    rw [repB]
    split
    · have := repB_len x r; simp only [List.length_cons]; omega
    · split <;> simp
end
end Go.Proofs.YtgndijdhmkphaaaGreatDoor
