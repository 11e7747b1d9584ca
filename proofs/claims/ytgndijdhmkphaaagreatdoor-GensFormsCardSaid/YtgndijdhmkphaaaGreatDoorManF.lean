/-
  The contracts of manifest.Name and manifest.Number.
-/
import Derived.Test.YtgndijdhmkphaaaGreatDoorOctR
import Derived.Test.YtgndijdhmkphaaaGreatDoorRecB
import Derived.Test.YtgndijdhmkphaaaGreatDoorBlk
import Derived.Test.YtgndijdhmkphaaaGreatDoorFrameM
import Derived.Laws.MakeOwn
import Derived.IntWalk
import Derived.Outline
namespace Go.Proofs.YtgndijdhmkphaaaGreatDoor
set_option linter.unusedVariables false
section
open Go.RowKit Go.ChangeShapes Go.WideShapes Go.Deep
set_option maxRecDepth 100000
def u16B (n : Int) : List UInt8 := beK (nat64 n) 2 2
end
section
open Go.RowKit
set_option maxRecDepth 100000
def nk (o : Option (List UInt8)) (k : Nat) : Option (List UInt8) := match o with
  | none => none
  | some bs => if bs.length < k then none else some (bs.drop k)
theorem g16 {n : Int} (h : inB n 65535 = true) : ((num (u16B n) : Nat) : Int) = n := by
  simp [inB] at h
  rw [u16B, num_beK']; unfold nat64; omega
end
section
open Go.RowKit
set_option maxRecDepth 100000
structure ManD where
  ver : Int
  next : Int
  segs : List Int
instance : Inhabited ManD := ⟨⟨0, 0, []⟩⟩
end
section
open Go.RowKit Go.ChangeShapes Go.WideShapes Go.Deep
set_option maxRecDepth 100000
def isD (c : UInt8) : Bool := decide (48 ≤ c.toNat) && decide (c.toNat ≤ 57)
def okD (l : List UInt8) : Bool := l.all isD
def numV (l : List UInt8) : Nat := l.foldl (fun n c => n * 10 + (c.toNat - 48)) 0
theorem numV_snoc (l : List UInt8) (c : UInt8) : numV (l ++ [c]) = numV l * 10 + (c.toNat - 48) := by simp [numV]
theorem okD_snoc (l : List UInt8) (c : UInt8) : okD (l ++ [c]) = (okD l && isD c) := by simp [okD]
theorem numV_lt : ∀ (l : List UInt8), okD l = true → numV l < 10 ^ l.length := by
  have h : ∀ m : List UInt8, okD m.reverse = true → numV m.reverse < 10 ^ m.length := by
    intro m
    induction m with
    | nil => intro _; simp [numV]
    | cons c m ih =>
      intro hm
      rw [List.reverse_cons, okD_snoc, Bool.and_eq_true] at hm
      have h1 := ih hm.1
      have h2 := hm.2
      simp only [isD, Bool.and_eq_true, decide_eq_true_eq] at h2
      rw [List.reverse_cons, numV_snoc, List.length_cons, Nat.pow_succ]
      omega
  intro l hl
  have := h l.reverse (by simpa using hl)
  simpa using this
end
end Go.Proofs.YtgndijdhmkphaaaGreatDoor
