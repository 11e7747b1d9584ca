/-
  Records: plain laws. What a record is, plain, as it is read, may be; its bytes.
-/
import Derived.Test.YtgndijdhmkphaaaGreatDoorOctR
import Derived.Test.YtgndijdhmkphaaaGreatDoorLv
namespace Go.Proofs.YtgndijdhmkphaaaGreatDoor
set_option linter.unusedVariables false
section
open Go.RowKit
set_option maxRecDepth 100000
def num (bs : List UInt8) : Nat := bs.foldl (fun n b => n * 256 + b.toNat) 0
theorem num_snoc (bs : List UInt8) (b : UInt8) : num (bs ++ [b]) = num bs * 256 + b.toNat := by simp [num]
end
section
open Go.RowKit
set_option maxRecDepth 100000
structure TupD where
  src : UInt32
  dst : UInt32
  proto : Int
  sport : Int
  dport : Int
instance : Inhabited TupD := ⟨⟨0, 0, 0, 0, 0⟩⟩
structure BackD where
  id : Int
  addr : UInt32
  weight : Int
instance : Inhabited BackD := ⟨⟨0, 0, 0⟩⟩
structure RecD where
  kind : Int
  tup : TupD
  fb : Int
  fg : Int
  fs : Int
  gen : Int
  backs : List BackD
  back : Int
  until_ : Int
  count : Int
instance : Inhabited RecD := ⟨⟨0, default, 0, 0, 0, 0, [], 0, 0, 0⟩⟩
def inB (n most : Int) : Bool := decide (0 ≤ n) && decide (n ≤ most)
def mayB (b : BackD) : Bool := inB b.id 65535 && (decide (1 ≤ b.weight) && decide (b.weight ≤ 10))
def sameB (a b : BackD) : Bool := a.id == b.id && (a.addr == b.addr && a.weight == b.weight)
def sameBs : List BackD → List BackD → Bool
  | [], [] => true
  | a :: l, b :: l' => sameB a b && sameBs l l'
  | _, _ => false
theorem sameB_iff {a b : BackD} : sameB a b = true ↔ a = b := by
  cases a; cases b; simp [sameB]
theorem sameBs_iff : ∀ {a b : List BackD}, sameBs a b = true ↔ a = b
  | [], [] => by simp [sameBs]
  | [], _ :: _ => by simp [sameBs]
  | _ :: _, [] => by simp [sameBs]
  | a :: l, b :: l' => by simp [sameBs, sameB_iff, sameBs_iff (a := l) (b := l')]
theorem sameBs_len : ∀ {l l' : List BackD}, l.length ≠ l'.length → sameBs l l' = false
  | [], [], h => absurd rfl h
  | [], _ :: _, _ => rfl
  | _ :: _, [], _ => rfl
  | f :: l, g :: l', h => by simp [sameBs, sameBs_len (l := l) (l' := l') (by simpa using h)]
theorem sameBs_drop {l l' : List BackD} {k : Nat} (h : k < l.length) (h' : k < l'.length) : sameBs (l.drop k) (l'.drop k) = (sameB l[k] l'[k] && sameBs (l.drop (k + 1)) (l'.drop (k + 1))) := by
  rw [← List.getElem_cons_drop (h := h), ← List.getElem_cons_drop (h := h')]; rfl
end
end Go.Proofs.YtgndijdhmkphaaaGreatDoor
