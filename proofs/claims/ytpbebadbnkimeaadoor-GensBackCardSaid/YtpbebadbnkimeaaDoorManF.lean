
/-
  The contracts of manifest.Name and manifest.Number.
-/
import Derived.Test.YtpbebadbnkimeaaDoorManM
import Derived.Test.YtpbebadbnkimeaaDoorStr
import Derived.Test.YtpbebadbnkimeaaDoorBlk
import Derived.Laws.MakeOwn
import Derived.IntWalk
import Derived.Outline
namespace Go.Proofs.YtpbebadbnkimeaaDoor
open Go.RowKit Go.ChangeShapes Go.WideShapes Go.Deep
set_option linter.unusedVariables false
set_option maxRecDepth 100000

def digB (n k : Nat) : UInt8 := UInt8.ofNat (48 + n / 10 ^ k % 10)
def nameL (n : Nat) : List UInt8 := [115, digB n 5, digB n 4, digB n 3, digB n 2, digB n 1, digB n 0]
/-- a segment's name -/
def nameF (n : Int) : List UInt8 := if 1 ≤ n ∧ n < 1000000 then nameL n.toNat else []
def cz (n k j : Nat) : Value := if j < k then .int .u8 ((digB n j).toNat : Nat) else .int .u8 0
def nameC (n k : Nat) : Array Value := #[.int .u8 115, cz n k 5, cz n k 4, cz n k 3, cz n k 2, cz n k 1, cz n k 0]
theorem digB_nat (n k : Nat) : (digB n k).toNat = 48 + n / 10 ^ k % 10 := by
  unfold digB
  rw [UInt8.toNat_ofNat', Nat.mod_eq_of_lt (by omega)]
theorem RdB.of_blk {w : World} {g : Nat} {bs : List UInt8} {cs : Array Value} {m : Nat} (h : Blk w g 5 cs) (hc : cs.toList = u8s bs) (hm : bs.length = m) (hx : m ≤ maxLen) : RdB w [g] (.slice (some ⟨g, 0, none⟩) m m) bs := by
  refine ⟨_, _, _, rfl, hm, Nat.le_refl _, hx, fun _ => ⟨g, 0, rfl, fun j u hu => ?_⟩, fun k hk _ => by simpa [addrOf] using hk, fun h => by cases h⟩
  rw [Nat.zero_add, h.cell j, ← hu, ← hc]; simp
theorem mk7 (w : World) : (Instr.makeSlice 69 (.int .i64 7) (.int .i64 7)).run Tryd.prog w = .ok (.slice (some ⟨w.heap.size, 0, none⟩) 7 7) (w.alloc (.cells #[.int .u8 0, .int .u8 0, .int .u8 0, .int .u8 0, .int .u8 0, .int .u8 0, .int .u8 0] 5)) := by kernel_rfl
def isD (c : UInt8) : Bool := decide (48 ≤ c.toNat) && decide (c.toNat ≤ 57)
def okD (l : List UInt8) : Bool := l.all isD
def numV (l : List UInt8) : Nat := l.foldl (fun n c => n * 10 + (c.toNat - 48)) 0
def numberF (l : List UInt8) : Int × Bool := if l.length = 7 ∧ l.head? = some 115 ∧ okD (l.drop 1) = true then ((numV (l.drop 1) : Nat), decide (0 < numV (l.drop 1))) else (0, false)
theorem numV_snoc (l : List UInt8) (c : UInt8) : numV (l ++ [c]) = numV l * 10 + (c.toNat - 48) := by simp [numV]
theorem okD_snoc (l : List UInt8) (c : UInt8) : okD (l ++ [c]) = (okD l && isD c) := by simp [okD]
theorem numV_lt : ∀ (l : List UInt8), okD l = true → numV l < 10 ^ l.length := by
  have h : ∀ m : List UInt8, okD m.reverse = true → numV m.reverse < 10 ^ m.length := by
    intro m
    induction m with
    | nil => intro _; simp [numV]
    | cons c m ih =>
      intro hm
      rw [List.reverse_cons, okD_snoc, Bool.and_eq_true] at hm
      have h1 := ih hm.1
      have h2 := hm.2
      simp only [isD, Bool.and_eq_true, decide_eq_true_eq] at h2
      rw [List.reverse_cons, numV_snoc, List.length_cons, Nat.pow_succ]
      omega
  intro l hl
  have := h l.reverse (by simpa using hl)
  simpa using this
theorem numV_le6 {l : List UInt8} (h : okD l = true) (hl : l.length ≤ 6) : numV l < 1000000 :=
  Nat.lt_of_lt_of_le (numV_lt l h) (Nat.le_trans (Nat.pow_le_pow_right (by omega) hl) (by decide))
end Go.Proofs.YtpbebadbnkimeaaDoor
