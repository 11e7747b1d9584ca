
/-
  The contract of record.Decode.
-/
import Derived.Test.YtoibecclilmllaaRecI
import Derived.Test.YtoibecclilmllaaFrameT
import Derived.Test.YtoibecclilmllaaBkx
namespace Go.Proofs.Ytoibecclilmllaa
open Go.RowKit Go.ChangeShapes Go.WideShapes Go.Deep
set_option linter.unusedVariables false

def decE (f : FrameD) : Int := if verB f.ver = true then (if goodR 17 f.kind f.ver f.body = true then 0 else 3) else 10
def decR (f : FrameD) : RecD := if verB f.ver = true ∧ goodR 17 f.kind f.ver f.body = true then (rdR 17 f.kind f.ver (some f.body)).1 else default
theorem rdR_backs (cap : Nat) (k v : Int) (o : Option (List UInt8)) : (rdR cap k v o).1.backs.length ≤ cap := by
  unfold rdR
  repeat' split
  all_goals first | (simp [default]; done) | (simp only [rdBs_len]; omega)
theorem end_iff (o : Option (List UInt8)) : endOf (o.getD []) (erO o) = 0 ↔ o = some [] := by
  cases o with
  | none => simp [endOf, erO]
  | some bs => cases bs <;> simp [endOf, erO]
theorem goodR_end (cap : Nat) (k v : Int) (bs : List UInt8) : goodR cap k v bs = ((rdR cap k v (some bs)).2.1 && (decide (endOf ((rdR cap k v (some bs)).2.2.getD []) (erO (rdR cap k v (some bs)).2.2) = 0) && mayR (rdR cap k v (some bs)).1)) := by
  unfold goodR
  congr 2
  rw [Bool.eq_iff_iff]
  simp [end_iff]


end Go.Proofs.Ytoibecclilmllaa
