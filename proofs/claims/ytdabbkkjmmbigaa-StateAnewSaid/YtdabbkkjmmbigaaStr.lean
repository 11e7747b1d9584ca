
/-
  Bytes turned into a string.
-/
import Derived.Test.YtdabbkkjmmbigaaOctR
import Derived.Laws.BytesArg
namespace Go.Proofs.Ytdabbkkjmmbigaa
open Go.RowKit
set_option linter.unusedVariables false

def strOf (bs : List UInt8) : ByteArray := ⟨bs.toArray⟩
theorem strOf_inj {a b : List UInt8} (h : strOf a = strOf b) : a = b := by
  have := congrArg (fun s : ByteArray => s.data.toList) h
  simpa [strOf] using this
theorem strOf_toList (l : List UInt8) : (strOf l).toList = l := by rw [ByteArray.toList_eq]; simp [strOf]
end Go.Proofs.Ytdabbkkjmmbigaa
