
/-
  Contracts: bytes.Equal, bytes.Clone, frame.Same, the reference's SameFrame.
-/
import Derived.Test.YtdabbkkjmmbigaaFrame
namespace Go.Proofs.Ytdabbkkjmmbigaa
open Go.RowKit
set_option linter.unusedVariables false

def sameF (f g : FrameD) : Bool := f.kind == g.kind && (f.ver == g.ver && f.body == g.body)
theorem sameF_0 {f g : FrameD} (h : (f.kind == g.kind) = false) : sameF f g = false := by simp [sameF, h]
theorem sameF_1 {f g : FrameD} (h : (f.kind == g.kind) = true) (h1 : (f.ver == g.ver) = false) : sameF f g = false := by simp [sameF, h, h1]
theorem sameF_2 {f g : FrameD} (h : (f.kind == g.kind) = true) (h1 : (f.ver == g.ver) = true) : sameF f g = (f.body == g.body) := by simp [sameF, h, h1]
theorem sameF_comm (f g : FrameD) : sameF f g = sameF g f := by
  unfold sameF
  rw [Bool.beq_comm (a := f.kind), Bool.beq_comm (a := f.ver), Bool.beq_comm (a := f.body)]
theorem sameF_refl (f : FrameD) : sameF f f = true := by simp [sameF]

end Go.Proofs.Ytdabbkkjmmbigaa
