
/-
  The contract of record.Encode.
-/
import Derived.Test.YtpbebadbnkimeaaDoorRecW
import Derived.Test.YtpbebadbnkimeaaDoorFrameS
namespace Go.Proofs.YtpbebadbnkimeaaDoor
open Go.RowKit Go.ChangeShapes Go.WideShapes Go.Deep
set_option linter.unusedVariables false
set_option maxRecDepth 100000

def encE (r : RecD) (v : Int) : Int := if verB v = true then (if mayR r = true then 0 else 1) else 10
def encF (r : RecD) (v : Int) : FrameD := if verB v = true ∧ mayR r = true then ⟨r.kind, v, bodyR r v⟩ else default
theorem bodyR_len {r : RecD} (h : mayR r = true) (v : Int) : (bodyR r v).length ≤ 200 := by
  unfold bodyR
  repeat' split
  all_goals simp [tupB_len, u16B_len, u32B_len, i64B_len, u8B_len]
  rename_i h3
  have hl : r.backs.length ≤ 16 := by
    have : (inB r.gen 1000000 && (decide (r.backs.length ≤ 16) && r.backs.all mayB)) = true := by simpa [mayR, h3] using h
    simp at this; exact this.2.1
  have := backsB_len v r.backs
  simp only [List.length_flatMap] at this ⊢
  rw [this]
  split <;> omega
end Go.Proofs.YtpbebadbnkimeaaDoor
