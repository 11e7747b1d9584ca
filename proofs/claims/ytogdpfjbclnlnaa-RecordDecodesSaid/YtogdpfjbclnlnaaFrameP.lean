
/-
  Contracts: Scan, the reference's Scan.
-/
import Derived.Test.YtogdpfjbclnlnaaFrameN
namespace Go.Proofs.Ytogdpfjbclnlnaa
open Go.RowKit Go.ChangeShapes Go.WideShapes Go.Deep
set_option linter.unusedVariables false

/-- the frames l have been scanned, k bytes are behind them -/
def ScanAt (bs : List UInt8) (l : List FrameD) (k : Nat) : Prop := scanF bs = (l ++ (scanF (bs.drop k)).1, k + (scanF (bs.drop k)).2.1, (scanF (bs.drop k)).2.2)
theorem ScanAt.start (bs : List UInt8) : ScanAt bs [] 0 := by simp [ScanAt]
theorem ScanAt.step {bs : List UInt8} {l : List FrameD} {k n : Nat} {f : FrameD} (h : ScanAt bs l k) (hk : k < bs.length) (ht : takeF (bs.drop k) = (f, n, 0)) : ScanAt bs (l ++ [f]) (k + n) := by
  unfold ScanAt at *
  have hne : bs.drop k ≠ [] := by intro h0; have h0 := congrArg List.length h0; rw [List.length_drop, List.length_nil] at h0; omega
  rw [scanF_cons hne (by rw [ht]), ht, List.drop_drop] at h
  rw [h]
  simp [Nat.add_assoc]
theorem ScanAt.err {bs : List UInt8} {l : List FrameD} {k n : Nat} {f : FrameD} {e : Int} (h : ScanAt bs l k) (hk : k < bs.length) (ht : takeF (bs.drop k) = (f, n, e)) (he : e ≠ 0) : scanF bs = (l, k, e) := by
  unfold ScanAt at h
  have hne : bs.drop k ≠ [] := by intro h0; have h0 := congrArg List.length h0; rw [List.length_drop, List.length_nil] at h0; omega
  rw [scanF_err hne (by rw [ht]; exact he), ht] at h
  rw [h]; simp
theorem ScanAt.done {bs : List UInt8} {l : List FrameD} {k : Nat} (h : ScanAt bs l k) (hk : bs.length ≤ k) : scanF bs = (l, k, 0) := by
  unfold ScanAt at h
  rw [List.drop_of_length_le hk, scanF_nil] at h
  rw [h]; simp
theorem take_bound {bs : List UInt8} {k n : Nat} {f : FrameD} (ht : takeF (bs.drop k) = (f, n, 0)) (hk : k ≤ bs.length) : 16 ≤ n ∧ k + n ≤ bs.length := by
  have h := take_len (bs.drop k) (by rw [ht])
  rw [ht, List.length_drop] at h
  simp only at h
  omega

end Go.Proofs.Ytogdpfjbclnlnaa
