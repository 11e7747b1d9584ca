
/-
  Contracts: bytes.Equal, bytes.Clone, frame.Same, the reference's SameFrame.
-/
import Derived.Test.YtogdpfjbclnlnaaFrame
namespace Go.Proofs.Ytogdpfjbclnlnaa
open Go.RowKit
set_option linter.unusedVariables false

def sameF (f g : FrameD) : Bool := f.kind == g.kind && (f.ver == g.ver && f.body == g.body)
theorem sameF_0 {f g : FrameD} (h : (f.kind == g.kind) = false) : sameF f g = false := by simp [sameF, h]
theorem sameF_1 {f g : FrameD} (h : (f.kind == g.kind) = true) (h1 : (f.ver == g.ver) = false) : sameF f g = false := by simp [sameF, h, h1]
theorem sameF_2 {f g : FrameD} (h : (f.kind == g.kind) = true) (h1 : (f.ver == g.ver) = true) : sameF f g = (f.body == g.body) := by simp [sameF, h, h1]
theorem sameF_comm (f g : FrameD) : sameF f g = sameF g f := by
  unfold sameF
  rw [Bool.beq_comm (a := f.kind), Bool.beq_comm (a := f.ver), Bool.beq_comm (a := f.body)]
theorem sameF_refl (f : FrameD) : sameF f f = true := by simp [sameF]

set_option maxHeartbeats 1600000 in
theorem rSame_any (w : World) {G1 G2 : List Nat} {A B : Option Addr} {m c n d : Nat} (f g : FrameD) (h1 : RdB w G1 (.slice A m c) f.body) (h2 : RdB w G2 (.slice B n d) g.body) :
    Calls Try.prog 17 #[.agg #[.int .i64 f.kind, .int .i64 f.ver, .slice A m c], .agg #[.int .i64 g.kind, .int .i64 g.ver, .slice B n d]] w fun e w' => e = .returned (.bool (sameF f g)) ∧ Kept [] w w' := by
  cases hk : (f.kind == g.kind)
  · rw [sameF_0 hk]
    clear h1 h2
    go_enter Try.func17, Try.ntmps17
    go_wp2
    go_ret
    exact ⟨rfl, ((Kept.refl [] w).alloc _).alloc _⟩
  · cases hv : (f.ver == g.ver)
    · rw [sameF_1 hk hv]
      clear h1 h2
      go_enter Try.func17, Try.ntmps17
      go_wp2
      go_ret
      exact ⟨rfl, ((Kept.refl [] w).alloc _).alloc _⟩
    · rw [sameF_2 hk hv]
      have q1 := run_str (h1.kept (((Kept.refl [] w).alloc (.cells #[.int .i64 f.kind, .int .i64 f.ver, .slice A m c] 34)).alloc (.cells #[.int .i64 g.kind, .int .i64 g.ver, .slice B n d] 34)) (by simp))
      have q2 := run_str (h2.kept (((Kept.refl [] w).alloc (.cells #[.int .i64 f.kind, .int .i64 f.ver, .slice A m c] 34)).alloc (.cells #[.int .i64 g.kind, .int .i64 g.ver, .slice B n d] 34)) (by simp))
      have t1 := strOf_toList f.body
      have t2 := strOf_toList g.body
      clear h1 h2
      go_enter Try.func17, Try.ntmps17
      go_wp2
      go_ret
      exact ⟨rfl, ((Kept.refl [] w).alloc _).alloc _⟩
end Go.Proofs.Ytogdpfjbclnlnaa
