
/-
  Contracts: bytes.Equal, bytes.Clone, frame.Same, the reference's SameFrame.
-/
import Derived.Test.YtflbeipnnmeiaaaDoorFrame
namespace Go.Proofs.YtflbeipnnmeiaaaDoor
open Go.RowKit
set_option linter.unusedVariables false
set_option maxRecDepth 100000

theorem BClone_any (w : World) (A : Option Addr) (m c : Nat) (cs : List UInt8) (hr : Rd w A (u8s cs)) (hm : cs.length = m) (hA : A = none → m = 0 ∧ c = 0) (hl : m ≤ 140737488355328) :
    Calls Tryd.prog 65 #[.slice A m c] w fun e w' => ∃ v, e = .returned v ∧ New w 5 1 v m (u8s cs) w' := by
  cases A with
  | none =>
    obtain ⟨rfl, rfl⟩ := hA rfl
    obtain rfl : cs = [] := List.eq_nil_of_length_eq_zero hm
    have hq := eql_nil8
    go_enter Tryd.func65, Tryd.ntmps65
    go_wp2
    go_ret
    exact ⟨_, rfl, New.nil _ _ _⟩
  | some a =>
    have Hr := Lib.hid hr
    have Hm := Lib.hid hm
    clear hr hm hA
    have hq := eql_nil8
    go_enter Tryd.func65, Tryd.ntmps65
    go_wp2_with (at_builtin; refine wpList_app _ rfl (.tmp 5) (.tmp 6) 32 rfl elem_u8 (by rfl) (World.ownsRow_made w #[] 0 (Nat.zero_le _) (by unfold maxLen; omega) rfl) (by rfl) (Hr.out.alloc _) (by rw [u8s_len, Hm.out]; omega) (u8s_one _) (by unfold maxLen; omega) (by omega) ?_; intro v2 w2 ho2 hk2 hr2)
    go_ret
    refine ⟨v2, rfl, by simpa using ho2, ?_, fun k hk => ?_⟩
    · exact ((Kept.refl [] w).alloc _).trans hk2 (fun i hi => .inr (by simp [rowOf, Value.ownBlock] at hi; omega))
    · rcases hr2 k hk with h1 | h1
      · simp [rowOf, Value.ownBlock] at h1; omega
      · simp at h1; omega

def sameF (f g : FrameD) : Bool := f.kind == g.kind && (f.ver == g.ver && f.body == g.body)
theorem sameF_0 {f g : FrameD} (h : (f.kind == g.kind) = false) : sameF f g = false := by simp [sameF, h]
theorem sameF_1 {f g : FrameD} (h : (f.kind == g.kind) = true) (h1 : (f.ver == g.ver) = false) : sameF f g = false := by simp [sameF, h, h1]
theorem sameF_2 {f g : FrameD} (h : (f.kind == g.kind) = true) (h1 : (f.ver == g.ver) = true) : sameF f g = (f.body == g.body) := by simp [sameF, h, h1]
theorem sameF_comm (f g : FrameD) : sameF f g = sameF g f := by
  unfold sameF
  rw [Bool.beq_comm (a := f.kind), Bool.beq_comm (a := f.ver), Bool.beq_comm (a := f.body)]
theorem sameF_refl (f : FrameD) : sameF f f = true := by simp [sameF]

end Go.Proofs.YtflbeipnnmeiaaaDoor
