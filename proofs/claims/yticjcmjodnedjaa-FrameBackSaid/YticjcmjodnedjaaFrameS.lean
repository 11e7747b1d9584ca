/-
  Contracts: bytes.Equal, bytes.Clone, frame.Same, the reference's SameFrame.
-/
import Derived.Test.YticjcmjodnedjaaFrame
namespace Go.Proofs.Yticjcmjodnedjaa
open Go.RowKit
set_option linter.unusedVariables false

theorem Equal_any (w : World) {G1 G2 : List Nat} {A B : Option Addr} {m c n d : Nat} {cs bs : List UInt8} (h1 : RdB w G1 (.slice A m c) cs) (h2 : RdB w G2 (.slice B n d) bs) :
    Calls Try.prog 60 #[.slice A m c, .slice B n d] w fun e w' => e = .returned (.bool (cs == bs)) ∧ w' = w := by
  have q1 := run_str h1
  have q2 := run_str h2
  have t1 := strOf_toList cs
  have t2 := strOf_toList bs
  clear h1 h2
  go_enter Try.func60, Try.ntmps60
  go_wp2
  go_ret
  exact ⟨rfl, rfl⟩

theorem BClone_any (w : World) (A : Option Addr) (m c : Nat) (cs : List UInt8) (hr : Rd w A (u8s cs)) (hm : cs.length = m) (hA : A = none → m = 0 ∧ c = 0) (hl : m ≤ 140737488355328) :
    Calls Try.prog 58 #[.slice A m c] w fun e w' => ∃ v, e = .returned v ∧ New w 5 1 v m (u8s cs) w' := by
  cases A with
  | none =>
    obtain ⟨rfl, rfl⟩ := hA rfl
    obtain rfl : cs = [] := List.eq_nil_of_length_eq_zero hm
    have hq := eql_nil8
    go_enter Try.func58, Try.ntmps58
    go_wp2
    go_ret
    exact ⟨_, rfl, New.nil _ _ _⟩
  | some a =>
    have Hr := Lib.hid hr
    have Hm := Lib.hid hm
    clear hr hm hA
    have hq := eql_nil8
    go_enter Try.func58, Try.ntmps58
    go_wp2_with (at_builtin; refine wpList_app _ rfl (.tmp 5) (.tmp 6) 24 rfl elem_u8 (by rfl) (World.ownsRow_made w #[] 0 (Nat.zero_le _) (by unfold maxLen; omega) rfl) (by rfl) (Hr.out.alloc _) (by rw [u8s_len, Hm.out]; omega) (u8s_one _) (by unfold maxLen; omega) (by omega) ?_; intro v2 w2 ho2 hk2 hr2)
    go_ret
    refine ⟨v2, rfl, by simpa using ho2, ?_, fun k hk => ?_⟩
    · exact ((Kept.refl [] w).alloc _).trans hk2 (fun i hi => .inr (by simp [rowOf, Value.ownBlock] at hi; omega))
    · rcases hr2 k hk with h1 | h1
      · simp [rowOf, Value.ownBlock] at h1; omega
      · simp at h1; omega

def sameF (f g : FrameD) : Bool := f.kind == g.kind && (f.ver == g.ver && f.body == g.body)
theorem sameF_0 {f g : FrameD} (h : (f.kind == g.kind) = false) : sameF f g = false := by simp [sameF, h]
theorem sameF_1 {f g : FrameD} (h : (f.kind == g.kind) = true) (h1 : (f.ver == g.ver) = false) : sameF f g = false := by simp [sameF, h, h1]
theorem sameF_2 {f g : FrameD} (h : (f.kind == g.kind) = true) (h1 : (f.ver == g.ver) = true) : sameF f g = (f.body == g.body) := by simp [sameF, h, h1]
theorem sameF_comm (f g : FrameD) : sameF f g = sameF g f := by
  unfold sameF
  rw [Bool.beq_comm (a := f.kind), Bool.beq_comm (a := f.ver), Bool.beq_comm (a := f.body)]
theorem sameF_refl (f : FrameD) : sameF f f = true := by simp [sameF]

set_option maxHeartbeats 1600000 in
theorem Same_any (w : World) {G1 G2 : List Nat} {A B : Option Addr} {m c n d : Nat} (f g : FrameD) (h1 : RdB w G1 (.slice A m c) f.body) (h2 : RdB w G2 (.slice B n d) g.body) :
    Calls Try.prog 45 #[.agg #[.int .i64 f.kind, .int .i64 f.ver, .slice A m c], .agg #[.int .i64 g.kind, .int .i64 g.ver, .slice B n d]] w fun e w' => e = .returned (.bool (sameF f g)) ∧ Kept [] w w' := by
  have H1 := Lib.hid h1
  have H2 := Lib.hid h2
  clear h1 h2
  cases hk : (f.kind == g.kind)
  · rw [sameF_0 hk]
    go_enter Try.func45, Try.ntmps45
    go_wp2
    go_ret
    exact ⟨rfl, ((Kept.refl [] w).alloc _).alloc _⟩
  · cases hv : (f.ver == g.ver)
    · rw [sameF_1 hk hv]
      go_enter Try.func45, Try.ntmps45
      go_wp2
      go_ret
      exact ⟨rfl, ((Kept.refl [] w).alloc _).alloc _⟩
    · rw [sameF_2 hk hv]
      go_enter Try.func45, Try.ntmps45
      go_wp2_with (go_at_call 60; refine (Equal_any _ (H1.out.kept (((Kept.refl [] w).alloc _).alloc _) (by simp)) (H2.out.kept (((Kept.refl [] w).alloc _).alloc _) (by simp))).mono ?_; rintro e w' ⟨rfl, rfl⟩)
      go_ret
      exact ⟨rfl, ((Kept.refl [] w).alloc _).alloc _⟩

set_option maxHeartbeats 1600000 in
theorem rSame_any (w : World) {G1 G2 : List Nat} {A B : Option Addr} {m c n d : Nat} (f g : FrameD) (h1 : RdB w G1 (.slice A m c) f.body) (h2 : RdB w G2 (.slice B n d) g.body) :
    Calls Try.prog 46 #[.agg #[.int .i64 f.kind, .int .i64 f.ver, .slice A m c], .agg #[.int .i64 g.kind, .int .i64 g.ver, .slice B n d]] w fun e w' => e = .returned (.bool (sameF f g)) ∧ Kept [] w w' := by
  cases hk : (f.kind == g.kind)
  · rw [sameF_0 hk]
    clear h1 h2
    go_enter Try.func46, Try.ntmps46
    go_wp2
    go_ret
    exact ⟨rfl, ((Kept.refl [] w).alloc _).alloc _⟩
  · cases hv : (f.ver == g.ver)
    · rw [sameF_1 hk hv]
      clear h1 h2
      go_enter Try.func46, Try.ntmps46
      go_wp2
      go_ret
      exact ⟨rfl, ((Kept.refl [] w).alloc _).alloc _⟩
    · rw [sameF_2 hk hv]
      have q1 := run_str (h1.kept (((Kept.refl [] w).alloc (.cells #[.int .i64 f.kind, .int .i64 f.ver, .slice A m c] 59)).alloc (.cells #[.int .i64 g.kind, .int .i64 g.ver, .slice B n d] 59)) (by simp))
      have q2 := run_str (h2.kept (((Kept.refl [] w).alloc (.cells #[.int .i64 f.kind, .int .i64 f.ver, .slice A m c] 59)).alloc (.cells #[.int .i64 g.kind, .int .i64 g.ver, .slice B n d] 59)) (by simp))
      have t1 := strOf_toList f.body
      have t2 := strOf_toList g.body
      clear h1 h2
      go_enter Try.func46, Try.ntmps46
      go_wp2
      go_ret
      exact ⟨rfl, ((Kept.refl [] w).alloc _).alloc _⟩
end Go.Proofs.Yticjcmjodnedjaa
