
/-
  A slice of bytes of the call's own, its length hidden; what is appended to it, step by step.
-/
import Derived.Test.YtpbebadbnkimeaaDoorRecR
namespace Go.Proofs.YtpbebadbnkimeaaDoor
open Go.RowKit Go.ChangeShapes Go.WideShapes Go.Deep
set_option linter.unusedVariables false
set_option maxRecDepth 100000

/-- in w the slice v, made since W, holds the bytes bs; nothing that was in W has turned -/
def NB (W w : World) (v : Value) (bs : List UInt8) : Prop := New W 5 1 v bs.length (u8s bs) w
section
variable {W W' w w' : World} {v : Value} {bs cs : List UInt8}
theorem NB.of {n : Nat} (h : New W 5 1 v n (u8s bs) w) : NB W w v bs := by
  have := h.len; subst this; exact h
theorem NB.form (h : NB W w v bs) : ∃ A m c, v = .slice A m c := Own.form' h.1
theorem NB.kept (h : NB W w v bs) : Kept [] W w := h.2.1
theorem NB.go (h : NB W w v bs) (hk : Kept [] w w') : NB W w' v bs := New.go h hk
theorem NB.wide (h : NB W' w v bs) (hk : Kept [] W W') : NB W w v bs := New.wide h hk
theorem NB.nil (hk : Kept [] W w) : NB W w (.slice none 0 0) [] := ⟨Own.nil _ _ _, hk, by simp [rowOf, Value.ownBlock]⟩
theorem NB.rd (h : NB W w v bs) : RdB w (rowOf v) v bs := RdB.of_own h.1
theorem NB.cast (h : NB W w v bs) (e : bs = cs) : NB W w v cs := e ▸ h
/-- other blocks of the call's own are written: the slice stays -/
theorem NB.other {S : List Nat} (h : NB W w v bs) (hk : Kept S w w') (h1 : ∀ k ∈ rowOf v, k ∉ S) (h2 : ∀ k ∈ S, W.heap.size ≤ k) : NB W w' v bs := ⟨h.1.kept hk h1, h.2.1.trans hk (fun i hi => .inr (h2 i hi)), h.2.2⟩
theorem NB.src (h : NB W w v bs) : ∃ A m c, v = .slice A m c ∧ Rd w A (u8s bs) ∧ (u8s bs).length = m * 1 ∧ m = bs.length := by
  obtain ⟨A, c, rfl, h1, h2⟩ := h.1.form
  have h3 := (h.rd).rd
  exact ⟨A, _, c, rfl, h3, by simp [u8s], rfl⟩
theorem NB.app {v' : Value} {n' : Nat} {cs : List UInt8} (h : NB W w v bs) (ho : Own w' 5 1 v' n' (u8s bs ++ u8s cs)) (hk : Kept (rowOf v) w w') (hr : ∀ k ∈ rowOf v', k ∈ rowOf v ∨ w.heap.size ≤ k) : NB W w' v' (bs ++ cs) :=
  NB.of (New.app h ho hk hr)
end
/-- one byte more, laid in a block of its own -/
theorem u8s_one1 (n : Int) : u8s (u8B n) = [.int .u8 (n % 256)] := be1 n
section
/-- a call that hands back bytes of its own -/
def Gives (w : World) (bs : List UInt8) (e : Ending) (w' : World) : Prop := ∃ A m c, e = .returned (.slice A m c) ∧ NB w w' (.slice A m c) bs
theorem Gives.of {w : World} {n : Nat} {bs : List UInt8} {e : Ending} {w' : World} (h : ∃ v, e = .returned v ∧ New w 5 1 v n (u8s bs) w') : Gives w bs e w' := by
  obtain ⟨v, rfl, h⟩ := h
  have hn := NB.of h
  obtain ⟨A, m, c, rfl⟩ := hn.form
  exact ⟨A, m, c, rfl, hn⟩
end
end Go.Proofs.YtpbebadbnkimeaaDoor
