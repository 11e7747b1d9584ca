
/-
  The contract of frame.Take.
-/
import Derived.Test.YtoibecclilmllaaFrame
import Derived.Test.YtoibecclilmllaaOctS
section
namespace Go.Proofs.Ytoibecclilmllaa
open Go.RowKit
set_option linter.unusedVariables false

def sameF (f g : FrameD) : Bool := f.kind == g.kind && (f.ver == g.ver && f.body == g.body)
theorem sameF_0 {f g : FrameD} (h : (f.kind == g.kind) = false) : sameF f g = false := by simp [sameF, h]
theorem sameF_1 {f g : FrameD} (h : (f.kind == g.kind) = true) (h1 : (f.ver == g.ver) = false) : sameF f g = false := by simp [sameF, h, h1]
theorem sameF_2 {f g : FrameD} (h : (f.kind == g.kind) = true) (h1 : (f.ver == g.ver) = true) : sameF f g = (f.body == g.body) := by simp [sameF, h, h1]
theorem sameF_comm (f g : FrameD) : sameF f g = sameF g f := by
  unfold sameF
  rw [Bool.beq_comm (a := f.kind), Bool.beq_comm (a := f.ver), Bool.beq_comm (a := f.body)]
theorem sameF_refl (f : FrameD) : sameF f f = true := by simp [sameF]

end Go.Proofs.Ytoibecclilmllaa
end

section
namespace Go.Proofs.Ytoibecclilmllaa
open Go.RowKit
set_option linter.unusedVariables false

/-- what bytes begin with, taken apart -/
def takeP (m4 k1 v1 n2 c4 s4 rest : List UInt8) : FrameD × Nat × Int :=
  if m4 ≠ [103, 111, 105, 116] then (default, 0, 3)
  else if num c4 ≠ crc (m4 ++ (k1 ++ (v1 ++ n2))) then (default, 0, 5)
  else if 4096 < num n2 then (default, 0, 4)
  else if rest.length < num n2 then (default, 0, 2)
  else if num s4 ≠ crc (rest.take (num n2)) then (default, 0, 5)
  else (⟨(num k1 : Nat), (num v1 : Nat), rest.take (num n2)⟩, 16 + num n2, 0)
def takeF (bs : List UInt8) : FrameD × Nat × Int :=
  if bs.length < 16 then (default, 0, 2)
  else takeP (bs.take 4) ((bs.drop 4).take 1) ((bs.drop 5).take 1) ((bs.drop 6).take 2) ((bs.drop 8).take 4) ((bs.drop 12).take 4) (bs.drop 16)
theorem take_cut (bs : List UInt8) (a b : Nat) : bs.drop a = (bs.drop a).take b ++ bs.drop (a + b) := by
  rw [← List.drop_drop, List.take_append_drop]
theorem take_parts (bs : List UInt8) (h : 16 ≤ bs.length) : ∃ m4 k1 v1 n2 c4 s4 rest : List UInt8, bs = m4 ++ (k1 ++ (v1 ++ (n2 ++ (c4 ++ (s4 ++ rest))))) ∧ m4.length = 4 ∧ k1.length = 1 ∧ v1.length = 1 ∧ n2.length = 2 ∧ c4.length = 4 ∧ s4.length = 4 ∧ takeF bs = takeP m4 k1 v1 n2 c4 s4 rest := by
  refine ⟨bs.take 4, (bs.drop 4).take 1, (bs.drop 5).take 1, (bs.drop 6).take 2, (bs.drop 8).take 4, (bs.drop 12).take 4, bs.drop 16, ?_, ?_, ?_, ?_, ?_, ?_, ?_, ?_⟩
  · rw [← take_cut bs 12 4, ← take_cut bs 8 4, ← take_cut bs 6 2, ← take_cut bs 5 1, ← take_cut bs 4 1, List.take_append_drop]
  all_goals first | (simp [takeF]; omega) | (simp; omega)
theorem takeF_parts (m4 k1 v1 n2 c4 s4 rest : List UInt8) (h1 : m4.length = 4) (h2 : k1.length = 1) (h3 : v1.length = 1) (h4 : n2.length = 2) (h5 : c4.length = 4) (h6 : s4.length = 4) :
    takeF (m4 ++ (k1 ++ (v1 ++ (n2 ++ (c4 ++ (s4 ++ rest)))))) = takeP m4 k1 v1 n2 c4 s4 rest := by
  obtain ⟨a1, a2, a3, a4, a5, a6, a7, e, l1, l2, l3, l4, l5, l6, ht⟩ := take_parts (m4 ++ (k1 ++ (v1 ++ (n2 ++ (c4 ++ (s4 ++ rest)))))) (by simp; omega)
  rw [ht]
  obtain ⟨q1, e1⟩ := List.append_inj e (by omega)
  obtain ⟨q2, e2⟩ := List.append_inj e1 (by omega)
  obtain ⟨q3, e3⟩ := List.append_inj e2 (by omega)
  obtain ⟨q4, e4⟩ := List.append_inj e3 (by omega)
  obtain ⟨q5, e5⟩ := List.append_inj e4 (by omega)
  obtain ⟨q6, q7⟩ := List.append_inj e5 (by omega)
  rw [q1, q2, q3, q4, q5, q6, q7]

theorem tk_app (cs rest : List UInt8) (n : Int) (h : (cs.length : Int) = n) : tk (cs ++ rest) 0 n = (cs, rest, 0) := by
  subst h
  have : ¬ ((cs.length : Int) < 0) := by omega
  have h2 : ¬ (((cs ++ rest).length : Int) < cs.length) := by simp; omega
  simp only [tk, ne_eq, not_true_eq_false, false_or, if_neg this, if_neg h2]
  simp
theorem mem_addr {A : Option Addr} {k i : Nat} (h : i ∈ addrOf (A.map (·.add k))) : i ∈ addrOf A := by
  cases A with
  | none => simp [addrOf] at h
  | some a =>
    simp only [Option.map_some, addrOf, Addr.add] at h ⊢
    split at h <;> simpa using h
theorem RdB.upto {w : World} {G : List Nat} {A : Option Addr} {m c : Nat} {bs : List UInt8} (h : RdB w G (.slice A m c) bs) (k : Nat) (hk : k ≤ m) : RdB w G (.slice A k c) (bs.take k) := by
  obtain ⟨A', m', c', e, h2, h3, h4, h5, h6, h7⟩ := h
  injection e with e1 e2 e3
  subst e1 e2 e3
  exact ⟨A, k, c, rfl, by rw [List.length_take]; omega, by omega, h4, h5.take k, fun i hi hne => h6 i hi (ne_take hne), fun hA => by have := h7 hA; omega⟩
theorem RdB.drop {w : World} {G : List Nat} {A : Option Addr} {m c : Nat} {bs : List UInt8} (h : RdB w G (.slice A m c) bs) (k : Nat) (hk : k ≤ m) : RdB w G (.slice (A.map (·.add k)) (m - k) (c - k)) (bs.drop k) := by
  obtain ⟨A', m', c', e, h2, h3, h4, h5, h6, h7⟩ := h
  injection e with e1 e2 e3
  subst e1 e2 e3
  exact ⟨_, _, _, rfl, by rw [List.length_drop]; omega, by omega, by omega, h5.drop k, fun i hi hne => h6 i (mem_addr hi) (ne_drop hne), fun hA => by have := h7 (by simpa using hA); omega⟩

end Go.Proofs.Ytoibecclilmllaa
end
