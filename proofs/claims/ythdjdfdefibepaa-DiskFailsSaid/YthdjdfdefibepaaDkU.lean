
/-
  DiskFails, in plain Lean.
-/
import Derived.Test.YthdjdfdefibepaaDkP
namespace Go.Proofs.Ythdjdfdefibepaa
open Go.RowKit Go.ChangeShapes Go.WideShapes Go.ChangeAt Go.Deep Go.MapKept
set_option linter.unusedVariables false

/-- behind i appends of one byte, s of them done -/
structure FI (n i s : Nat) (D : DkD) : Prop where
  ops : D.ops = (i : Int)
  fail : D.fail = if i < n then (n : Int) else 0
  quota : D.quota = 1000
  shape : (s = 0 ∧ D.now = [] ∧ D.files = []) ∨ ∃ (b : Bs) (sr : Nat), D.now = [([102], 0)] ∧ D.files = [⟨b, sr⟩] ∧ b.length = s
theorem FI.start {n : Nat} (h1 : 1 ≤ n) (h2 : n ≤ 12) : FI n 0 0 (faiD (newDk 1000) (n : Int)) := by
  refine ⟨rfl, ?_, ?_, .inl ⟨rfl, rfl, rfl⟩⟩
  · show (if 1 ≤ (n : Int) ∧ (n : Int) ≤ 4611686018427387904 then (0 : Int) + n else 0) = _
    rw [if_pos (by omega), if_pos (by omega)]
    omega
  · show max 0 (min 1000 67108864) = (1000 : Int)
    decide
theorem FI.size {n i s : Nat} {D : DkD} (h : FI n i s D) : sizeD D = s := by
  rcases h.shape with ⟨h1, h2, h3⟩ | ⟨b, sr, h2, h3, h4⟩
  · simp [sizeD, h2, h1]
  · simp [sizeD, h2, h3, lenF, h4]
theorem FI.hit {n i s : Nat} {D : DkD} (h : FI n i s D) (hi : i + 1 = n) (q : UInt8) : ∃ D', appD D [102] [q] = (8, D') ∧ FI n (i + 1) s D' := by
  have hf := h.fail
  rw [if_pos (by omega)] at hf
  have hb : begD D = (8, { D with ops := D.ops + 1, fail := 0 }) := by
    unfold begD
    rw [if_pos (by rw [h.ops, hf]; omega)]
  refine ⟨{ D with ops := D.ops + 1, fail := 0 }, ?_, ?_⟩
  · unfold appD
    rw [hb, if_pos (by simp)]
  · exact ⟨by show D.ops + 1 = _; rw [h.ops]; omega, by rw [if_neg (by omega)], h.quota, h.shape⟩
theorem FI.done {n i s : Nat} {D : DkD} (h : FI n i s D) (hi : i + 1 ≠ n) (hs : s ≤ 100) (q : UInt8) : ∃ D', appD D [102] [q] = (0, D') ∧ FI n (i + 1) (s + 1) D' := by
  have hb : begD D = (0, { D with ops := D.ops + 1 }) := by
    unfold begD
    rw [if_neg]
    rw [h.ops, h.fail]
    split <;> omega
  have hfl : D.fail = if i + 1 < n then (n : Int) else 0 := by
    rw [h.fail]
    by_cases h1 : i < n
    · rw [if_pos h1, if_pos (by omega)]
    · rw [if_neg h1, if_neg (by omega)]
  have hz := h.size
  have hq := h.quota
  rcases h.shape with ⟨h1, h2, h3⟩ | ⟨b, sr, h2, h3, h4⟩
  · refine ⟨⟨[⟨[q], 0⟩], [([102], 0)], D.sur, D.ch ++ [⟨1, [102], [], some 0⟩], D.quota, D.ops + 1, D.fail⟩, ?_, ?_⟩
    · unfold appD
      rw [hb]
      have hr : roomD { D with ops := D.ops + 1 } (getM D.now [102]) 1 = true := by simp [roomD, sizeD, getM, h2, hq]
      simp only [List.length_singleton, hr]
      simp [namedD, getM, h2, h3, newD, chgD, doD, putM, appF]
    · refine ⟨by show D.ops + 1 = _; rw [h.ops]; omega, hfl, hq, .inr ⟨[q], 0, rfl, rfl, by simp [h1]⟩⟩
  · refine ⟨{ D with ops := D.ops + 1, files := [⟨b ++ [q], sr⟩] }, ?_, ?_⟩
    · unfold appD
      rw [hb]
      have hr : roomD { D with ops := D.ops + 1 } (getM D.now [102]) 1 = true := by
        simp [roomD, sizeD, getM, lenF, h2, h3, hq]
        omega
      simp only [List.length_singleton, hr]
      simp [namedD, getM, h2, h3, appF]
    · exact ⟨by show D.ops + 1 = _; rw [h.ops]; omega, hfl, hq, .inr ⟨b ++ [q], sr, h2, rfl, by simp [h4]⟩⟩
end Go.Proofs.Ythdjdfdefibepaa
