
/-
  What the disk's laws do, in plain Lean: moves, renames.
-/
import Derived.Test.YthdjdfdefibepaaDkN
namespace Go.Proofs.Ythdjdfdefibepaa
open Go.RowKit Go.ChangeShapes Go.WideShapes Go.ChangeAt Go.Deep Go.MapKept
set_option linter.unusedVariables false

theorem sort_two_lt {x y : Bs} (h : x ≤ y) : srtN [x, y] = [x, y] := by
  refine srt_one (srtN_perm _) (srtN_sorted _) ?_
  simp [h]
theorem new100k : newDk 100000 = ⟨[], [], [], [], 100000, 0, 0⟩ := by unfold newDk; rw [show max (0 : Int) (min 100000 67108864) = 100000 from by decide]
/-! moves -/
def mvA (a : Bs) : DkD := ⟨[⟨a, 0⟩], [([120], 0)], [], [⟨1, [120], [], some 0⟩], 100000, 1, 0⟩
def mvB (a b : Bs) : DkD := ⟨[⟨a, 0⟩, ⟨b, 0⟩], [([120], 0), ([121], 1)], [], [⟨1, [120], [], some 0⟩, ⟨1, [121], [], some 1⟩], 100000, 2, 0⟩
def mvL : List ChD := [⟨1, [120], [], some 0⟩, ⟨1, [121], [], some 1⟩, ⟨2, [120], [121], none⟩]
def mvC (a b : Bs) (n : Int) : DkD := ⟨[⟨a, 0⟩, ⟨b, 0⟩], [([121], 0)], [], mvL, 100000, n, 0⟩
def mvD (a b : Bs) (k : Nat) (n : Int) : DkD := ⟨[⟨a.take k, k⟩, ⟨b, 0⟩], [([121], 0)], [], mvL, 100000, n, 0⟩
def mvE (a b : Bs) (k : Nat) (n : Int) : DkD := ⟨[⟨a.take k, k⟩, ⟨b, 0⟩], [], [], mvL ++ [⟨3, [121], [], none⟩], 100000, n, 0⟩
theorem mv1 {a : Bs} (h : a.length ≤ 2000) : appD (newDk 100000) [120] a = (0, mvA a) := by
  have h1 : ¬ (100000 : Int) < (a.length : Int) := by omega
  have h2 : ¬ (1048576 : Int) < (a.length : Int) := by omega
  rw [new100k]
  simp [appD, begD, namedD, roomD, sizeD, getM, lenF, newD, chgD, doD, putM, appF, mvA, h1, h2]
theorem mv2 {a b : Bs} (ha : a.length ≤ 2000) (hb : b.length ≤ 2000) : appD (mvA a) [121] b = (0, mvB a b) := by
  have h1 : ¬ (100000 : Int) - (a.length : Int) < (b.length : Int) := by omega
  have h2 : ¬ (1048576 : Int) < (b.length : Int) := by omega
  have h3 : ¬ (100000 : Int) < (a.length : Int) := by omega
  simp [appD, begD, namedD, roomD, sizeD, getM, lenF, newD, chgD, doD, putM, appF, mvA, mvB, h1, h2, h3]
theorem mv3 (a b : Bs) : renD (mvB a b) [120] [121] = (0, mvC a b 3) := by
  simp [renD, fndD, begD, namedD, getM, chgD, doD, putM, delM, mvB, mvC, mvL]
theorem mv4 (a b : Bs) : renD (mvC a b 3) [120] [122] = (6, mvC a b 4) := by
  simp [renD, fndD, begD, getM, mvC]
theorem mv5 (a b : Bs) : renD (mvC a b 4) [121] [121] = (0, mvC a b 5) := by
  simp [renD, fndD, begD, namedD, getM, mvC]
theorem mv6 (a b : Bs) : reaD (mvC a b 5) [121] = some a := by simp [reaD, getM, mvC]
theorem mv7 (a b : Bs) : reaD (mvC a b 5) [120] = none := by simp [reaD, getM, mvC]
theorem mv8 {a b : Bs} {k : Nat} (h : k ≤ a.length) : cutD (mvC a b 5) [121] (k : Int) = (0, mvD a b k 6) := by
  simp [cutD, fndD, begD, getM, lenF, mvC, mvD]
  omega
theorem mv9 {a b : Bs} {k : Nat} (h : k ≤ a.length) : cutD (mvD a b k 6) [121] ((a.length : Int) + 1) = (1, mvD a b k 7) := by
  simp [cutD, fndD, begD, getM, lenF, mvD]
  omega
theorem mv10 (a b : Bs) (k : Nat) : reaD (mvD a b k 7) [121] = some (a.take k) := by simp [reaD, getM, mvD]
theorem mv11 (a b : Bs) (k : Nat) : remD (mvD a b k 7) [121] = (0, mvE a b k 8) := by
  simp [remD, fndD, begD, getM, chgD, doD, delM, mvD, mvE]
theorem mv12 (a b : Bs) (k : Nat) : remD (mvE a b k 8) [121] = (6, mvE a b k 9) := by
  simp [remD, fndD, begD, getM, mvE]
theorem mv13 (a b : Bs) (k : Nat) : sizeD (mvE a b k 9) = 0 := by simp [sizeD, mvE]
/-! renames -/
def nm : Bs := [109]
def nn : Bs := [109, 46, 110, 101, 119]
def rnA (a : Bs) (n : Int) (s : Nat) : DkD := ⟨[⟨a, s⟩], [(nm, 0)], [], [⟨1, nm, [], some 0⟩], 100000, n, 0⟩
def rnB (a : Bs) : DkD := ⟨[⟨a, a.length⟩], [(nm, 0)], [(nm, 0)], [], 100000, 3, 0⟩
def rnC (a b : Bs) (n : Int) (s : Nat) : DkD := ⟨[⟨a, a.length⟩, ⟨b, s⟩], [(nm, 0), (nn, 1)], [(nm, 0)], [⟨1, nn, [], some 1⟩], 100000, n, 0⟩
def rnD (a b : Bs) : DkD := ⟨[⟨a, a.length⟩, ⟨b, b.length⟩], [(nm, 1)], [(nm, 0)], [⟨1, nn, [], some 1⟩, ⟨2, nn, nm, none⟩], 100000, 6, 0⟩
def rnN (k : Nat) : List (Bs × Nat) := if k = 2 then [(nm, 1)] else if k = 1 then [(nm, 0), (nn, 1)] else [(nm, 0)]
def rnE (a b : Bs) (k : Nat) : DkD := ⟨[⟨a, a.length⟩, ⟨b, b.length⟩], rnN k, rnN k, [], 100000, 6, 0⟩
theorem rn1 {a : Bs} (h : a.length ≤ 2000) : appD (newDk 100000) nm a = (0, rnA a 1 0) := by
  have h1 : ¬ (100000 : Int) < (a.length : Int) := by omega
  have h2 : ¬ (1048576 : Int) < (a.length : Int) := by omega
  rw [new100k]
  simp [appD, begD, namedD, roomD, sizeD, getM, lenF, newD, chgD, doD, putM, appF, rnA, nm, h1, h2]
theorem rn2 (a : Bs) : synD (rnA a 1 0) nm = (0, rnA a 2 a.length) := by simp [synD, fndD, begD, getM, rnA]
theorem rn3 (a : Bs) : sdrD (rnA a 2 a.length) = (0, rnB a) := by simp [sdrD, begD, rnA, rnB]
theorem rn4 {a b : Bs} (ha : a.length ≤ 2000) (hb : b.length ≤ 2000) : appD (rnB a) nn b = (0, rnC a b 4 0) := by
  have h1 : ¬ (100000 : Int) - (a.length : Int) < (b.length : Int) := by omega
  have h2 : ¬ (1048576 : Int) < (b.length : Int) := by omega
  have h3 : ¬ (100000 : Int) < (a.length : Int) := by omega
  simp [appD, begD, namedD, roomD, sizeD, getM, lenF, newD, chgD, doD, putM, appF, rnB, rnC, nm, nn, h1, h2, h3]
theorem rn5 (a b : Bs) : synD (rnC a b 4 0) nn = (0, rnC a b 5 b.length) := by simp [synD, fndD, begD, getM, rnC, nm, nn]
theorem rn6 (a b : Bs) : renD (rnC a b 5 b.length) nn nm = (0, rnD a b) := by
  simp [renD, fndD, begD, namedD, getM, chgD, doD, putM, delM, rnC, rnD, nm, nn]
theorem rn7 (a b : Bs) (q : UInt8) : craN (rnD a b) [q] = rnN (q.toNat % 3) := by
  have h : q.toNat % 3 = 0 ∨ q.toNat % 3 = 1 ∨ q.toNat % 3 = 2 := by omega
  unfold craN
  have e : pickD [q] (rnD a b).ch.length = q.toNat % 3 := rfl
  rw [e]
  rcases h with h | h | h <;> rw [h] <;> simp [rnD, rnN, runC, doD, putM, delM, getM, nm, nn]
theorem rn8 (a b : Bs) (q : UInt8) : craD (rnD a b) [q] = rnE a b (q.toNat % 3) := by
  have h : q.toNat % 3 = 0 ∨ q.toNat % 3 = 1 ∨ q.toNat % 3 = 2 := by omega
  have e2 : srtN [nm, nn] = [nm, nn] := sort_two_lt (by decide)
  unfold craD
  rw [rn7]
  rcases h with h | h | h <;> rw [h]
  · simp [rnN, srt_single, cutAll, getM, pickD, rnD, rnE]
  · simp only [rnN]
    simp [rnN, e2, cutAll, getM, pickD, rnD, rnE, show nm ≠ nn from by decide]
  · simp [rnN, srt_single, cutAll, getM, pickD, rnD, rnE]
theorem rn9 (a b : Bs) (k : Nat) : reaD (rnE a b k) nm = some (if k = 2 then b else a) := by
  unfold reaD rnE rnN
  by_cases h : k = 2
  · simp [h, getM]
  · by_cases h1 : k = 1
    · simp [h1, getM]
    · simp [h, h1, getM]
theorem rn10 (a b : Bs) (k : Nat) (hk : k < 3) : (rnE a b k).now.length = if k = 2 then 1 else 1 + k := by
  have h : k = 0 ∨ k = 1 ∨ k = 2 := by omega
  rcases h with rfl | rfl | rfl <;> rfl
end Go.Proofs.Ythdjdfdefibepaa
