
/-
  DiskSure, in plain Lean: what is sure stays.
-/
import Derived.Test.YthdjdfdefibepaaDkP
namespace Go.Proofs.Ythdjdfdefibepaa
open Go.RowKit Go.ChangeShapes Go.WideShapes Go.ChangeAt Go.Deep Go.MapKept
set_option linter.unusedVariables false

def suN : List (Bs × Nat) := [([121], 1), ([122], 0)]
def suM : List (Bs × Nat) := [([122], 0)]
def suR : ChD := ⟨3, [121], [], none⟩
def suL : List ChD := [⟨1, [120], [], some 0⟩, ⟨1, [121], [], some 1⟩]
def suA (a b : Bs) : DkD := ⟨[⟨a, a.length⟩, ⟨b, 0⟩], [([120], 0), ([121], 1)], [], suL, 100000, 3, 0⟩
def suB (a b : Bs) : DkD := ⟨[⟨a, a.length⟩, ⟨b, 0⟩], suN, [], suL ++ [⟨2, [120], [122], none⟩], 100000, 4, 0⟩
def suC (a b : Bs) : DkD := ⟨[⟨a, a.length⟩, ⟨b, 0⟩], suN, suN, [], 100000, 5, 0⟩
def suD (a b c : Bs) : DkD := ⟨[⟨a ++ c, a.length⟩, ⟨b, 0⟩], suN, suN, [], 100000, 6, 0⟩
def suE (a b c : Bs) : DkD := ⟨[⟨a ++ c, a.length⟩, ⟨b, 0⟩], suM, suN, [suR], 100000, 7, 0⟩
theorem su3 (a b : Bs) : synD (mvB a b) [120] = (0, suA a b) := by simp [synD, fndD, begD, getM, mvB, suA, suL]
theorem su4 (a b : Bs) : renD (suA a b) [120] [122] = (0, suB a b) := by simp [renD, fndD, begD, namedD, getM, chgD, doD, putM, delM, suA, suB, suN]
theorem su5 (a b : Bs) : sdrD (suB a b) = (0, suC a b) := by simp [sdrD, begD, suB, suC]
theorem su6 {a b c : Bs} (ha : a.length ≤ 2000) (hb : b.length ≤ 2000) (hc : c.length ≤ 2000) : appD (suC a b) [122] c = (0, suD a b c) := by
  simp [appD, begD, namedD, roomD, sizeD, getM, lenF, appF, suC, suD, suN]
  omega
theorem su7 (a b c : Bs) : remD (suD a b c) [121] = (0, suE a b c) := by simp [remD, fndD, begD, getM, chgD, doD, delM, suD, suE, suN, suM, suR]

structure SU (a b c : Bs) (D : DkD) : Prop where
  ops : D.ops = 7
  fs : ∃ (t sa u sb : Nat), D.files = [⟨(a ++ c).take t, sa⟩, ⟨b.take u, sb⟩] ∧ a.length ≤ t ∧ t ≤ a.length + c.length ∧ a.length ≤ sa ∧ sa ≤ t ∧ u ≤ b.length ∧ sb ≤ u
  names : (D.sur = suN ∧ D.ch = [suR]) ∨ ((D.sur = suN ∨ D.sur = suM) ∧ D.ch = [])
theorem SU.start (a b c : Bs) : SU a b c (suE a b c) := ⟨rfl, ⟨a.length + c.length, a.length, b.length, 0, by rw [List.take_of_length_le (by simp), List.take_of_length_le (by simp)]; rfl, by omega, by omega, by omega, by omega, by omega, by omega⟩, .inl ⟨rfl, rfl⟩⟩
theorem cra_names {a b c : Bs} {D : DkD} (h : SU a b c D) (ps : Bs) : craN D ps = suN ∨ craN D ps = suM := by
  unfold craN
  rcases h.names with ⟨h1, h2⟩ | ⟨h1, h2⟩
  · rw [h1, h2]
    have hp := pickD_le ps [suR].length
    have hp : pickD ps [suR].length = 0 ∨ pickD ps [suR].length = 1 := by simp at hp ⊢; omega
    rcases hp with hp | hp <;> rw [hp]
    · exact .inl rfl
    · right
      simp [runC, doD, suR, suN, suM, delM]
  · rw [h2]
    rcases h1 with h1 | h1 <;> rw [h1]
    · exact .inl (by simp [runC])
    · exact .inr (by simp [runC])
theorem SU.cra {a b c : Bs} {D : DkD} (h : SU a b c D) (ps : Bs) : SU a b c (craD D ps) ∧ (∃ t, reaD (craD D ps) [122] = some ((a ++ c).take t) ∧ a.length ≤ t ∧ t ≤ a.length + c.length) ∧ (reaD (craD D ps) [121] = none ∨ ∃ u, u ≤ b.length ∧ reaD (craD D ps) [121] = some (b.take u)) ∧ reaD (craD D ps) [120] = none := by
  obtain ⟨t, sa, u, sb, hf, h1, h2, h3, h4, h5, h6⟩ := h.fs
  have lt : ((a ++ c).take t).length = t := by simp; omega
  have lu : (b.take u).length = u := by simp; omega
  have e2 : srtN [[121], [122]] = [[121], [122]] := sort_two_lt (by decide)
  rcases cra_names h ps with hn | hn
  · obtain ⟨k, hk⟩ : ∃ k, pickD (ps.drop 1) ((b.take u).length - sb) = k := ⟨_, rfl⟩
    obtain ⟨j, hj⟩ : ∃ j, pickD ((ps.drop 1).drop 1) (((a ++ c).take t).length - sa) = j := ⟨_, rfl⟩
    have hk1 := pickD_le (ps.drop 1) ((b.take u).length - sb)
    have hj1 := pickD_le ((ps.drop 1).drop 1) (((a ++ c).take t).length - sa)
    rw [hk, lu] at hk1
    rw [hj, lt] at hj1
    have hfs : (craD D ps).files = [⟨(a ++ c).take (sa + j), sa + j⟩, ⟨b.take (sb + k), sb + k⟩] := by
      show cutAll (craN D ps) (srtN ((craN D ps).map (·.1))) (ps.drop 1) D.files = _
      rw [hn, hf, show suN.map (·.1) = [[121], [122]] from rfl, e2]
      unfold cutAll
      rw [show getM suN [121] = some 1 from rfl]
      simp only [List.getElem?_cons_succ, List.getElem?_cons_zero, hk]
      unfold cutAll
      rw [show getM suN [122] = some 0 from rfl]
      simp only [List.set_cons_succ, List.set_cons_zero, List.getElem?_cons_zero, hj, cutAll]
      rw [List.take_take, List.take_take, Nat.min_eq_left (by omega), Nat.min_eq_left (by omega)]
    have hnow : (craD D ps).now = suN := hn
    refine ⟨⟨h.ops, ⟨sa + j, sa + j, sb + k, sb + k, hfs, by omega, by omega, by omega, by omega, by omega, by omega⟩, .inr ⟨.inl hn, rfl⟩⟩, ⟨sa + j, ?_, by omega, by omega⟩, .inr ⟨sb + k, by omega, ?_⟩, ?_⟩
    · unfold reaD; rw [hnow, hfs, show getM suN [122] = some 0 from rfl]; rfl
    · unfold reaD; rw [hnow, hfs, show getM suN [121] = some 1 from rfl]; rfl
    · unfold reaD; rw [hnow, show getM suN [120] = none from rfl]; rfl
  · obtain ⟨j, hj⟩ : ∃ j, pickD (ps.drop 1) (((a ++ c).take t).length - sa) = j := ⟨_, rfl⟩
    have hj1 := pickD_le (ps.drop 1) (((a ++ c).take t).length - sa)
    rw [hj, lt] at hj1
    have hfs : (craD D ps).files = [⟨(a ++ c).take (sa + j), sa + j⟩, ⟨b.take u, sb⟩] := by
      show cutAll (craN D ps) (srtN ((craN D ps).map (·.1))) (ps.drop 1) D.files = _
      rw [hn, hf, show suM.map (·.1) = [[122]] from rfl, srt_single]
      unfold cutAll
      rw [show getM suM [122] = some 0 from rfl]
      simp only [List.set_cons_zero, List.getElem?_cons_zero, hj, cutAll]
      rw [List.take_take, Nat.min_eq_left (by omega)]
    have hnow : (craD D ps).now = suM := hn
    refine ⟨⟨h.ops, ⟨sa + j, sa + j, u, sb, hfs, by omega, by omega, by omega, by omega, by omega, by omega⟩, .inr ⟨.inr hn, rfl⟩⟩, ⟨sa + j, ?_, by omega, by omega⟩, .inl ?_, ?_⟩
    · unfold reaD; rw [hnow, hfs, show getM suM [122] = some 0 from rfl]; rfl
    · unfold reaD; rw [hnow, show getM suM [121] = none from rfl]; rfl
    · unfold reaD; rw [hnow, show getM suM [120] = none from rfl]; rfl
end Go.Proofs.Ythdjdfdefibepaa
