
/-
  A library's iterator over a map of one's own: the steps of its walk.
-/
import Derived.Test.YthdjdfdefibepaaMap
import Derived.Shelf.SlIterI.Sorted
import Derived.Sort.LoopGhostIn
namespace Go.Proofs.Ythdjdfdefibepaa
open Go.RowKit Go.Maps Go.Sort Go.Shelf Go.MapKept Go.ChangeMaps
set_option linter.unusedVariables false

theorem Kept.grown_none {w w' : World} (h : Kept [] w w') : w.grownBy w' none := ⟨h.os, h.tape, h.output, h.size, fun k hk _ => h.block k hk (by simp)⟩
theorem Kept.grown_one {w w' : World} {r : Nat} (h : Kept [r] w w') : w.grownBy w' (some r) := ⟨h.os, h.tape, h.output, h.size, fun k hk hne => h.block k hk (by simpa using fun e => hne (by rw [e]))⟩
section
variable {κ ν : Type} {ek : κ → Value} {ev : ν → Value} {P : Program} {F : Fence} {n : Nat} {w w' : World} {b r : Nat} {m left : List (κ × ν)}
theorem Rng.of_walks (h : Rng ek ev w b r m left) (hk : KeepsWalks w w') : Rng ek ev w' b r m left := by
  obtain ⟨⟨es, clock, seen, h1, he, hc, hd, h2, h3⟩, hn⟩ := h
  exact ⟨⟨es, clock, seen, hk.same b _ h1 rfl, he, hc, hd, hk.same r _ h2 rfl, h3⟩, hn⟩
theorem Rng.iter_walk (h : Rng ek ev w b r m left) : ∃ o : Obj, w.heap[r]? = some o ∧ o.isWalk = true := by
  obtain ⟨⟨es, clock, seen, h1, he, hc, hd, h2, h3⟩, hn⟩ := h
  exact ⟨_, h2, rfl⟩
variable {ops : Array Oper} {rest : List Oper} {o : Oper} {a : Act} {Q : Exit → Act → World → Prop}
theorem wpListIn_rangeM (hg : o.guard = none) (mo : Operand) (t : TypeId) (hop : o.op = Op.range t mo) {k e : TypeId} (ht : P.underlying t = some (.map k e))
    (hm : a.eval mo = .map (some b)) (h : MapB ek ev w b m)
    (hK : ∀ w', Rng ek ev w' b w.heap.size m m → Kept [] w w' → w'.heap.size = w.heap.size + 1 → wpListIn F n P ops Q rest (a.put o.dst (.pointer (some ⟨w.heap.size, 0, none⟩))) w') : wpListIn F n P ops Q (o :: rest) a w := by
  refine wpListIn_plain hg fun K' hK' => ?_
  obtain ⟨w', hrun, h1, h2, h3⟩ := h.range ht
  unfold Oper.wpIn
  refine ⟨by simp [Oper.about, hop], ?_⟩
  rw [Oper.semAt_plain F _ _ (by rw [hop]; intro c hc'; cases hc')]
  simp [execOp, hop, hm, hrun, Result.andThen]
  exact hK' _ _ (hK w' h1 h2 h3)
theorem wpListIn_nextM (hg : o.guard = none) (it : Operand) (hop : o.op = Op.next it false) (hit : a.eval it = .pointer (some ⟨r, 0, none⟩)) (h : Rng ek ev w b r m left)
    (hDone : left = [] → wpListIn F n P ops Q rest (a.put o.dst (.tuple #[.bool false])) w)
    (hMore : ∀ (p : κ × ν) (left' : List (κ × ν)) (w' : World), left.Perm (p :: left') → Rng ek ev w' b r m left' → Kept [r] w w' → w'.heap.size = w.heap.size → (Instr.entry (.pointer (some ⟨r, 0, none⟩))).run P w' = .ok (.tuple #[ek p.1, ev p.2]) w' →
      wpListIn F n P ops Q rest (a.put o.dst (.tuple #[.bool true, ek p.1, ev p.2])) w') : wpListIn F n P ops Q (o :: rest) a w := by
  refine wpListIn_plain hg fun K' hK' => ?_
  unfold Oper.wpIn
  refine ⟨by simp [Oper.about, hop], ?_⟩
  rw [Oper.semAt_plain F _ _ (by rw [hop]; intro c hc'; cases hc')]
  rcases h.next (P := P) o.type with ⟨h0, hrun⟩ | ⟨p, left', w', hp, hrun, h1, h2, h3, h4⟩
  · simp [execOp, hop, hit, hrun, Result.andThen]
    exact hK' _ _ (hDone h0)
  · simp [execOp, hop, hit, hrun, Result.andThen]
    exact hK' _ _ (hMore p left' w' hp h1 h2 h3 h4)
end
theorem perm_step {α β : Type} {ss : List β} {left left' : List α} {p : α} {f : α → β} {m : List β} (h : (ss ++ left.map f).Perm m) (hp : left.Perm (p :: left')) : ((ss ++ [f p]) ++ left'.map f).Perm m :=
  (by rw [List.append_assoc]; exact (List.Perm.append_left ss (hp.map f)).symm.trans h)
end Go.Proofs.Ythdjdfdefibepaa
