
/-
  DiskQuota, in plain Lean: appends alone keep the quota.
-/
import Derived.Test.YthdjdfdefibepaaDkT
namespace Go.Proofs.Ythdjdfdefibepaa
open Go.RowKit Go.ChangeShapes Go.WideShapes Go.ChangeAt Go.Deep Go.MapKept
set_option linter.unusedVariables false

theorem lenF_set_ne {fs : List FlE} {i j : Nat} {f : FlE} (h : i ≠ j) : lenF (fs.set i f) j = lenF fs j := by unfold lenF; rw [List.getElem?_set_ne h]
theorem sum_out {fs : List FlE} {i : Nat} {f : FlE} : ∀ (l : List (Bs × Nat)), i ∉ l.map (·.2) → (l.map fun p => lenF (fs.set i f) p.2).sum = (l.map fun p => lenF fs p.2).sum
  | [], _ => rfl
  | q :: l, h => by
    simp only [List.map_cons, List.mem_cons, not_or] at h
    simp only [List.map_cons, List.sum_cons]
    rw [sum_out l h.2, lenF_set_ne h.1]
theorem sum_in {fs : List FlE} {i k : Nat} {f : FlE} (hk : lenF (fs.set i f) i = lenF fs i + k) : ∀ (l : List (Bs × Nat)), (l.map (·.2)).Nodup → i ∈ l.map (·.2) → (l.map fun p => lenF (fs.set i f) p.2).sum = (l.map fun p => lenF fs p.2).sum + k
  | [], _, h => by simp at h
  | q :: l, hn, h => by
    simp only [List.map_cons, List.nodup_cons] at hn
    simp only [List.map_cons, List.sum_cons]
    by_cases e : q.2 = i
    · subst e
      rw [sum_out l hn.1, hk]
      omega
    · have h2 : i ∈ l.map (·.2) := by
        simp only [List.map_cons, List.mem_cons] at h
        exact h.resolve_left (fun h => e h.symm)
      rw [sum_in hk l hn.2 h2, lenF_set_ne (fun h => e h.symm)]
      omega
/-- appends alone -/
structure QI (Q : Int) (j : Nat) (D : DkD) : Prop where
  inv : InvD D
  ids : (D.now.map (·.2)).Nodup
  size : (sizeD D : Int) ≤ Q
  quota : D.quota = Q
  ops : D.ops ≤ j
theorem QI.app {Q : Int} {j : Nat} {D : DkD} (h : QI Q j D) (x b : Bs) : QI Q (j + 1) (appD D x b).2 ∧ ((appD D x b).1 = 0 → sizeD (appD D x b).2 = sizeD D + b.length) ∧ ((appD D x b).1 ≠ 0 → sizeD (appD D x b).2 = sizeD D ∧ namesD (appD D x b).2 = namesD D) := by
  obtain ⟨s1, s2, s3, s4, s5, s6⟩ := beg_same D
  have hB : QI Q (j + 1) (begD D).2 := ⟨beg_inv h.inv, by rw [s2]; exact h.ids, by unfold sizeD; rw [s1, s2]; exact h.size, by rw [s5]; exact h.quota, by rw [s6]; have := h.ops; omega⟩
  have hz : sizeD (begD D).2 = sizeD D := by unfold sizeD; rw [s1, s2]
  have hnm : namesD (begD D).2 = namesD D := by unfold namesD; rw [s2]
  have hiv := app_inv h.inv x b
  have hop := app_ops D x b
  have hO := h.ops
  unfold appD at hiv hop ⊢
  split
  · rename_i h1
    exact ⟨hB, fun h0 => absurd h0 h1, fun _ => ⟨hz, hnm⟩⟩
  · rename_i h1
    rw [if_neg h1] at hiv hop
    split
    · exact ⟨hB, fun h0 => by simp at h0, fun _ => ⟨hz, hnm⟩⟩
    · rename_i h2
      rw [if_neg h2] at hiv hop
      split
      · exact ⟨hB, fun h0 => by simp at h0, fun _ => ⟨hz, hnm⟩⟩
      · rename_i h3
        rw [if_neg h3] at hiv hop
        have hr : roomD (begD D).2 (getM D.now x) b.length = true := by simpa using h3
        obtain ⟨r1, r2, r3⟩ := room_le hr
        rw [hz, s5, h.quota] at r2
        cases hg : getM D.now x with
        | some i =>
          rw [hg] at hiv hop
          simp only at hiv hop ⊢
          have hi := h.inv.ok.now (x, i) (getM_mem hg)
          obtain ⟨f, hf⟩ : ∃ f, D.files[i]? = some f := ⟨_, List.getElem?_eq_getElem hi⟩
          have hap : appF D.files i b = D.files.set i ⟨f.b ++ b, f.sure⟩ := by unfold appF; rw [hf]
          have hk : lenF (D.files.set i ⟨f.b ++ b, f.sure⟩) i = lenF D.files i + b.length := by
            rw [lenF_get hf]
            unfold lenF
            rw [List.getElem?_set_self hi]
            simp
          have hs : sizeD { (begD D).2 with files := appF D.files i b } = sizeD D + b.length := by
            unfold sizeD
            simp only [hap, s2]
            exact sum_in hk D.now h.ids (List.mem_map.2 ⟨(x, i), getM_mem hg, rfl⟩)
          exact ⟨⟨hiv, by simp only [s2]; exact h.ids, by rw [hs]; omega, by simp only [s5]; exact h.quota, by rw [hop]; omega⟩, fun _ => hs, fun h0 => absurd rfl h0⟩
        | none =>
          rw [hg] at hiv hop
          simp only at hiv hop ⊢
          have hap : appF (D.files ++ [⟨[], 0⟩]) D.files.length b = D.files ++ [⟨b, 0⟩] := by
            unfold appF
            rw [List.getElem?_append_right (Nat.le_refl _), Nat.sub_self]
            simp
          have hnow : (newD (begD D).2 x).now = D.now ++ [(x, D.files.length)] := by
            simp [newD, chgD, doD, putM, s1, s2, hg]
          have hfr : ∀ p ∈ D.now, lenF (D.files ++ [⟨b, 0⟩]) p.2 = lenF D.files p.2 := fun p hp => by
            unfold lenF
            rw [List.getElem?_append_left (h.inv.ok.now p hp)]
          have hs : sizeD { newD (begD D).2 x with files := appF (D.files ++ [⟨[], 0⟩]) D.files.length b } = sizeD D + b.length := by
            unfold sizeD
            simp only [hap, hnow, List.map_append, List.sum_append]
            rw [List.map_congr_left hfr]
            simp [lenF]
          refine ⟨⟨hiv, ?_, by rw [hs]; omega, by show (begD D).2.quota = Q; rw [s5]; exact h.quota, by rw [hop]; omega⟩, fun _ => hs, fun h0 => absurd rfl h0⟩
          show ((newD (begD D).2 x).now.map (·.2)).Nodup
          rw [hnow, List.map_append, List.nodup_append]
          refine ⟨h.ids, by simp, ?_⟩
          intro a ha c hc e
          obtain ⟨p, hp, rfl⟩ := List.mem_map.1 ha
          have := h.inv.ok.now p hp
          simp at hc
          omega
end Go.Proofs.Ythdjdfdefibepaa
