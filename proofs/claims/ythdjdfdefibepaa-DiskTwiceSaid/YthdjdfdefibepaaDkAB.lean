
/-
  DiskQuota: contracts that keep what was made behind the disk.
-/
import Derived.Test.YthdjdfdefibepaaDkT
section
namespace Go.Proofs.Ythdjdfdefibepaa
open Go.RowKit Go.ChangeShapes Go.WideShapes Go.ChangeAt Go.Deep Go.MapKept
set_option linter.unusedVariables false

theorem lenF_set_ne {fs : List FlE} {i j : Nat} {f : FlE} (h : i ≠ j) : lenF (fs.set i f) j = lenF fs j := by unfold lenF; rw [List.getElem?_set_ne h]
theorem sum_out {fs : List FlE} {i : Nat} {f : FlE} : ∀ (l : List (Bs × Nat)), i ∉ l.map (·.2) → (l.map fun p => lenF (fs.set i f) p.2).sum = (l.map fun p => lenF fs p.2).sum
  | [], _ => rfl
  | q :: l, h => by
    simp only [List.map_cons, List.mem_cons, not_or] at h
    simp only [List.map_cons, List.sum_cons]
    rw [sum_out l h.2, lenF_set_ne h.1]
theorem sum_in {fs : List FlE} {i k : Nat} {f : FlE} (hk : lenF (fs.set i f) i = lenF fs i + k) : ∀ (l : List (Bs × Nat)), (l.map (·.2)).Nodup → i ∈ l.map (·.2) → (l.map fun p => lenF (fs.set i f) p.2).sum = (l.map fun p => lenF fs p.2).sum + k
  | [], _, h => by simp at h
  | q :: l, hn, h => by
    simp only [List.map_cons, List.nodup_cons] at hn
    simp only [List.map_cons, List.sum_cons]
    by_cases e : q.2 = i
    · subst e
      rw [sum_out l hn.1, hk]
      omega
    · have h2 : i ∈ l.map (·.2) := by
        simp only [List.map_cons, List.mem_cons] at h
        exact h.resolve_left (fun h => e h.symm)
      rw [sum_in hk l hn.2 h2, lenF_set_ne (fun h => e h.symm)]
      omega
/-- appends alone -/
structure QI (Q : Int) (j : Nat) (D : DkD) : Prop where
  inv : InvD D
  ids : (D.now.map (·.2)).Nodup
  size : (sizeD D : Int) ≤ Q
  quota : D.quota = Q
  ops : D.ops ≤ j
theorem QI.app {Q : Int} {j : Nat} {D : DkD} (h : QI Q j D) (x b : Bs) : QI Q (j + 1) (appD D x b).2 ∧ ((appD D x b).1 = 0 → sizeD (appD D x b).2 = sizeD D + b.length) ∧ ((appD D x b).1 ≠ 0 → sizeD (appD D x b).2 = sizeD D ∧ namesD (appD D x b).2 = namesD D) := by
  obtain ⟨s1, s2, s3, s4, s5, s6⟩ := beg_same D
  have hB : QI Q (j + 1) (begD D).2 := ⟨beg_inv h.inv, by rw [s2]; exact h.ids, by unfold sizeD; rw [s1, s2]; exact h.size, by rw [s5]; exact h.quota, by rw [s6]; have := h.ops; omega⟩
  have hz : sizeD (begD D).2 = sizeD D := by unfold sizeD; rw [s1, s2]
  have hnm : namesD (begD D).2 = namesD D := by unfold namesD; rw [s2]
  have hiv := app_inv h.inv x b
  have hop := app_ops D x b
  have hO := h.ops
  unfold appD at hiv hop ⊢
  split
  · rename_i h1
    exact ⟨hB, fun h0 => absurd h0 h1, fun _ => ⟨hz, hnm⟩⟩
  · rename_i h1
    rw [if_neg h1] at hiv hop
    split
    · exact ⟨hB, fun h0 => by simp at h0, fun _ => ⟨hz, hnm⟩⟩
    · rename_i h2
      rw [if_neg h2] at hiv hop
      split
      · exact ⟨hB, fun h0 => by simp at h0, fun _ => ⟨hz, hnm⟩⟩
      · rename_i h3
        rw [if_neg h3] at hiv hop
        have hr : roomD (begD D).2 (getM D.now x) b.length = true := by simpa using h3
        obtain ⟨r1, r2, r3⟩ := room_le hr
        rw [hz, s5, h.quota] at r2
        cases hg : getM D.now x with
        | some i =>
          rw [hg] at hiv hop
          simp only at hiv hop ⊢
          have hi := h.inv.ok.now (x, i) (getM_mem hg)
          obtain ⟨f, hf⟩ : ∃ f, D.files[i]? = some f := ⟨_, List.getElem?_eq_getElem hi⟩
          have hap : appF D.files i b = D.files.set i ⟨f.b ++ b, f.sure⟩ := by unfold appF; rw [hf]
          have hk : lenF (D.files.set i ⟨f.b ++ b, f.sure⟩) i = lenF D.files i + b.length := by
            rw [lenF_get hf]
            unfold lenF
            rw [List.getElem?_set_self hi]
            simp
          have hs : sizeD { (begD D).2 with files := appF D.files i b } = sizeD D + b.length := by
            unfold sizeD
            simp only [hap, s2]
            exact sum_in hk D.now h.ids (List.mem_map.2 ⟨(x, i), getM_mem hg, rfl⟩)
          exact ⟨⟨hiv, by simp only [s2]; exact h.ids, by rw [hs]; omega, by simp only [s5]; exact h.quota, by rw [hop]; omega⟩, fun _ => hs, fun h0 => absurd rfl h0⟩
        | none =>
          rw [hg] at hiv hop
          simp only at hiv hop ⊢
          have hap : appF (D.files ++ [⟨[], 0⟩]) D.files.length b = D.files ++ [⟨b, 0⟩] := by
            unfold appF
            rw [List.getElem?_append_right (Nat.le_refl _), Nat.sub_self]
            simp
          have hnow : (newD (begD D).2 x).now = D.now ++ [(x, D.files.length)] := by
            simp [newD, chgD, doD, putM, s1, s2, hg]
          have hfr : ∀ p ∈ D.now, lenF (D.files ++ [⟨b, 0⟩]) p.2 = lenF D.files p.2 := fun p hp => by
            unfold lenF
            rw [List.getElem?_append_left (h.inv.ok.now p hp)]
          have hs : sizeD { newD (begD D).2 x with files := appF (D.files ++ [⟨[], 0⟩]) D.files.length b } = sizeD D + b.length := by
            unfold sizeD
            simp only [hap, hnow, List.map_append, List.sum_append]
            rw [List.map_congr_left hfr]
            simp [lenF]
          refine ⟨⟨hiv, ?_, by rw [hs]; omega, by show (begD D).2.quota = Q; rw [s5]; exact h.quota, by rw [hop]; omega⟩, fun _ => hs, fun h0 => absurd rfl h0⟩
          show ((newD (begD D).2 x).now.map (·.2)).Nodup
          rw [hnow, List.map_append, List.nodup_append]
          refine ⟨h.ids, by simp, ?_⟩
          intro a ha c hc e
          obtain ⟨p, hp, rfl⟩ := List.mem_map.1 ha
          have := h.inv.ok.now p hp
          simp at hc
          omega
end Go.Proofs.Ythdjdfdefibepaa
end

section
namespace Go.Proofs.Ythdjdfdefibepaa
open Go.RowKit Go.ChangeShapes Go.WideShapes Go.ChangeAt Go.Deep Go.MapKept
set_option linter.unusedVariables false

theorem CsAt.lift {W w : World} {A : Option Addr} {m c : Nat} {l : List CD} (h : CsAt W w A m c l) (hk : Kept [] W w) : CsAt w w A m c l := by
  obtain ⟨h1, h2, h3, h4⟩ := h
  refine ⟨h1, h2, h3, fun i q hi => ?_⟩
  obtain ⟨g, o, B, n, d, e1, e2, c0, c1, c2, c3, c4, e4⟩ := h4 i q hi
  exact ⟨g, o, B, n, d, e1, Nat.lt_of_lt_of_le e2 hk.size, c0, c1, c2, c3, c4, e4.mono (fun k hk' => by have := List.mem_range.1 hk'; exact List.mem_range.2 (Nat.lt_of_lt_of_le this hk.size))⟩
/-- a disk of one's own, whose blocks all lie below those of wb -/
def DkB (w0 wb w : World) (p : Nat) (D : DkD) : Prop := ∃ G fb bn bs A m c, DkX w G p fb D bn bs A m c ∧ Kept [] w0 w ∧ (∀ k ∈ G, w0.heap.size ≤ k) ∧ ∀ k ∈ G, k < wb.heap.size
section
variable {w0 wb w : World} {p : Nat} {D : DkD}
theorem DkS.b (h : DkS w0 w p D) : DkB w0 w w p D := by
  obtain ⟨G, fb, bn, bs, A, m, c, h1, h2, h3⟩ := h
  exact ⟨G, fb, bn, bs, A, m, c, h1, h2, h3, h1.lt⟩
theorem DkB.s (h : DkB w0 wb w p D) : DkS w0 w p D := by
  obtain ⟨G, fb, bn, bs, A, m, c, h1, h2, h3, _⟩ := h
  exact ⟨G, fb, bn, bs, A, m, c, h1, h2, h3⟩
theorem DkB.go {w' : World} (h : DkB w0 wb w p D) (hk : Kept [] w w') : DkB w0 wb w' p D := by
  obtain ⟨G, fb, bn, bs, A, m, c, h1, h2, h3, h4⟩ := h
  exact ⟨G, fb, bn, bs, A, m, c, h1.go hk, h2.trans hk (by simp), h3, h4⟩
theorem NamesB (h : DkB w0 wb w p D) (iv : InvD D) (ho : D.ops ≤ 400000) : Calls Try.prog 15 #[.pointer (some ⟨p, 0, none⟩)] w fun e w' => ∃ v, e = .returned v ∧ StrsV w w' v (namesD D) ∧ DkB w0 wb w' p D := by
  obtain ⟨G, fb, bn, bs, A, m, c, h1, h2, h3, h4⟩ := h
  exact (Names_any h1 (by have := iv.ok.nl.1; omega)).mono fun e w' ⟨v, he, hs⟩ => ⟨v, he, hs, G, fb, bn, bs, A, m, c, h1.go hs.1, h2.trans hs.1 (by simp), h3, h4⟩
theorem SizeB (h : DkB w0 wb w p D) (iv : InvD D) (ho : D.ops ≤ 400000) : Calls Try.prog 16 #[.pointer (some ⟨p, 0, none⟩)] w fun e w' => e = .returned (.int .i64 (sizeD D : Nat)) ∧ Kept [] w w' ∧ DkB w0 wb w' p D := by
  obtain ⟨G, fb, bn, bs, A, m, c, h1, h2, h3, h4⟩ := h
  exact (Size_any h1 iv.ok (by have := iv.ok.nl.1; omega)).mono fun e w' ⟨he, hk⟩ => ⟨he, hk, G, fb, bn, bs, A, m, c, h1.go hk, h2.trans hk (by simp), h3, h4⟩
theorem AppendB (h : DkB w0 wb w p D) (iv : InvD D) (ho : D.ops ≤ 400000) (x b : Bs) (hx : x.length ≤ 1000000) {B : Option Addr} {n d : Nat} (hb : RdB w (old w0) (.slice B n d) b) (hn : n ≤ 1000000) :
    Calls Try.prog 17 #[.pointer (some ⟨p, 0, none⟩), .string (strOf x), .slice B n d] w fun e w' => e = .returned (.int .i64 (appD D x b).1) ∧ DkS w0 w' p (appD D x b).2 ∧ ∃ S, Kept S w w' ∧ ∀ k ∈ S, k < wb.heap.size := by
  obtain ⟨G, fb, bn, bs, A, m, c, h1, h2, h3, h4⟩ := h
  refine (Append_any h1 iv.ok (by omega) x b hx hb (fun k hk hm => by have := List.mem_range.1 hk; have := h3 k hm; omega) hn).mono ?_
  rintro e w' ⟨rfl, hd⟩
  have hs := hd.s h2 h3
  obtain ⟨fb', G', bn', bs', A', m', c', q1, q2, q3⟩ := hd
  exact ⟨rfl, hs, G, q2, h4⟩
end
theorem StrsV.far {W w w' : World} {S : List Nat} {v : Value} {l : List Bs} (h : StrsV W w v l) (hk : Kept S w w') (hS : ∀ k ∈ S, k < W.heap.size) : ∃ A c, v = .slice A l.length c ∧ StrA w' A l.length l := by
  rcases h.2 with ⟨rfl, rfl⟩ | ⟨g, cap, rfl, hr, hg⟩
  · exact ⟨none, 0, rfl, rfl, fun i x hi => by simp at hi⟩
  · have hr2 := hr.kept hk (fun hm => by have := hS g hm; omega)
    refine ⟨_, _, rfl, rfl, fun i x hi => ⟨g, rfl, hr2.lt, ?_⟩⟩
    have := hr2.cell hi (c := 0) (v := .string (strOf x)) rfl
    simpa using this
end Go.Proofs.Ythdjdfdefibepaa
end
