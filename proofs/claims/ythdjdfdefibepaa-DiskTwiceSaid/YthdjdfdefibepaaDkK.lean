
/-
  The disk, in plain Lean: what every operation keeps.
-/
import Derived.Test.YthdjdfdefibepaaDkJ
namespace Go.Proofs.Ythdjdfdefibepaa
open Go.RowKit Go.ChangeShapes Go.WideShapes Go.ChangeAt Go.Deep Go.MapKept
set_option linter.unusedVariables false

/-- what holds of every disk, whatever was done -/
structure InvD (D : DkD) : Prop where
  ok : OkI D
  run : okRun D.files.length D.sur D.ch
  same : ∀ x, getM (runC D.sur D.ch) x = getM D.now x
  sum : (D.sur.length : Int) + D.ch.length ≤ D.ops
theorem okC_mono {n n' : Nat} {m : List (Bs × Nat)} {c : ChD} (h : okC n m c) (hn : n ≤ n') : okC n' m c := by
  rcases h with ⟨h1, i, h2, h3⟩ | h | h
  · exact .inl ⟨h1, i, h2, by omega⟩
  · exact .inr (.inl h)
  · exact .inr (.inr h)
theorem okC_get {n : Nat} {m m' : List (Bs × Nat)} {c : ChD} (h : okC n m c) (hg : ∀ x, getM m' x = getM m x) : okC n m' c := by
  rcases h with h | ⟨h1, h2, h3, h4⟩ | h
  · exact .inl h
  · exact .inr (.inl ⟨h1, h2, by rw [hg]; exact h3, h4⟩)
  · exact .inr (.inr h)
theorem okRun_mono {n n' : Nat} (hn : n ≤ n') : ∀ {l : List ChD} {m : List (Bs × Nat)}, okRun n m l → okRun n' m l
  | [], _, _ => trivial
  | c :: l, m, ⟨h1, h2⟩ => ⟨okC_mono h1 hn, okRun_mono hn h2⟩
theorem okRun_snoc {n : Nat} {c : ChD} : ∀ {l : List ChD} {m : List (Bs × Nat)}, okRun n m l → okC n (runC m l) c → okRun n m (l ++ [c])
  | [], m, _, h => ⟨h, trivial⟩
  | d :: l, m, ⟨h1, h2⟩, h => ⟨h1, okRun_snoc h2 h⟩
theorem doD_get {m m' : List (Bs × Nat)} (c : ChD) (hg : ∀ x, getM m' x = getM m x) (x : Bs) : getM (doD m' c) x = getM (doD m c) x := by
  unfold doD
  split
  · split
    · rw [getM_put, getM_put, hg]
    · exact hg x
  · split
    · rw [hg c.name]
      split
      · rw [getM_del, getM_del, getM_put, getM_put, hg]
      · exact hg x
    · split
      · rw [getM_del, getM_del, hg]
      · exact hg x
theorem beg_inv {D : DkD} (h : InvD D) : InvD (begD D).2 := by
  obtain ⟨s1, s2, s3, s4, s5, s6⟩ := beg_same D
  refine ⟨beg_ok h.ok, ?_, ?_, ?_⟩
  · rw [s1, s3, s4]; exact h.run
  · rw [s2, s3, s4]; exact h.same
  · rw [s3, s4, s6]; have := h.sum; omega
/-- a change, at an operation -/
theorem chg_inv {D D1 : DkD} (h : InvD D) {fs : List FlE} {c : ChD} (hf : D.files.length ≤ fs.length) (hfl : fs.length ≤ D.files.length + 1) (hs : ∀ f ∈ fs, f.sure ≤ f.b.length ∧ f.b.length ≤ 1048576) (hc : okC fs.length D.now c) (hD : D1 = { (begD D).2 with files := fs }) : InvD (chgD D1 c) := by
  obtain ⟨s1, s2, s3, s4, s5, s6⟩ := beg_same D
  subst hD
  have ok := h.ok
  have hn := ok.nl
  have hl := doD_len D.now c
  have h0 := ok.ops
  have hsm := h.sum
  refine ⟨⟨?_, ?_, ?_, ?_, ?_, ?_, hs, ?_, ?_⟩, ?_, ?_, ?_⟩
  · show ∀ q ∈ doD (begD D).2.now c, q.2 < fs.length
    rw [s2]
    exact doD_ids hc (fun q hq => Nat.lt_of_lt_of_le (ok.now q hq) hf)
  · show ∀ q ∈ (begD D).2.sur, q.2 < fs.length
    rw [s3]
    exact fun q hq => Nat.lt_of_lt_of_le (ok.sur q hq) hf
  · show ∀ d ∈ (begD D).2.ch ++ [c], ∀ i, d.f = some i → i < fs.length
    rw [s4]
    intro d hd i hi
    rcases List.mem_append.1 hd with hd | hd
    · exact Nat.lt_of_lt_of_le (ok.ch d hd i hi) hf
    · obtain rfl : d = c := by simpa using hd
      rcases hc with ⟨_, j, h2, h3⟩ | ⟨_, h2, _⟩ | ⟨_, h2⟩
      · rw [h2] at hi; injection hi with hi; omega
      · rw [h2] at hi; cases hi
      · rw [h2] at hi; cases hi
  · show ((doD (begD D).2.now c).map (·.1)).Nodup
    rw [s2]
    exact doD_nodup c ok.nn
  · show ((begD D).2.sur.map (·.1)).Nodup
    rw [s3]; exact ok.ns
  · show 0 ≤ (begD D).2.ops
    rw [s6]; omega
  · show 0 ≤ (begD D).2.quota ∧ (begD D).2.quota ≤ 67108864
    rw [s5]; exact ok.quota
  · show ((doD (begD D).2.now c).length : Int) ≤ (begD D).2.ops ∧ ((begD D).2.sur.length : Int) ≤ (begD D).2.ops ∧ (((begD D).2.ch ++ [c]).length : Int) ≤ (begD D).2.ops ∧ (fs.length : Int) ≤ (begD D).2.ops
    rw [s2, s3, s4, s6, List.length_append]
    simp only [List.length_singleton]
    omega
  · show okRun fs.length (begD D).2.sur ((begD D).2.ch ++ [c])
    rw [s3, s4]
    exact okRun_snoc (okRun_mono hf h.run) (okC_get hc h.same)
  · show ∀ x, getM (runC (begD D).2.sur ((begD D).2.ch ++ [c])) x = getM (doD (begD D).2.now c) x
    rw [s2, s3, s4]
    intro x
    rw [runC_snoc]
    exact doD_get c h.same x
  · show ((begD D).2.sur.length : Int) + ((begD D).2.ch ++ [c]).length ≤ (begD D).2.ops
    rw [s3, s4, s6, List.length_append]
    simp only [List.length_singleton]
    omega
theorem set_inv {D : DkD} (h : InvD D) {fs : List FlE} (hl : fs.length = D.files.length) (hs : ∀ f ∈ fs, f.sure ≤ f.b.length ∧ f.b.length ≤ 1048576) : InvD { D with files := fs } := by
  have ok := h.ok
  refine ⟨⟨fun q hq => by rw [hl]; exact ok.now q hq, fun q hq => by rw [hl]; exact ok.sur q hq, fun c hc i hi => by rw [hl]; exact ok.ch c hc i hi, ok.nn, ok.ns, ok.ops, hs, ok.quota, ?_⟩, ?_, h.same, h.sum⟩
  · have := ok.nl
    show (D.now.length : Int) ≤ D.ops ∧ (D.sur.length : Int) ≤ D.ops ∧ (D.ch.length : Int) ≤ D.ops ∧ (fs.length : Int) ≤ D.ops
    rw [hl]; exact this
  · show okRun fs.length D.sur D.ch
    rw [hl]; exact h.run
theorem set_sure {fs : List FlE} (hs : ∀ f ∈ fs, f.sure ≤ f.b.length ∧ f.b.length ≤ 1048576) {i : Nat} {f : FlE} (hf : f.sure ≤ f.b.length ∧ f.b.length ≤ 1048576) : ∀ g ∈ fs.set i f, g.sure ≤ g.b.length ∧ g.b.length ≤ 1048576 := fun g hg => by
  rcases List.mem_or_eq_of_mem_set hg with h | rfl
  · exact hs g h
  · exact hf
theorem new_inv (q : Int) : InvD (newDk q) := by
  refine ⟨⟨by simp [newDk], by simp [newDk], by simp [newDk], by simp [newDk], by simp [newDk], by simp [newDk], by simp [newDk], ?_, by simp [newDk]⟩, trivial, fun x => rfl, by simp [newDk]⟩
  show 0 ≤ max 0 (min q 67108864) ∧ max 0 (min q 67108864) ≤ 67108864
  omega
theorem room_le {D : DkD} {f : Option Nat} {n : Nat} (h : roomD D f n = true) : ((f.map (lenF D.files)).getD 0) + n ≤ 1048576 ∧ (sizeD D : Int) + n ≤ D.quota ∧ (f = none → D.now.length < 200) := by
  unfold roomD at h
  simp only [Bool.and_eq_true, Bool.not_eq_true', Bool.or_eq_false_iff, decide_eq_false_iff_not, Bool.or_eq_true, decide_eq_true_eq] at h
  obtain ⟨⟨h1, h2, h3⟩, h4⟩ := h
  refine ⟨by omega, by omega, fun hf => ?_⟩
  subst hf
  simpa using h4
theorem app_inv {D : DkD} (h : InvD D) (x b : Bs) : InvD (appD D x b).2 := by
  obtain ⟨s1, s2, s3, s4, s5, s6⟩ := beg_same D
  have hB := beg_inv h
  unfold appD
  split
  · exact hB
  · split
    · exact hB
    · split
      · exact hB
      · rename_i _ _ hr
        have hr : roomD (begD D).2 (getM D.now x) b.length = true := by simpa using hr
        obtain ⟨r1, r2, r3⟩ := room_le hr
        cases hg : getM D.now x with
        | some i =>
          rw [hg] at r1
          simp only
          have hi := h.ok.now (x, i) (getM_mem hg)
          obtain ⟨f, hf⟩ : ∃ f, D.files[i]? = some f := ⟨_, List.getElem?_eq_getElem hi⟩
          have hap : appF D.files i b = D.files.set i ⟨f.b ++ b, f.sure⟩ := by unfold appF; rw [hf]
          have hsf := h.ok.sure f (List.mem_of_getElem? hf)
          rw [hap]
          refine set_inv hB (by rw [List.length_set, s1]) (set_sure h.ok.sure ?_)
          simp only [Option.map_some, Option.getD_some, s1, lenF_get hf] at r1
          simp only [List.length_append]
          omega
        | none =>
          rw [hg] at r1
          simp only
          have hap : appF (D.files ++ [⟨[], 0⟩]) D.files.length b = (D.files ++ [(⟨[], 0⟩ : FlE)]).set D.files.length ⟨[] ++ b, 0⟩ := by
            unfold appF
            rw [List.getElem?_append_right (Nat.le_refl _), Nat.sub_self]
            rfl
          rw [hap]
          have hs1 : ∀ f ∈ D.files ++ [(⟨[], 0⟩ : FlE)], f.sure ≤ f.b.length ∧ f.b.length ≤ 1048576 := fun f hf => by
            rcases List.mem_append.1 hf with hf | hf
            · exact h.ok.sure f hf
            · obtain rfl : f = _ := by simpa using hf
              simp
          have hC := chg_inv (c := ⟨1, x, [], some D.files.length⟩) h (fs := D.files ++ [⟨[], 0⟩]) (by simp) (by simp) hs1 (.inl ⟨rfl, _, rfl, by simp⟩) rfl
          have e : newD (begD D).2 x = chgD { (begD D).2 with files := D.files ++ [⟨[], 0⟩] } ⟨1, x, [], some D.files.length⟩ := by
            unfold newD
            rw [s1]
          rw [e]
          refine set_inv hC (by rw [List.length_set]; rfl) (set_sure hs1 ?_)
          simp at r1 ⊢
          omega
theorem syn_inv {D : DkD} (h : InvD D) (x : Bs) : InvD (synD D x).2 := by
  obtain ⟨s1, s2, s3, s4, s5, s6⟩ := beg_same D
  rcases fnd_cases D x with ⟨e, _, hf⟩ | ⟨i, hf, hg⟩
  · unfold synD; rw [hf]; exact beg_inv h
  · have hi := h.ok.now (x, i) (getM_mem hg)
    obtain ⟨f, hfi⟩ : ∃ f, D.files[i]? = some f := ⟨_, List.getElem?_eq_getElem hi⟩
    unfold synD
    rw [hf]
    simp only [hfi]
    exact set_inv (beg_inv h) (by rw [List.length_set, s1]) (set_sure h.ok.sure ⟨Nat.le_refl _, (h.ok.sure f (List.mem_of_getElem? hfi)).2⟩)
theorem cut_inv {D : DkD} (h : InvD D) (x : Bs) (n : Int) : InvD (cutD D x n).2 := by
  obtain ⟨s1, s2, s3, s4, s5, s6⟩ := beg_same D
  rcases fnd_cases D x with ⟨e, _, hf⟩ | ⟨i, hf, hg⟩
  · unfold cutD; rw [hf]; exact beg_inv h
  · have hi := h.ok.now (x, i) (getM_mem hg)
    obtain ⟨f, hfi⟩ : ∃ f, D.files[i]? = some f := ⟨_, List.getElem?_eq_getElem hi⟩
    have hsf := h.ok.sure f (List.mem_of_getElem? hfi)
    unfold cutD
    rw [hf]
    simp only [hfi, lenF_get hfi]
    split
    · exact beg_inv h
    · refine set_inv (beg_inv h) (by rw [List.length_set, s1]) (set_sure h.ok.sure ?_)
      simp only [List.length_take]
      omega
theorem ren_inv {D : DkD} (h : InvD D) (x y : Bs) : InvD (renD D x y).2 := by
  rcases fnd_cases D x with ⟨e, _, hf⟩ | ⟨i, hf, hg⟩
  · unfold renD; rw [hf]; exact beg_inv h
  · unfold renD
    rw [hf]
    simp only
    split
    · exact beg_inv h
    · split
      · exact beg_inv h
      · rename_i _ hxy
        exact chg_inv h (fs := D.files) (Nat.le_refl _) (by omega) h.ok.sure (.inr (.inl ⟨rfl, rfl, by rw [hg]; rfl, hxy⟩)) (by rw [← (beg_same D).1])
theorem rem_inv {D : DkD} (h : InvD D) (x : Bs) : InvD (remD D x).2 := by
  rcases fnd_cases D x with ⟨e, _, hf⟩ | ⟨i, hf, hg⟩
  · unfold remD; rw [hf]; exact beg_inv h
  · unfold remD
    rw [hf]
    exact chg_inv h (fs := D.files) (Nat.le_refl _) (by omega) h.ok.sure (.inr (.inr ⟨rfl, rfl⟩)) (by rw [← (beg_same D).1])
theorem sdr_inv {D : DkD} (h : InvD D) : InvD (sdrD D).2 := by
  obtain ⟨s1, s2, s3, s4, s5, s6⟩ := beg_same D
  unfold sdrD
  split
  · exact beg_inv h
  · have ok := h.ok
    have hn := ok.nl
    have h0 := ok.ops
    refine ⟨⟨?_, ?_, by simp, ?_, ok.nn, ?_, ?_, ?_, ?_⟩, trivial, ?_, ?_⟩
    · show ∀ q ∈ (begD D).2.now, q.2 < (begD D).2.files.length
      rw [s1, s2]; exact ok.now
    · show ∀ q ∈ D.now, q.2 < (begD D).2.files.length
      rw [s1]; exact ok.now
    · show ((begD D).2.now.map (·.1)).Nodup
      rw [s2]; exact ok.nn
    · show 0 ≤ (begD D).2.ops
      rw [s6]; omega
    · show ∀ f ∈ (begD D).2.files, _
      rw [s1]; exact ok.sure
    · show 0 ≤ (begD D).2.quota ∧ (begD D).2.quota ≤ 67108864
      rw [s5]; exact ok.quota
    · show ((begD D).2.now.length : Int) ≤ (begD D).2.ops ∧ (D.now.length : Int) ≤ (begD D).2.ops ∧ ((([] : List ChD)).length : Int) ≤ (begD D).2.ops ∧ ((begD D).2.files.length : Int) ≤ (begD D).2.ops
      rw [s1, s2, s6]
      simp only [List.length_nil]
      omega
    · show ∀ x, getM D.now x = getM (begD D).2.now x
      rw [s2]; exact fun x => rfl
    · show (D.now.length : Int) + ((([] : List ChD)).length : Nat) ≤ (begD D).2.ops
      rw [s6]; simp only [List.length_nil]; omega
theorem fai_inv {D : DkD} (h : InvD D) (n : Int) : InvD (faiD D n) := ⟨⟨h.ok.now, h.ok.sur, h.ok.ch, h.ok.nn, h.ok.ns, h.ok.ops, h.ok.sure, h.ok.quota, h.ok.nl⟩, h.run, h.same, h.sum⟩
theorem cutAll_inv {nm : List (Bs × Nat)} : ∀ (l : List Bs) (ps : Bs) (fs : List FlE), (∀ f ∈ fs, f.sure ≤ f.b.length ∧ f.b.length ≤ 1048576) → (cutAll nm l ps fs).length = fs.length ∧ ∀ f ∈ cutAll nm l ps fs, f.sure ≤ f.b.length ∧ f.b.length ≤ 1048576
  | [], ps, fs, h => ⟨rfl, h⟩
  | x :: l, ps, fs, h => by
    unfold cutAll
    split
    · split
      · rename_i i _ _ f hf
        have hsf := h f (List.mem_of_getElem? hf)
        have hpk := pickD_le ps (f.b.length - f.sure)
        obtain ⟨h1, h2⟩ := cutAll_inv (nm := nm) l (ps.drop 1) (fs.set i ⟨f.b.take (f.sure + pickD ps (f.b.length - f.sure)), f.sure + pickD ps (f.b.length - f.sure)⟩) (set_sure h (by simp only [List.length_take]; omega))
        exact ⟨by rw [h1, List.length_set], h2⟩
      · exact cutAll_inv l _ fs h
    · exact cutAll_inv l _ fs h
theorem runC_nodup : ∀ (l : List ChD) {m : List (Bs × Nat)}, (m.map (·.1)).Nodup → ((runC m l).map (·.1)).Nodup
  | [], _, h => h
  | c :: l, m, h => runC_nodup l (doD_nodup c h)
theorem cra_inv {D : DkD} (h : InvD D) (ps : Bs) : InvD (craD D ps) := by
  have ok := h.ok
  have hid : ∀ q ∈ craN D ps, q.2 < D.files.length := runC_ids D.ch h.run ok.sur _
  obtain ⟨c1, c2⟩ := cutAll_inv (nm := craN D ps) (srtN ((craN D ps).map (·.1))) (ps.drop 1) D.files ok.sure
  have hnd : ((craN D ps).map (·.1)).Nodup := runC_nodup _ ok.ns
  have hn := ok.nl
  have hl : ((craN D ps).length : Int) ≤ D.ops := by
    have h1 := runC_len (D.ch.take (pickD ps D.ch.length)) D.sur
    have h2 : (D.ch.take (pickD ps D.ch.length)).length ≤ D.ch.length := by rw [List.length_take]; omega
    have h3 := h.sum
    show ((runC D.sur (D.ch.take (pickD ps D.ch.length))).length : Int) ≤ D.ops
    omega
  refine ⟨⟨fun q hq => ?_, fun q hq => ?_, by simp [craD], hnd, hnd, ok.ops, c2, ok.quota, ?_⟩, trivial, fun x => rfl, by simpa [craD] using hl⟩
  · show q.2 < (cutAll _ _ _ _).length
    rw [c1]; exact hid q hq
  · show q.2 < (cutAll _ _ _ _).length
    rw [c1]; exact hid q hq
  · show ((craN D ps).length : Int) ≤ D.ops ∧ ((craN D ps).length : Int) ≤ D.ops ∧ ((([] : List ChD)).length : Int) ≤ D.ops ∧ ((cutAll _ _ _ _).length : Int) ≤ D.ops
    rw [c1]
    have := ok.ops
    simp only [List.length_nil]
    omega
theorem app_ops (D : DkD) (x b : Bs) : (appD D x b).2.ops = D.ops + 1 := by
  have h := (beg_same D).2.2.2.2.2
  unfold appD
  split
  · exact h
  · split
    · exact h
    · split
      · exact h
      · split
        · exact h
        · exact h
theorem fnd_ops (D : DkD) (x : Bs) : (fndD D x).2.2 = (begD D).2 := by
  rcases fnd_cases D x with ⟨e, _, h⟩ | ⟨i, h, _⟩ <;> rw [h]
theorem syn_ops (D : DkD) (x : Bs) : (synD D x).2.ops = D.ops + 1 := by
  have h := (beg_same D).2.2.2.2.2
  rcases fnd_cases D x with ⟨e, _, hf⟩ | ⟨i, hf, _⟩ <;> unfold synD <;> rw [hf] <;> exact h
theorem cut_ops (D : DkD) (x : Bs) (n : Int) : (cutD D x n).2.ops = D.ops + 1 := by
  have h := (beg_same D).2.2.2.2.2
  rcases fnd_cases D x with ⟨e, _, hf⟩ | ⟨i, hf, _⟩
  · unfold cutD; rw [hf]; exact h
  · unfold cutD; rw [hf]; simp only; split <;> exact h
theorem ren_ops (D : DkD) (x y : Bs) : (renD D x y).2.ops = D.ops + 1 := by
  have h := (beg_same D).2.2.2.2.2
  rcases fnd_cases D x with ⟨e, _, hf⟩ | ⟨i, hf, _⟩
  · unfold renD; rw [hf]; exact h
  · unfold renD; rw [hf]; simp only; split
    · exact h
    · split <;> exact h
theorem rem_ops (D : DkD) (x : Bs) : (remD D x).2.ops = D.ops + 1 := by
  have h := (beg_same D).2.2.2.2.2
  rcases fnd_cases D x with ⟨e, _, hf⟩ | ⟨i, hf, _⟩ <;> unfold remD <;> rw [hf] <;> exact h
theorem sdr_ops (D : DkD) : (sdrD D).2.ops = D.ops + 1 := by
  have h := (beg_same D).2.2.2.2.2
  unfold sdrD
  split <;> exact h

/-- a disk that was made since w0 -/
def DkS (w0 w : World) (p : Nat) (D : DkD) : Prop := ∃ G fb bn bs A m c, DkX w G p fb D bn bs A m c ∧ Kept [] w0 w ∧ ∀ k ∈ G, w0.heap.size ≤ k
theorem DkS.go {w0 w w' : World} {p : Nat} {D : DkD} (h : DkS w0 w p D) (hk : Kept [] w w') : DkS w0 w' p D := by
  obtain ⟨G, fb, bn, bs, A, m, c, h1, h2, h3⟩ := h
  exact ⟨G, fb, bn, bs, A, m, c, h1.go hk, h2.trans hk (by simp), h3⟩
theorem DkS.kept {w0 w : World} {p : Nat} {D : DkD} (h : DkS w0 w p D) : Kept [] w0 w := by
  obtain ⟨G, fb, bn, bs, A, m, c, h1, h2, h3⟩ := h
  exact h2
theorem DkOp.s {w0 w w' : World} {G : List Nat} {p : Nat} {D : DkD} (h : DkOp w G p D w') (h0 : Kept [] w0 w) (hG : ∀ k ∈ G, w0.heap.size ≤ k) : DkS w0 w' p D := by
  obtain ⟨fb, G', bn, bs, A, m, c, h1, h2, h3⟩ := h
  refine ⟨G', fb, bn, bs, A, m, c, h1, h0.trans h2 (fun k hk => .inr (hG k hk)), fun k hk => ?_⟩
  rcases h3 k hk with h4 | h4
  · exact hG k h4
  · have := h0.size; omega
section
variable {w0 w : World} {p : Nat} {D : DkD}
theorem NewS (w : World) (q : Int) : Calls Try.prog 14 #[.int .i64 q] w fun e w' => ∃ p, e = .returned (.pointer (some ⟨p, 0, none⟩)) ∧ DkS w w' p (newDk q) := by
  refine (NewD_any w q).mono ?_
  rintro e w' ⟨rfl, h1, h2⟩
  exact ⟨_, rfl, _, _, _, _, _, _, _, h1, h2, fun k hk => by simp at hk; omega⟩
theorem AppendS (h : DkS w0 w p D) (iv : InvD D) (ho : D.ops ≤ 400000) (x b : Bs) (hx : x.length ≤ 1000000) {Gb : List Nat} {B : Option Addr} {n d : Nat} (hb : RdB w Gb (.slice B n d) b) (hbG : ∀ k ∈ Gb, k < w0.heap.size) (hn : n ≤ 1000000) :
    Calls Try.prog 17 #[.pointer (some ⟨p, 0, none⟩), .string (strOf x), .slice B n d] w fun e w' => e = .returned (.int .i64 (appD D x b).1) ∧ DkS w0 w' p (appD D x b).2 := by
  obtain ⟨G, fb, bn, bs, A, m, c, h1, h2, h3⟩ := h
  refine (Append_any h1 iv.ok (by omega) x b hx hb (fun k hk hm => by have := hbG k hk; have := h3 k hm; omega) hn).mono ?_
  rintro e w' ⟨rfl, hd⟩
  exact ⟨rfl, hd.s h2 h3⟩
/-- bytes laid for the call -/
theorem AppendL (fr : Nat × Nat) (h : DkS w0 w p D) (iv : InvD D) (ho : D.ops ≤ 400000) (x b : Bs) (hx : x.length ≤ 1000000) {n : Nat} (hn : b.length = n) (hn2 : n ≤ 1000000) :
    Calls Try.prog 17 #[.pointer (some ⟨p, 0, none⟩), .string (strOf x), .slice (some ⟨w.heap.size, 0, none⟩) n n] (w.alloc (.cells (u8s b).toArray 5 fr)) fun e w' => e = .returned (.int .i64 (appD D x b).1) ∧ DkS w0 w' p (appD D x b).2 := by
  obtain ⟨G, fb, bn, bs, A, m, c, h1, h2, h3⟩ := h
  have hk : Kept [] w (w.alloc (.cells (u8s b).toArray 5 fr)) := (Kept.refl [] w).alloc _
  refine (Append_any (h1.go hk) iv.ok (by omega) x b hx (RdB.litf w fr b n hn (by unfold maxLen; omega)) (fun k hk' hm => by
    obtain rfl : k = w.heap.size := by simpa using hk'
    have := h1.lt _ hm
    omega) hn2).mono ?_
  rintro e w' ⟨rfl, hd⟩
  exact ⟨rfl, hd.s (h2.trans hk (by simp)) h3⟩
theorem SyncS (h : DkS w0 w p D) (iv : InvD D) (ho : D.ops ≤ 400000) (x : Bs) : Calls Try.prog 21 #[.pointer (some ⟨p, 0, none⟩), .string (strOf x)] w fun e w' => e = .returned (.int .i64 (synD D x).1) ∧ DkS w0 w' p (synD D x).2 := by
  obtain ⟨G, fb, bn, bs, A, m, c, h1, h2, h3⟩ := h
  exact (Sync_any h1 iv.ok (by omega) x).mono fun e w' ⟨he, hd⟩ => ⟨he, hd.s h2 h3⟩
theorem SyncDirS (h : DkS w0 w p D) (iv : InvD D) (ho : D.ops ≤ 400000) : Calls Try.prog 22 #[.pointer (some ⟨p, 0, none⟩)] w fun e w' => e = .returned (.int .i64 (sdrD D).1) ∧ DkS w0 w' p (sdrD D).2 := by
  obtain ⟨G, fb, bn, bs, A, m, c, h1, h2, h3⟩ := h
  exact (SyncDir_any h1 iv.ok (by omega)).mono fun e w' ⟨he, hd⟩ => ⟨he, hd.s h2 h3⟩
theorem RenameS (h : DkS w0 w p D) (iv : InvD D) (ho : D.ops ≤ 400000) (x y : Bs) (hy : y.length ≤ 1000000) : Calls Try.prog 23 #[.pointer (some ⟨p, 0, none⟩), .string (strOf x), .string (strOf y)] w fun e w' => e = .returned (.int .i64 (renD D x y).1) ∧ DkS w0 w' p (renD D x y).2 := by
  obtain ⟨G, fb, bn, bs, A, m, c, h1, h2, h3⟩ := h
  exact (Rename_any h1 iv.ok (by omega) x y hy).mono fun e w' ⟨he, hd⟩ => ⟨he, hd.s h2 h3⟩
theorem RemoveS (h : DkS w0 w p D) (iv : InvD D) (ho : D.ops ≤ 400000) (x : Bs) : Calls Try.prog 26 #[.pointer (some ⟨p, 0, none⟩), .string (strOf x)] w fun e w' => e = .returned (.int .i64 (remD D x).1) ∧ DkS w0 w' p (remD D x).2 := by
  obtain ⟨G, fb, bn, bs, A, m, c, h1, h2, h3⟩ := h
  exact (Remove_any h1 iv.ok (by omega) x).mono fun e w' ⟨he, hd⟩ => ⟨he, hd.s h2 h3⟩
theorem CutS (h : DkS w0 w p D) (iv : InvD D) (ho : D.ops ≤ 400000) (x : Bs) (n : Int) : Calls Try.prog 27 #[.pointer (some ⟨p, 0, none⟩), .string (strOf x), .int .i64 n] w fun e w' => e = .returned (.int .i64 (cutD D x n).1) ∧ DkS w0 w' p (cutD D x n).2 := by
  obtain ⟨G, fb, bn, bs, A, m, c, h1, h2, h3⟩ := h
  exact (Cut_any h1 iv.ok (by omega) x n).mono fun e w' ⟨he, hd⟩ => ⟨he, hd.s h2 h3⟩
theorem FailS (h : DkS w0 w p D) (iv : InvD D) (ho : D.ops ≤ 400000) (n : Int) : Calls Try.prog 19 #[.pointer (some ⟨p, 0, none⟩), .int .i64 n] w fun e w' => e = .returned (.tuple #[]) ∧ DkS w0 w' p (faiD D n) := by
  obtain ⟨G, fb, bn, bs, A, m, c, h1, h2, h3⟩ := h
  exact (Fail_any h1 iv.ok.ops (by omega) n).mono fun e w' ⟨he, hd, hk⟩ => ⟨he, G, fb, bn, bs, A, m, c, hd, h2.trans hk (fun k hk' => .inr (by simp at hk'; subst hk'; exact h3 _ h1.inp)), h3⟩
theorem OpsS (h : DkS w0 w p D) : Calls Try.prog 20 #[.pointer (some ⟨p, 0, none⟩)] w fun e w' => e = .returned (.int .i64 D.ops) ∧ w' = w := by
  obtain ⟨G, fb, bn, bs, A, m, c, h1, h2, h3⟩ := h
  exact Ops_any h1
theorem SizeS (h : DkS w0 w p D) (iv : InvD D) (ho : D.ops ≤ 400000) : Calls Try.prog 16 #[.pointer (some ⟨p, 0, none⟩)] w fun e w' => e = .returned (.int .i64 (sizeD D : Nat)) ∧ DkS w0 w' p D := by
  obtain ⟨G, fb, bn, bs, A, m, c, h1, h2, h3⟩ := h
  exact (Size_any h1 iv.ok (by have := iv.ok.nl.1; omega)).mono fun e w' ⟨he, hk⟩ => ⟨he, G, fb, bn, bs, A, m, c, h1.go hk, h2.trans hk (by simp), h3⟩
theorem NamesS (h : DkS w0 w p D) (iv : InvD D) (ho : D.ops ≤ 400000) : Calls Try.prog 15 #[.pointer (some ⟨p, 0, none⟩)] w fun e w' => ∃ v, e = .returned v ∧ StrsV w w' v (namesD D) ∧ DkS w0 w' p D := by
  obtain ⟨G, fb, bn, bs, A, m, c, h1, h2, h3⟩ := h
  exact (Names_any h1 (by have := iv.ok.nl.1; omega)).mono fun e w' ⟨v, he, hs⟩ => ⟨v, he, hs, G, fb, bn, bs, A, m, c, h1.go hs.1, h2.trans hs.1 (by simp), h3⟩
theorem ReadS (h : DkS w0 w p D) (iv : InvD D) (x : Bs) : Calls Try.prog 25 #[.pointer (some ⟨p, 0, none⟩), .string (strOf x)] w fun e w' => Kept [] w w' ∧ DkS w0 w' p D ∧ ((reaD D x = none ∧ e = .returned (.tuple #[.slice none 0 0, .bool false])) ∨ ∃ b A2 m2 c2, reaD D x = some b ∧ e = .returned (.tuple #[.slice A2 m2 c2, .bool true]) ∧ New w 5 1 (.slice A2 m2 c2) b.length (u8s b) w') := by
  obtain ⟨G, fb, bn, bs, A, m, c, h1, h2, h3⟩ := h
  exact (Read_any h1 iv.ok x).mono fun e w' ⟨hk, he⟩ => ⟨hk, ⟨G, fb, bn, bs, A, m, c, h1.go hk, h2.trans hk (by simp), h3⟩, he⟩
theorem CrashS (h : DkS w0 w p D) (iv : InvD D) (ho : D.ops ≤ 400000) (ps : Bs) {Gp : List Nat} {P : Option Addr} {pm pc : Nat} (hp : RdB w Gp (.slice P pm pc) ps) (hpG : ∀ k ∈ Gp, k < w0.heap.size) :
    Calls Try.prog 24 #[.pointer (some ⟨p, 0, none⟩), .slice P pm pc] w fun e w' => e = .returned (.tuple #[]) ∧ DkS w0 w' p (craD D ps) := by
  obtain ⟨G, fb, bn, bs, A, m, c, h1, h2, h3⟩ := h
  refine (Crash_any h1 iv.ok ho iv.run ps hp (fun k hk hm => by have := hpG k hk; have := h3 k hm; omega) (fun k hk => Nat.lt_of_lt_of_le (hpG k hk) h2.size)).mono ?_
  rintro e w' ⟨he, hd⟩
  exact ⟨he, hd.s h2 h3⟩
end
end Go.Proofs.Ythdjdfdefibepaa
