
/-
  A disk copied: it is related to what the first was (plain); crashes twice.
-/
import Derived.Test.YthdjdfdefibepaaCpC
namespace Go.Proofs.Ythdjdfdefibepaa
open Go.RowKit Go.ChangeShapes Go.WideShapes Go.ChangeAt Go.Deep Go.MapKept
set_option linter.unusedVariables false

theorem getM_perm {m l : List (Bs × Nat)} (h : m.Perm l) (hn : (m.map (·.1)).Nodup) (x : Bs) : getM m x = getM l x := by
  have hn2 : (l.map (·.1)).Nodup := (h.map _).nodup_iff.1 hn
  cases hm : getM m x with
  | none =>
    symm
    refine getM_none.2 (fun q hq e => ?_)
    exact getM_none.1 hm q (h.mem_iff.2 hq) e
  | some v => exact (getM_of_mem hn2 (h.mem_iff.1 (getM_mem hm))).symm
theorem getM_pk {idx : List Nat} (l : List (Bs × Nat)) (x : Bs) : getM (l.map (pk idx)) x = (getM l x).map fun j => idx.getD j 0 := by
  induction l with
  | nil => rfl
  | cons a l ih =>
    rw [List.map_cons, getM_cons, getM_cons]
    have e : (pk idx a).1 = a.1 := rfl
    rw [e]
    split
    · rfl
    · exact ih
theorem nodup_len : ∀ (n : Nat) (l : List Nat), l.Nodup → (∀ i ∈ l, i < n) → l.length ≤ n
  | 0, l, _, h => by
    cases l with
    | nil => simp
    | cons a l => have := h a (by simp); omega
  | n + 1, l, hn, h => by
    by_cases hm : n ∈ l
    · have h1 := nodup_len n (l.erase n) (hn.erase n) (fun i hi => by
        have h2 := (hn.mem_erase_iff).1 hi
        have h3 := h i h2.2
        have h4 := h2.1
        omega)
      rw [List.length_erase_of_mem hm] at h1
      omega
    · have h1 := nodup_len n l hn (fun i hi => by
        have h3 := h i hi
        have h4 : i ≠ n := fun e => hm (e ▸ hi)
        omega)
      omega
theorem okRun_idx {n : Nat} : ∀ {l : List ChD} {m : List (Bs × Nat)}, okRun n m l → ∀ (j : Nat) (c : ChD), l[j]? = some c → okC n (runC m (l.take j)) c
  | [], m, h, j, c, hc => by simp at hc
  | a :: l, m, h, 0, c, hc => by simp at hc; subst hc; exact h.1
  | a :: l, m, h, j + 1, c, hc => by
    have := okRun_idx h.2 j c (by simpa using hc)
    rw [List.take_succ_cons]
    exact this
theorem okRun_of {n : Nat} : ∀ {l : List ChD} {m : List (Bs × Nat)}, (∀ (j : Nat) (c : ChD), l[j]? = some c → okC n (runC m (l.take j)) c) → okRun n m l
  | [], m, h => trivial
  | a :: l, m, h => ⟨h 0 a rfl, okRun_of (fun j c hc => by
    have := h (j + 1) c (by simpa using hc)
    rw [List.take_succ_cons] at this
    exact this)⟩
section
variable {D D' : DkD} {idx : List Nat}
theorem getD_some {j i : Nat} (h : idx[j]? = some i) : idx.getD j 0 = i := by rw [List.getD_eq_getElem?_getD, h]; rfl
theorem idx_inj (hn : idx.Nodup) {j k i : Nat} (h1 : idx[j]? = some i) (h2 : idx[k]? = some i) : j = k := by
  obtain ⟨l1, e1⟩ := List.getElem?_eq_some_iff.1 h1
  obtain ⟨l2, e2⟩ := List.getElem?_eq_some_iff.1 h2
  exact (List.getElem_inj hn).1 (e1.trans e2.symm)
theorem CopyR.nn (h : CopyR D D' idx) (iv : InvD D) : (D'.now.map (·.1)).Nodup := by
  have h1 := (h.now.map (·.1)).nodup_iff.1 iv.ok.nn
  rw [List.map_map] at h1
  exact h1
theorem CopyR.ns (h : CopyR D D' idx) (iv : InvD D) : (D'.sur.map (·.1)).Nodup := by
  have h1 := (h.sur.map (·.1)).nodup_iff.1 iv.ok.ns
  rw [List.map_map] at h1
  exact h1
theorem CopyR.gnow (h : CopyR D D' idx) (iv : InvD D) (x : Bs) : getM D.now x = (getM D'.now x).map fun j => idx.getD j 0 := by rw [getM_perm h.now iv.ok.nn, getM_pk]
theorem CopyR.gsur (h : CopyR D D' idx) (iv : InvD D) (x : Bs) : getM D.sur x = (getM D'.sur x).map fun j => idx.getD j 0 := by rw [getM_perm h.sur iv.ok.ns, getM_pk]
theorem do_rel {m m' : List (Bs × Nat)} {c c' : ChD} (hc : ChR idx c c') (hg : ∀ x, getM m x = (getM m' x).map fun j => idx.getD j 0) (hb : ∀ x j, getM m' x = some j → j < idx.length) :
    (∀ x, getM (doD m c) x = (getM (doD m' c') x).map fun j => idx.getD j 0) ∧ ∀ x j, getM (doD m' c') x = some j → j < idx.length := by
  obtain ⟨h1, h2, h3, h4⟩ := hc
  by_cases k1 : c.kind = 1
  · rcases h4 with ⟨e1, e2⟩ | ⟨i, j, e1, e2, e3⟩
    · have d1 : doD m c = m := by unfold doD; rw [if_pos k1, e1]
      have d2 : doD m' c' = m' := by unfold doD; rw [if_pos (h1.trans k1), e2]
      rw [d1, d2]
      exact ⟨hg, hb⟩
    · have d1 : doD m c = putM m c.name i := by unfold doD; rw [if_pos k1, e1]
      have d2 : doD m' c' = putM m' c.name j := by unfold doD; rw [if_pos (h1.trans k1), e2, h2]
      rw [d1, d2]
      refine ⟨fun x => ?_, fun x j' hj' => ?_⟩
      · rw [getM_put, getM_put]
        split
        · rw [Option.map_some, getD_some e3]
        · exact hg x
      · rw [getM_put] at hj'
        split at hj'
        · injection hj' with hj'
          rw [← hj']
          exact (List.getElem?_eq_some_iff.1 e3).1
        · exact hb x j' hj'
  · have k1' : c'.kind ≠ 1 := fun e => k1 (h1.symm.trans e)
    by_cases k2 : c.kind = 2
    · have hgn := hg c.name
      cases hm : getM m' c.name with
      | none =>
        rw [hm] at hgn
        have d1 : doD m c = m := by unfold doD; rw [if_neg k1, if_pos k2, hgn]; rfl
        have d2 : doD m' c' = m' := by unfold doD; rw [if_neg k1', if_pos (h1.trans k2), h2, hm]
        rw [d1, d2]
        exact ⟨hg, hb⟩
      | some j =>
        rw [hm, Option.map_some] at hgn
        have d1 : doD m c = delM (putM m c.dst (idx.getD j 0)) c.name := by unfold doD; rw [if_neg k1, if_pos k2, hgn]
        have d2 : doD m' c' = delM (putM m' c.dst j) c.name := by unfold doD; rw [if_neg k1', if_pos (h1.trans k2), h2, hm, h3]
        rw [d1, d2]
        refine ⟨fun x => ?_, fun x j' hj' => ?_⟩
        · rw [getM_del, getM_del, getM_put, getM_put]
          split
          · rfl
          · split
            · rfl
            · exact hg x
        · rw [getM_del, getM_put] at hj'
          split at hj'
          · cases hj'
          · split at hj'
            · injection hj' with hj'
              rw [← hj']
              exact hb _ _ hm
            · exact hb x j' hj'
    · have k2' : c'.kind ≠ 2 := fun e => k2 (h1.symm.trans e)
      by_cases k3 : c.kind = 3
      · have d1 : doD m c = delM m c.name := by unfold doD; rw [if_neg k1, if_neg k2, if_pos k3]
        have d2 : doD m' c' = delM m' c.name := by unfold doD; rw [if_neg k1', if_neg k2', if_pos (h1.trans k3), h2]
        rw [d1, d2]
        refine ⟨fun x => ?_, fun x j' hj' => ?_⟩
        · rw [getM_del, getM_del]
          split
          · rfl
          · exact hg x
        · rw [getM_del] at hj'
          split at hj'
          · cases hj'
          · exact hb x j' hj'
      · have d1 : doD m c = m := by unfold doD; rw [if_neg k1, if_neg k2, if_neg k3]
        have d2 : doD m' c' = m' := by unfold doD; rw [if_neg k1', if_neg k2', if_neg (fun e => k3 (h1.symm.trans e))]
        rw [d1, d2]
        exact ⟨hg, hb⟩
theorem CopyR.run (h : CopyR D D' idx) (iv : InvD D) : ∀ k, (∀ x, getM (runC D.sur (D.ch.take k)) x = (getM (runC D'.sur (D'.ch.take k)) x).map fun j => idx.getD j 0) ∧ ∀ x j, getM (runC D'.sur (D'.ch.take k)) x = some j → j < idx.length
  | 0 => ⟨by simpa [runC] using h.gsur iv, fun x j hj => by
    have hj : getM D'.sur x = some j := by simpa [runC] using hj
    exact h.sr _ (getM_mem hj)⟩
  | k + 1 => by
    obtain ⟨h1, h2⟩ := h.run iv k
    cases hc : D.ch[k]? with
    | none =>
      have hl := List.getElem?_eq_none_iff.1 hc
      have e1 : D.ch.take (k + 1) = D.ch.take k := by rw [List.take_of_length_le (by omega), List.take_of_length_le hl]
      have e2 : D'.ch.take (k + 1) = D'.ch.take k := by rw [List.take_of_length_le (by rw [h.chl]; omega), List.take_of_length_le (by rw [h.chl]; exact hl)]
      rw [e1, e2]
      exact ⟨h1, h2⟩
    | some c =>
      have hl := (List.getElem?_eq_some_iff.1 hc).1
      obtain ⟨c', hc'⟩ : ∃ c', D'.ch[k]? = some c' := ⟨_, List.getElem?_eq_getElem (by rw [h.chl]; exact hl)⟩
      have e1 : runC D.sur (D.ch.take (k + 1)) = doD (runC D.sur (D.ch.take k)) c := by
        unfold runC
        rw [List.take_add_one, hc, List.foldl_append]; rfl
      have e2 : runC D'.sur (D'.ch.take (k + 1)) = doD (runC D'.sur (D'.ch.take k)) c' := by
        unfold runC
        rw [List.take_add_one, hc', List.foldl_append]; rfl
      rw [e1, e2]
      exact do_rel (h.ch k c c' hc hc') h1 h2
theorem CopyR.inv (h : CopyR D D' idx) (iv : InvD D) : InvD D' := by
  have l1 := h.now.length_eq
  have l2 := h.sur.length_eq
  rw [List.length_map] at l1 l2
  have l3 := h.chl
  have l4 := nodup_len D.files.length idx h.nd h.il
  have l5 := h.fl
  obtain ⟨q1, q2, q3⟩ := h.q1
  have nl := iv.ok.nl
  refine ⟨⟨fun q hq => by rw [h.fl]; exact h.nr q hq, fun q hq => by rw [h.fl]; exact h.sr q hq, fun c' hc' i hi => ?_, h.nn iv, h.ns iv, by rw [q2]; exact iv.ok.ops, fun f hf => ?_, by rw [q1]; exact iv.ok.quota, by omega⟩, okRun_of (fun j c' hc' => ?_), fun x => ?_, by rw [q2, ← l2, l3]; exact iv.sum⟩
  · obtain ⟨k, hk⟩ := List.getElem?_of_mem hc'
    obtain ⟨c, hc⟩ : ∃ c, D.ch[k]? = some c := ⟨_, List.getElem?_eq_getElem (by have := (List.getElem?_eq_some_iff.1 hk).1; omega)⟩
    rcases (h.ch k c c' hc hk).2.2.2 with ⟨_, e⟩ | ⟨i', j, _, e, e3⟩
    · rw [hi] at e; cases e
    · rw [hi] at e
      injection e with e
      rw [h.fl, e]
      exact (List.getElem?_eq_some_iff.1 e3).1
  · obtain ⟨j, hj⟩ := List.getElem?_of_mem hf
    have hjl := (List.getElem?_eq_some_iff.1 hj).1
    rw [h.fl] at hjl
    have := h.ff j _ (List.getElem?_eq_getElem hjl)
    rw [hj] at this
    exact iv.ok.sure f (List.mem_of_getElem? this.symm)
  · obtain ⟨c, hc⟩ : ∃ c, D.ch[j]? = some c := ⟨_, List.getElem?_eq_getElem (by have := (List.getElem?_eq_some_iff.1 hc').1; omega)⟩
    obtain ⟨r1, r2, r3, r4⟩ := h.ch j c c' hc hc'
    have hg := (h.run iv j).1
    rcases okRun_idx iv.run j c hc with ⟨h1, i, h2, h3⟩ | ⟨h1, h2, h3, h4⟩ | ⟨h1, h2⟩
    · rcases r4 with ⟨e, _⟩ | ⟨i', j', e1, e2, e3⟩
      · rw [h2] at e; cases e
      · exact .inl ⟨r1.trans h1, j', e2, by rw [h.fl]; exact (List.getElem?_eq_some_iff.1 e3).1⟩
    · have ef : c'.f = none := by
        rcases r4 with ⟨_, e⟩ | ⟨i', j', e1, _, _⟩
        · exact e
        · rw [h2] at e1; cases e1
      refine .inr (.inl ⟨r1.trans h1, ef, ?_, by rw [r2, r3]; exact h4⟩)
      rw [hg] at h3
      rw [r2]
      simpa using h3
    · have ef : c'.f = none := by
        rcases r4 with ⟨_, e⟩ | ⟨i', j', e1, _, _⟩
        · exact e
        · rw [h2] at e1; cases e1
      exact .inr (.inr ⟨r1.trans h1, ef⟩)
  · obtain ⟨h1, h2⟩ := h.run iv D.ch.length
    have t1 : D.ch.take D.ch.length = D.ch := List.take_length
    have t2 : D'.ch.take D.ch.length = D'.ch := by rw [← h.chl, List.take_length]
    rw [t1, t2] at h1
    rw [t2] at h2
    have e1 := h1 x
    rw [iv.same x, h.gnow iv x] at e1
    cases ha : getM D'.now x with
    | none =>
      rw [ha] at e1
      cases hb : getM (runC D'.sur D'.ch) x with
      | none => rfl
      | some j => rw [hb] at e1; cases e1
    | some k =>
      rw [ha] at e1
      cases hb : getM (runC D'.sur D'.ch) x with
      | none => rw [hb] at e1; cases e1
      | some j =>
        rw [hb] at e1
        have hj := h2 x j hb
        have hk := h.nr _ (getM_mem ha)
        have g1 : idx[j]? = some idx[j] := List.getElem?_eq_getElem hj
        have g2 : idx[k]? = some idx[k] := List.getElem?_eq_getElem hk
        simp only [Option.map_some, Option.some.injEq] at e1
        rw [getD_some g1, getD_some g2] at e1
        rw [← e1] at g1
        rw [idx_inj h.nd g1 g2]
theorem CopyR.sim {σ : Nat → Nat} {M : RkD} (h : CopyR D D' idx) (iv : InvD D) (hs : Sim σ D M) : RM D' M := by
  have back : ∀ {o : Option Nat} {i : Nat}, (o.map fun j => idx.getD j 0) = some i → (∀ j, o = some j → j < idx.length) → ∃ j, o = some j ∧ idx[j]? = some i := fun {o i} e hb => by
    cases o with
    | none => cases e
    | some j =>
      have hj := hb j rfl
      have g1 : idx[j]? = some idx[j] := List.getElem?_eq_getElem hj
      simp only [Option.map_some, Option.some.injEq] at e
      rw [getD_some g1] at e
      exact ⟨j, rfl, by rw [g1, e]⟩
  have hnr : ∀ x j, getM D'.now x = some j → j < idx.length := fun x j hj => h.nr _ (getM_mem hj)
  have hsr : ∀ x j, getM D'.sur x = some j → j < idx.length := fun x j hj => h.sr _ (getM_mem hj)
  have hex : ∀ i, Rch M i → ∃ j, idx[j]? = some (σ i) := fun i hi => by
    rcases hi with ⟨q, hq, e⟩ | ⟨q, hq, e⟩ | ⟨q, hq, hd, e⟩
    · have h1 := hs.now q.1
      rw [getM_of_mem hs.srt1.nodup (x := q.1) (v := q.2) hq, h.gnow iv, e] at h1
      obtain ⟨j, _, hj⟩ := back h1 (hnr _)
      exact ⟨j, hj⟩
    · have h1 := hs.sur q.1
      rw [getM_of_mem hs.srt2.nodup (x := q.1) (v := q.2) hq, h.gsur iv, e] at h1
      obtain ⟨j, _, hj⟩ := back h1 (hsr _)
      exact ⟨j, hj⟩
    · obtain ⟨k, hk⟩ := List.getElem?_of_mem hq
      have hkl := (List.getElem?_eq_some_iff.1 hk).1
      obtain ⟨c, hc⟩ : ∃ c, D.ch[k]? = some c := ⟨_, List.getElem?_eq_getElem (by rw [hs.chl]; exact hkl)⟩
      obtain ⟨c', hc'⟩ : ∃ c', D'.ch[k]? = some c' := ⟨_, List.getElem?_eq_getElem (by rw [h.chl, hs.chl]; exact hkl)⟩
      subst e
      rcases hs.ch k c q hc hk with ⟨_, _, _, _, h5⟩ | ⟨_, _, _, _, _, _, h7⟩ | ⟨_, _, h3, _⟩
      · rcases (h.ch k c c' hc hc').2.2.2 with ⟨e1, _⟩ | ⟨i', j, e1, _, e3⟩
        · rw [h5] at e1; cases e1
        · rw [h5] at e1
          injection e1 with e1
          exact ⟨j, by rw [e3, e1]⟩
      · obtain ⟨g1, g2⟩ := h.run iv k
        rw [g1] at h7
        obtain ⟨j, _, hj⟩ := back h7 (g2 _)
        exact ⟨j, hj⟩
      · exact absurd h3 hd
  have hall : ∀ i, ∃ j, Rch M i → idx[j]? = some (σ i) := fun i => by
    rcases Classical.em (Rch M i) with hi | hi
    · obtain ⟨j, hj⟩ := hex i hi
      exact ⟨j, fun _ => hj⟩
    · exact ⟨0, fun h => absurd h hi⟩
  obtain ⟨σ', hσ⟩ := Classical.axiomOfChoice hall
  have key : ∀ {m' : List (Bs × Nat)} {l : List (Bs × Nat)}, (∀ x, ((getM m' x).map fun j => idx.getD j 0) = (getM l x).map σ) → (∀ x j, getM m' x = some j → j < idx.length) → (∀ q ∈ l, Rch M q.2) → ∀ x, getM m' x = (getM l x).map σ' := fun {m' l} hg hb hr x => by
    have e := hg x
    cases hl : getM l x with
    | none =>
      rw [hl] at e
      cases hm : getM m' x with
      | none => rfl
      | some j => rw [hm] at e; cases e
    | some i =>
      rw [hl, Option.map_some] at e
      obtain ⟨j, hj, hji⟩ := back e (hb x)
      rw [hj, Option.map_some]
      rw [idx_inj h.nd hji (hσ i (hr _ (getM_mem hl)))]
  obtain ⟨q1, q2, q3⟩ := h.q1
  refine ⟨σ', ⟨key (fun x => by rw [← h.gnow iv]; exact hs.now x) hnr (fun q hq => .inl ⟨q, hq, rfl⟩), key (fun x => by rw [← h.gsur iv]; exact hs.sur x) hsr (fun q hq => .inr (.inl ⟨q, hq, rfl⟩)), hs.srt1, hs.srt2, h.chl.trans hs.chl, fun k c' q hc' hq => ?_, fun i hi => ⟨(hs.idx i hi).1, ?_⟩, fun i j hi hj e => ?_, hs.chr, hs.quota.trans q1.symm, hs.n.trans q2.symm, ?_, hs.fln, hs.fok, hs.key1, hs.key2⟩⟩
  · have hkl := (List.getElem?_eq_some_iff.1 hc').1
    obtain ⟨c, hc⟩ : ∃ c, D.ch[k]? = some c := ⟨_, List.getElem?_eq_getElem (by rw [← h.chl]; exact hkl)⟩
    obtain ⟨r1, r2, r3, r4⟩ := h.ch k c c' hc hc'
    rcases hs.ch k c q hc hq with ⟨h1, h2, h3, h4, h5⟩ | ⟨h1, h2, h3, h4, h5, h6, h7⟩ | ⟨h1, h2, h3, h4⟩
    · have hr : Rch M q.f := .inr (.inr ⟨q, List.mem_of_getElem? hq, by rw [h3]; exact h4, rfl⟩)
      rcases r4 with ⟨e1, _⟩ | ⟨i', j, e1, e2, e3⟩
      · rw [h5] at e1; cases e1
      · rw [h5] at e1
        injection e1 with e1
        rw [← e1] at e3
        exact .inl ⟨r1.trans h1, h2, h3.trans r2.symm, by rw [r2]; exact h4, by rw [e2, idx_inj h.nd e3 (hσ _ hr)]⟩
    · have hr : Rch M q.f := .inr (.inr ⟨q, List.mem_of_getElem? hq, by rw [h3]; exact h5, rfl⟩)
      obtain ⟨g1, g2⟩ := h.run iv k
      rw [g1] at h7
      obtain ⟨j, hj, hji⟩ := back h7 (g2 _)
      exact .inr (.inl ⟨r1.trans h1, h2.trans r2.symm, h3.trans r3.symm, by rw [r2]; exact h4, by rw [r3]; exact h5, by rw [r2, r3]; exact h6, by rw [r2, hj, idx_inj h.nd hji (hσ _ hr)]⟩)
    · exact .inr (.inr ⟨r1.trans h1, h2.trans r2.symm, h3, by rw [r2]; exact h4⟩)
  · rw [h.ff _ _ (hσ i hi)]
    exact (hs.idx i hi).2
  · have h1 := hσ i hi
    have h2 := hσ j hj
    rw [e] at h1
    rw [h1] at h2
    injection h2 with h2
    exact hs.inj i j hi hj h2
  · rw [q2, q3]; exact hs.fail
end
/-- a file of which all is sure -/
def Sealed (fs : List FlE) (i : Nat) : Prop := ∀ f, fs[i]? = some f → f.sure = f.b.length
theorem cutM1_sealed {ps : Bs} {k : Nat} {f : FlE} (h : f.sure = f.b.length) : cutM1 ps k f = f := by
  unfold cutM1
  rw [h, Nat.sub_self, Nat.zero_add, Nat.mod_one, Nat.add_zero, List.take_length]
  cases f
  simp at h
  simp [h]
theorem cutM1_seals {ps : Bs} {k : Nat} {f : FlE} (h : f.sure ≤ f.b.length) : (cutM1 ps k f).sure = (cutM1 ps k f).b.length := by
  have hm := Nat.mod_lt (pickM ps k) (show 0 < f.b.length - f.sure + 1 by omega)
  unfold cutM1
  simp only [List.length_take]
  omega
theorem cutF_id {ps : Bs} : ∀ (l : List (Bs × Nat)) (k : Nat) (fs : List FlE), (∀ q ∈ l, Sealed fs q.2) → cutF ps k l fs = fs
  | [], _, _, _ => rfl
  | q :: l, k, fs, h => by
    rw [cutF_cons]
    cases hf : fs[q.2]? with
    | none => exact cutF_id l (k + 1) fs (fun r hr => h r (List.mem_cons_of_mem _ hr))
    | some f =>
      have e : fs.set q.2 (cutM1 ps k f) = fs := by
        rw [cutM1_sealed (h q (by simp) f hf)]
        obtain ⟨hl, e⟩ := List.getElem?_eq_some_iff.1 hf
        rw [← e, List.set_getElem_self]
      dsimp only
      rw [e]
      exact cutF_id l (k + 1) fs (fun r hr => h r (List.mem_cons_of_mem _ hr))
theorem cutF_seals {ps : Bs} : ∀ (l : List (Bs × Nat)) (k : Nat) (fs : List FlE), (∀ f ∈ fs, f.sure ≤ f.b.length ∧ f.b.length ≤ 1048576) → (∀ i, Sealed fs i → Sealed (cutF ps k l fs) i) ∧ ∀ q ∈ l, Sealed (cutF ps k l fs) q.2
  | [], _, _, _ => ⟨fun i h => h, by simp⟩
  | q :: l, k, fs, h => by
    rw [cutF_cons]
    cases hf : fs[q.2]? with
    | none =>
      obtain ⟨h1, h2⟩ := cutF_seals (ps := ps) l (k + 1) fs h
      refine ⟨h1, fun r hr => ?_⟩
      rcases List.mem_cons.1 hr with rfl | hr
      · exact h1 r.2 (fun f h9 => by rw [hf] at h9; cases h9)
      · exact h2 r hr
    | some f =>
      have hfm := h f (List.mem_of_getElem? hf)
      have hl := (List.getElem?_eq_some_iff.1 hf).1
      obtain ⟨h1, h2⟩ := cutF_seals (ps := ps) l (k + 1) (fs.set q.2 (cutM1 ps k f)) (fun g hg => by
        rcases List.mem_or_eq_of_mem_set hg with h9 | h9
        · exact h g h9
        · rw [h9]; exact cutM1_ok hfm)
      have hq : Sealed (fs.set q.2 (cutM1 ps k f)) q.2 := fun g hg => by
        rw [List.getElem?_set_self hl] at hg
        injection hg with hg
        rw [← hg]
        exact cutM1_seals hfm.1
      refine ⟨fun i hi => h1 i (fun g hg => ?_), fun r hr => ?_⟩
      · by_cases e : q.2 = i
        · subst e; exact hq g hg
        · rw [List.getElem?_set_ne e] at hg
          exact hi g hg
      · rcases List.mem_cons.1 hr with rfl | hr
        · exact h1 r.2 hq
        · exact h2 r hr
/-- a second crash changes nothing -/
theorem cra_twice {M : RkD} (h : ∀ f ∈ M.files, f.sure ≤ f.b.length ∧ f.b.length ≤ 1048576) (a b : Bs) : craM (craM M a) b = craM M a := by
  have hS : craS (craM M a) b = craS M a := by
    show (([] : List McD).take _).foldl turM (craS M a) = craS M a
    simp
  have hF : cutF b 1 (craS M a) (cutF a 1 (craS M a) M.files) = cutF a 1 (craS M a) M.files := cutF_id _ _ _ (cutF_seals (ps := a) (craS M a) 1 M.files h).2
  show ({ (craM M a) with files := cutF b 1 (craS (craM M a) b) (craM M a).files, now := craS (craM M a) b, sur := craS (craM M a) b, ch := [], fail := 0 } : RkD) = craM M a
  rw [hS]
  have e : (craM M a).files = cutF a 1 (craS M a) M.files := rfl
  rw [e, hF]
  rfl
end Go.Proofs.Ythdjdfdefibepaa
