
/-
  The disk and the document's: a crash; a disk copied (plain).
-/
import Derived.Test.YthdjdfdefibepaaRkQ
namespace Go.Proofs.Ythdjdfdefibepaa
open Go.RowKit Go.ChangeShapes Go.WideShapes Go.ChangeAt Go.Deep Go.MapKept
set_option linter.unusedVariables false

theorem pick_eq (ps : Bs) (k n : Nat) : pickD (ps.drop k) n = pickM ps k % (n + 1) := by
  unfold pickM
  cases hk : ps[k]? with
  | none =>
    have : ps.drop k = [] := List.drop_eq_nil_of_le (List.getElem?_eq_none_iff.1 hk)
    rw [this]
    simp [pickD]
  | some b =>
    obtain ⟨hl, e⟩ := List.getElem?_eq_some_iff.1 hk
    rw [List.drop_eq_getElem_cons hl, e]
    rfl
theorem cutAll_some {nm : List (Bs × Nat)} {x : Bs} {l : List Bs} {ps : Bs} {fs : List FlE} {i : Nat} {f : FlE} (h : getM nm x = some i) (hf : fs[i]? = some f) :
    cutAll nm (x :: l) ps fs = cutAll nm l (ps.drop 1) (fs.set i ⟨f.b.take (f.sure + pickD ps (f.b.length - f.sure)), f.sure + pickD ps (f.b.length - f.sure)⟩) := by
  show (match getM nm x with | some i => (match fs[i]? with | some f => cutAll nm l (ps.drop 1) (fs.set i ⟨f.b.take (f.sure + pickD ps (f.b.length - f.sure)), f.sure + pickD ps (f.b.length - f.sure)⟩) | none => cutAll nm l (ps.drop 1) fs) | none => cutAll nm l (ps.drop 1) fs) = _
  rw [h]
  dsimp only
  rw [hf]
section
variable {σ : Nat → Nat} {D : DkD} {M : RkD}
theorem Sim.pre (h : Sim σ D M) : ∀ k, (∀ x, getM (runC D.sur (D.ch.take k)) x = (getM ((M.ch.take k).foldl turM M.sur) x).map σ) ∧ Srt ((M.ch.take k).foldl turM M.sur) ∧ ∀ q ∈ (M.ch.take k).foldl turM M.sur, q.1 ≠ [] ∧ Rch M q.2
  | 0 => ⟨by simpa [runC] using h.sur, by simpa using h.srt2, by
    intro q hq
    have hq : q ∈ M.sur := by simpa using hq
    exact ⟨h.key2 q hq, .inr (.inl ⟨q, hq, rfl⟩)⟩⟩
  | k + 1 => by
    obtain ⟨h1, h2, h3⟩ := h.pre k
    cases hc : D.ch[k]? with
    | none =>
      have hl := List.getElem?_eq_none_iff.1 hc
      have e1 : D.ch.take (k + 1) = D.ch.take k := by rw [List.take_of_length_le (by omega), List.take_of_length_le hl]
      have e2 : M.ch.take (k + 1) = M.ch.take k := by rw [List.take_of_length_le (by rw [← h.chl]; omega), List.take_of_length_le (by rw [← h.chl]; exact hl)]
      rw [e1, e2]
      exact ⟨h1, h2, h3⟩
    | some c =>
      have hl := (List.getElem?_eq_some_iff.1 hc).1
      obtain ⟨q, hq⟩ : ∃ q, M.ch[k]? = some q := ⟨_, List.getElem?_eq_getElem (by rw [← h.chl]; exact hl)⟩
      have hs := h.ch k c q hc hq
      have e1 : runC D.sur (D.ch.take (k + 1)) = doD (runC D.sur (D.ch.take k)) c := by
        unfold runC
        rw [List.take_add_one, hc, List.foldl_append]; rfl
      have e2 : (M.ch.take (k + 1)).foldl turM M.sur = turM ((M.ch.take k).foldl turM M.sur) q := by
        rw [List.take_add_one, hq, List.foldl_append]; rfl
      rw [e1, e2]
      refine ⟨fun x => hs.turn h1 x, h2.tur q, fun r hr => ?_⟩
      rcases turM_mem2 hr with h4 | ⟨h4, h5⟩
      · exact h3 r h4
      · rw [h5]
        exact ⟨h4, .inr (.inr ⟨q, List.mem_of_getElem? hq, h4, rfl⟩)⟩
theorem cut_all {R : Nat → Prop} (hinj : ∀ i j, R i → R j → σ i = σ j → i = j) {nm : List (Bs × Nat)} {ps : Bs} : ∀ (l : List (Bs × Nat)) (k : Nat) (Df Mf : List FlE), (∀ q ∈ l, getM nm q.1 = some (σ q.2) ∧ R q.2) → (∀ i, R i → i < Mf.length ∧ Df[σ i]? = Mf[i]?) → (∀ f ∈ Mf, f.sure ≤ f.b.length ∧ f.b.length ≤ 1048576) →
    (cutF ps k l Mf).length = Mf.length ∧ (∀ i, R i → (cutAll nm (l.map (·.1)) (ps.drop k) Df)[σ i]? = (cutF ps k l Mf)[i]?) ∧ ∀ f ∈ cutF ps k l Mf, f.sure ≤ f.b.length ∧ f.b.length ≤ 1048576
  | [], k, Df, Mf, h1, h2, h3 => ⟨rfl, fun i hi => (h2 i hi).2, h3⟩
  | q :: l, k, Df, Mf, h1, h2, h3 => by
    obtain ⟨g1, g2⟩ := h1 q (by simp)
    obtain ⟨g3, g4⟩ := h2 q.2 g2
    have hf : Mf[q.2]? = some Mf[q.2] := List.getElem?_eq_getElem g3
    have hok := h3 _ (List.getElem_mem g3)
    generalize Mf[q.2] = f at hf hok
    rw [hf] at g4
    have hdl := (List.getElem?_eq_some_iff.1 g4).1
    have e1 : cutAll nm ((q :: l).map (·.1)) (ps.drop k) Df = cutAll nm (l.map (·.1)) (ps.drop (k + 1)) (Df.set (σ q.2) (cutM1 ps k f)) := by
      rw [List.map_cons]
      rw [cutAll_some g1 g4]
      rw [List.drop_drop, pick_eq]
      rfl
    have e2 : cutF ps k (q :: l) Mf = cutF ps (k + 1) l (Mf.set q.2 (cutM1 ps k f)) := by
      rw [cutF_cons]
      simp only [hf]
    rw [e1, e2]
    obtain ⟨k1, k2, k3⟩ := cut_all hinj l (k + 1) (Df.set (σ q.2) (cutM1 ps k f)) (Mf.set q.2 (cutM1 ps k f)) (fun r hr => h1 r (List.mem_cons_of_mem _ hr)) (fun i hi => by
      obtain ⟨m1, m2⟩ := h2 i hi
      refine ⟨by rw [List.length_set]; exact m1, ?_⟩
      by_cases e : q.2 = i
      · subst e
        rw [List.getElem?_set_self hdl, List.getElem?_set_self g3]
      · rw [List.getElem?_set_ne e, List.getElem?_set_ne (fun e9 => e (hinj _ _ g2 hi e9))]
        exact m2) (fun g hg => by
      rcases List.mem_or_eq_of_mem_set hg with h9 | h9
      · exact h3 g h9
      · rw [h9]; exact cutM1_ok hok)
    exact ⟨by rw [k1, List.length_set], k2, k3⟩
theorem cra_sim (h : Sim σ D M) (iv : InvD D) (ps : Bs) : Sim σ (craD D ps) (craM M ps) := by
  have hK : pickD ps D.ch.length = pickM ps 0 % (M.ch.length + 1) := by
    have := pick_eq ps 0 D.ch.length
    rw [List.drop_zero, h.chl] at this
    rw [h.chl]
    exact this
  obtain ⟨h1, h2, h3⟩ := h.pre (pickM ps 0 % (M.ch.length + 1))
  have e1 : craN D ps = runC D.sur (D.ch.take (pickM ps 0 % (M.ch.length + 1))) := by unfold craN; rw [hK]
  have e2 : craS M ps = (M.ch.take (pickM ps 0 % (M.ch.length + 1))).foldl turM M.sur := rfl
  rw [← e1, ← e2] at h1
  rw [← e2] at h2 h3
  have hnd : ((craN D ps).map (·.1)).Nodup := by unfold craN; exact runC_nodup _ iv.ok.ns
  have hkeys : srtN ((craN D ps).map (·.1)) = (craS M ps).map (·.1) := by
    have hp := (now_perm hnd h2.nodup h1).map (·.1)
    rw [List.map_map] at hp
    refine srt_one ((srtN_perm _).trans hp) (srtN_sorted _) ?_
    rw [List.pairwise_map]
    exact h2.imp (fun {a b} hab => List.le_of_lt hab)
  obtain ⟨k1, k2, k3⟩ := cut_all (ps := ps) (nm := craN D ps) h.inj (craS M ps) 1 D.files M.files (fun q hq => ⟨by rw [h1, getM_of_mem h2.nodup (x := q.1) (v := q.2) hq]; rfl, (h3 q hq).2⟩) h.idx h.fok
  have hR : ∀ i, Rch (craM M ps) i → Rch M i := fun i hi => by
    rcases hi with ⟨q, hq, e⟩ | ⟨q, hq, e⟩ | ⟨q, hq, _⟩
    · rw [← e]; exact (h3 q hq).2
    · rw [← e]; exact (h3 q hq).2
    · simp [craM] at hq
  have hk1 : (craM M ps).files.length = M.files.length := k1
  refine ⟨h1, h1, h2, h2, rfl, fun j c q h1 h2 => by simp [craD] at h1, fun i hi => ⟨by rw [hk1]; exact (h.idx i (hR i hi)).1, ?_⟩, fun i j hi hj => h.inj i j (hR i hi) (hR j hj), by simp [craM], h.quota, h.n, .inl ⟨iv.ok.ops, rfl⟩, by rw [hk1]; exact h.fln, k3, fun q hq => (h3 q hq).1, fun q hq => (h3 q hq).1⟩
  have := k2 i (hR i hi)
  show (cutAll (craN D ps) (srtN ((craN D ps).map (·.1))) (ps.drop 1) D.files)[σ i]? = _
  rw [hkeys]
  exact this
theorem new_sim (q : Int) : Sim id (newDk q) (newMk q) := by
  refine ⟨fun x => rfl, fun x => rfl, List.Pairwise.nil, List.Pairwise.nil, rfl, fun j c q h1 h2 => by simp [newDk] at h1, fun i hi => ?_, fun i j hi hj e => e, by simp [newMk], rfl, rfl, .inl ⟨by simp [newDk], rfl⟩, by simp [newMk], by simp [newMk], by simp [newMk], by simp [newMk]⟩
  rcases hi with ⟨q, hq, _⟩ | ⟨q, hq, _⟩ | ⟨q, hq, _⟩ <;> simp [newMk] at hq
end
end Go.Proofs.Ythdjdfdefibepaa
