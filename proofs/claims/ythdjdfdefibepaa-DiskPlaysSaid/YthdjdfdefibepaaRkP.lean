
/-
  The disk and the document's: what relates them (plain).
-/
import Derived.Test.YthdjdfdefibepaaRkL
namespace Go.Proofs.Ythdjdfdefibepaa
open Go.RowKit Go.ChangeShapes Go.WideShapes Go.ChangeAt Go.Deep Go.MapKept
set_option linter.unusedVariables false

theorem str_lt_irrefl (a : Bs) : ¬ a < a := List.lt_irrefl a
theorem str_lt_trans {a b c : Bs} (h1 : a < b) (h2 : b < c) : a < c := List.lt_trans h1 h2
theorem str_not_lt {a b : Bs} (h : ¬ a < b) (hne : a ≠ b) : b < a :=
  Decidable.byContradiction fun h2 => hne (List.le_antisymm (show a ≤ b from h2) (show b ≤ a from h))
abbrev Srt (l : List (Bs × Nat)) : Prop := l.Pairwise fun a b => a.1 < b.1
theorem Srt.nodup {l : List (Bs × Nat)} (h : Srt l) : (l.map (·.1)).Nodup := by
  rw [List.nodup_iff_pairwise_ne, List.pairwise_map]
  exact List.Pairwise.imp (fun {a b} (hab : a.1 < b.1) (e : a.1 = b.1) => str_lt_irrefl b.1 (by rw [e] at hab; exact hab)) h
theorem Srt.del {l : List (Bs × Nat)} (h : Srt l) (x : Bs) : Srt (delM l x) := h.sublist List.filter_sublist
theorem tw_mem {l : List (Bs × Nat)} {p : Bs × Nat → Bool} {q : Bs × Nat} (h : q ∈ l.takeWhile p) : p q = true := by
  induction l with
  | nil => simp at h
  | cons a l ih =>
    rw [List.takeWhile_cons] at h
    split at h
    · rcases List.mem_cons.1 h with rfl | h
      · assumption
      · exact ih h
    · simp at h
theorem dw_mem {l : List (Bs × Nat)} {x : Bs} (hs : Srt l) {q : Bs × Nat} (h : q ∈ l.dropWhile fun q => decide (q.1 < x)) : ¬ q.1 < x := by
  induction l with
  | nil => simp at h
  | cons a l ih =>
    rw [List.dropWhile_cons] at h
    have hs := List.pairwise_cons.1 hs
    split at h
    · exact ih hs.2 h
    · rename_i ha
      have ha' : ¬ a.1 < x := by simpa using ha
      rcases List.mem_cons.1 h with rfl | h
      · exact ha'
      · exact fun hq => ha' (str_lt_trans (hs.1 q h) hq)
theorem Srt.wi {l : List (Bs × Nat)} (h : Srt l) (x : Bs) (f : Nat) : Srt (wiM l x f) := by
  have hd := h.del x
  unfold wiM
  have hne : ∀ q ∈ delM l x, q.1 ≠ x := fun q hq => by
    have := (List.mem_filter.1 hq).2
    simpa using this
  refine List.pairwise_append.2 ⟨hd.sublist (List.takeWhile_sublist _), List.pairwise_append.2 ⟨List.pairwise_singleton _ _, hd.sublist (List.dropWhile_sublist _), fun a ha b hb => ?_⟩, fun a ha b hb => ?_⟩
  · simp at ha
    subst ha
    exact str_not_lt (dw_mem hd hb) (hne b (List.dropWhile_subset _ hb))
  · have h1 : a.1 < x := by simpa using tw_mem ha
    rcases List.mem_append.1 hb with hb | hb
    · simp at hb
      subst hb
      exact h1
    · exact str_lt_trans h1 (str_not_lt (dw_mem hd hb) (hne b (List.dropWhile_subset _ hb)))
theorem Srt.tur {l : List (Bs × Nat)} (h : Srt l) (c : McD) : Srt (turM l c) := by
  unfold turM
  have h1 : Srt (if c.src = [] then l else delM l c.src) := by
    split
    · exact h
    · exact h.del _
  dsimp only
  split
  · exact h1
  · exact h1.wi _ _
theorem getM_wi (l : List (Bs × Nat)) (x : Bs) (f : Nat) (y : Bs) : getM (wiM l x f) y = if x = y then some f else getM l y := by
  have hne : ∀ q ∈ delM l x, q.1 ≠ x := fun q hq => by
    have := (List.mem_filter.1 hq).2
    simpa using this
  have hsp : delM l x = (delM l x).takeWhile (fun q => decide (q.1 < x)) ++ (delM l x).dropWhile (fun q => decide (q.1 < x)) := List.takeWhile_append_dropWhile.symm
  have e0 := getM_del l x y
  unfold wiM
  rw [getM_append, getM_append]
  by_cases h : x = y
  · subst h
    rw [if_pos rfl]
    have : getM ((delM l x).takeWhile fun q => decide (q.1 < x)) x = none := getM_none.2 (fun q hq => hne q (List.takeWhile_subset _ hq))
    rw [this]
    simp [getM]
  · rw [if_neg h]
    rw [if_neg h] at e0
    rw [← e0]
    conv => rhs; rw [hsp, getM_append]
    simp [getM, h]
theorem now_perm {σ : Nat → Nat} {m l : List (Bs × Nat)} (hm : (m.map (·.1)).Nodup) (hl : (l.map (·.1)).Nodup) (h : ∀ x, getM m x = (getM l x).map σ) : m.Perm (l.map fun q => (q.1, σ q.2)) := by
  have nd : ∀ {k : List (Bs × Nat)}, (k.map (·.1)).Nodup → k.Nodup := fun {k} hk => by
    rw [List.nodup_iff_pairwise_ne, List.pairwise_map] at hk
    rw [List.nodup_iff_pairwise_ne]
    exact hk.imp (fun h e => h (by rw [e]))
  have hl2 : ((l.map fun q => (q.1, σ q.2)).map (·.1)).Nodup := by rw [List.map_map]; exact hl
  refine (List.perm_ext_iff_of_nodup (nd hm) (nd hl2)).2 (fun q => ⟨fun hq => ?_, fun hq => ?_⟩)
  · have h1 := getM_of_mem hm (x := q.1) (v := q.2) hq
    rw [h] at h1
    obtain ⟨i, hi, e⟩ := Option.map_eq_some_iff.1 h1
    exact List.mem_map.2 ⟨_, getM_mem hi, by rw [e]⟩
  · obtain ⟨r, hr, e⟩ := List.mem_map.1 hq
    have h1 := getM_of_mem hl (x := r.1) (v := r.2) hr
    have h2 := h r.1
    rw [h1] at h2
    have := getM_mem h2
    rw [e] at this
    exact this

/-- a change and the document's -/
def SimC (σ : Nat → Nat) (m : List (Bs × Nat)) (c : ChD) (q : McD) : Prop :=
  (c.kind = 1 ∧ q.src = [] ∧ q.dst = c.name ∧ c.name ≠ [] ∧ c.f = some (σ q.f)) ∨
  (c.kind = 2 ∧ q.src = c.name ∧ q.dst = c.dst ∧ c.name ≠ [] ∧ c.dst ≠ [] ∧ c.name ≠ c.dst ∧ getM m c.name = some (σ q.f)) ∨
  (c.kind = 3 ∧ q.src = c.name ∧ q.dst = [] ∧ c.name ≠ [])
theorem SimC.get {σ : Nat → Nat} {m m' : List (Bs × Nat)} {c : ChD} {q : McD} (h : SimC σ m c q) (hg : ∀ x, getM m' x = getM m x) : SimC σ m' c q := by
  rcases h with h | ⟨h1, h2, h3, h4, h5, h6, h7⟩ | h
  · exact .inl h
  · exact .inr (.inl ⟨h1, h2, h3, h4, h5, h6, by rw [hg]; exact h7⟩)
  · exact .inr (.inr h)
theorem SimC.turn {σ : Nat → Nat} {m l : List (Bs × Nat)} {c : ChD} {q : McD} (h : SimC σ m c q) (hg : ∀ x, getM m x = (getM l x).map σ) (x : Bs) : getM (doD m c) x = (getM (turM l q) x).map σ := by
  rcases h with ⟨h1, h2, h3, h4, h5⟩ | ⟨h1, h2, h3, h4, h5, h6, h7⟩ | ⟨h1, h2, h3, h4⟩
  · have e1 : doD m c = putM m c.name (σ q.f) := by unfold doD; rw [if_pos h1, h5]
    have e2 : turM l q = wiM l c.name q.f := by unfold turM; rw [h2, h3]; simp [h4]
    rw [e1, e2, getM_put, getM_wi]
    split
    · rfl
    · exact hg x
  · have e1 : doD m c = delM (putM m c.dst (σ q.f)) c.name := by unfold doD; rw [if_neg (by omega), if_pos h1, h7]
    have e2 : turM l q = wiM (delM l c.name) c.dst q.f := by unfold turM; rw [h2, h3]; simp [h4, h5]
    rw [e1, e2, getM_del, getM_put, getM_wi, getM_del]
    by_cases ha : c.name = x
    · subst ha
      rw [if_pos rfl, if_neg (fun e => h6 e.symm), if_pos rfl]
      rfl
    · rw [if_neg ha]
      by_cases hb : c.dst = x
      · rw [if_pos hb, if_pos hb]; rfl
      · rw [if_neg hb, if_neg hb, if_neg ha]
        exact hg x
  · have e1 : doD m c = delM m c.name := by unfold doD; rw [if_neg (by omega), if_neg (by omega), if_pos h1]
    have e2 : turM l q = delM l c.name := by unfold turM; rw [h2, h3]; simp [h4]
    rw [e1, e2, getM_del, getM_del]
    split
    · rfl
    · exact hg x
theorem SimC.dst_ne {σ : Nat → Nat} {m : List (Bs × Nat)} {c : ChD} {q : McD} (h : SimC σ m c q) : True := trivial
/-- files that are under a name, or may be -/
def Rch (M : RkD) (i : Nat) : Prop := (∃ q ∈ M.now, q.2 = i) ∨ (∃ q ∈ M.sur, q.2 = i) ∨ ∃ q ∈ M.ch, q.dst ≠ [] ∧ q.f = i
def FailR (ops df n mf : Int) : Prop := (df ≤ ops ∧ mf = 0) ∨ (ops < df ∧ mf = df - ops ∧ mf ≤ 4611686018427387904) ∨ (df = 0 ∧ 4611686018427387904 < mf + n ∧ mf ≤ 9223372036854775807)
structure Sim (σ : Nat → Nat) (D : DkD) (M : RkD) : Prop where
  now : ∀ x, getM D.now x = (getM M.now x).map σ
  sur : ∀ x, getM D.sur x = (getM M.sur x).map σ
  srt1 : Srt M.now
  srt2 : Srt M.sur
  chl : D.ch.length = M.ch.length
  ch : ∀ (j : Nat) (c : ChD) (q : McD), D.ch[j]? = some c → M.ch[j]? = some q → SimC σ (runC D.sur (D.ch.take j)) c q
  idx : ∀ i, Rch M i → i < M.files.length ∧ D.files[σ i]? = M.files[i]?
  inj : ∀ i j, Rch M i → Rch M j → σ i = σ j → i = j
  chr : ∀ q ∈ M.ch, q.f < M.files.length
  quota : M.quota = D.quota
  n : M.n = D.ops
  fail : FailR D.ops D.fail M.n M.fail
  fln : (M.files.length : Int) ≤ M.n
  fok : ∀ f ∈ M.files, f.sure ≤ f.b.length ∧ f.b.length ≤ 1048576
  key1 : ∀ q ∈ M.now, q.1 ≠ []
  key2 : ∀ q ∈ M.sur, q.1 ≠ []
def RM (D : DkD) (M : RkD) : Prop := ∃ σ, Sim σ D M
section
variable {σ : Nat → Nat} {D : DkD} {M : RkD}
theorem Sim.perm (h : Sim σ D M) (iv : InvD D) : D.now.Perm (M.now.map fun q => (q.1, σ q.2)) := now_perm iv.ok.nn h.srt1.nodup h.now
theorem Sim.names (h : Sim σ D M) (iv : InvD D) : namesD D = namM M := by
  unfold namesD namM
  have hp := (h.perm iv).map (·.1)
  rw [List.map_map] at hp
  refine srt_one ((srtN_perm _).trans hp) (srtN_sorted _) ?_
  rw [List.pairwise_map]
  exact h.srt1.imp (fun {a b} hab => List.le_of_lt hab)
theorem Sim.len (h : Sim σ D M) {q : Bs × Nat} (hq : q ∈ M.now) : lenF D.files (σ q.2) = lenF M.files q.2 := by
  unfold lenF
  rw [(h.idx q.2 (.inl ⟨q, hq, rfl⟩)).2]
theorem Sim.size (h : Sim σ D M) (iv : InvD D) : sizeD D = sizM M := by
  unfold sizeD sizM
  rw [((h.perm iv).map _).sum_nat, List.map_map]
  congr 1
  apply List.map_congr_left
  intro q hq
  exact h.len hq
theorem Sim.read (h : Sim σ D M) (x : Bs) : reaD D x = reaM M x := by
  unfold reaD reaM
  rw [h.now]
  cases hg : getM M.now x with
  | none => rfl
  | some i =>
    have := (h.idx i (.inl ⟨_, getM_mem hg, rfl⟩)).2
    simp [this]
theorem Sim.ok (h : Sim σ D M) (iv : InvD D) (ho : D.ops ≤ 400) : OkM M := by
  have hl := (h.perm iv).length_eq
  rw [List.length_map] at hl
  have hl2 := (now_perm iv.ok.ns h.srt2.nodup h.sur).length_eq
  rw [List.length_map] at hl2
  have h1 := iv.ok.nl
  have h2 := h.n
  have h3 := iv.ok.ops
  have h4 := h.fln
  have h5 := h.chl
  refine ⟨fun q hq => (h.idx q.2 (.inl ⟨q, hq, rfl⟩)).1, fun q hq => (h.idx q.2 (.inr (.inl ⟨q, hq, rfl⟩))).1, h.chr, ⟨by omega, by omega⟩, ?_, ⟨by omega, by omega, by omega, by omega⟩, h.fok, by rw [h.quota]; exact iv.ok.quota⟩
  rcases h.fail with ⟨_, h6⟩ | ⟨h6, h7, h8⟩ | ⟨_, h6, h7⟩
  · omega
  · omega
  · omega
end
end Go.Proofs.Ythdjdfdefibepaa
