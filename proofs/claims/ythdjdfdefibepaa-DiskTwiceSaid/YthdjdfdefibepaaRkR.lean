
/-
  The disk and the document's: a crash; a disk copied (plain).
-/
import Derived.Test.YthdjdfdefibepaaRkL
section
namespace Go.Proofs.Ythdjdfdefibepaa
open Go.RowKit Go.ChangeShapes Go.WideShapes Go.ChangeAt Go.Deep Go.MapKept
set_option linter.unusedVariables false

theorem str_lt_irrefl (a : Bs) : ¬ a < a := List.lt_irrefl a
theorem str_lt_trans {a b c : Bs} (h1 : a < b) (h2 : b < c) : a < c := List.lt_trans h1 h2
theorem str_not_lt {a b : Bs} (h : ¬ a < b) (hne : a ≠ b) : b < a :=
  Decidable.byContradiction fun h2 => hne (List.le_antisymm (show a ≤ b from h2) (show b ≤ a from h))
abbrev Srt (l : List (Bs × Nat)) : Prop := l.Pairwise fun a b => a.1 < b.1
theorem Srt.nodup {l : List (Bs × Nat)} (h : Srt l) : (l.map (·.1)).Nodup := by
  rw [List.nodup_iff_pairwise_ne, List.pairwise_map]
  exact List.Pairwise.imp (fun {a b} (hab : a.1 < b.1) (e : a.1 = b.1) => str_lt_irrefl b.1 (by rw [e] at hab; exact hab)) h
theorem Srt.del {l : List (Bs × Nat)} (h : Srt l) (x : Bs) : Srt (delM l x) := h.sublist List.filter_sublist
theorem tw_mem {l : List (Bs × Nat)} {p : Bs × Nat → Bool} {q : Bs × Nat} (h : q ∈ l.takeWhile p) : p q = true := by
  induction l with
  | nil => simp at h
  | cons a l ih =>
    rw [List.takeWhile_cons] at h
    split at h
    · rcases List.mem_cons.1 h with rfl | h
      · assumption
      · exact ih h
    · simp at h
theorem dw_mem {l : List (Bs × Nat)} {x : Bs} (hs : Srt l) {q : Bs × Nat} (h : q ∈ l.dropWhile fun q => decide (q.1 < x)) : ¬ q.1 < x := by
  induction l with
  | nil => simp at h
  | cons a l ih =>
    rw [List.dropWhile_cons] at h
    have hs := List.pairwise_cons.1 hs
    split at h
    · exact ih hs.2 h
    · rename_i ha
      have ha' : ¬ a.1 < x := by simpa using ha
      rcases List.mem_cons.1 h with rfl | h
      · exact ha'
      · exact fun hq => ha' (str_lt_trans (hs.1 q h) hq)
theorem Srt.wi {l : List (Bs × Nat)} (h : Srt l) (x : Bs) (f : Nat) : Srt (wiM l x f) := by
  have hd := h.del x
  unfold wiM
  have hne : ∀ q ∈ delM l x, q.1 ≠ x := fun q hq => by
    have := (List.mem_filter.1 hq).2
    simpa using this
  refine List.pairwise_append.2 ⟨hd.sublist (List.takeWhile_sublist _), List.pairwise_append.2 ⟨List.pairwise_singleton _ _, hd.sublist (List.dropWhile_sublist _), fun a ha b hb => ?_⟩, fun a ha b hb => ?_⟩
  · simp at ha
    subst ha
    exact str_not_lt (dw_mem hd hb) (hne b (List.dropWhile_subset _ hb))
  · have h1 : a.1 < x := by simpa using tw_mem ha
    rcases List.mem_append.1 hb with hb | hb
    · simp at hb
      subst hb
      exact h1
    · exact str_lt_trans h1 (str_not_lt (dw_mem hd hb) (hne b (List.dropWhile_subset _ hb)))
theorem Srt.tur {l : List (Bs × Nat)} (h : Srt l) (c : McD) : Srt (turM l c) := by
  unfold turM
  have h1 : Srt (if c.src = [] then l else delM l c.src) := by
    split
    · exact h
    · exact h.del _
  dsimp only
  split
  · exact h1
  · exact h1.wi _ _
theorem getM_wi (l : List (Bs × Nat)) (x : Bs) (f : Nat) (y : Bs) : getM (wiM l x f) y = if x = y then some f else getM l y := by
  have hne : ∀ q ∈ delM l x, q.1 ≠ x := fun q hq => by
    have := (List.mem_filter.1 hq).2
    simpa using this
  have hsp : delM l x = (delM l x).takeWhile (fun q => decide (q.1 < x)) ++ (delM l x).dropWhile (fun q => decide (q.1 < x)) := List.takeWhile_append_dropWhile.symm
  have e0 := getM_del l x y
  unfold wiM
  rw [getM_append, getM_append]
  by_cases h : x = y
  · subst h
    rw [if_pos rfl]
    have : getM ((delM l x).takeWhile fun q => decide (q.1 < x)) x = none := getM_none.2 (fun q hq => hne q (List.takeWhile_subset _ hq))
    rw [this]
    simp [getM]
  · rw [if_neg h]
    rw [if_neg h] at e0
    rw [← e0]
    conv => rhs; rw [hsp, getM_append]
    simp [getM, h]
theorem now_perm {σ : Nat → Nat} {m l : List (Bs × Nat)} (hm : (m.map (·.1)).Nodup) (hl : (l.map (·.1)).Nodup) (h : ∀ x, getM m x = (getM l x).map σ) : m.Perm (l.map fun q => (q.1, σ q.2)) := by
  have nd : ∀ {k : List (Bs × Nat)}, (k.map (·.1)).Nodup → k.Nodup := fun {k} hk => by
    rw [List.nodup_iff_pairwise_ne, List.pairwise_map] at hk
    rw [List.nodup_iff_pairwise_ne]
    exact hk.imp (fun h e => h (by rw [e]))
  have hl2 : ((l.map fun q => (q.1, σ q.2)).map (·.1)).Nodup := by rw [List.map_map]; exact hl
  refine (List.perm_ext_iff_of_nodup (nd hm) (nd hl2)).2 (fun q => ⟨fun hq => ?_, fun hq => ?_⟩)
  · have h1 := getM_of_mem hm (x := q.1) (v := q.2) hq
    rw [h] at h1
    obtain ⟨i, hi, e⟩ := Option.map_eq_some_iff.1 h1
    exact List.mem_map.2 ⟨_, getM_mem hi, by rw [e]⟩
  · obtain ⟨r, hr, e⟩ := List.mem_map.1 hq
    have h1 := getM_of_mem hl (x := r.1) (v := r.2) hr
    have h2 := h r.1
    rw [h1] at h2
    have := getM_mem h2
    rw [e] at this
    exact this

/-- a change and the document's -/
def SimC (σ : Nat → Nat) (m : List (Bs × Nat)) (c : ChD) (q : McD) : Prop :=
  (c.kind = 1 ∧ q.src = [] ∧ q.dst = c.name ∧ c.name ≠ [] ∧ c.f = some (σ q.f)) ∨
  (c.kind = 2 ∧ q.src = c.name ∧ q.dst = c.dst ∧ c.name ≠ [] ∧ c.dst ≠ [] ∧ c.name ≠ c.dst ∧ getM m c.name = some (σ q.f)) ∨
  (c.kind = 3 ∧ q.src = c.name ∧ q.dst = [] ∧ c.name ≠ [])
theorem SimC.get {σ : Nat → Nat} {m m' : List (Bs × Nat)} {c : ChD} {q : McD} (h : SimC σ m c q) (hg : ∀ x, getM m' x = getM m x) : SimC σ m' c q := by
  rcases h with h | ⟨h1, h2, h3, h4, h5, h6, h7⟩ | h
  · exact .inl h
  · exact .inr (.inl ⟨h1, h2, h3, h4, h5, h6, by rw [hg]; exact h7⟩)
  · exact .inr (.inr h)
theorem SimC.turn {σ : Nat → Nat} {m l : List (Bs × Nat)} {c : ChD} {q : McD} (h : SimC σ m c q) (hg : ∀ x, getM m x = (getM l x).map σ) (x : Bs) : getM (doD m c) x = (getM (turM l q) x).map σ := by
  rcases h with ⟨h1, h2, h3, h4, h5⟩ | ⟨h1, h2, h3, h4, h5, h6, h7⟩ | ⟨h1, h2, h3, h4⟩
  · have e1 : doD m c = putM m c.name (σ q.f) := by unfold doD; rw [if_pos h1, h5]
    have e2 : turM l q = wiM l c.name q.f := by unfold turM; rw [h2, h3]; simp [h4]
    rw [e1, e2, getM_put, getM_wi]
    split
    · rfl
    · exact hg x
  · have e1 : doD m c = delM (putM m c.dst (σ q.f)) c.name := by unfold doD; rw [if_neg (by omega), if_pos h1, h7]
    have e2 : turM l q = wiM (delM l c.name) c.dst q.f := by unfold turM; rw [h2, h3]; simp [h4, h5]
    rw [e1, e2, getM_del, getM_put, getM_wi, getM_del]
    by_cases ha : c.name = x
    · subst ha
      rw [if_pos rfl, if_neg (fun e => h6 e.symm), if_pos rfl]
      rfl
    · rw [if_neg ha]
      by_cases hb : c.dst = x
      · rw [if_pos hb, if_pos hb]; rfl
      · rw [if_neg hb, if_neg hb, if_neg ha]
        exact hg x
  · have e1 : doD m c = delM m c.name := by unfold doD; rw [if_neg (by omega), if_neg (by omega), if_pos h1]
    have e2 : turM l q = delM l c.name := by unfold turM; rw [h2, h3]; simp [h4]
    rw [e1, e2, getM_del, getM_del]
    split
    · rfl
    · exact hg x
theorem SimC.dst_ne {σ : Nat → Nat} {m : List (Bs × Nat)} {c : ChD} {q : McD} (h : SimC σ m c q) : True := trivial
/-- files that are under a name, or may be -/
def Rch (M : RkD) (i : Nat) : Prop := (∃ q ∈ M.now, q.2 = i) ∨ (∃ q ∈ M.sur, q.2 = i) ∨ ∃ q ∈ M.ch, q.dst ≠ [] ∧ q.f = i
def FailR (ops df n mf : Int) : Prop := (df ≤ ops ∧ mf = 0) ∨ (ops < df ∧ mf = df - ops ∧ mf ≤ 4611686018427387904) ∨ (df = 0 ∧ 4611686018427387904 < mf + n ∧ mf ≤ 9223372036854775807)
structure Sim (σ : Nat → Nat) (D : DkD) (M : RkD) : Prop where
  now : ∀ x, getM D.now x = (getM M.now x).map σ
  sur : ∀ x, getM D.sur x = (getM M.sur x).map σ
  srt1 : Srt M.now
  srt2 : Srt M.sur
  chl : D.ch.length = M.ch.length
  ch : ∀ (j : Nat) (c : ChD) (q : McD), D.ch[j]? = some c → M.ch[j]? = some q → SimC σ (runC D.sur (D.ch.take j)) c q
  idx : ∀ i, Rch M i → i < M.files.length ∧ D.files[σ i]? = M.files[i]?
  inj : ∀ i j, Rch M i → Rch M j → σ i = σ j → i = j
  chr : ∀ q ∈ M.ch, q.f < M.files.length
  quota : M.quota = D.quota
  n : M.n = D.ops
  fail : FailR D.ops D.fail M.n M.fail
  fln : (M.files.length : Int) ≤ M.n
  fok : ∀ f ∈ M.files, f.sure ≤ f.b.length ∧ f.b.length ≤ 1048576
  key1 : ∀ q ∈ M.now, q.1 ≠ []
  key2 : ∀ q ∈ M.sur, q.1 ≠ []
def RM (D : DkD) (M : RkD) : Prop := ∃ σ, Sim σ D M
section
variable {σ : Nat → Nat} {D : DkD} {M : RkD}
theorem Sim.perm (h : Sim σ D M) (iv : InvD D) : D.now.Perm (M.now.map fun q => (q.1, σ q.2)) := now_perm iv.ok.nn h.srt1.nodup h.now
theorem Sim.names (h : Sim σ D M) (iv : InvD D) : namesD D = namM M := by
  unfold namesD namM
  have hp := (h.perm iv).map (·.1)
  rw [List.map_map] at hp
  refine srt_one ((srtN_perm _).trans hp) (srtN_sorted _) ?_
  rw [List.pairwise_map]
  exact h.srt1.imp (fun {a b} hab => List.le_of_lt hab)
theorem Sim.len (h : Sim σ D M) {q : Bs × Nat} (hq : q ∈ M.now) : lenF D.files (σ q.2) = lenF M.files q.2 := by
  unfold lenF
  rw [(h.idx q.2 (.inl ⟨q, hq, rfl⟩)).2]
theorem Sim.size (h : Sim σ D M) (iv : InvD D) : sizeD D = sizM M := by
  unfold sizeD sizM
  rw [((h.perm iv).map _).sum_nat, List.map_map]
  congr 1
  apply List.map_congr_left
  intro q hq
  exact h.len hq
theorem Sim.read (h : Sim σ D M) (x : Bs) : reaD D x = reaM M x := by
  unfold reaD reaM
  rw [h.now]
  cases hg : getM M.now x with
  | none => rfl
  | some i =>
    have := (h.idx i (.inl ⟨_, getM_mem hg, rfl⟩)).2
    simp [this]
theorem Sim.ok (h : Sim σ D M) (iv : InvD D) (ho : D.ops ≤ 400) : OkM M := by
  have hl := (h.perm iv).length_eq
  rw [List.length_map] at hl
  have hl2 := (now_perm iv.ok.ns h.srt2.nodup h.sur).length_eq
  rw [List.length_map] at hl2
  have h1 := iv.ok.nl
  have h2 := h.n
  have h3 := iv.ok.ops
  have h4 := h.fln
  have h5 := h.chl
  refine ⟨fun q hq => (h.idx q.2 (.inl ⟨q, hq, rfl⟩)).1, fun q hq => (h.idx q.2 (.inr (.inl ⟨q, hq, rfl⟩))).1, h.chr, ⟨by omega, by omega⟩, ?_, ⟨by omega, by omega, by omega, by omega⟩, h.fok, by rw [h.quota]; exact iv.ok.quota⟩
  rcases h.fail with ⟨_, h6⟩ | ⟨h6, h7, h8⟩ | ⟨_, h6, h7⟩
  · omega
  · omega
  · omega
end
end Go.Proofs.Ythdjdfdefibepaa
end

section
namespace Go.Proofs.Ythdjdfdefibepaa
open Go.RowKit Go.ChangeShapes Go.WideShapes Go.ChangeAt Go.Deep Go.MapKept
set_option linter.unusedVariables false

theorem turM_mem2 {l : List (Bs × Nat)} {c : McD} {q : Bs × Nat} (h : q ∈ turM l c) : q ∈ l ∨ (c.dst ≠ [] ∧ q = (c.dst, c.f)) := by
  by_cases hd : c.dst = []
  · left
    unfold turM at h
    dsimp only at h
    rw [if_pos hd] at h
    split at h
    · exact h
    · exact (List.mem_filter.1 h).1
  · exact (turM_mem h).imp id (fun e => ⟨hd, e⟩)
theorem room_eq (q : Int) (s : Nat) (was n L : Nat) (o : Option Nat) : ((!(decide (q < (s : Int)) || (decide (q - (s : Int) < (n : Int)) || decide ((1048576 : Int) - (was : Int) < (n : Int))))) && (o.isSome || decide (L < 200))) = !(decide (q - (s : Int) < (n : Int)) || (decide ((1048576 : Int) - (was : Int) < (n : Int)) || (o.isNone && decide (200 ≤ L)))) := by
  rw [Bool.eq_iff_iff]
  cases o <;> simp <;> omega
section
variable {σ : Nat → Nat} {D : DkD} {M : RkD}
theorem Sim.nums (h : Sim σ D M) {o g n f : Int} (hn : n = o) (hf : FailR o g n f) (hl : (M.files.length : Int) ≤ n) : Sim σ { D with ops := o, fail := g } { M with n := n, fail := f } :=
  ⟨h.now, h.sur, h.srt1, h.srt2, h.chl, h.ch, h.idx, h.inj, h.chr, h.quota, hn, hf, hl, h.fok, h.key1, h.key2⟩
theorem Sim.beg (h : Sim σ D M) (h0 : 0 ≤ D.ops) (ho : D.ops ≤ 1000) : ∃ fa n1 f1 o1 g1, opM M = (fa, { M with n := n1, fail := f1 }) ∧ begD D = (if fa = true then 8 else 0, { D with ops := o1, fail := g1 }) ∧ Sim σ { D with ops := o1, fail := g1 } { M with n := n1, fail := f1 } ∧ n1 = M.n + 1 := by
  have hn := h.n
  have hl := h.fln
  rcases h.fail with ⟨h1, h2⟩ | ⟨h1, h2, h3⟩ | ⟨h1, h2, h3⟩
  · refine ⟨false, M.n + 1, M.fail, D.ops + 1, D.fail, ?_, ?_, h.nums (by omega) (.inl ⟨by omega, h2⟩) (by omega), rfl⟩
    · unfold opM; rw [if_neg (by omega)]
    · unfold begD; rw [if_neg (by omega)]; rfl
  · by_cases h4 : D.ops + 1 = D.fail
    · refine ⟨true, M.n + 1, M.fail - 1, D.ops + 1, 0, ?_, ?_, h.nums (by omega) (.inl ⟨by omega, by omega⟩) (by omega), rfl⟩
      · unfold opM; rw [if_pos (by omega), decide_eq_true (by omega)]
      · unfold begD; rw [if_pos h4]; rfl
    · refine ⟨false, M.n + 1, M.fail - 1, D.ops + 1, D.fail, ?_, ?_, h.nums (by omega) (.inr (.inl ⟨by omega, by omega, by omega⟩)) (by omega), rfl⟩
      · unfold opM; rw [if_pos (by omega), decide_eq_false (by omega)]
      · unfold begD; rw [if_neg h4]; rfl
  · refine ⟨false, M.n + 1, M.fail - 1, D.ops + 1, D.fail, ?_, ?_, h.nums (by omega) (.inr (.inr ⟨h1, by omega, by omega⟩)) (by omega), rfl⟩
    · unfold opM; rw [if_pos (by omega), decide_eq_false (by omega)]
    · unfold begD; rw [if_neg (by omega)]; rfl
theorem Rch.chg {q : McD} {i : Nat} (h : Rch (chgM M q) i) : Rch M i ∨ (q.dst ≠ [] ∧ i = q.f) := by
  rcases h with ⟨r, hr, e⟩ | h | ⟨r, hr, h1, e⟩
  · rcases turM_mem2 hr with h1 | ⟨h1, h2⟩
    · exact .inl (.inl ⟨r, h1, e⟩)
    · exact .inr ⟨h1, by rw [← e, h2]⟩
  · exact .inl (.inr (.inl h))
  · rcases List.mem_append.1 hr with h2 | h2
    · exact .inl (.inr (.inr ⟨r, h2, h1, e⟩))
    · simp at h2
      subst h2
      exact .inr ⟨h1, e.symm⟩
theorem Sim.chg (h : Sim σ D M) (hsame : ∀ x, getM (runC D.sur D.ch) x = getM D.now x) {c : ChD} {q : McD} (hc : SimC σ D.now c q) (hq : q.f < M.files.length)
    (hi : q.dst ≠ [] → D.files[σ q.f]? = M.files[q.f]? ∧ ∀ j, Rch M j → σ q.f = σ j → q.f = j) : Sim σ (chgD D c) (chgM M q) := by
  refine ⟨fun x => hc.turn h.now x, h.sur, h.srt1.tur q, h.srt2, by simp [chgD, chgM, h.chl], fun j c' q' h1 h2 => ?_, fun i hr => ?_, fun i j hr1 hr2 e => ?_, fun q' h1 => ?_, h.quota, h.n, h.fail, h.fln, h.fok, fun q' h1 => ?_, h.key2⟩
  · have h1' : (D.ch ++ [c])[j]? = some c' := h1
    have h2' : (M.ch ++ [q])[j]? = some q' := h2
    have hjl := (List.getElem?_eq_some_iff.1 h1').1
    rw [List.length_append, List.length_singleton] at hjl
    show SimC σ (runC D.sur ((D.ch ++ [c]).take j)) c' q'
    rw [List.take_append_of_le_length (by omega)]
    by_cases hj : j < D.ch.length
    · rw [List.getElem?_append_left hj] at h1'
      rw [List.getElem?_append_left (by rw [← h.chl]; exact hj)] at h2'
      exact h.ch j c' q' h1' h2'
    · obtain rfl : j = D.ch.length := by omega
      rw [List.getElem?_append_right (Nat.le_refl _), Nat.sub_self] at h1'
      rw [List.getElem?_append_right (by rw [← h.chl]; exact Nat.le_refl _), h.chl, Nat.sub_self] at h2'
      simp at h1' h2'
      subst h1' h2'
      rw [List.take_length]
      exact hc.get hsame
  · rcases hr.chg with h1 | ⟨h1, rfl⟩
    · exact h.idx i h1
    · exact ⟨hq, (hi h1).1⟩
  · rcases hr1.chg with h1 | ⟨h1, rfl⟩
    · rcases hr2.chg with h2 | ⟨h2, rfl⟩
      · exact h.inj i j h1 h2 e
      · exact ((hi h2).2 i h1 e.symm).symm
    · rcases hr2.chg with h2 | ⟨h2, rfl⟩
      · exact (hi h1).2 j h2 e
      · rfl
  · rcases List.mem_append.1 h1 with h2 | h2
    · exact h.chr q' h2
    · simp at h2
      subst h2
      exact hq
  · rcases turM_mem2 h1 with h2 | ⟨h2, h3⟩
    · exact h.key1 q' h2
    · rw [h3]; exact h2
theorem Sim.fset (h : Sim σ D M) {i : Nat} (hr : Rch M i) {f : FlE} (hf : f.sure ≤ f.b.length ∧ f.b.length ≤ 1048576) : Sim σ { D with files := D.files.set (σ i) f } { M with files := M.files.set i f } := by
  have hR : ∀ j, Rch { M with files := M.files.set i f } j → Rch M j := fun j h => h
  refine ⟨h.now, h.sur, h.srt1, h.srt2, h.chl, h.ch, fun j hj => ?_, fun j k hj hk => h.inj j k hj hk, fun q hq => by rw [List.length_set]; exact h.chr q hq, h.quota, h.n, h.fail, by rw [List.length_set]; exact h.fln, fun g hg => ?_, h.key1, h.key2⟩
  · obtain ⟨h1, h2⟩ := h.idx j hj
    refine ⟨by rw [List.length_set]; exact h1, ?_⟩
    show (D.files.set (σ i) f)[σ j]? = (M.files.set i f)[j]?
    by_cases e : i = j
    · subst e
      have hl : σ i < D.files.length := by
        rw [List.getElem?_eq_getElem h1] at h2
        exact (List.getElem?_eq_some_iff.1 h2).1
      rw [List.getElem?_set_self hl, List.getElem?_set_self h1]
    · rw [List.getElem?_set_ne e, List.getElem?_set_ne (fun e2 => e (h.inj i j hr hj e2))]
      exact h2
  · rcases List.mem_or_eq_of_mem_set hg with h1 | h1
    · exact h.fok g h1
    · rw [h1]; exact hf
theorem Sim.add (h : Sim σ D M) (iv : OkI D) (hn : (M.files.length : Int) + 1 ≤ M.n) : ∃ σ', Sim σ' { D with files := D.files ++ [⟨[], 0⟩] } { M with files := M.files ++ [⟨[], 0⟩] } ∧ σ' M.files.length = D.files.length ∧ ∀ j, Rch M j → j ≠ M.files.length ∧ σ' j ≠ D.files.length := by
  have hlt : ∀ i, Rch M i → i < M.files.length := fun i hi => (h.idx i hi).1
  have hdl : ∀ i, Rch M i → σ i < D.files.length := fun i hi => by
    obtain ⟨h1, h2⟩ := h.idx i hi
    rw [List.getElem?_eq_getElem h1] at h2
    exact (List.getElem?_eq_some_iff.1 h2).1
  refine ⟨fun i => if i = M.files.length then D.files.length else σ i, ⟨fun x => ?_, fun x => ?_, h.srt1, h.srt2, h.chl, fun j c q h1 h2 => ?_, fun i hi => ?_, fun i j hi hj e => ?_, fun q hq => by rw [List.length_append]; have := h.chr q hq; omega, h.quota, h.n, h.fail, by show ((M.files ++ [(⟨[], 0⟩ : FlE)]).length : Int) ≤ M.n; rw [List.length_append, List.length_singleton]; omega, fun f hf => ?_, h.key1, h.key2⟩, by simp, fun j hj => ⟨by have := hlt j hj; omega, by have h1 := hlt j hj; have h2 := hdl j hj; show (if j = M.files.length then D.files.length else σ j) ≠ D.files.length; rw [if_neg (by omega)]; omega⟩⟩
  · show getM D.now x = _
    rw [h.now]
    cases hg : getM M.now x with
    | none => rfl
    | some i =>
      have h1 := hlt i (.inl ⟨_, getM_mem hg, rfl⟩)
      simp [show i ≠ M.files.length by omega]
  · show getM D.sur x = _
    rw [h.sur]
    cases hg : getM M.sur x with
    | none => rfl
    | some i =>
      have h1 := hlt i (.inr (.inl ⟨_, getM_mem hg, rfl⟩))
      simp [show i ≠ M.files.length by omega]
  · have hq := h.chr q (List.mem_of_getElem? h2)
    have e : (if q.f = M.files.length then D.files.length else σ q.f) = σ q.f := if_neg (by omega)
    rcases h.ch j c q h1 h2 with ⟨q1, q2, q3, q4, q5⟩ | ⟨q1, q2, q3, q4, q5, q6, q7⟩ | q
    · exact .inl ⟨q1, q2, q3, q4, by dsimp only; rw [e]; exact q5⟩
    · exact .inr (.inl ⟨q1, q2, q3, q4, q5, q6, by dsimp only; rw [e]; exact q7⟩)
    · exact .inr (.inr q)
  · have h1 := hlt i hi
    have h2 := hdl i hi
    refine ⟨by rw [List.length_append]; omega, ?_⟩
    show (D.files ++ [⟨[], 0⟩])[if i = M.files.length then D.files.length else σ i]? = (M.files ++ [⟨[], 0⟩])[i]?
    rw [if_neg (by omega), List.getElem?_append_left h2, List.getElem?_append_left h1]
    exact (h.idx i hi).2
  · have h1 := hlt i hi
    have h2 := hlt j hj
    have e : (if i = M.files.length then D.files.length else σ i) = (if j = M.files.length then D.files.length else σ j) := e
    rw [if_neg (by omega), if_neg (by omega)] at e
    exact h.inj i j hi hj e
  · rcases List.mem_append.1 hf with h1 | h1
    · exact h.fok f h1
    · simp at h1
      subst h1
      simp
theorem Sim.get (h : Sim σ D M) {x : Bs} {i : Nat} (hg : getM M.now x = some i) : Rch M i ∧ ∃ f, M.files[i]? = some f ∧ D.files[σ i]? = some f ∧ getM D.now x = some (σ i) ∧ x ≠ [] := by
  have hr : Rch M i := .inl ⟨_, getM_mem hg, rfl⟩
  obtain ⟨h1, h2⟩ := h.idx i hr
  exact ⟨hr, _, List.getElem?_eq_getElem h1, by rw [h2]; exact List.getElem?_eq_getElem h1, by rw [h.now, hg]; rfl, h.key1 _ (getM_mem hg)⟩
theorem rem_sim (h : Sim σ D M) (iv : InvD D) (ho : D.ops ≤ 399) (x : Bs) : (remD D x).1 = (remM M x).1 ∧ RM (remD D x).2 (remM M x).2 := by
  obtain ⟨fa, n1, f1, o1, g1, e1, e2, hs, _⟩ := h.beg iv.ok.ops (by omega)
  unfold remD fndD remM
  rw [e1, e2]
  cases fa with
  | true => exact ⟨rfl, σ, hs⟩
  | false =>
    cases hg : getM M.now x with
    | none =>
      have hd : getM D.now x = none := by rw [h.now, hg]; rfl
      simp only [hd]
      exact ⟨rfl, σ, hs⟩
    | some i =>
      obtain ⟨hr, f, hf1, hf2, hd, hx⟩ := h.get hg
      simp only [hd]
      refine ⟨rfl, σ, hs.chg iv.same (q := ⟨x, [], i⟩) (.inr (.inr ⟨rfl, rfl, rfl, hx⟩)) (h.idx i hr).1 (fun hn => absurd rfl hn)⟩
theorem ren_sim (h : Sim σ D M) (iv : InvD D) (ho : D.ops ≤ 399) (x y : Bs) : (renD D x y).1 = (renM M x y).1 ∧ RM (renD D x y).2 (renM M x y).2 := by
  obtain ⟨fa, n1, f1, o1, g1, e1, e2, hs, _⟩ := h.beg iv.ok.ops (by omega)
  unfold renD fndD renM
  rw [e1, e2]
  cases fa with
  | true => exact ⟨rfl, σ, hs⟩
  | false =>
    cases hg : getM M.now x with
    | none =>
      have hd : getM D.now x = none := by rw [h.now, hg]; rfl
      simp only [hd]
      exact ⟨rfl, σ, hs⟩
    | some i =>
      obtain ⟨hr, f, hf1, hf2, hd, hx⟩ := h.get hg
      simp only [hd]
      cases hn : namedD y with
      | false => exact ⟨rfl, σ, hs⟩
      | true =>
        by_cases hxy : x = y
        · simp only [hxy, if_pos]
          exact ⟨rfl, σ, hs⟩
        · simp only [if_neg hxy]
          have hy : y ≠ [] := fun e => by rw [e] at hn; simp [namedD] at hn
          refine ⟨rfl, σ, hs.chg iv.same (q := ⟨x, y, i⟩) (.inr (.inl ⟨rfl, rfl, rfl, hx, hy, hxy, hd⟩)) (h.idx i hr).1 (fun _ => ⟨(h.idx i hr).2, fun j hj e => h.inj i j hr hj e⟩)⟩
theorem sdr_sim (h : Sim σ D M) (iv : InvD D) (ho : D.ops ≤ 399) : (sdrD D).1 = (sdrM M).1 ∧ RM (sdrD D).2 (sdrM M).2 := by
  obtain ⟨fa, n1, f1, o1, g1, e1, e2, hs, _⟩ := h.beg iv.ok.ops (by omega)
  unfold sdrD sdrM
  rw [e1, e2]
  cases fa with
  | true => exact ⟨rfl, σ, hs⟩
  | false =>
    have hR : ∀ i, Rch { M with n := n1, fail := f1, sur := M.now, ch := [] } i → Rch M i := fun i hi => by
      rcases hi with hi | hi | ⟨q, hq, _⟩
      · exact .inl hi
      · exact .inl hi
      · simp at hq
    exact ⟨rfl, σ, hs.now, hs.now, hs.srt1, hs.srt1, rfl, fun j c q h1 h2 => by simp at h1, fun i hi => h.idx i (hR i hi), fun i j hi hj => h.inj i j (hR i hi) (hR j hj), by simp, hs.quota, hs.n, hs.fail, hs.fln, hs.fok, hs.key1, hs.key1⟩
theorem syn_sim (h : Sim σ D M) (iv : InvD D) (ho : D.ops ≤ 399) (x : Bs) : (synD D x).1 = (synM M x).1 ∧ RM (synD D x).2 (synM M x).2 := by
  obtain ⟨fa, n1, f1, o1, g1, e1, e2, hs, _⟩ := h.beg iv.ok.ops (by omega)
  unfold synD fndD synM
  rw [e1, e2]
  cases fa with
  | true => exact ⟨rfl, σ, hs⟩
  | false =>
    cases hg : getM M.now x with
    | none =>
      have hd : getM D.now x = none := by rw [h.now, hg]; rfl
      simp only [hd]
      exact ⟨rfl, σ, hs⟩
    | some i =>
      obtain ⟨hr, f, hf1, hf2, hd, hx⟩ := h.get hg
      have := hs.fset (f := ⟨f.b, f.b.length⟩) hr ⟨Nat.le_refl _, (h.fok f (List.mem_of_getElem? hf1)).2⟩
      simp [hd, hf1, hf2]
      exact ⟨σ, this⟩
theorem cut_sim (h : Sim σ D M) (iv : InvD D) (ho : D.ops ≤ 399) (x : Bs) (n : Int) : (cutD D x n).1 = (cutM M x n).1 ∧ RM (cutD D x n).2 (cutM M x n).2 := by
  obtain ⟨fa, n1, f1, o1, g1, e1, e2, hs, _⟩ := h.beg iv.ok.ops (by omega)
  unfold cutD fndD cutM
  rw [e1, e2]
  cases fa with
  | true => exact ⟨rfl, σ, hs⟩
  | false =>
    cases hg : getM M.now x with
    | none =>
      have hd : getM D.now x = none := by rw [h.now, hg]; rfl
      simp only [hd]
      exact ⟨rfl, σ, hs⟩
    | some i =>
      obtain ⟨hr, f, hf1, hf2, hd, hx⟩ := h.get hg
      have hlf : lenF D.files (σ i) = lenF M.files i := by rw [lenF_get hf1, lenF_get hf2]
      have hl := lenF_get hf1
      by_cases hc : n < 0 ∨ (lenF M.files i : Int) < n
      · simp [hd, hlf, hc]
        exact ⟨σ, hs⟩
      · have hok := h.fok f (List.mem_of_getElem? hf1)
        have := hs.fset (f := ⟨f.b.take n.toNat, n.toNat⟩) hr ⟨by simp only [List.length_take]; omega, by simp only [List.length_take]; omega⟩
        simp [hd, hlf, hc, hf1, hf2]
        exact ⟨σ, this⟩
theorem fai_sim (h : Sim σ D M) (iv : InvD D) (ho : D.ops ≤ 399) {n : Int} (hn : -9223372036854775808 ≤ n ∧ n ≤ 9223372036854775807) : Sim σ (faiD D n) { M with fail := max 0 n } := by
  have h0 := iv.ok.ops
  have hn2 := h.n
  unfold faiD
  refine ⟨h.now, h.sur, h.srt1, h.srt2, h.chl, h.ch, h.idx, h.inj, h.chr, h.quota, h.n, ?_, h.fln, h.fok, h.key1, h.key2⟩
  show FailR D.ops (if 1 ≤ n ∧ n ≤ 4611686018427387904 then D.ops + n else 0) M.n (max 0 n)
  by_cases hc : 1 ≤ n ∧ n ≤ 4611686018427387904
  · rw [if_pos hc]
    exact .inr (.inl ⟨by omega, by omega, by omega⟩)
  · rw [if_neg hc]
    by_cases h1 : n ≤ 0
    · exact .inl ⟨h0, by omega⟩
    · exact .inr (.inr ⟨rfl, by omega, by omega⟩)
theorem app_sim (h : Sim σ D M) (iv : InvD D) (ho : D.ops ≤ 399) (x b : Bs) : (appD D x b).1 = (appM M x b).1 ∧ RM (appD D x b).2 (appM M x b).2 := by
  obtain ⟨fa, n1, f1, o1, g1, e1, e2, hs, hn1⟩ := h.beg iv.ok.ops (by omega)
  have iv1 : InvD { D with ops := o1, fail := g1 } := by have := beg_inv iv; rw [e2] at this; exact this
  unfold appD appM
  rw [e1, e2]
  cases fa with
  | true => exact ⟨rfl, σ, hs⟩
  | false =>
    cases hnm : namedD x with
    | false => exact ⟨rfl, σ, hs⟩
    | true =>
      have hxn : x ≠ [] := fun e => by rw [e] at hnm; simp [namedD] at hnm
      have hroom : roomD { D with ops := o1, fail := g1 } (getM D.now x) b.length = !fulM M (getM M.now x) b.length := by
        have h1 : sizeD { D with ops := o1, fail := g1 } = sizM M := by have := hs.size iv1; exact this
        have h2 : D.now.length = M.now.length := by have := (h.perm iv).length_eq; rw [List.length_map] at this; exact this
        have h3 : ((getM D.now x).map (lenF D.files)).getD 0 = ((getM M.now x).map (lenF M.files)).getD 0 := by
          rw [h.now]
          cases hg : getM M.now x with
          | none => rfl
          | some i =>
            obtain ⟨hr, f, hf1, hf2, hd, hx⟩ := h.get hg
            simp [lenF_get hf1, lenF_get hf2]
        have h4 : (getM D.now x).isSome = (getM M.now x).isSome := by rw [h.now]; cases getM M.now x <;> rfl
        unfold roomD fulM
        rw [h1, h4]
        dsimp only
        rw [h3, h2, ← h.quota]
        exact room_eq _ _ _ _ _ _
      simp only [hroom]
      cases hfu : fulM M (getM M.now x) b.length with
      | true => exact ⟨rfl, σ, hs⟩
      | false =>
        cases hg : getM M.now x with
        | none =>
          have hd : getM D.now x = none := by rw [h.now, hg]; rfl
          obtain ⟨σ', ha, hl, hne⟩ := hs.add iv1.ok (by have := h.fln; simp only; omega)
          have hsame := iv.same
          have hfl : ({ M with n := n1, fail := f1, files := M.files ++ [⟨[], 0⟩] } : RkD).files.length = M.files.length + 1 := by simp
          have hc := ha.chg hsame (c := ⟨1, x, [], some D.files.length⟩) (q := ⟨[], x, M.files.length⟩) (.inl ⟨rfl, rfl, rfl, hxn, by rw [← hl]⟩) (by rw [hfl]; exact Nat.lt_succ_self _) (fun _ => ⟨by
            dsimp only
            rw [hl]
            simp, fun j hj e => by
            have hj' : Rch { M with n := n1, fail := f1 } j := hj
            exact absurd (e.symm.trans hl) (hne j hj').2⟩)
          have hrr : Rch (chgM { M with n := n1, fail := f1, files := M.files ++ [⟨[], 0⟩] } ⟨[], x, M.files.length⟩) M.files.length := by
            refine .inl ⟨(x, M.files.length), ?_, rfl⟩
            refine getM_mem (x := x) (v := M.files.length) ?_
            show getM (turM M.now ⟨[], x, M.files.length⟩) x = _
            have : turM M.now ⟨[], x, M.files.length⟩ = wiM M.now x M.files.length := by unfold turM; simp [hxn]
            rw [this, getM_wi, if_pos rfl]
          have hbl : b.length ≤ 1048576 := by
            have h9 := hfu
            rw [hg] at h9
            unfold fulM at h9
            simp at h9
            omega
          have hz := hc.fset (f := ⟨[] ++ b, 0⟩) hrr ⟨Nat.zero_le _, by rw [List.nil_append]; exact hbl⟩
          have eD : appF (D.files ++ [(⟨[], 0⟩ : FlE)]) D.files.length b = (D.files ++ [(⟨[], 0⟩ : FlE)]).set (σ' M.files.length) (⟨[] ++ b, 0⟩ : FlE) := by rw [hl]; exact appF_some (f := ⟨[], 0⟩) (by simp)
          have eM : appF (M.files ++ [(⟨[], 0⟩ : FlE)]) M.files.length b = (M.files ++ [(⟨[], 0⟩ : FlE)]).set M.files.length (⟨[] ++ b, 0⟩ : FlE) := appF_some (f := ⟨[], 0⟩) (by simp)
          simp [hd]
          rw [eD, eM]
          exact ⟨σ', hz⟩
        | some i =>
          obtain ⟨hr, f, hf1, hf2, hd, hx⟩ := h.get hg
          have hok := h.fok f (List.mem_of_getElem? hf1)
          have hbl : f.b.length + b.length ≤ 1048576 := by
            have h9 := hfu
            rw [hg] at h9
            unfold fulM at h9
            simp [lenF_get hf1] at h9
            omega
          have hz := hs.fset (f := ⟨f.b ++ b, f.sure⟩) hr ⟨by simp only [List.length_append]; omega, by simp only [List.length_append]; exact hbl⟩
          simp [hd]
          rw [appF_some hf1, appF_some hf2]
          exact ⟨σ, hz⟩
end
end Go.Proofs.Ythdjdfdefibepaa
end

section
namespace Go.Proofs.Ythdjdfdefibepaa
open Go.RowKit Go.ChangeShapes Go.WideShapes Go.ChangeAt Go.Deep Go.MapKept
set_option linter.unusedVariables false

theorem pick_eq (ps : Bs) (k n : Nat) : pickD (ps.drop k) n = pickM ps k % (n + 1) := by
  unfold pickM
  cases hk : ps[k]? with
  | none =>
    have : ps.drop k = [] := List.drop_eq_nil_of_le (List.getElem?_eq_none_iff.1 hk)
    rw [this]
    simp [pickD]
  | some b =>
    obtain ⟨hl, e⟩ := List.getElem?_eq_some_iff.1 hk
    rw [List.drop_eq_getElem_cons hl, e]
    rfl
theorem cutAll_some {nm : List (Bs × Nat)} {x : Bs} {l : List Bs} {ps : Bs} {fs : List FlE} {i : Nat} {f : FlE} (h : getM nm x = some i) (hf : fs[i]? = some f) :
    cutAll nm (x :: l) ps fs = cutAll nm l (ps.drop 1) (fs.set i ⟨f.b.take (f.sure + pickD ps (f.b.length - f.sure)), f.sure + pickD ps (f.b.length - f.sure)⟩) := by
  show (match getM nm x with | some i => (match fs[i]? with | some f => cutAll nm l (ps.drop 1) (fs.set i ⟨f.b.take (f.sure + pickD ps (f.b.length - f.sure)), f.sure + pickD ps (f.b.length - f.sure)⟩) | none => cutAll nm l (ps.drop 1) fs) | none => cutAll nm l (ps.drop 1) fs) = _
  rw [h]
  dsimp only
  rw [hf]
section
variable {σ : Nat → Nat} {D : DkD} {M : RkD}
theorem Sim.pre (h : Sim σ D M) : ∀ k, (∀ x, getM (runC D.sur (D.ch.take k)) x = (getM ((M.ch.take k).foldl turM M.sur) x).map σ) ∧ Srt ((M.ch.take k).foldl turM M.sur) ∧ ∀ q ∈ (M.ch.take k).foldl turM M.sur, q.1 ≠ [] ∧ Rch M q.2
  | 0 => ⟨by simpa [runC] using h.sur, by simpa using h.srt2, by
    intro q hq
    have hq : q ∈ M.sur := by simpa using hq
    exact ⟨h.key2 q hq, .inr (.inl ⟨q, hq, rfl⟩)⟩⟩
  | k + 1 => by
    obtain ⟨h1, h2, h3⟩ := h.pre k
    cases hc : D.ch[k]? with
    | none =>
      have hl := List.getElem?_eq_none_iff.1 hc
      have e1 : D.ch.take (k + 1) = D.ch.take k := by rw [List.take_of_length_le (by omega), List.take_of_length_le hl]
      have e2 : M.ch.take (k + 1) = M.ch.take k := by rw [List.take_of_length_le (by rw [← h.chl]; omega), List.take_of_length_le (by rw [← h.chl]; exact hl)]
      rw [e1, e2]
      exact ⟨h1, h2, h3⟩
    | some c =>
      have hl := (List.getElem?_eq_some_iff.1 hc).1
      obtain ⟨q, hq⟩ : ∃ q, M.ch[k]? = some q := ⟨_, List.getElem?_eq_getElem (by rw [← h.chl]; exact hl)⟩
      have hs := h.ch k c q hc hq
      have e1 : runC D.sur (D.ch.take (k + 1)) = doD (runC D.sur (D.ch.take k)) c := by
        unfold runC
        rw [List.take_add_one, hc, List.foldl_append]; rfl
      have e2 : (M.ch.take (k + 1)).foldl turM M.sur = turM ((M.ch.take k).foldl turM M.sur) q := by
        rw [List.take_add_one, hq, List.foldl_append]; rfl
      rw [e1, e2]
      refine ⟨fun x => hs.turn h1 x, h2.tur q, fun r hr => ?_⟩
      rcases turM_mem2 hr with h4 | ⟨h4, h5⟩
      · exact h3 r h4
      · rw [h5]
        exact ⟨h4, .inr (.inr ⟨q, List.mem_of_getElem? hq, h4, rfl⟩)⟩
theorem cut_all {R : Nat → Prop} (hinj : ∀ i j, R i → R j → σ i = σ j → i = j) {nm : List (Bs × Nat)} {ps : Bs} : ∀ (l : List (Bs × Nat)) (k : Nat) (Df Mf : List FlE), (∀ q ∈ l, getM nm q.1 = some (σ q.2) ∧ R q.2) → (∀ i, R i → i < Mf.length ∧ Df[σ i]? = Mf[i]?) → (∀ f ∈ Mf, f.sure ≤ f.b.length ∧ f.b.length ≤ 1048576) →
    (cutF ps k l Mf).length = Mf.length ∧ (∀ i, R i → (cutAll nm (l.map (·.1)) (ps.drop k) Df)[σ i]? = (cutF ps k l Mf)[i]?) ∧ ∀ f ∈ cutF ps k l Mf, f.sure ≤ f.b.length ∧ f.b.length ≤ 1048576
  | [], k, Df, Mf, h1, h2, h3 => ⟨rfl, fun i hi => (h2 i hi).2, h3⟩
  | q :: l, k, Df, Mf, h1, h2, h3 => by
    obtain ⟨g1, g2⟩ := h1 q (by simp)
    obtain ⟨g3, g4⟩ := h2 q.2 g2
    have hf : Mf[q.2]? = some Mf[q.2] := List.getElem?_eq_getElem g3
    have hok := h3 _ (List.getElem_mem g3)
    generalize Mf[q.2] = f at hf hok
    rw [hf] at g4
    have hdl := (List.getElem?_eq_some_iff.1 g4).1
    have e1 : cutAll nm ((q :: l).map (·.1)) (ps.drop k) Df = cutAll nm (l.map (·.1)) (ps.drop (k + 1)) (Df.set (σ q.2) (cutM1 ps k f)) := by
      rw [List.map_cons]
      rw [cutAll_some g1 g4]
      rw [List.drop_drop, pick_eq]
      rfl
    have e2 : cutF ps k (q :: l) Mf = cutF ps (k + 1) l (Mf.set q.2 (cutM1 ps k f)) := by
      rw [cutF_cons]
      simp only [hf]
    rw [e1, e2]
    obtain ⟨k1, k2, k3⟩ := cut_all hinj l (k + 1) (Df.set (σ q.2) (cutM1 ps k f)) (Mf.set q.2 (cutM1 ps k f)) (fun r hr => h1 r (List.mem_cons_of_mem _ hr)) (fun i hi => by
      obtain ⟨m1, m2⟩ := h2 i hi
      refine ⟨by rw [List.length_set]; exact m1, ?_⟩
      by_cases e : q.2 = i
      · subst e
        rw [List.getElem?_set_self hdl, List.getElem?_set_self g3]
      · rw [List.getElem?_set_ne e, List.getElem?_set_ne (fun e9 => e (hinj _ _ g2 hi e9))]
        exact m2) (fun g hg => by
      rcases List.mem_or_eq_of_mem_set hg with h9 | h9
      · exact h3 g h9
      · rw [h9]; exact cutM1_ok hok)
    exact ⟨by rw [k1, List.length_set], k2, k3⟩
theorem cra_sim (h : Sim σ D M) (iv : InvD D) (ps : Bs) : Sim σ (craD D ps) (craM M ps) := by
  have hK : pickD ps D.ch.length = pickM ps 0 % (M.ch.length + 1) := by
    have := pick_eq ps 0 D.ch.length
    rw [List.drop_zero, h.chl] at this
    rw [h.chl]
    exact this
  obtain ⟨h1, h2, h3⟩ := h.pre (pickM ps 0 % (M.ch.length + 1))
  have e1 : craN D ps = runC D.sur (D.ch.take (pickM ps 0 % (M.ch.length + 1))) := by unfold craN; rw [hK]
  have e2 : craS M ps = (M.ch.take (pickM ps 0 % (M.ch.length + 1))).foldl turM M.sur := rfl
  rw [← e1, ← e2] at h1
  rw [← e2] at h2 h3
  have hnd : ((craN D ps).map (·.1)).Nodup := by unfold craN; exact runC_nodup _ iv.ok.ns
  have hkeys : srtN ((craN D ps).map (·.1)) = (craS M ps).map (·.1) := by
    have hp := (now_perm hnd h2.nodup h1).map (·.1)
    rw [List.map_map] at hp
    refine srt_one ((srtN_perm _).trans hp) (srtN_sorted _) ?_
    rw [List.pairwise_map]
    exact h2.imp (fun {a b} hab => List.le_of_lt hab)
  obtain ⟨k1, k2, k3⟩ := cut_all (ps := ps) (nm := craN D ps) h.inj (craS M ps) 1 D.files M.files (fun q hq => ⟨by rw [h1, getM_of_mem h2.nodup (x := q.1) (v := q.2) hq]; rfl, (h3 q hq).2⟩) h.idx h.fok
  have hR : ∀ i, Rch (craM M ps) i → Rch M i := fun i hi => by
    rcases hi with ⟨q, hq, e⟩ | ⟨q, hq, e⟩ | ⟨q, hq, _⟩
    · rw [← e]; exact (h3 q hq).2
    · rw [← e]; exact (h3 q hq).2
    · simp [craM] at hq
  have hk1 : (craM M ps).files.length = M.files.length := k1
  refine ⟨h1, h1, h2, h2, rfl, fun j c q h1 h2 => by simp [craD] at h1, fun i hi => ⟨by rw [hk1]; exact (h.idx i (hR i hi)).1, ?_⟩, fun i j hi hj => h.inj i j (hR i hi) (hR j hj), by simp [craM], h.quota, h.n, .inl ⟨iv.ok.ops, rfl⟩, by rw [hk1]; exact h.fln, k3, fun q hq => (h3 q hq).1, fun q hq => (h3 q hq).1⟩
  have := k2 i (hR i hi)
  show (cutAll (craN D ps) (srtN ((craN D ps).map (·.1))) (ps.drop 1) D.files)[σ i]? = _
  rw [hkeys]
  exact this
theorem new_sim (q : Int) : Sim id (newDk q) (newMk q) := by
  refine ⟨fun x => rfl, fun x => rfl, List.Pairwise.nil, List.Pairwise.nil, rfl, fun j c q h1 h2 => by simp [newDk] at h1, fun i hi => ?_, fun i j hi hj e => e, by simp [newMk], rfl, rfl, .inl ⟨by simp [newDk], rfl⟩, by simp [newMk], by simp [newMk], by simp [newMk], by simp [newMk]⟩
  rcases hi with ⟨q, hq, _⟩ | ⟨q, hq, _⟩ | ⟨q, hq, _⟩ <;> simp [newMk] at hq
end
end Go.Proofs.Ythdjdfdefibepaa
end
