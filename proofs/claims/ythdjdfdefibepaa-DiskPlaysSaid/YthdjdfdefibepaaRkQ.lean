
/-
  The disk and the document's: their operations go side by side (plain).
-/
import Derived.Test.YthdjdfdefibepaaRkP
namespace Go.Proofs.Ythdjdfdefibepaa
open Go.RowKit Go.ChangeShapes Go.WideShapes Go.ChangeAt Go.Deep Go.MapKept
set_option linter.unusedVariables false

theorem turM_mem2 {l : List (Bs × Nat)} {c : McD} {q : Bs × Nat} (h : q ∈ turM l c) : q ∈ l ∨ (c.dst ≠ [] ∧ q = (c.dst, c.f)) := by
  by_cases hd : c.dst = []
  · left
    unfold turM at h
    dsimp only at h
    rw [if_pos hd] at h
    split at h
    · exact h
    · exact (List.mem_filter.1 h).1
  · exact (turM_mem h).imp id (fun e => ⟨hd, e⟩)
theorem room_eq (q : Int) (s : Nat) (was n L : Nat) (o : Option Nat) : ((!(decide (q < (s : Int)) || (decide (q - (s : Int) < (n : Int)) || decide ((1048576 : Int) - (was : Int) < (n : Int))))) && (o.isSome || decide (L < 200))) = !(decide (q - (s : Int) < (n : Int)) || (decide ((1048576 : Int) - (was : Int) < (n : Int)) || (o.isNone && decide (200 ≤ L)))) := by
  rw [Bool.eq_iff_iff]
  cases o <;> simp <;> omega
section
variable {σ : Nat → Nat} {D : DkD} {M : RkD}
theorem Sim.nums (h : Sim σ D M) {o g n f : Int} (hn : n = o) (hf : FailR o g n f) (hl : (M.files.length : Int) ≤ n) : Sim σ { D with ops := o, fail := g } { M with n := n, fail := f } :=
  ⟨h.now, h.sur, h.srt1, h.srt2, h.chl, h.ch, h.idx, h.inj, h.chr, h.quota, hn, hf, hl, h.fok, h.key1, h.key2⟩
theorem Sim.beg (h : Sim σ D M) (h0 : 0 ≤ D.ops) (ho : D.ops ≤ 1000) : ∃ fa n1 f1 o1 g1, opM M = (fa, { M with n := n1, fail := f1 }) ∧ begD D = (if fa = true then 8 else 0, { D with ops := o1, fail := g1 }) ∧ Sim σ { D with ops := o1, fail := g1 } { M with n := n1, fail := f1 } ∧ n1 = M.n + 1 := by
  have hn := h.n
  have hl := h.fln
  rcases h.fail with ⟨h1, h2⟩ | ⟨h1, h2, h3⟩ | ⟨h1, h2, h3⟩
  · refine ⟨false, M.n + 1, M.fail, D.ops + 1, D.fail, ?_, ?_, h.nums (by omega) (.inl ⟨by omega, h2⟩) (by omega), rfl⟩
    · unfold opM; rw [if_neg (by omega)]
    · unfold begD; rw [if_neg (by omega)]; rfl
  · by_cases h4 : D.ops + 1 = D.fail
    · refine ⟨true, M.n + 1, M.fail - 1, D.ops + 1, 0, ?_, ?_, h.nums (by omega) (.inl ⟨by omega, by omega⟩) (by omega), rfl⟩
      · unfold opM; rw [if_pos (by omega), decide_eq_true (by omega)]
      · unfold begD; rw [if_pos h4]; rfl
    · refine ⟨false, M.n + 1, M.fail - 1, D.ops + 1, D.fail, ?_, ?_, h.nums (by omega) (.inr (.inl ⟨by omega, by omega, by omega⟩)) (by omega), rfl⟩
      · unfold opM; rw [if_pos (by omega), decide_eq_false (by omega)]
      · unfold begD; rw [if_neg h4]; rfl
  · refine ⟨false, M.n + 1, M.fail - 1, D.ops + 1, D.fail, ?_, ?_, h.nums (by omega) (.inr (.inr ⟨h1, by omega, by omega⟩)) (by omega), rfl⟩
    · unfold opM; rw [if_pos (by omega), decide_eq_false (by omega)]
    · unfold begD; rw [if_neg (by omega)]; rfl
theorem Rch.chg {q : McD} {i : Nat} (h : Rch (chgM M q) i) : Rch M i ∨ (q.dst ≠ [] ∧ i = q.f) := by
  rcases h with ⟨r, hr, e⟩ | h | ⟨r, hr, h1, e⟩
  · rcases turM_mem2 hr with h1 | ⟨h1, h2⟩
    · exact .inl (.inl ⟨r, h1, e⟩)
    · exact .inr ⟨h1, by rw [← e, h2]⟩
  · exact .inl (.inr (.inl h))
  · rcases List.mem_append.1 hr with h2 | h2
    · exact .inl (.inr (.inr ⟨r, h2, h1, e⟩))
    · simp at h2
      subst h2
      exact .inr ⟨h1, e.symm⟩
theorem Sim.chg (h : Sim σ D M) (hsame : ∀ x, getM (runC D.sur D.ch) x = getM D.now x) {c : ChD} {q : McD} (hc : SimC σ D.now c q) (hq : q.f < M.files.length)
    (hi : q.dst ≠ [] → D.files[σ q.f]? = M.files[q.f]? ∧ ∀ j, Rch M j → σ q.f = σ j → q.f = j) : Sim σ (chgD D c) (chgM M q) := by
  refine ⟨fun x => hc.turn h.now x, h.sur, h.srt1.tur q, h.srt2, by simp [chgD, chgM, h.chl], fun j c' q' h1 h2 => ?_, fun i hr => ?_, fun i j hr1 hr2 e => ?_, fun q' h1 => ?_, h.quota, h.n, h.fail, h.fln, h.fok, fun q' h1 => ?_, h.key2⟩
  · have h1' : (D.ch ++ [c])[j]? = some c' := h1
    have h2' : (M.ch ++ [q])[j]? = some q' := h2
    have hjl := (List.getElem?_eq_some_iff.1 h1').1
    rw [List.length_append, List.length_singleton] at hjl
    show SimC σ (runC D.sur ((D.ch ++ [c]).take j)) c' q'
    rw [List.take_append_of_le_length (by omega)]
    by_cases hj : j < D.ch.length
    · rw [List.getElem?_append_left hj] at h1'
      rw [List.getElem?_append_left (by rw [← h.chl]; exact hj)] at h2'
      exact h.ch j c' q' h1' h2'
    · obtain rfl : j = D.ch.length := by omega
      rw [List.getElem?_append_right (Nat.le_refl _), Nat.sub_self] at h1'
      rw [List.getElem?_append_right (by rw [← h.chl]; exact Nat.le_refl _), h.chl, Nat.sub_self] at h2'
      simp at h1' h2'
      subst h1' h2'
      rw [List.take_length]
      exact hc.get hsame
  · rcases hr.chg with h1 | ⟨h1, rfl⟩
    · exact h.idx i h1
    · exact ⟨hq, (hi h1).1⟩
  · rcases hr1.chg with h1 | ⟨h1, rfl⟩
    · rcases hr2.chg with h2 | ⟨h2, rfl⟩
      · exact h.inj i j h1 h2 e
      · exact ((hi h2).2 i h1 e.symm).symm
    · rcases hr2.chg with h2 | ⟨h2, rfl⟩
      · exact (hi h1).2 j h2 e
      · rfl
  · rcases List.mem_append.1 h1 with h2 | h2
    · exact h.chr q' h2
    · simp at h2
      subst h2
      exact hq
  · rcases turM_mem2 h1 with h2 | ⟨h2, h3⟩
    · exact h.key1 q' h2
    · rw [h3]; exact h2
theorem Sim.fset (h : Sim σ D M) {i : Nat} (hr : Rch M i) {f : FlE} (hf : f.sure ≤ f.b.length ∧ f.b.length ≤ 1048576) : Sim σ { D with files := D.files.set (σ i) f } { M with files := M.files.set i f } := by
  have hR : ∀ j, Rch { M with files := M.files.set i f } j → Rch M j := fun j h => h
  refine ⟨h.now, h.sur, h.srt1, h.srt2, h.chl, h.ch, fun j hj => ?_, fun j k hj hk => h.inj j k hj hk, fun q hq => by rw [List.length_set]; exact h.chr q hq, h.quota, h.n, h.fail, by rw [List.length_set]; exact h.fln, fun g hg => ?_, h.key1, h.key2⟩
  · obtain ⟨h1, h2⟩ := h.idx j hj
    refine ⟨by rw [List.length_set]; exact h1, ?_⟩
    show (D.files.set (σ i) f)[σ j]? = (M.files.set i f)[j]?
    by_cases e : i = j
    · subst e
      have hl : σ i < D.files.length := by
        rw [List.getElem?_eq_getElem h1] at h2
        exact (List.getElem?_eq_some_iff.1 h2).1
      rw [List.getElem?_set_self hl, List.getElem?_set_self h1]
    · rw [List.getElem?_set_ne e, List.getElem?_set_ne (fun e2 => e (h.inj i j hr hj e2))]
      exact h2
  · rcases List.mem_or_eq_of_mem_set hg with h1 | h1
    · exact h.fok g h1
    · rw [h1]; exact hf
theorem Sim.add (h : Sim σ D M) (iv : OkI D) (hn : (M.files.length : Int) + 1 ≤ M.n) : ∃ σ', Sim σ' { D with files := D.files ++ [⟨[], 0⟩] } { M with files := M.files ++ [⟨[], 0⟩] } ∧ σ' M.files.length = D.files.length ∧ ∀ j, Rch M j → j ≠ M.files.length ∧ σ' j ≠ D.files.length := by
  have hlt : ∀ i, Rch M i → i < M.files.length := fun i hi => (h.idx i hi).1
  have hdl : ∀ i, Rch M i → σ i < D.files.length := fun i hi => by
    obtain ⟨h1, h2⟩ := h.idx i hi
    rw [List.getElem?_eq_getElem h1] at h2
    exact (List.getElem?_eq_some_iff.1 h2).1
  refine ⟨fun i => if i = M.files.length then D.files.length else σ i, ⟨fun x => ?_, fun x => ?_, h.srt1, h.srt2, h.chl, fun j c q h1 h2 => ?_, fun i hi => ?_, fun i j hi hj e => ?_, fun q hq => by rw [List.length_append]; have := h.chr q hq; omega, h.quota, h.n, h.fail, by show ((M.files ++ [(⟨[], 0⟩ : FlE)]).length : Int) ≤ M.n; rw [List.length_append, List.length_singleton]; omega, fun f hf => ?_, h.key1, h.key2⟩, by simp, fun j hj => ⟨by have := hlt j hj; omega, by have h1 := hlt j hj; have h2 := hdl j hj; show (if j = M.files.length then D.files.length else σ j) ≠ D.files.length; rw [if_neg (by omega)]; omega⟩⟩
  · show getM D.now x = _
    rw [h.now]
    cases hg : getM M.now x with
    | none => rfl
    | some i =>
      have h1 := hlt i (.inl ⟨_, getM_mem hg, rfl⟩)
      simp [show i ≠ M.files.length by omega]
  · show getM D.sur x = _
    rw [h.sur]
    cases hg : getM M.sur x with
    | none => rfl
    | some i =>
      have h1 := hlt i (.inr (.inl ⟨_, getM_mem hg, rfl⟩))
      simp [show i ≠ M.files.length by omega]
  · have hq := h.chr q (List.mem_of_getElem? h2)
    have e : (if q.f = M.files.length then D.files.length else σ q.f) = σ q.f := if_neg (by omega)
    rcases h.ch j c q h1 h2 with ⟨q1, q2, q3, q4, q5⟩ | ⟨q1, q2, q3, q4, q5, q6, q7⟩ | q
    · exact .inl ⟨q1, q2, q3, q4, by dsimp only; rw [e]; exact q5⟩
    · exact .inr (.inl ⟨q1, q2, q3, q4, q5, q6, by dsimp only; rw [e]; exact q7⟩)
    · exact .inr (.inr q)
  · have h1 := hlt i hi
    have h2 := hdl i hi
    refine ⟨by rw [List.length_append]; omega, ?_⟩
    show (D.files ++ [⟨[], 0⟩])[if i = M.files.length then D.files.length else σ i]? = (M.files ++ [⟨[], 0⟩])[i]?
    rw [if_neg (by omega), List.getElem?_append_left h2, List.getElem?_append_left h1]
    exact (h.idx i hi).2
  · have h1 := hlt i hi
    have h2 := hlt j hj
    have e : (if i = M.files.length then D.files.length else σ i) = (if j = M.files.length then D.files.length else σ j) := e
    rw [if_neg (by omega), if_neg (by omega)] at e
    exact h.inj i j hi hj e
  · rcases List.mem_append.1 hf with h1 | h1
    · exact h.fok f h1
    · simp at h1
      subst h1
      simp
theorem Sim.get (h : Sim σ D M) {x : Bs} {i : Nat} (hg : getM M.now x = some i) : Rch M i ∧ ∃ f, M.files[i]? = some f ∧ D.files[σ i]? = some f ∧ getM D.now x = some (σ i) ∧ x ≠ [] := by
  have hr : Rch M i := .inl ⟨_, getM_mem hg, rfl⟩
  obtain ⟨h1, h2⟩ := h.idx i hr
  exact ⟨hr, _, List.getElem?_eq_getElem h1, by rw [h2]; exact List.getElem?_eq_getElem h1, by rw [h.now, hg]; rfl, h.key1 _ (getM_mem hg)⟩
theorem rem_sim (h : Sim σ D M) (iv : InvD D) (ho : D.ops ≤ 399) (x : Bs) : (remD D x).1 = (remM M x).1 ∧ RM (remD D x).2 (remM M x).2 := by
  obtain ⟨fa, n1, f1, o1, g1, e1, e2, hs, _⟩ := h.beg iv.ok.ops (by omega)
  unfold remD fndD remM
  rw [e1, e2]
  cases fa with
  | true => exact ⟨rfl, σ, hs⟩
  | false =>
    cases hg : getM M.now x with
    | none =>
      have hd : getM D.now x = none := by rw [h.now, hg]; rfl
      simp only [hd]
      exact ⟨rfl, σ, hs⟩
    | some i =>
      obtain ⟨hr, f, hf1, hf2, hd, hx⟩ := h.get hg
      simp only [hd]
      refine ⟨rfl, σ, hs.chg iv.same (q := ⟨x, [], i⟩) (.inr (.inr ⟨rfl, rfl, rfl, hx⟩)) (h.idx i hr).1 (fun hn => absurd rfl hn)⟩
theorem ren_sim (h : Sim σ D M) (iv : InvD D) (ho : D.ops ≤ 399) (x y : Bs) : (renD D x y).1 = (renM M x y).1 ∧ RM (renD D x y).2 (renM M x y).2 := by
  obtain ⟨fa, n1, f1, o1, g1, e1, e2, hs, _⟩ := h.beg iv.ok.ops (by omega)
  unfold renD fndD renM
  rw [e1, e2]
  cases fa with
  | true => exact ⟨rfl, σ, hs⟩
  | false =>
    cases hg : getM M.now x with
    | none =>
      have hd : getM D.now x = none := by rw [h.now, hg]; rfl
      simp only [hd]
      exact ⟨rfl, σ, hs⟩
    | some i =>
      obtain ⟨hr, f, hf1, hf2, hd, hx⟩ := h.get hg
      simp only [hd]
      cases hn : namedD y with
      | false => exact ⟨rfl, σ, hs⟩
      | true =>
        by_cases hxy : x = y
        · simp only [hxy, if_pos]
          exact ⟨rfl, σ, hs⟩
        · simp only [if_neg hxy]
          have hy : y ≠ [] := fun e => by rw [e] at hn; simp [namedD] at hn
          refine ⟨rfl, σ, hs.chg iv.same (q := ⟨x, y, i⟩) (.inr (.inl ⟨rfl, rfl, rfl, hx, hy, hxy, hd⟩)) (h.idx i hr).1 (fun _ => ⟨(h.idx i hr).2, fun j hj e => h.inj i j hr hj e⟩)⟩
theorem sdr_sim (h : Sim σ D M) (iv : InvD D) (ho : D.ops ≤ 399) : (sdrD D).1 = (sdrM M).1 ∧ RM (sdrD D).2 (sdrM M).2 := by
  obtain ⟨fa, n1, f1, o1, g1, e1, e2, hs, _⟩ := h.beg iv.ok.ops (by omega)
  unfold sdrD sdrM
  rw [e1, e2]
  cases fa with
  | true => exact ⟨rfl, σ, hs⟩
  | false =>
    have hR : ∀ i, Rch { M with n := n1, fail := f1, sur := M.now, ch := [] } i → Rch M i := fun i hi => by
      rcases hi with hi | hi | ⟨q, hq, _⟩
      · exact .inl hi
      · exact .inl hi
      · simp at hq
    exact ⟨rfl, σ, hs.now, hs.now, hs.srt1, hs.srt1, rfl, fun j c q h1 h2 => by simp at h1, fun i hi => h.idx i (hR i hi), fun i j hi hj => h.inj i j (hR i hi) (hR j hj), by simp, hs.quota, hs.n, hs.fail, hs.fln, hs.fok, hs.key1, hs.key1⟩
theorem syn_sim (h : Sim σ D M) (iv : InvD D) (ho : D.ops ≤ 399) (x : Bs) : (synD D x).1 = (synM M x).1 ∧ RM (synD D x).2 (synM M x).2 := by
  obtain ⟨fa, n1, f1, o1, g1, e1, e2, hs, _⟩ := h.beg iv.ok.ops (by omega)
  unfold synD fndD synM
  rw [e1, e2]
  cases fa with
  | true => exact ⟨rfl, σ, hs⟩
  | false =>
    cases hg : getM M.now x with
    | none =>
      have hd : getM D.now x = none := by rw [h.now, hg]; rfl
      simp only [hd]
      exact ⟨rfl, σ, hs⟩
    | some i =>
      obtain ⟨hr, f, hf1, hf2, hd, hx⟩ := h.get hg
      have := hs.fset (f := ⟨f.b, f.b.length⟩) hr ⟨Nat.le_refl _, (h.fok f (List.mem_of_getElem? hf1)).2⟩
      simp [hd, hf1, hf2]
      exact ⟨σ, this⟩
theorem cut_sim (h : Sim σ D M) (iv : InvD D) (ho : D.ops ≤ 399) (x : Bs) (n : Int) : (cutD D x n).1 = (cutM M x n).1 ∧ RM (cutD D x n).2 (cutM M x n).2 := by
  obtain ⟨fa, n1, f1, o1, g1, e1, e2, hs, _⟩ := h.beg iv.ok.ops (by omega)
  unfold cutD fndD cutM
  rw [e1, e2]
  cases fa with
  | true => exact ⟨rfl, σ, hs⟩
  | false =>
    cases hg : getM M.now x with
    | none =>
      have hd : getM D.now x = none := by rw [h.now, hg]; rfl
      simp only [hd]
      exact ⟨rfl, σ, hs⟩
    | some i =>
      obtain ⟨hr, f, hf1, hf2, hd, hx⟩ := h.get hg
      have hlf : lenF D.files (σ i) = lenF M.files i := by rw [lenF_get hf1, lenF_get hf2]
      have hl := lenF_get hf1
      by_cases hc : n < 0 ∨ (lenF M.files i : Int) < n
      · simp [hd, hlf, hc]
        exact ⟨σ, hs⟩
      · have hok := h.fok f (List.mem_of_getElem? hf1)
        have := hs.fset (f := ⟨f.b.take n.toNat, n.toNat⟩) hr ⟨by simp only [List.length_take]; omega, by simp only [List.length_take]; omega⟩
        simp [hd, hlf, hc, hf1, hf2]
        exact ⟨σ, this⟩
theorem fai_sim (h : Sim σ D M) (iv : InvD D) (ho : D.ops ≤ 399) {n : Int} (hn : -9223372036854775808 ≤ n ∧ n ≤ 9223372036854775807) : Sim σ (faiD D n) { M with fail := max 0 n } := by
  have h0 := iv.ok.ops
  have hn2 := h.n
  unfold faiD
  refine ⟨h.now, h.sur, h.srt1, h.srt2, h.chl, h.ch, h.idx, h.inj, h.chr, h.quota, h.n, ?_, h.fln, h.fok, h.key1, h.key2⟩
  show FailR D.ops (if 1 ≤ n ∧ n ≤ 4611686018427387904 then D.ops + n else 0) M.n (max 0 n)
  by_cases hc : 1 ≤ n ∧ n ≤ 4611686018427387904
  · rw [if_pos hc]
    exact .inr (.inl ⟨by omega, by omega, by omega⟩)
  · rw [if_neg hc]
    by_cases h1 : n ≤ 0
    · exact .inl ⟨h0, by omega⟩
    · exact .inr (.inr ⟨rfl, by omega, by omega⟩)
theorem app_sim (h : Sim σ D M) (iv : InvD D) (ho : D.ops ≤ 399) (x b : Bs) : (appD D x b).1 = (appM M x b).1 ∧ RM (appD D x b).2 (appM M x b).2 := by
  obtain ⟨fa, n1, f1, o1, g1, e1, e2, hs, hn1⟩ := h.beg iv.ok.ops (by omega)
  have iv1 : InvD { D with ops := o1, fail := g1 } := by have := beg_inv iv; rw [e2] at this; exact this
  unfold appD appM
  rw [e1, e2]
  cases fa with
  | true => exact ⟨rfl, σ, hs⟩
  | false =>
    cases hnm : namedD x with
    | false => exact ⟨rfl, σ, hs⟩
    | true =>
      have hxn : x ≠ [] := fun e => by rw [e] at hnm; simp [namedD] at hnm
      have hroom : roomD { D with ops := o1, fail := g1 } (getM D.now x) b.length = !fulM M (getM M.now x) b.length := by
        have h1 : sizeD { D with ops := o1, fail := g1 } = sizM M := by have := hs.size iv1; exact this
        have h2 : D.now.length = M.now.length := by have := (h.perm iv).length_eq; rw [List.length_map] at this; exact this
        have h3 : ((getM D.now x).map (lenF D.files)).getD 0 = ((getM M.now x).map (lenF M.files)).getD 0 := by
          rw [h.now]
          cases hg : getM M.now x with
          | none => rfl
          | some i =>
            obtain ⟨hr, f, hf1, hf2, hd, hx⟩ := h.get hg
            simp [lenF_get hf1, lenF_get hf2]
        have h4 : (getM D.now x).isSome = (getM M.now x).isSome := by rw [h.now]; cases getM M.now x <;> rfl
        unfold roomD fulM
        rw [h1, h4]
        dsimp only
        rw [h3, h2, ← h.quota]
        exact room_eq _ _ _ _ _ _
      simp only [hroom]
      cases hfu : fulM M (getM M.now x) b.length with
      | true => exact ⟨rfl, σ, hs⟩
      | false =>
        cases hg : getM M.now x with
        | none =>
          have hd : getM D.now x = none := by rw [h.now, hg]; rfl
          obtain ⟨σ', ha, hl, hne⟩ := hs.add iv1.ok (by have := h.fln; simp only; omega)
          have hsame := iv.same
          have hfl : ({ M with n := n1, fail := f1, files := M.files ++ [⟨[], 0⟩] } : RkD).files.length = M.files.length + 1 := by simp
          have hc := ha.chg hsame (c := ⟨1, x, [], some D.files.length⟩) (q := ⟨[], x, M.files.length⟩) (.inl ⟨rfl, rfl, rfl, hxn, by rw [← hl]⟩) (by rw [hfl]; exact Nat.lt_succ_self _) (fun _ => ⟨by
            dsimp only
            rw [hl]
            simp, fun j hj e => by
            have hj' : Rch { M with n := n1, fail := f1 } j := hj
            exact absurd (e.symm.trans hl) (hne j hj').2⟩)
          have hrr : Rch (chgM { M with n := n1, fail := f1, files := M.files ++ [⟨[], 0⟩] } ⟨[], x, M.files.length⟩) M.files.length := by
            refine .inl ⟨(x, M.files.length), ?_, rfl⟩
            refine getM_mem (x := x) (v := M.files.length) ?_
            show getM (turM M.now ⟨[], x, M.files.length⟩) x = _
            have : turM M.now ⟨[], x, M.files.length⟩ = wiM M.now x M.files.length := by unfold turM; simp [hxn]
            rw [this, getM_wi, if_pos rfl]
          have hbl : b.length ≤ 1048576 := by
            have h9 := hfu
            rw [hg] at h9
            unfold fulM at h9
            simp at h9
            omega
          have hz := hc.fset (f := ⟨[] ++ b, 0⟩) hrr ⟨Nat.zero_le _, by rw [List.nil_append]; exact hbl⟩
          have eD : appF (D.files ++ [(⟨[], 0⟩ : FlE)]) D.files.length b = (D.files ++ [(⟨[], 0⟩ : FlE)]).set (σ' M.files.length) (⟨[] ++ b, 0⟩ : FlE) := by rw [hl]; exact appF_some (f := ⟨[], 0⟩) (by simp)
          have eM : appF (M.files ++ [(⟨[], 0⟩ : FlE)]) M.files.length b = (M.files ++ [(⟨[], 0⟩ : FlE)]).set M.files.length (⟨[] ++ b, 0⟩ : FlE) := appF_some (f := ⟨[], 0⟩) (by simp)
          simp [hd]
          rw [eD, eM]
          exact ⟨σ', hz⟩
        | some i =>
          obtain ⟨hr, f, hf1, hf2, hd, hx⟩ := h.get hg
          have hok := h.fok f (List.mem_of_getElem? hf1)
          have hbl : f.b.length + b.length ≤ 1048576 := by
            have h9 := hfu
            rw [hg] at h9
            unfold fulM at h9
            simp [lenF_get hf1] at h9
            omega
          have hz := hs.fset (f := ⟨f.b ++ b, f.sure⟩) hr ⟨by simp only [List.length_append]; omega, by simp only [List.length_append]; exact hbl⟩
          simp [hd]
          rw [appF_some hf1, appF_some hf2]
          exact ⟨σ, hz⟩
end
end Go.Proofs.Ythdjdfdefibepaa
