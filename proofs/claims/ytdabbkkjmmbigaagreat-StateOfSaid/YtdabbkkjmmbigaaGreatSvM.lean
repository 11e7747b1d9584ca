
/-
  Plain law: the document's Apply keeps the state's view.
-/
import Derived.Test.YtdabbkkjmmbigaaGreatSvB
import Derived.Test.YtdabbkkjmmbigaaGreatSvG
section
namespace Go.Proofs.YtdabbkkjmmbigaaGreat
open Go.RowKit
set_option linter.unusedVariables false

theorem tw_all_true {α : Type} {p : α → Bool} : ∀ {l : List α}, ∀ x ∈ l.takeWhile p, p x = true
  | [], x, h => by simp at h
  | a :: l, x, h => by
    by_cases ha : p a = true
    · rw [List.takeWhile_cons_of_pos ha] at h
      rcases List.mem_cons.1 h with rfl | h
      · exact ha
      · exact tw_all_true x h
    · rw [List.takeWhile_cons_of_neg ha] at h
      simp at h
/-- behind those that are less, none is less -/
theorem dw_none {f : TupD} : ∀ {l : List FlD}, SrtF l → ∀ x ∈ l.dropWhile (fun x => lessT x.tup f), lessT x.tup f = false
  | [], _, x, h => by simp at h
  | a :: l, hs, x, h => by
    have hs' := List.pairwise_cons.1 hs
    by_cases ha : lessT a.tup f = true
    · rw [List.dropWhile_cons_of_pos (p := fun x : FlD => lessT x.tup f) ha] at h
      exact dw_none hs'.2 x h
    · rw [List.dropWhile_cons_of_neg (p := fun x : FlD => lessT x.tup f) ha] at h
      have ha' : lessT a.tup f = false := by simpa using ha
      rcases List.mem_cons.1 h with rfl | h
      · exact ha'
      · cases hx : lessT x.tup f
        · rfl
        · exact absurd (less_trans (hs'.1 x h) hx) ha
theorem restF_eq {f : FlD} : ∀ {l : List FlD}, SrtF l → (∀ x ∈ l, lessT x.tup f.tup = false) → restF f l = l.filter fun x => !decide (x.tup = f.tup)
  | [], _, _ => rfl
  | a :: l, hs, hn => by
    have hs' := List.pairwise_cons.1 hs
    have hrest : ∀ x ∈ l, x.tup ≠ f.tup := by
      intro x hx e
      have h1 := hs'.1 x hx
      rw [e] at h1
      rw [hn a (by simp)] at h1
      cases h1
    have hf : (l.filter fun x => !decide (x.tup = f.tup)) = l := List.filter_eq_self.2 fun x hx => by simp [hrest x hx]
    show (if a.tup = f.tup then l else a :: l) = _
    by_cases ha : a.tup = f.tup
    · rw [if_pos ha, List.filter_cons_of_neg (by simp [ha]), hf]
    · rw [if_neg ha, List.filter_cons_of_pos (by simp [ha]), hf]
theorem putFl_perm {l : List FlD} {f : FlD} (hs : SrtF l) : (putFl l f).Perm (f :: l.filter fun x => !decide (x.tup = f.tup)) := by
  have hd : SrtF (l.dropWhile fun x => lessT x.tup f.tup) := hs.sublist (List.dropWhile_sublist _)
  have h1 : (l.takeWhile fun x => lessT x.tup f.tup).filter (fun x => !decide (x.tup = f.tup)) = l.takeWhile fun x => lessT x.tup f.tup := List.filter_eq_self.2 fun x hx => by
    have := tw_all_true x hx
    have hne : x.tup ≠ f.tup := fun e => by rw [e, less_irr] at this; cases this
    simp [hne]
  have h2 : l.filter (fun x => !decide (x.tup = f.tup)) = (l.takeWhile fun x => lessT x.tup f.tup) ++ restF f (l.dropWhile fun x => lessT x.tup f.tup) := by
    rw [restF_eq hd (dw_none hs)]
    conv => lhs; rw [← List.takeWhile_append_dropWhile (p := fun x : FlD => lessT x.tup f.tup) (l := l)]
    rw [List.filter_append, h1]
  rw [h2]
  unfold putFl
  exact List.perm_middle
theorem putFl_srt {l : List FlD} {f : FlD} (hs : SrtF l) : SrtF (putFl l f) := by
  have hd : SrtF (l.dropWhile fun x => lessT x.tup f.tup) := hs.sublist (List.dropWhile_sublist _)
  have ht : SrtF (l.takeWhile fun x => lessT x.tup f.tup) := hs.sublist (List.takeWhile_sublist _)
  have hn := dw_none (f := f.tup) hs
  have hr := restF_eq hd hn
  have hrest : ∀ y ∈ restF f (l.dropWhile fun x => lessT x.tup f.tup), lessT f.tup y.tup = true := by
    intro y hy
    rw [hr] at hy
    obtain ⟨h1, h2⟩ := List.mem_filter.1 hy
    have hne : y.tup ≠ f.tup := by simpa using h2
    rcases less_or hne with h | h
    · rw [hn y h1] at h; cases h
    · exact h
  unfold putFl SrtF
  rw [List.pairwise_append]
  refine ⟨ht, ?_, ?_⟩
  · show List.Pairwise _ (f :: restF f _)
    rw [List.pairwise_cons]
    exact ⟨hrest, by rw [hr]; exact hd.sublist List.filter_sublist⟩
  · intro x hx y hy
    have h1 := tw_all_true x hx
    rcases List.mem_cons.1 hy with rfl | hy
    · exact h1
    · exact less_trans h1 (hrest y hy)
end Go.Proofs.YtdabbkkjmmbigaaGreat
end

section
namespace Go.Proofs.YtdabbkkjmmbigaaGreat
open Go.RowKit
set_option linter.unusedVariables false

theorem put_vals {k : TupD} {v : FlD} : ∀ {m : List (TupD × FlD)}, (m.map (·.1)).Nodup → (∀ p ∈ m, p.2.tup = p.1) → (getM m k).isSome = true →
    ((m.map fun p => if p.1 = k then (k, v) else p).map (·.2)).Perm (v :: (m.map (·.2)).filter fun x => !decide (x.tup = k))
  | [], _, _, h => by simp [getM_nil] at h
  | p :: m, hn, ho, h => by
    rw [List.map_cons, List.nodup_cons] at hn
    by_cases hp : p.1 = k
    · have hno : ∀ q ∈ m, q.1 ≠ k := fun q hq e => hn.1 (by rw [hp, ← e]; exact List.mem_map_of_mem hq)
      have e1 : (m.map fun p => if p.1 = k then (k, v) else p) = m := by
        have : (m.map fun p => if p.1 = k then (k, v) else p) = m.map id := List.map_congr_left fun q hq => by rw [if_neg (hno q hq)]; rfl
        rw [this, List.map_id]
      have e2 : ((m.map (·.2)).filter fun x => !decide (x.tup = k)) = m.map (·.2) := List.filter_eq_self.2 fun x hx => by
        obtain ⟨q, hq, rfl⟩ := List.mem_map.1 hx
        rw [ho q (by simp [hq])]
        simp [hno q hq]
      rw [List.map_cons, List.map_cons, if_pos hp, e1, List.map_cons, List.filter_cons_of_neg (by rw [ho p (by simp)]; simp [hp]), e2]
    · have h' : (getM m k).isSome = true := by rw [getM_cons, if_neg hp] at h; exact h
      have ih := put_vals (v := v) hn.2 (fun q hq => ho q (by simp [hq])) h'
      rw [List.map_cons, List.map_cons, if_neg hp, List.map_cons, List.filter_cons_of_pos (by rw [ho p (by simp)]; simp [hp])]
      exact (ih.cons p.2).trans (List.Perm.swap _ _ _)
theorem putM_vals {k : TupD} {v : FlD} {m : List (TupD × FlD)} (hn : (m.map (·.1)).Nodup) (ho : ∀ p ∈ m, p.2.tup = p.1) :
    ((putM m k v).map (·.2)).Perm (v :: (m.map (·.2)).filter fun x => !decide (x.tup = k)) := by
  unfold putM
  by_cases h : (getM m k).isSome = true
  · rw [if_pos h]
    exact put_vals hn ho h
  · rw [if_neg h]
    have hnone : getM m k = none := by simpa using h
    have e2 : ((m.map (·.2)).filter fun x => !decide (x.tup = k)) = m.map (·.2) := List.filter_eq_self.2 fun x hx => by
      obtain ⟨q, hq, rfl⟩ := List.mem_map.1 hx
      rw [ho q hq]
      simp [getM_none.1 hnone q hq]
    rw [e2, List.map_append]
    exact List.perm_append_comm
theorem delM_vals {k : TupD} : ∀ {m : List (TupD × FlD)}, (∀ p ∈ m, p.2.tup = p.1) → (delM m k).map (·.2) = (m.map (·.2)).filter fun x => !decide (x.tup = k)
  | [], _ => rfl
  | p :: m, ho => by
    have ih := delM_vals (k := k) (m := m) (fun q hq => ho q (by simp [hq]))
    have hp := ho p (by simp)
    by_cases h : p.1 = k
    · rw [show delM (p :: m) k = delM m k by unfold delM; rw [List.filter_cons_of_neg (by simp [h])], ih, List.map_cons, List.filter_cons_of_neg (by rw [hp]; simp [h])]
    · rw [show delM (p :: m) k = p :: delM m k by unfold delM; rw [List.filter_cons_of_pos (by simp [h])], List.map_cons, ih, List.map_cons, List.filter_cons_of_pos (by rw [hp]; simp [h])]
theorem put_drains {b u : Int} : ∀ {m : List (Int × Int)}, (m.map (·.1)).Nodup → (getM m b).isSome = true → (m.map fun p => if p.1 = b then (b, u) else p).Perm ((b, u) :: delM m b)
  | [], _, h => by simp [getM_nil] at h
  | p :: m, hn, h => by
    rw [List.map_cons, List.nodup_cons] at hn
    by_cases hp : p.1 = b
    · have hno : ∀ q ∈ m, q.1 ≠ b := fun q hq e => hn.1 (by rw [hp, ← e]; exact List.mem_map_of_mem hq)
      have e1 : (m.map fun p => if p.1 = b then (b, u) else p) = m := by
        have : (m.map fun p => if p.1 = b then (b, u) else p) = m.map id := List.map_congr_left fun q hq => by rw [if_neg (hno q hq)]; rfl
        rw [this, List.map_id]
      have e2 : delM (p :: m) b = m := by
        unfold delM
        rw [List.filter_cons_of_neg (by simp [hp])]
        exact List.filter_eq_self.2 fun q hq => by simp [hno q hq]
      rw [List.map_cons, if_pos hp, e1, e2]
    · have h' : (getM m b).isSome = true := by rw [getM_cons, if_neg hp] at h; exact h
      have ih := put_drains (u := u) hn.2 h'
      rw [List.map_cons, if_neg hp, show delM (p :: m) b = p :: delM m b by unfold delM; rw [List.filter_cons_of_pos (by simp [hp])]]
      exact (ih.cons p).trans (List.Perm.swap _ _ _)
theorem putM_drains {b u : Int} {m : List (Int × Int)} (hn : (m.map (·.1)).Nodup) : (putM m b u).Perm ((b, u) :: delM m b) := by
  unfold putM
  by_cases h : (getM m b).isSome = true
  · rw [if_pos h]
    exact put_drains hn h
  · rw [if_neg h, del_none (by simpa using h)]
    exact List.perm_append_comm
theorem insD_perm (l : List (Int × Int)) (b u : Int) : (insD l b u).Perm ((b, u) :: l) := by
  unfold insD
  refine List.perm_middle.trans ?_
  show ((b, u) :: (l.takeWhile (fun x => decide (x.1 < b)) ++ l.dropWhile fun x => decide (x.1 < b))).Perm _
  rw [List.takeWhile_append_dropWhile]
theorem dwD_none {b : Int} : ∀ {l : List (Int × Int)}, l.Pairwise (fun a b => a.1 < b.1) → ∀ x ∈ l.dropWhile (fun x => decide (x.1 < b)), ¬ x.1 < b
  | [], _, x, h => by simp at h
  | a :: l, hs, x, h => by
    have hs' := List.pairwise_cons.1 hs
    by_cases ha : a.1 < b
    · rw [List.dropWhile_cons_of_pos (p := fun x : Int × Int => decide (x.1 < b)) (decide_eq_true ha)] at h
      exact dwD_none hs'.2 x h
    · rw [List.dropWhile_cons_of_neg (p := fun x : Int × Int => decide (x.1 < b)) (by simp [ha])] at h
      rcases List.mem_cons.1 h with rfl | h
      · exact ha
      · have := hs'.1 x h
        omega
theorem insD_srt {l : List (Int × Int)} {b u : Int} (hs : l.Pairwise fun a b => a.1 < b.1) (hn : ∀ x ∈ l, x.1 ≠ b) : (insD l b u).Pairwise fun a b => a.1 < b.1 := by
  have hd := hs.sublist (List.dropWhile_sublist fun x : Int × Int => decide (x.1 < b))
  have ht := hs.sublist (List.takeWhile_sublist fun x : Int × Int => decide (x.1 < b))
  have hge := dwD_none (b := b) hs
  have hgt : ∀ y ∈ l.dropWhile (fun x => decide (x.1 < b)), b < y.1 := fun y hy => by
    have h1 := hge y hy
    have h2 := hn y ((List.dropWhile_sublist _).subset hy)
    omega
  unfold insD
  rw [List.pairwise_append]
  refine ⟨ht, ?_, ?_⟩
  · show List.Pairwise _ ((b, u) :: _)
    rw [List.pairwise_cons]
    exact ⟨hgt, hd⟩
  · intro x hx y hy
    have h1 : x.1 < b := of_decide_eq_true (tw_all_true (p := fun x : Int × Int => decide (x.1 < b)) x hx)
    rcases List.mem_cons.1 hy with rfl | hy
    · exact h1
    · have := hgt y hy
      omega
end Go.Proofs.YtdabbkkjmmbigaaGreat
end

section
namespace Go.Proofs.YtdabbkkjmmbigaaGreat
open Go.RowKit
set_option linter.unusedVariables false

/-- what the document's Apply answers, what it makes -/
def errV (V : VwD) (r : RecD) : Int :=
  if badS r = true then 1
  else if r.kind = 1 then (if atI V.flows r.tup < 0 ∧ 256 ≤ V.flows.length then 9 else 0)
  else if r.kind = 4 then (if getM V.drains r.back = none ∧ 16 ≤ V.drains.length then 9 else 0)
  else 0
def doneV (V : VwD) (r : RecD) : VwD :=
  if r.kind = 1 then { V with flows := putFl V.flows (flowR r) }
  else if r.kind = 2 then { V with flows := V.flows.filter fun x => !decide (x.tup = r.tup) }
  else if r.kind = 3 then { V with gen := r.gen, backs := r.backs }
  else if r.kind = 4 then { V with drains := insD (delM V.drains r.back) r.back r.until_ }
  else if r.kind = 5 then { V with drains := delM V.drains r.back }
  else V
def applyV (V : VwD) (r : RecD) : VwD := if errV V r = 0 then doneV V r else V
theorem view_none {S : StD} (ok : OkS S) {V : VwD} (h : IsView S V) (k : TupD) : atI V.flows k < 0 ↔ getM S.flows k = none := by
  rcases at_cases V.flows k with ⟨hat, hno⟩ | ⟨i, hi, hat, htt, _⟩
  · refine ⟨fun _ => getM_none.2 fun p hp e => ?_, fun _ => by omega⟩
    have hm : p.2 ∈ V.flows := h.fp.mem_iff.2 (List.mem_map_of_mem hp)
    exact hno _ hm (by rw [ok.own p hp, e])
  · refine ⟨fun hc => by omega, fun hc => ?_⟩
    have hf := h.flow ok (List.getElem_mem hi)
    rw [htt, hc] at hf
    cases hf
theorem view_drain {S : StD} (ok : OkS S) {V : VwD} (h : IsView S V) (b : Int) : getM V.drains b = none ↔ getM S.drains b = none := by
  rw [getM_none, getM_none]
  exact ⟨fun hc p hp => hc p (h.dp.mem_iff.2 hp), fun hc p hp => hc p (h.dp.mem_iff.1 hp)⟩
theorem view_err {S : StD} (ok : OkS S) {V : VwD} (h : IsView S V) (r : RecD) : errV V r = errS S r := by
  have hl : V.flows.length = S.flows.length := by rw [h.fp.length_eq, List.length_map]
  have hd : V.drains.length = S.drains.length := h.dp.length_eq
  have h1 := view_none ok h r.tup
  have h2 := view_drain ok h r.back
  unfold errV errS
  cases hb : badS r
  · unfold fullS
    simp only [Bool.false_eq_true, if_false]
    by_cases k1 : r.kind = 1
    · rw [if_pos k1, if_pos k1, hl]
      by_cases hn : getM S.flows r.tup = none
      · by_cases h256 : 256 ≤ S.flows.length
        · rw [if_pos ⟨h1.2 hn, h256⟩, if_pos (by rw [hn]; simp [h256])]
        · rw [if_neg (fun hc => h256 hc.2), if_neg (by rw [hn]; simp; omega)]
      · rw [if_neg (fun hc => hn (h1.1 hc.1)), if_neg (by
          cases hg : getM S.flows r.tup with
          | none => exact absurd hg hn
          | some v => simp)]
    · rw [if_neg k1, if_neg k1]
      by_cases k4 : r.kind = 4
      · rw [if_pos k4, if_pos k4, hd]
        by_cases hn : getM S.drains r.back = none
        · by_cases h16 : 16 ≤ S.drains.length
          · rw [if_pos ⟨h2.2 hn, h16⟩, if_pos (by rw [hn]; simp [h16])]
          · rw [if_neg (fun hc => h16 hc.2), if_neg (by rw [hn]; simp; omega)]
        · rw [if_neg (fun hc => hn (h2.1 hc.1)), if_neg (by
            cases hg : getM S.drains r.back with
            | none => exact absurd hg hn
            | some v => simp)]
      · rw [if_neg k4, if_neg k4]
        simp
  · rw [if_pos rfl, if_pos rfl]
theorem srt_del {l : List (Int × Int)} {b : Int} (hs : l.Pairwise fun a b => a.1 < b.1) : (delM l b).Pairwise fun a b => a.1 < b.1 := hs.sublist List.filter_sublist
theorem view_done {S : StD} (ok : OkS S) {V : VwD} (h : IsView S V) (r : RecD) : IsView (doneS S r) (doneV V r) := by
  obtain ⟨h1, h2, h3, h4, h5, h6⟩ := h
  have hdel : ∀ b, (delM V.drains b).Perm (delM S.drains b) := fun b => h3.filter _
  unfold doneS doneV
  by_cases k1 : r.kind = 1
  · rw [if_pos k1, if_pos k1]
    refine ⟨h1, h2, h3, h4, ?_, putFl_srt h6⟩
    show (putFl V.flows (flowR r)).Perm ((putM S.flows r.tup (flowR r)).map (·.2))
    exact (putFl_perm h6).trans (((h5.filter _).cons _).trans (putM_vals (k := r.tup) (v := flowR r) ok.nf ok.own).symm)
  · rw [if_neg k1, if_neg k1]
    by_cases k2 : r.kind = 2
    · rw [if_pos k2, if_pos k2]
      refine ⟨h1, h2, h3, h4, ?_, h6.sublist List.filter_sublist⟩
      show (V.flows.filter _).Perm ((delM S.flows r.tup).map (·.2))
      rw [delM_vals ok.own]
      exact h5.filter _
    · rw [if_neg k2, if_neg k2]
      by_cases k3 : r.kind = 3
      · rw [if_pos k3, if_pos k3]
        exact ⟨rfl, rfl, h3, h4, h5, h6⟩
      · rw [if_neg k3, if_neg k3]
        by_cases k4 : r.kind = 4
        · rw [if_pos k4, if_pos k4]
          refine ⟨h1, h2, ?_, insD_srt (srt_del h4) (fun x hx => ?_), h5, h6⟩
          · exact (insD_perm _ _ _).trans (((hdel r.back).cons _).trans (putM_drains ok.nd).symm)
          · have := (List.mem_filter.1 hx).2
            simpa using this
        · rw [if_neg k4, if_neg k4]
          by_cases k5 : r.kind = 5
          · rw [if_pos k5, if_pos k5]
            exact ⟨h1, h2, hdel r.back, srt_del h4, h5, h6⟩
          · rw [if_neg k5, if_neg k5]
            exact ⟨h1, h2, h3, h4, h5, h6⟩
/-- both keep one view -/
theorem view_apply {S : StD} (ok : OkS S) {V : VwD} (h : IsView S V) (r : RecD) : errV V r = errS S r ∧ IsView (applyS S r) (applyV V r) := by
  have he := view_err ok h r
  refine ⟨he, ?_⟩
  unfold applyS applyV
  rw [he]
  by_cases h0 : errS S r = 0
  · rw [if_pos h0, if_pos h0]
    exact view_done ok h r
  · rw [if_neg h0, if_neg h0]
    exact h
end Go.Proofs.YtdabbkkjmmbigaaGreat
end
