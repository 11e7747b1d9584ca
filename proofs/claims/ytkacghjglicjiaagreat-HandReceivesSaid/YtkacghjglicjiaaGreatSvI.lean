/-
  The document's Records.
-/
import Derived.Test.YtkacghjglicjiaaGreatSvB
import Derived.Test.YtkacghjglicjiaaGreatSvG
import Derived.Test.YtkacghjglicjiaaGreatSvF
namespace Go.Proofs.YtkacghjglicjiaaGreat
set_option linter.unusedVariables false
section
open Go.RowKit
theorem tw_all_true {α : Type} {p : α → Bool} : ∀ {l : List α}, ∀ x ∈ l.takeWhile p, p x = true
  | [], x, h => by simp at h
  | a :: l, x, h => by
    by_cases ha : p a = true
    · rw [List.takeWhile_cons_of_pos ha] at h
      rcases List.mem_cons.1 h with rfl | h
      · exact ha
      · exact tw_all_true x h
    · rw [List.takeWhile_cons_of_neg ha] at h
      simp at h
theorem dw_none {f : TupD} : ∀ {l : List FlD}, SrtF l → ∀ x ∈ l.dropWhile (fun x => lessT x.tup f), lessT x.tup f = false
  | [], _, x, h => by simp at h
  | a :: l, hs, x, h => by
    have hs' := List.pairwise_cons.1 hs
    by_cases ha : lessT a.tup f = true
    · rw [List.dropWhile_cons_of_pos (p := fun x : FlD => lessT x.tup f) ha] at h
      exact dw_none hs'.2 x h
    · rw [List.dropWhile_cons_of_neg (p := fun x : FlD => lessT x.tup f) ha] at h
      have ha' : lessT a.tup f = false := by simpa using ha
      rcases List.mem_cons.1 h with rfl | h
      · exact ha'
      · cases hx : lessT x.tup f
        · rfl
        · exact absurd (less_trans (hs'.1 x h) hx) ha
theorem restF_eq {f : FlD} : ∀ {l : List FlD}, SrtF l → (∀ x ∈ l, lessT x.tup f.tup = false) → restF f l = l.filter fun x => !decide (x.tup = f.tup)
  | [], _, _ => rfl
  | a :: l, hs, hn => by
    have hs' := List.pairwise_cons.1 hs
    have hrest : ∀ x ∈ l, x.tup ≠ f.tup := by
      intro x hx e
      have h1 := hs'.1 x hx
      rw [e] at h1
      rw [hn a (by simp)] at h1
      cases h1
    have hf : (l.filter fun x => !decide (x.tup = f.tup)) = l := List.filter_eq_self.2 fun x hx => by simp [hrest x hx]
    show (if a.tup = f.tup then l else a :: l) = _
    by_cases ha : a.tup = f.tup
    · rw [if_pos ha, List.filter_cons_of_neg (by simp [ha]), hf]
    · rw [if_neg ha, List.filter_cons_of_pos (by simp [ha]), hf]
theorem putFl_perm {l : List FlD} {f : FlD} (hs : SrtF l) : (putFl l f).Perm (f :: l.filter fun x => !decide (x.tup = f.tup)) := by
  have hd : SrtF (l.dropWhile fun x => lessT x.tup f.tup) := hs.sublist (List.dropWhile_sublist _)
  have h1 : (l.takeWhile fun x => lessT x.tup f.tup).filter (fun x => !decide (x.tup = f.tup)) = l.takeWhile fun x => lessT x.tup f.tup := List.filter_eq_self.2 fun x hx => by
    have := tw_all_true x hx
    have hne : x.tup ≠ f.tup := fun e => by rw [e, less_irr] at this; cases this
    simp [hne]
  have h2 : l.filter (fun x => !decide (x.tup = f.tup)) = (l.takeWhile fun x => lessT x.tup f.tup) ++ restF f (l.dropWhile fun x => lessT x.tup f.tup) := by
    rw [restF_eq hd (dw_none hs)]
    conv => lhs; rw [← List.takeWhile_append_dropWhile (p := fun x : FlD => lessT x.tup f.tup) (l := l)]
    rw [List.filter_append, h1]
  rw [h2]
  unfold putFl
  exact List.perm_middle
theorem putFl_srt {l : List FlD} {f : FlD} (hs : SrtF l) : SrtF (putFl l f) := by
  have hd : SrtF (l.dropWhile fun x => lessT x.tup f.tup) := hs.sublist (List.dropWhile_sublist _)
  have ht : SrtF (l.takeWhile fun x => lessT x.tup f.tup) := hs.sublist (List.takeWhile_sublist _)
  have hn := dw_none (f := f.tup) hs
  have hr := restF_eq hd hn
  have hrest : ∀ y ∈ restF f (l.dropWhile fun x => lessT x.tup f.tup), lessT f.tup y.tup = true := by
    intro y hy
    rw [hr] at hy
    obtain ⟨h1, h2⟩ := List.mem_filter.1 hy
    have hne : y.tup ≠ f.tup := by simpa using h2
    rcases less_or hne with h | h
    · rw [hn y h1] at h; cases h
    · exact h
  unfold putFl SrtF
  rw [List.pairwise_append]
  refine ⟨ht, ?_, ?_⟩
  · show List.Pairwise _ (f :: restF f _)
    rw [List.pairwise_cons]
    exact ⟨hrest, by rw [hr]; exact hd.sublist List.filter_sublist⟩
  · intro x hx y hy
    have h1 := tw_all_true x hx
    rcases List.mem_cons.1 hy with rfl | hy
    · exact h1
    · exact less_trans h1 (hrest y hy)
end
section
open Go.RowKit
theorem put_vals {k : TupD} {v : FlD} : ∀ {m : List (TupD × FlD)}, (m.map (·.1)).Nodup → (∀ p ∈ m, p.2.tup = p.1) → (getM m k).isSome = true →
    ((m.map fun p => if p.1 = k then (k, v) else p).map (·.2)).Perm (v :: (m.map (·.2)).filter fun x => !decide (x.tup = k))
  | [], _, _, h => by simp [getM_nil] at h
  | p :: m, hn, ho, h => by
    rw [List.map_cons, List.nodup_cons] at hn
    by_cases hp : p.1 = k
    · have hno : ∀ q ∈ m, q.1 ≠ k := fun q hq e => hn.1 (by rw [hp, ← e]; exact List.mem_map_of_mem hq)
      have e1 : (m.map fun p => if p.1 = k then (k, v) else p) = m := by
        have : (m.map fun p => if p.1 = k then (k, v) else p) = m.map id := List.map_congr_left fun q hq => by rw [if_neg (hno q hq)]; rfl
        rw [this, List.map_id]
      have e2 : ((m.map (·.2)).filter fun x => !decide (x.tup = k)) = m.map (·.2) := List.filter_eq_self.2 fun x hx => by
        obtain ⟨q, hq, rfl⟩ := List.mem_map.1 hx
        rw [ho q (by simp [hq])]
        simp [hno q hq]
      rw [List.map_cons, List.map_cons, if_pos hp, e1, List.map_cons, List.filter_cons_of_neg (by rw [ho p (by simp)]; simp [hp]), e2]
    · have h' : (getM m k).isSome = true := by rw [getM_cons, if_neg hp] at h; exact h
      have ih := put_vals (v := v) hn.2 (fun q hq => ho q (by simp [hq])) h'
      rw [List.map_cons, List.map_cons, if_neg hp, List.map_cons, List.filter_cons_of_pos (by rw [ho p (by simp)]; simp [hp])]
      exact (ih.cons p.2).trans (List.Perm.swap _ _ _)
theorem putM_vals {k : TupD} {v : FlD} {m : List (TupD × FlD)} (hn : (m.map (·.1)).Nodup) (ho : ∀ p ∈ m, p.2.tup = p.1) :
    ((putM m k v).map (·.2)).Perm (v :: (m.map (·.2)).filter fun x => !decide (x.tup = k)) := by
  unfold putM
  by_cases h : (getM m k).isSome = true
  · rw [if_pos h]
    exact put_vals hn ho h
  · rw [if_neg h]
    have hnone : getM m k = none := by simpa using h
    have e2 : ((m.map (·.2)).filter fun x => !decide (x.tup = k)) = m.map (·.2) := List.filter_eq_self.2 fun x hx => by
      obtain ⟨q, hq, rfl⟩ := List.mem_map.1 hx
      rw [ho q hq]
      simp [getM_none.1 hnone q hq]
    rw [e2, List.map_append]
    exact List.perm_append_comm
theorem delM_vals {k : TupD} : ∀ {m : List (TupD × FlD)}, (∀ p ∈ m, p.2.tup = p.1) → (delM m k).map (·.2) = (m.map (·.2)).filter fun x => !decide (x.tup = k)
  | [], _ => rfl
  | p :: m, ho => by
    have ih := delM_vals (k := k) (m := m) (fun q hq => ho q (by simp [hq]))
    have hp := ho p (by simp)
    by_cases h : p.1 = k
    · rw [show delM (p :: m) k = delM m k by unfold delM; rw [List.filter_cons_of_neg (by simp [h])], ih, List.map_cons, List.filter_cons_of_neg (by rw [hp]; simp [h])]
    · rw [show delM (p :: m) k = p :: delM m k by unfold delM; rw [List.filter_cons_of_pos (by simp [h])], List.map_cons, ih, List.map_cons, List.filter_cons_of_pos (by rw [hp]; simp [h])]
theorem put_drains {b u : Int} : ∀ {m : List (Int × Int)}, (m.map (·.1)).Nodup → (getM m b).isSome = true → (m.map fun p => if p.1 = b then (b, u) else p).Perm ((b, u) :: delM m b)
  | [], _, h => by simp [getM_nil] at h
  | p :: m, hn, h => by
    rw [List.map_cons, List.nodup_cons] at hn
    by_cases hp : p.1 = b
    · have hno : ∀ q ∈ m, q.1 ≠ b := fun q hq e => hn.1 (by rw [hp, ← e]; exact List.mem_map_of_mem hq)
      have e1 : (m.map fun p => if p.1 = b then (b, u) else p) = m := by
        have : (m.map fun p => if p.1 = b then (b, u) else p) = m.map id := List.map_congr_left fun q hq => by rw [if_neg (hno q hq)]; rfl
        rw [this, List.map_id]
      have e2 : delM (p :: m) b = m := by
        unfold delM
        rw [List.filter_cons_of_neg (by simp [hp])]
        exact List.filter_eq_self.2 fun q hq => by simp [hno q hq]
      rw [List.map_cons, if_pos hp, e1, e2]
    · have h' : (getM m b).isSome = true := by rw [getM_cons, if_neg hp] at h; exact h
      have ih := put_drains (u := u) hn.2 h'
      rw [List.map_cons, if_neg hp, show delM (p :: m) b = p :: delM m b by unfold delM; rw [List.filter_cons_of_pos (by simp [hp])]]
      exact (ih.cons p).trans (List.Perm.swap _ _ _)
theorem putM_drains {b u : Int} {m : List (Int × Int)} (hn : (m.map (·.1)).Nodup) : (putM m b u).Perm ((b, u) :: delM m b) := by
  unfold putM
  by_cases h : (getM m b).isSome = true
  · rw [if_pos h]
    exact put_drains hn h
  · rw [if_neg h, del_none (by simpa using h)]
    exact List.perm_append_comm
theorem insD_perm (l : List (Int × Int)) (b u : Int) : (insD l b u).Perm ((b, u) :: l) := by
  unfold insD
  refine List.perm_middle.trans ?_
  show ((b, u) :: (l.takeWhile (fun x => decide (x.1 < b)) ++ l.dropWhile fun x => decide (x.1 < b))).Perm _
  rw [List.takeWhile_append_dropWhile]
theorem dwD_none {b : Int} : ∀ {l : List (Int × Int)}, l.Pairwise (fun a b => a.1 < b.1) → ∀ x ∈ l.dropWhile (fun x => decide (x.1 < b)), ¬ x.1 < b
  | [], _, x, h => by simp at h
  | a :: l, hs, x, h => by
    have hs' := List.pairwise_cons.1 hs
    by_cases ha : a.1 < b
    · rw [List.dropWhile_cons_of_pos (p := fun x : Int × Int => decide (x.1 < b)) (decide_eq_true ha)] at h
      exact dwD_none hs'.2 x h
    · rw [List.dropWhile_cons_of_neg (p := fun x : Int × Int => decide (x.1 < b)) (by simp [ha])] at h
      rcases List.mem_cons.1 h with rfl | h
      · exact ha
      · have := hs'.1 x h
        omega
theorem insD_srt {l : List (Int × Int)} {b u : Int} (hs : l.Pairwise fun a b => a.1 < b.1) (hn : ∀ x ∈ l, x.1 ≠ b) : (insD l b u).Pairwise fun a b => a.1 < b.1 := by
  have hd := hs.sublist (List.dropWhile_sublist fun x : Int × Int => decide (x.1 < b))
  have ht := hs.sublist (List.takeWhile_sublist fun x : Int × Int => decide (x.1 < b))
  have hge := dwD_none (b := b) hs
  have hgt : ∀ y ∈ l.dropWhile (fun x => decide (x.1 < b)), b < y.1 := fun y hy => by
    have h1 := hge y hy
    have h2 := hn y ((List.dropWhile_sublist _).subset hy)
    omega
  unfold insD
  rw [List.pairwise_append]
  refine ⟨ht, ?_, ?_⟩
  · show List.Pairwise _ ((b, u) :: _)
    rw [List.pairwise_cons]
    exact ⟨hgt, hd⟩
  · intro x hx y hy
    have h1 : x.1 < b := of_decide_eq_true (tw_all_true (p := fun x : Int × Int => decide (x.1 < b)) x hx)
    rcases List.mem_cons.1 hy with rfl | hy
    · exact h1
    · have := hgt y hy
      omega
end
section
open Go.RowKit
def errV (V : VwD) (r : RecD) : Int :=
  if badS r = true then 1
  else if r.kind = 1 then (if atI V.flows r.tup < 0 ∧ 256 ≤ V.flows.length then 9 else 0)
  else if r.kind = 4 then (if getM V.drains r.back = none ∧ 16 ≤ V.drains.length then 9 else 0)
  else 0
def doneV (V : VwD) (r : RecD) : VwD :=
  if r.kind = 1 then { V with flows := putFl V.flows (flowR r) }
  else if r.kind = 2 then { V with flows := V.flows.filter fun x => !decide (x.tup = r.tup) }
  else if r.kind = 3 then { V with gen := r.gen, backs := r.backs }
  else if r.kind = 4 then { V with drains := insD (delM V.drains r.back) r.back r.until_ }
  else if r.kind = 5 then { V with drains := delM V.drains r.back }
  else V
def applyV (V : VwD) (r : RecD) : VwD := if errV V r = 0 then doneV V r else V
theorem view_none {S : StD} (ok : OkS S) {V : VwD} (h : IsView S V) (k : TupD) : atI V.flows k < 0 ↔ getM S.flows k = none := by
  rcases at_cases V.flows k with ⟨hat, hno⟩ | ⟨i, hi, hat, htt, _⟩
  · refine ⟨fun _ => getM_none.2 fun p hp e => ?_, fun _ => by omega⟩
    have hm : p.2 ∈ V.flows := h.fp.mem_iff.2 (List.mem_map_of_mem hp)
    exact hno _ hm (by rw [ok.own p hp, e])
  · refine ⟨fun hc => by omega, fun hc => ?_⟩
    have hf := h.flow ok (List.getElem_mem hi)
    rw [htt, hc] at hf
    cases hf
theorem view_drain {S : StD} (ok : OkS S) {V : VwD} (h : IsView S V) (b : Int) : getM V.drains b = none ↔ getM S.drains b = none := by
  rw [getM_none, getM_none]
  exact ⟨fun hc p hp => hc p (h.dp.mem_iff.2 hp), fun hc p hp => hc p (h.dp.mem_iff.1 hp)⟩
theorem view_err {S : StD} (ok : OkS S) {V : VwD} (h : IsView S V) (r : RecD) : errV V r = errS S r := by
  have hl : V.flows.length = S.flows.length := by rw [h.fp.length_eq, List.length_map]
  have hd : V.drains.length = S.drains.length := h.dp.length_eq
  have h1 := view_none ok h r.tup
  have h2 := view_drain ok h r.back
  unfold errV errS
  cases hb : badS r
  · unfold fullS
    simp only [Bool.false_eq_true, if_false]
    by_cases k1 : r.kind = 1
    · rw [if_pos k1, if_pos k1, hl]
      by_cases hn : getM S.flows r.tup = none
      · by_cases h256 : 256 ≤ S.flows.length
        · rw [if_pos ⟨h1.2 hn, h256⟩, if_pos (by rw [hn]; simp [h256])]
        · rw [if_neg (fun hc => h256 hc.2), if_neg (by rw [hn]; simp; omega)]
      · rw [if_neg (fun hc => hn (h1.1 hc.1)), if_neg (by
          cases hg : getM S.flows r.tup with
          | none => exact absurd hg hn
          | some v => simp)]
    · rw [if_neg k1, if_neg k1]
      by_cases k4 : r.kind = 4
      · rw [if_pos k4, if_pos k4, hd]
        by_cases hn : getM S.drains r.back = none
        · by_cases h16 : 16 ≤ S.drains.length
          · rw [if_pos ⟨h2.2 hn, h16⟩, if_pos (by rw [hn]; simp [h16])]
          · rw [if_neg (fun hc => h16 hc.2), if_neg (by rw [hn]; simp; omega)]
        · rw [if_neg (fun hc => hn (h2.1 hc.1)), if_neg (by
            cases hg : getM S.drains r.back with
            | none => exact absurd hg hn
            | some v => simp)]
      · rw [if_neg k4, if_neg k4]
        simp
  · rw [if_pos rfl, if_pos rfl]
theorem srt_del {l : List (Int × Int)} {b : Int} (hs : l.Pairwise fun a b => a.1 < b.1) : (delM l b).Pairwise fun a b => a.1 < b.1 := hs.sublist List.filter_sublist
theorem view_done {S : StD} (ok : OkS S) {V : VwD} (h : IsView S V) (r : RecD) : IsView (doneS S r) (doneV V r) := by
  obtain ⟨h1, h2, h3, h4, h5, h6⟩ := h
  have hdel : ∀ b, (delM V.drains b).Perm (delM S.drains b) := fun b => h3.filter _
  unfold doneS doneV
  by_cases k1 : r.kind = 1
  · rw [if_pos k1, if_pos k1]
    refine ⟨h1, h2, h3, h4, ?_, putFl_srt h6⟩
    show (putFl V.flows (flowR r)).Perm ((putM S.flows r.tup (flowR r)).map (·.2))
    exact (putFl_perm h6).trans (((h5.filter _).cons _).trans (putM_vals (k := r.tup) (v := flowR r) ok.nf ok.own).symm)
  · rw [if_neg k1, if_neg k1]
    by_cases k2 : r.kind = 2
    · rw [if_pos k2, if_pos k2]
      refine ⟨h1, h2, h3, h4, ?_, h6.sublist List.filter_sublist⟩
      show (V.flows.filter _).Perm ((delM S.flows r.tup).map (·.2))
      rw [delM_vals ok.own]
      exact h5.filter _
    · rw [if_neg k2, if_neg k2]
      by_cases k3 : r.kind = 3
      · rw [if_pos k3, if_pos k3]
        exact ⟨rfl, rfl, h3, h4, h5, h6⟩
      · rw [if_neg k3, if_neg k3]
        by_cases k4 : r.kind = 4
        · rw [if_pos k4, if_pos k4]
          refine ⟨h1, h2, ?_, insD_srt (srt_del h4) (fun x hx => ?_), h5, h6⟩
          · exact (insD_perm _ _ _).trans (((hdel r.back).cons _).trans (putM_drains ok.nd).symm)
          · have := (List.mem_filter.1 hx).2
            simpa using this
        · rw [if_neg k4, if_neg k4]
          by_cases k5 : r.kind = 5
          · rw [if_pos k5, if_pos k5]
            exact ⟨h1, h2, hdel r.back, srt_del h4, h5, h6⟩
          · rw [if_neg k5, if_neg k5]
            exact ⟨h1, h2, h3, h4, h5, h6⟩
theorem view_apply {S : StD} (ok : OkS S) {V : VwD} (h : IsView S V) (r : RecD) : errV V r = errS S r ∧ IsView (applyS S r) (applyV V r) := by
  have he := view_err ok h r
  refine ⟨he, ?_⟩
  unfold applyS applyV
  rw [he]
  by_cases h0 : errS S r = 0
  · rw [if_pos h0, if_pos h0]
    exact view_done ok h r
  · rw [if_neg h0, if_neg h0]
    exact h
end
section
open Go.RowKit Go.ChangeShapes Go.WideShapes Go.ChangeAt Go.Deep Go.MapKept
theorem rDrains_any (w : World) {p : Nat} {x : Int} {A1 A2 A3 : Option Addr} {m1 c1 m2 c2 m3 c3 : Nat} (h : Blk w p 62 #[.int .i64 x, .slice A1 m1 c1, .slice A2 m2 c2, .slice A3 m3 c3]) :
    Calls Tryz.prog 44 #[.pointer (some ⟨p, 0, none⟩)] w fun e w' => e = .returned (.pointer (some ⟨w.heap.size, 0, none⟩)) ∧ Blk w' w.heap.size 105 #[.slice A2 m2 c2] ∧ Kept [] w w' := by
  have hc := h.cell
  have hp := h.lt
  go_enter Tryz.func44, Tryz.ntmps44
  go_wp2
  go_ret
  exact ⟨rfl, Blk.new w _ _, (Kept.refl [] w).alloc _⟩
set_option maxHeartbeats 3200000 in
theorem rSameState_any (w : World) {G G' : List Nat} {A1 A2 A3 B1 B2 B3 : Option Addr} {m1 c1 m2 c2 m3 c3 n1 d1 n2 d2 n3 d3 : Nat} (V V' : VwD) (h : VA w G A1 m1 c1 A2 m2 c2 A3 m3 c3 V) (h' : VA w G' B1 n1 d1 B2 n2 d2 B3 n3 d3 V') :
    Calls Tryz.prog 17 #[.agg #[.int .i64 V.gen, .slice A1 m1 c1, .slice A2 m2 c2, .slice A3 m3 c3], .agg #[.int .i64 V'.gen, .slice B1 n1 d1, .slice B2 n2 d2, .slice B3 n3 d3]] w fun e w' => e = .returned (.bool (sameV V V')) ∧ Kept [] w w' := by
  have X0 := Lib.hid (Blk.alloc (Blk.new w 26 #[.int .i64 V.gen, .slice A1 m1 c1, .slice A2 m2 c2, .slice A3 m3 c3]) (.cells #[.int .i64 V'.gen, .slice B1 n1 d1, .slice B2 n2 d2, .slice B3 n3 d3] 26 (0, 0)))
  have Y0 := Lib.hid (show Blk ((w.alloc (.cells #[.int .i64 V.gen, .slice A1 m1 c1, .slice A2 m2 c2, .slice A3 m3 c3] 26)).alloc (.cells #[.int .i64 V'.gen, .slice B1 n1 d1, .slice B2 n2 d2, .slice B3 n3 d3] 26)) (w.heap.size + 1) 26 #[.int .i64 V'.gen, .slice B1 n1 d1, .slice B2 n2 d2, .slice B3 n3 d3] from by (repeat (first | (apply Blk.new'; simp; done) | apply Blk.alloc | apply Blk.drew)))
  have K0 := Lib.hid (((Kept.refl [] w).alloc (.cells #[.int .i64 V.gen, .slice A1 m1 c1, .slice A2 m2 c2, .slice A3 m3 c3] 26)).alloc (.cells #[.int .i64 V'.gen, .slice B1 n1 d1, .slice B2 n2 d2, .slice B3 n3 d3] 26))
  have H := Lib.hid h
  have H' := Lib.hid h'
  have Hv := Lib.hid (show sameV V V' = ((V.gen == V'.gen) && (sameBs V.backs V'.backs && (decide (V.drains = V'.drains) && decide (V.flows = V'.flows)))) from rfl)
  clear h h'
  have HA := Lib.hid (H.out.go K0.out)
  have HB := Lib.hid (H'.out.go K0.out)
  obtain ⟨b2, hb2⟩ : ∃ b, sameBs V.backs V'.backs = b := ⟨_, rfl⟩
  obtain ⟨b3, hb3⟩ : ∃ b, decide (V.drains = V'.drains) = b := ⟨_, rfl⟩
  obtain ⟨b4, hb4⟩ : ∃ b, decide (V.flows = V'.flows) = b := ⟨_, rfl⟩
  rw [hb2, hb3, hb4] at Hv
  have HB2 := Lib.hid hb2
  have HB3 := Lib.hid hb3
  have HB4 := Lib.hid hb4
  clear hb2 hb3 hb4 H H'
  go_enter Tryz.func17, Tryz.ntmps17
  have hx0 := X0.out.cell
  have hy0 := Y0.out.cell
  cases h1 : (V.gen == V'.gen)
  · have hres := Lib.hid (show sameV V V' = false by rw [Hv.out, h1]; rfl)
    go_wp2
    go_ret
    exact ⟨ret_bool hres.out.symm, K0.out⟩
  · rw [h1] at Hv
    cases b2
    · have hres := Lib.hid (show sameV V V' = false by rw [Hv.out]; rfl)
      go_wp2_with (first
        | (go_at_call 40
           refine (rSameBs_any _ _ _ HA.out.bk HB.out.bk).mono ?_
           rintro e w1 ⟨rfl, hk1⟩
           rw [HB2.out]
           have HA1 := Lib.hid (HA.out.go hk1)
           have HB1 := Lib.hid (HB.out.go hk1)
           have X1 := Lib.hid (X0.out.kept hk1 (by simp))
           have Y1 := Lib.hid (Y0.out.kept hk1 (by simp))
           have K1 := Lib.hid (K0.out.trans hk1 (by simp))
           have hx1 := X1.out.cell
           have hy1 := Y1.out.cell
           clear hk1))
      go_ret
      exact ⟨ret_bool hres.out.symm, K1.out⟩
    · cases b3
      · have hres := Lib.hid (show sameV V V' = false by rw [Hv.out]; rfl)
        go_wp2_with (first
          | (go_at_call 40
             refine (rSameBs_any _ _ _ HA.out.bk HB.out.bk).mono ?_
             rintro e w1 ⟨rfl, hk1⟩
             rw [HB2.out]
             have HA1 := Lib.hid (HA.out.go hk1)
             have HB1 := Lib.hid (HB.out.go hk1)
             have X1 := Lib.hid (X0.out.kept hk1 (by simp))
             have Y1 := Lib.hid (Y0.out.kept hk1 (by simp))
             have K1 := Lib.hid (K0.out.trans hk1 (by simp))
             have hx1 := X1.out.cell
             have hy1 := Y1.out.cell
             clear hk1)
          | (go_at_call 41
             refine (rSameD_any _ _ _ HA1.out.dr HB1.out.dr).mono ?_
             rintro e w2 ⟨rfl, hk2⟩
             rw [HB3.out]
             have HA2 := Lib.hid (HA1.out.go hk2)
             have HB2 := Lib.hid (HB1.out.go hk2)
             have X2 := Lib.hid (X1.out.kept hk2 (by simp))
             have Y2 := Lib.hid (Y1.out.kept hk2 (by simp))
             have K2 := Lib.hid (K1.out.trans hk2 (by simp))
             have hx2 := X2.out.cell
             have hy2 := Y2.out.cell
             clear hk2))
        go_ret
        exact ⟨ret_bool hres.out.symm, K2.out⟩
      · have hres := Lib.hid (show sameV V V' = b4 by rw [Hv.out]; rfl)
        go_wp2_with (first
          | (go_at_call 40
             refine (rSameBs_any _ _ _ HA.out.bk HB.out.bk).mono ?_
             rintro e w1 ⟨rfl, hk1⟩
             rw [HB2.out]
             have HA1 := Lib.hid (HA.out.go hk1)
             have HB1 := Lib.hid (HB.out.go hk1)
             have X1 := Lib.hid (X0.out.kept hk1 (by simp))
             have Y1 := Lib.hid (Y0.out.kept hk1 (by simp))
             have K1 := Lib.hid (K0.out.trans hk1 (by simp))
             have hx1 := X1.out.cell
             have hy1 := Y1.out.cell
             clear hk1)
          | (go_at_call 41
             refine (rSameD_any _ _ _ HA1.out.dr HB1.out.dr).mono ?_
             rintro e w2 ⟨rfl, hk2⟩
             rw [HB3.out]
             have HA2 := Lib.hid (HA1.out.go hk2)
             have HB2 := Lib.hid (HB1.out.go hk2)
             have X2 := Lib.hid (X1.out.kept hk2 (by simp))
             have Y2 := Lib.hid (Y1.out.kept hk2 (by simp))
             have K2 := Lib.hid (K1.out.trans hk2 (by simp))
             have hx2 := X2.out.cell
             have hy2 := Y2.out.cell
             clear hk2)
          | (go_at_call 42
             refine (rSameF_any _ _ _ HA2.out.fl HB2.out.fl).mono ?_
             rintro e w3 ⟨rfl, hk3⟩
             rw [HB4.out]
             have HA3 := Lib.hid (HA2.out.go hk3)
             have HB3 := Lib.hid (HB2.out.go hk3)
             have X3 := Lib.hid (X2.out.kept hk3 (by simp))
             have Y3 := Lib.hid (Y2.out.kept hk3 (by simp))
             have K3 := Lib.hid (K2.out.trans hk3 (by simp))
             have hx3 := X3.out.cell
             have hy3 := Y3.out.cell
             clear hk3))
        go_ret
        exact ⟨ret_bool hres.out.symm, K3.out⟩
end
section
open Go.RowKit Go.ChangeShapes Go.WideShapes Go.ChangeAt Go.Deep Go.MapKept
def RecU (G0 : List Nat) (W w : World) (v : Value) (l : List RecD) : Prop := ∃ css G, LVx RecDec 43 14 W w v l css G ∧ ∀ k ∈ G, k ∈ G0
theorem RecU.v {G0 : List Nat} {W w : World} {v : Value} {l : List RecD} (h : RecU G0 W w v l) : RecV W w v l := by obtain ⟨css, G, hx, _⟩ := h; exact ⟨css, G, hx⟩
theorem RecU.go {G0 : List Nat} {W w w' : World} {v : Value} {l : List RecD} (h : RecU G0 W w v l) (hk : Kept [] w w') : RecU G0 W w' v l := by obtain ⟨css, G, hx, hg⟩ := h; exact ⟨css, G, hx.go RecOk hk, hg⟩
theorem RecU.kept {G0 : List Nat} {W w : World} {v : Value} {l : List RecD} (h : RecU G0 W w v l) : Kept [] W w := LV.kept h.v
theorem RecU.arr {G0 : List Nat} {W w : World} {v : Value} {l : List RecD} (h : RecU G0 W w v l) : ∃ G, RecArr w G v l ∧ ∀ k ∈ G, k < w.heap.size ∧ (k ∈ G0 ∨ W.heap.size ≤ k) := by
  obtain ⟨css, G, hx, hg⟩ := h
  refine ⟨_, hx.arr RecOk, fun k hk => ⟨hx.lt k hk, ?_⟩⟩
  rcases List.mem_append.1 hk with hk | hk
  · exact .inl (hg k hk)
  · exact .inr (hx.new k hk)
set_option maxRecDepth 100000 in
theorem wpList_recv {G0 : List Nat} {ops : Array Oper} {rest : List Oper} {o : Oper} {a : Act} {Q : Exit → Act → World → Prop} {w0 : World} (hgd : o.guard = none) (s x : Operand)
    (ho : o.op = .call { callee := .builtin .append, args := #[s, x], argTypes := #[27, 27] }) {W : World} {sl : Value} {l : List RecD} {r : RecD}
    {g : Nat} (hs : a.eval s = sl) (hN : RecU G0 W w0 sl l) (hx : a.eval x = .slice (some ⟨g, 0, none⟩) 1 1) (hb : Blk w0 g 43 #[.int .i64 r.kind, .int .u32 (r.tup.src.toNat : Nat), .int .u32 (r.tup.dst.toNat : Nat), .int .i64 r.tup.proto, .int .i64 r.tup.sport, .int .i64 r.tup.dport, .int .i64 r.fb, .int .i64 r.fg, .int .i64 r.fs, .int .i64 r.gen, .slice none 0 0, .int .i64 r.back, .int .i64 r.until_, .int .i64 r.count]) (hr : r.backs = []) (hl : l.length ≤ 100000)
    (h : ∀ A m c w', RecU G0 W w' (.slice A m c) (l ++ [r]) → Kept (rowOf sl) w0 w' → (∀ k ∈ rowOf sl, W.heap.size ≤ k ∧ k < w0.heap.size) → wpList Tryz.prog ops Q rest (a.put o.dst (.slice A m c)) w') : wpList Tryz.prog ops Q (o :: rest) a w0 := by
  obtain ⟨css, G, h1, hg0⟩ := hN
  have hD : Decs RecDec w0 [] [[.int .i64 r.kind, .int .u32 (r.tup.src.toNat : Nat), .int .u32 (r.tup.dst.toNat : Nat), .int .i64 r.tup.proto, .int .i64 r.tup.sport, .int .i64 r.tup.dport, .int .i64 r.fb, .int .i64 r.fg, .int .i64 r.fs, .int .i64 r.gen, .slice none 0 0, .int .i64 r.back, .int .i64 r.until_, .int .i64 r.count]] [r] := Decs.one' ⟨none, 0, 0, rfl, by rw [hr]; exact BkArr.nil' _ _⟩
  have hrd : Rd w0 (some ⟨g, 0, none⟩) ([[.int .i64 r.kind, .int .u32 (r.tup.src.toNat : Nat), .int .u32 (r.tup.dst.toNat : Nat), .int .i64 r.tup.proto, .int .i64 r.tup.sport, .int .i64 r.tup.dport, .int .i64 r.fb, .int .i64 r.fg, .int .i64 r.fs, .int .i64 r.gen, .slice none 0 0, .int .i64 r.back, .int .i64 r.until_, .int .i64 r.count]].flatten) := fun hne => ⟨g, 0, rfl, fun j u hu => by
    rw [Nat.zero_add, hb.cell j]
    simpa using hu⟩
  refine wpList_app _ hgd s x 27 ho elem_record hs h1.own hx hrd rfl (hD.ones RecOk) (by unfold maxLen; omega) (by omega) (fun v' w' ho' hk hr' => ?_)
  have hx := LVx.app RecOk h1 (Kept.refl [] w0) hD (by simp) ho' (by simp) (by simp) hk hr'
  obtain ⟨A, m, c, rfl⟩ := Own.form' ho'
  exact h A m c w' ⟨_, _, hx, fun k hk' => by rcases List.mem_append.1 hk' with h9 | h9; exact hg0 k h9; simp at h9⟩ hk (fun k hk => ⟨h1.new k hk, h1.own.lt k hk⟩)
set_option maxRecDepth 100000 in
theorem RecU.one {W w : World} {g : Nat} {r : RecD} {G : List Nat} {A : Option Addr} {m c : Nat} (hb : Blk w g 43 #[.int .i64 r.kind, .int .u32 (r.tup.src.toNat : Nat), .int .u32 (r.tup.dst.toNat : Nat), .int .i64 r.tup.proto, .int .i64 r.tup.sport, .int .i64 r.tup.dport, .int .i64 r.fb, .int .i64 r.fg, .int .i64 r.fs, .int .i64 r.gen, .slice A m c, .int .i64 r.back, .int .i64 r.until_, .int .i64 r.count]) (hk : Kept [] W w) (hg : W.heap.size ≤ g) (hr : BkArr w G (.slice A m c) r.backs) (hG : ∀ k ∈ G, k < W.heap.size) : RecU G W w (.slice (some ⟨g, 0, none⟩) 1 1) [r] := by
  have hsz := hk.size
  refine ⟨[[.int .i64 r.kind, .int .u32 (r.tup.src.toNat : Nat), .int .u32 (r.tup.dst.toNat : Nat), .int .i64 r.tup.proto, .int .i64 r.tup.sport, .int .i64 r.tup.dport, .int .i64 r.fb, .int .i64 r.fg, .int .i64 r.fs, .int .i64 r.gen, .slice A m c, .int .i64 r.back, .int .i64 r.until_, .int .i64 r.count]], G, ⟨own_blk hb rfl, fun k hk' => by simp [rowOf, Value.ownBlock] at hk'; omega, Decs.one' ⟨A, m, c, rfl, hr⟩, fun k hk' => ⟨fun hm => ?_, Nat.lt_of_lt_of_le (hG k hk') hsz⟩, hk⟩, fun k hk' => hk'⟩
  simp [rowOf, Value.ownBlock] at hm
  have := hG k hk'
  omega
set_option maxRecDepth 100000 in
set_option maxHeartbeats 3200000 in
theorem rRecs_g (w : World) {G : List Nat} {A1 A2 A3 : Option Addr} {m1 c1 m2 c2 m3 c3 : Nat} (V : VwD) (h : VA w G A1 m1 c1 A2 m2 c2 A3 m3 c3 V) (hd : V.drains.length ≤ 1000) (hf : V.flows.length ≤ 1000) :
    Calls Tryz.prog 25 #[.agg #[.int .i64 V.gen, .slice A1 m1 c1, .slice A2 m2 c2, .slice A3 m3 c3]] w fun e w' => ∃ A m c, e = .returned (.slice A m c) ∧ RecU G w w' (.slice A m c) (recsV V) := by
  have L1 := Lib.hid h.bk.len
  have L2 := Lib.hid h.dr.len
  have L3 := Lib.hid h.fl.len
  have H := Lib.hid h
  have hm2 : m2 ≤ 1000 := by rw [← h.dr.len.1]; exact hd
  have hm3 : m3 ≤ 1000 := by rw [← h.fl.len.1]; exact hf
  clear h hd hf
  have X0 := Lib.hid (Blk.new w 26 #[.int .i64 V.gen, .slice A1 m1 c1, .slice A2 m2 c2, .slice A3 m3 c3])
  have K0 := Lib.hid ((Kept.refl [] w).alloc (.cells #[.int .i64 V.gen, .slice A1 m1 c1, .slice A2 m2 c2, .slice A3 m3 c3] 26))
  go_enter Tryz.func25, Tryz.ntmps25
  go_upto_region 1 with fail
  obtain ⟨w8, hw8⟩ : ∃ w8, w.alloc (.cells #[.int .i64 V.gen, .slice A1 m1 c1, .slice A2 m2 c2, .slice A3 m3 c3] 26) = w8 := ⟨_, rfl⟩
  have hsa : w.heap.size < w8.heap.size := by rw [← hw8]; simp
  rw [hw8] at X0 K0
  simp only [hw8]
  clear hw8
  have hx0 := X0.out.cell
  have R9 := Lib.hid (show RecU G w (w8.alloc (.cells #[.int .i64 (rGv V).kind, .int .u32 ((rGv V).tup.src.toNat : Nat), .int .u32 ((rGv V).tup.dst.toNat : Nat), .int .i64 (rGv V).tup.proto, .int .i64 (rGv V).tup.sport, .int .i64 (rGv V).tup.dport, .int .i64 (rGv V).fb, .int .i64 (rGv V).fg, .int .i64 (rGv V).fs, .int .i64 (rGv V).gen, .slice A1 m1 c1, .int .i64 (rGv V).back, .int .i64 (rGv V).until_, .int .i64 (rGv V).count] 43)) (.slice (some ⟨w8.heap.size, 0, none⟩) 1 1) [rGv V] from
    RecU.one (G := G) (Blk.new w8 _ _) (K0.out.alloc _) (by omega) (BkArr.kept (BkArr.kept H.out.bk K0.out (by simp)) ((Kept.refl [] w8).alloc _) (by simp)) H.out.lt)
  have X9 := Lib.hid (show Blk (w8.alloc (.cells #[.int .i64 (rGv V).kind, .int .u32 ((rGv V).tup.src.toNat : Nat), .int .u32 ((rGv V).tup.dst.toNat : Nat), .int .i64 (rGv V).tup.proto, .int .i64 (rGv V).tup.sport, .int .i64 (rGv V).tup.dport, .int .i64 (rGv V).fb, .int .i64 (rGv V).fg, .int .i64 (rGv V).fs, .int .i64 (rGv V).gen, .slice A1 m1 c1, .int .i64 (rGv V).back, .int .i64 (rGv V).until_, .int .i64 (rGv V).count] 43)) w.heap.size 26 #[.int .i64 V.gen, .slice A1 m1 c1, .slice A2 m2 c2, .slice A3 m3 c3] from X0.out.alloc _)
  have hx9' := X9.out.cell
  go_wp2
  obtain ⟨w9, hw9⟩ : ∃ w9, w8.alloc (.cells #[.int .i64 (rGv V).kind, .int .u32 ((rGv V).tup.src.toNat : Nat), .int .u32 ((rGv V).tup.dst.toNat : Nat), .int .i64 (rGv V).tup.proto, .int .i64 (rGv V).tup.sport, .int .i64 (rGv V).tup.dport, .int .i64 (rGv V).fb, .int .i64 (rGv V).fg, .int .i64 (rGv V).fs, .int .i64 (rGv V).gen, .slice A1 m1 c1, .int .i64 (rGv V).back, .int .i64 (rGv V).until_, .int .i64 (rGv V).count] 43) = w9 := ⟨_, rfl⟩
  have hw9' : w8.alloc (.cells #[.int .i64 3, .int .u32 0, .int .u32 0, .int .i64 0, .int .i64 0, .int .i64 0, .int .i64 0, .int .i64 0, .int .i64 0, .int .i64 V.gen, .slice A1 m1 c1, .int .i64 0, .int .i64 0, .int .i64 0] 43) = w9 := hw9
  rw [hw9] at R9 X9
  clear hx9'
  simp only [hw9']
  clear hw9 hw9' hx0 X0 K0
  go_loopg [3, 17] m2 (fun gg s i wr => ∃ (j : Nat) (A : Option Addr) (m c : Nat), j ≤ m2 ∧ gg = m2 - j ∧ s = .slice A m c ∧ i = .int .i64 j ∧ RecU G w wr (.slice A m c) ([rGv V] ++ (V.drains.take j).map rDr) ∧ Blk wr w.heap.size 26 #[.int .i64 V.gen, .slice A1 m1 c1, .slice A2 m2 c2, .slice A3 m3 c3])
  case atStart => exact ⟨0, _, _, _, by omega, by omega, rfl, rfl, by simpa using R9.out, X9.out⟩
  case round =>
    obtain ⟨j, Aj, mj, cj, hj, rfl, rfl, rfl, hR, hX⟩ := hrel
    have HR := Lib.hid hR
    have HX := Lib.hid hX
    clear hR hX
    by_cases hlt : j < m2
    · have hkl : j < V.drains.length := by rw [L2.out.1]; exact hlt
      obtain ⟨g, o, rfl, hg, hgG, c0, c1⟩ := ( (H.out.go (HR.out.kept)).dr).at (k := j) hkl
      have Htk := Lib.hid (show V.drains.take (j + 1) = V.drains.take j ++ [V.drains[j]] by rw [List.take_add_one, List.getElem?_eq_getElem hkl]; rfl)
      have hll : ([rGv V] ++ (V.drains.take j).map rDr).length ≤ 100000 := by
        have h1 := L2.out.1
        have h2 := L3.out.1
        simp
        omega
      generalize V.drains[j]'hkl = x at *
      have i0 : (0 : Int) ≤ (j : Int) := by omega
      have i1 : (j : Int) < (m2 : Int) := by omega
      have iw : IntKind.i64.wrap ((j : Int) + 1) = (j : Int) + 1 := IntWalk.i64_in _ (by omega)
      go_wp2_with (first
        | (((with_reducible show wpList _ _ _ ({ dst := none, op := Op.store 118 (.tmp 5) (.tmp 20), type := _, pos := _, after := _, guard := _ } :: _) _ _); refine wpList_put (t := 118) rfl 118 (.tmp 5) (.tmp 20) rfl _ (by rfl) (by rfl) (by (repeat (first | (apply Blk.new'; simp; done) | apply Blk.alloc | apply Blk.drew))) (by rfl) (by kernel_rfl) (by simp [Value.oneCell']) ?_; intro w5 hb5 hk5; have Hb5 := Lib.hid hb5; have Hk5 := Lib.hid hk5; clear hb5 hk5)
           have K5 := Lib.hid (((Kept.refl [] wr).alloc _).trans Hk5.out (fun i hi => .inr (by simp at hi; omega)))
           have hx5 := Hb5.out.cell)
        | (at_builtin
           have hk6 : Kept [] wr (w5.alloc (.cells #[.int .i64 (rDr x).kind, .int .u32 ((rDr x).tup.src.toNat : Nat), .int .u32 ((rDr x).tup.dst.toNat : Nat), .int .i64 (rDr x).tup.proto, .int .i64 (rDr x).tup.sport, .int .i64 (rDr x).tup.dport, .int .i64 (rDr x).fb, .int .i64 (rDr x).fg, .int .i64 (rDr x).fs, .int .i64 (rDr x).gen, .slice none 0 0, .int .i64 (rDr x).back, .int .i64 (rDr x).until_, .int .i64 (rDr x).count] 43)) := K5.out.alloc _
           have hN7 := HR.out.go hk6
           apply wpList_recv (r := rDr x) rfl (.tmp 21) (.tmp 27) rfl
           case hs => exact rfl
           case hN => exact hN7
           case hx => exact rfl
           case hb => exact Blk.new _ _ _
           case hr => exact rfl
           case hl => exact hll
           intro A7 m7 c7 w7 hR7 hk7 hn7
           have R7 := Lib.hid hR7
           have q1 := HX.out.kept hk6 (by simp)
           obtain ⟨css, Gs, hy, _⟩ := hN7
           have q2 := hy.own.ne_blk q1 (by decide)
           have X7 := Lib.hid (q1.kept hk7 q2)
           clear hR7 hk7 hn7 hk6 q1 q2 hy))
      go_roundg (m2 - (j + 1))
      case measure => omega
      case rel => exact ⟨j + 1, _, _, _, by omega, rfl, rfl, by go_num, by rw [Htk.out, List.map_append, ← List.append_assoc]; exact R7.out, X7.out⟩
    · obtain rfl : m2 = j := by omega
      have i1 : ¬ (m2 : Int) < (m2 : Int) := by omega
      have RE := Lib.hid (show RecU G w wr (.slice Aj mj cj) ([rGv V] ++ V.drains.map rDr) by
        have := HR.out
        rwa [List.take_of_length_le (by rw [L2.out.1]; omega)] at this)
      have hxe := HX.out.cell
      go_wp2
      go_loopg [3, 33] m3 (fun gg s i wr => ∃ (j : Nat) (A : Option Addr) (m c : Nat), j ≤ m3 ∧ gg = m3 - j ∧ s = .slice A m c ∧ i = .int .i64 j ∧ RecU G w wr (.slice A m c) (([rGv V] ++ V.drains.map rDr) ++ (V.flows.take j).map rFl) ∧ Blk wr w.heap.size 26 #[.int .i64 V.gen, .slice A1 m1 c1, .slice A2 m2 c2, .slice A3 m3 c3])
      case atStart => exact ⟨0, _, _, _, by omega, by omega, rfl, rfl, by simpa using RE.out, HX.out⟩
      case round =>
        obtain ⟨j, Aj, mj, cj, hj, rfl, rfl, rfl, hR, hX⟩ := hrel
        have HR := Lib.hid hR
        have HX := Lib.hid hX
        clear hR hX
        by_cases hlt : j < m3
        · have hkl : j < V.flows.length := by rw [L3.out.1]; exact hlt
          obtain ⟨g, o, rfl, hg, hgG, c0, c1, c2, c3, c4, c5, c6, c7⟩ := ( (H.out.go (HR.out.kept)).fl).at (k := j) hkl
          have Htk := Lib.hid (show V.flows.take (j + 1) = V.flows.take j ++ [V.flows[j]] by rw [List.take_add_one, List.getElem?_eq_getElem hkl]; rfl)
          have hll : (([rGv V] ++ V.drains.map rDr) ++ (V.flows.take j).map rFl).length ≤ 100000 := by
            have h1 := L2.out.1
            have h2 := L3.out.1
            simp
            omega
          generalize V.flows[j]'hkl = x at *
          have i0 : (0 : Int) ≤ (j : Int) := by omega
          have i1 : (j : Int) < (m3 : Int) := by omega
          have iw : IntKind.i64.wrap ((j : Int) + 1) = (j : Int) + 1 := IntWalk.i64_in _ (by omega)
          go_wp2_with (first
            | (((with_reducible show wpList _ _ _ ({ dst := none, op := Op.store 41 (.tmp 7) (.tmp 36), type := _, pos := _, after := _, guard := _ } :: _) _ _); refine wpList_put (t := 41) rfl 41 (.tmp 7) (.tmp 36) rfl _ (by rfl) (by rfl) (by (repeat (first | (apply Blk.new'; simp; done) | apply Blk.alloc | apply Blk.drew))) (by rfl) (by kernel_rfl) (by simp [Value.oneCell']) ?_; intro w5 hb5 hk5; have Hb5 := Lib.hid hb5; have Hk5 := Lib.hid hk5; clear hb5 hk5)
               have K5 := Lib.hid (((Kept.refl [] wr).alloc _).trans Hk5.out (fun i hi => .inr (by simp at hi; omega)))
               have hx5 := Hb5.out.cell)
            | (at_builtin
               have hk6 : Kept [] wr (w5.alloc (.cells #[.int .i64 (rFl x).kind, .int .u32 ((rFl x).tup.src.toNat : Nat), .int .u32 ((rFl x).tup.dst.toNat : Nat), .int .i64 (rFl x).tup.proto, .int .i64 (rFl x).tup.sport, .int .i64 (rFl x).tup.dport, .int .i64 (rFl x).fb, .int .i64 (rFl x).fg, .int .i64 (rFl x).fs, .int .i64 (rFl x).gen, .slice none 0 0, .int .i64 (rFl x).back, .int .i64 (rFl x).until_, .int .i64 (rFl x).count] 43)) := K5.out.alloc _
               have hN7 := HR.out.go hk6
               apply wpList_recv (r := rFl x) rfl (.tmp 37) (.tmp 40) rfl
               case hs => exact rfl
               case hN => exact hN7
               case hx => exact rfl
               case hb => exact Blk.new _ _ _
               case hr => exact rfl
               case hl => exact hll
               intro A7 m7 c7 w7 hR7 hk7 hn7
               have R7 := Lib.hid hR7
               have q1 := HX.out.kept hk6 (by simp)
               obtain ⟨css, Gs, hy, _⟩ := hN7
               have q2 := hy.own.ne_blk q1 (by decide)
               have X7 := Lib.hid (q1.kept hk7 q2)
               clear hR7 hk7 hn7 hk6 q1 q2 hy))
          go_roundg (m3 - (j + 1))
          case measure => omega
          case rel => exact ⟨j + 1, _, _, _, by omega, rfl, rfl, by go_num, by rw [Htk.out, List.map_append, ← List.append_assoc]; exact R7.out, X7.out⟩
        · obtain rfl : m3 = j := by omega
          have i1 : ¬ (m3 : Int) < (m3 : Int) := by omega
          have RE := Lib.hid (show RecU G w wr (.slice Aj mj cj) (([rGv V] ++ V.drains.map rDr) ++ V.flows.map rFl) by
            have := HR.out
            rwa [List.take_of_length_le (by rw [L3.out.1]; omega)] at this)
          have hxe := HX.out.cell
          go_wp2
          go_ret
          exact ⟨_, _, _, rfl, by have := RE.out; rw [List.append_assoc] at this; exact this⟩
end
end Go.Proofs.YtkacghjglicjiaaGreat
