
/-
  Maps as rows of entries: what a look-up, a store, a deletion, a range do. No function of the program stands here.
-/
import Derived.Test.YthdjdfdefibepaaBase
import Derived.Maps.RangeWalk
import Derived.Maps.OwnSet
namespace Go.Proofs.Ythdjdfdefibepaa
open Go.RowKit Go.ChangeMaps Go.MapKept
set_option linter.unusedVariables false

/-- what a map asks of its keys -/
structure KeyFam (P : Program) (k : TypeId) {κ : Type} (ek : κ → Value) : Prop where
  inj : ∀ {a b : κ}, ek a = ek b → a = b
  check : ∀ (w : World) (em : Bool) (x : κ), (Instr.checkKey em 10000 k (ek x)).run P w = .ok () w
  find : ∀ (w : World) (x : κ) (es : List MapEntry), (∀ e ∈ es, ∃ y, e.key = ek y) →
    ((Instr.findKey k (ek x) es).run P w = .ok none w ∧ ∀ e ∈ es, e.key ≠ ek x) ∨ ∃ j e, (Instr.findKey k (ek x) es).run P w = .ok (some (j, e.val)) w ∧ es[j]? = some e ∧ e.key = ek x
  stays : ∀ (w : World) (x : κ), (Instr.keyThatStays (ek x) (ek x)).run P w = .ok (ek x) w
theorem KeyFam.plain {P : Program} {k : TypeId} {κ : Type} {ek : κ → Value} {d : TypeDesc} (hk : P.underlying k = some d) (hd : ∀ x, IsKey d (ek x)) (hi : ∀ {a b : κ}, ek a = ek b → a = b) : KeyFam P k ek where
  inj := hi
  check w em x := run_checkKey hk (hd x) em 9999
  stays w x := run_keyThatStays (hd x)
  find w x es hes := by
    rcases findNow_spec (hd x) es 0 (fun e he => by obtain ⟨y, hy⟩ := hes e he; rw [hy]; exact hd y) with ⟨h1, h2⟩ | ⟨j, e0, h1, h2, h3⟩
    · exact Or.inl ⟨run_findKey hk h1, h2⟩
    · exact Or.inr ⟨j, e0, by simpa using run_findKey hk h1, h2, h3⟩

section
variable {κ ν : Type} [DecidableEq κ]
/-- of a row of keys and elements: what stands at a key; without it; with it -/
def getM (m : List (κ × ν)) (x : κ) : Option ν := (m.find? fun p => decide (p.1 = x)).map (·.2)
def delM (m : List (κ × ν)) (x : κ) : List (κ × ν) := m.filter fun p => !decide (p.1 = x)
def putM (m : List (κ × ν)) (x : κ) (v : ν) : List (κ × ν) := if (getM m x).isSome then m.map (fun p => if p.1 = x then (x, v) else p) else m ++ [(x, v)]
theorem getM_nil (x : κ) : getM ([] : List (κ × ν)) x = none := rfl
theorem getM_cons (p : κ × ν) (m : List (κ × ν)) (x : κ) : getM (p :: m) x = if p.1 = x then some p.2 else getM m x := by
  unfold getM
  rw [List.find?_cons]
  by_cases h : p.1 = x
  · rw [if_pos h, decide_eq_true h]; rfl
  · rw [if_neg h, decide_eq_false h]
theorem getM_none {m : List (κ × ν)} {x : κ} : getM m x = none ↔ ∀ p ∈ m, p.1 ≠ x := by unfold getM; simp
theorem getM_mem {m : List (κ × ν)} {x : κ} {v : ν} (h : getM m x = some v) : (x, v) ∈ m := by
  unfold getM at h
  rw [Option.map_eq_some_iff] at h
  obtain ⟨p, hp, rfl⟩ := h
  have h1 := List.mem_of_find?_eq_some hp
  have h2 := List.find?_some hp
  obtain rfl : p.1 = x := by simpa using h2
  exact h1
theorem getM_of_mem {m : List (κ × ν)} (hn : (m.map (·.1)).Nodup) {x : κ} {v : ν} (h : (x, v) ∈ m) : getM m x = some v := by
  induction m with
  | nil => cases h
  | cons p m ih =>
    rw [getM_cons]
    rw [List.map_cons, List.nodup_cons] at hn
    rcases List.mem_cons.1 h with rfl | h
    · rw [if_pos rfl]
    · rw [if_neg (fun e => hn.1 (by rw [e]; exact List.mem_map.2 ⟨_, h, rfl⟩))]
      exact ih hn.2 h
theorem getM_append (m n : List (κ × ν)) (x : κ) : getM (m ++ n) x = (getM m x).or (getM n x) := by
  induction m with
  | nil => rfl
  | cons p m ih => rw [List.cons_append, getM_cons, getM_cons, ih]; split <;> rfl
theorem getM_put (m : List (κ × ν)) (x : κ) (v : ν) (y : κ) : getM (putM m x v) y = if x = y then some v else getM m y := by
  unfold putM
  split
  · rename_i h
    induction m with
    | nil => cases h
    | cons p m ih =>
      rw [List.map_cons, getM_cons, getM_cons]
      rw [getM_cons] at h
      by_cases hp : p.1 = x
      · rw [if_pos hp]
        by_cases hy : x = y
        · rw [if_pos hy, if_pos hy]
        · rw [if_neg hy, if_neg hy, if_neg (fun e => hy (hp.symm.trans e))]
          clear ih h
          induction m with
          | nil => rfl
          | cons q m ih =>
            rw [List.map_cons, getM_cons, getM_cons, ih]
            by_cases hq : q.1 = x
            · rw [if_pos hq, if_neg hy, if_neg (fun e => hy (hq.symm.trans e))]
            · rw [if_neg hq]
      · rw [if_neg hp] at h ⊢
        rw [ih h]
        by_cases hy : p.1 = y
        · rw [if_pos hy, if_pos hy, if_neg (fun e => hp (hy.trans e.symm))]
        · rw [if_neg hy, if_neg hy]
  · rename_i h
    have h : getM m x = none := by simpa using h
    rw [getM_append, getM_cons, getM_nil]
    by_cases hy : x = y
    · subst hy; rw [if_pos rfl, if_pos rfl, h]; rfl
    · rw [if_neg hy, if_neg hy]; simp
theorem getM_del (m : List (κ × ν)) (x y : κ) : getM (delM m x) y = if x = y then none else getM m y := by
  unfold delM
  induction m with
  | nil => rw [List.filter_nil, getM_nil]; split <;> rfl
  | cons p m ih =>
    rw [List.filter_cons]
    by_cases hp : p.1 = x
    · rw [if_neg (by simp [hp]), ih, getM_cons]
      by_cases hy : x = y
      · rw [if_pos hy, if_pos hy]
      · rw [if_neg hy, if_neg hy, if_neg (fun e => hy (hp.symm.trans e))]
    · rw [if_pos (by simp [hp]), getM_cons, ih, getM_cons]
      by_cases hy : x = y
      · rw [if_pos hy, if_neg (fun e => hp (e.trans hy.symm)), if_pos hy]
      · rw [if_neg hy, if_neg hy]
theorem put_keys (m : List (κ × ν)) (x : κ) (v : ν) : (putM m x v).map (·.1) = if (getM m x).isSome then m.map (·.1) else m.map (·.1) ++ [x] := by
  unfold putM
  split
  · rw [List.map_map]
    apply List.map_congr_left
    intro p _
    show (if p.1 = x then (x, v) else p).1 = p.1
    split
    · rename_i h; exact h.symm
    · rfl
  · simp
theorem put_nodup {m : List (κ × ν)} (hn : (m.map (·.1)).Nodup) (x : κ) (v : ν) : ((putM m x v).map (·.1)).Nodup := by
  rw [put_keys]
  split
  · exact hn
  · rename_i h
    have h : getM m x = none := by simpa using h
    rw [getM_none] at h
    rw [List.nodup_append]
    refine ⟨hn, by simp, fun a ha b hb => ?_⟩
    obtain ⟨p, hp, rfl⟩ := List.mem_map.1 ha
    obtain rfl : b = x := by simpa using hb
    exact h p hp
theorem del_nodup {m : List (κ × ν)} (hn : (m.map (·.1)).Nodup) (x : κ) : ((delM m x).map (·.1)).Nodup := hn.sublist (List.filter_sublist.map _)
theorem put_len (m : List (κ × ν)) (x : κ) (v : ν) : (putM m x v).length = if (getM m x).isSome then m.length else m.length + 1 := by
  unfold putM
  split <;> simp
theorem del_len_le (m : List (κ × ν)) (x : κ) : (delM m x).length ≤ m.length := List.length_filter_le _ _
theorem put_set {m : List (κ × ν)} (hn : (m.map (·.1)).Nodup) {j : Nat} {x : κ} {v0 v : ν} (hj : m[j]? = some (x, v0)) : putM m x v = m.set j (x, v) := by
  have hs : getM m x = some v0 := getM_of_mem hn (List.mem_of_getElem? hj)
  unfold putM
  rw [hs, Option.isSome_some, if_pos rfl]
  apply List.ext_getElem?
  intro i
  rw [List.getElem?_map, List.getElem?_set]
  by_cases hi : j = i
  · subst hi
    have hlt := (List.getElem?_eq_some_iff.1 hj).1
    rw [hj, if_pos rfl, if_pos hlt]; simp
  · rw [if_neg hi]
    cases hm : m[i]? with
    | none => rfl
    | some p =>
      have : p.1 ≠ x := by
        intro e
        have hj' : (m.map (·.1))[j]? = some x := by rw [List.getElem?_map, hj]; rfl
        have hi' : (m.map (·.1))[i]? = some x := by rw [List.getElem?_map, hm, ← e]; rfl
        obtain ⟨h1, h2⟩ := List.getElem?_eq_some_iff.1 hj'
        obtain ⟨h3, h4⟩ := List.getElem?_eq_some_iff.1 hi'
        exact hi ((List.getElem_inj hn).1 (h2.trans h4.symm))
      simp [this]
theorem del_erase {m : List (κ × ν)} (hn : (m.map (·.1)).Nodup) {j : Nat} {x : κ} {v0 : ν} (hj : m[j]? = some (x, v0)) : delM m x = m.eraseIdx j := by
  induction m generalizing j with
  | nil => simp at hj
  | cons p m ih =>
    rw [List.map_cons, List.nodup_cons] at hn
    unfold delM
    rw [List.filter_cons]
    cases j with
    | zero =>
      have hp : p = (x, v0) := by simpa using hj
      subst hp
      rw [if_neg (by simp), List.eraseIdx_cons_zero]
      refine List.filter_eq_self.2 fun q hq => ?_
      have : q.1 ≠ x := fun e => hn.1 (List.mem_map.2 ⟨q, hq, e⟩)
      simp [this]
    | succ j =>
      have hj' : m[j]? = some (x, v0) := by simpa using hj
      have hne : p.1 ≠ x := fun e => hn.1 (List.mem_map.2 ⟨(x, v0), List.mem_of_getElem? hj', e.symm⟩)
      rw [if_pos (by simp [hne]), List.eraseIdx_cons_succ]
      congr 1
      exact ih hn.2 hj'
theorem del_none {m : List (κ × ν)} {x : κ} (h : getM m x = none) : delM m x = m := by
  rw [getM_none] at h
  refine List.filter_eq_self.2 fun q hq => ?_
  simp [h q hq]
end

theorem erase_map {α β : Type} (f : α → β) : ∀ (l : List α) (j : Nat), (l.eraseIdx j).map f = (l.map f).eraseIdx j
  | [], j => by simp
  | x :: l, 0 => rfl
  | x :: l, j + 1 => by rw [List.eraseIdx_cons_succ, List.map_cons, List.map_cons, List.eraseIdx_cons_succ, erase_map f l j]
/-- block b is a map of the entries m, none of them twice -/
structure MapB {κ ν : Type} (ek : κ → Value) (ev : ν → Value) (w : World) (b : Nat) (m : List (κ × ν)) : Prop where
  ex : ∃ (es : Array MapEntry) (clock : Nat), w.heap[b]? = some (.map es clock) ∧ es.toList.map (fun e => (e.key, e.val)) = m.map (fun p => (ek p.1, ev p.2)) ∧ (∀ e ∈ es.toList, e.born < clock) ∧ (es.toList.map (·.born)).Nodup
  nodup : (m.map (·.1)).Nodup
/-- block r ranges over the map in block b; left is what is still to come -/
structure Rng {κ ν : Type} (ek : κ → Value) (ev : ν → Value) (w : World) (b r : Nat) (m left : List (κ × ν)) : Prop where
  ex : ∃ (es : Array MapEntry) (clock : Nat) (seen : Array Nat), w.heap[b]? = some (.map es clock) ∧ es.toList.map (fun e => (e.key, e.val)) = m.map (fun p => (ek p.1, ev p.2)) ∧ (∀ e ∈ es.toList, e.born < clock) ∧ (es.toList.map (·.born)).Nodup ∧
    w.heap[r]? = some (.mapIter (some b) clock seen clock) ∧ ((leftOf es seen).toList.map (fun e => (e.key, e.val))).Perm (left.map (fun p => (ek p.1, ev p.2)))
  nodup : (m.map (·.1)).Nodup

section
variable {κ ν : Type} {ek : κ → Value} {ev : ν → Value} {P : Program} {k t e : TypeId} {w w' : World} {b r : Nat} {m left : List (κ × ν)}
theorem MapB.lt (h : MapB ek ev w b m) : b < w.heap.size := by obtain ⟨es, clock, hb, _⟩ := h.ex; exact (Array.getElem?_eq_some_iff.1 hb).1
theorem MapB.kept {S : List Nat} (h : MapB ek ev w b m) (hk : Kept S w w') (hb : b ∉ S) : MapB ek ev w' b m := by
  have hl := h.lt
  obtain ⟨⟨es, clock, h1, h2⟩, hn⟩ := h
  exact ⟨⟨es, clock, (hk.block b hl hb).trans h1, h2⟩, hn⟩
theorem MapB.drew (h : MapB ek ev w b m) : MapB ek ev w.drew b m := ⟨h.ex, h.nodup⟩
theorem MapB.alloc (h : MapB ek ev w b m) (o : Obj) : MapB ek ev (w.alloc o) b m := h.kept ((Kept.refl [] w).alloc o) (by simp)
theorem MapB.setCell (h : MapB ek ev w b m) {a : Addr} (ha : a.block ≠ b) (u : Value) : MapB ek ev (w.setCell a u) b m :=
  h.kept ((Kept.refl [a.block] w).setCell (.inl (by simp)) u) (by simpa using fun e => ha e.symm)
theorem MapB.new (w : World) : MapB ek ev (w.alloc (.map #[] 0)) w.heap.size ([] : List (κ × ν)) :=
  ⟨⟨#[], 0, heap_alloc_new w _, by simp, by simp, by simp⟩, by simp⟩
theorem MapB.ne_blk {g : Nat} {t : TypeId} {cs : Array Value} (h : MapB ek ev w b m) (hb : Blk w g t cs) : b ≠ g := by
  rintro rfl
  obtain ⟨es, clock, h1, _⟩ := h.ex
  unfold Blk at hb
  rw [h1] at hb
  cases hb
theorem kept_set {o : Obj} (hb : b < w.heap.size) : Kept [b] w (setBlock w b o) := by
  refine ⟨rfl, rfl, rfl, by simp [setBlock], fun i hi hs => ?_⟩
  show (w.heap.setIfInBounds b o)[i]? = _
  rw [Array.getElem?_setIfInBounds, if_neg (fun e => hs (by simp [e]))]
theorem heap_set_same {o : Obj} (hb : b < w.heap.size) : (setBlock w b o).heap[b]? = some o := by
  show (w.heap.setIfInBounds b o)[b]? = _
  rw [Array.getElem?_setIfInBounds, if_pos rfl, if_pos hb]
theorem ent_at {es : Array MapEntry} (he : es.toList.map (fun e => (e.key, e.val)) = m.map (fun p => (ek p.1, ev p.2))) {j : Nat} {x : MapEntry} (hx : es.toList[j]? = some x) : ∃ p, m[j]? = some p ∧ x.key = ek p.1 ∧ x.val = ev p.2 := by
  have h1 : (es.toList.map (fun e => (e.key, e.val)))[j]? = some (x.key, x.val) := by rw [List.getElem?_map, hx]; rfl
  rw [he, List.getElem?_map, Option.map_eq_some_iff] at h1
  obtain ⟨p, hp, e⟩ := h1
  rw [Prod.mk.injEq] at e
  exact ⟨p, hp, e.1.symm, e.2.symm⟩
theorem ent_mem {es : Array MapEntry} (he : es.toList.map (fun e => (e.key, e.val)) = m.map (fun p => (ek p.1, ev p.2))) {p : κ × ν} (hp : p ∈ m) : ∃ x ∈ es.toList, x.key = ek p.1 ∧ x.val = ev p.2 := by
  have h1 : (ek p.1, ev p.2) ∈ m.map (fun p => (ek p.1, ev p.2)) := List.mem_map.2 ⟨p, hp, rfl⟩
  rw [← he] at h1
  obtain ⟨x, hx, e⟩ := List.mem_map.1 h1
  rw [Prod.mk.injEq] at e
  exact ⟨x, hx, e.1, e.2⟩
/-- the key is looked for -/
theorem MapB.seek [DecidableEq κ] (K : KeyFam P k ek) {es : Array MapEntry} (he : es.toList.map (fun e => (e.key, e.val)) = m.map (fun p => (ek p.1, ev p.2))) (hn : (m.map (·.1)).Nodup) (x : κ) :
    ((Instr.findKey k (ek x) es.toList).run P w = .ok none w ∧ getM m x = none) ∨ ∃ (j : Nat) (v : ν) (e0 : MapEntry), (Instr.findKey k (ek x) es.toList).run P w = .ok (some (j, ev v)) w ∧ es.toList[j]? = some e0 ∧ e0.key = ek x ∧ m[j]? = some (x, v) ∧ getM m x = some v := by
  rcases K.find w x es.toList (fun e hm => by
    obtain ⟨j, hj⟩ := List.getElem?_of_mem hm
    obtain ⟨p, _, h1, _⟩ := ent_at he hj
    exact ⟨p.1, h1⟩) with ⟨h1, h2⟩ | ⟨j, e0, h1, h2, h3⟩
  · refine Or.inl ⟨h1, getM_none.2 fun p hp e => ?_⟩
    obtain ⟨y, hy, h4, _⟩ := ent_mem he hp
    exact h2 y hy (by rw [h4, e])
  · obtain ⟨⟨y, v⟩, hp, h4, h5⟩ := ent_at he h2
    obtain rfl : y = x := K.inj (h4.symm.trans h3)
    exact Or.inr ⟨j, v, e0, by rw [h1, h5], h2, h3, hp, getM_of_mem hn (List.mem_of_getElem? hp)⟩
/-- 'm[x]', 'v, ok := m[x]' -/
theorem MapB.look [DecidableEq κ] (h : MapB ek ev w b m) (K : KeyFam P k ek) (ht : P.underlying t = some (.map k e)) {z : Value} (hz : (zeroValue e).run P w = .ok z w) (c : Bool) (x : κ) :
    (Instr.lookup t (.map (some b)) (ek x) c).run P w = .ok (if c then .tuple #[((getM m x).map ev).getD z, .bool (getM m x).isSome] else ((getM m x).map ev).getD z) w := by
  obtain ⟨⟨es, clock, hb, he, _, _⟩, hn⟩ := h
  rcases MapB.seek (w := w) (P := P) K he hn x with ⟨h1, h2⟩ | ⟨j, v, e0, h1, _, _, _, h2⟩
  · simp [Instr.lookup, run_underlying ht, MapKept.run_getObj_map hb, K.check w _ x, h1, h2, hz, Result.andThen]
  · simp [Instr.lookup, run_underlying ht, MapKept.run_getObj_map hb, K.check w _ x, h1, h2, Result.andThen]
/-- 'len(m)' -/
theorem MapB.len (h : MapB ek ev w b m) (ht : P.underlying t = some (.map k e)) (ty : TypeId) : (Builtin.len_ #[t] ty #[.map (some b)]).run P w = .ok (.int .i64 (m.length : Nat)) w := by
  obtain ⟨⟨es, clock, hb, he, _, _⟩, hn⟩ := h
  have : es.size = m.length := by simpa using congrArg List.length he
  simp [Builtin.len_, run_underlying ht, MapKept.run_getObj_map hb, goInt, Result.andThen, this]
/-- 'm[x] = v' -/
theorem MapB.put [DecidableEq κ] (h : MapB ek ev w b m) (K : KeyFam P k ek) (ht : P.underlying t = some (.map k e)) (x : κ) (v : ν) :
    ∃ w', (Instr.mapUpdate t (.map (some b)) (ek x) (ev v)).run P w = .ok () w' ∧ MapB ek ev w' b (putM m x v) ∧ Kept [b] w w' := by
  have hl := h.lt
  obtain ⟨⟨es, clock, hb, he, hc, hd⟩, hn⟩ := h
  rcases MapB.seek (w := w) (P := P) K he hn x with ⟨h1, h2⟩ | ⟨j, v0, e0, h1, hj0, hk0, hj, h2⟩
  · refine ⟨setBlock w b (.map (es.push { key := ek x, val := ev v, born := clock }) (clock + 1)), ?_, ⟨⟨_, _, heap_set_same hl, ?_, ?_, ?_⟩, put_nodup hn x v⟩, kept_set hl⟩
    · simp [Instr.mapUpdate, run_underlying ht, MapKept.run_getObj_map hb, K.check w _ x, h1, MapKept.run_setObj_map _ hb, Result.andThen, setBlock]
    · unfold putM
      rw [h2, Option.isSome_none, if_neg (by simp), Array.toList_push, List.map_append, List.map_append, he]; rfl
    · intro y hy
      rw [Array.toList_push, List.mem_append] at hy
      rcases hy with hy | hy
      · have := hc y hy; omega
      · obtain rfl : y = _ := by simpa using hy
        exact Nat.lt_succ_self _
    · rw [Array.toList_push, List.map_append, List.nodup_append]
      refine ⟨hd, by simp, fun a ha c hc' => ?_⟩
      obtain ⟨y, hy, rfl⟩ := List.mem_map.1 ha
      obtain rfl : c = clock := by simpa using hc'
      have := hc y hy
      omega
  · have hlt : j < es.size := by have := (List.getElem?_eq_some_iff.1 hj0).1; simpa using this
    have hjx : es[j]? = some e0 := by rw [← Array.getElem?_toList]; exact hj0
    refine ⟨setBlock w b (.map (es.modify j fun y => { y with key := ek x, val := ev v }) clock), ?_, ⟨⟨_, _, heap_set_same hl, ?_, ?_, ?_⟩, put_nodup hn x v⟩, kept_set hl⟩
    · simp [Instr.mapUpdate, run_underlying ht, MapKept.run_getObj_map hb, K.check w _ x, h1, hjx, hk0, K.stays w x, MapKept.run_setObj_map _ hb, Result.andThen, setBlock]
    · rw [put_set hn hj, List.map_set, ← he]
      apply List.ext_getElem?
      intro i
      rw [List.getElem?_map, Array.getElem?_toList, Array.getElem?_modify, List.getElem?_set, List.length_map, List.getElem?_map, Array.getElem?_toList]
      by_cases hi : j = i
      · subst hi
        rw [if_pos rfl, if_pos rfl, if_pos (by simpa using hlt), Array.getElem?_eq_getElem hlt]; rfl
      · rw [if_neg hi, if_neg hi]
    · intro y hy
      obtain ⟨i, hi⟩ := List.getElem?_of_mem hy
      rw [Array.getElem?_toList, Array.getElem?_modify] at hi
      split at hi
      · rw [Option.map_eq_some_iff] at hi
        obtain ⟨z, hz, rfl⟩ := hi
        exact hc z (by rw [← Array.getElem?_toList] at hz; exact List.mem_of_getElem? hz)
      · exact hc y (by rw [← Array.getElem?_toList] at hi; exact List.mem_of_getElem? hi)
    · have : ((es.modify j fun y => { y with key := ek x, val := ev v }).toList.map (·.born)) = es.toList.map (·.born) := by
        apply List.ext_getElem?
        intro i
        rw [List.getElem?_map, List.getElem?_map, Array.getElem?_toList, Array.getElem?_toList, Array.getElem?_modify]
        split
        · cases es[i]? <;> rfl
        · rfl
      rw [this]; exact hd
/-- 'delete(m, x)' -/
theorem MapB.del [DecidableEq κ] (h : MapB ek ev w b m) (K : KeyFam P k ek) (ht : P.underlying t = some (.map k e)) (ty : TypeId) (x : κ) :
    ∃ w', (Builtin.delete_ #[t, k] ty #[.map (some b), ek x]).run P w = .ok (.tuple #[]) w' ∧ MapB ek ev w' b (delM m x) ∧ Kept [b] w w' := by
  have hl := h.lt
  obtain ⟨⟨es, clock, hb, he, hc, hd⟩, hn⟩ := h
  rcases MapB.seek (w := w) (P := P) K he hn x with ⟨h1, h2⟩ | ⟨j, v0, e0, h1, hj0, hk0, hj, h2⟩
  · refine ⟨setBlock w b (.map es clock), ?_, ⟨⟨_, _, heap_set_same hl, by rw [del_none h2]; exact he, hc, hd⟩, del_nodup hn x⟩, kept_set hl⟩
    simp [Builtin.delete_, run_underlying ht, MapKept.run_getObj_map hb, K.check w _ x, h1, MapKept.run_setObj_map _ hb, Result.andThen, setBlock]
  · have hlt : j < es.size := by have := (List.getElem?_eq_some_iff.1 hj0).1; simpa using this
    have hes : (es.eraseIdxIfInBounds j).toList = es.toList.eraseIdx j := by simp
    refine ⟨setBlock w b (.map (es.eraseIdxIfInBounds j) clock), ?_, ⟨⟨_, _, heap_set_same hl, ?_, ?_, ?_⟩, del_nodup hn x⟩, kept_set hl⟩
    · simp [Builtin.delete_, run_underlying ht, MapKept.run_getObj_map hb, K.check w _ x, h1, MapKept.run_setObj_map _ hb, Result.andThen, setBlock]
    · rw [hes, del_erase hn hj, erase_map, erase_map, he]
    · intro y hy
      rw [hes] at hy
      exact hc y ((List.eraseIdx_sublist _ _).subset hy)
    · rw [hes]
      exact hd.sublist ((List.eraseIdx_sublist _ _).map _)
/-- 'range m' -/
theorem MapB.range (h : MapB ek ev w b m) (ht : P.underlying t = some (.map k e)) :
    ∃ w', (Instr.range t (.map (some b))).run P w = .ok (.pointer (some ⟨w.heap.size, 0, none⟩)) w' ∧ Rng ek ev w' b w.heap.size m m ∧ Kept [] w w' ∧ w'.heap.size = w.heap.size + 1 := by
  have hl := h.lt
  obtain ⟨⟨es, clock, hb, he, hc, hd⟩, hn⟩ := h
  refine ⟨_, run_range_map w t k e b es clock ht hb, ⟨⟨es, clock, #[], (Below.heap_alloc w _ b hl).trans hb, he, hc, hd, heap_alloc_new w _, ?_⟩, hn⟩, (Kept.refl [] w).alloc _, by simp⟩
  rw [← he, show (leftOf es #[]).toList = es.toList by unfold leftOf; rw [Array.toList_filter]; exact List.filter_eq_self.2 (fun _ _ => by simp)]
theorem Rng.owns (h : Rng ek ev w b r m left) : MapB ek ev w b m := by
  obtain ⟨⟨es, clock, seen, hb, he, hc, hd, _⟩, hn⟩ := h
  exact ⟨⟨es, clock, hb, he, hc, hd⟩, hn⟩
theorem Rng.lt (h : Rng ek ev w b r m left) : r < w.heap.size := by
  obtain ⟨⟨es, clock, seen, hb, he, hc, hd, hr, _⟩, hn⟩ := h
  exact (Array.getElem?_eq_some_iff.1 hr).1
theorem Rng.ne (h : Rng ek ev w b r m left) : r ≠ b := by
  rintro rfl
  obtain ⟨⟨es, clock, seen, hb, he, hc, hd, hr, _⟩, hn⟩ := h
  rw [hb] at hr; cases hr
theorem Rng.kept {S : List Nat} (h : Rng ek ev w b r m left) (hk : Kept S w w') (hb : b ∉ S) (hr : r ∉ S) : Rng ek ev w' b r m left := by
  have hl := h.lt
  have hl2 := h.owns.lt
  obtain ⟨⟨es, clock, seen, h1, he, hc, hd, h2, h3⟩, hn⟩ := h
  exact ⟨⟨es, clock, seen, (hk.block b hl2 hb).trans h1, he, hc, hd, (hk.block r hl hr).trans h2, h3⟩, hn⟩
theorem Rng.perm {left' : List (κ × ν)} (h : Rng ek ev w b r m left) (hp : left.Perm left') : Rng ek ev w b r m left' := by
  obtain ⟨⟨es, clock, seen, h1, he, hc, hd, h2, h3⟩, hn⟩ := h
  exact ⟨⟨es, clock, seen, h1, he, hc, hd, h2, h3.trans (hp.map _)⟩, hn⟩
theorem left_step {es : Array MapEntry} {seen : Array Nat} (hd : (es.toList.map (·.born)).Nodup) {x : MapEntry} (hx : x ∈ (leftOf es seen).toList) : (leftOf es seen).toList.Perm (x :: (leftOf es (seen.push x.born)).toList) := by
  have h1 : (leftOf es (seen.push x.born)).toList = (leftOf es seen).toList.filter (fun y => !decide (y.born = x.born)) := by
    unfold leftOf
    rw [Array.toList_filter, Array.toList_filter, List.filter_filter]
    apply List.filter_congr
    intro y _
    by_cases hy : y.born = x.born
    · simp [hy]
    · simp [hy]
  rw [h1]
  have h2 : ((leftOf es seen).toList.map (·.born)).Nodup := by
    unfold leftOf
    rw [Array.toList_filter]
    exact hd.sublist (List.filter_sublist.map _)
  generalize (leftOf es seen).toList = l at hx h2
  clear h1
  induction l with
  | nil => cases hx
  | cons y l ih =>
    rw [List.map_cons, List.nodup_cons] at h2
    rw [List.filter_cons]
    rcases List.mem_cons.1 hx with rfl | hx
    · rw [if_neg (by simp)]
      rw [List.filter_eq_self.2 (fun q hq => by
        have : q.born ≠ x.born := fun e => h2.1 (List.mem_map.2 ⟨q, hq, e⟩)
        simp [this])]
    · rw [if_pos (by
        have : y.born ≠ x.born := fun e => h2.1 (List.mem_map.2 ⟨x, hx, e.symm⟩)
        simp [this])]
      exact ((ih hx h2.2).cons y).trans (List.Perm.swap x y _)
/-- the step -/
theorem Rng.next (h : Rng ek ev w b r m left) (ty : TypeId) :
    (left = [] ∧ (Instr.next (.pointer (some ⟨r, 0, none⟩)) false ty).run P w = .ok (.tuple #[.bool false]) w) ∨
    ∃ (p : κ × ν) (left' : List (κ × ν)) (w' : World), left.Perm (p :: left') ∧ (Instr.next (.pointer (some ⟨r, 0, none⟩)) false ty).run P w = .ok (.tuple #[.bool true, ek p.1, ev p.2]) w' ∧ Rng ek ev w' b r m left' ∧ Kept [r] w w' ∧ w'.heap.size = w.heap.size ∧
      (Instr.entry (.pointer (some ⟨r, 0, none⟩))).run P w' = .ok (.tuple #[ek p.1, ev p.2]) w' := by
  have hne := h.ne
  have hl := h.lt
  have hl2 := h.owns.lt
  obtain ⟨⟨es, clock, seen, hb, he, hc, hd, hr, hp⟩, hn⟩ := h
  rcases run_next_at (P := P) w ty r b clock clock seen es clock hr hb hc (Nat.le_refl _) with ⟨h0, hrun⟩ | ⟨x, hx, w1, hal, hrun⟩
  · refine Or.inl ⟨?_, hrun⟩
    rw [show (leftOf es seen).toList = [] from List.eq_nil_of_length_eq_zero (by simpa using h0)] at hp
    have := hp.length_eq
    exact List.eq_nil_of_length_eq_zero (by simpa using this.symm)
  · have h1 : (x.key, x.val) ∈ left.map (fun p => (ek p.1, ev p.2)) := hp.mem_iff.1 (List.mem_map.2 ⟨x, hx, rfl⟩)
    obtain ⟨p, hpl, hpe⟩ := List.mem_map.1 h1
    rw [Prod.mk.injEq] at hpe
    obtain ⟨s, u, rfl⟩ := List.append_of_mem hpl
    have hxes : x ∈ es.toList := by unfold leftOf at hx; rw [Array.toList_filter] at hx; exact (List.mem_filter.1 hx).1
    have hw1 : w1.heap = w.heap := by rcases hal with rfl | rfl <;> rfl
    have hl1 : r < w1.heap.size := by rw [hw1]; exact hl
    have hb' : (setBlock w1 r (.mapIter (some b) clock (seen.push x.born) clock)).heap[b]? = some (.map es clock) := by
      rw [(kept_set hl1).block b (by rw [hw1]; exact hl2) (by simpa using fun e => hne e.symm), hw1]; exact hb
    have hk1 : Kept [r] w w1 := by rcases hal with rfl | rfl; exact Kept.refl _ _; exact (Kept.refl _ _).drew
    refine Or.inr ⟨p, s ++ u, _, List.perm_middle, ?_, ⟨⟨es, clock, seen.push x.born, hb', he, hc, hd, heap_set_same hl1, ?_⟩, hn⟩, hk1.trans (kept_set hl1) (by simp), by simp [setBlock, hw1], ?_⟩
    · rw [hpe.1, hpe.2]; exact hrun
    · have h2 := ((left_step hd hx).map (fun e => (e.key, e.val))).symm.trans hp
      have h3 : ((s ++ p :: u).map (fun p => (ek p.1, ev p.2))).Perm ((x.key, x.val) :: (s ++ u).map (fun p => (ek p.1, ev p.2))) := by
        rw [← hpe.1, ← hpe.2]
        exact (List.perm_middle (a := p) (l₁ := s) (l₂ := u)).map _
      exact List.Perm.cons_inv (h2.trans h3)
    · rw [hpe.1, hpe.2]
      exact run_entry_at _ r b clock seen es clock x (heap_set_same hl1) hb' hxes hd
end

section
variable {κ ν : Type} {ek : κ → Value} {ev : ν → Value} {P : Program} (w : World) {ops : Array Oper} {rest : List Oper} {o : Oper} {a : Act} {Q : Exit → Act → World → Prop}
theorem wpList_look1 [DecidableEq κ] (hg : o.guard = none) (mo x : Operand) (t : TypeId) (hop : o.op = Op.lookup t mo x false) {k e : TypeId} (K : KeyFam P k ek) (ht : P.underlying t = some (.map k e)) {z : Value} (hz : (zeroValue e).run P w = .ok z w)
    {b : Nat} {m : List (κ × ν)} (hm : a.eval mo = .map (some b)) (h : MapB ek ev w b m) (key : κ) (hx : a.eval x = ek key)
    (hK : wpList P ops Q rest (a.put o.dst (((getM m key).map ev).getD z)) w) : wpList P ops Q (o :: rest) a w := by
  refine wpList_plain hg fun K' hK' => ?_
  have hrun := h.look K ht hz false key
  unfold Oper.wp
  simp [execOp, hop, hm, hx, hrun, Result.andThen]
  exact hK' _ _ hK
theorem wpList_look2 [DecidableEq κ] (hg : o.guard = none) (mo x : Operand) (t : TypeId) (hop : o.op = Op.lookup t mo x true) {k e : TypeId} (K : KeyFam P k ek) (ht : P.underlying t = some (.map k e)) {z : Value} (hz : (zeroValue e).run P w = .ok z w)
    {b : Nat} {m : List (κ × ν)} (hm : a.eval mo = .map (some b)) (h : MapB ek ev w b m) (key : κ) (hx : a.eval x = ek key)
    (hK : wpList P ops Q rest (a.put o.dst (.tuple #[((getM m key).map ev).getD z, .bool (getM m key).isSome])) w) : wpList P ops Q (o :: rest) a w := by
  refine wpList_plain hg fun K' hK' => ?_
  have hrun := h.look K ht hz true key
  unfold Oper.wp
  simp [execOp, hop, hm, hx, hrun, Result.andThen]
  exact hK' _ _ hK
theorem wpList_lenM (hg : o.guard = none) (mo : Operand) (t : TypeId) (hop : o.op = Op.call { callee := Callee.builtin Builtin.len, args := #[mo], argTypes := #[t] }) {k e : TypeId} (ht : P.underlying t = some (.map k e))
    {b : Nat} {m : List (κ × ν)} (hm : a.eval mo = .map (some b)) (h : MapB ek ev w b m) (hK : wpList P ops Q rest (a.put o.dst (.int .i64 (m.length : Nat))) w) : wpList P ops Q (o :: rest) a w := by
  refine wpList_plain hg fun K' hK' => ?_
  have hrun := h.len ht o.type
  unfold Oper.wp
  simp [execOp, hop, resolve, invoke, builtin, hm, hrun, Result.andThen]
  exact hK' _ _ hK
theorem wpList_putM [DecidableEq κ] (hg : o.guard = none) (mo x v : Operand) (t : TypeId) (hop : o.op = Op.mapUpdate t mo x v) {k e : TypeId} (K : KeyFam P k ek) (ht : P.underlying t = some (.map k e))
    {b : Nat} {m : List (κ × ν)} (hm : a.eval mo = .map (some b)) (h : MapB ek ev w b m) (key : κ) (hx : a.eval x = ek key) (val : ν) (hv : a.eval v = ev val)
    (hK : ∀ w', MapB ek ev w' b (putM m key val) → Kept [b] w w' → wpList P ops Q rest (a.put o.dst (.tuple #[])) w') : wpList P ops Q (o :: rest) a w := by
  refine wpList_plain hg fun K' hK' => ?_
  obtain ⟨w', hrun, h1, h2⟩ := h.put K ht key val
  unfold Oper.wp
  simp [execOp, hop, hm, hx, hv, hrun, Result.andThen]
  exact hK' _ _ (hK w' h1 h2)
theorem wpList_delM [DecidableEq κ] (hg : o.guard = none) (mo x : Operand) (t k : TypeId) (hop : o.op = Op.call { callee := Callee.builtin Builtin.delete, args := #[mo, x], argTypes := #[t, k] }) {e : TypeId} (K : KeyFam P k ek) (ht : P.underlying t = some (.map k e))
    {b : Nat} {m : List (κ × ν)} (hm : a.eval mo = .map (some b)) (h : MapB ek ev w b m) (key : κ) (hx : a.eval x = ek key)
    (hK : ∀ w', MapB ek ev w' b (delM m key) → Kept [b] w w' → wpList P ops Q rest (a.put o.dst (.tuple #[])) w') : wpList P ops Q (o :: rest) a w := by
  refine wpList_plain hg fun K' hK' => ?_
  obtain ⟨w', hrun, h1, h2⟩ := h.del K ht o.type key
  unfold Oper.wp
  simp [execOp, hop, resolve, invoke, builtin, hm, hx, hrun, Result.andThen]
  exact hK' _ _ (hK w' h1 h2)
theorem wpList_rangeM (hg : o.guard = none) (mo : Operand) (t : TypeId) (hop : o.op = Op.range t mo) {k e : TypeId} (ht : P.underlying t = some (.map k e))
    {b : Nat} {m : List (κ × ν)} (hm : a.eval mo = .map (some b)) (h : MapB ek ev w b m)
    (hK : ∀ w', Rng ek ev w' b w.heap.size m m → Kept [] w w' → w'.heap.size = w.heap.size + 1 → wpList P ops Q rest (a.put o.dst (.pointer (some ⟨w.heap.size, 0, none⟩))) w') : wpList P ops Q (o :: rest) a w := by
  refine wpList_plain hg fun K' hK' => ?_
  obtain ⟨w', hrun, h1, h2, h3⟩ := h.range ht
  unfold Oper.wp
  simp [execOp, hop, hm, hrun, Result.andThen]
  exact hK' _ _ (hK w' h1 h2 h3)
theorem wpList_nextM (hg : o.guard = none) (it : Operand) (hop : o.op = Op.next it false) {b r : Nat} {m left : List (κ × ν)} (hit : a.eval it = .pointer (some ⟨r, 0, none⟩)) (h : Rng ek ev w b r m left)
    (hDone : left = [] → wpList P ops Q rest (a.put o.dst (.tuple #[.bool false])) w)
    (hMore : ∀ (p : κ × ν) (left' : List (κ × ν)) (w' : World), left.Perm (p :: left') → Rng ek ev w' b r m left' → Kept [r] w w' → w'.heap.size = w.heap.size → (Instr.entry (.pointer (some ⟨r, 0, none⟩))).run P w' = .ok (.tuple #[ek p.1, ev p.2]) w' →
      wpList P ops Q rest (a.put o.dst (.tuple #[.bool true, ek p.1, ev p.2])) w') : wpList P ops Q (o :: rest) a w := by
  refine wpList_plain hg fun K' hK' => ?_
  unfold Oper.wp
  rcases h.next (P := P) o.type with ⟨h0, hrun⟩ | ⟨p, left', w', hp, hrun, h1, h2, h3, h4⟩
  · simp [execOp, hop, hit, hrun, Result.andThen]
    exact hK' _ _ (hDone h0)
  · simp [execOp, hop, hit, hrun, Result.andThen]
    exact hK' _ _ (hMore p left' w' hp h1 h2 h3 h4)
end
end Go.Proofs.Ythdjdfdefibepaa
