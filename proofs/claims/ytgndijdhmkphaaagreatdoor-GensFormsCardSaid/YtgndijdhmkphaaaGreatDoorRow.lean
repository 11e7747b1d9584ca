/-
  Rows of the call's own that are written in place: k cells an element.
-/
import Derived.Shelf.SlSortCmp.InsertionK
import Derived.Test.YtgndijdhmkphaaaGreatDoorBlk
namespace Go.Proofs.YtgndijdhmkphaaaGreatDoor
open Go.RowKit
set_option linter.unusedVariables false
set_option maxRecDepth 100000

/-- block g is a row of cells of type e with room for cap elements of k cells; its first elements are l -/
def RowAt {α : Type} (e : TypeId) (k : Nat) (enc : α → List Value) (w : World) (g cap : Nat) (l : List α) : Prop :=
  ∃ cur : Array Value, w.heap[g]? = some (.cells cur e (0, 0)) ∧ cur.size = cap * k ∧ l.length ≤ cap ∧ cap ≤ maxLen ∧ ∀ j x c v, l[j]? = some x → (enc x)[c]? = some v → cur[j * k + c]? = some v
namespace RowAt
variable {α : Type} {e : TypeId} {k : Nat} {enc : α → List Value} {w w' : World} {g cap : Nat} {l : List α}
theorem lt (h : RowAt e k enc w g cap l) : g < w.heap.size := by obtain ⟨cur, hb, _⟩ := h; exact (Array.getElem?_eq_some_iff.1 hb).1
theorem le (h : RowAt e k enc w g cap l) : l.length ≤ cap ∧ cap ≤ maxLen := by obtain ⟨cur, _, _, h1, h2, _⟩ := h; exact ⟨h1, h2⟩
theorem kept {S : List Nat} (h : RowAt e k enc w g cap l) (hk : Kept S w w') (hg : g ∉ S) : RowAt e k enc w' g cap l := by
  have hl := h.lt
  obtain ⟨cur, hb, h2⟩ := h
  exact ⟨cur, (hk.block g hl hg).trans hb, h2⟩
theorem drew (h : RowAt e k enc w g cap l) : RowAt e k enc w.drew g cap l := h
theorem cell (h : RowAt e k enc w g cap l) {j : Nat} {x : α} (hx : l[j]? = some x) {c : Nat} {v : Value} (hv : (enc x)[c]? = some v) : w.cell? ⟨g, j * k + c, none⟩ = some v := by
  obtain ⟨cur, hb, _, _, _, h5⟩ := h
  exact (cell_of_row w g _ cur e (0, 0) hb).trans (h5 j x c v hx hv)
theorem frozen (h : RowAt e k enc w g cap l) (o : Nat) : w.frozen? ⟨g, o, none⟩ = false := by
  obtain ⟨cur, hb, _⟩ := h
  simp [World.frozen?, hb]
theorem take (h : RowAt e k enc w g cap l) (n : Nat) : RowAt e k enc w g cap (l.take n) := by
  obtain ⟨cur, hb, h2, h3, h4, h5⟩ := h
  refine ⟨cur, hb, h2, Nat.le_trans (by rw [List.length_take]; exact Nat.min_le_right _ _) h3, h4, fun j x c v hx hv => h5 j x c v ?_ hv⟩
  rw [List.getElem?_take] at hx
  split at hx
  · exact hx
  · cases hx
theorem heap_setCells {w : World} {g : Nat} {cur : Array Value} {e : TypeId} : ∀ (vs : List Value) (o : Nat), w.heap[g]? = some (.cells cur e (0, 0)) → (w.setCells g o vs).heap[g]? = some (.cells (Go.Sort.setMany cur o vs) e (0, 0))
  | [], o, h => h
  | v :: vs, o, h => by
    have h1 : (w.setCell ⟨g, o, none⟩ v).heap[g]? = some (.cells (cur.setIfInBounds o v) e (0, 0)) := by
      simp [World.setCell, Array.getElem?_modify, h]
    have := heap_setCells (w := w.setCell ⟨g, o, none⟩ v) vs (o + 1) (cur := cur.setIfInBounds o v) h1
    exact this
theorem setMany_get : ∀ (vs : List Value) (F : Array Value) (o i : Nat), o + vs.length ≤ F.size → (Go.Sort.setMany F o vs)[i]? = if o ≤ i ∧ i < o + vs.length then vs[i - o]? else F[i]?
  | [], F, o, i, h => by rw [if_neg (by simp only [List.length_nil]; omega)]; rfl
  | v :: vs, F, o, i, h => by
    simp only [List.length_cons] at h
    rw [Go.Sort.setMany, setMany_get vs _ (o + 1) i (by simp; omega)]
    by_cases h1 : i = o
    · subst h1
      rw [if_neg (by omega), if_pos (by simp), Array.getElem?_setIfInBounds, if_pos rfl, if_pos (by omega), Nat.sub_self]; rfl
    · by_cases h2 : o + 1 ≤ i ∧ i < o + 1 + vs.length
      · rw [if_pos h2, if_pos (by simp only [List.length_cons]; omega), show i - o = (i - (o + 1)) + 1 by omega]; rfl
      · rw [if_neg h2, if_neg (by simp only [List.length_cons]; omega), Array.getElem?_setIfInBounds, if_neg (fun e => h1 e.symm)]
theorem set (hk : ∀ x, (enc x).length = k) (h : RowAt e k enc w g cap l) (j : Nat) (hj : j < cap) (y : α) : RowAt e k enc (w.setCells g (j * k) (enc y)) g cap (l.set j y) := by
  obtain ⟨cur, hb, h2, h3, h4, h5⟩ := h
  have hjk : j * k + k ≤ cur.size := by
    have : (j + 1) * k ≤ cap * k := Nat.mul_le_mul_right k hj
    rw [Nat.add_mul, Nat.one_mul] at this
    omega
  have hsz : (Go.Sort.setMany cur (j * k) (enc y)).size = cur.size := by rw [Go.Sort.size_setMany]
  refine ⟨_, heap_setCells (enc y) (j * k) hb, by rw [hsz, h2], by simpa using h3, h4, fun i x c v hx hv => ?_⟩
  rw [setMany_get _ _ _ _ (by rw [hk]; exact hjk), hk]
  have hc : c < k := by have := (List.getElem?_eq_some_iff.1 hv).1; rwa [hk] at this
  by_cases hi : i = j
  · subst hi
    rw [if_pos (by omega), show i * k + c - i * k = c by omega]
    rw [List.getElem?_set] at hx
    by_cases hil : i < l.length
    · rw [if_pos rfl, if_pos hil] at hx
      injection hx with hx; rw [hx]; exact hv
    · rw [if_pos rfl, if_neg hil] at hx; cases hx
  · rw [List.getElem?_set, if_neg (fun e => hi e.symm)] at hx
    rw [if_neg]
    · exact h5 i x c v hx hv
    · rintro ⟨a, b⟩
      rcases Nat.lt_or_gt_of_ne hi with hlt | hlt
      · have : (i + 1) * k ≤ j * k := Nat.mul_le_mul_right k hlt
        rw [Nat.add_mul, Nat.one_mul] at this; omega
      · have : (j + 1) * k ≤ i * k := Nat.mul_le_mul_right k hlt
        rw [Nat.add_mul, Nat.one_mul] at this; omega
theorem flat_at (hk : ∀ x, (enc x).length = k) {j : Nat} {x : α} (hx : l[j]? = some x) {c : Nat} {v : Value} (hv : (enc x)[c]? = some v) : ((l.map enc).flatten)[j * k + c]? = some v := by
  have hc : c < k := by have := (List.getElem?_eq_some_iff.1 hv).1; rwa [hk] at this
  rw [flat_get (n := k) (css := l.map enc) (fun cs hm => by obtain ⟨a, _, rfl⟩ := List.mem_map.1 hm; exact hk a) j c (enc x) (by rw [List.getElem?_map, hx]; rfl) hc, hv]
theorem flat_size (hk : ∀ x, (enc x).length = k) (l : List α) : ((l.map enc).flatten).length = l.length * k := by
  rw [flat_len (n := k) (fun cs hm => by obtain ⟨a, _, rfl⟩ := List.mem_map.1 hm; exact hk a), List.length_map]
/-- what it is for appending -/
theorem own (hk : ∀ x, (enc x).length = k) (h : RowAt e k enc w g cap l) : Own w e k (.slice (some ⟨g, 0, none⟩) l.length cap) l.length (l.map enc).flatten := by
  obtain ⟨cur, hb, h2, h3, h4, h5⟩ := h
  refine ⟨flat_size hk l, .inr ⟨g, cap, cur, rfl, Nat.zero_le _, hb, h3, h4, h2, ?_⟩⟩
  have hle : l.length * k ≤ cap * k := Nat.mul_le_mul_right k h3
  apply List.ext_getElem?
  intro i
  rw [List.getElem?_take]
  by_cases hi : i < l.length * k
  · rw [if_pos hi]
    have hk0 : 0 < k := Nat.pos_of_ne_zero (fun h0 => by rw [h0] at hi; simp at hi)
    have hj : i / k < l.length := Nat.div_lt_of_lt_mul (by rw [Nat.mul_comm]; exact hi)
    have hc : i % k < k := Nat.mod_lt _ hk0
    have he : i / k * k + i % k = i := by rw [Nat.mul_comm]; exact Nat.div_add_mod i k
    have hx := List.getElem?_eq_getElem hj
    have hv : (enc l[i / k])[i % k]? = some ((enc l[i / k])[i % k]'(by rw [hk]; exact hc)) := List.getElem?_eq_getElem _
    have a := h5 _ _ _ _ hx hv
    have b := flat_at hk hx hv
    rw [he] at a b
    rw [b, Array.getElem?_toList]; exact a
  · rw [if_neg hi, List.getElem?_eq_none (by rw [flat_size hk]; omega)]
theorem of_own (hk : ∀ x, (enc x).length = k) {v : Value} {n : Nat} (h : Own w e k v n (l.map enc).flatten) (hn : n = l.length) : (v = .slice none 0 0 ∧ l = []) ∨ ∃ g cap, v = .slice (some ⟨g, 0, none⟩) l.length cap ∧ RowAt e k enc w g cap l := by
  subst hn
  rcases h.2 with ⟨rfl, h0⟩ | ⟨g, cap, cur, rfl, _, hb, h3, h4, h2, h5⟩
  · exact .inl ⟨rfl, List.eq_nil_of_length_eq_zero h0⟩
  · refine .inr ⟨g, cap, rfl, cur, hb, h2, h3, h4, fun j x c v hx hv => ?_⟩
    have hlt : j * k + c < l.length * k := by
      have hj := (List.getElem?_eq_some_iff.1 hx).1
      have hc : c < k := by have := (List.getElem?_eq_some_iff.1 hv).1; rwa [hk] at this
      have : (j + 1) * k ≤ l.length * k := Nat.mul_le_mul_right k hj
      rw [Nat.add_mul, Nat.one_mul] at this; omega
    have := flat_at hk hx hv
    rw [← h5, List.getElem?_take, if_pos hlt, Array.getElem?_toList] at this
    exact this
/-- in the shelf's words -/
theorem holds [Inhabited α] (hk : ∀ x, (enc x).length = k) (h : RowAt e k enc w g cap l) : Go.Sort.HoldsK enc k w g 0 l.toArray := by
  intro i hi
  rw [Go.Sort.size_flatK, List.size_toArray] at hi
  have hk0 : 0 < k := Nat.pos_of_ne_zero (fun h0 => by rw [h0] at hi; simp at hi)
  have hj : i / k < l.length := Nat.div_lt_of_lt_mul (by rw [Nat.mul_comm]; exact hi)
  have hc : i % k < k := Nat.mod_lt _ hk0
  have he : i / k * k + i % k = i := by rw [Nat.mul_comm]; exact Nat.div_add_mod i k
  refine ⟨?_, h.frozen _⟩
  rw [Go.Sort.get_flatK _ _ _ _ (by simpa using hi), Nat.zero_add]
  have hx := List.getElem?_eq_getElem hj
  have hv : (enc l[i / k])[i % k]? = some ((enc l[i / k])[i % k]'(by rw [hk]; exact hc)) := List.getElem?_eq_getElem _
  have a := h.cell hx hv
  rw [he] at a
  rw [a, getElem!_pos l.toArray (i / k) (by simpa using hj), getElem!_pos _ (i % k) (by rw [hk]; exact hc)]
  rfl
/-- behind the shelf's sort of it -/
theorem sorted [Inhabited α] (hk : ∀ x, (enc x).length = k) (h : RowAt e k enc w g cap l) {n : Nat} {d : Array α} {os : Array Obj} (hd : d.size = l.length) (hw : w' = sortWorldK enc k w g 0 n d os) : RowAt e k enc w' g cap d.toList ∧ Kept [g] w w' := by
  have hlt := h.lt
  obtain ⟨cur, hb, h2, h3, h4, h5⟩ := h
  have hg : (Go.Sort.putRowK enc k (Go.Sort.ahead w n) g 0 d).heap[g]? = some (.cells (Go.Sort.putCells id 0 (Go.Sort.flatK enc k d) cur) e (0, 0)) := by
    simp [Go.Sort.putRowK, Go.Sort.putRow, Go.Sort.mapBlock, Go.Sort.ahead, Array.getElem?_modify, hb, Go.Sort.onCells]
  have hsz : (Go.Sort.putRowK enc k (Go.Sort.ahead w n) g 0 d).heap.size = w.heap.size := by simp [Go.Sort.putRowK, Go.Sort.ahead]
  subst hw
  refine ⟨⟨_, (Array.getElem?_append_left (by rw [hsz]; exact hlt)).trans hg, by simp [Go.Sort.putCells, h2], by simpa [hd] using h3, h4, fun j x c v hx hv => ?_⟩, rfl, rfl, rfl, ?_, fun i hi hs => ?_⟩
  · have hc : c < k := by have := (List.getElem?_eq_some_iff.1 hv).1; rwa [hk] at this
    have hj : j < d.size := by have := (List.getElem?_eq_some_iff.1 hx).1; simpa using this
    have hlt2 : j * k + c < d.size * k := by
      have : (j + 1) * k ≤ d.size * k := Nat.mul_le_mul_right k hj
      rw [Nat.add_mul, Nat.one_mul] at this; omega
    have hlt3 : j * k + c < cur.size := by
      rw [h2]
      have : d.size * k ≤ cap * k := Nat.mul_le_mul_right k (by omega)
      omega
    have hk0 : 0 < k := by omega
    have e1 : (j * k + c) / k = j := by rw [Nat.add_comm, Nat.add_mul_div_right _ _ hk0, Nat.div_eq_of_lt hc]; omega
    have e2 : (j * k + c) % k = c := by rw [Nat.add_comm, Nat.add_mul_mod_self_right, Nat.mod_eq_of_lt hc]
    unfold Go.Sort.putCells
    rw [Array.getElem?_mapIdx, Array.getElem?_eq_getElem hlt3, Option.map_some, if_pos (by rw [Go.Sort.size_flatK]; omega), Nat.sub_zero, Go.Sort.get_flatK _ _ _ _ hlt2, e1, e2]
    rw [Array.getElem?_toList, Array.getElem?_eq_getElem hj] at hx
    injection hx with hx
    rw [getElem!_pos d j hj, hx, getElem!_pos (enc x) c (by rw [hk]; exact hc)]
    rw [List.getElem?_eq_getElem (by rw [hk]; exact hc)] at hv
    exact hv
  · simp only [sortWorldK, Go.Sort.grow, Array.size_append, hsz]; omega
  · simp only [sortWorldK, Go.Sort.grow]
    rw [Array.getElem?_append_left (by rw [hsz]; exact hi)]
    simp only [Go.Sort.putRowK, Go.Sort.putRow, Go.Sort.mapBlock, Go.Sort.ahead, Array.getElem?_modify]
    rw [if_neg (fun e => hs (by simp [e]))]
/-- cells written from element o on leave the ones ahead -/
theorem tail (hk : ∀ x, (enc x).length = k) (h : RowAt e k enc w g cap l) (o : Nat) (vs : List Value) (hv : o * k + vs.length ≤ cap * k) : RowAt e k enc (w.setCells g (o * k) vs) g cap (l.take o) := by
  obtain ⟨cur, hb, h2, h3, h4, h5⟩ := h
  have hsz : (Go.Sort.setMany cur (o * k) vs).size = cur.size := by rw [Go.Sort.size_setMany]
  refine ⟨_, heap_setCells vs (o * k) hb, by rw [hsz, h2], Nat.le_trans (by rw [List.length_take]; exact Nat.min_le_right _ _) h3, h4, fun j x c v hx hc => ?_⟩
  rw [List.getElem?_take] at hx
  split at hx
  · rename_i hj
    have hc' : c < k := by have := (List.getElem?_eq_some_iff.1 hc).1; rwa [hk] at this
    have : (j + 1) * k ≤ o * k := Nat.mul_le_mul_right k hj
    rw [Nat.add_mul, Nat.one_mul] at this
    rw [setMany_get _ _ _ _ (by rw [h2]; exact hv), if_neg (by omega)]
    exact h5 j x c v hx hc
  · cases hx
theorem cells_there (h : RowAt e k enc w g cap l) {o : Nat} (hj : o < cap * k) : (w.cell? ⟨g, o, none⟩).isSome = true ∧ w.frozen? ⟨g, o, none⟩ = false := by
  refine ⟨?_, h.frozen _⟩
  obtain ⟨cur, hb, h2, h3, h4, h5⟩ := h
  rw [cell_of_row w g _ cur e (0, 0) hb, Array.getElem?_eq_getElem (by rw [h2]; exact hj)]; rfl
theorem run_clear {P : Program} {t e' ty : TypeId} {z : Value} (ht : P.underlying t = some (.slice e')) (hz0 : ∀ w, (zeroValue e').run P w = .ok z w) (hz : z.cells.size = k) (h1 : ∀ u ∈ z.cells.toList, u.oneCell' = true) (hk0 : 0 < k) (hk : ∀ x, (enc x).length = k)
    (h : RowAt e k enc w g cap l) (o n c : Nat) (hn : o + n ≤ cap) : ∃ w', (Builtin.clear_ #[t] ty #[.slice (some ⟨g, o * k, none⟩) n c]).run P w = .ok (.tuple #[]) w' ∧ RowAt e k enc w' g cap (l.take o) ∧ Kept [g] w w' := by
  cases n with
  | zero => exact ⟨w, by simp [Builtin.clear_, run_underlying ht], h.take o, Kept.refl _ _⟩
  | succ n =>
    obtain ⟨vs, hvs⟩ : ∃ vs, (Builtin.zeroCells z.cells (n + 1)).toList = vs := ⟨_, rfl⟩
    have hlen : vs.length = (n + 1) * k := by rw [← hvs]; simp [Builtin.zeroCells, hz]
    have hone : ∀ v ∈ vs, v.oneCell' = true := by
      intro v hv
      rw [← hvs] at hv
      simp only [Builtin.zeroCells, Array.toList_map, List.mem_map] at hv
      obtain ⟨i, _, rfl⟩ := hv
      have hi : i % z.cells.size < z.cells.size := Nat.mod_lt _ (by omega)
      rw [getElem!_pos z.cells _ hi]
      exact h1 _ (by simp)
    have hle : (o + (n + 1)) * k ≤ cap * k := Nat.mul_le_mul_right k hn
    rw [Nat.add_mul] at hle
    have hst := run_storeCells_cells (P := P) g (o * k) vs 0 w (fun c hc => (h.cells_there (by omega)).1) (fun c hc => (h.cells_there (by omega)).2) hone
    rw [Nat.add_zero] at hst
    refine ⟨_, ?_, h.tail hk o vs (by omega), Kept.setCells _ _ _ _ (Kept.refl _ _)⟩
    simp [Builtin.clear_, run_underlying ht, hz0, hvs, hst]
/-- an element written -/
theorem wpList_set {P : Program} {ops : Array Oper} {rest : List Oper} {op : Oper} {a : Act} {Q : Exit → Act → World → Prop} (hgd : op.guard = none) (ty : TypeId) (x y : Operand) (ho : op.op = .store ty x y) (hk : ∀ x, (enc x).length = k)
    (h : RowAt e k enc w g cap l) {j u : Nat} (b : α) (hx : a.eval x = .pointer (some ⟨g, u, none⟩)) (hu : u = j * k) (hj : j < cap) (hy : a.eval y = .agg (enc b).toArray)
    (hi : (P.info? ty).map (·.size) = some k) (h1 : ∀ v ∈ enc b, v.oneCell' = true)
    (hK : ∀ w', RowAt e k enc w' g cap (l.set j b) → Kept [g] w w' → wpList P ops Q rest (a.put op.dst undef) w') : wpList P ops Q (op :: rest) a w := by
  subst hu
  refine wpList_store_mid hgd ty x y ho g (j * k) (enc b).toArray hx hy (fun i hi => ?_) (by simpa [hk] using hi) (by simpa using h1) (hK _ ?_ (Kept.setCells _ _ _ _ (Kept.refl _ _)))
  · have hi' : i < k := by simpa [hk] using hi
    have : (j + 1) * k ≤ cap * k := Nat.mul_le_mul_right k hj
    rw [Nat.add_mul, Nat.one_mul] at this
    exact h.cells_there (by omega)
  · simpa using h.set hk j hj b
end RowAt
end Go.Proofs.YtgndijdhmkphaaaGreatDoor
