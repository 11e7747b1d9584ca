/-
  Slices of structs of the call's own; what their elements read as.
-/
import Derived.Test.YtgndijdhmkphaaaGreatDoorArgs
namespace Go.Proofs.YtgndijdhmkphaaaGreatDoor
set_option linter.unusedVariables false
section
open Go.RowKit
set_option maxRecDepth 100000
structure DecOk {α : Type} (n : Nat) (Dec : World → List Nat → List Value → α → Prop) : Prop where
  len : ∀ {w : World} {G : List Nat} {cs : List Value} {a : α}, Dec w G cs a → cs.length = n
  one : ∀ {w : World} {G : List Nat} {cs : List Value} {a : α}, Dec w G cs a → ∀ u ∈ cs, u.oneCell' = true
  kept : ∀ {w w' : World} {G S : List Nat} {cs : List Value} {a : α}, Dec w G cs a → Kept S w w' → (∀ k ∈ G, k ∉ S) → Dec w' G cs a
  mono : ∀ {w : World} {G G' : List Nat} {cs : List Value} {a : α}, Dec w G cs a → (∀ k ∈ G, k ∈ G') → Dec w G' cs a
def Decs {α : Type} (Dec : World → List Nat → List Value → α → Prop) (w : World) (G : List Nat) (css : List (List Value)) (l : List α) : Prop :=
  css.length = l.length ∧ ∀ (i : Nat) (cs : List Value) (a : α), css[i]? = some cs → l[i]? = some a → Dec w G cs a
section
variable {α : Type} {n : Nat} {Dec : World → List Nat → List Value → α → Prop} {w w' : World} {G G' S : List Nat} {css css' : List (List Value)} {l l' : List α} {cs : List Value} {a : α}
theorem Decs.nil : Decs Dec w G [] [] := ⟨rfl, by simp⟩
theorem Decs.kept (D : DecOk n Dec) (h : Decs Dec w G css l) (hk : Kept S w w') (hd : ∀ k ∈ G, k ∉ S) : Decs Dec w' G css l := ⟨h.1, fun i cs a h1 h2 => D.kept (h.2 i cs a h1 h2) hk hd⟩
theorem Decs.mono (D : DecOk n Dec) (h : Decs Dec w G css l) (hg : ∀ k ∈ G, k ∈ G') : Decs Dec w G' css l := ⟨h.1, fun i cs a h1 h2 => D.mono (h.2 i cs a h1 h2) hg⟩
theorem Decs.app (h : Decs Dec w G css l) (h' : Decs Dec w G css' l') : Decs Dec w G (css ++ css') (l ++ l') := by
  refine ⟨by simp [h.1, h'.1], fun i cs a h1 h2 => ?_⟩
  by_cases hi : i < l.length
  · rw [List.getElem?_append_left (by rw [h.1]; exact hi)] at h1
    rw [List.getElem?_append_left hi] at h2
    exact h.2 i cs a h1 h2
  · rw [List.getElem?_append_right (by rw [h.1]; omega), h.1] at h1
    rw [List.getElem?_append_right (by omega)] at h2
    exact h'.2 _ cs a h1 h2
theorem Decs.one' (h : Dec w G cs a) : Decs Dec w G [cs] [a] := by
  refine ⟨rfl, fun i c b h1 h2 => ?_⟩
  cases i with
  | zero => simp at h1 h2; subst h1 h2; exact h
  | succ i => simp at h1
theorem Decs.lens (D : DecOk n Dec) (h : Decs Dec w G css l) : ∀ cs ∈ css, cs.length = n := by
  intro cs hm
  obtain ⟨i, hi⟩ := List.getElem?_of_mem hm
  have hlt : i < css.length := (List.getElem?_eq_some_iff.1 hi).1
  exact D.len (h.2 i cs _ hi (List.getElem?_eq_getElem (by rw [← h.1]; exact hlt)))
theorem Decs.ones (D : DecOk n Dec) (h : Decs Dec w G css l) : ∀ u ∈ css.flatten, u.oneCell' = true := by
  intro u hu
  obtain ⟨cs, hm, hu⟩ := List.mem_flatten.1 hu
  obtain ⟨i, hi⟩ := List.getElem?_of_mem hm
  have hlt : i < css.length := (List.getElem?_eq_some_iff.1 hi).1
  exact D.one (h.2 i cs _ hi (List.getElem?_eq_getElem (by rw [← h.1]; exact hlt))) u hu
end
theorem flat_len {α : Type} {n : Nat} : ∀ {css : List (List α)}, (∀ cs ∈ css, cs.length = n) → css.flatten.length = css.length * n
  | [], _ => by simp
  | cs :: css, h => by
    rw [List.flatten_cons, List.length_append, h cs (by simp), flat_len (fun c hc => h c (by simp [hc])), List.length_cons, Nat.succ_mul, Nat.add_comm]
theorem flat_get {α : Type} {n : Nat} : ∀ {css : List (List α)}, (∀ cs ∈ css, cs.length = n) → ∀ (i j : Nat) (cs : List α), css[i]? = some cs → j < n → css.flatten[i * n + j]? = cs[j]?
  | [], _, i, j, cs, h, _ => by simp at h
  | c :: css, hl, 0, j, cs, h, hj => by
    simp at h; subst h
    rw [List.flatten_cons, List.getElem?_append_left (by rw [hl c (by simp)]; omega), Nat.zero_mul, Nat.zero_add]
  | c :: css, hl, i + 1, j, cs, h, hj => by
    have hc := hl c (by simp)
    rw [List.flatten_cons, List.getElem?_append_right (by rw [hc, Nat.succ_mul]; omega), hc, Nat.succ_mul, show i * n + n + j - n = i * n + j by omega]
    exact flat_get (fun c hc => hl c (by simp [hc])) i j cs (by simpa using h) hj
structure LVx {α : Type} (Dec : World → List Nat → List Value → α → Prop) (e : TypeId) (n : Nat) (W w : World) (v : Value) (l : List α) (css : List (List Value)) (G : List Nat) : Prop where
  own : Own w e n v l.length css.flatten
  new : ∀ k ∈ rowOf v, W.heap.size ≤ k
  decs : Decs Dec w G css l
  apart : ∀ k ∈ G, k ∉ rowOf v ∧ k < w.heap.size
  keptW : Kept [] W w
def LV {α : Type} (Dec : World → List Nat → List Value → α → Prop) (e : TypeId) (n : Nat) (W w : World) (v : Value) (l : List α) : Prop := ∃ css G, LVx Dec e n W w v l css G
section
variable {α : Type} {n : Nat} {e : TypeId} {Dec : World → List Nat → List Value → α → Prop} {W W' w w' w1 w2 : World} {v v2 : Value} {G G' S : List Nat} {css css' : List (List Value)} {l l' : List α}
theorem LV.nil (hk : Kept [] W w) : LV Dec e n W w (.slice none 0 0) ([] : List α) :=
  ⟨[], [], Own.nil _ _ _, by simp [rowOf, Value.ownBlock], Decs.nil, by simp, hk⟩
theorem LVx.go (D : DecOk n Dec) (h : LVx Dec e n W w v l css G) (hk : Kept [] w w') : LVx Dec e n W w' v l css G :=
  ⟨h.own.kept hk (by simp), h.new, h.decs.kept D hk (by simp), fun k hk' => ⟨(h.apart k hk').1, Nat.lt_of_lt_of_le (h.apart k hk').2 hk.size⟩, h.keptW.trans hk (by simp)⟩
theorem LV.go (D : DecOk n Dec) (h : LV Dec e n W w v l) (hk : Kept [] w w') : LV Dec e n W w' v l := by
  obtain ⟨css, G, h⟩ := h
  exact ⟨css, G, h.go D hk⟩
theorem LV.wide (h : LV Dec e n W' w v l) (hk : Kept [] W W') : LV Dec e n W w v l := by
  obtain ⟨css, G, h⟩ := h
  exact ⟨css, G, h.own, fun k hk' => Nat.le_trans hk.size (h.new k hk'), h.decs, h.apart, hk.trans h.keptW (by simp)⟩
theorem LV.kept (h : LV Dec e n W w v l) : Kept [] W w := by obtain ⟨_, _, h⟩ := h; exact h.keptW
theorem LVx.other (D : DecOk n Dec) (h : LVx Dec e n W w v l css G) (hk : Kept S w w') (h1 : ∀ k ∈ rowOf v, k ∉ S) (h2 : ∀ k ∈ G, k ∉ S) (h3 : ∀ k ∈ S, W.heap.size ≤ k) : LVx Dec e n W w' v l css G :=
  ⟨h.own.kept hk h1, h.new, h.decs.kept D hk h2, fun k hk' => ⟨(h.apart k hk').1, Nat.lt_of_lt_of_le (h.apart k hk').2 hk.size⟩, h.keptW.trans hk (fun i hi => .inr (h3 i hi))⟩
theorem LVx.app (D : DecOk n Dec) (h : LVx Dec e n W w v l css G) (hk1 : Kept [] w w1) {m : Nat} {xs : List Value} (hd : Decs Dec w1 G' css' l') (hG : ∀ k ∈ G', k ∉ rowOf v ∧ k < w1.heap.size)
    (ho : Own w2 e n v2 m xs) (hm : m = (l ++ l').length) (hxs : xs = css.flatten ++ css'.flatten) (hk2 : Kept (rowOf v) w1 w2) (hr : ∀ k ∈ rowOf v2, k ∈ rowOf v ∨ w1.heap.size ≤ k) :
    LVx Dec e n W w2 v2 (l ++ l') (css ++ css') (G ++ G') := by
  subst hm hxs
  have h1 := h.go D hk1
  have hsz := h1.keptW.size
  have hap : ∀ k ∈ G ++ G', k ∉ rowOf v ∧ k < w1.heap.size := fun k hk => by
    rcases List.mem_append.1 hk with hk | hk
    · exact h1.apart k hk
    · exact hG k hk
  refine ⟨by rw [List.flatten_append]; exact ho, fun k hk => ?_, ?_, fun k hk => ⟨fun hm => ?_, Nat.lt_of_lt_of_le (hap k hk).2 hk2.size⟩, h1.keptW.trans hk2 (fun i hi => .inr (h.new i hi))⟩
  · rcases hr k hk with h3 | h3
    · exact h.new k h3
    · omega
  · refine Decs.kept D (Decs.app (h1.decs.mono D (fun k hk => List.mem_append_left _ hk)) (hd.mono D (fun k hk => List.mem_append_right _ hk))) hk2 (fun k hk => (hap k hk).1)
  · rcases hr k hm with h3 | h3
    · exact (hap k hk).1 h3
    · have := (hap k hk).2; omega
theorem LVx.arr (D : DecOk n Dec) (h : LVx Dec e n W w v l css G) : ArrOf w (G ++ rowOf v) n (fun w => Dec w (G ++ rowOf v)) v l := by
  obtain ⟨A, cap, rfl, h1, h2, h3, h4, h5⟩ := h.own.slice
  refine ⟨A, _, cap, rfl, rfl, h1, h2, h5, fun hne => ?_⟩
  have hl := h.decs.lens D
  obtain ⟨a0, l0, rfl⟩ : ∃ a l0, l = a :: l0 := by cases l with | nil => exact absurd rfl hne | cons a l => exact ⟨a, l, rfl⟩
  rcases h.own.2 with ⟨h0, h00⟩ | ⟨g, cap', cur, hv, _, hg, _⟩
  · simp at h00
  · injection hv with e1 e2 e3
    subst e1
    refine ⟨g, 0, rfl, List.mem_append_right _ (by simp [rowOf, Value.ownBlock]), (Array.getElem?_eq_some_iff.1 hg).1, fun i a hi => ?_⟩
    have hlt := (List.getElem?_eq_some_iff.1 hi).1
    have hcs : css[i]? = some (css[i]'(by rw [h.decs.1]; exact hlt)) := List.getElem?_eq_getElem _
    refine ⟨_, D.len (h.decs.2 i _ a hcs hi), D.mono (h.decs.2 i _ a hcs hi) (fun k hk => List.mem_append_left _ hk), fun j hj => ?_⟩
    have hx : css.flatten[i * n + j]? = (css[i]'(by rw [h.decs.1]; exact hlt))[j]? := flat_get hl i j _ hcs hj
    have hsome : (css[i]'(by rw [h.decs.1]; exact hlt))[j]? = some ((css[i]'(by rw [h.decs.1]; exact hlt))[j]'(by rw [D.len (h.decs.2 i _ a hcs hi)]; exact hj)) := List.getElem?_eq_getElem _
    rw [hsome] at hx ⊢
    have := World.ownsRow.cells (g := g) h.own (by simp [Value.ownBlock]) (i * n + j) _ hx
    rwa [Addr.add_lit] at this
theorem LVx.lt (h : LVx Dec e n W w v l css G) : ∀ k ∈ G ++ rowOf v, k < w.heap.size := fun k hk => by
  rcases List.mem_append.1 hk with hk | hk
  · exact (h.apart k hk).2
  · exact h.own.lt k hk
theorem LV.arr (D : DecOk n Dec) (h : LV Dec e n W w v l) : ∃ G, ArrOf w G n (fun w => Dec w G) v l ∧ ∀ k ∈ G, k < w.heap.size := by
  obtain ⟨css, G, h⟩ := h
  exact ⟨_, h.arr D, h.lt⟩
end
theorem ArrOf.decs {α : Type} {n : Nat} {Dec : World → List Nat → List Value → α → Prop} {w : World} {G : List Nat} {v : Value} {l : List α} (h : ArrOf w G n (fun w => Dec w G) v l) :
    ∃ A m c css, v = .slice A m c ∧ l.length = m ∧ m ≤ c ∧ c ≤ maxLen ∧ (A = none → m = 0 ∧ c = 0) ∧ Decs Dec w G css l ∧ (∀ cs ∈ css, cs.length = n) ∧ Rd w A css.flatten := by
  obtain ⟨A, m, c, h1, h2, h3, h4, h5, h6⟩ := h
  by_cases hne : l = []
  · subst hne
    exact ⟨A, m, c, [], h1, h2, h3, h4, h5, Decs.nil, by simp, Rd.nil _ _⟩
  · obtain ⟨g, o, rfl, hg, hlt, hc⟩ := h6 hne
    have hE : ∀ i, i < l.length → ∃ cs : List Value, cs.length = n ∧ (∀ a, l[i]? = some a → Dec w G cs a) ∧ ∀ j, j < n → w.cell? ⟨g, o + (i * n + j), none⟩ = cs[j]? := fun i hi => by
      obtain ⟨cs, f1, f2, f3⟩ := hc i _ (List.getElem?_eq_getElem hi)
      exact ⟨cs, f1, fun a ha => by rw [List.getElem?_eq_getElem hi] at ha; injection ha with ha; rw [← ha]; exact f2, f3⟩
    obtain ⟨f, hf⟩ := Go.Deep.choose_lt hE
    have hall : ∀ cs ∈ (List.range l.length).map f, cs.length = n := fun cs hm => by
      obtain ⟨i, hi, rfl⟩ := List.mem_map.1 hm
      exact (hf i (List.mem_range.1 hi)).1
    refine ⟨_, m, c, (List.range l.length).map f, h1, h2, h3, h4, h5, ⟨by simp, fun i cs a hi ha => ?_⟩, hall, fun hne' => ⟨g, o, rfl, fun j u hu => ?_⟩⟩
    · have hlt' := (List.getElem?_eq_some_iff.1 ha).1
      have : cs = f i := by simpa [hlt'] using hi.symm
      rw [this]
      exact (hf i hlt').2.1 a ha
    · have hn : 0 < n := by
        rcases Nat.eq_zero_or_pos n with h0 | h0
        · subst h0
          have := flat_len hall
          rw [Nat.mul_zero] at this
          exact absurd (List.eq_nil_of_length_eq_zero this) hne'
        · exact h0
      have hj : j < l.length * n := by
        have := (List.getElem?_eq_some_iff.1 hu).1
        rw [flat_len hall] at this
        simpa using this
      have hi : j / n < l.length := Nat.div_lt_of_lt_mul (by rw [Nat.mul_comm]; exact hj)
      have hjn : j % n < n := Nat.mod_lt _ hn
      have he : j / n * n + j % n = j := by rw [Nat.mul_comm]; exact Nat.div_add_mod j n
      have hx := flat_get hall (j / n) (j % n) (f (j / n)) (by simp [hi]) hjn
      rw [he, hu] at hx
      have := (hf _ hi).2.2 _ hjn
      rw [he] at this
      rw [this, ← hx]
theorem Rd.laid (w : World) (cs : List Value) (t : TypeId) : Rd (w.alloc (.cells cs.toArray t)) (some ⟨w.heap.size, 0, none⟩) cs := by
  have := Rd.new w cs.toArray t
  simpa using this
end
end Go.Proofs.YtgndijdhmkphaaaGreatDoor
