/-
  Plain lemmas on worlds: blocks known whole, what a call keeps, rows of the call's own, slices that read as lists. No function of the program stands here.
-/
import Derived.WalkKit
import Derived.WalkSpells
import Derived.WalkLawsBesides
import Derived.Deep.Draws
import Derived.Deep.AppendLies
import Derived.Maps.AppendAt
import Derived.Lib.Hide
namespace Go.Proofs.YtgndijdhmkphaaaGreatDoor
open Go.RowKit
set_option linter.unusedVariables false
set_option maxRecDepth 100000

/-- what a call keeps: of the blocks that were there all but those of S -/
structure Kept (S : List Nat) (w w' : World) : Prop where
  os : w'.os = w.os
  tape : w'.tape = w.tape
  output : w'.output = w.output
  size : w.heap.size ≤ w'.heap.size
  block : ∀ k, k < w.heap.size → k ∉ S → w'.heap[k]? = w.heap[k]?

namespace Kept
variable {S T : List Nat} {w w' a b c : World}
theorem refl (S : List Nat) (w : World) : Kept S w w := ⟨rfl, rfl, rfl, Nat.le_refl _, fun _ _ _ => rfl⟩
theorem trans (h : Kept S a b) (k : Kept T b c) (ht : ∀ i ∈ T, i ∈ S ∨ a.heap.size ≤ i) : Kept S a c :=
  ⟨k.os.trans h.os, k.tape.trans h.tape, k.output.trans h.output, Nat.le_trans h.size k.size, fun i hi hs =>
    (k.block i (Nat.lt_of_lt_of_le hi h.size) (fun hT => by rcases ht i hT with h1 | h1; exact hs h1; omega)).trans (h.block i hi hs)⟩
theorem mono (h : Kept S w w') (hs : ∀ i ∈ S, i ∈ T ∨ w.heap.size ≤ i) : Kept T w w' :=
  ⟨h.os, h.tape, h.output, h.size, fun i hi ht => h.block i hi (fun hS => by rcases hs i hS with h1 | h1; exact ht h1; omega)⟩
theorem drew (h : Kept S a w) : Kept S a w.drew := ⟨h.os, h.tape, h.output, h.size, h.block⟩
theorem drewN (h : Kept S a w) (n : Nat) : Kept S a (w.drewN n) := ⟨h.os, h.tape, h.output, h.size, h.block⟩
theorem alloc (h : Kept S a w) (o : Obj) : Kept S a (w.alloc o) :=
  ⟨h.os, h.tape, h.output, Nat.le_trans h.size (by simp), fun i hi hs => (Below.heap_alloc w o i (Nat.lt_of_lt_of_le hi h.size)).trans (h.block i hi hs)⟩
theorem setCell (h : Kept S a w) {p : Addr} (hp : p.block ∈ S ∨ a.heap.size ≤ p.block) (u : Value) : Kept S a (w.setCell p u) :=
  ⟨h.os, h.tape, h.output, by simpa using h.size, fun i hi hs => (Below.heap_setCell w p u i (fun e => by rcases hp with h1 | h1; exact hs (e ▸ h1); omega)).trans (h.block i hi hs)⟩
theorem grown (h : Kept S a w) {row : Option Nat} (hg : w.grownBy w' row) (hr : ∀ k, row = some k → k ∈ S ∨ a.heap.size ≤ k) : Kept S a w' :=
  ⟨hg.os.trans h.os, hg.tape.trans h.tape, hg.output.trans h.output, Nat.le_trans h.size hg.size, fun i hi hs =>
    (hg.block i (Nat.lt_of_lt_of_le hi h.size) (fun e => by rcases hr i e.symm with h1 | h1; exact hs h1; omega)).trans (h.block i hi hs)⟩
theorem below (h : Kept S w w') {B : Nat} (hB : B ≤ w.heap.size) (hs : ∀ i ∈ S, B ≤ i) : Below B w w' :=
  ⟨h.os, h.tape, h.output, h.size, fun k hk => h.block k (by omega) (fun hS => by have := hs k hS; omega)⟩
theorem cell (h : Kept S w w') {p : Addr} (hlt : p.block < w.heap.size) (hp : p.block ∉ S) : w'.cell? p = w.cell? p := World.cell?_of_block (h.block _ hlt hp)
theorem frozen (h : Kept S w w') {p : Addr} (hlt : p.block < w.heap.size) (hp : p.block ∉ S) : w'.frozen? p = w.frozen? p := World.frozen?_of_block (h.block _ hlt hp)
end Kept

/-- block g is just the cells cs of element type t, none frozen -/
def Blk (w : World) (g : Nat) (t : TypeId) (cs : Array Value) : Prop := w.heap[g]? = some (.cells cs t (0, 0))
namespace Blk
variable {w w' : World} {g : Nat} {t : TypeId} {cs : Array Value}
theorem lt (h : Blk w g t cs) : g < w.heap.size := (Array.getElem?_eq_some_iff.1 h).1
theorem cell (h : Blk w g t cs) (i : Nat) : w.cell? ⟨g, i, none⟩ = cs[i]? := cell_of_row w g i cs t (0, 0) h
theorem frozen (h : Blk w g t cs) (i : Nat) : w.frozen? ⟨g, i, none⟩ = false := by unfold Blk at h; simp [World.frozen?, h]
theorem new (w : World) (t : TypeId) (cs : Array Value) : Blk (w.alloc (.cells cs t)) w.heap.size t cs := heap_alloc_new w _
theorem drew (h : Blk w g t cs) : Blk w.drew g t cs := h
theorem drewN (h : Blk w g t cs) (n : Nat) : Blk (w.drewN n) g t cs := h
theorem alloc (h : Blk w g t cs) (o : Obj) : Blk (w.alloc o) g t cs := (Below.heap_alloc w o g h.lt).trans h
theorem set (h : Blk w g t cs) (i : Nat) (u : Value) : Blk (w.setCell ⟨g, i, none⟩ u) g t (cs.setIfInBounds i u) := by
  unfold Blk at h ⊢; simp [World.setCell, Array.getElem?_modify, h]
theorem kept {S : List Nat} (h : Blk w g t cs) (hk : Kept S w w') (hg : g ∉ S) : Blk w' g t cs := (hk.block g h.lt hg).trans h
theorem grown {row : Option Nat} (h : Blk w g t cs) (hb : w.grownBy w' row) (hg : some g ≠ row) : Blk w' g t cs := (hb.block g h.lt hg).trans h
theorem inj {t' : TypeId} {cs' : Array Value} (h : Blk w g t cs) (h' : Blk w g t' cs') : t = t' ∧ cs = cs' := by
  have e := Option.some.inj (h.symm.trans h'); injection e with e1 e2; exact ⟨e2, e1⟩
end Blk

/-- the row that a slice of the call's own lies in -/
def rowOf (v : Value) : List Nat := v.ownBlock.toList
theorem mem_rowOf {v : Value} {k : Nat} : k ∈ rowOf v ↔ v.ownBlock = some k := by unfold rowOf; simp
/-- v is a slice of the call's own: nil, or at the head of a block of its own; it has n elements of s cells each, xs -/
def Own (w : World) (e : TypeId) (s : Nat) (v : Value) (n : Nat) (xs : List Value) : Prop := w.ownsRow 0 e s v n xs
namespace Own
variable {w w' : World} {e : TypeId} {s n : Nat} {v : Value} {xs : List Value}
theorem nil (w : World) (e : TypeId) (s : Nat) : Own w e s (.slice none 0 0) 0 [] := World.ownsRow_nil w 0 e s
theorem lt (h : Own w e s v n xs) : ∀ k ∈ rowOf v, k < w.heap.size := fun k hk => (World.ownsRow.lt h k (mem_rowOf.1 hk)).2
theorem kept {S : List Nat} (h : Own w e s v n xs) (hk : Kept S w w') (hd : ∀ k ∈ rowOf v, k ∉ S) : Own w' e s v n xs := by
  refine ⟨h.1, ?_⟩
  rcases h.2 with h0 | ⟨g, cap, cur, rfl, hb, hg, r⟩
  · exact .inl h0
  · exact .inr ⟨g, cap, cur, rfl, hb, (hk.block g (Array.getElem?_eq_some_iff.1 hg).1 (hd g (mem_rowOf.2 rfl))).trans hg, r⟩
theorem drew (h : Own w e s v n xs) : Own w.drew e s v n xs := h
theorem drewN (h : Own w e s v n xs) (k : Nat) : Own (w.drewN k) e s v n xs := h
theorem alloc (h : Own w e s v n xs) (o : Obj) : Own (w.alloc o) e s v n xs := World.ownsRow.alloc h o
/-- what it is: nil, or an address, its length, a capacity -/
theorem form (h : Own w e s v n xs) : ∃ A cap, v = .slice A n cap ∧ n ≤ cap ∧ cap ≤ maxLen := by
  rcases h.2 with ⟨rfl, h0⟩ | ⟨g, cap, cur, rfl, _, _, hn, hm, _⟩
  · exact ⟨none, 0, by rw [h0], by omega, by unfold maxLen; omega⟩
  · exact ⟨_, cap, rfl, hn, hm⟩
/-- the same, its length a letter of its own (so that the walk does not spell it otherwise) -/
theorem form' (h : Own w e s v n xs) : ∃ A m cap, v = .slice A m cap := by
  obtain ⟨A, cap, h, _⟩ := h.form
  exact ⟨A, n, cap, h⟩
end Own

/-- a slice that is read: its address, its elements (one cell each), which lie in blocks below B -/
def Rd (w : World) (A : Option Addr) (xs : List Value) : Prop :=
  xs ≠ [] → ∃ g o, A = some ⟨g, o, none⟩ ∧ ∀ j u, xs[j]? = some u → w.cell? ⟨g, o + j, none⟩ = some u
/-- the block that it lies in -/
def addrOf (A : Option Addr) : List Nat := (A.map (·.block)).toList
namespace Rd
variable {w w' : World} {A : Option Addr} {xs : List Value}
theorem nil (w : World) (A : Option Addr) : Rd w A [] := fun h => absurd rfl h
theorem lt (h : Rd w A xs) (hx : xs ≠ []) : ∀ k ∈ addrOf A, k < w.heap.size := by
  intro k hk
  obtain ⟨g, o, rfl, hc⟩ := h hx
  have hk : k = g := by simpa [addrOf] using hk
  rw [hk]
  cases xs with
  | nil => exact absurd rfl hx
  | cons u r => exact World.block_lt_of_cell? w ⟨g, o + 0, none⟩ (hc 0 u rfl)
theorem kept {S : List Nat} (h : Rd w A xs) (hk : Kept S w w') (hd : xs ≠ [] → ∀ k ∈ addrOf A, k ∉ S) : Rd w' A xs := by
  intro hx
  have hd := hd hx
  have hlt := h.lt hx
  obtain ⟨g, o, rfl, hc⟩ := h hx
  exact ⟨g, o, rfl, fun j u hu => (hk.cell (p := ⟨g, o + j, none⟩) (hlt g (by simp [addrOf])) (hd g (by simp [addrOf]))).trans (hc j u hu)⟩
theorem of_own {e : TypeId} {s n : Nat} {v : Value} (h : Own w e s v n xs) : ∃ A cap, v = .slice A n cap ∧ n ≤ cap ∧ cap ≤ maxLen ∧ Rd w A xs ∧ addrOf A = rowOf v := by
  rcases h.2 with ⟨rfl, h0⟩ | ⟨g, cap, cur, rfl, hb, hg, hn, hm, hs, ht⟩
  · refine ⟨none, 0, by rw [h0], by omega, by unfold maxLen; omega, ?_, rfl⟩
    rw [List.eq_nil_of_length_eq_zero (h.1.trans (by rw [h0]; omega))]; exact Rd.nil _ _
  · refine ⟨_, cap, rfl, hn, hm, fun _ => ⟨g, 0, rfl, fun j u hu => ?_⟩, rfl⟩
    have := World.ownsRow.cells (g := g) h rfl j u hu
    rwa [Addr.add_lit] at this
theorem drew (h : Rd w A xs) : Rd w.drew A xs := h
theorem drewN (h : Rd w A xs) (n : Nat) : Rd (w.drewN n) A xs := h
theorem alloc (h : Rd w A xs) (o : Obj) : Rd (w.alloc o) A xs := by
  intro hx
  have hlt := h.lt hx
  obtain ⟨g, p, rfl, hc⟩ := h hx
  exact ⟨g, p, rfl, fun j u hu => (World.cell?_alloc_lt w o ⟨g, p + j, none⟩ (hlt g (by simp [addrOf]))).trans (hc j u hu)⟩
end Rd

/-- what an append asks of the tables: t is the slice type of e, whose elements have so many cells, so many bytes -/
structure Elem (P : Program) (t e : TypeId) (size bytes : Nat) : Prop where
  ex : ∃ i z, P.underlying t = some (.slice e) ∧ P.info? e = some i ∧ i.zero = some z ∧ i.size = size ∧ i.bytes = bytes ∧ z.cells.size = size ∧ 0 < size
theorem Elem.mk' {P : Program} {t e : TypeId} {size bytes : Nat} {z : Value} (ht : P.underlying t = some (.slice e)) (h : (P.info? e).map (fun i => (i.zero, i.size, i.bytes)) = some (some z, size, bytes)) (hz : z.cells.size = size) (hs : 0 < size) : Elem P t e size bytes := by
  obtain ⟨i, h1, h2, h3, h4⟩ := info_parts h
  exact ⟨i, z, ht, h1, h2, h3, h4, hz, hs⟩

section
variable {P : Program} (w : World)
theorem run_append_nothing {t ty e : TypeId} {size bytes : Nat} (E : Elem P t e size bytes) {v : Value} {n : Nat} {xs : List Value} (hown : Own w e size v n xs) (A : Option Addr) (c : Nat) (hA : A = none ∨ Rd w A []) :
    (Builtin.append_ #[t, t] ty #[v, .slice A 0 c]).run P w = .ok v w := by
  obtain ⟨i, z, ht, hi, hz, hs, hb, hzs, hpos⟩ := E.ex
  rcases hown.2 with ⟨rfl, rfl⟩ | ⟨g, cap, cur, rfl, _, _, hnc, _⟩
  · cases A <;> simp [Builtin.append_, run_underlying ht, sizeOf, typeInfo, hi, Builtin.lenOf, Builtin.firstCells, loadCells, loadCellsFrom]
  · cases A <;> simp [Builtin.append_, run_underlying ht, sizeOf, typeInfo, hi, Builtin.lenOf, Builtin.firstCells, hnc, storeCells, loadCells, loadCellsFrom]

theorem run_app {t ty e : TypeId} {size bytes : Nat} (E : Elem P t e size bytes) {v : Value} {n : Nat} {xs : List Value} (hown : Own w e size v n xs)
    {A : Option Addr} {m c : Nat} {news : List Value} (hr : Rd w A news) (hl : news.length = m * size) (h1 : ∀ u ∈ news, u.oneCell' = true)
    (h63 : n + m ≤ maxLen) (hbytes : (n + m) * bytes ≤ 140737488355328) :
    ∃ v' w', (Builtin.append_ #[t, t] ty #[v, .slice A m c]).run P w = .ok v' w' ∧ Own w' e size v' (n + m) (xs ++ news) ∧ Kept (rowOf v) w w' ∧ (∀ k ∈ rowOf v', k ∈ rowOf v ∨ w.heap.size ≤ k) := by
  by_cases hm : m = 0
  · subst hm
    have hn : news = [] := List.eq_nil_of_length_eq_zero (by simpa using hl)
    subst hn
    exact ⟨v, w, run_append_nothing w E hown A c (.inr (Rd.nil _ _)), by simpa using hown, Kept.refl _ _, fun k hk => .inl hk⟩
  · obtain ⟨i, z, ht, hi, hz, hs, hb, hzs, hpos⟩ := E.ex
    have hne : news ≠ [] := by
      rintro rfl
      have : m * size = 0 := by simpa using hl.symm
      rcases Nat.mul_eq_zero.1 this with h | h <;> omega
    obtain ⟨g, o, rfl, hc⟩ := hr hne
    obtain ⟨v', w', hrun, h2, h3, _, h5⟩ := run_append_own_at (P := P) w 0 t ty e i z size bytes ht hi hz hs hb hzs hpos v n xs hown ⟨g, o, none⟩ m c news hl (fun j u hu => by rw [Addr.add_lit]; exact hc j u hu) h1 h63 hbytes (Nat.zero_le _)
    refine ⟨v', w', hrun, h2, (Kept.refl (rowOf v) w).grown h3 (fun k hk => .inl (mem_rowOf.2 hk)), fun k hk => ?_⟩
    rcases h5 with h5 | h5
    · exact .inl (mem_rowOf.2 (h5 ▸ mem_rowOf.1 hk))
    · have := mem_rowOf.1 hk
      rw [h5] at this
      injection this with this
      exact .inr (by omega)

theorem wp_app {o : Oper} {a : Act} {K : Act → World → Prop} {Q : Exit → Act → World → Prop} (s x : Operand) (t : TypeId)
    (ho : o.op = .call { callee := .builtin .append, args := #[s, x], argTypes := #[t, t] })
    {e : TypeId} {size bytes : Nat} (E : Elem P t e size bytes) {v : Value} {n : Nat} {xs : List Value} (hs : a.eval s = v) (hown : Own w e size v n xs)
    {A : Option Addr} {m c : Nat} {news : List Value} (hx : a.eval x = .slice A m c) (hr : Rd w A news) (hl : news.length = m * size) (h1 : ∀ u ∈ news, u.oneCell' = true)
    (h63 : n + m ≤ maxLen) (hbytes : (n + m) * bytes ≤ 140737488355328)
    (h : ∀ v' w', Own w' e size v' (n + m) (xs ++ news) → Kept (rowOf v) w w' → (∀ k ∈ rowOf v', k ∈ rowOf v ∨ w.heap.size ≤ k) → K (a.put o.dst v') w') : o.wp P a w K Q := by
  obtain ⟨v', w', hrun, h2, h3, h4⟩ := run_app (P := P) (ty := o.type) w E hown hr hl h1 h63 hbytes
  unfold Oper.wp execOp
  simp only [ho, resolve, invoke, builtin, Sem.run_bind, Sem.run_pure, Result.andThen_ok, List.map_toArray, List.map_cons, List.map_nil, hs, hx]
  rw [hrun]
  exact h v' w' h2 h3 h4

theorem wpList_app {ops : Array Oper} {rest : List Oper} {o : Oper} {a : Act} {Q : Exit → Act → World → Prop} (hgd : o.guard = none) (s x : Operand) (t : TypeId)
    (ho : o.op = .call { callee := .builtin .append, args := #[s, x], argTypes := #[t, t] })
    {e : TypeId} {size bytes : Nat} (E : Elem P t e size bytes) {v : Value} {n : Nat} {xs : List Value} (hs : a.eval s = v) (hown : Own w e size v n xs)
    {A : Option Addr} {m c : Nat} {news : List Value} (hx : a.eval x = .slice A m c) (hr : Rd w A news) (hl : news.length = m * size) (h1 : ∀ u ∈ news, u.oneCell' = true)
    (h63 : n + m ≤ maxLen) (hbytes : (n + m) * bytes ≤ 140737488355328)
    (h : ∀ v' w', Own w' e size v' (n + m) (xs ++ news) → Kept (rowOf v) w w' → (∀ k ∈ rowOf v', k ∈ rowOf v ∨ w.heap.size ≤ k) → wpList P ops Q rest (a.put o.dst v') w') : wpList P ops Q (o :: rest) a w :=
  wpList_plain hgd fun _ hK => wp_app w s x t ho E hs hown hx hr hl h1 h63 hbytes fun v' w' h2 h3 h4 => hK _ _ (h v' w' h2 h3 h4)

theorem step_app {ops : Array Oper} {o : Oper} {a : Act} {K : Act → World → Prop} {Q : Exit → Act → World → Prop} {E0 : Prop} (hgd : o.guard = none) (s x : Operand) (t : TypeId)
    (ho : o.op = .call { callee := .builtin .append, args := #[s, x], argTypes := #[t, t] })
    {e : TypeId} {size bytes : Nat} (E : Elem P t e size bytes) {v : Value} {n : Nat} {xs : List Value} (hs : a.eval s = v) (hown : Own w e size v n xs)
    {A : Option Addr} {m c : Nat} {news : List Value} (hx : a.eval x = .slice A m c) (hr : Rd w A news) (hl : news.length = m * size) (h1 : ∀ u ∈ news, u.oneCell' = true)
    (h63 : n + m ≤ maxLen) (hbytes : (n + m) * bytes ≤ 140737488355328)
    (h : ∀ v' w', Own w' e size v' (n + m) (xs ++ news) → Kept (rowOf v) w w' → (∀ k ∈ rowOf v', k ∈ rowOf v ∨ w.heap.size ≤ k) → K (a.put o.dst v') w') :
    if Region.wanted o (yielded ops a.tmps) = true then Oper.wp P o a w K Q else E0 := by
  rw [if_pos (by simp [Region.wanted, hgd])]
  exact wp_app w s x t ho E hs hown hx hr hl h1 h63 hbytes h
end

/-- one element, laid in a block of its own, as append's source -/
theorem Rd.one (w : World) (x : Value) (t : TypeId) : Rd (w.alloc (.cells #[x] t)) (some ⟨w.heap.size, 0, none⟩) [x] := fun _ => ⟨_, _, rfl, fun j u hu => by
  have := cell_one_new w x t j u hu
  rwa [Addr.add_lit] at this⟩
theorem Rd.new (w : World) (cs : Array Value) (t : TypeId) : Rd (w.alloc (.cells cs t)) (some ⟨w.heap.size, 0, none⟩) cs.toList := fun _ => ⟨_, _, rfl, fun j u hu => by
  rw [Nat.zero_add, (Blk.new w t cs).cell j]; simpa using hu⟩
end Go.Proofs.YtgndijdhmkphaaaGreatDoor
