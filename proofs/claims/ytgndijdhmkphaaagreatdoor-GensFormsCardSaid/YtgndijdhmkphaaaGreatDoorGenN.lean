/-
  Sets of backends: the library's CompactFunc, in place.
-/
import Derived.Test.YtgndijdhmkphaaaGreatDoorRecM
import Derived.Test.YtgndijdhmkphaaaGreatDoorRecB
import Derived.Test.YtgndijdhmkphaaaGreatDoorRow
namespace Go.Proofs.YtgndijdhmkphaaaGreatDoor
set_option linter.unusedVariables false
section
open Go.RowKit
set_option maxRecDepth 100000
def incB : List BackD → Bool
  | a :: b :: l => decide (a.id < b.id) && incB (b :: l)
  | _ => true
def mayBs (l : List BackD) : Bool := decide (l.length ≤ 16) && (l.all mayB && incB l)
def weightB (l : List BackD) : Int := (l.map fun b => if 1 ≤ b.weight ∧ b.weight ≤ 10 then b.weight else 0).sum
def insB (x : BackD) : List BackD → List BackD
  | [] => [x]
  | y :: r => if y.id ≤ x.id then y :: insB x r else x :: y :: r
def isortB (l : List BackD) : List BackD := l.foldl (fun acc x => insB x acc) []
def dedB : List BackD → List BackD
  | [] => []
  | [a] => [a]
  | a :: b :: l => if b.id = a.id then dedB (a :: l) else a :: dedB (b :: l)
termination_by l => l.length
def sortB (l : List BackD) : List BackD := dedB (isortB (l.take 16).reverse)
def repB (x : BackD) : List BackD → List BackD
  | [] => [x]
  | y :: r => if y.id < x.id then y :: repB x r else if y.id = x.id then x :: r else x :: y :: r
def rsortB (l : List BackD) : List BackD := (l.take 16).foldl (fun acc x => repB x acc) []
def findB (l : List BackD) (id : Int) : Option BackD := l.find? fun b => b.id == id
theorem incB_cons {a : BackD} {l : List BackD} : incB (a :: l) = true ↔ (∀ b ∈ l, a.id < b.id) ∧ incB l = true := by
  induction l generalizing a with
  | nil => simp [incB]
  | cons b l ih =>
    rw [incB, Bool.and_eq_true, decide_eq_true_eq, ih]
    constructor
    · rintro ⟨h1, h2, h3⟩
      refine ⟨fun c hc => ?_, h2, h3⟩
      rcases List.mem_cons.1 hc with rfl | hc
      · exact h1
      · have := h2 c hc; omega
    · rintro ⟨h1, h2⟩
      exact ⟨h1 b (by simp), h2⟩
theorem findB_nil (id : Int) : findB [] id = none := rfl
theorem findB_cons (a : BackD) (l : List BackD) (id : Int) : findB (a :: l) id = if a.id = id then some a else findB l id := by
  unfold findB
  rw [List.find?_cons]
  by_cases h : a.id = id
  · rw [if_pos h, show (a.id == id) = true by simpa using h]
  · rw [if_neg h, show (a.id == id) = false by simpa using h]
theorem findB_app (l m : List BackD) (id : Int) : findB (l ++ m) id = (findB l id).or (findB m id) := by unfold findB; rw [List.find?_append]
theorem findB_none {l : List BackD} {id : Int} : findB l id = none ↔ ∀ b ∈ l, b.id ≠ id := by unfold findB; simp
theorem findB_some {l : List BackD} {id : Int} {b : BackD} (h : findB l id = some b) : b ∈ l ∧ b.id = id := by
  unfold findB at h
  exact ⟨List.mem_of_find?_eq_some h, by simpa using List.find?_some h⟩
theorem inc_ext : ∀ {l m : List BackD}, incB l = true → incB m = true → (∀ id, findB l id = findB m id) → l = m
  | [], [], _, _, _ => rfl
  | [], b :: m, _, _, h => by have := h b.id; rw [findB_nil, findB_cons, if_pos rfl] at this; cases this
  | a :: l, [], _, _, h => by have := h a.id; rw [findB_nil, findB_cons, if_pos rfl] at this; cases this
  | a :: l, b :: m, h1, h2, h => by
    obtain ⟨h1a, h1b⟩ := incB_cons.1 h1
    obtain ⟨h2a, h2b⟩ := incB_cons.1 h2
    have e : a = b := by
      have ha := h a.id
      have hb := h b.id
      rw [findB_cons, if_pos rfl, findB_cons] at ha
      rw [findB_cons, findB_cons, if_pos rfl] at hb
      by_cases hab : b.id = a.id
      · rw [if_pos hab] at ha; exact Option.some.inj ha
      · rw [if_neg hab] at ha
        rw [if_neg (fun e => hab e.symm)] at hb
        obtain ⟨x1, x2⟩ := findB_some ha.symm
        obtain ⟨y1, y2⟩ := findB_some hb
        have := h2a _ x1
        have := h1a _ y1
        omega
    subst e
    congr 1
    refine inc_ext h1b h2b fun id => ?_
    have hi := h id
    rw [findB_cons, findB_cons] at hi
    by_cases ha : a.id = id
    · rw [findB_none.2 (fun b hb => by have := h1a b hb; omega), findB_none.2 (fun b hb => by have := h2a b hb; omega)]
    · rwa [if_neg ha, if_neg ha] at hi
def nondB : List BackD → Prop := List.Pairwise fun a b => a.id ≤ b.id
theorem insB_perm (x : BackD) (l : List BackD) : (insB x l).Perm (x :: l) := by
  induction l with
  | nil => exact List.Perm.refl _
  | cons y r ih =>
    unfold insB
    split
    · exact (ih.cons y).trans (List.Perm.swap x y r)
    · exact List.Perm.refl _
theorem insB_sorted {x : BackD} {l : List BackD} (h : nondB l) : nondB (insB x l) := by
  unfold nondB at *
  induction l with
  | nil => simp [insB]
  | cons y r ih =>
    rw [List.pairwise_cons] at h
    unfold insB
    split
    · rename_i hy
      rw [List.pairwise_cons]
      refine ⟨fun b hb => ?_, ih h.2⟩
      rcases List.mem_cons.1 ((insB_perm x r).mem_iff.1 hb) with rfl | hb
      · exact hy
      · exact h.1 b hb
    · rename_i hy
      rw [List.pairwise_cons, List.pairwise_cons]
      refine ⟨fun b hb => ?_, h.1, h.2⟩
      rcases List.mem_cons.1 hb with rfl | hb
      · omega
      · have := h.1 b hb; omega
theorem insB_find {x : BackD} {l : List BackD} (h : nondB l) (id : Int) : findB (insB x l) id = (findB l id).or (if x.id = id then some x else none) := by
  unfold nondB at h
  induction l with
  | nil => rw [insB, findB_cons, findB_nil]; rfl
  | cons y r ih =>
    rw [List.pairwise_cons] at h
    unfold insB
    split
    · rw [findB_cons, ih h.2, findB_cons]
      split <;> rfl
    · rename_i hy
      rw [findB_cons]
      by_cases hx : x.id = id
      · rw [if_pos hx, if_pos hx, findB_none.2 (fun b hb => by
          rcases List.mem_cons.1 hb with rfl | hb
          · omega
          · have := h.1 b hb; omega)]
        rfl
      · rw [if_neg hx, if_neg hx]; simp
theorem isort_all (l : List BackD) : ∀ acc, nondB acc → (nondB (l.foldl (fun acc x => insB x acc) acc) ∧ (l.foldl (fun acc x => insB x acc) acc).Perm (acc ++ l) ∧ ∀ id, findB (l.foldl (fun acc x => insB x acc) acc) id = (findB acc id).or (findB l id)) := by
  induction l with
  | nil => intro acc h; exact ⟨h, by simp, fun id => by simp [findB_nil]⟩
  | cons x l ih =>
    intro acc h
    obtain ⟨h1, h2, h3⟩ := ih (insB x acc) (insB_sorted h)
    refine ⟨h1, ?_, fun id => ?_⟩
    · refine h2.trans (((insB_perm x acc).append_right l).trans ?_)
      exact List.perm_middle.symm
    · rw [List.foldl_cons, h3, insB_find h, findB_cons, Option.or_assoc]
      congr 1
      split <;> simp
theorem isort_sorted (l : List BackD) : nondB (isortB l) := (isort_all l [] List.Pairwise.nil).1
theorem isort_perm (l : List BackD) : (isortB l).Perm l := by simpa [isortB] using (isort_all l [] List.Pairwise.nil).2.1
theorem isort_find (l : List BackD) (id : Int) : findB (isortB l) id = findB l id := by
  have := (isort_all l [] List.Pairwise.nil).2.2 id
  rw [findB_nil] at this
  exact this
theorem ded_all : ∀ (l : List BackD), nondB l → incB (dedB l) = true ∧ (∀ id, findB (dedB l) id = findB l id) ∧ (∀ b ∈ dedB l, b ∈ l) ∧ (dedB l).length ≤ l.length
  | [], _ => by rw [dedB]; exact ⟨rfl, fun _ => rfl, fun _ h => h, Nat.le_refl _⟩
  | [a], _ => by rw [dedB]; exact ⟨rfl, fun _ => rfl, fun _ h => h, Nat.le_refl _⟩
  | a :: b :: l, h => by
    unfold nondB at h
    rw [List.pairwise_cons, List.pairwise_cons] at h
    obtain ⟨ha, hb, hl⟩ := h
    rw [dedB]
    by_cases e : b.id = a.id
    · rw [if_pos e]
      obtain ⟨h1, h2, h3, h4⟩ := ded_all (a :: l) (List.pairwise_cons.2 ⟨fun c hc => ha c (by simp [hc]), hl⟩)
      refine ⟨h1, fun id => ?_, fun c hc => ?_, ?_⟩
      · rw [h2, findB_cons, findB_cons, findB_cons]
        by_cases hh : a.id = id
        · rw [if_pos hh, if_pos hh]
        · rw [if_neg hh, if_neg hh, if_neg (by omega)]
      · rcases List.mem_cons.1 (h3 c hc) with rfl | hc
        · simp
        · simp [hc]
      · simp only [List.length_cons] at h4 ⊢; omega
    · rw [if_neg e]
      obtain ⟨h1, h2, h3, h4⟩ := ded_all (b :: l) (List.pairwise_cons.2 ⟨hb, hl⟩)
      refine ⟨incB_cons.2 ⟨fun c hc => ?_, h1⟩, fun id => ?_, fun c hc => ?_, ?_⟩
      · have hab := ha b (by simp)
        rcases List.mem_cons.1 (h3 c hc) with rfl | hc
        · omega
        · have := hb c hc; omega
      · rw [findB_cons, h2, findB_cons a]
      · rcases List.mem_cons.1 hc with rfl | hc
        · simp
        · exact List.mem_cons_of_mem _ (h3 c hc)
      · simp only [List.length_cons] at h4 ⊢; omega
termination_by l => l.length
theorem sort_inc (l : List BackD) : incB (sortB l) = true := (ded_all _ (isort_sorted _)).1
theorem sort_find (l : List BackD) (id : Int) : findB (sortB l) id = findB (l.take 16).reverse id := by
  unfold sortB; rw [(ded_all _ (isort_sorted _)).2.1, isort_find]
theorem repB_all {x : BackD} {l : List BackD} (h : incB l = true) : incB (repB x l) = true ∧ (∀ id, findB (repB x l) id = if x.id = id then some x else findB l id) ∧ (∀ b ∈ repB x l, b = x ∨ b ∈ l) := by
  induction l with
  | nil => exact ⟨rfl, fun id => by rw [repB, findB_cons], fun b hb => by simp [repB] at hb; exact .inl hb⟩
  | cons y r ih =>
    obtain ⟨h1, h2⟩ := incB_cons.1 h
    obtain ⟨i1, i2, i3⟩ := ih h2
    unfold repB
    by_cases hy : y.id < x.id
    · rw [if_pos hy]
      refine ⟨incB_cons.2 ⟨fun b hb => ?_, i1⟩, fun id => ?_, fun b hb => ?_⟩
      · rcases i3 b hb with rfl | hb
        · exact hy
        · exact h1 b hb
      · rw [findB_cons, i2, findB_cons]
        by_cases hx : x.id = id
        · rw [if_pos hx, if_neg (by omega), if_pos hx]
        · rw [if_neg hx, if_neg hx]
      · rcases List.mem_cons.1 hb with rfl | hb
        · simp
        · rcases i3 b hb with h | h
          · exact .inl h
          · simp [h]
    · rw [if_neg hy]
      by_cases e : y.id = x.id
      · rw [if_pos e]
        refine ⟨incB_cons.2 ⟨fun b hb => by have := h1 b hb; omega, h2⟩, fun id => ?_, fun b hb => ?_⟩
        · rw [findB_cons, findB_cons]
          by_cases hx : x.id = id
          · rw [if_pos hx, if_pos hx]
          · rw [if_neg hx, if_neg hx, if_neg (by omega)]
        · rcases List.mem_cons.1 hb with rfl | hb
          · exact .inl rfl
          · simp [hb]
      · rw [if_neg e]
        refine ⟨incB_cons.2 ⟨fun b hb => ?_, h⟩, fun id => by rw [findB_cons], fun b hb => ?_⟩
        · rcases List.mem_cons.1 hb with rfl | hb
          · omega
          · have := h1 b hb; omega
        · rcases List.mem_cons.1 hb with rfl | hb
          · exact .inl rfl
          · exact .inr hb
theorem rsort_all (l : List BackD) : ∀ acc, incB acc = true → incB (l.foldl (fun acc x => repB x acc) acc) = true ∧ ∀ id, findB (l.foldl (fun acc x => repB x acc) acc) id = (findB l.reverse id).or (findB acc id) := by
  induction l with
  | nil => intro acc h; exact ⟨h, fun id => rfl⟩
  | cons x l ih =>
    intro acc h
    obtain ⟨h1, h2, -⟩ := repB_all (x := x) h
    obtain ⟨i1, i2⟩ := ih _ h1
    refine ⟨i1, fun id => ?_⟩
    rw [List.foldl_cons, i2, h2, List.reverse_cons, findB_app, findB_cons, findB_nil, Option.or_assoc]
    congr 1
    split <;> simp
theorem rsort_eq (l : List BackD) : rsortB l = sortB l := by
  have h := rsort_all (l.take 16) [] rfl
  refine inc_ext h.1 (sort_inc l) fun id => ?_
  rw [sort_find]
  have := h.2 id
  rw [findB_nil] at this
  unfold rsortB
  rw [this]; simp
end
section
open Go.RowKit Go.ChangeShapes Go.WideShapes Go.ChangeAt Go.Deep
set_option maxRecDepth 100000
def wgtB (n : Int) : Bool := decide (1 ≤ n) && decide (n ≤ 10)
theorem weighed_any (w : World) (n : Int) : Calls Tryz.prog 31 #[.int .i64 n] w fun e w' => e = .returned (.bool (wgtB n)) ∧ w = w' := by
  go_enter Tryz.func31, Tryz.ntmps31
  go_wp2
  all_goals
    go_ret
    refine ⟨ret_bool ?_, rfl⟩
    rw [Bool.eq_iff_iff]; simp [wgtB]; omega
def goodAt (l : List BackD) (i : Nat) : Prop := ∀ b, l[i]? = some b → mayB b = true ∧ ∀ j a, j + 1 = i → l[j]? = some a → a.id < b.id
theorem incB_iff : ∀ {l : List BackD}, incB l = true ↔ ∀ i a b, l[i]? = some a → l[i + 1]? = some b → a.id < b.id
  | [] => by simp [incB]
  | [a] => by
    constructor
    · intro _ i x y h1 h2
      simp at h2
    · intro _; rfl
  | a :: b :: l => by
    rw [incB, Bool.and_eq_true, decide_eq_true_eq, incB_iff (l := b :: l)]
    constructor
    · rintro ⟨h1, h2⟩ i x y hx hy
      cases i with
      | zero =>
        have e1 : a = x := by simpa using hx
        have e2 : b = y := by simpa using hy
        rw [← e1, ← e2]; exact h1
      | succ i => exact h2 i x y (by simpa using hx) (by simpa using hy)
    · intro h
      exact ⟨h 0 a b rfl rfl, fun i x y hx hy => h (i + 1) x y (by simpa using hx) (by simpa using hy)⟩
theorem mayBs_iff {l : List BackD} : mayBs l = true ↔ l.length ≤ 16 ∧ ∀ i, goodAt l i := by
  unfold mayBs
  rw [Bool.and_eq_true, Bool.and_eq_true, decide_eq_true_eq, List.all_eq_true, incB_iff]
  constructor
  · rintro ⟨h1, h2, h3⟩
    refine ⟨h1, fun i b hb => ⟨h2 b (List.mem_of_getElem? hb), fun j a hj ha => ?_⟩⟩
    subst hj
    exact h3 j a b ha hb
  · rintro ⟨h1, h2⟩
    refine ⟨h1, fun b hb => ?_, fun i a b ha hb => (h2 (i + 1) b hb).2 i a rfl ha⟩
    obtain ⟨i, hi⟩ := List.getElem?_of_mem hb
    exact (h2 i b hi).1
theorem mayBs_bad {l : List BackD} {i : Nat} (h : ¬ goodAt l i) : mayBs l = false := by
  cases hm : mayBs l
  · rfl
  · exact absurd ((mayBs_iff.1 hm).2 i) h
theorem mayB_parts {b : BackD} : mayB b = true ↔ (0 ≤ b.id ∧ b.id ≤ 65535) ∧ wgtB b.weight = true := by
  simp [mayB, inB, wgtB]
set_option maxHeartbeats 3200000 in
theorem gMay_any (w : World) {G : List Nat} {A : Option Addr} {m c : Nat} (l : List BackD) (h : BkArr w G (.slice A m c) l) :
    Calls Tryz.prog 11 #[.slice A m c] w fun e w' => e = .returned (.bool (mayBs l)) ∧ Kept [] w w' := by
  obtain ⟨a1, a2, a3, a4⟩ := h.len
  have H := Lib.hid h
  have A1 := Lib.hid a1
  clear h a1 a4
  unfold maxLen at a3
  by_cases h16 : 16 < m
  · have hres := Lib.hid (show mayBs l = false by
      cases hm : mayBs l
      · rfl
      · have := (mayBs_iff.1 hm).1; have := A1.out; omega)
    have i1 : (16 : Int) < (m : Int) := by omega
    go_enter Tryz.func11, Tryz.ntmps11
    go_wp2
    go_ret
    exact ⟨by rw [hres.out]; rfl, Kept.refl _ _⟩
  · have i1 : ¬ (16 : Int) < (m : Int) := by omega
    go_enter Tryz.func11, Tryz.ntmps11
    go_wp2
    go_loopg [10] m (fun g i wr => ∃ k : Nat, k ≤ m ∧ g = m - k ∧ i = .int .i64 k ∧ (∀ j, j < k → goodAt l j) ∧ Kept [] w wr)
    case atStart => exact ⟨0, by omega, by omega, rfl, fun j hj => by omega, Kept.refl _ _⟩
    case round =>
      obtain ⟨k, hk, rfl, rfl, hs, hkw⟩ := hrel
      have Hs := Lib.hid hs
      have Hkw := Lib.hid hkw
      clear hs hkw
      by_cases hlt : k < m
      · have hkl : k < l.length := by rw [A1.out]; exact hlt
        obtain ⟨g, o, rfl, hg, hgG, c0, c1, c2⟩ := (BkArr.kept H.out Hkw.out (by simp)).at (k := k) hkl
        have HB := Lib.hid (List.getElem?_eq_getElem hkl)
        generalize l[k]'hkl = b at *
        clear hkl
        have i0 : (0 : Int) ≤ (k : Int) := by omega
        have i2 : (k : Int) < (m : Int) := by omega
        go_wp2
        have Hb2 := Lib.hid (Blk.new wr 27 #[.int .i64 b.id, .int .u32 (b.addr.toNat : Nat), .int .i64 b.weight])
        have Hkx := Lib.hid (Hkw.out.alloc (.cells #[.int .i64 b.id, .int .u32 (b.addr.toNat : Nat), .int .i64 b.weight] 27))
        generalize wr.alloc (.cells #[.int .i64 b.id, .int .u32 (b.addr.toNat : Nat), .int .i64 b.weight] 27) = w2 at Hb2 Hkx ⊢
        have hcl := Hb2.out.cell
        clear Hb2
        by_cases c1 : b.id < 0
        · have d1 : decide (b.id < 0) = true := decide_eq_true c1
          have hres := Lib.hid (mayBs_bad (l := l) (i := k) (fun hg => by have h9 := hg _ HB.out; have h8 := mayB_parts.1 h9.1; omega))
          clear c1
          go_quiet (fail)
          go_wp2
          go_ret
          exact ⟨by rw [hres.out]; rfl, Hkx.out.drewN _⟩
        · have d1 : decide (b.id < 0) = false := decide_eq_false c1
          by_cases c2 : 65535 < b.id
          · have d2 : decide (65535 < b.id) = true := decide_eq_true c2
            have hres := Lib.hid (mayBs_bad (l := l) (i := k) (fun hg => by have h9 := hg _ HB.out; have h8 := mayB_parts.1 h9.1; omega))
            clear c1 c2
            go_quiet (fail)
            go_wp2
            go_ret
            exact ⟨by rw [hres.out]; rfl, Hkx.out.drewN _⟩
          · have d2 : decide (65535 < b.id) = false := decide_eq_false c2
            cases d3 : wgtB b.weight
            · have D3 := Lib.hid d3
              have hres := Lib.hid (mayBs_bad (l := l) (i := k) (fun hg => by have h9 := hg _ HB.out; have h8 := mayB_parts.1 h9.1; rw [D3.out] at h8; exact absurd h8.2 (by simp)))
              clear c1 c2 d3
              go_quiet ((go_at_call 31; exact Calls.quiet_of_same ((weighed_any _ _).mono fun e w' h9 => ⟨by rw [h9.1, D3.out], h9.2.symm⟩)))
              go_wp2
              go_ret
              exact ⟨by rw [hres.out]; rfl, Hkx.out.drewN _⟩
            · have D3 := Lib.hid d3
              by_cases c4 : k = 0
              · have d4 : decide ((0 : Int) < (k : Int)) = false := decide_eq_false (by omega)
                have d5 : decide (0 < k) = false := decide_eq_false (by omega)
                have C4 := Lib.hid c4
                have C12 := Lib.hid (And.intro c1 c2)
                clear c1 c2 d3 c4
                go_quiet ((go_at_call 31; exact Calls.quiet_of_same ((weighed_any _ _).mono fun e w' h9 => ⟨by rw [h9.1, D3.out], h9.2.symm⟩)))
                have hnx := Lib.hid (show ∀ j, j < k + 1 → goodAt l j from fun j hj => by
                  rcases Nat.lt_or_ge j k with hj' | hj'
                  · exact Hs.out j hj'
                  · obtain rfl : j = k := by omega
                    intro b' hb'
                    obtain rfl : b = b' := Option.some.inj (HB.out.symm.trans hb')
                    exact ⟨mayB_parts.2 ⟨⟨by have := C12.out; omega, by have := C12.out; omega⟩, D3.out⟩, fun i a hi ha => by have := C4.out; omega⟩)
                go_wp2
                go_roundg (m - (k + 1))
                case measure => omega
                case rel => exact ⟨k + 1, by omega, rfl, by go_num, hnx.out, Hkx.out.drewN _⟩
              · have d4 : decide ((0 : Int) < (k : Int)) = true := decide_eq_true (by omega)
                have d6 : decide (0 < k) = true := decide_eq_true (by omega)
                obtain ⟨p, hp⟩ : ∃ p, p + 1 = k := ⟨k - 1, by omega⟩
                have hpl : p < l.length := by rw [A1.out]; omega
                obtain ⟨g', o', heq, _, _, e0, e1, e2⟩ := (BkArr.kept H.out Hkx.out (by simp)).at (k := p) hpl
                injection heq with heq
                injection heq with hh1 hh2 _
                subst hh1 hh2
                have HA := Lib.hid (List.getElem?_eq_getElem hpl)
                generalize l[p]'hpl = a at *
                clear hpl e1 e2
                have HP := Lib.hid hp
                have i3 : (1 : Int) ≤ (k : Int) := by omega
                have i4 : (k : Int) - 1 < (m : Int) := by omega
                have i5 : IntKind.i64.wrap ((k : Int) - 1) = (k : Int) - 1 := IntWalk.i64_in _ (by omega)
                have t1 : ((k : Int) - 1).toNat = p := by omega
                clear hp c4
                by_cases c5 : b.id ≤ a.id
                · have d5 : decide (b.id ≤ a.id) = true := decide_eq_true c5
                  have hres := Lib.hid (mayBs_bad (l := l) (i := k) (fun hg => by have h9 := hg _ HB.out; have h8 := mayB_parts.1 h9.1; have := h9.2 p a HP.out HA.out; omega))
                  clear c1 c2 d3 c5
                  go_quiet ((go_at_call 31; exact Calls.quiet_of_same ((weighed_any _ _).mono fun e w' h9 => ⟨by rw [h9.1, D3.out], h9.2.symm⟩)))
                  go_wp2
                  go_ret
                  exact ⟨by rw [hres.out]; rfl, Hkx.out.drewN _⟩
                · have d5 : decide (b.id ≤ a.id) = false := decide_eq_false c5
                  have C12 := Lib.hid (And.intro c1 (And.intro c2 c5))
                  clear c1 c2 d3 c5
                  go_quiet ((go_at_call 31; exact Calls.quiet_of_same ((weighed_any _ _).mono fun e w' h9 => ⟨by rw [h9.1, D3.out], h9.2.symm⟩)))
                  clear i3 i4 i5 t1
                  have hnx := Lib.hid (show ∀ j, j < k + 1 → goodAt l j from fun j hj => by
                    rcases Nat.lt_or_ge j k with hj' | hj'
                    · exact Hs.out j hj'
                    · obtain rfl : j = k := by omega
                      intro b' hb'
                      obtain rfl : b = b' := Option.some.inj (HB.out.symm.trans hb')
                      exact ⟨mayB_parts.2 ⟨⟨by have := C12.out; omega, by have := C12.out; omega⟩, D3.out⟩, fun i x hi hx => by obtain rfl : i = p := by { have := HP.out; omega }; obtain rfl : a = x := Option.some.inj (HA.out.symm.trans hx); have := C12.out; omega⟩)
                  go_wp2
                  go_roundg (m - (k + 1))
                  case measure => omega
                  case rel => exact ⟨k + 1, by omega, rfl, by go_num, hnx.out, Hkx.out.drewN _⟩
      · have hres := Lib.hid (show mayBs l = true from mayBs_iff.2 ⟨by rw [A1.out]; omega, fun i b hb => Hs.out i (by have := (List.getElem?_eq_some_iff.1 hb).1; have := A1.out; omega) b hb⟩)
        go_wp2
        go_ret
        exact ⟨by rw [hres.out]; rfl, Hkw.out⟩
end
section
open Go.RowKit Go.ChangeShapes Go.WideShapes Go.ChangeAt Go.Deep
set_option maxRecDepth 100000
def encB (b : BackD) : List Value := [.int .i64 b.id, .int .u32 (b.addr.toNat : Nat), .int .i64 b.weight]
theorem encB_len (b : BackD) : (encB b).length = 3 := rfl
theorem encB_one (b : BackD) : ∀ v ∈ encB b, v.oneCell' = true := by intro v hv; simp [encB] at hv; rcases hv with rfl | rfl | rfl <;> rfl
abbrev RowB (w : World) (g cap : Nat) (l : List BackD) : Prop := RowAt 27 3 encB w g cap l
theorem RowB.at {w : World} {g cap : Nat} {l : List BackD} (h : RowB w g cap l) {k : Nat} {b : BackD} (hk : l[k]? = some b) :
    w.cell? ⟨g, k * 3, none⟩ = some (.int .i64 b.id) ∧ w.cell? ⟨g, k * 3 + 1, none⟩ = some (.int .u32 (b.addr.toNat : Nat)) ∧ w.cell? ⟨g, k * 3 + 2, none⟩ = some (.int .i64 b.weight) :=
  ⟨RowAt.cell h hk (c := 0) rfl, RowAt.cell h hk (c := 1) rfl, RowAt.cell h hk (c := 2) rfl⟩
theorem RowB.two {w : World} {g cap : Nat} {l : List BackD} (h : RowB w g cap l) {p k o u : Nat} {x y : BackD} (hx : l[p]? = some x) (hy : l[k]? = some y) (ho : k * 3 = o) (hu : p * 3 = u) :
    w.cell? ⟨g, o, none⟩ = some (.int .i64 y.id) ∧ w.cell? ⟨g, o + 1, none⟩ = some (.int .u32 (y.addr.toNat : Nat)) ∧ w.cell? ⟨g, o + 2, none⟩ = some (.int .i64 y.weight) ∧
    w.cell? ⟨g, u, none⟩ = some (.int .i64 x.id) ∧ w.cell? ⟨g, u + 1, none⟩ = some (.int .u32 (x.addr.toNat : Nat)) ∧ w.cell? ⟨g, u + 2, none⟩ = some (.int .i64 x.weight) := by
  subst ho hu
  have a := RowB.at h hx
  have b := RowB.at h hy
  exact ⟨b.1, b.2.1, b.2.2, a⟩
theorem ded1 (a : BackD) : dedB [a] = [a] := by rw [dedB]
theorem ded2 (a b : BackD) (l : List BackD) : dedB (a :: b :: l) = if b.id = a.id then dedB (a :: l) else a :: dedB (b :: l) := by rw [dedB]
theorem ded_snoc : ∀ (n : Nat) (l : List BackD) (x y : BackD), l.length = n → dedB (l ++ [x, y]) = if y.id = x.id then dedB (l ++ [x]) else dedB (l ++ [x]) ++ [y]
  | _, [], x, y, _ => by
    show dedB (x :: y :: []) = if y.id = x.id then dedB [x] else dedB [x] ++ [y]
    simp only [ded2, ded1]
    split <;> rfl
  | _, [a], x, y, _ => by
    show dedB (a :: x :: [y]) = if y.id = x.id then dedB (a :: x :: []) else dedB (a :: x :: []) ++ [y]
    simp only [ded2, ded1]
    by_cases h : x.id = a.id
    · rw [if_pos h, if_pos h, h]
      split <;> rfl
    · rw [if_neg h, if_neg h]
      split <;> rfl
  | 0, a :: b :: r, x, y, h => by simp at h
  | n + 1, a :: b :: r, x, y, h => by
    have hr : r.length + 1 = n := by simpa using h
    show dedB (a :: b :: (r ++ [x, y])) = if y.id = x.id then dedB (a :: b :: (r ++ [x])) else dedB (a :: b :: (r ++ [x])) ++ [y]
    have h1 := ded_snoc n (a :: r) x y (by simpa using hr)
    have h2 := ded_snoc n (b :: r) x y (by simpa using hr)
    rw [List.cons_append, List.cons_append] at h1 h2
    rw [ded2, ded2 a b (r ++ [x])]
    by_cases e : b.id = a.id
    · rw [if_pos e, if_pos e, h1]
    · rw [if_neg e, if_neg e, h2]
      split <;> rfl
theorem ded_take {l : List BackD} {k : Nat} {x y : BackD} (hx : l[k]? = some x) (hy : l[k + 1]? = some y) : dedB (l.take (k + 2)) = if y.id = x.id then dedB (l.take (k + 1)) else dedB (l.take (k + 1)) ++ [y] := by
  have h1 : l.take (k + 1) = l.take k ++ [x] := by rw [List.take_add_one, hx]; rfl
  have h2 : l.take (k + 2) = l.take k ++ [x, y] := by rw [List.take_add_one, hy, h1, List.append_assoc]; rfl
  rw [h1, h2]
  exact ded_snoc _ _ _ _ rfl
theorem ded_one {l : List BackD} (h : l.length ≤ 1) : dedB l = l := by
  match l, h with
  | [], _ => rw [dedB]
  | [a], _ => exact ded1 a
theorem eqB_any (w : World) (a b : BackD) : Calls Tryz.prog 39 #[.agg #[.int .i64 a.id, .int .u32 (a.addr.toNat : Nat), .int .i64 a.weight], .agg #[.int .i64 b.id, .int .u32 (b.addr.toNat : Nat), .int .i64 b.weight]] w fun e w' => e = .returned (.bool (decide (a.id = b.id))) ∧ Kept [] w w' := by
  have hk : Kept [] w ((w.alloc (.cells #[.int .i64 a.id, .int .u32 (a.addr.toNat : Nat), .int .i64 a.weight] 27)).alloc (.cells #[.int .i64 b.id, .int .u32 (b.addr.toNat : Nat), .int .i64 b.weight] 27)) := ((Kept.refl [] w).alloc _).alloc _
  have K := Lib.hid hk
  clear hk
  by_cases h : a.id = b.id
  · have d : decide (a.id = b.id) = true := decide_eq_true h
    have d1 : (a.id == b.id) = true := by simpa using h
    rw [d]
    clear d h
    go_enter Tryz.func39, Tryz.ntmps39
    go_wp2
    go_ret
    exact ⟨by first | rfl | simp_all, K.out⟩
  · have d : decide (a.id = b.id) = false := decide_eq_false h
    have d1 : (a.id == b.id) = false := by simpa using h
    rw [d]
    clear d h
    go_enter Tryz.func39, Tryz.ntmps39
    go_wp2
    go_ret
    exact ⟨by first | rfl | simp_all, K.out⟩
set_option maxHeartbeats 3200000 in
theorem Compact_row (w : World) (g0 cap n : Nat) (l : List BackD) (h : RowB w g0 cap l) (hl : l.length = n) (hn : n ≤ 1000) :
    Calls Tryz.prog 38 #[.slice (some ⟨g0, 0, none⟩) n cap, .func (.func 39) #[] #[]] w fun e w' =>
      e = .returned (.slice (some ⟨g0, 0, none⟩) (dedB l).length cap) ∧ RowB w' g0 cap (dedB l) ∧ Kept [g0] w w' := by
  have hle := h.le
  have hcap : n ≤ cap := by rw [← hl]; exact hle.1
  have hcm := hle.2
  unfold maxLen at hcm
  have R := Lib.hid h
  have L := Lib.hid hl
  clear h hle hl
  by_cases h2 : n < 2
  · have hd := Lib.hid (ded_one (l := l) (by have := L.out; omega))
    have i1 : (n : Int) < 2 := by omega
    go_enter Tryz.func38, Tryz.ntmps38
    go_wp2
    go_ret
    exact ⟨by rw [hd.out, L.out]; rfl, by rw [hd.out]; exact R.out, Kept.refl _ _⟩
  · have i1 : ¬ (n : Int) < 2 := by omega
    go_enter Tryz.func38, Tryz.ntmps38
    go_wp2
    go_loopg [5] (n - 1) (fun g i wr => ∃ k : Nat, 1 ≤ k ∧ k ≤ n ∧ g = n - k ∧ i = .int .i64 k ∧ dedB (l.take k) = l.take k ∧ RowB wr g0 cap l ∧ Kept [g0] w wr)
    case atStart => exact ⟨1, by omega, by omega, rfl, rfl, ded_one (by simp; omega), R.out, Kept.refl _ _⟩
    case round =>
      obtain ⟨k, hk1, hk, rfl, rfl, hd, hr, hkw⟩ := hrel
      have Hd := Lib.hid hd
      have Hr := Lib.hid hr
      have Hk := Lib.hid hkw
      clear hd hr hkw
      by_cases hlt : k < n
      · obtain ⟨p, hp⟩ : ∃ p, p + 1 = k := ⟨k - 1, by omega⟩
        obtain ⟨x, hx⟩ : ∃ x, l[p]? = some x := ⟨_, List.getElem?_eq_getElem (by rw [L.out]; omega)⟩
        obtain ⟨y, hy⟩ : ∃ x, l[k]? = some x := ⟨_, List.getElem?_eq_getElem (by rw [L.out]; omega)⟩
        have HX := Lib.hid hx
        have HY := Lib.hid hy
        have HP := Lib.hid hp
        have i2 : (k : Int) < (n : Int) := by omega
        have i3 : (1 : Int) ≤ (k : Int) := by omega
        have i4 : (k : Int) - 1 < (n : Int) := by omega
        have i5 : IntKind.i64.wrap ((k : Int) - 1) = (k : Int) - 1 := IntWalk.i64_in _ (by omega)
        have t1 : ((k : Int) - 1).toNat = p := by omega
        clear hx hy hp
        go_wp2_with fail
        go_region_held3 (fun w' => Kept [] wr w' ∧ w'.cell? ⟨g0, k * 3, none⟩ = some (.int .i64 y.id) ∧ w'.cell? ⟨g0, k * 3 + 1, none⟩ = some (.int .u32 (y.addr.toNat : Nat)) ∧ w'.cell? ⟨g0, k * 3 + 2, none⟩ = some (.int .i64 y.weight) ∧ w'.cell? ⟨g0, p * 3, none⟩ = some (.int .i64 x.id) ∧ w'.cell? ⟨g0, p * 3 + 1, none⟩ = some (.int .u32 (x.addr.toNat : Nat)) ∧ w'.cell? ⟨g0, p * 3 + 2, none⟩ = some (.int .i64 x.weight))
          (first | exact ⟨(Kept.refl [] _).drew, RowB.two (Hr.out.drew) HX.out HY.out rfl rfl⟩ | exact ⟨hkn, RowB.two (Hr.out.kept hkn (by simp)) HX.out HY.out rfl rfl⟩)
          (first
           | (go_at_call 39
              rename_i hq _ _
              refine (eqB_any _ y x).mono ?_
              rintro e w1 ⟨rfl, k1⟩
              have hkn := hq.1.trans k1 (by simp)
              clear k1))
        by_cases hid : y.id = x.id
        · have d1 : decide (y.id = x.id) = true := decide_eq_true hid
          rw [d1]
          clear d1
          have hdk := ded_take HX.out (by rw [HP.out]; exact HY.out)
          rw [if_pos hid, show p + 1 = k from HP.out, show p + 2 = k + 1 by have := HP.out; omega, Hd.out] at hdk
          have HDK := Lib.hid hdk
          clear hdk
          have Hr1 := Lib.hid (Hr.out.kept hkn (by simp))
          have Hk1 := Lib.hid (Hk.out.trans hkn (by simp))
          clear hid hkn i3 i4 i5 t1
          go_wp2
          generalize hnk : n - k = nk
          have HNK := Lib.hid hnk
          have b1 : k + nk ≤ n := by omega
          have b2 : n ≤ k + nk := by omega
          clear hnk
          go_loopg [5, 7] (nk - 1) (fun g a b wr => ∃ (q j : Nat) (cur : List BackD), 1 ≤ q ∧ q ≤ nk ∧ g = nk - q ∧ a = .int .i64 j ∧ b = .int .i64 q ∧ 1 ≤ j ∧ j < k + q ∧ cur.length = n ∧ cur.take j = dedB (l.take (k + q)) ∧ (∀ i, k + q ≤ i + 1 → cur[i]? = l[i]?) ∧ RowB wr g0 cap cur ∧ Kept [g0] w wr)
          case atStart => exact ⟨1, k, l, by omega, by have := HNK.out; omega, rfl, rfl, rfl, hk1, by omega, L.out, HDK.out.symm, fun i _ => rfl, Hr1.out, Hk1.out⟩
          case round =>
            clear Hr Hk Hr1 Hk1 HX HY
            obtain ⟨q, j, cur, hq1, hq, rfl, rfl, rfl, hj1, hjq, hcl, hct, hcu, hr, hkw⟩ := hrel
            have Hr := Lib.hid hr
            have Hk := Lib.hid hkw
            have CL := Lib.hid hcl
            have CT := Lib.hid hct
            have CU := Lib.hid hcu
            clear hr hkw hcl hct hcu
            by_cases hql : q < nk
            · obtain ⟨p2, hp2⟩ : ∃ p2, p2 + 1 = q := ⟨q - 1, by omega⟩
              obtain ⟨x2, hx2⟩ : ∃ x, l[k + p2]? = some x := ⟨_, List.getElem?_eq_getElem (by rw [L.out]; have := HNK.out; omega)⟩
              obtain ⟨y2, hy2⟩ : ∃ x, l[k + q]? = some x := ⟨_, List.getElem?_eq_getElem (by rw [L.out]; have := HNK.out; omega)⟩
              have HX := Lib.hid ((CU.out (k + p2) (by omega)).trans hx2)
              have HY := Lib.hid ((CU.out (k + q) (by omega)).trans hy2)
              have HDT := Lib.hid (ded_take hx2 (show l[k + p2 + 1]? = some y2 by rw [show k + p2 + 1 = k + q by omega]; exact hy2))
              have HP2 := Lib.hid hp2
              have i2 : (q : Int) < (nk : Int) := by omega
              have i3 : (1 : Int) ≤ (q : Int) := by omega
              have i4 : (q : Int) - 1 < (nk : Int) := by omega
              have i5 : IntKind.i64.wrap ((q : Int) - 1) = (q : Int) - 1 := IntWalk.i64_in _ (by omega)
              have t1 : ((q : Int) - 1).toNat = p2 := by omega
              clear hx2 hy2 hp2
              go_wp2_with fail
              go_region_held3 (fun w' => Kept [] wr w' ∧ w'.cell? ⟨g0, k * 3 + q * 3, none⟩ = some (.int .i64 y2.id) ∧ w'.cell? ⟨g0, k * 3 + q * 3 + 1, none⟩ = some (.int .u32 (y2.addr.toNat : Nat)) ∧ w'.cell? ⟨g0, k * 3 + q * 3 + 2, none⟩ = some (.int .i64 y2.weight) ∧ w'.cell? ⟨g0, k * 3 + p2 * 3, none⟩ = some (.int .i64 x2.id) ∧ w'.cell? ⟨g0, k * 3 + p2 * 3 + 1, none⟩ = some (.int .u32 (x2.addr.toNat : Nat)) ∧ w'.cell? ⟨g0, k * 3 + p2 * 3 + 2, none⟩ = some (.int .i64 x2.weight))
                (first | exact ⟨(Kept.refl [] _).drew, RowB.two (Hr.out.drew) HX.out HY.out (by omega) (by omega)⟩ | exact ⟨hkn, RowB.two (Hr.out.kept hkn (by simp)) HX.out HY.out (by omega) (by omega)⟩)
                (first
                 | (go_at_call 39
                    rename_i hq _ _
                    refine (eqB_any _ y2 x2).mono ?_
                    rintro e w1 ⟨rfl, k1⟩
                    have hkn := hq.1.trans k1 (by simp)
                    clear k1))
              have Hr1 := Lib.hid (Hr.out.kept hkn (by simp))
              have Hk1 := Lib.hid (Hk.out.trans hkn (by simp))
              clear Hr Hk i3 i4 i5 t1
              by_cases hid : y2.id = x2.id
              · have d1 : decide (y2.id = x2.id) = true := decide_eq_true hid
                rw [d1]
                clear d1
                have hdk := HDT.out
                rw [if_pos hid, show k + p2 + 2 = k + (q + 1) by have := HP2.out; omega, show k + p2 + 1 = k + q by have := HP2.out; omega, ← CT.out] at hdk
                have HDK := Lib.hid hdk
                clear hdk hid hkn
                go_wp2
                go_roundg (nk - (q + 1))
                case measure => have := HNK.out; omega
                case rel => exact ⟨q + 1, j, cur, by omega, by have := HNK.out; omega, rfl, rfl, by go_num, hj1, by omega, CL.out, HDK.out.symm, fun i hi => CU.out i (by omega), Hr1.out, Hk1.out⟩
              · have d1 : decide (y2.id = x2.id) = false := decide_eq_false hid
                rw [d1]
                clear d1
                have hdk := HDT.out
                rw [if_neg hid, show k + p2 + 2 = k + (q + 1) by have := HP2.out; omega, show k + p2 + 1 = k + q by have := HP2.out; omega, ← CT.out] at hdk
                have hset : (cur.set j y2).take (j + 1) = cur.take j ++ [y2] := by
                  rw [List.take_add_one, List.take_set, List.set_eq_of_length_le (by rw [List.length_take]; omega), List.getElem?_set, if_pos rfl, if_pos (by rw [CL.out]; have := HNK.out; omega)]; rfl
                rw [← hset] at hdk
                have HDK := Lib.hid hdk
                have Hy2 := Lib.hid (RowB.at Hr1.out HY.out)
                obtain ⟨c0, c1, c2⟩ := Hy2.out
                rw [show (k + q) * 3 = k * 3 + q * 3 by omega] at c0 c1 c2
                have i6 : (j : Int) < (n : Int) := by have := HNK.out; omega
                have hjc : j < cap := by have := HNK.out; omega
                clear hdk hid hkn hset Hy2
                go_wp2_with (first
                  | (with_reducible show wpList _ _ _ (({ dst := none, op := Op.store 27 (.tmp 56) (.tmp 55), type := _, pos := _, after := _, guard := _ } : Oper) :: _) _ _
                     refine RowAt.wpList_set rfl 27 (.tmp 56) (.tmp 55) rfl encB_len Hr1.out (j := j) y2 (by rfl) rfl hjc (by rfl) (by kernel_rfl) (encB_one y2) ?_
                     intro w2 hr2 hk2
                     have Hr2 := Lib.hid hr2
                     have Hk2 := Lib.hid (Hk1.out.trans hk2 (by simp))
                     clear hr2 hk2 c0 c1 c2))
                go_roundg (nk - (q + 1))
                case measure => have := HNK.out; omega
                case rel => exact ⟨q + 1, j + 1, cur.set j y2, by omega, by have := HNK.out; omega, rfl, by go_num, by go_num, by omega, by omega, by rw [List.length_set]; exact CL.out, HDK.out.symm, fun i hi => by rw [List.getElem?_set, if_neg (by omega)]; exact CU.out i (by omega), Hr2.out, Hk2.out⟩
            · obtain ⟨d, hdd⟩ : ∃ d, n - j = d := ⟨_, rfl⟩
              have hde : (dedB l).length = j := by
                have h1 := CT.out
                rw [List.take_of_length_le (l := l) (by rw [L.out]; omega)] at h1
                rw [← h1, List.length_take, CL.out]; have := HNK.out; omega
              have hdl : cur.take j = dedB l := by rw [CT.out, List.take_of_length_le (l := l) (by rw [L.out]; omega)]
              have HDE := Lib.hid hde
              have HDL := Lib.hid hdl
              have i2 : ¬ (q : Int) < (nk : Int) := by omega
              have i6 : (j : Int) ≤ (n : Int) := by have := HNK.out; omega
              clear hde hdl
              obtain ⟨w2, hrun, hr2, hk2⟩ := RowAt.run_clear (k := 3) (P := Tryz.prog) (t := 22) (ty := 0) Tryz.underlying22 Tryz.zeroValue27 rfl (by simp [Value.cells, Value.oneCell']) (by omega) encB_len Hr.out j d (cap - j) (by omega)
              rw [HDL.out] at hr2
              have Hr2 := Lib.hid hr2
              have Hk2 := Lib.hid (Hk.out.trans hk2 (by simp))
              clear hr2 hk2
              go_wp2
              go_ret
              exact ⟨by rw [HDE.out]; rfl, Hr2.out, Hk2.out⟩
        · have d1 : decide (y.id = x.id) = false := decide_eq_false hid
          rw [d1]
          clear d1
          have hdk := ded_take HX.out (by rw [HP.out]; exact HY.out)
          rw [if_neg hid, show p + 1 = k from HP.out, show p + 2 = k + 1 by have := HP.out; omega, Hd.out] at hdk
          have htk : l.take (k + 1) = l.take k ++ [y] := by rw [List.take_add_one, HY.out]; rfl
          rw [← htk] at hdk
          have HDK := Lib.hid hdk
          have Hr1 := Lib.hid (Hr.out.kept hkn (by simp))
          have Hk1 := Lib.hid (Hk.out.trans hkn (by simp))
          clear hid hkn i3 i4 i5 t1 hdk htk
          go_wp2
          go_roundg (n - (k + 1))
          case measure => omega
          case rel => exact ⟨k + 1, by omega, by omega, rfl, by go_num, HDK.out, Hr1.out, Hk1.out⟩
      · have hres := Lib.hid (show dedB l = l by
          have := Hd.out
          rwa [List.take_of_length_le (by rw [L.out]; omega)] at this)
        go_wp2
        go_ret
        exact ⟨by rw [hres.out, L.out]; rfl, by rw [hres.out]; exact Hr.out, Hk.out⟩
end
end Go.Proofs.YtgndijdhmkphaaaGreatDoor
