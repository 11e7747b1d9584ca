/-
  Sets of backends: the library's reversal and insertion sort, laid at backends; the closures of Sort; Sort's calls.
-/
import Derived.Shelf.SlSortCmp.Insertion
import Derived.Shelf.SlicesQ.Reverse
import Derived.Shelf.SlSortCmp.InsertionK
import Derived.Test.YtgndijdhmkphaaaGreatDoorGenN
import Derived.Test.YtgndijdhmkphaaaGreatDoorRef1
namespace Go.Proofs.YtgndijdhmkphaaaGreatDoor
set_option linter.unusedVariables false
section
open Go.RowKit
set_option maxRecDepth 100000
theorem insB_lt {x y : BackD} (h : x.id < y.id) : ∀ Q : List BackD, insB x (Q ++ [y]) = insB x Q ++ [y]
  | [] => by
    show (if y.id ≤ x.id then y :: insB x [] else x :: y :: []) = [x] ++ [y]
    rw [if_neg (by omega)]; rfl
  | q :: Q => by
    show (if q.id ≤ x.id then q :: insB x (Q ++ [y]) else x :: q :: (Q ++ [y])) = (if q.id ≤ x.id then q :: insB x Q else x :: q :: Q) ++ [y]
    rw [insB_lt h Q]
    split <;> rfl
theorem insB_ge {x : BackD} : ∀ {P : List BackD}, (∀ q ∈ P, q.id ≤ x.id) → insB x P = P ++ [x]
  | [], _ => rfl
  | q :: P, h => by
    show (if q.id ≤ x.id then q :: insB x P else x :: q :: P) = _
    rw [if_pos (h q (by simp)), insB_ge (fun r hr => h r (by simp [hr]))]; rfl
def byId (a b : BackD) : Bool := decide (a.id < b.id)
theorem bang_at {α : Type} [Inhabited α] (Q : List α) (y : α) (R : List α) : (Q ++ y :: R).toArray[Q.length]! = y := by
  rw [getElem!_pos (Q ++ y :: R).toArray Q.length (by simp)]; simp
theorem bang_at1 {α : Type} [Inhabited α] (Q : List α) (y x : α) (R : List α) : (Q ++ y :: x :: R).toArray[Q.length + 1]! = x := by
  rw [getElem!_pos (Q ++ y :: x :: R).toArray (Q.length + 1) (by simp)]
  simp [List.getElem_append_right]
theorem swp_at {α : Type} [Inhabited α] (Q : List α) (y x : α) (R : List α) : Go.Sort.swp (Q ++ y :: x :: R).toArray (Q.length + 1) Q.length = (Q ++ x :: y :: R).toArray := by
  unfold Go.Sort.swp
  rw [bang_at, bang_at1]
  simp [List.set_append_right]
theorem inner_ins (x : BackD) : ∀ (n : Nat) (P R : List BackD), P.length = n → nondB P → Go.Sort.insInner byId 0 n (P ++ x :: R).toArray = (insB x P ++ R).toArray
  | 0, P, R, hn, _ => by
    obtain rfl := List.eq_nil_of_length_eq_zero hn
    rfl
  | n + 1, P, R, hn, hs => by
    obtain ⟨Q, y, rfl⟩ : ∃ Q y, P = Q ++ [y] := ⟨P.dropLast, P.getLast (by rintro rfl; cases hn), (List.dropLast_concat_getLast _).symm⟩
    have hq : Q.length = n := by simpa using hn
    subst hq
    rw [Go.Sort.insInner, List.append_assoc, List.singleton_append, bang_at, bang_at1]
    unfold nondB at hs
    rw [List.pairwise_append] at hs
    by_cases h : x.id < y.id
    · rw [if_pos (by simp [byId, h]), swp_at, inner_ins x Q.length Q (y :: R) rfl hs.1, insB_lt h]
      simp
    · rw [if_neg (by simp [byId, h]), insB_ge (fun q hq => by
        rcases List.mem_append.1 hq with hq | hq
        · have := hs.2.2 q hq y (by simp); omega
        · have : q = y := by simpa using hq
          subst this; omega)]
      simp
theorem outer_ins : ∀ (m : Nat) (P R : List BackD), R.length = m → nondB P → Go.Sort.insOuter byId 0 (P.length + m) P.length (P ++ R).toArray = (R.foldl (fun acc x => insB x acc) P).toArray
  | 0, P, R, hn, _ => by
    obtain rfl := List.eq_nil_of_length_eq_zero hn
    unfold Go.Sort.insOuter
    rw [if_neg (by omega)]; simp
  | m + 1, P, R, hn, hs => by
    obtain ⟨x, R, rfl⟩ : ∃ x R', R = x :: R' := by cases R with | nil => cases hn | cons x R => exact ⟨x, R, rfl⟩
    unfold Go.Sort.insOuter
    rw [if_pos (by omega), inner_ins x P.length P R rfl hs]
    have hl : (insB x P).length = P.length + 1 := (insB_perm x P).length_eq
    have := outer_ins m (insB x P) R (by simpa using hn) (insB_sorted hs)
    rw [hl, show P.length + 1 + m = P.length + (m + 1) by omega] at this
    rw [this]; rfl
theorem insertion_eq (l : List BackD) : Go.Sort.insertionSort byId l.toArray 0 l.length = (isortB l).toArray := by
  unfold Go.Sort.insertionSort
  cases l with
  | nil => unfold Go.Sort.insOuter; simp [isortB]
  | cons a l =>
    have := outer_ins l.length [a] l rfl (List.pairwise_singleton _ _)
    rw [show ([a] : List BackD).length + l.length = (a :: l).length by simp only [List.length_cons, List.length_nil]; omega] at this
    exact this
end
section
open Go.RowKit Go.ChangeShapes Go.WideShapes Go.ChangeAt Go.Deep
set_option maxRecDepth 100000
def revRen : Go.Shelf.Ren := ⟨fun | 35 => 34 | n => n, fun | 22 => 22 | 23 => 27 | 3 => 3 | 4 => 4 | n => n, fun n => n⟩
theorem revLays : Go.Proofs.SlLaysE0.n35 Tryz.prog revRen := {
  mixed := by kernel_rfl
  f35 := ⟨Tryz.f34.name, by decide, Tryz.func34.trans (congrArg some (by kernel_rfl))⟩
  t0 := Tryz.underlying0
  a0 := Tryz.isAgg0
  z0 := Tryz.sizeOf0
  v0 := Tryz.zeroValue0
  t3 := Tryz.underlying3
  a3 := Tryz.isAgg3
  z3 := Tryz.sizeOf3
  v3 := Tryz.zeroValue3
  t4 := Tryz.underlying4
  a4 := Tryz.isAgg4
  z4 := Tryz.sizeOf4
  v4 := Tryz.zeroValue4
  t22 := Tryz.underlying22
  a22 := Tryz.isAgg22
  z22 := Tryz.sizeOf22
  v22 := Tryz.zeroValue22 }
def insRen : Go.Shelf.Ren := ⟨fun | 20 => 66 | n => n, fun | 22 => 22 | 24 => 27 | 25 => 57 | 3 => 3 | 4 => 4 | n => n, fun n => n⟩
theorem insLays : Go.Proofs.SlLaysF0.n20 Tryz.prog insRen := {
  mixed := by kernel_rfl
  f20 := ⟨Tryz.f66.name, by decide, Tryz.func66.trans (congrArg some (by kernel_rfl))⟩
  t0 := Tryz.underlying0
  a0 := Tryz.isAgg0
  z0 := Tryz.sizeOf0
  v0 := Tryz.zeroValue0
  t3 := Tryz.underlying3
  a3 := Tryz.isAgg3
  z3 := Tryz.sizeOf3
  v3 := Tryz.zeroValue3
  t4 := Tryz.underlying4
  a4 := Tryz.isAgg4
  z4 := Tryz.sizeOf4
  v4 := Tryz.zeroValue4
  t22 := Tryz.underlying22
  a22 := Tryz.isAgg22
  z22 := Tryz.sizeOf22
  v22 := Tryz.zeroValue22
  t25 := Tryz.underlying57
  a25 := Tryz.isAgg57
  z25 := Tryz.sizeOf57
  v25 := Tryz.zeroValue57 }
theorem Reverse_row (w : World) (g cap : Nat) (l : List BackD) (h : RowB w g cap l) :
    Calls Tryz.prog 34 #[.slice (some ⟨g, 0, none⟩) l.length cap] w fun e w' => e = .returned (.tuple #[]) ∧ RowB w' g cap l.reverse ∧ Kept [g] w w' := by
  have hcon := AnyQ.slices_Reverse revLays 3 Tryz.isAgg27 Tryz.sizeOf27 encB encB_len encB_one g 0 cap l.toArray w (h.holds encB_len) (by have := h.le; unfold maxLen at this; simp only [List.size_toArray]; omega)
  change Calls Tryz.prog 34 #[.slice (some ⟨g, 0, none⟩) l.length cap] w _ at hcon
  refine hcon.mono ?_
  rintro e w' ⟨rfl, n, hw⟩
  have hr := RowAt.sorted (w' := w') encB_len h (d := l.toArray.reverse) (n := n) (os := #[]) (by simp) (by rw [hw]; unfold sortWorldK; rw [Go.Sort.grow_empty])
  refine ⟨rfl, ?_, hr.2⟩
  simpa using hr.1
set_option maxHeartbeats 800000 in
theorem cmpB_any (w : World) (a b : BackD) : Calls Tryz.prog 36 #[.agg #[.int .i64 a.id, .int .u32 (a.addr.toNat : Nat), .int .i64 a.weight], .agg #[.int .i64 b.id, .int .u32 (b.addr.toNat : Nat), .int .i64 b.weight]] w fun e w' => e = .returned (.int .i64 (cmpI a.id b.id)) ∧ ∃ q os', w' = Go.Sort.grow (w.drewN q) os' := by
  have HC := Lib.hid (fun w' => cmp64 w' a.id b.id)
  obtain ⟨r, hr⟩ : ∃ r, cmpI a.id b.id = r := ⟨_, rfl⟩
  rw [hr] at HC ⊢
  clear hr
  go_enter Tryz.func36, Tryz.ntmps36
  go_wp2_with (go_at_call 37; refine (HC.out _).mono ?_; rintro e w' ⟨rfl, rfl⟩)
  go_ret
  exact ⟨rfl, 0, _, by rw [Go.Sort.alloc_eq_grow, Go.Sort.alloc_eq_grow, Go.Sort.grow_grow]; rfl⟩
theorem insertion_row (w : World) (g cap : Nat) (l : List BackD) (h : RowB w g cap l) (hl : l.length ≤ 1000) :
    Calls Tryz.prog 66 #[.slice (some ⟨g, 0, none⟩) l.length cap, .int .i64 0, .int .i64 (l.length : Nat), .func (.func 36) #[] #[]] w fun e w' => e = .returned (.tuple #[]) ∧ RowB w' g cap (isortB l) ∧ Kept [g] w w' := by
  have eg : ∀ args w, (callFunc 36 args).run Tryz.prog w = .ok (.enter 36 args) w := enters_of Tryz.func36 (by kernel_rfl) rfl
  have hcon := AnyQ.insertionSortCmpFunc insLays 3 Tryz.isAgg27 Tryz.sizeOf27 encB encB_len encB_one (fun a b => cmpI a.id b.id) 36 #[] g 0 cap 0 l.length l.toArray w eg
    (fun m os dk _ x y => cmpB_any _ x y) (h.holds encB_len) h.lt (Nat.zero_le _) (by simp) (by simp only [List.size_toArray]; omega)
  change Calls Tryz.prog 66 #[.slice (some ⟨g, 0, none⟩) l.length cap, .int .i64 0, .int .i64 (l.length : Nat), .func (.func 36) #[] #[]] w _ at hcon
  have hlt : ltOf (fun a b : BackD => cmpI a.id b.id) = byId := by
    funext a b
    unfold ltOf byId
    rw [decide_eq_decide]
    exact cmpI_lt
  rw [hlt, insertion_eq] at hcon
  refine hcon.mono ?_
  rintro e w' ⟨rfl, n, os, hw⟩
  have hr := RowAt.sorted (w' := w') encB_len h (d := (isortB l).toArray) (n := n) (os := os) (by simp [(isort_perm l).length_eq]) hw
  refine ⟨rfl, ?_, hr.2⟩
  simpa using hr.1
set_option maxHeartbeats 1600000 in
theorem Stable_row (w : World) (g cap : Nat) (l : List BackD) (h : RowB w g cap l) (hl : l.length ≤ 16) :
    Calls Tryz.prog 35 #[.slice (some ⟨g, 0, none⟩) l.length cap, .func (.func 36) #[] #[]] w fun e w' => e = .returned (.tuple #[]) ∧ RowB w' g cap (isortB l) ∧ Kept [g] w w' := by
  have HI := Lib.hid (insertion_row w g cap l h (by omega))
  obtain ⟨n, hn⟩ : ∃ n, l.length = n := ⟨_, rfl⟩
  rw [hn] at HI hl ⊢
  clear hn h
  have HS : Hid (Calls Tryz.prog 53 #[.slice (some ⟨g, 0, none⟩) n cap, .int .i64 (n : Nat), .func (.func 36) #[] #[]] w fun e w' => e = .returned (.tuple #[]) ∧ RowB w' g cap (isortB l) ∧ Kept [g] w w') := by
    refine Lib.hid ?_
    have i1 : ¬ (20 : Int) ≤ (n : Int) := by omega
    have i2 : ¬ (20 : Int) < (n : Int) := by omega
    go_enter Tryz.func53, Tryz.ntmps53
    go_wp2
    go_loopg [7, 8] (0 : Nat) (fun gg b c wr => b = .int .i64 0 ∧ c = .int .i64 20 ∧ wr = w)
    case atStart => exact ⟨rfl, rfl, rfl⟩
    case round =>
      obtain ⟨rfl, rfl, rfl⟩ := hrel
      go_wp2_with (go_at_call 66; refine HI.out.mono ?_; rintro e w1 ⟨rfl, hr⟩; have HR := Lib.hid hr; clear hr)
      go_loopg [6] (0 : Nat) (fun gg a wr => a = .int .i64 20 ∧ wr = w1)
      case atStart => exact ⟨rfl, rfl⟩
      case round =>
        obtain ⟨rfl, rfl⟩ := hrel
        go_wp2
        go_end0
        exact ⟨rfl, HR.out⟩
  go_enter Tryz.func35, Tryz.ntmps35
  go_wp2_with (go_at_call 53; refine HS.out.mono ?_; rintro e w1 ⟨rfl, hr⟩; have HR := Lib.hid hr; clear hr)
  go_end0
  exact ⟨rfl, HR.out⟩
end
end Go.Proofs.YtgndijdhmkphaaaGreatDoor
