
/-
  Contracts of small functions on tuples, numbers, backends.
-/
import Derived.Test.YtoibecclilmllaaRecM
namespace Go.Proofs.Ytoibecclilmllaa
open Go.RowKit Go.ChangeShapes Go.WideShapes Go.Deep
set_option linter.unusedVariables false

theorem ret_bool {a b : Bool} (h : a = b) : Ending.returned (.bool a) = .returned (.bool b) := by rw [h]
set_option maxHeartbeats 1600000 in
theorem tMay_any (w : World) (t : TupD) : Calls Try.prog 17 #[.agg #[.int .u32 (t.src.toNat : Nat), .int .u32 (t.dst.toNat : Nat), .int .i64 t.proto, .int .i64 t.sport, .int .i64 t.dport]] w fun e w' => e = .returned (.bool (mayT t)) ∧ Kept [] w w' := by
  by_cases p6 : t.proto = 6
  · have b6 : (t.proto == 6) = true := by simp [p6]
    go_enter Try.func17, Try.ntmps17
    go_wp2
    all_goals
      go_ret
      refine ⟨ret_bool ?_, (Kept.refl _ _).alloc _⟩
      rw [Bool.eq_iff_iff]; simp [mayT]; omega
  · have b6 : (t.proto == 6) = false := by simp [p6]
    by_cases p17 : t.proto = 17
    · have b17 : (t.proto == 17) = true := by simp [p17]
      go_enter Try.func17, Try.ntmps17
      go_wp2
      all_goals
        go_ret
        refine ⟨ret_bool ?_, (Kept.refl _ _).alloc _⟩
        rw [Bool.eq_iff_iff]; simp [mayT]; omega
    · have b17 : (t.proto == 17) = false := by simp [p17]
      go_enter Try.func17, Try.ntmps17
      go_wp2
      all_goals
        go_ret
        refine ⟨ret_bool ?_, (Kept.refl _ _).alloc _⟩
        rw [Bool.eq_iff_iff]; simp [mayT]; omega
set_option maxHeartbeats 1600000 in
theorem rtMay_any (w : World) (t : TupD) : Calls Try.prog 23 #[.agg #[.int .u32 (t.src.toNat : Nat), .int .u32 (t.dst.toNat : Nat), .int .i64 t.proto, .int .i64 t.sport, .int .i64 t.dport]] w fun e w' => e = .returned (.bool (mayT t)) ∧ Kept [] w w' := by
  by_cases p6 : t.proto = 6
  · have b6 : (t.proto == 6) = true := by simp [p6]
    go_enter Try.func23, Try.ntmps23
    go_wp2
    all_goals
      go_ret
      refine ⟨ret_bool ?_, (Kept.refl _ _).alloc _⟩
      rw [Bool.eq_iff_iff]; simp [mayT]; omega
  · have b6 : (t.proto == 6) = false := by simp [p6]
    by_cases p17 : t.proto = 17
    · have b17 : (t.proto == 17) = true := by simp [p17]
      go_enter Try.func23, Try.ntmps23
      go_wp2
      all_goals
        go_ret
        refine ⟨ret_bool ?_, (Kept.refl _ _).alloc _⟩
        rw [Bool.eq_iff_iff]; simp [mayT]; omega
    · have b17 : (t.proto == 17) = false := by simp [p17]
      go_enter Try.func23, Try.ntmps23
      go_wp2
      all_goals
        go_ret
        refine ⟨ret_bool ?_, (Kept.refl _ _).alloc _⟩
        rw [Bool.eq_iff_iff]; simp [mayT]; omega
theorem in_any (w : World) (n most : Int) : Calls Try.prog 18 #[.int .i64 n, .int .i64 most] w fun e w' => e = .returned (.bool (inB n most)) ∧ w = w' := by
  go_enter Try.func18, Try.ntmps18
  go_wp2
  all_goals
    go_ret
    refine ⟨ret_bool ?_, rfl⟩
    rw [Bool.eq_iff_iff]; simp [inB]; omega
theorem time_any (w : World) (n : Int) : Calls Try.prog 19 #[.int .i64 n] w fun e w' => e = .returned (.bool (timeB n)) ∧ w = w' := by
  go_enter Try.func19, Try.ntmps19
  go_wp2
  all_goals
    go_ret
    refine ⟨ret_bool ?_, rfl⟩
    rw [Bool.eq_iff_iff]; simp [timeB, inB]; omega
theorem version_any (w : World) (n : Int) : Calls Try.prog 29 #[.int .i64 n] w fun e w' => e = .returned (.bool (verB n)) ∧ w = w' := by
  go_enter Try.func29, Try.ntmps29
  go_wp2
  all_goals
    go_ret
    refine ⟨ret_bool ?_, rfl⟩
    rw [Bool.eq_iff_iff]; simp [verB]; omega
theorem rVersion_any (w : World) (n : Int) : Calls Try.prog 30 #[.int .i64 n] w fun e w' => e = .returned (.bool (verB n)) ∧ w = w' := by
  go_enter Try.func30, Try.ntmps30
  go_wp2
  all_goals
    go_ret
    refine ⟨ret_bool ?_, rfl⟩
    rw [Bool.eq_iff_iff]; simp [verB]; omega
theorem rid_any (w : World) (n : Int) : Calls Try.prog 25 #[.int .i64 n] w fun e w' => e = .returned (.bool (inB n 65535)) ∧ w = w' := by
  go_enter Try.func25, Try.ntmps25
  go_wp2
  all_goals
    go_ret
    refine ⟨ret_bool ?_, rfl⟩
    rw [Bool.eq_iff_iff]; simp [inB]; omega
theorem rcount_any (w : World) (n : Int) : Calls Try.prog 26 #[.int .i64 n] w fun e w' => e = .returned (.bool (inB n 1000000)) ∧ w = w' := by
  go_enter Try.func26, Try.ntmps26
  go_wp2
  all_goals
    go_ret
    refine ⟨ret_bool ?_, rfl⟩
    rw [Bool.eq_iff_iff]; simp [inB]; omega
theorem rtime_any (w : World) (n : Int) : Calls Try.prog 27 #[.int .i64 n] w fun e w' => e = .returned (.bool (timeB n)) ∧ w = w' := by
  go_enter Try.func27, Try.ntmps27
  go_wp2
  all_goals
    go_ret
    refine ⟨ret_bool ?_, rfl⟩
    rw [Bool.eq_iff_iff]; simp [timeB, inB]; omega
set_option maxHeartbeats 800000 in
theorem backend_any (w : World) (b : BackD) : Calls Try.prog 22 #[.agg #[.int .i64 b.id, .int .u32 (b.addr.toNat : Nat), .int .i64 b.weight]] w fun e w' => e = .returned (.bool (mayB b)) ∧ Kept [] w w' := by
  cases h : inB b.id 65535
  all_goals
    go_enter Try.func22, Try.ntmps22
    go_wp2_with (go_at_call 18; refine (in_any _ _ _).mono ?_; rintro e w' ⟨rfl, rfl⟩; rw [h])
    all_goals
      go_ret
      refine ⟨ret_bool ?_, (Kept.refl _ _).alloc _⟩
      rw [Bool.eq_iff_iff]; simp [mayB, h] <;> omega
set_option maxHeartbeats 800000 in
theorem rMayB_any (w : World) (b : BackD) : Calls Try.prog 24 #[.agg #[.int .i64 b.id, .int .u32 (b.addr.toNat : Nat), .int .i64 b.weight]] w fun e w' => e = .returned (.bool (mayB b)) ∧ Kept [] w w' := by
  cases h : inB b.id 65535
  all_goals
    go_enter Try.func24, Try.ntmps24
    go_wp2_with (go_at_call 25; refine (rid_any _ _).mono ?_; rintro e w' ⟨rfl, rfl⟩; rw [h])
    all_goals
      go_ret
      refine ⟨ret_bool ?_, (Kept.refl _ _).alloc _⟩
      rw [Bool.eq_iff_iff]; simp [mayB, h] <;> omega
set_option maxHeartbeats 800000 in
theorem mayF_any (w : World) (b : BackD) : Calls Try.prog 21 #[.agg #[.int .i64 b.id, .int .u32 (b.addr.toNat : Nat), .int .i64 b.weight]] w fun e w' => e = .returned (.bool (!mayB b)) ∧ Kept [] w w' := by
  cases h : mayB b
  all_goals
    go_enter Try.func21, Try.ntmps21
    go_wp2_with (go_at_call 22; refine (backend_any _ b).mono ?_; rintro e w' ⟨rfl, hk⟩; rw [h]; have Hk := Lib.hid hk; clear hk)
    go_ret
    exact ⟨rfl, ((Kept.refl _ _).alloc _).trans Hk.out (by simp)⟩

/-- cells that read a backend -/
def BkDec (w : World) (G : List Nat) (cs : List Value) (b : BackD) : Prop := cs = [.int .i64 b.id, .int .u32 (b.addr.toNat : Nat), .int .i64 b.weight]
theorem BkOk : DecOk 3 BkDec where
  len := by rintro w G cs f rfl; rfl
  one := by rintro w G cs f rfl u hu; simp at hu; rcases hu with rfl | rfl | rfl <;> rfl
  kept := by rintro w w' G S cs f h hk hd; exact h
  mono := by rintro w G G' cs f h hg; exact h
abbrev BkArr (w : World) (G : List Nat) (v : Value) (l : List BackD) : Prop := ArrOf w G 3 (fun w => BkDec w G) v l
abbrev BkV (W w : World) (v : Value) (l : List BackD) : Prop := LV BkDec 45 3 W w v l
theorem BkArr.kept {w w' : World} {G S : List Nat} {v : Value} {l : List BackD} (h : BkArr w G v l) (hk : Kept S w w') (hd : ∀ k ∈ G, k ∉ S) : BkArr w' G v l :=
  ArrOf.kept (Dec := fun w => BkDec w G) h hk hd (fun cs a h => h)
theorem BkArr.at {w : World} {G : List Nat} {A : Option Addr} {m c : Nat} {l : List BackD} (h : BkArr w G (.slice A m c) l) {k : Nat} (hk : k < l.length) :
    ∃ g o, A = some ⟨g, o, none⟩ ∧ g < w.heap.size ∧ g ∈ G ∧ w.cell? ⟨g, o + k * 3, none⟩ = some (.int .i64 l[k].id) ∧ w.cell? ⟨g, o + k * 3 + 1, none⟩ = some (.int .u32 (l[k].addr.toNat : Nat)) ∧ w.cell? ⟨g, o + k * 3 + 2, none⟩ = some (.int .i64 l[k].weight) := by
  obtain ⟨A', m', c', e, h1, h2, h3, h4, h5⟩ := h
  injection e with e1 e2 e3
  subst e1 e2 e3
  obtain ⟨g, o, rfl, hg, hlt, hc⟩ := h5 (by rintro rfl; simp at hk)
  obtain ⟨cs, _, rfl, hcell⟩ := hc k _ (List.getElem?_eq_getElem hk)
  exact ⟨g, o, rfl, hlt, hg, by simpa using hcell 0 (by omega), by simpa [Nat.add_assoc] using hcell 1 (by omega), by simpa [Nat.add_assoc] using hcell 2 (by omega)⟩
theorem BkArr.len {w : World} {G : List Nat} {A : Option Addr} {m c : Nat} {l : List BackD} (h : BkArr w G (.slice A m c) l) : l.length = m ∧ m ≤ c ∧ c ≤ maxLen ∧ (A = none → m = 0 ∧ c = 0) := by
  obtain ⟨A', m', c', e, h1, h2, h3, h4, h5⟩ := h
  injection e with e1 e2 e3
  subst e1 e2 e3
  exact ⟨h1, h2, h3, h4⟩
theorem info_back : (Try.prog.info? 45).map (fun i => (i.zero, i.size, i.bytes)) = some (some (.agg #[.int .i64 0, .int .u32 0, .int .i64 0]), 3, 24) := by kernel_rfl
theorem elem_back : Elem Try.prog 27 45 3 24 := Elem.mk' Try.underlying27 info_back rfl (by omega)
end Go.Proofs.Ytoibecclilmllaa
