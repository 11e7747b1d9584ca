/-
  Contracts of small functions on tuples, numbers, backends.
-/
import Derived.Test.YtgndijdhmkphaaaGreatDoorRecM
namespace Go.Proofs.YtgndijdhmkphaaaGreatDoor
set_option linter.unusedVariables false
section
open Go.RowKit Go.ChangeShapes Go.WideShapes Go.Deep
set_option maxRecDepth 100000
theorem ret_bool {a b : Bool} (h : a = b) : Ending.returned (.bool a) = .returned (.bool b) := by rw [h]
theorem rid_any (w : World) (n : Int) : Calls Tryz.prog 52 #[.int .i64 n] w fun e w' => e = .returned (.bool (inB n 65535)) ∧ w = w' := by
  go_enter Tryz.func52, Tryz.ntmps52
  go_wp2
  all_goals
    go_ret
    refine ⟨ret_bool ?_, rfl⟩
    rw [Bool.eq_iff_iff]; simp [inB]; omega
set_option maxHeartbeats 800000 in
theorem rMayB_any (w : World) (b : BackD) : Calls Tryz.prog 32 #[.agg #[.int .i64 b.id, .int .u32 (b.addr.toNat : Nat), .int .i64 b.weight]] w fun e w' => e = .returned (.bool (mayB b)) ∧ Kept [] w w' := by
  cases h : inB b.id 65535
  all_goals
    go_enter Tryz.func32, Tryz.ntmps32
    go_wp2_with (go_at_call 52; refine (rid_any _ _).mono ?_; rintro e w' ⟨rfl, rfl⟩; rw [h])
    all_goals
      go_ret
      refine ⟨ret_bool ?_, (Kept.refl _ _).alloc _⟩
      rw [Bool.eq_iff_iff]; simp [mayB, h] <;> omega
def BkDec (w : World) (G : List Nat) (cs : List Value) (b : BackD) : Prop := cs = [.int .i64 b.id, .int .u32 (b.addr.toNat : Nat), .int .i64 b.weight]
theorem BkOk : DecOk 3 BkDec where
  len := by rintro w G cs f rfl; rfl
  one := by rintro w G cs f rfl u hu; simp at hu; rcases hu with rfl | rfl | rfl <;> rfl
  kept := by rintro w w' G S cs f h hk hd; exact h
  mono := by rintro w G G' cs f h hg; exact h
abbrev BkArr (w : World) (G : List Nat) (v : Value) (l : List BackD) : Prop := ArrOf w G 3 (fun w => BkDec w G) v l
abbrev BkV (W w : World) (v : Value) (l : List BackD) : Prop := LV BkDec 27 3 W w v l
theorem BkArr.kept {w w' : World} {G S : List Nat} {v : Value} {l : List BackD} (h : BkArr w G v l) (hk : Kept S w w') (hd : ∀ k ∈ G, k ∉ S) : BkArr w' G v l :=
  ArrOf.kept (Dec := fun w => BkDec w G) h hk hd (fun cs a h => h)
theorem BkArr.at {w : World} {G : List Nat} {A : Option Addr} {m c : Nat} {l : List BackD} (h : BkArr w G (.slice A m c) l) {k : Nat} (hk : k < l.length) :
    ∃ g o, A = some ⟨g, o, none⟩ ∧ g < w.heap.size ∧ g ∈ G ∧ w.cell? ⟨g, o + k * 3, none⟩ = some (.int .i64 l[k].id) ∧ w.cell? ⟨g, o + k * 3 + 1, none⟩ = some (.int .u32 (l[k].addr.toNat : Nat)) ∧ w.cell? ⟨g, o + k * 3 + 2, none⟩ = some (.int .i64 l[k].weight) := by
  obtain ⟨A', m', c', e, h1, h2, h3, h4, h5⟩ := h
  injection e with e1 e2 e3
  subst e1 e2 e3
  obtain ⟨g, o, rfl, hg, hlt, hc⟩ := h5 (by rintro rfl; simp at hk)
  obtain ⟨cs, _, rfl, hcell⟩ := hc k _ (List.getElem?_eq_getElem hk)
  exact ⟨g, o, rfl, hlt, hg, by simpa using hcell 0 (by omega), by simpa [Nat.add_assoc] using hcell 1 (by omega), by simpa [Nat.add_assoc] using hcell 2 (by omega)⟩
theorem BkArr.len {w : World} {G : List Nat} {A : Option Addr} {m c : Nat} {l : List BackD} (h : BkArr w G (.slice A m c) l) : l.length = m ∧ m ≤ c ∧ c ≤ maxLen ∧ (A = none → m = 0 ∧ c = 0) := by
  obtain ⟨A', m', c', e, h1, h2, h3, h4, h5⟩ := h
  injection e with e1 e2 e3
  subst e1 e2 e3
  exact ⟨h1, h2, h3, h4⟩
theorem info_back : (Tryz.prog.info? 27).map (fun i => (i.zero, i.size, i.bytes)) = some (some (.agg #[.int .i64 0, .int .u32 0, .int .i64 0]), 3, 24) := by kernel_rfl
theorem elem_back : Elem Tryz.prog 22 27 3 24 := Elem.mk' Tryz.underlying22 info_back rfl (by omega)
end
end Go.Proofs.YtgndijdhmkphaaaGreatDoor
