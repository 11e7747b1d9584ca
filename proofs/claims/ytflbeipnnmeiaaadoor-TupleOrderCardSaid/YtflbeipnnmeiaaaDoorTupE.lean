
/-
  The walk of TupleOrder.
-/
import Derived.Test.YtflbeipnnmeiaaaDoorTupD
import Derived.Test.YtflbeipnnmeiaaaDoorRecZ
import Derived.Test.YtflbeipnnmeiaaaDoorArgs
import Derived.Deep.DeepCutAuto
import Derived.Outline
namespace Go.Proofs.YtflbeipnnmeiaaaDoor
open Go.RowKit Go.ChangeShapes Go.WideShapes Go.ChangeAt Go.Deep
set_option linter.unusedVariables false
set_option maxRecDepth 100000

theorem neq_ifs {α : Type} {a b : TupD} (hab : a ≠ b) (x y : α) : (if ((a.src.toNat : Nat) : Int) = ((b.src.toNat : Nat) : Int) then if ((a.dst.toNat : Nat) : Int) = ((b.dst.toNat : Nat) : Int) then if a.proto = b.proto then if a.sport = b.sport then if a.dport = b.dport then x else y else y else y else y else y) = y := by
  by_cases h1 : ((a.src.toNat : Nat) : Int) = ((b.src.toNat : Nat) : Int)
  · by_cases h2 : ((a.dst.toNat : Nat) : Int) = ((b.dst.toNat : Nat) : Int)
    · by_cases h3 : a.proto = b.proto
      · by_cases h4 : a.sport = b.sport
        · by_cases h5 : a.dport = b.dport
          · exact absurd (keyT_inj (by simp only [keyT, h1, h2, h3, h4, h5])) hab
          · rw [if_pos h1, if_pos h2, if_pos h3, if_pos h4, if_neg h5]
        · rw [if_pos h1, if_pos h2, if_pos h3, if_neg h4]
      · rw [if_pos h1, if_pos h2, if_neg h3]
    · rw [if_pos h1, if_neg h2]
  · rw [if_neg h1]
set_option maxHeartbeats 12800000 in
theorem TupleOrder_e (w : World) (a c : TupD) (ia : inI a.sport ∧ inI a.dport) (ib : inI a.sport ∧ inI a.dport) (ht : PowTab w) :
    Calls Tryd.prog 3 #[.agg #[.int .u32 (a.src.toNat : Nat), .int .u32 (a.dst.toNat : Nat), .int .i64 a.proto, .int .i64 a.sport, .int .i64 a.dport], .agg #[.int .u32 (a.src.toNat : Nat), .int .u32 (a.dst.toNat : Nat), .int .i64 a.proto, .int .i64 a.sport, .int .i64 a.dport], .agg #[.int .u32 (c.src.toNat : Nat), .int .u32 (c.dst.toNat : Nat), .int .i64 c.proto, .int .i64 c.sport, .int .i64 c.dport]] w fun e w' => e = .returned (.bool true) ∧ Kept [] w w' := by
  have HT := Lib.hid (fun w' (hk : Kept [] w w') => tab_kept ht (g := 1) (by kernel_rfl) hk (by simp))
  have P := Lib.hid (show Blk (((w.alloc (.cells #[.int .u32 (a.src.toNat : Nat), .int .u32 (a.dst.toNat : Nat), .int .i64 a.proto, .int .i64 a.sport, .int .i64 a.dport] 24)).alloc (.cells #[.int .u32 (a.src.toNat : Nat), .int .u32 (a.dst.toNat : Nat), .int .i64 a.proto, .int .i64 a.sport, .int .i64 a.dport] 24)).alloc (.cells #[.int .u32 (c.src.toNat : Nat), .int .u32 (c.dst.toNat : Nat), .int .i64 c.proto, .int .i64 c.sport, .int .i64 c.dport] 24)) w.heap.size 24 #[.int .u32 (a.src.toNat : Nat), .int .u32 (a.dst.toNat : Nat), .int .i64 a.proto, .int .i64 a.sport, .int .i64 a.dport] from by (repeat (first | (apply Blk.new'; simp; done) | apply Blk.alloc | apply Blk.drew)))
  have Q := Lib.hid (show Blk (((w.alloc (.cells #[.int .u32 (a.src.toNat : Nat), .int .u32 (a.dst.toNat : Nat), .int .i64 a.proto, .int .i64 a.sport, .int .i64 a.dport] 24)).alloc (.cells #[.int .u32 (a.src.toNat : Nat), .int .u32 (a.dst.toNat : Nat), .int .i64 a.proto, .int .i64 a.sport, .int .i64 a.dport] 24)).alloc (.cells #[.int .u32 (c.src.toNat : Nat), .int .u32 (c.dst.toNat : Nat), .int .i64 c.proto, .int .i64 c.sport, .int .i64 c.dport] 24)) (w.heap.size + 1) 24 #[.int .u32 (a.src.toNat : Nat), .int .u32 (a.dst.toNat : Nat), .int .i64 a.proto, .int .i64 a.sport, .int .i64 a.dport] from by (repeat (first | (apply Blk.new'; simp; done) | apply Blk.alloc | apply Blk.drew)))
  have R := Lib.hid (show Blk (((w.alloc (.cells #[.int .u32 (a.src.toNat : Nat), .int .u32 (a.dst.toNat : Nat), .int .i64 a.proto, .int .i64 a.sport, .int .i64 a.dport] 24)).alloc (.cells #[.int .u32 (a.src.toNat : Nat), .int .u32 (a.dst.toNat : Nat), .int .i64 a.proto, .int .i64 a.sport, .int .i64 a.dport] 24)).alloc (.cells #[.int .u32 (c.src.toNat : Nat), .int .u32 (c.dst.toNat : Nat), .int .i64 c.proto, .int .i64 c.sport, .int .i64 c.dport] 24)) (w.heap.size + 2) 24 #[.int .u32 (c.src.toNat : Nat), .int .u32 (c.dst.toNat : Nat), .int .i64 c.proto, .int .i64 c.sport, .int .i64 c.dport] from by (repeat (first | (apply Blk.new'; simp; done) | apply Blk.alloc | apply Blk.drew)))
  have K := Lib.hid (show Kept [] w (((w.alloc (.cells #[.int .u32 (a.src.toNat : Nat), .int .u32 (a.dst.toNat : Nat), .int .i64 a.proto, .int .i64 a.sport, .int .i64 a.dport] 24)).alloc (.cells #[.int .u32 (a.src.toNat : Nat), .int .u32 (a.dst.toNat : Nat), .int .i64 a.proto, .int .i64 a.sport, .int .i64 a.dport] 24)).alloc (.cells #[.int .u32 (c.src.toNat : Nat), .int .u32 (c.dst.toNat : Nat), .int .i64 c.proto, .int .i64 c.sport, .int .i64 c.dport] 24)) from by (repeat (first | exact Kept.refl _ _ | apply Kept.alloc | apply Kept.drew)))
  have L1 := Lib.hid (less_irr a)
  have IA := Lib.hid ia
  have IB := Lib.hid ib
  clear ht ia ib
  go_enter Tryd.func3, Tryd.ntmps3
  go_wp2
  generalize (((w.alloc (.cells #[.int .u32 (a.src.toNat : Nat), .int .u32 (a.dst.toNat : Nat), .int .i64 a.proto, .int .i64 a.sport, .int .i64 a.dport] 24)).alloc (.cells #[.int .u32 (a.src.toNat : Nat), .int .u32 (a.dst.toNat : Nat), .int .i64 a.proto, .int .i64 a.sport, .int .i64 a.dport] 24)).alloc (.cells #[.int .u32 (c.src.toNat : Nat), .int .u32 (c.dst.toNat : Nat), .int .i64 c.proto, .int .i64 c.sport, .int .i64 c.dport] 24)) = w0 at *
  refine wp_region_held_drew (S := fun w' => Kept [] w0 w' ∧ (∀ o, w'.cell? ⟨w.heap.size, o, none⟩ = (#[.int .u32 (a.src.toNat : Nat), .int .u32 (a.dst.toNat : Nat), .int .i64 a.proto, .int .i64 a.sport, .int .i64 a.dport] : Array Value)[o]?) ∧ (∀ o, w'.cell? ⟨w.heap.size + 1, o, none⟩ = (#[.int .u32 (a.src.toNat : Nat), .int .u32 (a.dst.toNat : Nat), .int .i64 a.proto, .int .i64 a.sport, .int .i64 a.dport] : Array Value)[o]?) ∧ (∀ o, w'.cell? ⟨w.heap.size + 2, o, none⟩ = (#[.int .u32 (c.src.toNat : Nat), .int .u32 (c.dst.toNat : Nat), .int .i64 c.proto, .int .i64 c.sport, .int .i64 c.dport] : Array Value)[o]?)) (by kernel_rfl) ?_ (fun hHeld => ?_)
  focus ((try dsimp only); first | exact ⟨(Kept.refl [] _).drew, P.out.cell, Q.out.cell, R.out.cell⟩ | exact ⟨hkn, (P.out.kept hkn (by simp)).cell, (Q.out.kept hkn (by simp)).cell, (R.out.kept hkn (by simp)).cell⟩)
  refine wpAnyH_take (i := 0) (oi := ⟨some 7, _, _, _, _, _⟩) (v := ?v0) rfl (by kernel_rfl) (by kernel_rfl) (by kernel_rfl) (fun _ _ _ h => h) (Or.inl ⟨by kernel_rfl, ?hy0⟩) (by assumption) ?rest0
  case hy0 => (intro w9 hSw; (try dsimp only at hSw); go_simp; (try with_reducible rfl))
  simp only [Act.put, List.setIfInBounds_toArray, List.set_cons_zero, List.set_cons_succ]
  refine wpAnyH_take (i := 1) (oi := ⟨some 8, _, _, _, _, _⟩) (v := ?v1) rfl (by kernel_rfl) (by kernel_rfl) (by kernel_rfl) (fun _ _ _ h => h) (Or.inl ⟨by kernel_rfl, ?hy1⟩) (by assumption) ?rest1
  case hy1 => (intro w9 hSw; (try dsimp only at hSw); go_simp; (try with_reducible rfl))
  simp only [Act.put, List.setIfInBounds_toArray, List.set_cons_zero, List.set_cons_succ]
  refine wpAnyH_ready (rs := [2]) (by kernel_rfl) (by simp) ?_
  refine AllReadyH.cons (o := ⟨some 9, _, _, _, _, _⟩) rfl (fun K9 hK9 => ?_) AllReadyH.nil
  go_simp
  go_at_call 7
  refine (Less_any _ _ _).mono ?_
  rintro e w7 ⟨rfl, k1⟩
  rw [L1.out]
  have hkn := hHeld.1.trans k1 (by simp)
  clear k1
  (try go_wp2_with fail)
  refine hK9.out _ _ ?_ (fun hHeld9 => ?_)
  focus ((try dsimp only); first | exact ⟨(Kept.refl [] _).drew, P.out.cell, Q.out.cell, R.out.cell⟩ | exact ⟨hkn, (P.out.kept hkn (by simp)).cell, (Q.out.kept hkn (by simp)).cell, (R.out.kept hkn (by simp)).cell⟩)
  clear hK9 K9 hHeld
  have hHeld := hHeld9
  clear hHeld9
  try simp only [Act.put, List.setIfInBounds_toArray, List.set_cons_zero, List.set_cons_succ]
  refine wpAnyH_take (i := 3) (oi := ⟨some 10, _, _, _, _, _⟩) (v := ?v3) rfl (by kernel_rfl) (by kernel_rfl) (by kernel_rfl) (fun _ _ _ h => h) (Or.inl ⟨by kernel_rfl, ?hy3⟩) (by assumption) ?rest3
  case hy3 => (intro w9 hSw; (try dsimp only at hSw); go_simp; (try with_reducible rfl))
  simp only [Act.put, List.setIfInBounds_toArray, List.set_cons_zero, List.set_cons_succ]
  refine wpAnyH_take (i := 4) (oi := ⟨some 11, _, _, _, _, _⟩) (v := ?v4) rfl (by kernel_rfl) (by kernel_rfl) (by kernel_rfl) (fun _ _ _ h => h) (Or.inl ⟨by kernel_rfl, ?hy4⟩) (by assumption) ?rest4
  case hy4 => (intro w9 hSw; (try dsimp only at hSw); go_simp; (try with_reducible rfl))
  simp only [Act.put, List.setIfInBounds_toArray, List.set_cons_zero, List.set_cons_succ]
  refine wpAnyH_take (i := 5) (oi := ⟨some 12, _, _, _, _, _⟩) (v := ?v5) rfl (by kernel_rfl) (by kernel_rfl) (by kernel_rfl) (fun _ _ _ h => h) (Or.inl ⟨by kernel_rfl, ?hy5⟩) (by assumption) ?rest5
  case hy5 => (intro w9 hSw; (try dsimp only at hSw); go_simp; (try with_reducible rfl))
  simp only [Act.put, List.setIfInBounds_toArray, List.set_cons_zero, List.set_cons_succ]
  refine wpAnyH_take (i := 6) (oi := ⟨some 13, _, _, _, _, _⟩) (v := ?v6) rfl (by kernel_rfl) (by kernel_rfl) (by kernel_rfl) (fun _ _ _ h => h) (Or.inl ⟨by kernel_rfl, ?hy6⟩) (by assumption) ?rest6
  case hy6 => (intro w9 hSw; (try dsimp only at hSw); go_simp; (try with_reducible rfl))
  simp only [Act.put, List.setIfInBounds_toArray, List.set_cons_zero, List.set_cons_succ]
  refine wpAnyH_take (i := 7) (oi := ⟨some 14, _, _, _, _, _⟩) (v := ?v7) rfl (by kernel_rfl) (by kernel_rfl) (by kernel_rfl) (fun _ _ _ h => h) (Or.inl ⟨by kernel_rfl, ?hy7⟩) (by assumption) ?rest7
  case hy7 => (intro w9 hSw; (try dsimp only at hSw); go_simp; (try with_reducible rfl))
  simp only [Act.put, List.setIfInBounds_toArray, List.set_cons_zero, List.set_cons_succ]
  refine wpAnyH_take (i := 8) (oi := ⟨some 15, _, _, _, _, _⟩) (v := undef) rfl (by kernel_rfl) (by kernel_rfl) (by kernel_rfl) (fun _ _ _ h => h) (Or.inr ⟨by kernel_rfl, rfl⟩) (by assumption) ?_
  simp only [Act.put, List.setIfInBounds_toArray, List.set_cons_zero, List.set_cons_succ]
  refine wpAnyH_take (i := 9) (oi := ⟨some 16, _, _, _, _, _⟩) (v := undef) rfl (by kernel_rfl) (by kernel_rfl) (by kernel_rfl) (fun _ _ _ h => h) (Or.inr ⟨by kernel_rfl, rfl⟩) (by assumption) ?_
  simp only [Act.put, List.setIfInBounds_toArray, List.set_cons_zero, List.set_cons_succ]
  refine wpAnyH_take (i := 11) (oi := ⟨some 18, _, _, _, _, _⟩) (v := undef) rfl (by kernel_rfl) (by kernel_rfl) (by kernel_rfl) (fun _ _ _ h => h) (Or.inr ⟨by kernel_rfl, rfl⟩) (by assumption) ?_
  simp only [Act.put, List.setIfInBounds_toArray, List.set_cons_zero, List.set_cons_succ]
  refine wpAnyH_take (i := 12) (oi := ⟨some 19, _, _, _, _, _⟩) (v := undef) rfl (by kernel_rfl) (by kernel_rfl) (by kernel_rfl) (fun _ _ _ h => h) (Or.inr ⟨by kernel_rfl, rfl⟩) (by assumption) ?_
  simp only [Act.put, List.setIfInBounds_toArray, List.set_cons_zero, List.set_cons_succ]
  refine wpAnyH_take (i := 10) (oi := ⟨some 17, _, _, _, _, _⟩) (v := undef) rfl (by kernel_rfl) (by kernel_rfl) (by kernel_rfl) (fun _ _ _ h => h) (Or.inr ⟨by kernel_rfl, rfl⟩) (by assumption) ?_
  simp only [Act.put, List.setIfInBounds_toArray, List.set_cons_zero, List.set_cons_succ]
  refine wpAnyH_take (i := 13) (oi := ⟨some 20, _, _, _, _, _⟩) (v := undef) rfl (by kernel_rfl) (by kernel_rfl) (by kernel_rfl) (fun _ _ _ h => h) (Or.inr ⟨by kernel_rfl, rfl⟩) (by assumption) ?_
  simp only [Act.put, List.setIfInBounds_toArray, List.set_cons_zero, List.set_cons_succ]
  refine wpAnyH_take (i := 14) (oi := ⟨some 21, _, _, _, _, _⟩) (v := undef) rfl (by kernel_rfl) (by kernel_rfl) (by kernel_rfl) (fun _ _ _ h => h) (Or.inr ⟨by kernel_rfl, rfl⟩) (by assumption) ?_
  simp only [Act.put, List.setIfInBounds_toArray, List.set_cons_zero, List.set_cons_succ]
  refine wpAnyH_take (i := 15) (oi := ⟨some 22, _, _, _, _, _⟩) (v := ?v15) rfl (by kernel_rfl) (by kernel_rfl) (by kernel_rfl) (fun _ _ _ h => h) (Or.inl ⟨by kernel_rfl, ?hy15⟩) (by assumption) ?rest15
  case hy15 => (intro w9 hSw; (try dsimp only at hSw); go_simp; (try with_reducible rfl))
  simp only [Act.put, List.setIfInBounds_toArray, List.set_cons_zero, List.set_cons_succ]
  refine wpAnyH_take (i := 16) (oi := ⟨some 23, _, _, _, _, _⟩) (v := ?v16) rfl (by kernel_rfl) (by kernel_rfl) (by kernel_rfl) (fun _ _ _ h => h) (Or.inl ⟨by kernel_rfl, ?hy16⟩) (by assumption) ?rest16
  case hy16 => (intro w9 hSw; (try dsimp only at hSw); go_simp; (try with_reducible rfl))
  simp only [Act.put, List.setIfInBounds_toArray, List.set_cons_zero, List.set_cons_succ]
  refine wpAnyH_take (i := 17) (oi := ⟨some 24, _, _, _, _, _⟩) (v := ?v17) rfl (by kernel_rfl) (by kernel_rfl) (by kernel_rfl) (fun _ _ _ h => h) (Or.inl ⟨by kernel_rfl, ?hy17⟩) (by assumption) ?rest17
  case hy17 => (intro w9 hSw; (try dsimp only at hSw); go_simp; (try with_reducible rfl))
  simp only [Act.put, List.setIfInBounds_toArray, List.set_cons_zero, List.set_cons_succ]
  refine wpAnyH_take (i := 18) (oi := ⟨some 25, _, _, _, _, _⟩) (v := ?v18) rfl (by kernel_rfl) (by kernel_rfl) (by kernel_rfl) (fun _ _ _ h => h) (Or.inl ⟨by kernel_rfl, ?hy18⟩) (by assumption) ?rest18
  case hy18 => (intro w9 hSw; (try dsimp only at hSw); go_simp; (try with_reducible rfl))
  simp only [Act.put, List.setIfInBounds_toArray, List.set_cons_zero, List.set_cons_succ]
  refine wpAnyH_take (i := 19) (oi := ⟨some 26, _, _, _, _, _⟩) (v := ?v19) rfl (by kernel_rfl) (by kernel_rfl) (by kernel_rfl) (fun _ _ _ h => h) (Or.inl ⟨by kernel_rfl, ?hy19⟩) (by assumption) ?rest19
  case hy19 => (intro w9 hSw; (try dsimp only at hSw); go_simp; (try with_reducible rfl))
  simp only [Act.put, List.setIfInBounds_toArray, List.set_cons_zero, List.set_cons_succ]
  refine wpAnyH_ready (rs := [20]) (by kernel_rfl) (by simp) ?_
  refine AllReadyH.cons (o := ⟨some 27, _, _, _, _, _⟩) rfl (fun K9 hK9 => ?_) AllReadyH.nil
  go_simp
  go_at_call 7
  refine (Less_any _ _ _).mono ?_
  rintro e w7 ⟨rfl, k1⟩
  rw [L1.out]
  have hkn := hHeld.1.trans k1 (by simp)
  clear k1
  (try go_wp2_with fail)
  refine hK9.out _ _ ?_ (fun hHeld9 => ?_)
  focus ((try dsimp only); first | exact ⟨(Kept.refl [] _).drew, P.out.cell, Q.out.cell, R.out.cell⟩ | exact ⟨hkn, (P.out.kept hkn (by simp)).cell, (Q.out.kept hkn (by simp)).cell, (R.out.kept hkn (by simp)).cell⟩)
  clear hK9 K9 hHeld
  have hHeld := hHeld9
  clear hHeld9
  try simp only [Act.put, List.setIfInBounds_toArray, List.set_cons_zero, List.set_cons_succ]
  refine wpAnyH_take (i := 21) (oi := ⟨some 28, _, _, _, _, _⟩) (v := ?v21) rfl (by kernel_rfl) (by kernel_rfl) (by kernel_rfl) (fun _ _ _ h => h) (Or.inl ⟨by kernel_rfl, ?hy21⟩) (by assumption) ?rest21
  case hy21 => (intro w9 hSw; (try dsimp only at hSw); go_simp; (try with_reducible rfl))
  simp only [Act.put, List.setIfInBounds_toArray, List.set_cons_zero, List.set_cons_succ]
  refine wpAnyH_take (i := 22) (oi := ⟨some 29, _, _, _, _, _⟩) (v := undef) rfl (by kernel_rfl) (by kernel_rfl) (by kernel_rfl) (fun _ _ _ h => h) (Or.inr ⟨by kernel_rfl, rfl⟩) (by assumption) ?_
  simp only [Act.put, List.setIfInBounds_toArray, List.set_cons_zero, List.set_cons_succ]
  refine wpAnyH_take (i := 23) (oi := ⟨some 30, _, _, _, _, _⟩) (v := undef) rfl (by kernel_rfl) (by kernel_rfl) (by kernel_rfl) (fun _ _ _ h => h) (Or.inr ⟨by kernel_rfl, rfl⟩) (by assumption) ?_
  simp only [Act.put, List.setIfInBounds_toArray, List.set_cons_zero, List.set_cons_succ]
  refine wpAnyH_take (i := 24) (oi := ⟨some 31, _, _, _, _, _⟩) (v := undef) rfl (by kernel_rfl) (by kernel_rfl) (by kernel_rfl) (fun _ _ _ h => h) (Or.inr ⟨by kernel_rfl, rfl⟩) (by assumption) ?_
  simp only [Act.put, List.setIfInBounds_toArray, List.set_cons_zero, List.set_cons_succ]
  refine wpAnyH_take (i := 25) (oi := ⟨some 32, _, _, _, _, _⟩) (v := ?v25) rfl (by kernel_rfl) (by kernel_rfl) (by kernel_rfl) (fun _ _ _ h => h) (Or.inl ⟨by kernel_rfl, ?hy25⟩) (by assumption) ?rest25
  case hy25 => (intro w9 hSw; (try dsimp only at hSw); go_simp; (try with_reducible rfl))
  simp only [Act.put, List.setIfInBounds_toArray, List.set_cons_zero, List.set_cons_succ]
  refine wpAnyH_take (i := 26) (oi := ⟨some 33, _, _, _, _, _⟩) (v := ?v26) rfl (by kernel_rfl) (by kernel_rfl) (by kernel_rfl) (fun _ _ _ h => h) (Or.inl ⟨by kernel_rfl, ?hy26⟩) (by assumption) ?rest26
  case hy26 => (intro w9 hSw; (try dsimp only at hSw); go_simp; (try with_reducible rfl))
  simp only [Act.put, List.setIfInBounds_toArray, List.set_cons_zero, List.set_cons_succ]
  refine wpAnyH_take (i := 27) (oi := ⟨some 34, _, _, _, _, _⟩) (v := undef) rfl (by kernel_rfl) (by kernel_rfl) (by kernel_rfl) (fun _ _ _ h => h) (Or.inr ⟨by kernel_rfl, rfl⟩) (by assumption) ?_
  simp only [Act.put, List.setIfInBounds_toArray, List.set_cons_zero, List.set_cons_succ]
  refine wpAnyH_take (i := 28) (oi := ⟨some 35, _, _, _, _, _⟩) (v := undef) rfl (by kernel_rfl) (by kernel_rfl) (by kernel_rfl) (fun _ _ _ h => h) (Or.inr ⟨by kernel_rfl, rfl⟩) (by assumption) ?_
  simp only [Act.put, List.setIfInBounds_toArray, List.set_cons_zero, List.set_cons_succ]
  refine wpAnyH_take (i := 29) (oi := ⟨some 36, _, _, _, _, _⟩) (v := undef) rfl (by kernel_rfl) (by kernel_rfl) (by kernel_rfl) (fun _ _ _ h => h) (Or.inr ⟨by kernel_rfl, rfl⟩) (by assumption) ?_
  simp only [Act.put, List.setIfInBounds_toArray, List.set_cons_zero, List.set_cons_succ]
  refine wpAnyH_take (i := 30) (oi := ⟨some 37, _, _, _, _, _⟩) (v := undef) rfl (by kernel_rfl) (by kernel_rfl) (by kernel_rfl) (fun _ _ _ h => h) (Or.inr ⟨by kernel_rfl, rfl⟩) (by assumption) ?_
  simp only [Act.put, List.setIfInBounds_toArray, List.set_cons_zero, List.set_cons_succ]
  refine wpAnyH_take (i := 31) (oi := ⟨some 38, _, _, _, _, _⟩) (v := ?v31) rfl (by kernel_rfl) (by kernel_rfl) (by kernel_rfl) (fun _ _ _ h => h) (Or.inl ⟨by kernel_rfl, ?hy31⟩) (by assumption) ?rest31
  case hy31 => (intro w9 hSw; (try dsimp only at hSw); go_simp; (try with_reducible rfl))
  simp only [Act.put, List.setIfInBounds_toArray, List.set_cons_zero, List.set_cons_succ]
  refine wpAnyH_take (i := 32) (oi := ⟨some 39, _, _, _, _, _⟩) (v := ?v32) rfl (by kernel_rfl) (by kernel_rfl) (by kernel_rfl) (fun _ _ _ h => h) (Or.inl ⟨by kernel_rfl, ?hy32⟩) (by assumption) ?rest32
  case hy32 => (intro w9 hSw; (try dsimp only at hSw); go_simp; (try with_reducible rfl))
  simp only [Act.put, List.setIfInBounds_toArray, List.set_cons_zero, List.set_cons_succ]
  refine wpAnyH_done (by kernel_rfl) ?_ _
  obtain ⟨hk0, -, -, -⟩ := hHeld
  have P := Lib.hid (P.out.kept hk0 (by simp))
  have Q := Lib.hid (Q.out.kept hk0 (by simp))
  have K := Lib.hid (K.out.trans hk0 (by simp))
  have hcP := P.out.cell
  have hcQ := Q.out.cell
  clear hk0
  cases dm : mayT a
  · have MA := Lib.hid dm
    clear dm
    go_wp2_with (first
      | (go_at_call 8
         go_must (refine (tMay_any _ _).mono ?_)
         go_must (rintro e w8 ⟨rfl, k1⟩)
         go_must (rw [MA.out])
         go_must (have P := Lib.hid (P.out.kept k1 (by simp)))
         go_must (have Q := Lib.hid (Q.out.kept k1 (by simp)))
         go_must (have K := Lib.hid (K.out.trans k1 (by simp)))
         go_must (have hcP := P.out.cell)
         go_must (have hcQ := Q.out.cell)
         go_must (clear k1))
      | (go_at_call 9
         go_must (refine (awake7_any _ (HT.out _ K.out)).mono ?_)
         go_must (rintro e w9 ⟨rfl, k1⟩)
         go_must (have K := Lib.hid (K.out.trans k1 (by simp)))
         go_must (clear k1)))
    go_ret
    exact ⟨rfl, K.out⟩
  · have MA := Lib.hid dm
    clear dm
    obtain ⟨sa, hsa⟩ : ∃ s, strOf (textF a) = s := ⟨_, rfl⟩
    have SA := Lib.hid hsa
    clear hsa
    go_wp2_with (first
      | (go_at_call 8
         go_must (refine (tMay_any _ _).mono ?_)
         go_must (rintro e w8 ⟨rfl, k1⟩)
         go_must (rw [MA.out])
         go_must (have P := Lib.hid (P.out.kept k1 (by simp)))
         go_must (have Q := Lib.hid (Q.out.kept k1 (by simp)))
         go_must (have K := Lib.hid (K.out.trans k1 (by simp)))
         go_must (have hcP := P.out.cell)
         go_must (have hcQ := Q.out.cell)
         go_must (clear k1))
      | (go_at_call 9
         go_must (refine (awake7_any _ (HT.out _ K.out)).mono ?_)
         go_must (rintro e w9 ⟨rfl, k1⟩)
         go_must (have K := Lib.hid (K.out.trans k1 (by simp)))
         go_must (clear k1)))
    refine wp_region_held_drew (S := fun w' => Kept [] w8 w' ∧ (∀ o, w'.cell? ⟨w.heap.size, o, none⟩ = (#[.int .u32 (a.src.toNat : Nat), .int .u32 (a.dst.toNat : Nat), .int .i64 a.proto, .int .i64 a.sport, .int .i64 a.dport] : Array Value)[o]?) ∧ (∀ o, w'.cell? ⟨w.heap.size + 1, o, none⟩ = (#[.int .u32 (a.src.toNat : Nat), .int .u32 (a.dst.toNat : Nat), .int .i64 a.proto, .int .i64 a.sport, .int .i64 a.dport] : Array Value)[o]?)) (by kernel_rfl) ?_ (fun hHeld => ?_)
    focus ((try dsimp only); first | exact ⟨(Kept.refl [] _).drew, P.out.cell, Q.out.cell⟩ | exact ⟨hkn, (P.out.kept hkn (by simp)).cell, (Q.out.kept hkn (by simp)).cell⟩)
    refine wpAnyH_take (i := 0) (oi := ⟨some 49, _, _, _, _, _⟩) (v := ?vs0) rfl (by kernel_rfl) (by kernel_rfl) (by kernel_rfl) (fun _ _ _ h => h) (Or.inl ⟨by kernel_rfl, ?hys0⟩) (by assumption) ?rests0
    case hys0 => (intro w9 hSw; (try dsimp only at hSw); go_simp; (try with_reducible rfl))
    simp only [Act.put, List.setIfInBounds_toArray, List.set_cons_zero, List.set_cons_succ]
    refine wpAnyH_take (i := 2) (oi := ⟨some 51, _, _, _, _, _⟩) (v := ?vs2) rfl (by kernel_rfl) (by kernel_rfl) (by kernel_rfl) (fun _ _ _ h => h) (Or.inl ⟨by kernel_rfl, ?hys2⟩) (by assumption) ?rests2
    case hys2 => (intro w9 hSw; (try dsimp only at hSw); go_simp; (try with_reducible rfl))
    simp only [Act.put, List.setIfInBounds_toArray, List.set_cons_zero, List.set_cons_succ]
    refine wpAnyH_take (i := 5) (oi := ⟨some 54, _, _, _, _, _⟩) (v := ?vs5) rfl (by kernel_rfl) (by kernel_rfl) (by kernel_rfl) (fun _ _ _ h => h) (Or.inl ⟨by kernel_rfl, ?hys5⟩) (by assumption) ?rests5
    case hys5 => (intro w9 hSw; (try dsimp only at hSw); go_simp; (try with_reducible rfl))
    simp only [Act.put, List.setIfInBounds_toArray, List.set_cons_zero, List.set_cons_succ]
    refine wpAnyH_take (i := 6) (oi := ⟨some 55, _, _, _, _, _⟩) (v := ?vs6) rfl (by kernel_rfl) (by kernel_rfl) (by kernel_rfl) (fun _ _ _ h => h) (Or.inl ⟨by kernel_rfl, ?hys6⟩) (by assumption) ?rests6
    case hys6 => (intro w9 hSw; (try dsimp only at hSw); go_simp; (try with_reducible rfl))
    simp only [Act.put, List.setIfInBounds_toArray, List.set_cons_zero, List.set_cons_succ]
    refine wpAnyH_take (i := 7) (oi := ⟨some 56, _, _, _, _, _⟩) (v := ?vs7) rfl (by kernel_rfl) (by kernel_rfl) (by kernel_rfl) (fun _ _ _ h => h) (Or.inl ⟨by kernel_rfl, ?hys7⟩) (by assumption) ?rests7
    case hys7 => (intro w9 hSw; (try dsimp only at hSw); go_simp; (try with_reducible rfl))
    simp only [Act.put, List.setIfInBounds_toArray, List.set_cons_zero, List.set_cons_succ]
    refine wpAnyH_ready (rs := [1]) (by kernel_rfl) (by simp) ?_
    refine AllReadyH.cons (o := ⟨some 50, _, _, _, _, _⟩) rfl (fun K9 hK9 => ?_) AllReadyH.nil
    go_simp
    go_at_call 10
    refine (Text_any _ a IA.out.1 IA.out.2 (HT.out _ (K.out.trans hHeld.1 (by simp)))).mono ?_
    rintro e w7 ⟨rfl, k1⟩
    rw [SA.out]
    have hkn := hHeld.1.trans k1 (by simp)
    clear k1
    (try go_wp2_with fail)
    refine hK9.out _ _ ?_ (fun hHeld9 => ?_)
    focus ((try dsimp only); first | exact ⟨(Kept.refl [] _).drew, P.out.cell, Q.out.cell⟩ | exact ⟨hkn, (P.out.kept hkn (by simp)).cell, (Q.out.kept hkn (by simp)).cell⟩)
    clear hK9 K9 hHeld
    have hHeld := hHeld9
    clear hHeld9
    try simp only [Act.put, List.setIfInBounds_toArray, List.set_cons_zero, List.set_cons_succ]
    refine wpAnyH_ready (rs := [3]) (by kernel_rfl) (by simp) ?_
    refine AllReadyH.cons (o := ⟨some 52, _, _, _, _, _⟩) rfl (fun K9 hK9 => ?_) AllReadyH.nil
    go_simp
    go_at_call 10
    refine (Text_any _ a IB.out.1 IB.out.2 (HT.out _ (K.out.trans hHeld.1 (by simp)))).mono ?_
    rintro e w7 ⟨rfl, k1⟩
    rw [SA.out]
    have hkn := hHeld.1.trans k1 (by simp)
    clear k1
    (try go_wp2_with fail)
    refine hK9.out _ _ ?_ (fun hHeld9 => ?_)
    focus ((try dsimp only); first | exact ⟨(Kept.refl [] _).drew, P.out.cell, Q.out.cell⟩ | exact ⟨hkn, (P.out.kept hkn (by simp)).cell, (Q.out.kept hkn (by simp)).cell⟩)
    clear hK9 K9 hHeld
    have hHeld := hHeld9
    clear hHeld9
    try simp only [Act.put, List.setIfInBounds_toArray, List.set_cons_zero, List.set_cons_succ]
    refine wpAnyH_take (i := 4) (oi := ⟨some 53, _, _, _, _, _⟩) (v := ?vs4) rfl (by kernel_rfl) (by kernel_rfl) (by kernel_rfl) (fun _ _ _ h => h) (Or.inl ⟨by kernel_rfl, ?hys4⟩) (by assumption) ?rests4
    case hys4 => (intro w9 hSw; (try dsimp only at hSw); go_simp; (try with_reducible rfl))
    simp only [Act.put, List.setIfInBounds_toArray, List.set_cons_zero, List.set_cons_succ]
    refine wpAnyH_take (i := 8) (oi := ⟨some 57, _, _, _, _, _⟩) (v := ?vs8) rfl (by kernel_rfl) (by kernel_rfl) (by kernel_rfl) (fun _ _ _ h => h) (Or.inl ⟨by kernel_rfl, ?hys8⟩) (by assumption) ?rests8
    case hys8 => (intro w9 hSw; (try dsimp only at hSw); go_simp; (try with_reducible rfl))
    simp only [Act.put, List.setIfInBounds_toArray, List.set_cons_zero, List.set_cons_succ]
    refine wpAnyH_take (i := 9) (oi := ⟨some 58, _, _, _, _, _⟩) (v := ?vs9) rfl (by kernel_rfl) (by kernel_rfl) (by kernel_rfl) (fun _ _ _ h => h) (Or.inl ⟨by kernel_rfl, ?hys9⟩) (by assumption) ?rests9
    case hys9 => (intro w9 hSw; (try dsimp only at hSw); go_simp; (try with_reducible rfl))
    simp only [Act.put, List.setIfInBounds_toArray, List.set_cons_zero, List.set_cons_succ]
    refine wpAnyH_ready (rs := [10]) (by kernel_rfl) (by simp) ?_
    refine AllReadyH.cons (o := ⟨some 59, _, _, _, _, _⟩) rfl (fun K9 hK9 => ?_) AllReadyH.nil
    go_simp
    go_at_call 9
    refine (awake7_any _ (HT.out _ (K.out.trans hHeld.1 (by simp)))).mono ?_
    rintro e w7 ⟨rfl, k1⟩
    have hkn := hHeld.1.trans k1 (by simp)
    clear k1
    (try go_wp2_with fail)
    refine hK9.out _ _ ?_ (fun hHeld9 => ?_)
    focus ((try dsimp only); first | exact ⟨(Kept.refl [] _).drew, P.out.cell, Q.out.cell⟩ | exact ⟨hkn, (P.out.kept hkn (by simp)).cell, (Q.out.kept hkn (by simp)).cell⟩)
    clear hK9 K9 hHeld
    have hHeld := hHeld9
    clear hHeld9
    try simp only [Act.put, List.setIfInBounds_toArray, List.set_cons_zero, List.set_cons_succ]
    refine wpAnyH_take (i := 11) (oi := ⟨some 60, _, _, _, _, _⟩) (v := ?vs11) rfl (by kernel_rfl) (by kernel_rfl) (by kernel_rfl) (fun _ _ _ h => h) (Or.inl ⟨by kernel_rfl, ?hys11⟩) (by assumption) ?rests11
    case hys11 => (intro w9 hSw; (try dsimp only at hSw); go_simp; (try with_reducible rfl))
    simp only [Act.put, List.setIfInBounds_toArray, List.set_cons_zero, List.set_cons_succ]
    refine wpAnyH_take (i := 12) (oi := ⟨some 6, _, _, _, _, _⟩) (v := ?vs12) rfl (by kernel_rfl) (by kernel_rfl) (by kernel_rfl) (fun _ _ _ h => h) (Or.inl ⟨by kernel_rfl, ?hys12⟩) (by assumption) ?rests12
    case hys12 => (intro w9 hSw; (try dsimp only at hSw); go_simp; (try with_reducible rfl))
    simp only [Act.put, List.setIfInBounds_toArray, List.set_cons_zero, List.set_cons_succ]
    refine wpAnyH_done (by kernel_rfl) ?_ _
    obtain ⟨hk0, -, -⟩ := hHeld
    go_wp2
    go_ret
    exact ⟨rfl, K.out.trans hk0 (by simp)⟩
set_option maxHeartbeats 12800000 in
theorem TupleOrder_n (w : World) (a b c : TupD) (hab : a ≠ b) (ia : inI a.sport ∧ inI a.dport) (ib : inI b.sport ∧ inI b.dport) (ht : PowTab w) :
    Calls Tryd.prog 3 #[.agg #[.int .u32 (a.src.toNat : Nat), .int .u32 (a.dst.toNat : Nat), .int .i64 a.proto, .int .i64 a.sport, .int .i64 a.dport], .agg #[.int .u32 (b.src.toNat : Nat), .int .u32 (b.dst.toNat : Nat), .int .i64 b.proto, .int .i64 b.sport, .int .i64 b.dport], .agg #[.int .u32 (c.src.toNat : Nat), .int .u32 (c.dst.toNat : Nat), .int .i64 c.proto, .int .i64 c.sport, .int .i64 c.dport]] w fun e w' => e = .returned (.bool true) ∧ Kept [] w w' := by
  have HT := Lib.hid (fun w' (hk : Kept [] w w') => tab_kept ht (g := 1) (by kernel_rfl) hk (by simp))
  have P := Lib.hid (show Blk (((w.alloc (.cells #[.int .u32 (a.src.toNat : Nat), .int .u32 (a.dst.toNat : Nat), .int .i64 a.proto, .int .i64 a.sport, .int .i64 a.dport] 24)).alloc (.cells #[.int .u32 (b.src.toNat : Nat), .int .u32 (b.dst.toNat : Nat), .int .i64 b.proto, .int .i64 b.sport, .int .i64 b.dport] 24)).alloc (.cells #[.int .u32 (c.src.toNat : Nat), .int .u32 (c.dst.toNat : Nat), .int .i64 c.proto, .int .i64 c.sport, .int .i64 c.dport] 24)) w.heap.size 24 #[.int .u32 (a.src.toNat : Nat), .int .u32 (a.dst.toNat : Nat), .int .i64 a.proto, .int .i64 a.sport, .int .i64 a.dport] from by (repeat (first | (apply Blk.new'; simp; done) | apply Blk.alloc | apply Blk.drew)))
  have Q := Lib.hid (show Blk (((w.alloc (.cells #[.int .u32 (a.src.toNat : Nat), .int .u32 (a.dst.toNat : Nat), .int .i64 a.proto, .int .i64 a.sport, .int .i64 a.dport] 24)).alloc (.cells #[.int .u32 (b.src.toNat : Nat), .int .u32 (b.dst.toNat : Nat), .int .i64 b.proto, .int .i64 b.sport, .int .i64 b.dport] 24)).alloc (.cells #[.int .u32 (c.src.toNat : Nat), .int .u32 (c.dst.toNat : Nat), .int .i64 c.proto, .int .i64 c.sport, .int .i64 c.dport] 24)) (w.heap.size + 1) 24 #[.int .u32 (b.src.toNat : Nat), .int .u32 (b.dst.toNat : Nat), .int .i64 b.proto, .int .i64 b.sport, .int .i64 b.dport] from by (repeat (first | (apply Blk.new'; simp; done) | apply Blk.alloc | apply Blk.drew)))
  have R := Lib.hid (show Blk (((w.alloc (.cells #[.int .u32 (a.src.toNat : Nat), .int .u32 (a.dst.toNat : Nat), .int .i64 a.proto, .int .i64 a.sport, .int .i64 a.dport] 24)).alloc (.cells #[.int .u32 (b.src.toNat : Nat), .int .u32 (b.dst.toNat : Nat), .int .i64 b.proto, .int .i64 b.sport, .int .i64 b.dport] 24)).alloc (.cells #[.int .u32 (c.src.toNat : Nat), .int .u32 (c.dst.toNat : Nat), .int .i64 c.proto, .int .i64 c.sport, .int .i64 c.dport] 24)) (w.heap.size + 2) 24 #[.int .u32 (c.src.toNat : Nat), .int .u32 (c.dst.toNat : Nat), .int .i64 c.proto, .int .i64 c.sport, .int .i64 c.dport] from by (repeat (first | (apply Blk.new'; simp; done) | apply Blk.alloc | apply Blk.drew)))
  have K := Lib.hid (show Kept [] w (((w.alloc (.cells #[.int .u32 (a.src.toNat : Nat), .int .u32 (a.dst.toNat : Nat), .int .i64 a.proto, .int .i64 a.sport, .int .i64 a.dport] 24)).alloc (.cells #[.int .u32 (b.src.toNat : Nat), .int .u32 (b.dst.toNat : Nat), .int .i64 b.proto, .int .i64 b.sport, .int .i64 b.dport] 24)).alloc (.cells #[.int .u32 (c.src.toNat : Nat), .int .u32 (c.dst.toNat : Nat), .int .i64 c.proto, .int .i64 c.sport, .int .i64 c.dport] 24)) from by (repeat (first | exact Kept.refl _ _ | apply Kept.alloc | apply Kept.drew)))
  have L1 := Lib.hid (less_irr a)
  have IA := Lib.hid ia
  have IB := Lib.hid ib
  clear ht ia ib
  have L2 := Lib.hid (less_one hab)
  have HAB := Lib.hid hab
  clear hab
  have ways : (lessT a b = false ∧ lessT b a = true) ∨ (lessT a b = true ∧ lessT b a = false ∧ lessT b c = false) ∨ (lessT a b = true ∧ lessT b a = false ∧ lessT b c = true ∧ lessT a c = true) := by
    have h := L2.out
    cases h1 : lessT a b <;> cases h2 : lessT b a <;> rw [h1, h2] at h <;> simp at h
    · exact .inl ⟨rfl, rfl⟩
    · cases h3 : lessT b c
      · exact .inr (.inl ⟨rfl, rfl, rfl⟩)
      · exact .inr (.inr ⟨rfl, rfl, rfl, less_trans h1 h3⟩)
  have WAYS := Lib.hid ways
  clear ways
  go_enter Tryd.func3, Tryd.ntmps3
  go_wp2
  generalize (((w.alloc (.cells #[.int .u32 (a.src.toNat : Nat), .int .u32 (a.dst.toNat : Nat), .int .i64 a.proto, .int .i64 a.sport, .int .i64 a.dport] 24)).alloc (.cells #[.int .u32 (b.src.toNat : Nat), .int .u32 (b.dst.toNat : Nat), .int .i64 b.proto, .int .i64 b.sport, .int .i64 b.dport] 24)).alloc (.cells #[.int .u32 (c.src.toNat : Nat), .int .u32 (c.dst.toNat : Nat), .int .i64 c.proto, .int .i64 c.sport, .int .i64 c.dport] 24)) = w0 at *
  go_cut [39] (fun v wx => v = .bool false ∧ Kept [] w0 wx)
  case first =>
    rcases WAYS.out with ⟨h1, h2⟩ | ⟨h1, h2, h3⟩ | ⟨h1, h2, h3, h4⟩
    · have H1 := Lib.hid h1
      have H2 := Lib.hid h2
      clear h1 h2
      refine wp_region_held_drew (S := fun w' => Kept [] w0 w' ∧ (∀ o, w'.cell? ⟨w.heap.size, o, none⟩ = (#[.int .u32 (a.src.toNat : Nat), .int .u32 (a.dst.toNat : Nat), .int .i64 a.proto, .int .i64 a.sport, .int .i64 a.dport] : Array Value)[o]?) ∧ (∀ o, w'.cell? ⟨w.heap.size + 1, o, none⟩ = (#[.int .u32 (b.src.toNat : Nat), .int .u32 (b.dst.toNat : Nat), .int .i64 b.proto, .int .i64 b.sport, .int .i64 b.dport] : Array Value)[o]?) ∧ (∀ o, w'.cell? ⟨w.heap.size + 2, o, none⟩ = (#[.int .u32 (c.src.toNat : Nat), .int .u32 (c.dst.toNat : Nat), .int .i64 c.proto, .int .i64 c.sport, .int .i64 c.dport] : Array Value)[o]?)) (by kernel_rfl) ?_ (fun hHeld => ?_)
      focus ((try dsimp only); first | exact ⟨(Kept.refl [] _).drew, P.out.cell, Q.out.cell, R.out.cell⟩ | exact ⟨hkn, (P.out.kept hkn (by simp)).cell, (Q.out.kept hkn (by simp)).cell, (R.out.kept hkn (by simp)).cell⟩)
      refine wpAnyH_take (i := 0) (oi := ⟨some 7, _, _, _, _, _⟩) (v := ?vp0) rfl (by kernel_rfl) (by kernel_rfl) (by kernel_rfl) (fun _ _ _ h => h) (Or.inl ⟨by kernel_rfl, ?hyp0⟩) (by assumption) ?restp0
      case hyp0 => (intro w9 hSw; (try dsimp only at hSw); go_simp; (try with_reducible rfl))
      simp only [Act.put, List.setIfInBounds_toArray, List.set_cons_zero, List.set_cons_succ]
      refine wpAnyH_take (i := 1) (oi := ⟨some 8, _, _, _, _, _⟩) (v := ?vp1) rfl (by kernel_rfl) (by kernel_rfl) (by kernel_rfl) (fun _ _ _ h => h) (Or.inl ⟨by kernel_rfl, ?hyp1⟩) (by assumption) ?restp1
      case hyp1 => (intro w9 hSw; (try dsimp only at hSw); go_simp; (try with_reducible rfl))
      simp only [Act.put, List.setIfInBounds_toArray, List.set_cons_zero, List.set_cons_succ]
      refine wpAnyH_ready (rs := [2]) (by kernel_rfl) (by simp) ?_
      refine AllReadyH.cons (o := ⟨some 9, _, _, _, _, _⟩) rfl (fun K9 hK9 => ?_) AllReadyH.nil
      go_simp
      go_at_call 7
      refine (Less_any _ _ _).mono ?_
      rintro e w7 ⟨rfl, k1⟩
      rw [L1.out]
      have hkn := hHeld.1.trans k1 (by simp)
      clear k1
      (try go_wp2_with fail)
      refine hK9.out _ _ ?_ (fun hHeld9 => ?_)
      focus ((try dsimp only); first | exact ⟨(Kept.refl [] _).drew, P.out.cell, Q.out.cell, R.out.cell⟩ | exact ⟨hkn, (P.out.kept hkn (by simp)).cell, (Q.out.kept hkn (by simp)).cell, (R.out.kept hkn (by simp)).cell⟩)
      clear hK9 K9 hHeld
      have hHeld := hHeld9
      clear hHeld9
      try simp only [Act.put, List.setIfInBounds_toArray, List.set_cons_zero, List.set_cons_succ]
      refine wpAnyH_take (i := 3) (oi := ⟨some 10, _, _, _, _, _⟩) (v := ?vp3) rfl (by kernel_rfl) (by kernel_rfl) (by kernel_rfl) (fun _ _ _ h => h) (Or.inl ⟨by kernel_rfl, ?hyp3⟩) (by assumption) ?restp3
      case hyp3 => (intro w9 hSw; (try dsimp only at hSw); go_simp; (try with_reducible rfl))
      simp only [Act.put, List.setIfInBounds_toArray, List.set_cons_zero, List.set_cons_succ]
      refine wpAnyH_take (i := 4) (oi := ⟨some 11, _, _, _, _, _⟩) (v := ?vp4) rfl (by kernel_rfl) (by kernel_rfl) (by kernel_rfl) (fun _ _ _ h => h) (Or.inl ⟨by kernel_rfl, ?hyp4⟩) (by assumption) ?restp4
      case hyp4 => (intro w9 hSw; (try dsimp only at hSw); go_simp; (try with_reducible rfl))
      simp only [Act.put, List.setIfInBounds_toArray, List.set_cons_zero, List.set_cons_succ]
      refine wpAnyH_take (i := 5) (oi := ⟨some 12, _, _, _, _, _⟩) (v := ?vp5) rfl (by kernel_rfl) (by kernel_rfl) (by kernel_rfl) (fun _ _ _ h => h) (Or.inl ⟨by kernel_rfl, ?hyp5⟩) (by assumption) ?restp5
      case hyp5 => (intro w9 hSw; (try dsimp only at hSw); go_simp; (try with_reducible rfl))
      simp only [Act.put, List.setIfInBounds_toArray, List.set_cons_zero, List.set_cons_succ]
      refine wpAnyH_take (i := 6) (oi := ⟨some 13, _, _, _, _, _⟩) (v := ?vp6) rfl (by kernel_rfl) (by kernel_rfl) (by kernel_rfl) (fun _ _ _ h => h) (Or.inl ⟨by kernel_rfl, ?hyp6⟩) (by assumption) ?restp6
      case hyp6 => (intro w9 hSw; (try dsimp only at hSw); go_simp; exact neq_ifs HAB.out _ _)
      simp only [Act.put, List.setIfInBounds_toArray, List.set_cons_zero, List.set_cons_succ]
      refine wpAnyH_take (i := 7) (oi := ⟨some 14, _, _, _, _, _⟩) (v := ?vp7) rfl (by kernel_rfl) (by kernel_rfl) (by kernel_rfl) (fun _ _ _ h => h) (Or.inl ⟨by kernel_rfl, ?hyp7⟩) (by assumption) ?restp7
      case hyp7 => (intro w9 hSw; (try dsimp only at hSw); go_simp; (try with_reducible rfl))
      simp only [Act.put, List.setIfInBounds_toArray, List.set_cons_zero, List.set_cons_succ]
      refine wpAnyH_take (i := 8) (oi := ⟨some 15, _, _, _, _, _⟩) (v := ?vp8) rfl (by kernel_rfl) (by kernel_rfl) (by kernel_rfl) (fun _ _ _ h => h) (Or.inl ⟨by kernel_rfl, ?hyp8⟩) (by assumption) ?restp8
      case hyp8 => (intro w9 hSw; (try dsimp only at hSw); go_simp; (try with_reducible rfl))
      simp only [Act.put, List.setIfInBounds_toArray, List.set_cons_zero, List.set_cons_succ]
      refine wpAnyH_take (i := 9) (oi := ⟨some 16, _, _, _, _, _⟩) (v := ?vp9) rfl (by kernel_rfl) (by kernel_rfl) (by kernel_rfl) (fun _ _ _ h => h) (Or.inl ⟨by kernel_rfl, ?hyp9⟩) (by assumption) ?restp9
      case hyp9 => (intro w9 hSw; (try dsimp only at hSw); go_simp; (try with_reducible rfl))
      simp only [Act.put, List.setIfInBounds_toArray, List.set_cons_zero, List.set_cons_succ]
      refine wpAnyH_take (i := 11) (oi := ⟨some 18, _, _, _, _, _⟩) (v := ?vp11) rfl (by kernel_rfl) (by kernel_rfl) (by kernel_rfl) (fun _ _ _ h => h) (Or.inl ⟨by kernel_rfl, ?hyp11⟩) (by assumption) ?restp11
      case hyp11 => (intro w9 hSw; (try dsimp only at hSw); go_simp; (try with_reducible rfl))
      simp only [Act.put, List.setIfInBounds_toArray, List.set_cons_zero, List.set_cons_succ]
      refine wpAnyH_take (i := 12) (oi := ⟨some 19, _, _, _, _, _⟩) (v := ?vp12) rfl (by kernel_rfl) (by kernel_rfl) (by kernel_rfl) (fun _ _ _ h => h) (Or.inl ⟨by kernel_rfl, ?hyp12⟩) (by assumption) ?restp12
      case hyp12 => (intro w9 hSw; (try dsimp only at hSw); go_simp; (try with_reducible rfl))
      simp only [Act.put, List.setIfInBounds_toArray, List.set_cons_zero, List.set_cons_succ]
      refine wpAnyH_ready (rs := [10]) (by kernel_rfl) (by simp) ?_
      refine AllReadyH.cons (o := ⟨some 17, _, _, _, _, _⟩) rfl (fun K9 hK9 => ?_) AllReadyH.nil
      go_simp
      go_at_call 7
      refine (Less_any _ _ _).mono ?_
      rintro e w7 ⟨rfl, k1⟩
      rw [H1.out]
      have hkn := hHeld.1.trans k1 (by simp)
      clear k1
      (try go_wp2_with fail)
      refine hK9.out _ _ ?_ (fun hHeld9 => ?_)
      focus ((try dsimp only); first | exact ⟨(Kept.refl [] _).drew, P.out.cell, Q.out.cell, R.out.cell⟩ | exact ⟨hkn, (P.out.kept hkn (by simp)).cell, (Q.out.kept hkn (by simp)).cell, (R.out.kept hkn (by simp)).cell⟩)
      clear hK9 K9 hHeld
      have hHeld := hHeld9
      clear hHeld9
      try simp only [Act.put, List.setIfInBounds_toArray, List.set_cons_zero, List.set_cons_succ]
      refine wpAnyH_ready (rs := [13]) (by kernel_rfl) (by simp) ?_
      refine AllReadyH.cons (o := ⟨some 20, _, _, _, _, _⟩) rfl (fun K9 hK9 => ?_) AllReadyH.nil
      go_simp
      go_at_call 7
      refine (Less_any _ _ _).mono ?_
      rintro e w7 ⟨rfl, k1⟩
      rw [H2.out]
      have hkn := hHeld.1.trans k1 (by simp)
      clear k1
      (try go_wp2_with fail)
      refine hK9.out _ _ ?_ (fun hHeld9 => ?_)
      focus ((try dsimp only); first | exact ⟨(Kept.refl [] _).drew, P.out.cell, Q.out.cell, R.out.cell⟩ | exact ⟨hkn, (P.out.kept hkn (by simp)).cell, (Q.out.kept hkn (by simp)).cell, (R.out.kept hkn (by simp)).cell⟩)
      clear hK9 K9 hHeld
      have hHeld := hHeld9
      clear hHeld9
      try simp only [Act.put, List.setIfInBounds_toArray, List.set_cons_zero, List.set_cons_succ]
      refine wpAnyH_take (i := 14) (oi := ⟨some 21, _, _, _, _, _⟩) (v := ?vp14) rfl (by kernel_rfl) (by kernel_rfl) (by kernel_rfl) (fun _ _ _ h => h) (Or.inl ⟨by kernel_rfl, ?hyp14⟩) (by assumption) ?restp14
      case hyp14 => (intro w9 hSw; (try dsimp only at hSw); go_simp; (try with_reducible rfl))
      simp only [Act.put, List.setIfInBounds_toArray, List.set_cons_zero, List.set_cons_succ]
      refine wpAnyH_take (i := 15) (oi := ⟨some 22, _, _, _, _, _⟩) (v := ?vp15) rfl (by kernel_rfl) (by kernel_rfl) (by kernel_rfl) (fun _ _ _ h => h) (Or.inl ⟨by kernel_rfl, ?hyp15⟩) (by assumption) ?restp15
      case hyp15 => (intro w9 hSw; (try dsimp only at hSw); go_simp; (try with_reducible rfl))
      simp only [Act.put, List.setIfInBounds_toArray, List.set_cons_zero, List.set_cons_succ]
      refine wpAnyH_take (i := 16) (oi := ⟨some 23, _, _, _, _, _⟩) (v := ?vp16) rfl (by kernel_rfl) (by kernel_rfl) (by kernel_rfl) (fun _ _ _ h => h) (Or.inl ⟨by kernel_rfl, ?hyp16⟩) (by assumption) ?restp16
      case hyp16 => (intro w9 hSw; (try dsimp only at hSw); go_simp; (try with_reducible rfl))
      simp only [Act.put, List.setIfInBounds_toArray, List.set_cons_zero, List.set_cons_succ]
      refine wpAnyH_take (i := 17) (oi := ⟨some 24, _, _, _, _, _⟩) (v := ?vp17) rfl (by kernel_rfl) (by kernel_rfl) (by kernel_rfl) (fun _ _ _ h => h) (Or.inl ⟨by kernel_rfl, ?hyp17⟩) (by assumption) ?restp17
      case hyp17 => (intro w9 hSw; (try dsimp only at hSw); go_simp; (try with_reducible rfl))
      simp only [Act.put, List.setIfInBounds_toArray, List.set_cons_zero, List.set_cons_succ]
      refine wpAnyH_take (i := 18) (oi := ⟨some 25, _, _, _, _, _⟩) (v := ?vp18) rfl (by kernel_rfl) (by kernel_rfl) (by kernel_rfl) (fun _ _ _ h => h) (Or.inl ⟨by kernel_rfl, ?hyp18⟩) (by assumption) ?restp18
      case hyp18 => (intro w9 hSw; (try dsimp only at hSw); go_simp; (try with_reducible rfl))
      simp only [Act.put, List.setIfInBounds_toArray, List.set_cons_zero, List.set_cons_succ]
      refine wpAnyH_take (i := 19) (oi := ⟨some 26, _, _, _, _, _⟩) (v := ?vp19) rfl (by kernel_rfl) (by kernel_rfl) (by kernel_rfl) (fun _ _ _ h => h) (Or.inl ⟨by kernel_rfl, ?hyp19⟩) (by assumption) ?restp19
      case hyp19 => (intro w9 hSw; (try dsimp only at hSw); go_simp; (try with_reducible rfl))
      simp only [Act.put, List.setIfInBounds_toArray, List.set_cons_zero, List.set_cons_succ]
      refine wpAnyH_ready (rs := [20]) (by kernel_rfl) (by simp) ?_
      refine AllReadyH.cons (o := ⟨some 27, _, _, _, _, _⟩) rfl (fun K9 hK9 => ?_) AllReadyH.nil
      go_simp
      go_at_call 7
      refine (Less_any _ _ _).mono ?_
      rintro e w7 ⟨rfl, k1⟩
      rw [H1.out]
      have hkn := hHeld.1.trans k1 (by simp)
      clear k1
      (try go_wp2_with fail)
      refine hK9.out _ _ ?_ (fun hHeld9 => ?_)
      focus ((try dsimp only); first | exact ⟨(Kept.refl [] _).drew, P.out.cell, Q.out.cell, R.out.cell⟩ | exact ⟨hkn, (P.out.kept hkn (by simp)).cell, (Q.out.kept hkn (by simp)).cell, (R.out.kept hkn (by simp)).cell⟩)
      clear hK9 K9 hHeld
      have hHeld := hHeld9
      clear hHeld9
      try simp only [Act.put, List.setIfInBounds_toArray, List.set_cons_zero, List.set_cons_succ]
      refine wpAnyH_take (i := 21) (oi := ⟨some 28, _, _, _, _, _⟩) (v := ?vp21) rfl (by kernel_rfl) (by kernel_rfl) (by kernel_rfl) (fun _ _ _ h => h) (Or.inl ⟨by kernel_rfl, ?hyp21⟩) (by assumption) ?restp21
      case hyp21 => (intro w9 hSw; (try dsimp only at hSw); go_simp; (try with_reducible rfl))
      simp only [Act.put, List.setIfInBounds_toArray, List.set_cons_zero, List.set_cons_succ]
      refine wpAnyH_take (i := 22) (oi := ⟨some 29, _, _, _, _, _⟩) (v := undef) rfl (by kernel_rfl) (by kernel_rfl) (by kernel_rfl) (fun _ _ _ h => h) (Or.inr ⟨by kernel_rfl, rfl⟩) (by assumption) ?_
      simp only [Act.put, List.setIfInBounds_toArray, List.set_cons_zero, List.set_cons_succ]
      refine wpAnyH_take (i := 23) (oi := ⟨some 30, _, _, _, _, _⟩) (v := undef) rfl (by kernel_rfl) (by kernel_rfl) (by kernel_rfl) (fun _ _ _ h => h) (Or.inr ⟨by kernel_rfl, rfl⟩) (by assumption) ?_
      simp only [Act.put, List.setIfInBounds_toArray, List.set_cons_zero, List.set_cons_succ]
      refine wpAnyH_take (i := 24) (oi := ⟨some 31, _, _, _, _, _⟩) (v := undef) rfl (by kernel_rfl) (by kernel_rfl) (by kernel_rfl) (fun _ _ _ h => h) (Or.inr ⟨by kernel_rfl, rfl⟩) (by assumption) ?_
      simp only [Act.put, List.setIfInBounds_toArray, List.set_cons_zero, List.set_cons_succ]
      refine wpAnyH_take (i := 25) (oi := ⟨some 32, _, _, _, _, _⟩) (v := ?vp25) rfl (by kernel_rfl) (by kernel_rfl) (by kernel_rfl) (fun _ _ _ h => h) (Or.inl ⟨by kernel_rfl, ?hyp25⟩) (by assumption) ?restp25
      case hyp25 => (intro w9 hSw; (try dsimp only at hSw); go_simp; (try with_reducible rfl))
      simp only [Act.put, List.setIfInBounds_toArray, List.set_cons_zero, List.set_cons_succ]
      refine wpAnyH_take (i := 26) (oi := ⟨some 33, _, _, _, _, _⟩) (v := ?vp26) rfl (by kernel_rfl) (by kernel_rfl) (by kernel_rfl) (fun _ _ _ h => h) (Or.inl ⟨by kernel_rfl, ?hyp26⟩) (by assumption) ?restp26
      case hyp26 => (intro w9 hSw; (try dsimp only at hSw); go_simp; (try with_reducible rfl))
      simp only [Act.put, List.setIfInBounds_toArray, List.set_cons_zero, List.set_cons_succ]
      refine wpAnyH_take (i := 27) (oi := ⟨some 34, _, _, _, _, _⟩) (v := undef) rfl (by kernel_rfl) (by kernel_rfl) (by kernel_rfl) (fun _ _ _ h => h) (Or.inr ⟨by kernel_rfl, rfl⟩) (by assumption) ?_
      simp only [Act.put, List.setIfInBounds_toArray, List.set_cons_zero, List.set_cons_succ]
      refine wpAnyH_take (i := 28) (oi := ⟨some 35, _, _, _, _, _⟩) (v := undef) rfl (by kernel_rfl) (by kernel_rfl) (by kernel_rfl) (fun _ _ _ h => h) (Or.inr ⟨by kernel_rfl, rfl⟩) (by assumption) ?_
      simp only [Act.put, List.setIfInBounds_toArray, List.set_cons_zero, List.set_cons_succ]
      refine wpAnyH_take (i := 29) (oi := ⟨some 36, _, _, _, _, _⟩) (v := undef) rfl (by kernel_rfl) (by kernel_rfl) (by kernel_rfl) (fun _ _ _ h => h) (Or.inr ⟨by kernel_rfl, rfl⟩) (by assumption) ?_
      simp only [Act.put, List.setIfInBounds_toArray, List.set_cons_zero, List.set_cons_succ]
      refine wpAnyH_take (i := 30) (oi := ⟨some 37, _, _, _, _, _⟩) (v := undef) rfl (by kernel_rfl) (by kernel_rfl) (by kernel_rfl) (fun _ _ _ h => h) (Or.inr ⟨by kernel_rfl, rfl⟩) (by assumption) ?_
      simp only [Act.put, List.setIfInBounds_toArray, List.set_cons_zero, List.set_cons_succ]
      refine wpAnyH_take (i := 31) (oi := ⟨some 38, _, _, _, _, _⟩) (v := ?vp31) rfl (by kernel_rfl) (by kernel_rfl) (by kernel_rfl) (fun _ _ _ h => h) (Or.inl ⟨by kernel_rfl, ?hyp31⟩) (by assumption) ?restp31
      case hyp31 => (intro w9 hSw; (try dsimp only at hSw); go_simp; (try with_reducible rfl))
      simp only [Act.put, List.setIfInBounds_toArray, List.set_cons_zero, List.set_cons_succ]
      refine wpAnyH_take (i := 32) (oi := ⟨some 39, _, _, _, _, _⟩) (v := ?vp32) rfl (by kernel_rfl) (by kernel_rfl) (by kernel_rfl) (fun _ _ _ h => h) (Or.inl ⟨by kernel_rfl, ?hyp32⟩) (by assumption) ?restp32
      case hyp32 => (intro w9 hSw; (try dsimp only at hSw); go_simp; (try with_reducible rfl))
      simp only [Act.put, List.setIfInBounds_toArray, List.set_cons_zero, List.set_cons_succ]
      refine wpAnyH_done (by kernel_rfl) ?_ _
      go_wp2
      go_meet
      case rel => exact ⟨rfl, hHeld.1⟩
    · have H1 := Lib.hid h1
      have H2 := Lib.hid h2
      have H3 := Lib.hid h3
      clear h1 h2 h3
      refine wp_region_held_drew (S := fun w' => Kept [] w0 w' ∧ (∀ o, w'.cell? ⟨w.heap.size, o, none⟩ = (#[.int .u32 (a.src.toNat : Nat), .int .u32 (a.dst.toNat : Nat), .int .i64 a.proto, .int .i64 a.sport, .int .i64 a.dport] : Array Value)[o]?) ∧ (∀ o, w'.cell? ⟨w.heap.size + 1, o, none⟩ = (#[.int .u32 (b.src.toNat : Nat), .int .u32 (b.dst.toNat : Nat), .int .i64 b.proto, .int .i64 b.sport, .int .i64 b.dport] : Array Value)[o]?) ∧ (∀ o, w'.cell? ⟨w.heap.size + 2, o, none⟩ = (#[.int .u32 (c.src.toNat : Nat), .int .u32 (c.dst.toNat : Nat), .int .i64 c.proto, .int .i64 c.sport, .int .i64 c.dport] : Array Value)[o]?)) (by kernel_rfl) ?_ (fun hHeld => ?_)
      focus ((try dsimp only); first | exact ⟨(Kept.refl [] _).drew, P.out.cell, Q.out.cell, R.out.cell⟩ | exact ⟨hkn, (P.out.kept hkn (by simp)).cell, (Q.out.kept hkn (by simp)).cell, (R.out.kept hkn (by simp)).cell⟩)
      refine wpAnyH_take (i := 0) (oi := ⟨some 7, _, _, _, _, _⟩) (v := ?vq0) rfl (by kernel_rfl) (by kernel_rfl) (by kernel_rfl) (fun _ _ _ h => h) (Or.inl ⟨by kernel_rfl, ?hyq0⟩) (by assumption) ?restq0
      case hyq0 => (intro w9 hSw; (try dsimp only at hSw); go_simp; (try with_reducible rfl))
      simp only [Act.put, List.setIfInBounds_toArray, List.set_cons_zero, List.set_cons_succ]
      refine wpAnyH_take (i := 1) (oi := ⟨some 8, _, _, _, _, _⟩) (v := ?vq1) rfl (by kernel_rfl) (by kernel_rfl) (by kernel_rfl) (fun _ _ _ h => h) (Or.inl ⟨by kernel_rfl, ?hyq1⟩) (by assumption) ?restq1
      case hyq1 => (intro w9 hSw; (try dsimp only at hSw); go_simp; (try with_reducible rfl))
      simp only [Act.put, List.setIfInBounds_toArray, List.set_cons_zero, List.set_cons_succ]
      refine wpAnyH_ready (rs := [2]) (by kernel_rfl) (by simp) ?_
      refine AllReadyH.cons (o := ⟨some 9, _, _, _, _, _⟩) rfl (fun K9 hK9 => ?_) AllReadyH.nil
      go_simp
      go_at_call 7
      refine (Less_any _ _ _).mono ?_
      rintro e w7 ⟨rfl, k1⟩
      rw [L1.out]
      have hkn := hHeld.1.trans k1 (by simp)
      clear k1
      (try go_wp2_with fail)
      refine hK9.out _ _ ?_ (fun hHeld9 => ?_)
      focus ((try dsimp only); first | exact ⟨(Kept.refl [] _).drew, P.out.cell, Q.out.cell, R.out.cell⟩ | exact ⟨hkn, (P.out.kept hkn (by simp)).cell, (Q.out.kept hkn (by simp)).cell, (R.out.kept hkn (by simp)).cell⟩)
      clear hK9 K9 hHeld
      have hHeld := hHeld9
      clear hHeld9
      try simp only [Act.put, List.setIfInBounds_toArray, List.set_cons_zero, List.set_cons_succ]
      refine wpAnyH_take (i := 3) (oi := ⟨some 10, _, _, _, _, _⟩) (v := ?vq3) rfl (by kernel_rfl) (by kernel_rfl) (by kernel_rfl) (fun _ _ _ h => h) (Or.inl ⟨by kernel_rfl, ?hyq3⟩) (by assumption) ?restq3
      case hyq3 => (intro w9 hSw; (try dsimp only at hSw); go_simp; (try with_reducible rfl))
      simp only [Act.put, List.setIfInBounds_toArray, List.set_cons_zero, List.set_cons_succ]
      refine wpAnyH_take (i := 4) (oi := ⟨some 11, _, _, _, _, _⟩) (v := ?vq4) rfl (by kernel_rfl) (by kernel_rfl) (by kernel_rfl) (fun _ _ _ h => h) (Or.inl ⟨by kernel_rfl, ?hyq4⟩) (by assumption) ?restq4
      case hyq4 => (intro w9 hSw; (try dsimp only at hSw); go_simp; (try with_reducible rfl))
      simp only [Act.put, List.setIfInBounds_toArray, List.set_cons_zero, List.set_cons_succ]
      refine wpAnyH_take (i := 5) (oi := ⟨some 12, _, _, _, _, _⟩) (v := ?vq5) rfl (by kernel_rfl) (by kernel_rfl) (by kernel_rfl) (fun _ _ _ h => h) (Or.inl ⟨by kernel_rfl, ?hyq5⟩) (by assumption) ?restq5
      case hyq5 => (intro w9 hSw; (try dsimp only at hSw); go_simp; (try with_reducible rfl))
      simp only [Act.put, List.setIfInBounds_toArray, List.set_cons_zero, List.set_cons_succ]
      refine wpAnyH_take (i := 6) (oi := ⟨some 13, _, _, _, _, _⟩) (v := ?vq6) rfl (by kernel_rfl) (by kernel_rfl) (by kernel_rfl) (fun _ _ _ h => h) (Or.inl ⟨by kernel_rfl, ?hyq6⟩) (by assumption) ?restq6
      case hyq6 => (intro w9 hSw; (try dsimp only at hSw); go_simp; exact neq_ifs HAB.out _ _)
      simp only [Act.put, List.setIfInBounds_toArray, List.set_cons_zero, List.set_cons_succ]
      refine wpAnyH_take (i := 7) (oi := ⟨some 14, _, _, _, _, _⟩) (v := ?vq7) rfl (by kernel_rfl) (by kernel_rfl) (by kernel_rfl) (fun _ _ _ h => h) (Or.inl ⟨by kernel_rfl, ?hyq7⟩) (by assumption) ?restq7
      case hyq7 => (intro w9 hSw; (try dsimp only at hSw); go_simp; (try with_reducible rfl))
      simp only [Act.put, List.setIfInBounds_toArray, List.set_cons_zero, List.set_cons_succ]
      refine wpAnyH_take (i := 8) (oi := ⟨some 15, _, _, _, _, _⟩) (v := ?vq8) rfl (by kernel_rfl) (by kernel_rfl) (by kernel_rfl) (fun _ _ _ h => h) (Or.inl ⟨by kernel_rfl, ?hyq8⟩) (by assumption) ?restq8
      case hyq8 => (intro w9 hSw; (try dsimp only at hSw); go_simp; (try with_reducible rfl))
      simp only [Act.put, List.setIfInBounds_toArray, List.set_cons_zero, List.set_cons_succ]
      refine wpAnyH_take (i := 9) (oi := ⟨some 16, _, _, _, _, _⟩) (v := ?vq9) rfl (by kernel_rfl) (by kernel_rfl) (by kernel_rfl) (fun _ _ _ h => h) (Or.inl ⟨by kernel_rfl, ?hyq9⟩) (by assumption) ?restq9
      case hyq9 => (intro w9 hSw; (try dsimp only at hSw); go_simp; (try with_reducible rfl))
      simp only [Act.put, List.setIfInBounds_toArray, List.set_cons_zero, List.set_cons_succ]
      refine wpAnyH_take (i := 11) (oi := ⟨some 18, _, _, _, _, _⟩) (v := ?vq11) rfl (by kernel_rfl) (by kernel_rfl) (by kernel_rfl) (fun _ _ _ h => h) (Or.inl ⟨by kernel_rfl, ?hyq11⟩) (by assumption) ?restq11
      case hyq11 => (intro w9 hSw; (try dsimp only at hSw); go_simp; (try with_reducible rfl))
      simp only [Act.put, List.setIfInBounds_toArray, List.set_cons_zero, List.set_cons_succ]
      refine wpAnyH_take (i := 12) (oi := ⟨some 19, _, _, _, _, _⟩) (v := ?vq12) rfl (by kernel_rfl) (by kernel_rfl) (by kernel_rfl) (fun _ _ _ h => h) (Or.inl ⟨by kernel_rfl, ?hyq12⟩) (by assumption) ?restq12
      case hyq12 => (intro w9 hSw; (try dsimp only at hSw); go_simp; (try with_reducible rfl))
      simp only [Act.put, List.setIfInBounds_toArray, List.set_cons_zero, List.set_cons_succ]
      refine wpAnyH_ready (rs := [10]) (by kernel_rfl) (by simp) ?_
      refine AllReadyH.cons (o := ⟨some 17, _, _, _, _, _⟩) rfl (fun K9 hK9 => ?_) AllReadyH.nil
      go_simp
      go_at_call 7
      refine (Less_any _ _ _).mono ?_
      rintro e w7 ⟨rfl, k1⟩
      rw [H1.out]
      have hkn := hHeld.1.trans k1 (by simp)
      clear k1
      (try go_wp2_with fail)
      refine hK9.out _ _ ?_ (fun hHeld9 => ?_)
      focus ((try dsimp only); first | exact ⟨(Kept.refl [] _).drew, P.out.cell, Q.out.cell, R.out.cell⟩ | exact ⟨hkn, (P.out.kept hkn (by simp)).cell, (Q.out.kept hkn (by simp)).cell, (R.out.kept hkn (by simp)).cell⟩)
      clear hK9 K9 hHeld
      have hHeld := hHeld9
      clear hHeld9
      try simp only [Act.put, List.setIfInBounds_toArray, List.set_cons_zero, List.set_cons_succ]
      refine wpAnyH_ready (rs := [13]) (by kernel_rfl) (by simp) ?_
      refine AllReadyH.cons (o := ⟨some 20, _, _, _, _, _⟩) rfl (fun K9 hK9 => ?_) AllReadyH.nil
      go_simp
      go_at_call 7
      refine (Less_any _ _ _).mono ?_
      rintro e w7 ⟨rfl, k1⟩
      rw [H2.out]
      have hkn := hHeld.1.trans k1 (by simp)
      clear k1
      (try go_wp2_with fail)
      refine hK9.out _ _ ?_ (fun hHeld9 => ?_)
      focus ((try dsimp only); first | exact ⟨(Kept.refl [] _).drew, P.out.cell, Q.out.cell, R.out.cell⟩ | exact ⟨hkn, (P.out.kept hkn (by simp)).cell, (Q.out.kept hkn (by simp)).cell, (R.out.kept hkn (by simp)).cell⟩)
      clear hK9 K9 hHeld
      have hHeld := hHeld9
      clear hHeld9
      try simp only [Act.put, List.setIfInBounds_toArray, List.set_cons_zero, List.set_cons_succ]
      refine wpAnyH_take (i := 14) (oi := ⟨some 21, _, _, _, _, _⟩) (v := ?vq14) rfl (by kernel_rfl) (by kernel_rfl) (by kernel_rfl) (fun _ _ _ h => h) (Or.inl ⟨by kernel_rfl, ?hyq14⟩) (by assumption) ?restq14
      case hyq14 => (intro w9 hSw; (try dsimp only at hSw); go_simp; (try with_reducible rfl))
      simp only [Act.put, List.setIfInBounds_toArray, List.set_cons_zero, List.set_cons_succ]
      refine wpAnyH_take (i := 15) (oi := ⟨some 22, _, _, _, _, _⟩) (v := ?vq15) rfl (by kernel_rfl) (by kernel_rfl) (by kernel_rfl) (fun _ _ _ h => h) (Or.inl ⟨by kernel_rfl, ?hyq15⟩) (by assumption) ?restq15
      case hyq15 => (intro w9 hSw; (try dsimp only at hSw); go_simp; (try with_reducible rfl))
      simp only [Act.put, List.setIfInBounds_toArray, List.set_cons_zero, List.set_cons_succ]
      refine wpAnyH_take (i := 16) (oi := ⟨some 23, _, _, _, _, _⟩) (v := ?vq16) rfl (by kernel_rfl) (by kernel_rfl) (by kernel_rfl) (fun _ _ _ h => h) (Or.inl ⟨by kernel_rfl, ?hyq16⟩) (by assumption) ?restq16
      case hyq16 => (intro w9 hSw; (try dsimp only at hSw); go_simp; (try with_reducible rfl))
      simp only [Act.put, List.setIfInBounds_toArray, List.set_cons_zero, List.set_cons_succ]
      refine wpAnyH_take (i := 17) (oi := ⟨some 24, _, _, _, _, _⟩) (v := ?vq17) rfl (by kernel_rfl) (by kernel_rfl) (by kernel_rfl) (fun _ _ _ h => h) (Or.inl ⟨by kernel_rfl, ?hyq17⟩) (by assumption) ?restq17
      case hyq17 => (intro w9 hSw; (try dsimp only at hSw); go_simp; (try with_reducible rfl))
      simp only [Act.put, List.setIfInBounds_toArray, List.set_cons_zero, List.set_cons_succ]
      refine wpAnyH_take (i := 18) (oi := ⟨some 25, _, _, _, _, _⟩) (v := ?vq18) rfl (by kernel_rfl) (by kernel_rfl) (by kernel_rfl) (fun _ _ _ h => h) (Or.inl ⟨by kernel_rfl, ?hyq18⟩) (by assumption) ?restq18
      case hyq18 => (intro w9 hSw; (try dsimp only at hSw); go_simp; (try with_reducible rfl))
      simp only [Act.put, List.setIfInBounds_toArray, List.set_cons_zero, List.set_cons_succ]
      refine wpAnyH_take (i := 19) (oi := ⟨some 26, _, _, _, _, _⟩) (v := ?vq19) rfl (by kernel_rfl) (by kernel_rfl) (by kernel_rfl) (fun _ _ _ h => h) (Or.inl ⟨by kernel_rfl, ?hyq19⟩) (by assumption) ?restq19
      case hyq19 => (intro w9 hSw; (try dsimp only at hSw); go_simp; (try with_reducible rfl))
      simp only [Act.put, List.setIfInBounds_toArray, List.set_cons_zero, List.set_cons_succ]
      refine wpAnyH_ready (rs := [20]) (by kernel_rfl) (by simp) ?_
      refine AllReadyH.cons (o := ⟨some 27, _, _, _, _, _⟩) rfl (fun K9 hK9 => ?_) AllReadyH.nil
      go_simp
      go_at_call 7
      refine (Less_any _ _ _).mono ?_
      rintro e w7 ⟨rfl, k1⟩
      rw [H1.out]
      have hkn := hHeld.1.trans k1 (by simp)
      clear k1
      (try go_wp2_with fail)
      refine hK9.out _ _ ?_ (fun hHeld9 => ?_)
      focus ((try dsimp only); first | exact ⟨(Kept.refl [] _).drew, P.out.cell, Q.out.cell, R.out.cell⟩ | exact ⟨hkn, (P.out.kept hkn (by simp)).cell, (Q.out.kept hkn (by simp)).cell, (R.out.kept hkn (by simp)).cell⟩)
      clear hK9 K9 hHeld
      have hHeld := hHeld9
      clear hHeld9
      try simp only [Act.put, List.setIfInBounds_toArray, List.set_cons_zero, List.set_cons_succ]
      refine wpAnyH_take (i := 21) (oi := ⟨some 28, _, _, _, _, _⟩) (v := ?vq21) rfl (by kernel_rfl) (by kernel_rfl) (by kernel_rfl) (fun _ _ _ h => h) (Or.inl ⟨by kernel_rfl, ?hyq21⟩) (by assumption) ?restq21
      case hyq21 => (intro w9 hSw; (try dsimp only at hSw); go_simp; (try with_reducible rfl))
      simp only [Act.put, List.setIfInBounds_toArray, List.set_cons_zero, List.set_cons_succ]
      refine wpAnyH_take (i := 22) (oi := ⟨some 29, _, _, _, _, _⟩) (v := ?vq22) rfl (by kernel_rfl) (by kernel_rfl) (by kernel_rfl) (fun _ _ _ h => h) (Or.inl ⟨by kernel_rfl, ?hyq22⟩) (by assumption) ?restq22
      case hyq22 => (intro w9 hSw; (try dsimp only at hSw); go_simp; (try with_reducible rfl))
      simp only [Act.put, List.setIfInBounds_toArray, List.set_cons_zero, List.set_cons_succ]
      refine wpAnyH_take (i := 23) (oi := ⟨some 30, _, _, _, _, _⟩) (v := ?vq23) rfl (by kernel_rfl) (by kernel_rfl) (by kernel_rfl) (fun _ _ _ h => h) (Or.inl ⟨by kernel_rfl, ?hyq23⟩) (by assumption) ?restq23
      case hyq23 => (intro w9 hSw; (try dsimp only at hSw); go_simp; (try with_reducible rfl))
      simp only [Act.put, List.setIfInBounds_toArray, List.set_cons_zero, List.set_cons_succ]
      refine wpAnyH_ready (rs := [24]) (by kernel_rfl) (by simp) ?_
      refine AllReadyH.cons (o := ⟨some 31, _, _, _, _, _⟩) rfl (fun K9 hK9 => ?_) AllReadyH.nil
      go_simp
      go_at_call 7
      refine (Less_any _ _ _).mono ?_
      rintro e w7 ⟨rfl, k1⟩
      rw [H3.out]
      have hkn := hHeld.1.trans k1 (by simp)
      clear k1
      (try go_wp2_with fail)
      refine hK9.out _ _ ?_ (fun hHeld9 => ?_)
      focus ((try dsimp only); first | exact ⟨(Kept.refl [] _).drew, P.out.cell, Q.out.cell, R.out.cell⟩ | exact ⟨hkn, (P.out.kept hkn (by simp)).cell, (Q.out.kept hkn (by simp)).cell, (R.out.kept hkn (by simp)).cell⟩)
      clear hK9 K9 hHeld
      have hHeld := hHeld9
      clear hHeld9
      try simp only [Act.put, List.setIfInBounds_toArray, List.set_cons_zero, List.set_cons_succ]
      refine wpAnyH_take (i := 25) (oi := ⟨some 32, _, _, _, _, _⟩) (v := ?vq25) rfl (by kernel_rfl) (by kernel_rfl) (by kernel_rfl) (fun _ _ _ h => h) (Or.inl ⟨by kernel_rfl, ?hyq25⟩) (by assumption) ?restq25
      case hyq25 => (intro w9 hSw; (try dsimp only at hSw); go_simp; (try with_reducible rfl))
      simp only [Act.put, List.setIfInBounds_toArray, List.set_cons_zero, List.set_cons_succ]
      refine wpAnyH_take (i := 26) (oi := ⟨some 33, _, _, _, _, _⟩) (v := ?vq26) rfl (by kernel_rfl) (by kernel_rfl) (by kernel_rfl) (fun _ _ _ h => h) (Or.inl ⟨by kernel_rfl, ?hyq26⟩) (by assumption) ?restq26
      case hyq26 => (intro w9 hSw; (try dsimp only at hSw); go_simp; (try with_reducible rfl))
      simp only [Act.put, List.setIfInBounds_toArray, List.set_cons_zero, List.set_cons_succ]
      refine wpAnyH_take (i := 27) (oi := ⟨some 34, _, _, _, _, _⟩) (v := undef) rfl (by kernel_rfl) (by kernel_rfl) (by kernel_rfl) (fun _ _ _ h => h) (Or.inr ⟨by kernel_rfl, rfl⟩) (by assumption) ?_
      simp only [Act.put, List.setIfInBounds_toArray, List.set_cons_zero, List.set_cons_succ]
      refine wpAnyH_take (i := 28) (oi := ⟨some 35, _, _, _, _, _⟩) (v := undef) rfl (by kernel_rfl) (by kernel_rfl) (by kernel_rfl) (fun _ _ _ h => h) (Or.inr ⟨by kernel_rfl, rfl⟩) (by assumption) ?_
      simp only [Act.put, List.setIfInBounds_toArray, List.set_cons_zero, List.set_cons_succ]
      refine wpAnyH_take (i := 29) (oi := ⟨some 36, _, _, _, _, _⟩) (v := undef) rfl (by kernel_rfl) (by kernel_rfl) (by kernel_rfl) (fun _ _ _ h => h) (Or.inr ⟨by kernel_rfl, rfl⟩) (by assumption) ?_
      simp only [Act.put, List.setIfInBounds_toArray, List.set_cons_zero, List.set_cons_succ]
      refine wpAnyH_take (i := 30) (oi := ⟨some 37, _, _, _, _, _⟩) (v := undef) rfl (by kernel_rfl) (by kernel_rfl) (by kernel_rfl) (fun _ _ _ h => h) (Or.inr ⟨by kernel_rfl, rfl⟩) (by assumption) ?_
      simp only [Act.put, List.setIfInBounds_toArray, List.set_cons_zero, List.set_cons_succ]
      refine wpAnyH_take (i := 31) (oi := ⟨some 38, _, _, _, _, _⟩) (v := ?vq31) rfl (by kernel_rfl) (by kernel_rfl) (by kernel_rfl) (fun _ _ _ h => h) (Or.inl ⟨by kernel_rfl, ?hyq31⟩) (by assumption) ?restq31
      case hyq31 => (intro w9 hSw; (try dsimp only at hSw); go_simp; (try with_reducible rfl))
      simp only [Act.put, List.setIfInBounds_toArray, List.set_cons_zero, List.set_cons_succ]
      refine wpAnyH_take (i := 32) (oi := ⟨some 39, _, _, _, _, _⟩) (v := ?vq32) rfl (by kernel_rfl) (by kernel_rfl) (by kernel_rfl) (fun _ _ _ h => h) (Or.inl ⟨by kernel_rfl, ?hyq32⟩) (by assumption) ?restq32
      case hyq32 => (intro w9 hSw; (try dsimp only at hSw); go_simp; (try with_reducible rfl))
      simp only [Act.put, List.setIfInBounds_toArray, List.set_cons_zero, List.set_cons_succ]
      refine wpAnyH_done (by kernel_rfl) ?_ _
      go_wp2
      go_meet
      case rel => exact ⟨rfl, hHeld.1⟩
    · have H1 := Lib.hid h1
      have H2 := Lib.hid h2
      have H3 := Lib.hid h3
      have H4 := Lib.hid h4
      clear h1 h2 h3 h4
      refine wp_region_held_drew (S := fun w' => Kept [] w0 w' ∧ (∀ o, w'.cell? ⟨w.heap.size, o, none⟩ = (#[.int .u32 (a.src.toNat : Nat), .int .u32 (a.dst.toNat : Nat), .int .i64 a.proto, .int .i64 a.sport, .int .i64 a.dport] : Array Value)[o]?) ∧ (∀ o, w'.cell? ⟨w.heap.size + 1, o, none⟩ = (#[.int .u32 (b.src.toNat : Nat), .int .u32 (b.dst.toNat : Nat), .int .i64 b.proto, .int .i64 b.sport, .int .i64 b.dport] : Array Value)[o]?) ∧ (∀ o, w'.cell? ⟨w.heap.size + 2, o, none⟩ = (#[.int .u32 (c.src.toNat : Nat), .int .u32 (c.dst.toNat : Nat), .int .i64 c.proto, .int .i64 c.sport, .int .i64 c.dport] : Array Value)[o]?)) (by kernel_rfl) ?_ (fun hHeld => ?_)
      focus ((try dsimp only); first | exact ⟨(Kept.refl [] _).drew, P.out.cell, Q.out.cell, R.out.cell⟩ | exact ⟨hkn, (P.out.kept hkn (by simp)).cell, (Q.out.kept hkn (by simp)).cell, (R.out.kept hkn (by simp)).cell⟩)
      refine wpAnyH_take (i := 0) (oi := ⟨some 7, _, _, _, _, _⟩) (v := ?vr0) rfl (by kernel_rfl) (by kernel_rfl) (by kernel_rfl) (fun _ _ _ h => h) (Or.inl ⟨by kernel_rfl, ?hyr0⟩) (by assumption) ?restr0
      case hyr0 => (intro w9 hSw; (try dsimp only at hSw); go_simp; (try with_reducible rfl))
      simp only [Act.put, List.setIfInBounds_toArray, List.set_cons_zero, List.set_cons_succ]
      refine wpAnyH_take (i := 1) (oi := ⟨some 8, _, _, _, _, _⟩) (v := ?vr1) rfl (by kernel_rfl) (by kernel_rfl) (by kernel_rfl) (fun _ _ _ h => h) (Or.inl ⟨by kernel_rfl, ?hyr1⟩) (by assumption) ?restr1
      case hyr1 => (intro w9 hSw; (try dsimp only at hSw); go_simp; (try with_reducible rfl))
      simp only [Act.put, List.setIfInBounds_toArray, List.set_cons_zero, List.set_cons_succ]
      refine wpAnyH_ready (rs := [2]) (by kernel_rfl) (by simp) ?_
      refine AllReadyH.cons (o := ⟨some 9, _, _, _, _, _⟩) rfl (fun K9 hK9 => ?_) AllReadyH.nil
      go_simp
      go_at_call 7
      refine (Less_any _ _ _).mono ?_
      rintro e w7 ⟨rfl, k1⟩
      rw [L1.out]
      have hkn := hHeld.1.trans k1 (by simp)
      clear k1
      (try go_wp2_with fail)
      refine hK9.out _ _ ?_ (fun hHeld9 => ?_)
      focus ((try dsimp only); first | exact ⟨(Kept.refl [] _).drew, P.out.cell, Q.out.cell, R.out.cell⟩ | exact ⟨hkn, (P.out.kept hkn (by simp)).cell, (Q.out.kept hkn (by simp)).cell, (R.out.kept hkn (by simp)).cell⟩)
      clear hK9 K9 hHeld
      have hHeld := hHeld9
      clear hHeld9
      try simp only [Act.put, List.setIfInBounds_toArray, List.set_cons_zero, List.set_cons_succ]
      refine wpAnyH_take (i := 3) (oi := ⟨some 10, _, _, _, _, _⟩) (v := ?vr3) rfl (by kernel_rfl) (by kernel_rfl) (by kernel_rfl) (fun _ _ _ h => h) (Or.inl ⟨by kernel_rfl, ?hyr3⟩) (by assumption) ?restr3
      case hyr3 => (intro w9 hSw; (try dsimp only at hSw); go_simp; (try with_reducible rfl))
      simp only [Act.put, List.setIfInBounds_toArray, List.set_cons_zero, List.set_cons_succ]
      refine wpAnyH_take (i := 4) (oi := ⟨some 11, _, _, _, _, _⟩) (v := ?vr4) rfl (by kernel_rfl) (by kernel_rfl) (by kernel_rfl) (fun _ _ _ h => h) (Or.inl ⟨by kernel_rfl, ?hyr4⟩) (by assumption) ?restr4
      case hyr4 => (intro w9 hSw; (try dsimp only at hSw); go_simp; (try with_reducible rfl))
      simp only [Act.put, List.setIfInBounds_toArray, List.set_cons_zero, List.set_cons_succ]
      refine wpAnyH_take (i := 5) (oi := ⟨some 12, _, _, _, _, _⟩) (v := ?vr5) rfl (by kernel_rfl) (by kernel_rfl) (by kernel_rfl) (fun _ _ _ h => h) (Or.inl ⟨by kernel_rfl, ?hyr5⟩) (by assumption) ?restr5
      case hyr5 => (intro w9 hSw; (try dsimp only at hSw); go_simp; (try with_reducible rfl))
      simp only [Act.put, List.setIfInBounds_toArray, List.set_cons_zero, List.set_cons_succ]
      refine wpAnyH_take (i := 6) (oi := ⟨some 13, _, _, _, _, _⟩) (v := ?vr6) rfl (by kernel_rfl) (by kernel_rfl) (by kernel_rfl) (fun _ _ _ h => h) (Or.inl ⟨by kernel_rfl, ?hyr6⟩) (by assumption) ?restr6
      case hyr6 => (intro w9 hSw; (try dsimp only at hSw); go_simp; exact neq_ifs HAB.out _ _)
      simp only [Act.put, List.setIfInBounds_toArray, List.set_cons_zero, List.set_cons_succ]
      refine wpAnyH_take (i := 7) (oi := ⟨some 14, _, _, _, _, _⟩) (v := ?vr7) rfl (by kernel_rfl) (by kernel_rfl) (by kernel_rfl) (fun _ _ _ h => h) (Or.inl ⟨by kernel_rfl, ?hyr7⟩) (by assumption) ?restr7
      case hyr7 => (intro w9 hSw; (try dsimp only at hSw); go_simp; (try with_reducible rfl))
      simp only [Act.put, List.setIfInBounds_toArray, List.set_cons_zero, List.set_cons_succ]
      refine wpAnyH_take (i := 8) (oi := ⟨some 15, _, _, _, _, _⟩) (v := ?vr8) rfl (by kernel_rfl) (by kernel_rfl) (by kernel_rfl) (fun _ _ _ h => h) (Or.inl ⟨by kernel_rfl, ?hyr8⟩) (by assumption) ?restr8
      case hyr8 => (intro w9 hSw; (try dsimp only at hSw); go_simp; (try with_reducible rfl))
      simp only [Act.put, List.setIfInBounds_toArray, List.set_cons_zero, List.set_cons_succ]
      refine wpAnyH_take (i := 9) (oi := ⟨some 16, _, _, _, _, _⟩) (v := ?vr9) rfl (by kernel_rfl) (by kernel_rfl) (by kernel_rfl) (fun _ _ _ h => h) (Or.inl ⟨by kernel_rfl, ?hyr9⟩) (by assumption) ?restr9
      case hyr9 => (intro w9 hSw; (try dsimp only at hSw); go_simp; (try with_reducible rfl))
      simp only [Act.put, List.setIfInBounds_toArray, List.set_cons_zero, List.set_cons_succ]
      refine wpAnyH_take (i := 11) (oi := ⟨some 18, _, _, _, _, _⟩) (v := ?vr11) rfl (by kernel_rfl) (by kernel_rfl) (by kernel_rfl) (fun _ _ _ h => h) (Or.inl ⟨by kernel_rfl, ?hyr11⟩) (by assumption) ?restr11
      case hyr11 => (intro w9 hSw; (try dsimp only at hSw); go_simp; (try with_reducible rfl))
      simp only [Act.put, List.setIfInBounds_toArray, List.set_cons_zero, List.set_cons_succ]
      refine wpAnyH_take (i := 12) (oi := ⟨some 19, _, _, _, _, _⟩) (v := ?vr12) rfl (by kernel_rfl) (by kernel_rfl) (by kernel_rfl) (fun _ _ _ h => h) (Or.inl ⟨by kernel_rfl, ?hyr12⟩) (by assumption) ?restr12
      case hyr12 => (intro w9 hSw; (try dsimp only at hSw); go_simp; (try with_reducible rfl))
      simp only [Act.put, List.setIfInBounds_toArray, List.set_cons_zero, List.set_cons_succ]
      refine wpAnyH_ready (rs := [10]) (by kernel_rfl) (by simp) ?_
      refine AllReadyH.cons (o := ⟨some 17, _, _, _, _, _⟩) rfl (fun K9 hK9 => ?_) AllReadyH.nil
      go_simp
      go_at_call 7
      refine (Less_any _ _ _).mono ?_
      rintro e w7 ⟨rfl, k1⟩
      rw [H1.out]
      have hkn := hHeld.1.trans k1 (by simp)
      clear k1
      (try go_wp2_with fail)
      refine hK9.out _ _ ?_ (fun hHeld9 => ?_)
      focus ((try dsimp only); first | exact ⟨(Kept.refl [] _).drew, P.out.cell, Q.out.cell, R.out.cell⟩ | exact ⟨hkn, (P.out.kept hkn (by simp)).cell, (Q.out.kept hkn (by simp)).cell, (R.out.kept hkn (by simp)).cell⟩)
      clear hK9 K9 hHeld
      have hHeld := hHeld9
      clear hHeld9
      try simp only [Act.put, List.setIfInBounds_toArray, List.set_cons_zero, List.set_cons_succ]
      refine wpAnyH_ready (rs := [13]) (by kernel_rfl) (by simp) ?_
      refine AllReadyH.cons (o := ⟨some 20, _, _, _, _, _⟩) rfl (fun K9 hK9 => ?_) AllReadyH.nil
      go_simp
      go_at_call 7
      refine (Less_any _ _ _).mono ?_
      rintro e w7 ⟨rfl, k1⟩
      rw [H2.out]
      have hkn := hHeld.1.trans k1 (by simp)
      clear k1
      (try go_wp2_with fail)
      refine hK9.out _ _ ?_ (fun hHeld9 => ?_)
      focus ((try dsimp only); first | exact ⟨(Kept.refl [] _).drew, P.out.cell, Q.out.cell, R.out.cell⟩ | exact ⟨hkn, (P.out.kept hkn (by simp)).cell, (Q.out.kept hkn (by simp)).cell, (R.out.kept hkn (by simp)).cell⟩)
      clear hK9 K9 hHeld
      have hHeld := hHeld9
      clear hHeld9
      try simp only [Act.put, List.setIfInBounds_toArray, List.set_cons_zero, List.set_cons_succ]
      refine wpAnyH_take (i := 14) (oi := ⟨some 21, _, _, _, _, _⟩) (v := ?vr14) rfl (by kernel_rfl) (by kernel_rfl) (by kernel_rfl) (fun _ _ _ h => h) (Or.inl ⟨by kernel_rfl, ?hyr14⟩) (by assumption) ?restr14
      case hyr14 => (intro w9 hSw; (try dsimp only at hSw); go_simp; (try with_reducible rfl))
      simp only [Act.put, List.setIfInBounds_toArray, List.set_cons_zero, List.set_cons_succ]
      refine wpAnyH_take (i := 15) (oi := ⟨some 22, _, _, _, _, _⟩) (v := ?vr15) rfl (by kernel_rfl) (by kernel_rfl) (by kernel_rfl) (fun _ _ _ h => h) (Or.inl ⟨by kernel_rfl, ?hyr15⟩) (by assumption) ?restr15
      case hyr15 => (intro w9 hSw; (try dsimp only at hSw); go_simp; (try with_reducible rfl))
      simp only [Act.put, List.setIfInBounds_toArray, List.set_cons_zero, List.set_cons_succ]
      refine wpAnyH_take (i := 16) (oi := ⟨some 23, _, _, _, _, _⟩) (v := ?vr16) rfl (by kernel_rfl) (by kernel_rfl) (by kernel_rfl) (fun _ _ _ h => h) (Or.inl ⟨by kernel_rfl, ?hyr16⟩) (by assumption) ?restr16
      case hyr16 => (intro w9 hSw; (try dsimp only at hSw); go_simp; (try with_reducible rfl))
      simp only [Act.put, List.setIfInBounds_toArray, List.set_cons_zero, List.set_cons_succ]
      refine wpAnyH_take (i := 17) (oi := ⟨some 24, _, _, _, _, _⟩) (v := ?vr17) rfl (by kernel_rfl) (by kernel_rfl) (by kernel_rfl) (fun _ _ _ h => h) (Or.inl ⟨by kernel_rfl, ?hyr17⟩) (by assumption) ?restr17
      case hyr17 => (intro w9 hSw; (try dsimp only at hSw); go_simp; (try with_reducible rfl))
      simp only [Act.put, List.setIfInBounds_toArray, List.set_cons_zero, List.set_cons_succ]
      refine wpAnyH_take (i := 18) (oi := ⟨some 25, _, _, _, _, _⟩) (v := ?vr18) rfl (by kernel_rfl) (by kernel_rfl) (by kernel_rfl) (fun _ _ _ h => h) (Or.inl ⟨by kernel_rfl, ?hyr18⟩) (by assumption) ?restr18
      case hyr18 => (intro w9 hSw; (try dsimp only at hSw); go_simp; (try with_reducible rfl))
      simp only [Act.put, List.setIfInBounds_toArray, List.set_cons_zero, List.set_cons_succ]
      refine wpAnyH_take (i := 19) (oi := ⟨some 26, _, _, _, _, _⟩) (v := ?vr19) rfl (by kernel_rfl) (by kernel_rfl) (by kernel_rfl) (fun _ _ _ h => h) (Or.inl ⟨by kernel_rfl, ?hyr19⟩) (by assumption) ?restr19
      case hyr19 => (intro w9 hSw; (try dsimp only at hSw); go_simp; (try with_reducible rfl))
      simp only [Act.put, List.setIfInBounds_toArray, List.set_cons_zero, List.set_cons_succ]
      refine wpAnyH_ready (rs := [20]) (by kernel_rfl) (by simp) ?_
      refine AllReadyH.cons (o := ⟨some 27, _, _, _, _, _⟩) rfl (fun K9 hK9 => ?_) AllReadyH.nil
      go_simp
      go_at_call 7
      refine (Less_any _ _ _).mono ?_
      rintro e w7 ⟨rfl, k1⟩
      rw [H1.out]
      have hkn := hHeld.1.trans k1 (by simp)
      clear k1
      (try go_wp2_with fail)
      refine hK9.out _ _ ?_ (fun hHeld9 => ?_)
      focus ((try dsimp only); first | exact ⟨(Kept.refl [] _).drew, P.out.cell, Q.out.cell, R.out.cell⟩ | exact ⟨hkn, (P.out.kept hkn (by simp)).cell, (Q.out.kept hkn (by simp)).cell, (R.out.kept hkn (by simp)).cell⟩)
      clear hK9 K9 hHeld
      have hHeld := hHeld9
      clear hHeld9
      try simp only [Act.put, List.setIfInBounds_toArray, List.set_cons_zero, List.set_cons_succ]
      refine wpAnyH_take (i := 21) (oi := ⟨some 28, _, _, _, _, _⟩) (v := ?vr21) rfl (by kernel_rfl) (by kernel_rfl) (by kernel_rfl) (fun _ _ _ h => h) (Or.inl ⟨by kernel_rfl, ?hyr21⟩) (by assumption) ?restr21
      case hyr21 => (intro w9 hSw; (try dsimp only at hSw); go_simp; (try with_reducible rfl))
      simp only [Act.put, List.setIfInBounds_toArray, List.set_cons_zero, List.set_cons_succ]
      refine wpAnyH_take (i := 22) (oi := ⟨some 29, _, _, _, _, _⟩) (v := ?vr22) rfl (by kernel_rfl) (by kernel_rfl) (by kernel_rfl) (fun _ _ _ h => h) (Or.inl ⟨by kernel_rfl, ?hyr22⟩) (by assumption) ?restr22
      case hyr22 => (intro w9 hSw; (try dsimp only at hSw); go_simp; (try with_reducible rfl))
      simp only [Act.put, List.setIfInBounds_toArray, List.set_cons_zero, List.set_cons_succ]
      refine wpAnyH_take (i := 23) (oi := ⟨some 30, _, _, _, _, _⟩) (v := ?vr23) rfl (by kernel_rfl) (by kernel_rfl) (by kernel_rfl) (fun _ _ _ h => h) (Or.inl ⟨by kernel_rfl, ?hyr23⟩) (by assumption) ?restr23
      case hyr23 => (intro w9 hSw; (try dsimp only at hSw); go_simp; (try with_reducible rfl))
      simp only [Act.put, List.setIfInBounds_toArray, List.set_cons_zero, List.set_cons_succ]
      refine wpAnyH_ready (rs := [24]) (by kernel_rfl) (by simp) ?_
      refine AllReadyH.cons (o := ⟨some 31, _, _, _, _, _⟩) rfl (fun K9 hK9 => ?_) AllReadyH.nil
      go_simp
      go_at_call 7
      refine (Less_any _ _ _).mono ?_
      rintro e w7 ⟨rfl, k1⟩
      rw [H3.out]
      have hkn := hHeld.1.trans k1 (by simp)
      clear k1
      (try go_wp2_with fail)
      refine hK9.out _ _ ?_ (fun hHeld9 => ?_)
      focus ((try dsimp only); first | exact ⟨(Kept.refl [] _).drew, P.out.cell, Q.out.cell, R.out.cell⟩ | exact ⟨hkn, (P.out.kept hkn (by simp)).cell, (Q.out.kept hkn (by simp)).cell, (R.out.kept hkn (by simp)).cell⟩)
      clear hK9 K9 hHeld
      have hHeld := hHeld9
      clear hHeld9
      try simp only [Act.put, List.setIfInBounds_toArray, List.set_cons_zero, List.set_cons_succ]
      refine wpAnyH_take (i := 25) (oi := ⟨some 32, _, _, _, _, _⟩) (v := ?vr25) rfl (by kernel_rfl) (by kernel_rfl) (by kernel_rfl) (fun _ _ _ h => h) (Or.inl ⟨by kernel_rfl, ?hyr25⟩) (by assumption) ?restr25
      case hyr25 => (intro w9 hSw; (try dsimp only at hSw); go_simp; (try with_reducible rfl))
      simp only [Act.put, List.setIfInBounds_toArray, List.set_cons_zero, List.set_cons_succ]
      refine wpAnyH_take (i := 26) (oi := ⟨some 33, _, _, _, _, _⟩) (v := ?vr26) rfl (by kernel_rfl) (by kernel_rfl) (by kernel_rfl) (fun _ _ _ h => h) (Or.inl ⟨by kernel_rfl, ?hyr26⟩) (by assumption) ?restr26
      case hyr26 => (intro w9 hSw; (try dsimp only at hSw); go_simp; (try with_reducible rfl))
      simp only [Act.put, List.setIfInBounds_toArray, List.set_cons_zero, List.set_cons_succ]
      refine wpAnyH_take (i := 27) (oi := ⟨some 34, _, _, _, _, _⟩) (v := ?vr27) rfl (by kernel_rfl) (by kernel_rfl) (by kernel_rfl) (fun _ _ _ h => h) (Or.inl ⟨by kernel_rfl, ?hyr27⟩) (by assumption) ?restr27
      case hyr27 => (intro w9 hSw; (try dsimp only at hSw); go_simp; (try with_reducible rfl))
      simp only [Act.put, List.setIfInBounds_toArray, List.set_cons_zero, List.set_cons_succ]
      refine wpAnyH_take (i := 28) (oi := ⟨some 35, _, _, _, _, _⟩) (v := ?vr28) rfl (by kernel_rfl) (by kernel_rfl) (by kernel_rfl) (fun _ _ _ h => h) (Or.inl ⟨by kernel_rfl, ?hyr28⟩) (by assumption) ?restr28
      case hyr28 => (intro w9 hSw; (try dsimp only at hSw); go_simp; (try with_reducible rfl))
      simp only [Act.put, List.setIfInBounds_toArray, List.set_cons_zero, List.set_cons_succ]
      refine wpAnyH_ready (rs := [29]) (by kernel_rfl) (by simp) ?_
      refine AllReadyH.cons (o := ⟨some 36, _, _, _, _, _⟩) rfl (fun K9 hK9 => ?_) AllReadyH.nil
      go_simp
      go_at_call 7
      refine (Less_any _ _ _).mono ?_
      rintro e w7 ⟨rfl, k1⟩
      rw [H4.out]
      have hkn := hHeld.1.trans k1 (by simp)
      clear k1
      (try go_wp2_with fail)
      refine hK9.out _ _ ?_ (fun hHeld9 => ?_)
      focus ((try dsimp only); first | exact ⟨(Kept.refl [] _).drew, P.out.cell, Q.out.cell, R.out.cell⟩ | exact ⟨hkn, (P.out.kept hkn (by simp)).cell, (Q.out.kept hkn (by simp)).cell, (R.out.kept hkn (by simp)).cell⟩)
      clear hK9 K9 hHeld
      have hHeld := hHeld9
      clear hHeld9
      try simp only [Act.put, List.setIfInBounds_toArray, List.set_cons_zero, List.set_cons_succ]
      refine wpAnyH_take (i := 30) (oi := ⟨some 37, _, _, _, _, _⟩) (v := ?vr30) rfl (by kernel_rfl) (by kernel_rfl) (by kernel_rfl) (fun _ _ _ h => h) (Or.inl ⟨by kernel_rfl, ?hyr30⟩) (by assumption) ?restr30
      case hyr30 => (intro w9 hSw; (try dsimp only at hSw); go_simp; (try with_reducible rfl))
      simp only [Act.put, List.setIfInBounds_toArray, List.set_cons_zero, List.set_cons_succ]
      refine wpAnyH_take (i := 31) (oi := ⟨some 38, _, _, _, _, _⟩) (v := ?vr31) rfl (by kernel_rfl) (by kernel_rfl) (by kernel_rfl) (fun _ _ _ h => h) (Or.inl ⟨by kernel_rfl, ?hyr31⟩) (by assumption) ?restr31
      case hyr31 => (intro w9 hSw; (try dsimp only at hSw); go_simp; (try with_reducible rfl))
      simp only [Act.put, List.setIfInBounds_toArray, List.set_cons_zero, List.set_cons_succ]
      refine wpAnyH_take (i := 32) (oi := ⟨some 39, _, _, _, _, _⟩) (v := ?vr32) rfl (by kernel_rfl) (by kernel_rfl) (by kernel_rfl) (fun _ _ _ h => h) (Or.inl ⟨by kernel_rfl, ?hyr32⟩) (by assumption) ?restr32
      case hyr32 => (intro w9 hSw; (try dsimp only at hSw); go_simp; (try with_reducible rfl))
      simp only [Act.put, List.setIfInBounds_toArray, List.set_cons_zero, List.set_cons_succ]
      refine wpAnyH_done (by kernel_rfl) ?_ _
      go_wp2
      go_meet
      case rel => exact ⟨rfl, hHeld.1⟩
  case rest =>
    obtain ⟨rfl, hk0⟩ := hcut
    have P := Lib.hid (P.out.kept hk0 (by simp))
    have Q := Lib.hid (Q.out.kept hk0 (by simp))
    have K := Lib.hid (K.out.trans hk0 (by simp))
    have hcP := P.out.cell
    have hcQ := Q.out.cell
    clear hk0
    cases dm : mayT a
    · have MA := Lib.hid dm
      clear dm
      go_wp2_with (first
        | (go_at_call 8
           go_must (refine (tMay_any _ _).mono ?_)
           go_must (rintro e w8 ⟨rfl, k1⟩)
           go_must (rw [MA.out])
           go_must (have P := Lib.hid (P.out.kept k1 (by simp)))
           go_must (have Q := Lib.hid (Q.out.kept k1 (by simp)))
           go_must (have K := Lib.hid (K.out.trans k1 (by simp)))
           go_must (have hcP := P.out.cell)
           go_must (have hcQ := Q.out.cell)
           go_must (clear k1))
        | (go_at_call 9
           go_must (refine (awake7_any _ (HT.out _ K.out)).mono ?_)
           go_must (rintro e w9 ⟨rfl, k1⟩)
           go_must (have K := Lib.hid (K.out.trans k1 (by simp)))
           go_must (clear k1)))
      go_ret
      exact ⟨rfl, K.out⟩
    · have MA := Lib.hid dm
      cases dn : mayT b
      · have MB := Lib.hid dn
        clear dm dn
        go_wp2_with (first
          | (go_at_call 8
             go_must (refine (tMay_any _ _).mono ?_)
             go_must (rintro e w8 ⟨rfl, k1⟩)
             go_must (first | rw [MA.out] | rw [MB.out])
             go_must (have P := Lib.hid (P.out.kept k1 (by simp)))
             go_must (have Q := Lib.hid (Q.out.kept k1 (by simp)))
             go_must (have K := Lib.hid (K.out.trans k1 (by simp)))
             go_must (have hcP := P.out.cell)
             go_must (have hcQ := Q.out.cell)
             go_must (clear k1))
          | (go_at_call 9
             go_must (refine (awake7_any _ (HT.out _ K.out)).mono ?_)
             go_must (rintro e w9 ⟨rfl, k1⟩)
             go_must (have K := Lib.hid (K.out.trans k1 (by simp)))
             go_must (clear k1)))
        go_ret
        exact ⟨rfl, K.out⟩
      · have MB := Lib.hid dn
        have hne : textF a ≠ textF b := fun e => HAB.out (text_inj dm dn e)
        obtain ⟨sa, hsa⟩ : ∃ s, strOf (textF a) = s := ⟨_, rfl⟩
        obtain ⟨sb, hsb⟩ : ∃ s, strOf (textF b) = s := ⟨_, rfl⟩
        have hst : (sa.toList == sb.toList) = false := by
          rw [beq_eq_false_iff_ne, ← hsa, ← hsb, strOf_toList, strOf_toList]; exact hne
        have SA := Lib.hid hsa
        have SB := Lib.hid hsb
        clear hsa hsb hne dm dn
        go_wp2_with (first
          | (go_at_call 8
             go_must (refine (tMay_any _ _).mono ?_)
             go_must (rintro e w8 ⟨rfl, k1⟩)
             go_must (first | rw [MA.out] | rw [MB.out])
             go_must (have P := Lib.hid (P.out.kept k1 (by simp)))
             go_must (have Q := Lib.hid (Q.out.kept k1 (by simp)))
             go_must (have K := Lib.hid (K.out.trans k1 (by simp)))
             go_must (have hcP := P.out.cell)
             go_must (have hcQ := Q.out.cell)
             go_must (clear k1))
          | (go_at_call 9
             go_must (refine (awake7_any _ (HT.out _ K.out)).mono ?_)
             go_must (rintro e w9 ⟨rfl, k1⟩)
             go_must (have K := Lib.hid (K.out.trans k1 (by simp)))
             go_must (clear k1)))
        refine wp_region_held_drew (S := fun w' => Kept [] w8 w' ∧ (∀ o, w'.cell? ⟨w.heap.size, o, none⟩ = (#[.int .u32 (a.src.toNat : Nat), .int .u32 (a.dst.toNat : Nat), .int .i64 a.proto, .int .i64 a.sport, .int .i64 a.dport] : Array Value)[o]?) ∧ (∀ o, w'.cell? ⟨w.heap.size + 1, o, none⟩ = (#[.int .u32 (b.src.toNat : Nat), .int .u32 (b.dst.toNat : Nat), .int .i64 b.proto, .int .i64 b.sport, .int .i64 b.dport] : Array Value)[o]?)) (by kernel_rfl) ?_ (fun hHeld => ?_)
        focus ((try dsimp only); first | exact ⟨(Kept.refl [] _).drew, P.out.cell, Q.out.cell⟩ | exact ⟨hkn, (P.out.kept hkn (by simp)).cell, (Q.out.kept hkn (by simp)).cell⟩)
        refine wpAnyH_take (i := 0) (oi := ⟨some 49, _, _, _, _, _⟩) (v := ?vs0) rfl (by kernel_rfl) (by kernel_rfl) (by kernel_rfl) (fun _ _ _ h => h) (Or.inl ⟨by kernel_rfl, ?hys0⟩) (by assumption) ?rests0
        case hys0 => (intro w9 hSw; (try dsimp only at hSw); go_simp; (try with_reducible rfl))
        simp only [Act.put, List.setIfInBounds_toArray, List.set_cons_zero, List.set_cons_succ]
        refine wpAnyH_take (i := 2) (oi := ⟨some 51, _, _, _, _, _⟩) (v := ?vs2) rfl (by kernel_rfl) (by kernel_rfl) (by kernel_rfl) (fun _ _ _ h => h) (Or.inl ⟨by kernel_rfl, ?hys2⟩) (by assumption) ?rests2
        case hys2 => (intro w9 hSw; (try dsimp only at hSw); go_simp; (try with_reducible rfl))
        simp only [Act.put, List.setIfInBounds_toArray, List.set_cons_zero, List.set_cons_succ]
        refine wpAnyH_take (i := 5) (oi := ⟨some 54, _, _, _, _, _⟩) (v := ?vs5) rfl (by kernel_rfl) (by kernel_rfl) (by kernel_rfl) (fun _ _ _ h => h) (Or.inl ⟨by kernel_rfl, ?hys5⟩) (by assumption) ?rests5
        case hys5 => (intro w9 hSw; (try dsimp only at hSw); go_simp; (try with_reducible rfl))
        simp only [Act.put, List.setIfInBounds_toArray, List.set_cons_zero, List.set_cons_succ]
        refine wpAnyH_take (i := 6) (oi := ⟨some 55, _, _, _, _, _⟩) (v := ?vs6) rfl (by kernel_rfl) (by kernel_rfl) (by kernel_rfl) (fun _ _ _ h => h) (Or.inl ⟨by kernel_rfl, ?hys6⟩) (by assumption) ?rests6
        case hys6 => (intro w9 hSw; (try dsimp only at hSw); go_simp; (try with_reducible rfl))
        simp only [Act.put, List.setIfInBounds_toArray, List.set_cons_zero, List.set_cons_succ]
        refine wpAnyH_take (i := 7) (oi := ⟨some 56, _, _, _, _, _⟩) (v := ?vs7) rfl (by kernel_rfl) (by kernel_rfl) (by kernel_rfl) (fun _ _ _ h => h) (Or.inl ⟨by kernel_rfl, ?hys7⟩) (by assumption) ?rests7
        case hys7 => (intro w9 hSw; (try dsimp only at hSw); go_simp; exact neq_ifs HAB.out _ _)
        simp only [Act.put, List.setIfInBounds_toArray, List.set_cons_zero, List.set_cons_succ]
        refine wpAnyH_ready (rs := [1]) (by kernel_rfl) (by simp) ?_
        refine AllReadyH.cons (o := ⟨some 50, _, _, _, _, _⟩) rfl (fun K9 hK9 => ?_) AllReadyH.nil
        go_simp
        go_at_call 10
        refine (Text_any _ a IA.out.1 IA.out.2 (HT.out _ (K.out.trans hHeld.1 (by simp)))).mono ?_
        rintro e w7 ⟨rfl, k1⟩
        rw [SA.out]
        have hkn := hHeld.1.trans k1 (by simp)
        clear k1
        (try go_wp2_with fail)
        refine hK9.out _ _ ?_ (fun hHeld9 => ?_)
        focus ((try dsimp only); first | exact ⟨(Kept.refl [] _).drew, P.out.cell, Q.out.cell⟩ | exact ⟨hkn, (P.out.kept hkn (by simp)).cell, (Q.out.kept hkn (by simp)).cell⟩)
        clear hK9 K9 hHeld
        have hHeld := hHeld9
        clear hHeld9
        try simp only [Act.put, List.setIfInBounds_toArray, List.set_cons_zero, List.set_cons_succ]
        refine wpAnyH_ready (rs := [3]) (by kernel_rfl) (by simp) ?_
        refine AllReadyH.cons (o := ⟨some 52, _, _, _, _, _⟩) rfl (fun K9 hK9 => ?_) AllReadyH.nil
        go_simp
        go_at_call 10
        refine (Text_any _ b IB.out.1 IB.out.2 (HT.out _ (K.out.trans hHeld.1 (by simp)))).mono ?_
        rintro e w7 ⟨rfl, k1⟩
        rw [SB.out]
        have hkn := hHeld.1.trans k1 (by simp)
        clear k1
        (try go_wp2_with fail)
        refine hK9.out _ _ ?_ (fun hHeld9 => ?_)
        focus ((try dsimp only); first | exact ⟨(Kept.refl [] _).drew, P.out.cell, Q.out.cell⟩ | exact ⟨hkn, (P.out.kept hkn (by simp)).cell, (Q.out.kept hkn (by simp)).cell⟩)
        clear hK9 K9 hHeld
        have hHeld := hHeld9
        clear hHeld9
        try simp only [Act.put, List.setIfInBounds_toArray, List.set_cons_zero, List.set_cons_succ]
        refine wpAnyH_take (i := 4) (oi := ⟨some 53, _, _, _, _, _⟩) (v := ?vs4) rfl (by kernel_rfl) (by kernel_rfl) (by kernel_rfl) (fun _ _ _ h => h) (Or.inl ⟨by kernel_rfl, ?hys4⟩) (by assumption) ?rests4
        case hys4 => (intro w9 hSw; (try dsimp only at hSw); go_simp; (try with_reducible rfl))
        simp only [Act.put, List.setIfInBounds_toArray, List.set_cons_zero, List.set_cons_succ]
        refine wpAnyH_take (i := 8) (oi := ⟨some 57, _, _, _, _, _⟩) (v := ?vs8) rfl (by kernel_rfl) (by kernel_rfl) (by kernel_rfl) (fun _ _ _ h => h) (Or.inl ⟨by kernel_rfl, ?hys8⟩) (by assumption) ?rests8
        case hys8 => (intro w9 hSw; (try dsimp only at hSw); go_simp; (try with_reducible rfl))
        simp only [Act.put, List.setIfInBounds_toArray, List.set_cons_zero, List.set_cons_succ]
        refine wpAnyH_take (i := 9) (oi := ⟨some 58, _, _, _, _, _⟩) (v := ?vs9) rfl (by kernel_rfl) (by kernel_rfl) (by kernel_rfl) (fun _ _ _ h => h) (Or.inl ⟨by kernel_rfl, ?hys9⟩) (by assumption) ?rests9
        case hys9 => (intro w9 hSw; (try dsimp only at hSw); go_simp; (try with_reducible rfl))
        simp only [Act.put, List.setIfInBounds_toArray, List.set_cons_zero, List.set_cons_succ]
        refine wpAnyH_ready (rs := [10]) (by kernel_rfl) (by simp) ?_
        refine AllReadyH.cons (o := ⟨some 59, _, _, _, _, _⟩) rfl (fun K9 hK9 => ?_) AllReadyH.nil
        go_simp
        go_at_call 9
        refine (awake7_any _ (HT.out _ (K.out.trans hHeld.1 (by simp)))).mono ?_
        rintro e w7 ⟨rfl, k1⟩
        have hkn := hHeld.1.trans k1 (by simp)
        clear k1
        (try go_wp2_with fail)
        refine hK9.out _ _ ?_ (fun hHeld9 => ?_)
        focus ((try dsimp only); first | exact ⟨(Kept.refl [] _).drew, P.out.cell, Q.out.cell⟩ | exact ⟨hkn, (P.out.kept hkn (by simp)).cell, (Q.out.kept hkn (by simp)).cell⟩)
        clear hK9 K9 hHeld
        have hHeld := hHeld9
        clear hHeld9
        try simp only [Act.put, List.setIfInBounds_toArray, List.set_cons_zero, List.set_cons_succ]
        refine wpAnyH_take (i := 11) (oi := ⟨some 60, _, _, _, _, _⟩) (v := ?vs11) rfl (by kernel_rfl) (by kernel_rfl) (by kernel_rfl) (fun _ _ _ h => h) (Or.inl ⟨by kernel_rfl, ?hys11⟩) (by assumption) ?rests11
        case hys11 => (intro w9 hSw; (try dsimp only at hSw); go_simp; (try with_reducible rfl))
        simp only [Act.put, List.setIfInBounds_toArray, List.set_cons_zero, List.set_cons_succ]
        refine wpAnyH_take (i := 12) (oi := ⟨some 6, _, _, _, _, _⟩) (v := ?vs12) rfl (by kernel_rfl) (by kernel_rfl) (by kernel_rfl) (fun _ _ _ h => h) (Or.inl ⟨by kernel_rfl, ?hys12⟩) (by assumption) ?rests12
        case hys12 => (intro w9 hSw; (try dsimp only at hSw); go_simp; (try with_reducible rfl))
        simp only [Act.put, List.setIfInBounds_toArray, List.set_cons_zero, List.set_cons_succ]
        refine wpAnyH_done (by kernel_rfl) ?_ _
        obtain ⟨hk0, -, -⟩ := hHeld
        go_wp2
        go_ret
        exact ⟨rfl, K.out.trans hk0 (by simp)⟩
theorem TupleOrder_any (w : World) (a b c : TupD) (ia : inI a.sport ∧ inI a.dport) (ib : inI b.sport ∧ inI b.dport) (ht : PowTab w) :
    Calls Tryd.prog 3 #[.agg #[.int .u32 (a.src.toNat : Nat), .int .u32 (a.dst.toNat : Nat), .int .i64 a.proto, .int .i64 a.sport, .int .i64 a.dport], .agg #[.int .u32 (b.src.toNat : Nat), .int .u32 (b.dst.toNat : Nat), .int .i64 b.proto, .int .i64 b.sport, .int .i64 b.dport], .agg #[.int .u32 (c.src.toNat : Nat), .int .u32 (c.dst.toNat : Nat), .int .i64 c.proto, .int .i64 c.sport, .int .i64 c.dport]] w fun e w' => e = .returned (.bool true) ∧ Kept [] w w' := by
  by_cases hab : a = b
  · subst hab; exact TupleOrder_e w a c ia ib ht
  · exact TupleOrder_n w a b c hab ia ib ht
theorem in_of {n : Int} (h : (Lit.int .i64 n).wf = true) : inI n := by
  simp [Lit.wf, IntKind.min, IntKind.max, IntKind.signed, IntKind.bits] at h
  exact ⟨by omega, by omega⟩
set_option maxRecDepth 100000 in
theorem open_tup {H : Type} {enc : TypeId × Value → H} {w : World} {v : Value} {d : DataW H} {p : List MemPlace} {base : Nat} (hv : Value.okWide Tryd.prog w .any base 24 v) (h : DataW.Trod enc Tryd.prog w 0 (fun _ => true) true 24 v d p) :
    ∃ t : TupD, v = .agg #[.int .u32 (t.src.toNat : Nat), .int .u32 (t.dst.toNat : Nat), .int .i64 t.proto, .int .i64 t.sport, .int .i64 t.dport] ∧ inI t.sport ∧ inI t.dport := by
  obtain ⟨cs, rfl, _⟩ := okWide_struct Tryd.underlying24 hv
  obtain ⟨fuel, hf⟩ := h
  obtain ⟨xs, n, _, hx, hlen, hxl, hf⟩ := DataW.trod_struct Tryd.underlying24 hf
  have hl3 : (Value.agg cs).cells.toList.length = 5 := hlen.trans (by kernel_rfl)
  have hcs : (Value.agg cs).cells.toList = cs.toList := by simp [Value.cells]
  rw [hcs] at hl3 hf
  rw [← Array.toArray_toList (xs := cs)]
  generalize cs.toList = cl at *
  match cl, hl3 with
  | [c0, c1, c2, c3, c4], _ =>
    match xs, hxl with
    | [x0, x1, x2, x3, x4], _ =>
      have f0 := hf 0 _ rfl
      have f1 := hf 1 _ rfl
      have f2 := hf 2 _ rfl
      have f3 := hf 3 _ rfl
      have f4 := hf 4 _ rfl
      have k3 : Tryd.prog.cellsOf 3 = 1 := by kernel_rfl
      have k22 : Tryd.prog.cellsOf 22 = 1 := by kernel_rfl
      simp [k3, k22] at f0 f1 f2 f3 f4
      obtain ⟨a, e0, _, wa⟩ := DataW.trod_int Tryd.underlying22 f0
      obtain ⟨b, e1, _, wb⟩ := DataW.trod_int Tryd.underlying22 f1
      obtain ⟨c, e2, _, _⟩ := DataW.trod_int Tryd.underlying3 f2
      obtain ⟨d, e3, _, wd⟩ := DataW.trod_int Tryd.underlying3 f3
      obtain ⟨e, e4, _, we⟩ := DataW.trod_int Tryd.underlying3 f4
      injection e0 with e0; injection e1 with e1; injection e2 with e2; injection e3 with e3; injection e4 with e4
      subst e0 e1 e2 e3 e4
      obtain ⟨x, rfl⟩ := u32_of wa
      obtain ⟨y, rfl⟩ := u32_of wb
      exact ⟨⟨x, y, c, d, e⟩, rfl, in_of wd, in_of we⟩
theorem TupleOrder_walk {H : Type} {enc : TypeId × Value → H} {S : Prop} (W : World) (base : Nat) (v0 : Value) (d0 : DataW H) (p0 : List MemPlace) (v1 : Value) (d1 : DataW H) (p1 : List MemPlace) (v2 : Value) (d2 : DataW H) (p2 : List MemPlace)
    (hv0 : Value.okWide Tryd.prog W .any base 24 v0) (hv1 : Value.okWide Tryd.prog W .any base 24 v1) (hv2 : Value.okWide Tryd.prog W .any base 24 v2)
    (h0 : DataW.Trod enc Tryd.prog W 0 (fun _ => true) true 24 v0 d0 p0) (h1 : DataW.Trod enc Tryd.prog W 0 (fun _ => true) true 24 v1 d1 p1) (h2 : DataW.Trod enc Tryd.prog W 0 (fun _ => true) true 24 v2 d2 p2) (_ : S) (ht : PowTab W) :
    Calls Tryd.prog 3 #[v0, v1, v2] W fun e W' => e = .returned (.bool true) ∧ Below W.heap.size W W' := by
  obtain ⟨a, rfl, ia⟩ := open_tup hv0 h0
  obtain ⟨b, rfl, ib⟩ := open_tup hv1 h1
  obtain ⟨c, rfl, ic⟩ := open_tup hv2 h2
  exact (TupleOrder_any W a b c ia ib ht).mono fun e W' ⟨h, hk⟩ => ⟨h, hk.below (Nat.le_refl _) (by simp)⟩
end Go.Proofs.YtflbeipnnmeiaaaDoor
