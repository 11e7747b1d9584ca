/-
  The walk of record.backends.
-/
import Derived.Test.YtkacghjglicjiaaGreatBlk
import Derived.Outline
import Derived.Deep.RegionWith
import Derived.Deep.DeepCutAuto
import Derived.Test.YtkacghjglicjiaaGreatRecG
namespace Go.Proofs.YtkacghjglicjiaaGreat
set_option linter.unusedVariables false
section
open Go.RowKit
def setsAt : Array Value → Nat → List Value → Array Value
  | cs, _, [] => cs
  | cs, o, v :: vs => setsAt (cs.setIfInBounds o v) (o + 1) vs
theorem Blk.puts {g : Nat} {t : TypeId} : ∀ (vs : List Value) (o : Nat) (w : World) (cs : Array Value), Blk w g t cs → Blk (w.setCells g o vs) g t (setsAt cs o vs)
  | [], _, _, _, h => h
  | u :: vs, o, w, cs, h => Blk.puts vs (o + 1) (w.setCell ⟨g, o, none⟩ u) (cs.setIfInBounds o u) (h.set o u)
theorem run_storeVar_v {P : Program} (w : World) (b o : Nat) (ty : TypeId) (v : Value) (ht : w.there b o v.cells.size) (hi : (P.info? ty).map (·.size) = some v.cells.size) (h1 : v.cells.all (·.oneCell') = true) :
    (storeVar ty ⟨b, o, none⟩ v).run P w = .ok () (w.setCells b o v.cells.toList) := by
  have := run_storeCells_cells (P := P) b o v.cells.toList 0 w (fun j hj => by simpa using (ht j (by simpa using hj)).1) (fun j hj => by simpa using (ht j (by simpa using hj)).2)
    (fun u hu => (Array.all_eq_true_iff_forall_mem.1 h1) u (by simpa using hu))
  cases hq : P.info? ty with
  | none => simp [hq] at hi
  | some i =>
    have hs : v.cells.size = i.size := by simp [hq] at hi; omega
    simp only [Nat.add_zero] at this
    simp [storeVar, sizeOf, typeInfo, hq, hs, this]
theorem wp_storeV {P : Program} {op : Oper} {a : Act} {w : World} {K : Act → World → Prop} {Q : Exit → Act → World → Prop} (ty : TypeId) (x y : Operand) (ho : op.op = .store ty x y)
    (b o : Nat) (v : Value) (hx : a.eval x = .pointer (some ⟨b, o, none⟩)) (hy : a.eval y = v)
    (ht : w.there b o v.cells.size) (hi : (P.info? ty).map (·.size) = some v.cells.size) (h1 : v.cells.all (·.oneCell') = true)
    (h : K (a.put op.dst undef) (w.setCells b o v.cells.toList)) : op.wp P a w K Q := by
  unfold Oper.wp execOp
  simp only [ho, hx, hy, Instr.storeAt, Instr.sureAddr, Sem.run_bind, Sem.run_pure, Result.andThen_ok, run_storeVar_v w b o ty v ht hi h1]
  exact h
theorem wpList_putAt {P : Program} {ops : Array Oper} {rest : List Oper} {op : Oper} {a : Act} {w : World} {Q : Exit → Act → World → Prop} (hgd : op.guard = none) (ty : TypeId) (x y : Operand) (ho : op.op = .store ty x y)
    {g o : Nat} {t : TypeId} {cs0 : Array Value} {v : Value} (hx : a.eval x = .pointer (some ⟨g, o, none⟩)) (hy : a.eval y = v) (hb : Blk w g t cs0) (hs : o + v.cells.size ≤ cs0.size)
    (hi : (P.info? ty).map (·.size) = some v.cells.size) (h1 : v.cells.all (·.oneCell') = true)
    (h : ∀ w', Blk w' g t (setsAt cs0 o v.cells.toList) → Kept [g] w w' → wpList P ops Q rest (a.put op.dst undef) w') : wpList P ops Q (op :: rest) a w := by
  refine wpList_plain hgd fun _ hK => wp_storeV ty x y ho g o v hx hy (fun j hj => ?_) hi h1 (hK _ _ (h _ (hb.puts v.cells.toList o) (Kept.setCells _ _ _ _ (Kept.refl _ _))))
  rw [hb.cell (o + j), hb.frozen (o + j)]
  exact ⟨by rw [Array.getElem?_eq_getElem (by omega)]; rfl, rfl⟩
end
section
open Go.RowKit Go.ChangeShapes Go.WideShapes Go.Deep
set_option maxRecDepth 100000
set_option maxHeartbeats 3200000 in
theorem Flow_any {W w : World} {b : Nat} {bs : List UInt8} {v : Int} (hv : verB v = true) (h : RWo W b (some bs) w) :
    Calls Tryz.prog 116 #[.pointer (some ⟨b, 0, none⟩), .int .i64 v] w fun e w' => e = .returned (.tuple #[.agg #[.int .u32 ((rdR 17 1 v (some bs)).1.tup.src.toNat : Nat), .int .u32 ((rdR 17 1 v (some bs)).1.tup.dst.toNat : Nat), .int .i64 (rdR 17 1 v (some bs)).1.tup.proto, .int .i64 (rdR 17 1 v (some bs)).1.tup.sport, .int .i64 (rdR 17 1 v (some bs)).1.tup.dport, .int .i64 (rdR 17 1 v (some bs)).1.fb, .int .i64 (rdR 17 1 v (some bs)).1.fg, .int .i64 (rdR 17 1 v (some bs)).1.fs], .bool (rdR 17 1 v (some bs)).2.1]) ∧ RWo W b (rdR 17 1 v (some bs)).2.2 w' ∧ Kept [b] w w' := by
  have hk0 : Kept [b] w (w.alloc (.cells #[.int .u32 0, .int .u32 0, .int .i64 0, .int .i64 0, .int .i64 0, .int .i64 0, .int .i64 0, .int .i64 0] 41)) := (Kept.refl _ _).alloc _
  have B := Lib.hid (show Blk (w.alloc (.cells #[.int .u32 0, .int .u32 0, .int .i64 0, .int .i64 0, .int .i64 0, .int .i64 0, .int .i64 0, .int .i64 0] 41)) w.heap.size 41 #[.int .u32 0, .int .u32 0, .int .i64 0, .int .i64 0, .int .i64 0, .int .i64 0, .int .i64 0, .int .i64 0] from by (repeat (first | (apply Blk.new'; simp; done) | apply Blk.alloc | apply Blk.drew)))
  have R := Lib.hid (h.go ((Kept.refl [] w).alloc (.cells #[.int .u32 0, .int .u32 0, .int .i64 0, .int .i64 0, .int .i64 0, .int .i64 0, .int .i64 0, .int .i64 0] 41)))
  have hb := h.lt
  have K := Lib.hid hk0
  clear h hk0
  have hv13 : v = 1 ∨ v = 2 ∨ v = 3 := by simp [verB] at hv; omega
  obtain ⟨T, ok, hT⟩ : ∃ T ok, rdT (some bs) = (T, ok) := ⟨_, _, rfl⟩
  obtain ⟨o1, ho1⟩ : ∃ o1, nk (some bs) 13 = o1 := ⟨_, rfl⟩
  obtain ⟨f1, hf1⟩ : ∃ f1 : Nat, gk o1 2 = f1 := ⟨_, rfl⟩
  obtain ⟨f2, hf2⟩ : ∃ f2 : Nat, gk (nk o1 2) 4 = f2 := ⟨_, rfl⟩
  obtain ⟨f3, hf3⟩ : ∃ f3 : Int, wrap64 (gk (nk (nk o1 2) 4) 8 : Nat) = f3 := ⟨_, rfl⟩
  have l2 := gk_lt (nk o1 2) 4
  rw [hf2] at l2
  have hw2 : IntKind.i64.wrap (f2 : Int) = (f2 : Int) := IntWalk.i64_in _ (by omega)
  have hq : ∃ x, rdR 17 1 v (some bs) = x ∧ ((v = 1 ∧ x = ({ (default : RecD) with kind := 1, tup := T, fb := f1 }, ok, nk o1 2)) ∨ (v = 2 ∧ x = ({ (default : RecD) with kind := 1, tup := T, fb := f1, fg := f2 }, ok, nk (nk o1 2) 4)) ∨ (v = 3 ∧ x = ({ (default : RecD) with kind := 1, tup := T, fb := f1, fg := f2, fs := f3 }, ok, nk (nk (nk o1 2) 4) 8))) := by
    rcases hv13 with rfl | rfl | rfl <;> simp [rdR, hT, ho1, hf1, hf2, hf3, default]
  obtain ⟨x, hx, hq⟩ := hq
  rw [hx]
  have ET := Lib.hid hT
  have E1 := Lib.hid ho1
  have E2 := Lib.hid hf1
  have E3 := Lib.hid hf2
  have E4 := Lib.hid hf3
  clear hT ho1 hf1 hf2 hf3 hx hv hv13 l2
  rcases hq with ⟨hv', hx⟩ | ⟨hv', hx⟩ | ⟨hv', hx⟩
  all_goals
    have HX := Lib.hid hx
    first
      | (have q2 : ¬ 2 ≤ v := by omega)
      | (have q2 : 2 ≤ v := by omega)
    first
      | (have q3 : ¬ 3 ≤ v := by omega)
      | (have q3 : 3 ≤ v := by omega)
    clear hv' hx
    go_enter Tryz.func116, Tryz.ntmps116
    go_upto_region 2 with (first
      | (go_at_call 117
         go_must (refine (TRead_any R.out).mono ?_)
         go_must (rintro e w1 ⟨rfl, h1, k1⟩)
         go_must (rw [ET.out])
         go_must (dsimp only)
         go_must (rw [E1.out] at h1)
         go_must (have B := Lib.hid (B.out.kept k1 (by simp; omega)))
         go_must (have hb1 := h1.lt)
         go_must (have R := Lib.hid h1)
         go_must (have K := Lib.hid (K.out.trans k1 (by simp)))
         go_must (clear h1 k1)))
    go_cut [8] (fun p wx => ∃ g, p = .pointer (some ⟨g, 0, none⟩) ∧ Blk wx g 41 #[.int .u32 (T.src.toNat : Nat), .int .u32 (T.dst.toNat : Nat), .int .i64 T.proto, .int .i64 T.sport, .int .i64 T.dport, .int .i64 f1, .int .i64 0, .int .i64 0] ∧ Blk wx w.heap.size 41 #[.int .u32 0, .int .u32 0, .int .i64 0, .int .i64 0, .int .i64 0, .int .i64 0, .int .i64 0, .int .i64 0] ∧ w.heap.size < g ∧ RWo W b (nk o1 2) wx ∧ Kept [b] w wx)
    case first =>
      have X0 := Lib.hid (show Blk (w1.alloc (.cells #[.int .u32 (T.src.toNat : Nat), .int .u32 (T.dst.toNat : Nat), .int .i64 T.proto, .int .i64 T.sport, .int .i64 T.dport] 39)) w1.heap.size 39 #[.int .u32 (T.src.toNat : Nat), .int .u32 (T.dst.toNat : Nat), .int .i64 T.proto, .int .i64 T.sport, .int .i64 T.dport] from by (repeat (first | (apply Blk.new'; simp; done) | apply Blk.alloc | apply Blk.drew)))
      have hw1 := B.out.lt
      go_region_held3 (fun w' => ∀ o, w'.cell? ⟨w1.heap.size, o, none⟩ = (#[.int .u32 (T.src.toNat : Nat), .int .u32 (T.dst.toNat : Nat), .int .i64 T.proto, .int .i64 T.sport, .int .i64 T.dport] : Array Value)[o]?) (exact Blk.cell (g := w1.heap.size) (t := 39) (by repeat (first | with_reducible exact X.out | with_reducible exact X0.out | with_reducible apply Blk.alloc | with_reducible apply Blk.drew | (with_reducible refine Blk.far ?_ (by simp <;> omega) _))))
        (first
         | (go_at_call 113
            go_must (refine (DU16 (R.out.go (by (repeat (first | exact Kept.refl _ _ | apply Kept.alloc | apply Kept.drew))))).mono ?_)
            go_must (rintro e w2 ⟨rfl, h1, k1⟩)
            go_must (rw [E2.out])
            go_must (have hb2 := h1.lt)
            first
              | (have kA : Kept [b] ((w1.alloc (.cells #[.int .u32 (T.src.toNat : Nat), .int .u32 (T.dst.toNat : Nat), .int .i64 T.proto, .int .i64 T.sport, .int .i64 T.dport] 39)).alloc (.cells #[.int .u32 0, .int .u32 0, .int .i64 0, .int .i64 0, .int .i64 0, .int .i64 0, .int .i64 0, .int .i64 0] 41)).drew w2 := by with_reducible exact k1
                 have hbA : b < w1.heap.size := hb1
                 have kB : Kept [] w1 ((w1.alloc (.cells #[.int .u32 (T.src.toNat : Nat), .int .u32 (T.dst.toNat : Nat), .int .i64 T.proto, .int .i64 T.sport, .int .i64 T.dport] 39)).alloc (.cells #[.int .u32 0, .int .u32 0, .int .i64 0, .int .i64 0, .int .i64 0, .int .i64 0, .int .i64 0, .int .i64 0] 41)).drew := by (repeat (first | exact Kept.refl _ _ | apply Kept.alloc | apply Kept.drew))
                 have kC := ((Kept.refl [b] w1).trans kB (by simp)).trans kA (by simp)
                 have X := Lib.hid (Blk.kept (g := w1.heap.size) (t := 39) (cs := #[.int .u32 (T.src.toNat : Nat), .int .u32 (T.dst.toNat : Nat), .int .i64 T.proto, .int .i64 T.sport, .int .i64 T.dport]) (by (repeat (first | (apply Blk.new'; simp; done) | apply Blk.alloc | apply Blk.drew))) kA (by simp; omega))
                 have F := Lib.hid (Blk.kept (g := w1.heap.size + 1) (t := 41) (cs := #[.int .u32 0, .int .u32 0, .int .i64 0, .int .i64 0, .int .i64 0, .int .i64 0, .int .i64 0, .int .i64 0]) (by (repeat (first | (apply Blk.new'; simp; done) | apply Blk.alloc | apply Blk.drew))) kA (by simp; omega))
                 have hcF := F.out.cell
                 have hfF := F.out.frozen
                 have hsF := F.out.lt)
              | (have kA : Kept [b] (w1.alloc (.cells #[.int .u32 (T.src.toNat : Nat), .int .u32 (T.dst.toNat : Nat), .int .i64 T.proto, .int .i64 T.sport, .int .i64 T.dport] 39)).drew w2 := by with_reducible exact k1
                 have kB : Kept [] w1 (w1.alloc (.cells #[.int .u32 (T.src.toNat : Nat), .int .u32 (T.dst.toNat : Nat), .int .i64 T.proto, .int .i64 T.sport, .int .i64 T.dport] 39)).drew := by (repeat (first | exact Kept.refl _ _ | apply Kept.alloc | apply Kept.drew))
                 have kC := ((Kept.refl [b] w1).trans kB (by simp)).trans kA (by simp)
                 have X := Lib.hid (Blk.kept (g := w1.heap.size) (t := 39) (cs := #[.int .u32 (T.src.toNat : Nat), .int .u32 (T.dst.toNat : Nat), .int .i64 T.proto, .int .i64 T.sport, .int .i64 T.dport]) (by (repeat (first | (apply Blk.new'; simp; done) | apply Blk.alloc | apply Blk.drew))) kA (by simp; omega))
                 have F := Lib.hid (Blk.new w2 41 #[.int .u32 0, .int .u32 0, .int .i64 0, .int .i64 0, .int .i64 0, .int .i64 0, .int .i64 0, .int .i64 0])
                 have hcF := F.out.cell
                 have hfF := F.out.frozen
                 have hsF := X.out.lt)
            go_must (have B := Lib.hid (B.out.kept kC (by simp; omega)))
            go_must (have R := Lib.hid h1)
            go_must (have K := Lib.hid (K.out.trans kC (by simp)))
            go_must (clear h1 k1 kA kB kC)))
      all_goals
        go_wp2
        go_meet
        case rel =>
          have hBl := B.out.lt
          have hk9 : Kept [w1.heap.size + 1] w2 (w2.setCells (w1.heap.size + 1) 0 [.int .u32 (T.src.toNat : Nat), .int .u32 (T.dst.toNat : Nat), .int .i64 T.proto, .int .i64 T.sport, .int .i64 T.dport, .int .i64 f1, .int .i64 0, .int .i64 0]) := Kept.setCells _ _ _ _ (Kept.refl _ _)
          first
            | (with_reducible exact ⟨_, rfl, Blk.new _ _ _, B.out.alloc _, hBl, R.out.go ((Kept.refl _ _).alloc _), K.out.alloc _⟩)
            | (exact ⟨w1.heap.size + 1, rfl, F.out.puts [.int .u32 (T.src.toNat : Nat), .int .u32 (T.dst.toNat : Nat), .int .i64 T.proto, .int .i64 T.sport, .int .i64 T.dport, .int .i64 f1, .int .i64 0, .int .i64 0] 0, B.out.kept hk9 (by simp; omega), by omega, R.out.other hk9 (by simp; omega), K.out.trans hk9 (fun i hi => .inr (by simp at hi; omega))⟩)
    case rest =>
      obtain ⟨g, rfl, hX, hB, hg, hR, hK⟩ := hcut
      have hbw := hR.lt
      have X := Lib.hid hX
      have B := Lib.hid hB
      have R := Lib.hid hR
      have K := Lib.hid hK
      have hcx := hX.cell
      have hgb : b < g := by omega
      clear hX hB hR hK
      go_wp2_with (first
        | (go_at_call 114
           go_must (refine (DU32 R.out).mono ?_)
           go_must (rintro e w7 ⟨rfl, h1, k1⟩)
           go_must (rw [E3.out])
           go_must (clear hcx)
           go_must (have X := Lib.hid (X.out.kept k1 (by simp; omega)))
           go_must (have B := Lib.hid (B.out.kept k1 (by simp; omega)))
           go_must (have hb7 := h1.lt)
           go_must (have R := Lib.hid h1)
           go_must (have K := Lib.hid (K.out.trans k1 (by simp)))
           go_must (clear h1 k1))
        | (with_reducible show wpList _ _ _ ({ dst := none, op := Op.store 3 (.tmp 23) (.tmp 22), type := _, pos := _, after := _, guard := _ } :: _) _ _
           go_must (refine wpList_putAt (t := 41) (v := .int .i64 (f2 : Nat)) rfl 3 (.tmp 23) (.tmp 22) rfl (by rfl) (by rfl) X.out (by simp [Value.cells]) (by kernel_rfl) (by simp [Value.cells, Value.oneCell']) ?_)
           go_must (intro w8 h1 k1)
           go_must (have X := Lib.hid (show Blk w8 (g) 41 #[.int .u32 (T.src.toNat : Nat), .int .u32 (T.dst.toNat : Nat), .int .i64 T.proto, .int .i64 T.sport, .int .i64 T.dport, .int .i64 f1, .int .i64 f2, .int .i64 0] from h1))
           go_must (have B := Lib.hid (B.out.kept k1 (by simp; omega)))
           go_must (have R := Lib.hid (R.out.other k1 (by simp; omega)))
           go_must (have hb8 := R.out.lt)
           go_must (have K := Lib.hid (K.out.trans k1 (fun i hi => .inr (by simp at hi; omega))))
           go_must (clear h1 k1)
           go_must (have hcx := X.out.cell))
        | (go_at_call 119
           go_must (refine (DI64 R.out).mono ?_)
           go_must (rintro e w10 ⟨rfl, h1, k1⟩)
           go_must (rw [E4.out])
           go_must (clear hcx)
           go_must (have X := Lib.hid (X.out.kept k1 (by simp; omega)))
           go_must (have B := Lib.hid (B.out.kept k1 (by simp; omega)))
           go_must (have hb10 := h1.lt)
           go_must (have R := Lib.hid h1)
           go_must (have K := Lib.hid (K.out.trans k1 (by simp)))
           go_must (clear h1 k1))
        | (with_reducible show wpList _ _ _ ({ dst := none, op := Op.store 2 (.tmp 28) (.tmp 27), type := _, pos := _, after := _, guard := _ } :: _) _ _
           go_must (refine wpList_putAt (t := 41) (v := .int .i64 f3) rfl 2 (.tmp 28) (.tmp 27) rfl (by rfl) (by rfl) X.out (by simp [Value.cells]) (by kernel_rfl) (by simp [Value.cells, Value.oneCell']) ?_)
           go_must (intro w11 h1 k1)
           go_must (have X := Lib.hid (show Blk w11 (g) 41 #[.int .u32 (T.src.toNat : Nat), .int .u32 (T.dst.toNat : Nat), .int .i64 T.proto, .int .i64 T.sport, .int .i64 T.dport, .int .i64 f1, .int .i64 f2, .int .i64 f3] from h1))
           go_must (have B := Lib.hid (B.out.kept k1 (by simp; omega)))
           go_must (have R := Lib.hid (R.out.other k1 (by simp; omega)))
           go_must (have hb11 := R.out.lt)
           go_must (have K := Lib.hid (K.out.trans k1 (fun i hi => .inr (by simp at hi; omega))))
           go_must (clear h1 k1)
           go_must (have hcx := X.out.cell))
        | ((with_reducible show wpList _ _ _ ({ dst := none, op := Op.store 41 (.tmp 4) (.tmp 29), type := _, pos := _, after := _, guard := _ } :: _) _ _); refine wpList_put (t := 41) rfl 41 (.tmp 4) (.tmp 29) rfl _ (by rfl) (by rfl) (by exact B.out) (by rfl) (by kernel_rfl) (by simp [Value.oneCell']) ?_; intro w9 hb9 hk9; have Hb9 := Lib.hid hb9; have Hk9 := Lib.hid hk9; clear hb9 hk9))
      refine bodyPost_ret (results_cell1 (t := 41) Tryz.results116 (by rfl) Hb9.out _ Tryz.underlying41 rfl (by kernel_rfl)) rfl ?_
      rw [HX.out]
      exact ⟨rfl, R.out.other Hk9.out (by simp; omega), K.out.trans Hk9.out (fun i hi => .inr (by simp at hi; omega))⟩
end
section
open Go.RowKit Go.ChangeShapes Go.WideShapes Go.Deep
set_option maxRecDepth 100000
def BkO (W W0 w : World) (sl : Value) (l : List BackD) : Prop := ∃ css, LVx BkDec 78 3 W w sl l css [] ∧ ∀ k ∈ rowOf sl, W0.heap.size ≤ k
section
variable {W W0 w w' : World} {sl : Value} {l : List BackD}
theorem BkO.nil (hk : Kept [] W w) : BkO W W0 w (.slice none 0 0) [] := ⟨[], ⟨Own.nil _ _ _, by simp [rowOf, Value.ownBlock], Decs.nil, by simp, hk⟩, by simp [rowOf, Value.ownBlock]⟩
theorem BkO.form (h : BkO W W0 w sl l) : ∃ A m c, sl = .slice A m c := by obtain ⟨_, h, _⟩ := h; exact Own.form' h.own
theorem BkO.len (h : BkO W W0 w sl l) : ∃ A c, sl = .slice A l.length c := by obtain ⟨_, h, _⟩ := h; obtain ⟨A, c, e, _⟩ := h.own.form; exact ⟨A, c, e⟩
theorem BkO.bk (h : BkO W W0 w sl l) : BkV W w sl l := by obtain ⟨css, h, _⟩ := h; exact ⟨css, [], h⟩
theorem BkO.row (h : BkO W W0 w sl l) : ∀ k ∈ rowOf sl, W0.heap.size ≤ k := by obtain ⟨_, _, h⟩ := h; exact h
theorem BkO.other {S : List Nat} (h : BkO W W0 w sl l) (hk : Kept S w w') (hS : ∀ k ∈ S, k < W0.heap.size ∧ W.heap.size ≤ k) : BkO W W0 w' sl l := by
  obtain ⟨css, h1, h2⟩ := h
  exact ⟨css, h1.other BkOk hk (fun k hk' hm => by have := h2 k hk'; have := (hS k hm).1; omega) (by simp) (fun k hk' => (hS k hk').2), h2⟩
theorem BkO.go (h : BkO W W0 w sl l) (hk : Kept [] w w') : BkO W W0 w' sl l := h.other hk (by simp)
theorem BkO.far {g : Nat} {t : TypeId} {cs : Array Value} (h : BkO W W0 w sl l) (hk : Kept [g] w w') (hb : Blk w g t cs) (ht : 78 ≠ t) (hg : W.heap.size ≤ g) : BkO W W0 w' sl l := by
  obtain ⟨css, h1, h2⟩ := h
  exact ⟨css, h1.other BkOk hk (fun k hk' hm => by simp at hm; subst hm; exact h1.own.ne_blk hb ht hk') (by simp) (fun k hk' => by simp at hk'; omega), h2⟩
theorem BkO.farG {g : Nat} (h : BkO W W0 w sl l) (hk : Kept [g] w w') (hg : g ∉ rowOf sl) (hW : W.heap.size ≤ g) : BkO W W0 w' sl l := by
  obtain ⟨css, h1, h2⟩ := h
  exact ⟨css, h1.other BkOk hk (fun k hk' hm => by simp at hm; subst hm; exact hg hk') (by simp) (fun k hk' => by simp at hk'; omega), h2⟩
theorem BkO.lt (h : BkO W W0 w sl l) : ∀ k ∈ rowOf sl, k < w.heap.size := by obtain ⟨_, h, _⟩ := h; exact h.own.lt
theorem BkO.cast {l' : List BackD} (h : BkO W W0 w sl l) (e : l = l') : BkO W W0 w sl l' := e ▸ h
end
theorem wpList_bk {ops : Array Oper} {rest : List Oper} {o : Oper} {a : Act} {Q : Exit → Act → World → Prop} {w0 : World} (hgd : o.guard = none) (s x : Operand)
    (ho : o.op = .call { callee := .builtin .append, args := #[s, x], argTypes := #[22, 22] }) {W W0 : World} {sl : Value} {l : List BackD} {bk : BackD} {g : Nat} (hg : g = w0.heap.size) (hW0 : W0.heap.size ≤ w0.heap.size)
    (hs : a.eval s = sl) (hN : BkO W W0 w0 sl l) (hx : a.eval x = .slice (some ⟨g, 0, none⟩) 1 1) (hl : l.length ≤ 1000000)
    (h : ∀ A m c w', BkO W W0 w' (.slice A m c) (l ++ [bk]) → Kept (rowOf sl) w0 w' → wpList Tryz.prog ops Q rest (a.put o.dst (.slice A m c)) w') : wpList Tryz.prog ops Q (o :: rest) a (w0.alloc (.cells #[.int .i64 bk.id, .int .u32 (bk.addr.toNat : Nat), .int .i64 bk.weight] 78)) := by
  subst hg
  obtain ⟨css, h1, h2⟩ := hN
  have ha := h1.go BkOk ((Kept.refl [] w0).alloc (.cells #[.int .i64 bk.id, .int .u32 (bk.addr.toNat : Nat), .int .i64 bk.weight] 78))
  refine wpList_app _ hgd s x 22 ho elem_back hs ha.own hx (Rd.laid w0 [.int .i64 bk.id, .int .u32 (bk.addr.toNat : Nat), .int .i64 bk.weight] _) rfl (by simp [Value.oneCell']) (by unfold maxLen; omega) (by omega) (fun v' w' ho' hk hr => ?_)
  have hx := LVx.app BkOk ha (Kept.refl [] _) (css' := [[.int .i64 bk.id, .int .u32 (bk.addr.toNat : Nat), .int .i64 bk.weight]]) (l' := [bk]) (G' := []) (Decs.one' rfl) (by simp) ho' (by simp) (by simp) hk hr
  obtain ⟨A, m, c, rfl⟩ := Own.form' ho'
  refine h A m c w' ⟨_, hx, fun k hk' => ?_⟩ (((Kept.refl (rowOf sl) w0).alloc _).trans hk (fun i hi => .inl hi))
  rcases hr k hk' with h3 | h3
  · exact h2 k h3
  · have : w0.heap.size ≤ (w0.alloc (.cells #[.int .i64 bk.id, .int .u32 (bk.addr.toNat : Nat), .int .i64 bk.weight] 78)).heap.size := by simp
    omega
set_option maxHeartbeats 6400000 in
theorem Backends_any {W w : World} {b : Nat} {o : Option (List UInt8)} {v : Int} (h : RWo W b o w) :
    Calls Tryz.prog 118 #[.pointer (some ⟨b, 0, none⟩), .int .i64 v] w fun e w' => ∃ sl, e = .returned sl ∧ BkO W w w' sl (rdBs v (min (gk o 1) 17) (nk o 1)).1 ∧ RWo W b (rdBs v (min (gk o 1) 17) (nk o 1)).2 w' ∧ Kept [b] w w' := by
  have hb := h.lt
  have hge := h.ge
  have R := Lib.hid h
  have K := Lib.hid (Kept.refl [b] w)
  clear h
  obtain ⟨n8, hn8⟩ : ∃ n8, gk o 1 = n8 := ⟨_, rfl⟩
  obtain ⟨o1, ho1⟩ : ∃ o1, nk o 1 = o1 := ⟨_, rfl⟩
  have hl8 := gk_lt o 1
  rw [hn8] at hl8 ⊢
  rw [ho1]
  have E8 := Lib.hid hn8
  have EO := Lib.hid ho1
  clear hn8 ho1
  obtain ⟨n, hn⟩ : ∃ n, min n8 17 = n := ⟨_, rfl⟩
  have hn17 : n ≤ 17 := by omega
  rw [hn]
  have hq : (2 ≤ v ∧ n8 ≤ 17) ∨ (2 ≤ v ∧ 17 < n8) ∨ (¬ 2 ≤ v ∧ n8 ≤ 17) ∨ (¬ 2 ≤ v ∧ 17 < n8) := by omega
  rcases hq with ⟨q2, h17⟩ | ⟨q2, h17⟩ | ⟨q2, h17⟩ | ⟨q2, h17⟩
  all_goals
    first
      | (have e8 : n = n8 := by omega
         subst e8
         have i17 : (n : Int) ≤ 17 := by omega)
      | (have i17 : (17 : Int) < n8 := by omega
         have hB := Lib.hid (show n = 17 by omega))
    clear hn h17
    go_enter Tryz.func118, Tryz.ntmps118
    go_wp2_with (first
      | (go_at_call 112
         go_must (refine (DU8 R.out).mono ?_)
         go_must (rintro e w1 ⟨rfl, h1, k1⟩)
         go_must (rw [E8.out]; rw [EO.out] at h1)
         go_must (have hb1 := h1.lt)
         go_must (have R := Lib.hid h1)
         go_must (have K := Lib.hid (K.out.trans k1 (by simp)))
         go_must (clear h1 k1)))
    go_loopg [5, 10] n (fun g sl i wr => ∃ k : Nat, k ≤ n ∧ g = n - k ∧ i = .int .i64 k ∧ BkO W w wr sl (rdBs v k o1).1 ∧ RWo W b (rdBs v k o1).2 wr ∧ Kept [b] w wr)
    case atStart => exact ⟨0, by omega, by omega, rfl, BkO.nil R.out.kept, R.out, K.out⟩
    case round =>
      obtain ⟨k, hk, rfl, rfl, hS, hR, hK⟩ := hrel
      have S := Lib.hid hS
      have R := Lib.hid hR
      have K := Lib.hid hK
      clear hS hR hK
      have hlen := Lib.hid (rdBs_len v o1 k)
      have hnx := Lib.hid (show rdBs v (k + 1) o1 = ((rdBs v k o1).1 ++ [(rdB v (rdBs v k o1).2).1], (rdB v (rdBs v k o1).2).2) from rfl)
      obtain ⟨A0, m0, c0, rfl⟩ := S.out.form
      by_cases hlt : k < n
      · obtain ⟨lk, hlk⟩ : ∃ lk, (rdBs v k o1).1 = lk := ⟨_, rfl⟩
        obtain ⟨oq, hoq⟩ : ∃ oq, (rdBs v k o1).2 = oq := ⟨_, rfl⟩
        obtain ⟨bk, hbk⟩ : ∃ bk, (rdB v oq).1 = bk := ⟨_, rfl⟩
        have S := Lib.hid (hlk ▸ S.out)
        have R := Lib.hid (hoq ▸ R.out)
        have hlen := hlen.out
        rw [hlk] at hlen
        have hnx := Lib.hid (show rdBs v (k + 1) o1 = (lk ++ [bk], (rdB v oq).2) by rw [hnx.out, hlk, hoq, hbk])
        have E1 := Lib.hid (show ((gk oq 2 : Nat) : Int) = bk.id by rw [← hbk]; rfl)
        have E2 := Lib.hid (show ((gk (nk oq 2) 4 : Nat) : Int) = (bk.addr.toNat : Nat) by rw [← hbk]; simp only [rdB, gad_nat])
        have E3 := Lib.hid (show 2 ≤ v → ((gk (nk (nk oq 2) 4) 1 : Nat) : Int) = bk.weight by intro h; rw [← hbk]; simp only [rdB, if_pos h])
        have E4 := Lib.hid (show ¬ 2 ≤ v → bk.weight = 1 by intro h; rw [← hbk]; simp only [rdB, if_neg h])
        have E5 := Lib.hid (show (rdB v oq).2 = if 2 ≤ v then nk (nk (nk oq 2) 4) 1 else nk (nk oq 2) 4 from rfl)
        clear hlk hoq hbk
        have i0 : (0 : Int) ≤ (k : Int) := by omega
        first
          | (have i1 : (k : Int) < (17 : Int) := by have := hB.out; omega)
          | (have i1 : (k : Int) < (n : Int) := by omega)
        go_wp2_with (first
          | (go_at_call 113
             go_must (refine (DU16 R.out).mono ?_)
             go_must (rintro e w1 ⟨rfl, h1, k1⟩)
             go_must (rw [E1.out])
             go_must (have S := Lib.hid (S.out.other k1 (by simp; omega)))
             go_must (have K := Lib.hid (K.out.trans k1 (by simp)))
             go_must (have hb1 := h1.lt)
             go_must (have R := Lib.hid h1)
             go_must (have hsz1 := K.out.size)
             go_must (clear h1 k1))
          | (go_at_call 114
             go_must (refine (DU32 R.out).mono ?_)
             go_must (rintro e w2 ⟨rfl, h1, k1⟩)
             go_must (rw [E2.out])
             go_must (have S := Lib.hid (S.out.other k1 (by simp; omega)))
             go_must (have K := Lib.hid (K.out.trans k1 (by simp)))
             go_must (have hb2 := h1.lt)
             go_must (have R := Lib.hid h1)
             go_must (have hsz2 := K.out.size)
             go_must (clear h1 k1))
          | (go_at_call 112
             go_must (refine (DU8 (R.out.go ((Kept.refl [] _).alloc _))).mono ?_)
             go_must (rintro e w4 ⟨rfl, h1, k1⟩)
             go_must (rw [E3.out q2])
             go_must (have hk6 := (Kept.refl [] w2).alloc (.cells #[.int .i64 bk.id, .int .u32 (bk.addr.toNat : Nat), .int .i64 1] 78))
             go_must (have X := Lib.hid ((show Blk (w2.alloc (.cells #[.int .i64 bk.id, .int .u32 (bk.addr.toNat : Nat), .int .i64 1] 78)) w2.heap.size 78 #[.int .i64 bk.id, .int .u32 (bk.addr.toNat : Nat), .int .i64 1] from by (repeat (first | (apply Blk.new'; simp; done) | apply Blk.alloc | apply Blk.drew))).kept k1 (by simp; omega)))
             go_must (have hg6 : w2.heap.size ∉ rowOf (.slice A0 m0 c0) := fun hm => Nat.lt_irrefl _ (S.out.lt _ hm))
             go_must (have S := Lib.hid ((S.out.go hk6).other k1 (by simp; omega)))
             go_must (have K := Lib.hid ((K.out.trans hk6 (by simp)).trans k1 (by simp)))
             go_must (clear hk6)
             go_must (have hlt3 := X.out.lt)
             go_must (have hb4 := h1.lt)
             go_must (have R := Lib.hid h1)
             go_must (have hsz4 := K.out.size)
             go_must (clear h1 k1))
          | (with_reducible show wpList _ _ _ ({ dst := none, op := Op.store 3 (.tmp 21) (.tmp 20), type := _, pos := _, after := _, guard := _ } :: _) _ _
             go_must (refine wpList_putAt (t := 78) (v := .int .i64 bk.weight) rfl 3 (.tmp 21) (.tmp 20) rfl (by rfl) (by rfl) X.out (by simp [Value.cells]) (by kernel_rfl) (by simp [Value.cells, Value.oneCell']) ?_)
             go_must (intro w5 h1 k1)
             go_must (have X := Lib.hid (show Blk w5 w2.heap.size 78 #[.int .i64 bk.id, .int .u32 (bk.addr.toNat : Nat), .int .i64 bk.weight] from h1))
             go_must (have S := Lib.hid (S.out.farG k1 hg6 (by omega)))
             go_must (have R := Lib.hid (R.out.other k1 (by simp; omega)))
             go_must (have K := Lib.hid (K.out.trans k1 (fun i hi => .inr (by simp at hi; omega))))
             go_must (have hb5 := R.out.lt)
             go_must (have hsz5 := K.out.size)
             go_must (have hcx := X.out.cell)
             go_must (clear h1 k1))
          | (at_builtin
             go_must (first | (refine wpList_bk (W0 := w) (w0 := w5) (bk := bk) rfl (.tmp 22) (.tmp 24) rfl rfl hsz5 rfl S.out (by rfl) (by omega) ?_; intro A9 m9 c9 w9 h1 k1) | (refine wpList_bk (W0 := w) (w0 := w2.alloc (.cells #[.int .i64 bk.id, .int .u32 (bk.addr.toNat : Nat), .int .i64 1] 78)) (bk := ⟨bk.id, bk.addr, 1⟩) (g := w2.heap.size + 1) rfl (.tmp 22) (.tmp 24) rfl (by simp) (by simp; omega) rfl (S.out.go ((Kept.refl [] w2).alloc _)) (by rfl) (by omega) ?_; intro A9 m9 c9 w9 h1 k0; have k1 := ((Kept.refl (rowOf (.slice A0 m0 c0)) w2).alloc (.cells #[.int .i64 bk.id, .int .u32 (bk.addr.toNat : Nat), .int .i64 1] 78)).trans k0 (fun i hi => .inl hi); clear k0; have h1 := h1.cast (show lk ++ [(⟨bk.id, bk.addr, 1⟩ : BackD)] = lk ++ [bk] by rw [← E4.out (by omega)])))
             go_must (have hrw := S.out.row)
             go_must (have R := Lib.hid (R.out.other k1 (fun k hk => by have := hrw k hk; omega)))
             go_must (have K := Lib.hid (K.out.trans k1 (fun i hi => .inr (hrw i hi))))
             go_must (have S := Lib.hid h1)
             go_must (clear h1 k1 hrw)))
        go_roundg (n - (k + 1))
        case measure => omega
        case rel => exact ⟨k + 1, by omega, rfl, by go_num, S.out.cast (by rw [hnx.out]), by have hr := R.out; rw [hnx.out]; dsimp only; rw [E5.out]; first | (rw [if_pos q2]; exact hr) | (rw [if_neg (by omega)]; exact hr), K.out⟩
      · obtain rfl : k = n := by omega
        first
          | (have i1 : ¬ (k : Int) < (17 : Int) := by have := hB.out; omega)
          | (have i1 : ¬ (k : Int) < (k : Int) := by omega)
        go_wp2
        go_ret
        exact ⟨_, rfl, S.out, R.out, K.out⟩
end
end Go.Proofs.YtkacghjglicjiaaGreat
