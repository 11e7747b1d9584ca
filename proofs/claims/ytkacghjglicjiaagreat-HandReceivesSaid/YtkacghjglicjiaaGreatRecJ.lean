/-
  The walk of record.read.
-/
import Derived.Test.YtkacghjglicjiaaGreatRecI
namespace Go.Proofs.YtkacghjglicjiaaGreat
set_option linter.unusedVariables false
section
open Go.RowKit Go.ChangeShapes Go.WideShapes Go.Deep
set_option maxRecDepth 100000
set_option maxHeartbeats 6400000 in
set_option maxRecDepth 100000 in
theorem Read_1 {W w : World} {b : Nat} {bs : List UInt8} {k v : Int} (hv : verB v = true)  (h : RWo W b (some bs) w) :
    Calls Tryz.prog 72 #[.pointer (some ⟨b, 0, none⟩), .int .i64 (1), .int .i64 v] w fun e w' => ∃ sl, e = .returned (.tuple #[.agg #[.int .i64 (rdR 17 (1) v (some bs)).1.kind, .int .u32 ((rdR 17 (1) v (some bs)).1.tup.src.toNat : Nat), .int .u32 ((rdR 17 (1) v (some bs)).1.tup.dst.toNat : Nat), .int .i64 (rdR 17 (1) v (some bs)).1.tup.proto, .int .i64 (rdR 17 (1) v (some bs)).1.tup.sport, .int .i64 (rdR 17 (1) v (some bs)).1.tup.dport, .int .i64 (rdR 17 (1) v (some bs)).1.fb, .int .i64 (rdR 17 (1) v (some bs)).1.fg, .int .i64 (rdR 17 (1) v (some bs)).1.fs, .int .i64 (rdR 17 (1) v (some bs)).1.gen, sl, .int .i64 (rdR 17 (1) v (some bs)).1.back, .int .i64 (rdR 17 (1) v (some bs)).1.until_, .int .i64 (rdR 17 (1) v (some bs)).1.count], .bool (rdR 17 (1) v (some bs)).2.1]) ∧ BkV W w' sl (rdR 17 (1) v (some bs)).1.backs ∧ RWo W b (rdR 17 (1) v (some bs)).2.2 w' ∧ Kept [b] w w' := by
  have hk0 : Kept [] w ((w.alloc (.cells #[.int .i64 0, .int .u32 0, .int .u32 0, .int .i64 0, .int .i64 0, .int .i64 0, .int .i64 0, .int .i64 0, .int .i64 0, .int .i64 0, .slice none 0 0, .int .i64 0, .int .i64 0, .int .i64 0] 43)).alloc (.cells #[.int .i64 1, .int .u32 0, .int .u32 0, .int .i64 0, .int .i64 0, .int .i64 0, .int .i64 0, .int .i64 0, .int .i64 0, .int .i64 0, .slice none 0 0, .int .i64 0, .int .i64 0, .int .i64 0] 43)) := by (repeat (first | exact Kept.refl _ _ | apply Kept.alloc | apply Kept.drew))
  have B := Lib.hid (show Blk ((w.alloc (.cells #[.int .i64 0, .int .u32 0, .int .u32 0, .int .i64 0, .int .i64 0, .int .i64 0, .int .i64 0, .int .i64 0, .int .i64 0, .int .i64 0, .slice none 0 0, .int .i64 0, .int .i64 0, .int .i64 0] 43)).alloc (.cells #[.int .i64 1, .int .u32 0, .int .u32 0, .int .i64 0, .int .i64 0, .int .i64 0, .int .i64 0, .int .i64 0, .int .i64 0, .int .i64 0, .slice none 0 0, .int .i64 0, .int .i64 0, .int .i64 0] 43)) w.heap.size 43 #[.int .i64 0, .int .u32 0, .int .u32 0, .int .i64 0, .int .i64 0, .int .i64 0, .int .i64 0, .int .i64 0, .int .i64 0, .int .i64 0, .slice none 0 0, .int .i64 0, .int .i64 0, .int .i64 0] from by (repeat (first | (apply Blk.new'; simp; done) | apply Blk.alloc | apply Blk.drew)))
  have X := Lib.hid (show Blk ((w.alloc (.cells #[.int .i64 0, .int .u32 0, .int .u32 0, .int .i64 0, .int .i64 0, .int .i64 0, .int .i64 0, .int .i64 0, .int .i64 0, .int .i64 0, .slice none 0 0, .int .i64 0, .int .i64 0, .int .i64 0] 43)).alloc (.cells #[.int .i64 1, .int .u32 0, .int .u32 0, .int .i64 0, .int .i64 0, .int .i64 0, .int .i64 0, .int .i64 0, .int .i64 0, .int .i64 0, .slice none 0 0, .int .i64 0, .int .i64 0, .int .i64 0] 43)) (w.heap.size + 1) 43 #[.int .i64 1, .int .u32 0, .int .u32 0, .int .i64 0, .int .i64 0, .int .i64 0, .int .i64 0, .int .i64 0, .int .i64 0, .int .i64 0, .slice none 0 0, .int .i64 0, .int .i64 0, .int .i64 0] from by (repeat (first | (apply Blk.new'; simp; done) | apply Blk.alloc | apply Blk.drew)))
  have R := Lib.hid (h.go hk0)
  have hb := h.lt
  have hge := h.ge
  have K := Lib.hid ((Kept.refl [b] w).trans hk0 (by simp))
  have Hv := Lib.hid hv
  have hR : ∀ l, l = (rdR 17 (1) v (some bs)) → rdR 17 (1) v (some bs) = l := fun _ h => h.symm
  clear h hk0 hv
  obtain ⟨x, hx⟩ : ∃ x, rdR 17 1 v (some bs) = x := ⟨_, rfl⟩
  have EX := Lib.hid hx
  have hx : rdR 17 1 v (some bs) = ({ (default : RecD) with kind := 1, tup := x.1.tup, fb := x.1.fb, fg := x.1.fg, fs := x.1.fs }, x.2.1, x.2.2) := by rw [← hx]; simp [rdR]
  have HX := Lib.hid hx
  clear hx hR
  go_enter Tryz.func72, Tryz.ntmps72
  go_wp2_with (first
    | (go_at_call 116
       go_must (refine (Flow_any Hv.out R.out).mono ?_)
       go_must (rintro e w1 ⟨rfl, h1, k1⟩)
       go_must (rw [EX.out] at h1 ⊢)
       go_must (have X := Lib.hid (X.out.kept k1 (by simp <;> omega)))
       go_must (have B := Lib.hid (B.out.kept k1 (by simp <;> omega)))
       go_must (have hb1 := h1.lt)
       go_must (have R := Lib.hid h1)
       go_must (have K := Lib.hid (K.out.trans k1 (by simp)))
       go_must (clear h1 k1))
    | (with_reducible show wpList _ _ _ ({ dst := none, op := Op.store 41 (.tmp 24) (.tmp 22), type := _, pos := _, after := _, guard := _ } :: _) _ _
       go_must (refine wpList_putAt (t := 43) (v := .agg #[.int .u32 (x.1.tup.src.toNat : Nat), .int .u32 (x.1.tup.dst.toNat : Nat), .int .i64 x.1.tup.proto, .int .i64 x.1.tup.sport, .int .i64 x.1.tup.dport, .int .i64 x.1.fb, .int .i64 x.1.fg, .int .i64 x.1.fs]) rfl 41 (.tmp 24) (.tmp 22) rfl (by rfl) (by rfl) X.out (by simp [Value.cells]) (by kernel_rfl) (by simp [Value.cells, Value.oneCell']) ?_)
       go_must (intro w2 h1 k1)
       go_must (have X := Lib.hid (show Blk w2 (w.heap.size + 1) 43 #[.int .i64 1, .int .u32 (x.1.tup.src.toNat : Nat), .int .u32 (x.1.tup.dst.toNat : Nat), .int .i64 x.1.tup.proto, .int .i64 x.1.tup.sport, .int .i64 x.1.tup.dport, .int .i64 x.1.fb, .int .i64 x.1.fg, .int .i64 x.1.fs, .int .i64 0, .slice none 0 0, .int .i64 0, .int .i64 0, .int .i64 0] from h1))
       go_must (have B := Lib.hid (B.out.kept k1 (by simp <;> omega)))
       go_must (have R := Lib.hid (R.out.other k1 (by simp <;> omega)))
       go_must (have hb2 := R.out.lt)
       go_must (have K := Lib.hid (K.out.trans k1 (fun i hi => .inr (by simp at hi <;> omega))))
       go_must (clear h1 k1)
       go_must (have hcx := X.out.cell))
    | ((with_reducible show wpList _ _ _ ({ dst := none, op := Op.store 43 (.tmp 6) (.tmp 63), type := _, pos := _, after := _, guard := _ } :: _) _ _); refine wpList_put (t := 43) rfl 43 (.tmp 6) (.tmp 63) rfl _ (by rfl) (by rfl) (by exact B.out) (by rfl) (by kernel_rfl) (by simp [Value.oneCell']) ?_; intro w9 hb9 hk9; have Hb9 := Lib.hid hb9; have Hk9 := Lib.hid hk9; clear hb9 hk9))
  refine bodyPost_ret (results_cell1 (t := 43) Tryz.results72 (by rfl) Hb9.out _ Tryz.underlying43 rfl (by kernel_rfl)) rfl ?_
  rw [HX.out]
  exact ⟨_, rfl, LV.nil (R.out.other Hk9.out (by simp <;> omega)).kept, R.out.other Hk9.out (by simp <;> omega), K.out.trans Hk9.out (fun i hi => .inr (by simp at hi <;> omega))⟩
set_option maxHeartbeats 6400000 in
set_option maxRecDepth 100000 in
theorem Read_2 {W w : World} {b : Nat} {bs : List UInt8} {k v : Int} (hv : verB v = true)  (h : RWo W b (some bs) w) :
    Calls Tryz.prog 72 #[.pointer (some ⟨b, 0, none⟩), .int .i64 (2), .int .i64 v] w fun e w' => ∃ sl, e = .returned (.tuple #[.agg #[.int .i64 (rdR 17 (2) v (some bs)).1.kind, .int .u32 ((rdR 17 (2) v (some bs)).1.tup.src.toNat : Nat), .int .u32 ((rdR 17 (2) v (some bs)).1.tup.dst.toNat : Nat), .int .i64 (rdR 17 (2) v (some bs)).1.tup.proto, .int .i64 (rdR 17 (2) v (some bs)).1.tup.sport, .int .i64 (rdR 17 (2) v (some bs)).1.tup.dport, .int .i64 (rdR 17 (2) v (some bs)).1.fb, .int .i64 (rdR 17 (2) v (some bs)).1.fg, .int .i64 (rdR 17 (2) v (some bs)).1.fs, .int .i64 (rdR 17 (2) v (some bs)).1.gen, sl, .int .i64 (rdR 17 (2) v (some bs)).1.back, .int .i64 (rdR 17 (2) v (some bs)).1.until_, .int .i64 (rdR 17 (2) v (some bs)).1.count], .bool (rdR 17 (2) v (some bs)).2.1]) ∧ BkV W w' sl (rdR 17 (2) v (some bs)).1.backs ∧ RWo W b (rdR 17 (2) v (some bs)).2.2 w' ∧ Kept [b] w w' := by
  have hk0 : Kept [] w ((w.alloc (.cells #[.int .i64 0, .int .u32 0, .int .u32 0, .int .i64 0, .int .i64 0, .int .i64 0, .int .i64 0, .int .i64 0, .int .i64 0, .int .i64 0, .slice none 0 0, .int .i64 0, .int .i64 0, .int .i64 0] 43)).alloc (.cells #[.int .i64 2, .int .u32 0, .int .u32 0, .int .i64 0, .int .i64 0, .int .i64 0, .int .i64 0, .int .i64 0, .int .i64 0, .int .i64 0, .slice none 0 0, .int .i64 0, .int .i64 0, .int .i64 0] 43)) := by (repeat (first | exact Kept.refl _ _ | apply Kept.alloc | apply Kept.drew))
  have B := Lib.hid (show Blk ((w.alloc (.cells #[.int .i64 0, .int .u32 0, .int .u32 0, .int .i64 0, .int .i64 0, .int .i64 0, .int .i64 0, .int .i64 0, .int .i64 0, .int .i64 0, .slice none 0 0, .int .i64 0, .int .i64 0, .int .i64 0] 43)).alloc (.cells #[.int .i64 2, .int .u32 0, .int .u32 0, .int .i64 0, .int .i64 0, .int .i64 0, .int .i64 0, .int .i64 0, .int .i64 0, .int .i64 0, .slice none 0 0, .int .i64 0, .int .i64 0, .int .i64 0] 43)) w.heap.size 43 #[.int .i64 0, .int .u32 0, .int .u32 0, .int .i64 0, .int .i64 0, .int .i64 0, .int .i64 0, .int .i64 0, .int .i64 0, .int .i64 0, .slice none 0 0, .int .i64 0, .int .i64 0, .int .i64 0] from by (repeat (first | (apply Blk.new'; simp; done) | apply Blk.alloc | apply Blk.drew)))
  have X := Lib.hid (show Blk ((w.alloc (.cells #[.int .i64 0, .int .u32 0, .int .u32 0, .int .i64 0, .int .i64 0, .int .i64 0, .int .i64 0, .int .i64 0, .int .i64 0, .int .i64 0, .slice none 0 0, .int .i64 0, .int .i64 0, .int .i64 0] 43)).alloc (.cells #[.int .i64 2, .int .u32 0, .int .u32 0, .int .i64 0, .int .i64 0, .int .i64 0, .int .i64 0, .int .i64 0, .int .i64 0, .int .i64 0, .slice none 0 0, .int .i64 0, .int .i64 0, .int .i64 0] 43)) (w.heap.size + 1) 43 #[.int .i64 2, .int .u32 0, .int .u32 0, .int .i64 0, .int .i64 0, .int .i64 0, .int .i64 0, .int .i64 0, .int .i64 0, .int .i64 0, .slice none 0 0, .int .i64 0, .int .i64 0, .int .i64 0] from by (repeat (first | (apply Blk.new'; simp; done) | apply Blk.alloc | apply Blk.drew)))
  have R := Lib.hid (h.go hk0)
  have hb := h.lt
  have hge := h.ge
  have K := Lib.hid ((Kept.refl [b] w).trans hk0 (by simp))
  have Hv := Lib.hid hv
  have hR : ∀ l, l = (rdR 17 (2) v (some bs)) → rdR 17 (2) v (some bs) = l := fun _ h => h.symm
  clear h hk0 hv
  obtain ⟨T, hT⟩ : ∃ T, (rdT (some bs)).1 = T := ⟨_, rfl⟩
  obtain ⟨ok, hok⟩ : ∃ ok, (rdT (some bs)).2 = ok := ⟨_, rfl⟩
  have EX := Lib.hid (show rdT (some bs) = (T, ok) by rw [← hT, ← hok])
  have hx := hR ({ (default : RecD) with kind := 2, tup := T }, ok, nk (some bs) 13) (by simp [rdR, hT, hok])
  have HX := Lib.hid hx
  clear hx hR hT hok
  go_enter Tryz.func72, Tryz.ntmps72
  go_wp2_with (first
    | (go_at_call 117
       go_must (refine (TRead_any R.out).mono ?_)
       go_must (rintro e w1 ⟨rfl, h1, k1⟩)
       go_must (rw [EX.out])
       go_must (have X := Lib.hid (X.out.kept k1 (by simp <;> omega)))
       go_must (have B := Lib.hid (B.out.kept k1 (by simp <;> omega)))
       go_must (have hb1 := h1.lt)
       go_must (have R := Lib.hid h1)
       go_must (have K := Lib.hid (K.out.trans k1 (by simp)))
       go_must (clear h1 k1))
    | (with_reducible show wpList _ _ _ ({ dst := none, op := Op.store 39 (.tmp 33) (.tmp 30), type := _, pos := _, after := _, guard := _ } :: _) _ _
       go_must (refine wpList_putAt (t := 43) (v := .agg #[.int .u32 (T.src.toNat : Nat), .int .u32 (T.dst.toNat : Nat), .int .i64 T.proto, .int .i64 T.sport, .int .i64 T.dport]) rfl 39 (.tmp 33) (.tmp 30) rfl (by rfl) (by rfl) X.out (by simp [Value.cells]) (by kernel_rfl) (by simp [Value.cells, Value.oneCell']) ?_)
       go_must (intro w2 h1 k1)
       go_must (have X := Lib.hid (show Blk w2 (w.heap.size + 1) 43 #[.int .i64 2, .int .u32 (T.src.toNat : Nat), .int .u32 (T.dst.toNat : Nat), .int .i64 T.proto, .int .i64 T.sport, .int .i64 T.dport, .int .i64 0, .int .i64 0, .int .i64 0, .int .i64 0, .slice none 0 0, .int .i64 0, .int .i64 0, .int .i64 0] from h1))
       go_must (have B := Lib.hid (B.out.kept k1 (by simp <;> omega)))
       go_must (have R := Lib.hid (R.out.other k1 (by simp <;> omega)))
       go_must (have hb2 := R.out.lt)
       go_must (have K := Lib.hid (K.out.trans k1 (fun i hi => .inr (by simp at hi <;> omega))))
       go_must (clear h1 k1)
       go_must (have hcx := X.out.cell))
    | ((with_reducible show wpList _ _ _ ({ dst := none, op := Op.store 43 (.tmp 6) (.tmp 63), type := _, pos := _, after := _, guard := _ } :: _) _ _); refine wpList_put (t := 43) rfl 43 (.tmp 6) (.tmp 63) rfl _ (by rfl) (by rfl) (by exact B.out) (by rfl) (by kernel_rfl) (by simp [Value.oneCell']) ?_; intro w9 hb9 hk9; have Hb9 := Lib.hid hb9; have Hk9 := Lib.hid hk9; clear hb9 hk9))
  refine bodyPost_ret (results_cell1 (t := 43) Tryz.results72 (by rfl) Hb9.out _ Tryz.underlying43 rfl (by kernel_rfl)) rfl ?_
  rw [HX.out]
  exact ⟨_, rfl, LV.nil (R.out.other Hk9.out (by simp <;> omega)).kept, R.out.other Hk9.out (by simp <;> omega), K.out.trans Hk9.out (fun i hi => .inr (by simp at hi <;> omega))⟩
set_option maxHeartbeats 6400000 in
set_option maxRecDepth 100000 in
theorem Read_4 {W w : World} {b : Nat} {bs : List UInt8} {k v : Int} (hv : verB v = true)  (h : RWo W b (some bs) w) :
    Calls Tryz.prog 72 #[.pointer (some ⟨b, 0, none⟩), .int .i64 (4), .int .i64 v] w fun e w' => ∃ sl, e = .returned (.tuple #[.agg #[.int .i64 (rdR 17 (4) v (some bs)).1.kind, .int .u32 ((rdR 17 (4) v (some bs)).1.tup.src.toNat : Nat), .int .u32 ((rdR 17 (4) v (some bs)).1.tup.dst.toNat : Nat), .int .i64 (rdR 17 (4) v (some bs)).1.tup.proto, .int .i64 (rdR 17 (4) v (some bs)).1.tup.sport, .int .i64 (rdR 17 (4) v (some bs)).1.tup.dport, .int .i64 (rdR 17 (4) v (some bs)).1.fb, .int .i64 (rdR 17 (4) v (some bs)).1.fg, .int .i64 (rdR 17 (4) v (some bs)).1.fs, .int .i64 (rdR 17 (4) v (some bs)).1.gen, sl, .int .i64 (rdR 17 (4) v (some bs)).1.back, .int .i64 (rdR 17 (4) v (some bs)).1.until_, .int .i64 (rdR 17 (4) v (some bs)).1.count], .bool (rdR 17 (4) v (some bs)).2.1]) ∧ BkV W w' sl (rdR 17 (4) v (some bs)).1.backs ∧ RWo W b (rdR 17 (4) v (some bs)).2.2 w' ∧ Kept [b] w w' := by
  have hk0 : Kept [] w ((w.alloc (.cells #[.int .i64 0, .int .u32 0, .int .u32 0, .int .i64 0, .int .i64 0, .int .i64 0, .int .i64 0, .int .i64 0, .int .i64 0, .int .i64 0, .slice none 0 0, .int .i64 0, .int .i64 0, .int .i64 0] 43)).alloc (.cells #[.int .i64 4, .int .u32 0, .int .u32 0, .int .i64 0, .int .i64 0, .int .i64 0, .int .i64 0, .int .i64 0, .int .i64 0, .int .i64 0, .slice none 0 0, .int .i64 0, .int .i64 0, .int .i64 0] 43)) := by (repeat (first | exact Kept.refl _ _ | apply Kept.alloc | apply Kept.drew))
  have B := Lib.hid (show Blk ((w.alloc (.cells #[.int .i64 0, .int .u32 0, .int .u32 0, .int .i64 0, .int .i64 0, .int .i64 0, .int .i64 0, .int .i64 0, .int .i64 0, .int .i64 0, .slice none 0 0, .int .i64 0, .int .i64 0, .int .i64 0] 43)).alloc (.cells #[.int .i64 4, .int .u32 0, .int .u32 0, .int .i64 0, .int .i64 0, .int .i64 0, .int .i64 0, .int .i64 0, .int .i64 0, .int .i64 0, .slice none 0 0, .int .i64 0, .int .i64 0, .int .i64 0] 43)) w.heap.size 43 #[.int .i64 0, .int .u32 0, .int .u32 0, .int .i64 0, .int .i64 0, .int .i64 0, .int .i64 0, .int .i64 0, .int .i64 0, .int .i64 0, .slice none 0 0, .int .i64 0, .int .i64 0, .int .i64 0] from by (repeat (first | (apply Blk.new'; simp; done) | apply Blk.alloc | apply Blk.drew)))
  have X := Lib.hid (show Blk ((w.alloc (.cells #[.int .i64 0, .int .u32 0, .int .u32 0, .int .i64 0, .int .i64 0, .int .i64 0, .int .i64 0, .int .i64 0, .int .i64 0, .int .i64 0, .slice none 0 0, .int .i64 0, .int .i64 0, .int .i64 0] 43)).alloc (.cells #[.int .i64 4, .int .u32 0, .int .u32 0, .int .i64 0, .int .i64 0, .int .i64 0, .int .i64 0, .int .i64 0, .int .i64 0, .int .i64 0, .slice none 0 0, .int .i64 0, .int .i64 0, .int .i64 0] 43)) (w.heap.size + 1) 43 #[.int .i64 4, .int .u32 0, .int .u32 0, .int .i64 0, .int .i64 0, .int .i64 0, .int .i64 0, .int .i64 0, .int .i64 0, .int .i64 0, .slice none 0 0, .int .i64 0, .int .i64 0, .int .i64 0] from by (repeat (first | (apply Blk.new'; simp; done) | apply Blk.alloc | apply Blk.drew)))
  have R := Lib.hid (h.go hk0)
  have hb := h.lt
  have hge := h.ge
  have K := Lib.hid ((Kept.refl [b] w).trans hk0 (by simp))
  have Hv := Lib.hid hv
  have hR : ∀ l, l = (rdR 17 (4) v (some bs)) → rdR 17 (4) v (some bs) = l := fun _ h => h.symm
  clear h hk0 hv
  obtain ⟨f1, hf1⟩ : ∃ f1, gk (some bs) 2 = f1 := ⟨_, rfl⟩
  obtain ⟨f2, hf2⟩ : ∃ f2, wrap64 (gk (nk (some bs) 2) 8 : Nat) = f2 := ⟨_, rfl⟩
  have E1 := Lib.hid hf1
  have E2 := Lib.hid hf2
  have hx := hR ({ (default : RecD) with kind := 4, back := f1, until_ := f2 }, true, nk (nk (some bs) 2) 8) (by simp [rdR, hf1, hf2])
  have HX := Lib.hid hx
  clear hx hR hf1 hf2
  go_enter Tryz.func72, Tryz.ntmps72
  go_wp2_with (first
    | (go_at_call 113
       go_must (refine (DU16 R.out).mono ?_)
       go_must (rintro e w1 ⟨rfl, h1, k1⟩)
       go_must (rw [E1.out])
       go_must (have X := Lib.hid (X.out.kept k1 (by simp <;> omega)))
       go_must (have B := Lib.hid (B.out.kept k1 (by simp <;> omega)))
       go_must (have hb1 := h1.lt)
       go_must (have R := Lib.hid h1)
       go_must (have K := Lib.hid (K.out.trans k1 (by simp)))
       go_must (clear h1 k1))
    | (with_reducible show wpList _ _ _ ({ dst := none, op := Op.store 3 (.tmp 48) (.tmp 47), type := _, pos := _, after := _, guard := _ } :: _) _ _
       go_must (refine wpList_putAt (t := 43) (v := .int .i64 (f1 : Nat)) rfl 3 (.tmp 48) (.tmp 47) rfl (by rfl) (by rfl) X.out (by simp [Value.cells]) (by kernel_rfl) (by simp [Value.cells, Value.oneCell']) ?_)
       go_must (intro w2 h1 k1)
       go_must (have X := Lib.hid (show Blk w2 (w.heap.size + 1) 43 #[.int .i64 4, .int .u32 0, .int .u32 0, .int .i64 0, .int .i64 0, .int .i64 0, .int .i64 0, .int .i64 0, .int .i64 0, .int .i64 0, .slice none 0 0, .int .i64 f1, .int .i64 0, .int .i64 0] from h1))
       go_must (have B := Lib.hid (B.out.kept k1 (by simp <;> omega)))
       go_must (have R := Lib.hid (R.out.other k1 (by simp <;> omega)))
       go_must (have hb2 := R.out.lt)
       go_must (have K := Lib.hid (K.out.trans k1 (fun i hi => .inr (by simp at hi <;> omega))))
       go_must (clear h1 k1))
    | (go_at_call 119
       go_must (refine (DI64 R.out).mono ?_)
       go_must (rintro e w3 ⟨rfl, h1, k1⟩)
       go_must (rw [E2.out])
       go_must (have X := Lib.hid (X.out.kept k1 (by simp <;> omega)))
       go_must (have B := Lib.hid (B.out.kept k1 (by simp <;> omega)))
       go_must (have hb3 := h1.lt)
       go_must (have R := Lib.hid h1)
       go_must (have K := Lib.hid (K.out.trans k1 (by simp)))
       go_must (clear h1 k1))
    | (with_reducible show wpList _ _ _ ({ dst := none, op := Op.store 2 (.tmp 51) (.tmp 50), type := _, pos := _, after := _, guard := _ } :: _) _ _
       go_must (refine wpList_putAt (t := 43) (v := .int .i64 f2) rfl 2 (.tmp 51) (.tmp 50) rfl (by rfl) (by rfl) X.out (by simp [Value.cells]) (by kernel_rfl) (by simp [Value.cells, Value.oneCell']) ?_)
       go_must (intro w4 h1 k1)
       go_must (have X := Lib.hid (show Blk w4 (w.heap.size + 1) 43 #[.int .i64 4, .int .u32 0, .int .u32 0, .int .i64 0, .int .i64 0, .int .i64 0, .int .i64 0, .int .i64 0, .int .i64 0, .int .i64 0, .slice none 0 0, .int .i64 f1, .int .i64 f2, .int .i64 0] from h1))
       go_must (have B := Lib.hid (B.out.kept k1 (by simp <;> omega)))
       go_must (have R := Lib.hid (R.out.other k1 (by simp <;> omega)))
       go_must (have hb4 := R.out.lt)
       go_must (have K := Lib.hid (K.out.trans k1 (fun i hi => .inr (by simp at hi <;> omega))))
       go_must (clear h1 k1)
       go_must (have hcx := X.out.cell))
    | ((with_reducible show wpList _ _ _ ({ dst := none, op := Op.store 43 (.tmp 6) (.tmp 63), type := _, pos := _, after := _, guard := _ } :: _) _ _); refine wpList_put (t := 43) rfl 43 (.tmp 6) (.tmp 63) rfl _ (by rfl) (by rfl) (by exact B.out) (by rfl) (by kernel_rfl) (by simp [Value.oneCell']) ?_; intro w9 hb9 hk9; have Hb9 := Lib.hid hb9; have Hk9 := Lib.hid hk9; clear hb9 hk9))
  refine bodyPost_ret (results_cell1 (t := 43) Tryz.results72 (by rfl) Hb9.out _ Tryz.underlying43 rfl (by kernel_rfl)) rfl ?_
  rw [HX.out]
  exact ⟨_, rfl, LV.nil (R.out.other Hk9.out (by simp <;> omega)).kept, R.out.other Hk9.out (by simp <;> omega), K.out.trans Hk9.out (fun i hi => .inr (by simp at hi <;> omega))⟩
set_option maxHeartbeats 6400000 in
set_option maxRecDepth 100000 in
theorem Read_5 {W w : World} {b : Nat} {bs : List UInt8} {k v : Int} (hv : verB v = true)  (h : RWo W b (some bs) w) :
    Calls Tryz.prog 72 #[.pointer (some ⟨b, 0, none⟩), .int .i64 (5), .int .i64 v] w fun e w' => ∃ sl, e = .returned (.tuple #[.agg #[.int .i64 (rdR 17 (5) v (some bs)).1.kind, .int .u32 ((rdR 17 (5) v (some bs)).1.tup.src.toNat : Nat), .int .u32 ((rdR 17 (5) v (some bs)).1.tup.dst.toNat : Nat), .int .i64 (rdR 17 (5) v (some bs)).1.tup.proto, .int .i64 (rdR 17 (5) v (some bs)).1.tup.sport, .int .i64 (rdR 17 (5) v (some bs)).1.tup.dport, .int .i64 (rdR 17 (5) v (some bs)).1.fb, .int .i64 (rdR 17 (5) v (some bs)).1.fg, .int .i64 (rdR 17 (5) v (some bs)).1.fs, .int .i64 (rdR 17 (5) v (some bs)).1.gen, sl, .int .i64 (rdR 17 (5) v (some bs)).1.back, .int .i64 (rdR 17 (5) v (some bs)).1.until_, .int .i64 (rdR 17 (5) v (some bs)).1.count], .bool (rdR 17 (5) v (some bs)).2.1]) ∧ BkV W w' sl (rdR 17 (5) v (some bs)).1.backs ∧ RWo W b (rdR 17 (5) v (some bs)).2.2 w' ∧ Kept [b] w w' := by
  have hk0 : Kept [] w ((w.alloc (.cells #[.int .i64 0, .int .u32 0, .int .u32 0, .int .i64 0, .int .i64 0, .int .i64 0, .int .i64 0, .int .i64 0, .int .i64 0, .int .i64 0, .slice none 0 0, .int .i64 0, .int .i64 0, .int .i64 0] 43)).alloc (.cells #[.int .i64 5, .int .u32 0, .int .u32 0, .int .i64 0, .int .i64 0, .int .i64 0, .int .i64 0, .int .i64 0, .int .i64 0, .int .i64 0, .slice none 0 0, .int .i64 0, .int .i64 0, .int .i64 0] 43)) := by (repeat (first | exact Kept.refl _ _ | apply Kept.alloc | apply Kept.drew))
  have B := Lib.hid (show Blk ((w.alloc (.cells #[.int .i64 0, .int .u32 0, .int .u32 0, .int .i64 0, .int .i64 0, .int .i64 0, .int .i64 0, .int .i64 0, .int .i64 0, .int .i64 0, .slice none 0 0, .int .i64 0, .int .i64 0, .int .i64 0] 43)).alloc (.cells #[.int .i64 5, .int .u32 0, .int .u32 0, .int .i64 0, .int .i64 0, .int .i64 0, .int .i64 0, .int .i64 0, .int .i64 0, .int .i64 0, .slice none 0 0, .int .i64 0, .int .i64 0, .int .i64 0] 43)) w.heap.size 43 #[.int .i64 0, .int .u32 0, .int .u32 0, .int .i64 0, .int .i64 0, .int .i64 0, .int .i64 0, .int .i64 0, .int .i64 0, .int .i64 0, .slice none 0 0, .int .i64 0, .int .i64 0, .int .i64 0] from by (repeat (first | (apply Blk.new'; simp; done) | apply Blk.alloc | apply Blk.drew)))
  have X := Lib.hid (show Blk ((w.alloc (.cells #[.int .i64 0, .int .u32 0, .int .u32 0, .int .i64 0, .int .i64 0, .int .i64 0, .int .i64 0, .int .i64 0, .int .i64 0, .int .i64 0, .slice none 0 0, .int .i64 0, .int .i64 0, .int .i64 0] 43)).alloc (.cells #[.int .i64 5, .int .u32 0, .int .u32 0, .int .i64 0, .int .i64 0, .int .i64 0, .int .i64 0, .int .i64 0, .int .i64 0, .int .i64 0, .slice none 0 0, .int .i64 0, .int .i64 0, .int .i64 0] 43)) (w.heap.size + 1) 43 #[.int .i64 5, .int .u32 0, .int .u32 0, .int .i64 0, .int .i64 0, .int .i64 0, .int .i64 0, .int .i64 0, .int .i64 0, .int .i64 0, .slice none 0 0, .int .i64 0, .int .i64 0, .int .i64 0] from by (repeat (first | (apply Blk.new'; simp; done) | apply Blk.alloc | apply Blk.drew)))
  have R := Lib.hid (h.go hk0)
  have hb := h.lt
  have hge := h.ge
  have K := Lib.hid ((Kept.refl [b] w).trans hk0 (by simp))
  have Hv := Lib.hid hv
  have hR : ∀ l, l = (rdR 17 (5) v (some bs)) → rdR 17 (5) v (some bs) = l := fun _ h => h.symm
  clear h hk0 hv
  obtain ⟨f1, hf1⟩ : ∃ f1, gk (some bs) 2 = f1 := ⟨_, rfl⟩
  have E1 := Lib.hid hf1
  have hx := hR ({ (default : RecD) with kind := 5, back := f1 }, true, nk (some bs) 2) (by simp [rdR, hf1])
  have HX := Lib.hid hx
  clear hx hR hf1
  go_enter Tryz.func72, Tryz.ntmps72
  go_wp2_with (first
    | (go_at_call 113
       go_must (refine (DU16 R.out).mono ?_)
       go_must (rintro e w1 ⟨rfl, h1, k1⟩)
       go_must (rw [E1.out])
       go_must (have X := Lib.hid (X.out.kept k1 (by simp <;> omega)))
       go_must (have B := Lib.hid (B.out.kept k1 (by simp <;> omega)))
       go_must (have hb1 := h1.lt)
       go_must (have R := Lib.hid h1)
       go_must (have K := Lib.hid (K.out.trans k1 (by simp)))
       go_must (clear h1 k1))
    | (with_reducible show wpList _ _ _ ({ dst := none, op := Op.store 3 (.tmp 56) (.tmp 55), type := _, pos := _, after := _, guard := _ } :: _) _ _
       go_must (refine wpList_putAt (t := 43) (v := .int .i64 (f1 : Nat)) rfl 3 (.tmp 56) (.tmp 55) rfl (by rfl) (by rfl) X.out (by simp [Value.cells]) (by kernel_rfl) (by simp [Value.cells, Value.oneCell']) ?_)
       go_must (intro w2 h1 k1)
       go_must (have X := Lib.hid (show Blk w2 (w.heap.size + 1) 43 #[.int .i64 5, .int .u32 0, .int .u32 0, .int .i64 0, .int .i64 0, .int .i64 0, .int .i64 0, .int .i64 0, .int .i64 0, .int .i64 0, .slice none 0 0, .int .i64 f1, .int .i64 0, .int .i64 0] from h1))
       go_must (have B := Lib.hid (B.out.kept k1 (by simp <;> omega)))
       go_must (have R := Lib.hid (R.out.other k1 (by simp <;> omega)))
       go_must (have hb2 := R.out.lt)
       go_must (have K := Lib.hid (K.out.trans k1 (fun i hi => .inr (by simp at hi <;> omega))))
       go_must (clear h1 k1)
       go_must (have hcx := X.out.cell))
    | ((with_reducible show wpList _ _ _ ({ dst := none, op := Op.store 43 (.tmp 6) (.tmp 63), type := _, pos := _, after := _, guard := _ } :: _) _ _); refine wpList_put (t := 43) rfl 43 (.tmp 6) (.tmp 63) rfl _ (by rfl) (by rfl) (by exact B.out) (by rfl) (by kernel_rfl) (by simp [Value.oneCell']) ?_; intro w9 hb9 hk9; have Hb9 := Lib.hid hb9; have Hk9 := Lib.hid hk9; clear hb9 hk9))
  refine bodyPost_ret (results_cell1 (t := 43) Tryz.results72 (by rfl) Hb9.out _ Tryz.underlying43 rfl (by kernel_rfl)) rfl ?_
  rw [HX.out]
  exact ⟨_, rfl, LV.nil (R.out.other Hk9.out (by simp <;> omega)).kept, R.out.other Hk9.out (by simp <;> omega), K.out.trans Hk9.out (fun i hi => .inr (by simp at hi <;> omega))⟩
set_option maxHeartbeats 6400000 in
set_option maxRecDepth 100000 in
theorem Read_6 {W w : World} {b : Nat} {bs : List UInt8} {k v : Int} (hv : verB v = true)  (h : RWo W b (some bs) w) :
    Calls Tryz.prog 72 #[.pointer (some ⟨b, 0, none⟩), .int .i64 (6), .int .i64 v] w fun e w' => ∃ sl, e = .returned (.tuple #[.agg #[.int .i64 (rdR 17 (6) v (some bs)).1.kind, .int .u32 ((rdR 17 (6) v (some bs)).1.tup.src.toNat : Nat), .int .u32 ((rdR 17 (6) v (some bs)).1.tup.dst.toNat : Nat), .int .i64 (rdR 17 (6) v (some bs)).1.tup.proto, .int .i64 (rdR 17 (6) v (some bs)).1.tup.sport, .int .i64 (rdR 17 (6) v (some bs)).1.tup.dport, .int .i64 (rdR 17 (6) v (some bs)).1.fb, .int .i64 (rdR 17 (6) v (some bs)).1.fg, .int .i64 (rdR 17 (6) v (some bs)).1.fs, .int .i64 (rdR 17 (6) v (some bs)).1.gen, sl, .int .i64 (rdR 17 (6) v (some bs)).1.back, .int .i64 (rdR 17 (6) v (some bs)).1.until_, .int .i64 (rdR 17 (6) v (some bs)).1.count], .bool (rdR 17 (6) v (some bs)).2.1]) ∧ BkV W w' sl (rdR 17 (6) v (some bs)).1.backs ∧ RWo W b (rdR 17 (6) v (some bs)).2.2 w' ∧ Kept [b] w w' := by
  have hk0 : Kept [] w ((w.alloc (.cells #[.int .i64 0, .int .u32 0, .int .u32 0, .int .i64 0, .int .i64 0, .int .i64 0, .int .i64 0, .int .i64 0, .int .i64 0, .int .i64 0, .slice none 0 0, .int .i64 0, .int .i64 0, .int .i64 0] 43)).alloc (.cells #[.int .i64 6, .int .u32 0, .int .u32 0, .int .i64 0, .int .i64 0, .int .i64 0, .int .i64 0, .int .i64 0, .int .i64 0, .int .i64 0, .slice none 0 0, .int .i64 0, .int .i64 0, .int .i64 0] 43)) := by (repeat (first | exact Kept.refl _ _ | apply Kept.alloc | apply Kept.drew))
  have B := Lib.hid (show Blk ((w.alloc (.cells #[.int .i64 0, .int .u32 0, .int .u32 0, .int .i64 0, .int .i64 0, .int .i64 0, .int .i64 0, .int .i64 0, .int .i64 0, .int .i64 0, .slice none 0 0, .int .i64 0, .int .i64 0, .int .i64 0] 43)).alloc (.cells #[.int .i64 6, .int .u32 0, .int .u32 0, .int .i64 0, .int .i64 0, .int .i64 0, .int .i64 0, .int .i64 0, .int .i64 0, .int .i64 0, .slice none 0 0, .int .i64 0, .int .i64 0, .int .i64 0] 43)) w.heap.size 43 #[.int .i64 0, .int .u32 0, .int .u32 0, .int .i64 0, .int .i64 0, .int .i64 0, .int .i64 0, .int .i64 0, .int .i64 0, .int .i64 0, .slice none 0 0, .int .i64 0, .int .i64 0, .int .i64 0] from by (repeat (first | (apply Blk.new'; simp; done) | apply Blk.alloc | apply Blk.drew)))
  have X := Lib.hid (show Blk ((w.alloc (.cells #[.int .i64 0, .int .u32 0, .int .u32 0, .int .i64 0, .int .i64 0, .int .i64 0, .int .i64 0, .int .i64 0, .int .i64 0, .int .i64 0, .slice none 0 0, .int .i64 0, .int .i64 0, .int .i64 0] 43)).alloc (.cells #[.int .i64 6, .int .u32 0, .int .u32 0, .int .i64 0, .int .i64 0, .int .i64 0, .int .i64 0, .int .i64 0, .int .i64 0, .int .i64 0, .slice none 0 0, .int .i64 0, .int .i64 0, .int .i64 0] 43)) (w.heap.size + 1) 43 #[.int .i64 6, .int .u32 0, .int .u32 0, .int .i64 0, .int .i64 0, .int .i64 0, .int .i64 0, .int .i64 0, .int .i64 0, .int .i64 0, .slice none 0 0, .int .i64 0, .int .i64 0, .int .i64 0] from by (repeat (first | (apply Blk.new'; simp; done) | apply Blk.alloc | apply Blk.drew)))
  have R := Lib.hid (h.go hk0)
  have hb := h.lt
  have hge := h.ge
  have K := Lib.hid ((Kept.refl [b] w).trans hk0 (by simp))
  have Hv := Lib.hid hv
  have hR : ∀ l, l = (rdR 17 (6) v (some bs)) → rdR 17 (6) v (some bs) = l := fun _ h => h.symm
  clear h hk0 hv
  obtain ⟨f1, hf1⟩ : ∃ f1, gk (some bs) 4 = f1 := ⟨_, rfl⟩
  have E1 := Lib.hid hf1
  have l1 := gk_lt (some bs) 4
  rw [hf1] at l1
  have hw1 : IntKind.i64.wrap (f1 : Int) = (f1 : Int) := IntWalk.i64_in _ (by omega)
  clear l1
  have hx := hR ({ (default : RecD) with kind := 6, count := f1 }, true, nk (some bs) 4) (by simp [rdR, hf1])
  have HX := Lib.hid hx
  clear hx hR hf1
  go_enter Tryz.func72, Tryz.ntmps72
  go_wp2_with (first
    | (go_at_call 114
       go_must (refine (DU32 R.out).mono ?_)
       go_must (rintro e w1 ⟨rfl, h1, k1⟩)
       go_must (rw [E1.out])
       go_must (have X := Lib.hid (X.out.kept k1 (by simp <;> omega)))
       go_must (have B := Lib.hid (B.out.kept k1 (by simp <;> omega)))
       go_must (have hb1 := h1.lt)
       go_must (have R := Lib.hid h1)
       go_must (have K := Lib.hid (K.out.trans k1 (by simp)))
       go_must (clear h1 k1))
    | (with_reducible show wpList _ _ _ ({ dst := none, op := Op.store 3 (.tmp 62) (.tmp 61), type := _, pos := _, after := _, guard := _ } :: _) _ _
       go_must (refine wpList_putAt (t := 43) (v := .int .i64 (f1 : Nat)) rfl 3 (.tmp 62) (.tmp 61) rfl (by rfl) (by rfl) X.out (by simp [Value.cells]) (by kernel_rfl) (by simp [Value.cells, Value.oneCell']) ?_)
       go_must (intro w2 h1 k1)
       go_must (have X := Lib.hid (show Blk w2 (w.heap.size + 1) 43 #[.int .i64 6, .int .u32 0, .int .u32 0, .int .i64 0, .int .i64 0, .int .i64 0, .int .i64 0, .int .i64 0, .int .i64 0, .int .i64 0, .slice none 0 0, .int .i64 0, .int .i64 0, .int .i64 f1] from h1))
       go_must (have B := Lib.hid (B.out.kept k1 (by simp <;> omega)))
       go_must (have R := Lib.hid (R.out.other k1 (by simp <;> omega)))
       go_must (have hb2 := R.out.lt)
       go_must (have K := Lib.hid (K.out.trans k1 (fun i hi => .inr (by simp at hi <;> omega))))
       go_must (clear h1 k1)
       go_must (have hcx := X.out.cell))
    | ((with_reducible show wpList _ _ _ ({ dst := none, op := Op.store 43 (.tmp 6) (.tmp 63), type := _, pos := _, after := _, guard := _ } :: _) _ _); refine wpList_put (t := 43) rfl 43 (.tmp 6) (.tmp 63) rfl _ (by rfl) (by rfl) (by exact B.out) (by rfl) (by kernel_rfl) (by simp [Value.oneCell']) ?_; intro w9 hb9 hk9; have Hb9 := Lib.hid hb9; have Hk9 := Lib.hid hk9; clear hb9 hk9))
  refine bodyPost_ret (results_cell1 (t := 43) Tryz.results72 (by rfl) Hb9.out _ Tryz.underlying43 rfl (by kernel_rfl)) rfl ?_
  rw [HX.out]
  exact ⟨_, rfl, LV.nil (R.out.other Hk9.out (by simp <;> omega)).kept, R.out.other Hk9.out (by simp <;> omega), K.out.trans Hk9.out (fun i hi => .inr (by simp at hi <;> omega))⟩
set_option maxHeartbeats 6400000 in
set_option maxRecDepth 100000 in
theorem Read_3 {W w : World} {b : Nat} {bs : List UInt8} {k v : Int} (hv : verB v = true)  (h : RWo W b (some bs) w) :
    Calls Tryz.prog 72 #[.pointer (some ⟨b, 0, none⟩), .int .i64 (3), .int .i64 v] w fun e w' => ∃ sl, e = .returned (.tuple #[.agg #[.int .i64 (rdR 17 (3) v (some bs)).1.kind, .int .u32 ((rdR 17 (3) v (some bs)).1.tup.src.toNat : Nat), .int .u32 ((rdR 17 (3) v (some bs)).1.tup.dst.toNat : Nat), .int .i64 (rdR 17 (3) v (some bs)).1.tup.proto, .int .i64 (rdR 17 (3) v (some bs)).1.tup.sport, .int .i64 (rdR 17 (3) v (some bs)).1.tup.dport, .int .i64 (rdR 17 (3) v (some bs)).1.fb, .int .i64 (rdR 17 (3) v (some bs)).1.fg, .int .i64 (rdR 17 (3) v (some bs)).1.fs, .int .i64 (rdR 17 (3) v (some bs)).1.gen, sl, .int .i64 (rdR 17 (3) v (some bs)).1.back, .int .i64 (rdR 17 (3) v (some bs)).1.until_, .int .i64 (rdR 17 (3) v (some bs)).1.count], .bool (rdR 17 (3) v (some bs)).2.1]) ∧ BkV W w' sl (rdR 17 (3) v (some bs)).1.backs ∧ RWo W b (rdR 17 (3) v (some bs)).2.2 w' ∧ Kept [b] w w' := by
  have hk0 : Kept [] w ((w.alloc (.cells #[.int .i64 0, .int .u32 0, .int .u32 0, .int .i64 0, .int .i64 0, .int .i64 0, .int .i64 0, .int .i64 0, .int .i64 0, .int .i64 0, .slice none 0 0, .int .i64 0, .int .i64 0, .int .i64 0] 43)).alloc (.cells #[.int .i64 3, .int .u32 0, .int .u32 0, .int .i64 0, .int .i64 0, .int .i64 0, .int .i64 0, .int .i64 0, .int .i64 0, .int .i64 0, .slice none 0 0, .int .i64 0, .int .i64 0, .int .i64 0] 43)) := by (repeat (first | exact Kept.refl _ _ | apply Kept.alloc | apply Kept.drew))
  have B := Lib.hid (show Blk ((w.alloc (.cells #[.int .i64 0, .int .u32 0, .int .u32 0, .int .i64 0, .int .i64 0, .int .i64 0, .int .i64 0, .int .i64 0, .int .i64 0, .int .i64 0, .slice none 0 0, .int .i64 0, .int .i64 0, .int .i64 0] 43)).alloc (.cells #[.int .i64 3, .int .u32 0, .int .u32 0, .int .i64 0, .int .i64 0, .int .i64 0, .int .i64 0, .int .i64 0, .int .i64 0, .int .i64 0, .slice none 0 0, .int .i64 0, .int .i64 0, .int .i64 0] 43)) w.heap.size 43 #[.int .i64 0, .int .u32 0, .int .u32 0, .int .i64 0, .int .i64 0, .int .i64 0, .int .i64 0, .int .i64 0, .int .i64 0, .int .i64 0, .slice none 0 0, .int .i64 0, .int .i64 0, .int .i64 0] from by (repeat (first | (apply Blk.new'; simp; done) | apply Blk.alloc | apply Blk.drew)))
  have X := Lib.hid (show Blk ((w.alloc (.cells #[.int .i64 0, .int .u32 0, .int .u32 0, .int .i64 0, .int .i64 0, .int .i64 0, .int .i64 0, .int .i64 0, .int .i64 0, .int .i64 0, .slice none 0 0, .int .i64 0, .int .i64 0, .int .i64 0] 43)).alloc (.cells #[.int .i64 3, .int .u32 0, .int .u32 0, .int .i64 0, .int .i64 0, .int .i64 0, .int .i64 0, .int .i64 0, .int .i64 0, .int .i64 0, .slice none 0 0, .int .i64 0, .int .i64 0, .int .i64 0] 43)) (w.heap.size + 1) 43 #[.int .i64 3, .int .u32 0, .int .u32 0, .int .i64 0, .int .i64 0, .int .i64 0, .int .i64 0, .int .i64 0, .int .i64 0, .int .i64 0, .slice none 0 0, .int .i64 0, .int .i64 0, .int .i64 0] from by (repeat (first | (apply Blk.new'; simp; done) | apply Blk.alloc | apply Blk.drew)))
  have R := Lib.hid (h.go hk0)
  have hb := h.lt
  have hge := h.ge
  have K := Lib.hid ((Kept.refl [b] w).trans hk0 (by simp))
  have Hv := Lib.hid hv
  have hR : ∀ l, l = (rdR 17 (3) v (some bs)) → rdR 17 (3) v (some bs) = l := fun _ h => h.symm
  clear h hk0 hv
  obtain ⟨f1, hf1⟩ : ∃ f1, gk (some bs) 4 = f1 := ⟨_, rfl⟩
  obtain ⟨l, hl⟩ : ∃ l, (rdBs v (min (gk (nk (some bs) 4) 1) 17) (nk (nk (some bs) 4) 1)).1 = l := ⟨_, rfl⟩
  obtain ⟨q, hq⟩ : ∃ q, (rdBs v (min (gk (nk (some bs) 4) 1) 17) (nk (nk (some bs) 4) 1)).2 = q := ⟨_, rfl⟩
  have E1 := Lib.hid hf1
  have E2 := Lib.hid hl
  have E3 := Lib.hid hq
  have l1 := gk_lt (some bs) 4
  rw [hf1] at l1
  have hw1 : IntKind.i64.wrap (f1 : Int) = (f1 : Int) := IntWalk.i64_in _ (by omega)
  clear l1
  have hx := hR ({ (default : RecD) with kind := 3, gen := f1, backs := l }, true, q) (by simp [rdR, hf1, hl, hq])
  have HX := Lib.hid hx
  clear hx hR hf1 hl hq
  go_enter Tryz.func72, Tryz.ntmps72
  go_wp2_with (first
    | (go_at_call 114
       go_must (refine (DU32 R.out).mono ?_)
       go_must (rintro e w1 ⟨rfl, h1, k1⟩)
       go_must (rw [E1.out])
       go_must (have X := Lib.hid (X.out.kept k1 (by simp <;> omega)))
       go_must (have B := Lib.hid (B.out.kept k1 (by simp <;> omega)))
       go_must (have hb1 := h1.lt)
       go_must (have R := Lib.hid h1)
       go_must (have K := Lib.hid (K.out.trans k1 (by simp)))
       go_must (clear h1 k1))
    | (with_reducible show wpList _ _ _ ({ dst := none, op := Op.store 3 (.tmp 39) (.tmp 38), type := _, pos := _, after := _, guard := _ } :: _) _ _
       go_must (refine wpList_putAt (t := 43) (v := .int .i64 (f1 : Nat)) rfl 3 (.tmp 39) (.tmp 38) rfl (by rfl) (by rfl) X.out (by simp [Value.cells]) (by kernel_rfl) (by simp [Value.cells, Value.oneCell']) ?_)
       go_must (intro w2 h1 k1)
       go_must (have X := Lib.hid (show Blk w2 (w.heap.size + 1) 43 #[.int .i64 3, .int .u32 0, .int .u32 0, .int .i64 0, .int .i64 0, .int .i64 0, .int .i64 0, .int .i64 0, .int .i64 0, .int .i64 f1, .slice none 0 0, .int .i64 0, .int .i64 0, .int .i64 0] from h1))
       go_must (have B := Lib.hid (B.out.kept k1 (by simp <;> omega)))
       go_must (have R := Lib.hid (R.out.other k1 (by simp <;> omega)))
       go_must (have hb2 := R.out.lt)
       go_must (have K := Lib.hid (K.out.trans k1 (fun i hi => .inr (by simp at hi <;> omega))))
       go_must (clear h1 k1))
    | (go_at_call 118
       go_must (refine (Backends_any R.out).mono ?_)
       go_must (rintro e w3 ⟨sl, rfl, hS, h1, k1⟩)
       go_must (rw [E2.out] at hS; rw [E3.out] at h1)
       go_must (have X := Lib.hid (X.out.kept k1 (by simp <;> omega)))
       go_must (have B := Lib.hid (B.out.kept k1 (by simp <;> omega)))
       go_must (have hb3 := h1.lt)
       go_must (have R := Lib.hid h1)
       go_must (have K := Lib.hid (K.out.trans k1 (by simp)))
       go_must (have S := Lib.hid hS)
       go_must (obtain ⟨A3, m3, c3, rfl⟩ := S.out.form)
       go_must (clear h1 k1 hS))
    | (with_reducible show wpList _ _ _ ({ dst := none, op := Op.store 22 (.tmp 43) (.tmp 42), type := _, pos := _, after := _, guard := _ } :: _) _ _
       go_must (refine wpList_putAt (t := 43) (v := .slice A3 m3 c3) rfl 22 (.tmp 43) (.tmp 42) rfl (by rfl) (by rfl) X.out (by simp [Value.cells]) (by kernel_rfl) (by simp [Value.cells, Value.oneCell']) ?_)
       go_must (intro w4 h1 k1)
       go_must (have S := Lib.hid (S.out.far k1 X.out (by decide) (by omega)))
       go_must (have X := Lib.hid (show Blk w4 (w.heap.size + 1) 43 #[.int .i64 3, .int .u32 0, .int .u32 0, .int .i64 0, .int .i64 0, .int .i64 0, .int .i64 0, .int .i64 0, .int .i64 0, .int .i64 f1, .slice A3 m3 c3, .int .i64 0, .int .i64 0, .int .i64 0] from h1))
       go_must (have B := Lib.hid (B.out.kept k1 (by simp <;> omega)))
       go_must (have R := Lib.hid (R.out.other k1 (by simp <;> omega)))
       go_must (have hb4 := R.out.lt)
       go_must (have K := Lib.hid (K.out.trans k1 (fun i hi => .inr (by simp at hi <;> omega))))
       go_must (clear h1 k1)
       go_must (have hcx := X.out.cell))
    | ((with_reducible show wpList _ _ _ ({ dst := none, op := Op.store 43 (.tmp 6) (.tmp 63), type := _, pos := _, after := _, guard := _ } :: _) _ _); refine wpList_put (t := 43) rfl 43 (.tmp 6) (.tmp 63) rfl _ (by rfl) (by rfl) (by exact B.out) (by rfl) (by kernel_rfl) (by simp [Value.oneCell']) ?_; intro w9 hb9 hk9; have Hb9 := Lib.hid hb9; have Hk9 := Lib.hid hk9; clear hb9 hk9))
  refine bodyPost_ret (results_cell1 (t := 43) Tryz.results72 (by rfl) Hb9.out _ Tryz.underlying43 rfl (by kernel_rfl)) rfl ?_
  rw [HX.out]
  exact ⟨_, rfl, (S.out.far Hk9.out B.out (by decide) (by omega)).bk, R.out.other Hk9.out (by simp <;> omega), K.out.trans Hk9.out (fun i hi => .inr (by simp at hi <;> omega))⟩
set_option maxHeartbeats 6400000 in
set_option maxRecDepth 100000 in
theorem Read_0 {W w : World} {b : Nat} {bs : List UInt8} {k v : Int} (hv : verB v = true) (hk : k < 1 ∨ 6 < k) (h : RWo W b (some bs) w) :
    Calls Tryz.prog 72 #[.pointer (some ⟨b, 0, none⟩), .int .i64 (k), .int .i64 v] w fun e w' => ∃ sl, e = .returned (.tuple #[.agg #[.int .i64 (rdR 17 (k) v (some bs)).1.kind, .int .u32 ((rdR 17 (k) v (some bs)).1.tup.src.toNat : Nat), .int .u32 ((rdR 17 (k) v (some bs)).1.tup.dst.toNat : Nat), .int .i64 (rdR 17 (k) v (some bs)).1.tup.proto, .int .i64 (rdR 17 (k) v (some bs)).1.tup.sport, .int .i64 (rdR 17 (k) v (some bs)).1.tup.dport, .int .i64 (rdR 17 (k) v (some bs)).1.fb, .int .i64 (rdR 17 (k) v (some bs)).1.fg, .int .i64 (rdR 17 (k) v (some bs)).1.fs, .int .i64 (rdR 17 (k) v (some bs)).1.gen, sl, .int .i64 (rdR 17 (k) v (some bs)).1.back, .int .i64 (rdR 17 (k) v (some bs)).1.until_, .int .i64 (rdR 17 (k) v (some bs)).1.count], .bool (rdR 17 (k) v (some bs)).2.1]) ∧ BkV W w' sl (rdR 17 (k) v (some bs)).1.backs ∧ RWo W b (rdR 17 (k) v (some bs)).2.2 w' ∧ Kept [b] w w' := by
  have hk0 : Kept [] w ((w.alloc (.cells #[.int .i64 0, .int .u32 0, .int .u32 0, .int .i64 0, .int .i64 0, .int .i64 0, .int .i64 0, .int .i64 0, .int .i64 0, .int .i64 0, .slice none 0 0, .int .i64 0, .int .i64 0, .int .i64 0] 43)).alloc (.cells #[.int .i64 k, .int .u32 0, .int .u32 0, .int .i64 0, .int .i64 0, .int .i64 0, .int .i64 0, .int .i64 0, .int .i64 0, .int .i64 0, .slice none 0 0, .int .i64 0, .int .i64 0, .int .i64 0] 43)) := by (repeat (first | exact Kept.refl _ _ | apply Kept.alloc | apply Kept.drew))
  have B := Lib.hid (show Blk ((w.alloc (.cells #[.int .i64 0, .int .u32 0, .int .u32 0, .int .i64 0, .int .i64 0, .int .i64 0, .int .i64 0, .int .i64 0, .int .i64 0, .int .i64 0, .slice none 0 0, .int .i64 0, .int .i64 0, .int .i64 0] 43)).alloc (.cells #[.int .i64 k, .int .u32 0, .int .u32 0, .int .i64 0, .int .i64 0, .int .i64 0, .int .i64 0, .int .i64 0, .int .i64 0, .int .i64 0, .slice none 0 0, .int .i64 0, .int .i64 0, .int .i64 0] 43)) w.heap.size 43 #[.int .i64 0, .int .u32 0, .int .u32 0, .int .i64 0, .int .i64 0, .int .i64 0, .int .i64 0, .int .i64 0, .int .i64 0, .int .i64 0, .slice none 0 0, .int .i64 0, .int .i64 0, .int .i64 0] from by (repeat (first | (apply Blk.new'; simp; done) | apply Blk.alloc | apply Blk.drew)))
  have X := Lib.hid (show Blk ((w.alloc (.cells #[.int .i64 0, .int .u32 0, .int .u32 0, .int .i64 0, .int .i64 0, .int .i64 0, .int .i64 0, .int .i64 0, .int .i64 0, .int .i64 0, .slice none 0 0, .int .i64 0, .int .i64 0, .int .i64 0] 43)).alloc (.cells #[.int .i64 k, .int .u32 0, .int .u32 0, .int .i64 0, .int .i64 0, .int .i64 0, .int .i64 0, .int .i64 0, .int .i64 0, .int .i64 0, .slice none 0 0, .int .i64 0, .int .i64 0, .int .i64 0] 43)) (w.heap.size + 1) 43 #[.int .i64 k, .int .u32 0, .int .u32 0, .int .i64 0, .int .i64 0, .int .i64 0, .int .i64 0, .int .i64 0, .int .i64 0, .int .i64 0, .slice none 0 0, .int .i64 0, .int .i64 0, .int .i64 0] from by (repeat (first | (apply Blk.new'; simp; done) | apply Blk.alloc | apply Blk.drew)))
  have R := Lib.hid (h.go hk0)
  have hb := h.lt
  have hge := h.ge
  have K := Lib.hid ((Kept.refl [b] w).trans hk0 (by simp))
  have Hv := Lib.hid hv
  have hR : ∀ l, l = (rdR 17 (k) v (some bs)) → rdR 17 (k) v (some bs) = l := fun _ h => h.symm
  clear h hk0 hv
  have b1 : (k == 1) = false := by simp; omega
  have b2 : (k == 2) = false := by simp; omega
  have b3 : (k == 3) = false := by simp; omega
  have b4 : (k == 4) = false := by simp; omega
  have b5 : (k == 5) = false := by simp; omega
  have b6 : (k == 6) = false := by simp; omega
  have hx := hR ({ (default : RecD) with kind := k }, true, some bs) (by simp [rdR, show ¬ k = 1 by omega, show ¬ k = 2 by omega, show ¬ k = 3 by omega, show ¬ k = 4 by omega, show ¬ k = 5 by omega, show ¬ k = 6 by omega])
  clear hk
  have HX := Lib.hid hx
  clear hx hR
  go_enter Tryz.func72, Tryz.ntmps72
  go_wp2_with ((with_reducible show wpList _ _ _ ({ dst := none, op := Op.store 43 (.tmp 6) (.tmp 63), type := _, pos := _, after := _, guard := _ } :: _) _ _); refine wpList_put (t := 43) rfl 43 (.tmp 6) (.tmp 63) rfl _ (by rfl) (by rfl) (by exact B.out) (by rfl) (by kernel_rfl) (by simp [Value.oneCell']) ?_; intro w9 hb9 hk9; have Hb9 := Lib.hid hb9; have Hk9 := Lib.hid hk9; clear hb9 hk9)
  refine bodyPost_ret (results_cell1 (t := 43) Tryz.results72 (by rfl) Hb9.out _ Tryz.underlying43 rfl (by kernel_rfl)) rfl ?_
  rw [HX.out]
  exact ⟨_, rfl, LV.nil (R.out.other Hk9.out (by simp <;> omega)).kept, R.out.other Hk9.out (by simp <;> omega), K.out.trans Hk9.out (fun i hi => .inr (by simp at hi <;> omega))⟩
end
end Go.Proofs.YtkacghjglicjiaaGreat
