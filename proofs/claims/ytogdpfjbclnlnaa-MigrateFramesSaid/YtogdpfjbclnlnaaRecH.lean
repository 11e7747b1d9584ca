
/-
  The walks of record.flow, record.backends, record.read.
-/
import Derived.Test.YtogdpfjbclnlnaaRecG
import Derived.Test.YtogdpfjbclnlnaaPut
import Derived.Outline
import Derived.Deep.RegionWith
import Derived.Deep.DeepCutAuto
namespace Go.Proofs.Ytogdpfjbclnlnaa
open Go.RowKit Go.ChangeShapes Go.WideShapes Go.Deep
set_option linter.unusedVariables false

set_option maxHeartbeats 3200000 in
theorem Flow_any {W w : World} {b : Nat} {bs : List UInt8} {v : Int} (hv : verB v = true) (h : RWo W b (some bs) w) :
    Calls Try.prog 78 #[.pointer (some ⟨b, 0, none⟩), .int .i64 v] w fun e w' => e = .returned (.tuple #[.agg #[.int .u32 ((rdR 17 1 v (some bs)).1.tup.src.toNat : Nat), .int .u32 ((rdR 17 1 v (some bs)).1.tup.dst.toNat : Nat), .int .i64 (rdR 17 1 v (some bs)).1.tup.proto, .int .i64 (rdR 17 1 v (some bs)).1.tup.sport, .int .i64 (rdR 17 1 v (some bs)).1.tup.dport, .int .i64 (rdR 17 1 v (some bs)).1.fb, .int .i64 (rdR 17 1 v (some bs)).1.fg, .int .i64 (rdR 17 1 v (some bs)).1.fs], .bool (rdR 17 1 v (some bs)).2.1]) ∧ RWo W b (rdR 17 1 v (some bs)).2.2 w' ∧ Kept [b] w w' := by
  have hk0 : Kept [b] w (w.alloc (.cells #[.int .u32 0, .int .u32 0, .int .i64 0, .int .i64 0, .int .i64 0, .int .i64 0, .int .i64 0, .int .i64 0] 26)) := (Kept.refl _ _).alloc _
  have B := Lib.hid (show Blk (w.alloc (.cells #[.int .u32 0, .int .u32 0, .int .i64 0, .int .i64 0, .int .i64 0, .int .i64 0, .int .i64 0, .int .i64 0] 26)) w.heap.size 26 #[.int .u32 0, .int .u32 0, .int .i64 0, .int .i64 0, .int .i64 0, .int .i64 0, .int .i64 0, .int .i64 0] from by (repeat (first | (apply Blk.new'; simp; done) | apply Blk.alloc | apply Blk.drew)))
  have R := Lib.hid (h.go ((Kept.refl [] w).alloc (.cells #[.int .u32 0, .int .u32 0, .int .i64 0, .int .i64 0, .int .i64 0, .int .i64 0, .int .i64 0, .int .i64 0] 26)))
  have hb := h.lt
  have K := Lib.hid hk0
  clear h hk0
  have hv13 : v = 1 ∨ v = 2 ∨ v = 3 := by simp [verB] at hv; omega
  obtain ⟨T, ok, hT⟩ : ∃ T ok, rdT (some bs) = (T, ok) := ⟨_, _, rfl⟩
  obtain ⟨o1, ho1⟩ : ∃ o1, nk (some bs) 13 = o1 := ⟨_, rfl⟩
  obtain ⟨f1, hf1⟩ : ∃ f1 : Nat, gk o1 2 = f1 := ⟨_, rfl⟩
  obtain ⟨f2, hf2⟩ : ∃ f2 : Nat, gk (nk o1 2) 4 = f2 := ⟨_, rfl⟩
  obtain ⟨f3, hf3⟩ : ∃ f3 : Int, wrap64 (gk (nk (nk o1 2) 4) 8 : Nat) = f3 := ⟨_, rfl⟩
  have l2 := gk_lt (nk o1 2) 4
  rw [hf2] at l2
  have hw2 : IntKind.i64.wrap (f2 : Int) = (f2 : Int) := IntWalk.i64_in _ (by omega)
  have hq : ∃ x, rdR 17 1 v (some bs) = x ∧ ((v = 1 ∧ x = ({ (default : RecD) with kind := 1, tup := T, fb := f1 }, ok, nk o1 2)) ∨ (v = 2 ∧ x = ({ (default : RecD) with kind := 1, tup := T, fb := f1, fg := f2 }, ok, nk (nk o1 2) 4)) ∨ (v = 3 ∧ x = ({ (default : RecD) with kind := 1, tup := T, fb := f1, fg := f2, fs := f3 }, ok, nk (nk (nk o1 2) 4) 8))) := by
    rcases hv13 with rfl | rfl | rfl <;> simp [rdR, hT, ho1, hf1, hf2, hf3, default]
  obtain ⟨x, hx, hq⟩ := hq
  rw [hx]
  have ET := Lib.hid hT
  have E1 := Lib.hid ho1
  have E2 := Lib.hid hf1
  have E3 := Lib.hid hf2
  have E4 := Lib.hid hf3
  clear hT ho1 hf1 hf2 hf3 hx hv hv13 l2
  rcases hq with ⟨hv', hx⟩ | ⟨hv', hx⟩ | ⟨hv', hx⟩
  all_goals
    have HX := Lib.hid hx
    first
      | (have q2 : ¬ 2 ≤ v := by omega)
      | (have q2 : 2 ≤ v := by omega)
    first
      | (have q3 : ¬ 3 ≤ v := by omega)
      | (have q3 : 3 ≤ v := by omega)
    clear hv' hx
    go_enter Try.func78, Try.ntmps78
    go_upto_region 2 with (first
      | (go_at_call 79
         go_must (refine (TRead_any R.out).mono ?_)
         go_must (rintro e w1 ⟨rfl, h1, k1⟩)
         go_must (rw [ET.out])
         go_must (dsimp only)
         go_must (rw [E1.out] at h1)
         go_must (have B := Lib.hid (B.out.kept k1 (by simp; omega)))
         go_must (have hb1 := h1.lt)
         go_must (have R := Lib.hid h1)
         go_must (have K := Lib.hid (K.out.trans k1 (by simp)))
         go_must (clear h1 k1)))
    go_cut [8] (fun p wx => ∃ g, p = .pointer (some ⟨g, 0, none⟩) ∧ Blk wx g 26 #[.int .u32 (T.src.toNat : Nat), .int .u32 (T.dst.toNat : Nat), .int .i64 T.proto, .int .i64 T.sport, .int .i64 T.dport, .int .i64 f1, .int .i64 0, .int .i64 0] ∧ Blk wx w.heap.size 26 #[.int .u32 0, .int .u32 0, .int .i64 0, .int .i64 0, .int .i64 0, .int .i64 0, .int .i64 0, .int .i64 0] ∧ w.heap.size < g ∧ RWo W b (nk o1 2) wx ∧ Kept [b] w wx)
    case first =>
      have X0 := Lib.hid (show Blk (w1.alloc (.cells #[.int .u32 (T.src.toNat : Nat), .int .u32 (T.dst.toNat : Nat), .int .i64 T.proto, .int .i64 T.sport, .int .i64 T.dport] 24)) w1.heap.size 24 #[.int .u32 (T.src.toNat : Nat), .int .u32 (T.dst.toNat : Nat), .int .i64 T.proto, .int .i64 T.sport, .int .i64 T.dport] from by (repeat (first | (apply Blk.new'; simp; done) | apply Blk.alloc | apply Blk.drew)))
      have hw1 := B.out.lt
      go_region_held3 (fun w' => ∀ o, w'.cell? ⟨w1.heap.size, o, none⟩ = (#[.int .u32 (T.src.toNat : Nat), .int .u32 (T.dst.toNat : Nat), .int .i64 T.proto, .int .i64 T.sport, .int .i64 T.dport] : Array Value)[o]?) (exact Blk.cell (g := w1.heap.size) (t := 24) (by repeat (first | with_reducible exact X.out | with_reducible exact X0.out | with_reducible apply Blk.alloc | with_reducible apply Blk.drew | (with_reducible refine Blk.far ?_ (by simp <;> omega) _))))
        (first
         | (go_at_call 77
            go_must (refine (DU16 (R.out.go (by (repeat (first | exact Kept.refl _ _ | apply Kept.alloc | apply Kept.drew))))).mono ?_)
            go_must (rintro e w2 ⟨rfl, h1, k1⟩)
            go_must (rw [E2.out])
            go_must (have hb2 := h1.lt)
            first
              | (have kA : Kept [b] ((w1.alloc (.cells #[.int .u32 (T.src.toNat : Nat), .int .u32 (T.dst.toNat : Nat), .int .i64 T.proto, .int .i64 T.sport, .int .i64 T.dport] 24)).alloc (.cells #[.int .u32 0, .int .u32 0, .int .i64 0, .int .i64 0, .int .i64 0, .int .i64 0, .int .i64 0, .int .i64 0] 26)).drew w2 := by with_reducible exact k1
                 have hbA : b < w1.heap.size := hb1
                 have kB : Kept [] w1 ((w1.alloc (.cells #[.int .u32 (T.src.toNat : Nat), .int .u32 (T.dst.toNat : Nat), .int .i64 T.proto, .int .i64 T.sport, .int .i64 T.dport] 24)).alloc (.cells #[.int .u32 0, .int .u32 0, .int .i64 0, .int .i64 0, .int .i64 0, .int .i64 0, .int .i64 0, .int .i64 0] 26)).drew := by (repeat (first | exact Kept.refl _ _ | apply Kept.alloc | apply Kept.drew))
                 have kC := ((Kept.refl [b] w1).trans kB (by simp)).trans kA (by simp)
                 have X := Lib.hid (Blk.kept (g := w1.heap.size) (t := 24) (cs := #[.int .u32 (T.src.toNat : Nat), .int .u32 (T.dst.toNat : Nat), .int .i64 T.proto, .int .i64 T.sport, .int .i64 T.dport]) (by (repeat (first | (apply Blk.new'; simp; done) | apply Blk.alloc | apply Blk.drew))) kA (by simp; omega))
                 have F := Lib.hid (Blk.kept (g := w1.heap.size + 1) (t := 26) (cs := #[.int .u32 0, .int .u32 0, .int .i64 0, .int .i64 0, .int .i64 0, .int .i64 0, .int .i64 0, .int .i64 0]) (by (repeat (first | (apply Blk.new'; simp; done) | apply Blk.alloc | apply Blk.drew))) kA (by simp; omega))
                 have hcF := F.out.cell
                 have hfF := F.out.frozen
                 have hsF := F.out.lt)
              | (have kA : Kept [b] (w1.alloc (.cells #[.int .u32 (T.src.toNat : Nat), .int .u32 (T.dst.toNat : Nat), .int .i64 T.proto, .int .i64 T.sport, .int .i64 T.dport] 24)).drew w2 := by with_reducible exact k1
                 have kB : Kept [] w1 (w1.alloc (.cells #[.int .u32 (T.src.toNat : Nat), .int .u32 (T.dst.toNat : Nat), .int .i64 T.proto, .int .i64 T.sport, .int .i64 T.dport] 24)).drew := by (repeat (first | exact Kept.refl _ _ | apply Kept.alloc | apply Kept.drew))
                 have kC := ((Kept.refl [b] w1).trans kB (by simp)).trans kA (by simp)
                 have X := Lib.hid (Blk.kept (g := w1.heap.size) (t := 24) (cs := #[.int .u32 (T.src.toNat : Nat), .int .u32 (T.dst.toNat : Nat), .int .i64 T.proto, .int .i64 T.sport, .int .i64 T.dport]) (by (repeat (first | (apply Blk.new'; simp; done) | apply Blk.alloc | apply Blk.drew))) kA (by simp; omega))
                 have F := Lib.hid (Blk.new w2 26 #[.int .u32 0, .int .u32 0, .int .i64 0, .int .i64 0, .int .i64 0, .int .i64 0, .int .i64 0, .int .i64 0])
                 have hcF := F.out.cell
                 have hfF := F.out.frozen
                 have hsF := X.out.lt)
            go_must (have B := Lib.hid (B.out.kept kC (by simp; omega)))
            go_must (have R := Lib.hid h1)
            go_must (have K := Lib.hid (K.out.trans kC (by simp)))
            go_must (clear h1 k1 kA kB kC)))
      all_goals
        go_wp2
        go_meet
        case rel =>
          have hBl := B.out.lt
          have hk9 : Kept [w1.heap.size + 1] w2 (w2.setCells (w1.heap.size + 1) 0 [.int .u32 (T.src.toNat : Nat), .int .u32 (T.dst.toNat : Nat), .int .i64 T.proto, .int .i64 T.sport, .int .i64 T.dport, .int .i64 f1, .int .i64 0, .int .i64 0]) := Kept.setCells _ _ _ _ (Kept.refl _ _)
          first
            | (with_reducible exact ⟨_, rfl, Blk.new _ _ _, B.out.alloc _, hBl, R.out.go ((Kept.refl _ _).alloc _), K.out.alloc _⟩)
            | (exact ⟨w1.heap.size + 1, rfl, F.out.puts [.int .u32 (T.src.toNat : Nat), .int .u32 (T.dst.toNat : Nat), .int .i64 T.proto, .int .i64 T.sport, .int .i64 T.dport, .int .i64 f1, .int .i64 0, .int .i64 0] 0, B.out.kept hk9 (by simp; omega), by omega, R.out.other hk9 (by simp; omega), K.out.trans hk9 (fun i hi => .inr (by simp at hi; omega))⟩)
    case rest =>
      obtain ⟨g, rfl, hX, hB, hg, hR, hK⟩ := hcut
      have hbw := hR.lt
      have X := Lib.hid hX
      have B := Lib.hid hB
      have R := Lib.hid hR
      have K := Lib.hid hK
      have hcx := hX.cell
      have hgb : b < g := by omega
      clear hX hB hR hK
      go_wp2_with (first
        | (go_at_call 80
           go_must (refine (DU32 R.out).mono ?_)
           go_must (rintro e w7 ⟨rfl, h1, k1⟩)
           go_must (rw [E3.out])
           go_must (clear hcx)
           go_must (have X := Lib.hid (X.out.kept k1 (by simp; omega)))
           go_must (have B := Lib.hid (B.out.kept k1 (by simp; omega)))
           go_must (have hb7 := h1.lt)
           go_must (have R := Lib.hid h1)
           go_must (have K := Lib.hid (K.out.trans k1 (by simp)))
           go_must (clear h1 k1))
        | (with_reducible show wpList _ _ _ ({ dst := none, op := Op.store 3 (.tmp 23) (.tmp 22), type := _, pos := _, after := _, guard := _ } :: _) _ _
           go_must (refine wpList_putAt (t := 26) (v := .int .i64 (f2 : Nat)) rfl 3 (.tmp 23) (.tmp 22) rfl (by rfl) (by rfl) X.out (by simp [Value.cells]) (by kernel_rfl) (by simp [Value.cells, Value.oneCell']) ?_)
           go_must (intro w8 h1 k1)
           go_must (have X := Lib.hid (show Blk w8 (g) 26 #[.int .u32 (T.src.toNat : Nat), .int .u32 (T.dst.toNat : Nat), .int .i64 T.proto, .int .i64 T.sport, .int .i64 T.dport, .int .i64 f1, .int .i64 f2, .int .i64 0] from h1))
           go_must (have B := Lib.hid (B.out.kept k1 (by simp; omega)))
           go_must (have R := Lib.hid (R.out.other k1 (by simp; omega)))
           go_must (have hb8 := R.out.lt)
           go_must (have K := Lib.hid (K.out.trans k1 (fun i hi => .inr (by simp at hi; omega))))
           go_must (clear h1 k1)
           go_must (have hcx := X.out.cell))
        | (go_at_call 82
           go_must (refine (DI64 R.out).mono ?_)
           go_must (rintro e w10 ⟨rfl, h1, k1⟩)
           go_must (rw [E4.out])
           go_must (clear hcx)
           go_must (have X := Lib.hid (X.out.kept k1 (by simp; omega)))
           go_must (have B := Lib.hid (B.out.kept k1 (by simp; omega)))
           go_must (have hb10 := h1.lt)
           go_must (have R := Lib.hid h1)
           go_must (have K := Lib.hid (K.out.trans k1 (by simp)))
           go_must (clear h1 k1))
        | (with_reducible show wpList _ _ _ ({ dst := none, op := Op.store 2 (.tmp 28) (.tmp 27), type := _, pos := _, after := _, guard := _ } :: _) _ _
           go_must (refine wpList_putAt (t := 26) (v := .int .i64 f3) rfl 2 (.tmp 28) (.tmp 27) rfl (by rfl) (by rfl) X.out (by simp [Value.cells]) (by kernel_rfl) (by simp [Value.cells, Value.oneCell']) ?_)
           go_must (intro w11 h1 k1)
           go_must (have X := Lib.hid (show Blk w11 (g) 26 #[.int .u32 (T.src.toNat : Nat), .int .u32 (T.dst.toNat : Nat), .int .i64 T.proto, .int .i64 T.sport, .int .i64 T.dport, .int .i64 f1, .int .i64 f2, .int .i64 f3] from h1))
           go_must (have B := Lib.hid (B.out.kept k1 (by simp; omega)))
           go_must (have R := Lib.hid (R.out.other k1 (by simp; omega)))
           go_must (have hb11 := R.out.lt)
           go_must (have K := Lib.hid (K.out.trans k1 (fun i hi => .inr (by simp at hi; omega))))
           go_must (clear h1 k1)
           go_must (have hcx := X.out.cell))
        | ((with_reducible show wpList _ _ _ ({ dst := none, op := Op.store 26 (.tmp 4) (.tmp 29), type := _, pos := _, after := _, guard := _ } :: _) _ _); refine wpList_put (t := 26) rfl 26 (.tmp 4) (.tmp 29) rfl _ (by rfl) (by rfl) (by exact B.out) (by rfl) (by kernel_rfl) (by simp [Value.oneCell']) ?_; intro w9 hb9 hk9; have Hb9 := Lib.hid hb9; have Hk9 := Lib.hid hk9; clear hb9 hk9))
      refine bodyPost_ret (results_cell1 (t := 26) Try.results78 (by rfl) Hb9.out _ Try.underlying26 rfl (by kernel_rfl)) rfl ?_
      rw [HX.out]
      exact ⟨rfl, R.out.other Hk9.out (by simp; omega), K.out.trans Hk9.out (fun i hi => .inr (by simp at hi; omega))⟩
end Go.Proofs.Ytogdpfjbclnlnaa
