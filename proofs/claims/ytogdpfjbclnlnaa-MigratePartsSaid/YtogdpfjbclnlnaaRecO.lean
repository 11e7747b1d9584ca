
/-
  The walk of the reference's ReadTuple, of its Decode.
-/
import Derived.Test.YtogdpfjbclnlnaaRecK
import Derived.Test.YtogdpfjbclnlnaaFrameR
import Derived.Deep.CutBlock
namespace Go.Proofs.Ytogdpfjbclnlnaa
open Go.RowKit Go.ChangeShapes Go.WideShapes Go.Deep
set_option linter.unusedVariables false

theorem RW.ecell {t : TypeId} {W w : World} {b : Nat} {o : Option (List UInt8)} (h : RW t W b o w) : w.cell? ⟨b, 1, none⟩ = some (.int .i64 (erO o)) := by
  obtain ⟨G, ⟨⟨v, h, _⟩, _⟩, _⟩ := h
  have := h.cell 1
  simpa using this
set_option maxHeartbeats 3200000 in
theorem rTRead_any {W w : World} {b : Nat} {bs : List UInt8} (h : RWr W b (some bs) w) :
    Calls Try.prog 63 #[.pointer (some ⟨b, 0, none⟩)] w fun e w' => e = .returned (.tuple #[.agg #[.int .u32 ((rdT (some bs)).1.src.toNat : Nat), .int .u32 ((rdT (some bs)).1.dst.toNat : Nat), .int .i64 (rdT (some bs)).1.proto, .int .i64 (rdT (some bs)).1.sport, .int .i64 (rdT (some bs)).1.dport], .bool (rdT (some bs)).2]) ∧ RWr W b (nk (some bs) 13) w' ∧ Kept [b] w w' := by
  have hk0 : Kept [b] w (w.alloc (.cells #[.int .u32 0, .int .u32 0, .int .i64 0, .int .i64 0, .int .i64 0] 24)) := (Kept.refl _ _).alloc _
  have B := Lib.hid (show Blk (w.alloc (.cells #[.int .u32 0, .int .u32 0, .int .i64 0, .int .i64 0, .int .i64 0] 24)) w.heap.size 24 #[.int .u32 0, .int .u32 0, .int .i64 0, .int .i64 0, .int .i64 0] from by (repeat (first | (apply Blk.new'; simp; done) | apply Blk.alloc | apply Blk.drew)))
  have R := Lib.hid (h.go ((Kept.refl [] w).alloc (.cells #[.int .u32 0, .int .u32 0, .int .i64 0, .int .i64 0, .int .i64 0] 24)))
  have hb := h.lt
  have K := Lib.hid hk0
  clear h hk0
  obtain ⟨T, hT⟩ : ∃ T, tupOf (some bs) = T := ⟨_, rfl⟩
  have E1 := Lib.hid (show ((gk (some bs) 4 : Nat) : Int) = (T.src.toNat : Nat) by rw [← hT]; simp only [tupOf, gad_nat])
  have E2 := Lib.hid (show ((gk (nk (some bs) 4) 4 : Nat) : Int) = (T.dst.toNat : Nat) by rw [← hT]; simp only [tupOf, gad_nat])
  have E3 := Lib.hid (show ((gk (nk (nk (some bs) 4) 4) 1 : Nat) : Int) = T.proto by rw [← hT]; rfl)
  have E4 := Lib.hid (show ((gk (nk (nk (nk (some bs) 4) 4) 1) 2 : Nat) : Int) = T.sport by rw [← hT]; rfl)
  have E5 := Lib.hid (show ((gk (nk (nk (nk (nk (some bs) 4) 4) 1) 2) 2 : Nat) : Int) = T.dport by rw [← hT]; rfl)
  have hr : rdT (some bs) = if (nk (some bs) 13).isSome && mayT T then (T, true) else (default, false) := by simp [rdT, hT]
  have hN := Lib.hid (nkT_eq (some bs))
  have hE : erO (nk (nk (nk (nk (nk (some bs) 4) 4) 1) 2) 2) = if (nk (some bs) 13).isSome then 0 else 2 := by
    have := nkT_eq (some bs)
    unfold nkT at this
    rw [this]
    rfl
  cases hs : (nk (some bs) 13).isSome <;> cases hm : mayT T
  all_goals
    rw [hs, hm] at hr
    rw [hs] at hE
    have hq := Lib.hid hr
    have HE := Lib.hid hE
    clear hr hE hs hT
    go_enter Try.func63, Try.ntmps63
    go_wp2_with (first
      | (go_at_call 65
         go_must (refine (EU32 R.out).mono ?_)
         go_must (rintro e w1 ⟨rfl, h1, k1⟩)
         go_must (first | rw [E1.out] | rw [E2.out])
         go_must (have B := Lib.hid (B.out.kept k1 (by simp <;> omega)))
         go_must (have hb1 := h1.lt)
         go_must (have R := Lib.hid h1)
         go_must (have K := Lib.hid (K.out.trans k1 (by simp)))
         go_must (clear h1 k1))
      | (go_at_call 67
         go_must (refine (EU8 R.out).mono ?_)
         go_must (rintro e w3 ⟨rfl, h1, k1⟩)
         go_must (rw [E3.out])
         go_must (have B := Lib.hid (B.out.kept k1 (by simp <;> omega)))
         go_must (have hb3 := h1.lt)
         go_must (have R := Lib.hid h1)
         go_must (have K := Lib.hid (K.out.trans k1 (by simp)))
         go_must (clear h1 k1))
      | (go_at_call 64
         go_must (refine (EU16 R.out).mono ?_)
         go_must (rintro e w4 ⟨rfl, h1, k1⟩)
         go_must (first | rw [E4.out] | rw [E5.out])
         go_must (have B := Lib.hid (B.out.kept k1 (by simp <;> omega)))
         go_must (have hb4 := h1.lt)
         go_must (have R := Lib.hid h1)
         go_must (have K := Lib.hid (K.out.trans k1 (by simp)))
         go_must (clear h1 k1)
         go_must (first | (have hcr := (R.out.go ((Kept.refl [] w4).alloc (.cells #[.int .u32 (T.src.toNat : Nat), .int .u32 (T.dst.toNat : Nat), .int .i64 T.proto, .int .i64 T.sport, .int .i64 T.dport] 24))).ecell; rw [HE.out] at hcr; simp only [if_true, if_false, Bool.false_eq_true] at hcr) | (clear hcr) | skip))
      | (go_at_call 55
         go_must (refine (rtMay_any _ T).mono ?_)
         go_must (rintro e w6 ⟨rfl, k1⟩)
         go_must (rw [hm])
         go_must (have X := Lib.hid ((show Blk (w4.alloc (.cells #[.int .u32 (T.src.toNat : Nat), .int .u32 (T.dst.toNat : Nat), .int .i64 T.proto, .int .i64 T.sport, .int .i64 T.dport] 24)) w4.heap.size 24 #[.int .u32 (T.src.toNat : Nat), .int .u32 (T.dst.toNat : Nat), .int .i64 T.proto, .int .i64 T.sport, .int .i64 T.dport] from by (repeat (first | (apply Blk.new'; simp; done) | apply Blk.alloc | apply Blk.drew))).kept k1 (by simp)))
         go_must (have hcx := X.out.cell)
         go_must (have B := Lib.hid ((B.out.alloc _).kept k1 (by simp)))
         go_must (have R := Lib.hid ((R.out.go ((Kept.refl [] w4).alloc _)).go k1))
         go_must (have K := Lib.hid ((K.out.alloc _).trans k1 (by simp)))
         go_must (clear k1 hcr))
      | ((with_reducible show wpList _ _ _ ({ dst := none, op := Op.store 24 (.tmp 2) (.tmp 26), type := _, pos := _, after := _, guard := _ } :: _) _ _); refine wpList_put (t := 24) rfl 24 (.tmp 2) (.tmp 26) rfl _ (by rfl) (by rfl) (by exact B.out) (by rfl) (by kernel_rfl) (by simp [Value.oneCell']) ?_; intro w9 hb9 hk9; have Hb9 := Lib.hid hb9; have Hk9 := Lib.hid hk9; clear hb9 hk9)
      | ((with_reducible show wpList _ _ _ ({ dst := none, op := Op.store 24 (.tmp 2) (.tmp 26), type := _, pos := _, after := _, guard := _ } :: _) _ _); refine wpList_put (t := 24) rfl 24 (.tmp 2) (.tmp 26) rfl _ (by rfl) (by rfl) (by exact B.out.alloc _) (by rfl) (by kernel_rfl) (by simp [Value.oneCell']) ?_; intro w9 hb9 hk9; have Hb9 := Lib.hid hb9; have Hk9 := Lib.hid hk9; clear hb9 hk9)
      | ((with_reducible show wpList _ _ _ ({ dst := none, op := Op.store 24 (.tmp 2) (.tmp 27), type := _, pos := _, after := _, guard := _ } :: _) _ _); refine wpList_put (t := 24) rfl 24 (.tmp 2) (.tmp 27) rfl _ (by rfl) (by rfl) (by exact B.out) (by rfl) (by kernel_rfl) (by simp [Value.oneCell']) ?_; intro w9 hb9 hk9; have Hb9 := Lib.hid hb9; have Hk9 := Lib.hid hk9; clear hb9 hk9))
    refine bodyPost_ret (results_cell1 (t := 24) Try.results63 (by rfl) Hb9.out _ Try.underlying24 rfl (by kernel_rfl)) rfl ?_
    rw [hq.out]
    first
      | (have hK9 := K.out.trans Hk9.out (fun i hi => .inr (by simp at hi; omega))
         have hR9 := R.out.other Hk9.out (by simp; omega))
      | (have hK9 := (K.out.alloc _).trans Hk9.out (fun i hi => .inr (by simp at hi; omega))
         have hR9 := (R.out.go ((Kept.refl _ _).alloc _)).other Hk9.out (by simp; omega))
    exact ⟨rfl, hN.out ▸ hR9, hK9⟩
end Go.Proofs.Ytogdpfjbclnlnaa
