
/-
  A state that there isn't.
-/
import Derived.Test.YtdabbkkjmmbigaaStN
import Derived.Test.YtdabbkkjmmbigaaRecZ
namespace Go.Proofs.Ytdabbkkjmmbigaa
open Go.RowKit Go.ChangeShapes Go.WideShapes Go.ChangeAt Go.Deep Go.MapKept
set_option linter.unusedVariables false

theorem GetNil_any (w : World) (k : TupD) : Calls Try.prog 14 #[.pointer none, .agg #[.int .u32 (k.src.toNat : Nat), .int .u32 (k.dst.toNat : Nat), .int .i64 k.proto, .int .i64 k.sport, .int .i64 k.dport]] w fun e w' => e = .returned (.tuple #[.agg #[.int .u32 0, .int .u32 0, .int .i64 0, .int .i64 0, .int .i64 0, .int .i64 0, .int .i64 0, .int .i64 0], .bool false]) ∧ Kept [] w w' := by
  have K := Lib.hid (show Kept [] w ((w.alloc (.cells #[.int .u32 (k.src.toNat : Nat), .int .u32 (k.dst.toNat : Nat), .int .i64 k.proto, .int .i64 k.sport, .int .i64 k.dport] 29)).alloc (.cells #[.int .u32 0, .int .u32 0, .int .i64 0, .int .i64 0, .int .i64 0, .int .i64 0, .int .i64 0, .int .i64 0] 31)) from by (repeat (first | exact Kept.refl _ _ | apply Kept.alloc | apply Kept.drew)))
  have B := Lib.hid (show Blk ((w.alloc (.cells #[.int .u32 (k.src.toNat : Nat), .int .u32 (k.dst.toNat : Nat), .int .i64 k.proto, .int .i64 k.sport, .int .i64 k.dport] 29)).alloc (.cells #[.int .u32 0, .int .u32 0, .int .i64 0, .int .i64 0, .int .i64 0, .int .i64 0, .int .i64 0, .int .i64 0] 31)) (w.heap.size + 1) 31 #[.int .u32 0, .int .u32 0, .int .i64 0, .int .i64 0, .int .i64 0, .int .i64 0, .int .i64 0, .int .i64 0] from by (repeat (first | (apply Blk.new'; simp; done) | apply Blk.alloc | apply Blk.drew)))
  go_enter Try.func14, Try.ntmps14
  go_wp2
  refine bodyPost_ret (results_cell1 (t := 31) Try.results14 (by rfl) B.out _ Try.underlying31 rfl (by kernel_rfl)) rfl ?_
  exact ⟨rfl, K.out⟩
theorem ViewNil_any (w : World) : Calls Try.prog 15 #[.pointer none] w fun e w' => e = .returned (.agg #[.int .i64 0, .slice none 0 0, .slice none 0 0, .slice none 0 0]) ∧ Kept [] w w' := by
  have K := Lib.hid (show Kept [] w (w.alloc (.cells #[.int .i64 0, .slice none 0 0, .slice none 0 0, .slice none 0 0] 45)) from by (repeat (first | exact Kept.refl _ _ | apply Kept.alloc | apply Kept.drew)))
  have B := Lib.hid (show Blk (w.alloc (.cells #[.int .i64 0, .slice none 0 0, .slice none 0 0, .slice none 0 0] 45)) w.heap.size 45 #[.int .i64 0, .slice none 0 0, .slice none 0 0, .slice none 0 0] from by (repeat (first | (apply Blk.new'; simp; done) | apply Blk.alloc | apply Blk.drew)))
  go_enter Try.func15, Try.ntmps15
  go_wp2
  refine bodyPost_ret (results_cell (t := 45) Try.results15 (by rfl) B.out _ Try.underlying45 rfl (by kernel_rfl)) rfl ?_
  exact ⟨rfl, K.out⟩
set_option maxRecDepth 100000 in
theorem ApplyNil_any (w : World) (r : RecD) (A : Option Addr) (m c : Nat) : Calls Try.prog 10 #[.pointer none, .agg #[.int .i64 r.kind, .int .u32 (r.tup.src.toNat : Nat), .int .u32 (r.tup.dst.toNat : Nat), .int .i64 r.tup.proto, .int .i64 r.tup.sport, .int .i64 r.tup.dport, .int .i64 r.fb, .int .i64 r.fg, .int .i64 r.fs, .int .i64 r.gen, .slice A m c, .int .i64 r.back, .int .i64 r.until_, .int .i64 r.count]] w fun e w' => e = .returned (.int .i64 1) ∧ Kept [] w w' := by
  have K := Lib.hid (show Kept [] w (w.alloc (.cells #[.int .i64 r.kind, .int .u32 (r.tup.src.toNat : Nat), .int .u32 (r.tup.dst.toNat : Nat), .int .i64 r.tup.proto, .int .i64 r.tup.sport, .int .i64 r.tup.dport, .int .i64 r.fb, .int .i64 r.fg, .int .i64 r.fs, .int .i64 r.gen, .slice A m c, .int .i64 r.back, .int .i64 r.until_, .int .i64 r.count] 34)) from by (repeat (first | exact Kept.refl _ _ | apply Kept.alloc | apply Kept.drew)))
  go_enter Try.func10, Try.ntmps10
  go_wp2
  go_ret
  exact ⟨rfl, K.out⟩
theorem RecordsNil_any (w : World) : Calls Try.prog 22 #[.pointer none] w fun e w' => e = .returned (.slice none 0 0) ∧ Kept [] w w' := by
  go_enter Try.func22, Try.ntmps22
  go_wp2
  go_ret
  exact ⟨rfl, Kept.refl _ _⟩
theorem LenNil_any (w : World) : Calls Try.prog 11 #[.pointer none] w fun e w' => e = .returned (.int .i64 0) ∧ Kept [] w w' := by
  go_enter Try.func11, Try.ntmps11
  go_wp2
  go_ret
  exact ⟨rfl, Kept.refl _ _⟩
theorem CopyNil_any (w : World) : Calls Try.prog 24 #[.pointer none] w fun e w' => e = .returned (.pointer none) ∧ Kept [] w w' := by
  go_enter Try.func24, Try.ntmps24
  go_wp2
  go_ret
  exact ⟨rfl, Kept.refl _ _⟩
set_option maxHeartbeats 3200000 in
set_option maxRecDepth 100000 in
theorem StateNil_walk0 (w : World) (r : RecD) (A : Option Addr) (m c : Nat) : Calls Try.prog 7 #[.agg #[.int .i64 r.kind, .int .u32 (r.tup.src.toNat : Nat), .int .u32 (r.tup.dst.toNat : Nat), .int .i64 r.tup.proto, .int .i64 r.tup.sport, .int .i64 r.tup.dport, .int .i64 r.fb, .int .i64 r.fg, .int .i64 r.fs, .int .i64 r.gen, .slice A m c, .int .i64 r.back, .int .i64 r.until_, .int .i64 r.count]] w fun e w' => e = .returned (.bool true) ∧ Kept [] w w' := by
  have B1 := Lib.hid (Blk.new w 34 #[.int .i64 r.kind, .int .u32 (r.tup.src.toNat : Nat), .int .u32 (r.tup.dst.toNat : Nat), .int .i64 r.tup.proto, .int .i64 r.tup.sport, .int .i64 r.tup.dport, .int .i64 r.fb, .int .i64 r.fg, .int .i64 r.fs, .int .i64 r.gen, .slice A m c, .int .i64 r.back, .int .i64 r.until_, .int .i64 r.count])
  have K1 := Lib.hid (show Kept [] w (w.alloc (.cells #[.int .i64 r.kind, .int .u32 (r.tup.src.toNat : Nat), .int .u32 (r.tup.dst.toNat : Nat), .int .i64 r.tup.proto, .int .i64 r.tup.sport, .int .i64 r.tup.dport, .int .i64 r.fb, .int .i64 r.fg, .int .i64 r.fs, .int .i64 r.gen, .slice A m c, .int .i64 r.back, .int .i64 r.until_, .int .i64 r.count] 34)) from by (repeat (first | exact Kept.refl _ _ | apply Kept.alloc | apply Kept.drew)))
  have hc1 := B1.out.cell
  go_enter Try.func7, Try.ntmps7
  go_wp2_with (first
    | (go_at_call 14
       refine (GetNil_any _ r.tup).mono ?_
       rintro e w2 ⟨rfl, hk⟩
       have hkk := hk.alloc (.cells #[.int .u32 0, .int .u32 0, .int .i64 0, .int .i64 0, .int .i64 0, .int .i64 0, .int .i64 0, .int .i64 0] 31)
       have B2 := Lib.hid (B1.out.kept hkk (by simp))
       have K2 := Lib.hid (K1.out.trans hkk (by simp))
       clear hk hkk hc1)
    | (go_at_call 15
       refine (ViewNil_any _).mono ?_
       rintro e w3 ⟨rfl, hk⟩
       have hkk := hk.alloc (.cells #[.int .i64 0, .slice none 0 0, .slice none 0 0, .slice none 0 0] 45)
       have B3 := Lib.hid (B2.out.kept hkk (by simp))
       have K3 := Lib.hid (K2.out.trans hkk (by simp))
       have V3 := Lib.hid (Blk.new w3 45 #[.int .i64 0, .slice none 0 0, .slice none 0 0, .slice none 0 0])
       have hc3 := B3.out.cell
       clear hk hkk)
    | (go_at_call 10
       refine (ApplyNil_any _ r A m c).mono ?_
       rintro e w4 ⟨rfl, hk⟩
       have V4 := Lib.hid (V3.out.kept hk (by simp))
       have hv4 := V4.out.cell
       have K4 := Lib.hid (K3.out.trans hk (by simp))
       clear hk hc3)
    | (go_at_call 22
       refine (RecordsNil_any _).mono ?_
       rintro e w5 ⟨rfl, hk⟩
       have K5 := Lib.hid (K4.out.trans hk (by simp))
       clear hk)
    | (go_at_call 11
       refine (LenNil_any _).mono ?_
       rintro e w6 ⟨rfl, hk⟩
       have K6 := Lib.hid (K5.out.trans hk (by simp))
       clear hk)
    | (go_at_call 24
       refine (CopyNil_any _).mono ?_
       rintro e w7 ⟨rfl, hk⟩
       have K7 := Lib.hid (K6.out.trans hk (by simp))
       clear hk)
    | (go_at_call 12
       refine (awake14_any _).mono ?_
       rintro e w8 ⟨rfl, hk⟩
       have K8 := Lib.hid (K7.out.trans hk (by simp))
       clear hk))
  go_ret
  exact ⟨rfl, K8.out⟩
set_option maxRecDepth 100000 in
theorem StateNil_walk {H : Type} {enc : TypeId × Value → H} {S : Prop} (W : World) (base : Nat) (v0 : Value) (d0 : DataW H) (p0 : List MemPlace)
    (hv0 : Value.okWide Try.prog W .any base 34 v0) (h0 : DataW.Trod enc Try.prog W 0 (fun _ => true) true 34 v0 d0 p0) (_ : S) :
    Calls Try.prog 7 #[v0] W fun e W' => e = .returned (.bool true) ∧ Below W.heap.size W W' := by
  obtain ⟨r, A, m, c, rfl, hr⟩ := open_record hv0 h0
  exact (StateNil_walk0 W r A m c).mono fun e W' ⟨h, hk⟩ => ⟨h, hk.below (Nat.le_refl _) (by simp)⟩
end Go.Proofs.Ytdabbkkjmmbigaa
