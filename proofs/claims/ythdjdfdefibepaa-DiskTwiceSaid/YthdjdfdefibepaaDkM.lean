
/-
  A disk that there isn't.
-/
import Derived.Test.YthdjdfdefibepaaDkL
import Derived.Test.YthdjdfdefibepaaArgs
import Derived.Deep.CondSized
namespace Go.Proofs.Ythdjdfdefibepaa
open Go.RowKit Go.ChangeShapes Go.WideShapes Go.ChangeAt Go.Deep Go.MapKept
set_option linter.unusedVariables false

theorem beginNil_any (w : World) : Calls Try.prog 38 #[.pointer none] w fun e w' => e = .returned (.int .i64 1) ∧ Kept [] w w' := by
  go_enter Try.func38, Try.ntmps38
  go_wp2
  go_ret
  exact ⟨rfl, by first | exact Kept.refl _ _ | exact (Kept.refl _ _).alloc _ | exact ((Kept.refl _ _).alloc _).alloc _⟩
theorem findNil_any (w : World) (x : ByteArray) : Calls Try.prog 42 #[.pointer none, .string x] w fun e w' => e = .returned (.tuple #[.pointer none, .int .i64 1]) ∧ Kept [] w w' := by
  go_enter Try.func42, Try.ntmps42
  go_wp2_with (first
    | (go_at_call 38
       refine (beginNil_any _).mono ?_
       rintro e w1 ⟨rfl, hk⟩
       have K1 := Lib.hid hk
       clear hk))
  go_ret2
  exact ⟨rfl, K1.out⟩
theorem FailNil_any (w : World) (n : Int) : Calls Try.prog 19 #[.pointer none, .int .i64 n] w fun e w' => e = .returned (.tuple #[]) ∧ Kept [] w w' := by
  go_enter Try.func19, Try.ntmps19
  go_wp2
  first
    | (refine bodyPost_ret (results_none rfl _ _ _) rfl ?_; exact ⟨rfl, by first | exact Kept.refl _ _ | exact (Kept.refl _ _).alloc _ | exact ((Kept.refl _ _).alloc _).alloc _⟩)
    | (go_end0; exact ⟨rfl, by first | exact Kept.refl _ _ | exact (Kept.refl _ _).alloc _ | exact ((Kept.refl _ _).alloc _).alloc _⟩)
theorem CrashNil_any (w : World) (A : Option Addr) (m c : Nat) : Calls Try.prog 24 #[.pointer none, .slice A m c] w fun e w' => e = .returned (.tuple #[]) ∧ Kept [] w w' := by
  go_enter Try.func24, Try.ntmps24
  go_wp2
  first
    | (refine bodyPost_ret (results_none rfl _ _ _) rfl ?_; exact ⟨rfl, by first | exact Kept.refl _ _ | exact (Kept.refl _ _).alloc _ | exact ((Kept.refl _ _).alloc _).alloc _⟩)
    | (go_end0; exact ⟨rfl, by first | exact Kept.refl _ _ | exact (Kept.refl _ _).alloc _ | exact ((Kept.refl _ _).alloc _).alloc _⟩)
theorem ReadNil_any (w : World) (x : ByteArray) : Calls Try.prog 25 #[.pointer none, .string x] w fun e w' => e = .returned (.tuple #[.slice none 0 0, .bool false]) ∧ Kept [] w w' := by
  go_enter Try.func25, Try.ntmps25
  go_wp2
  go_ret2
  exact ⟨rfl, by first | exact Kept.refl _ _ | exact (Kept.refl _ _).alloc _ | exact ((Kept.refl _ _).alloc _).alloc _⟩
theorem AppendNil_any (w : World) (x : ByteArray) (A : Option Addr) (m c : Nat) : Calls Try.prog 17 #[.pointer none, .string x, .slice A m c] w fun e w' => e = .returned (.int .i64 1) ∧ Kept [] w w' := by
  go_enter Try.func17, Try.ntmps17
  go_wp2_with (first
    | (go_at_call 38
       refine (beginNil_any _).mono ?_
       rintro e w1 ⟨rfl, hk⟩
       have K1 := Lib.hid hk
       clear hk))
  go_ret
  exact ⟨rfl, K1.out⟩
theorem SyncNil_any (w : World) (x : ByteArray) : Calls Try.prog 21 #[.pointer none, .string x] w fun e w' => e = .returned (.int .i64 1) ∧ Kept [] w w' := by
  go_enter Try.func21, Try.ntmps21
  go_wp2_with (first
    | (go_at_call 42
       refine (findNil_any _ x).mono ?_
       rintro e w1 ⟨rfl, hk⟩
       have K1 := Lib.hid hk
       clear hk))
  go_ret
  exact ⟨rfl, K1.out⟩
theorem SyncDirNil_any (w : World) : Calls Try.prog 22 #[.pointer none] w fun e w' => e = .returned (.int .i64 1) ∧ Kept [] w w' := by
  go_enter Try.func22, Try.ntmps22
  go_wp2_with (first
    | (go_at_call 38
       refine (beginNil_any _).mono ?_
       rintro e w1 ⟨rfl, hk⟩
       have K1 := Lib.hid hk
       clear hk))
  go_ret
  exact ⟨rfl, K1.out⟩
theorem RenameNil_any (w : World) (x y : ByteArray) : Calls Try.prog 23 #[.pointer none, .string x, .string y] w fun e w' => e = .returned (.int .i64 1) ∧ Kept [] w w' := by
  go_enter Try.func23, Try.ntmps23
  go_wp2_with (first
    | (go_at_call 42
       refine (findNil_any _ x).mono ?_
       rintro e w1 ⟨rfl, hk⟩
       have K1 := Lib.hid hk
       clear hk))
  go_ret
  exact ⟨rfl, K1.out⟩
theorem RemoveNil_any (w : World) (x : ByteArray) : Calls Try.prog 26 #[.pointer none, .string x] w fun e w' => e = .returned (.int .i64 1) ∧ Kept [] w w' := by
  go_enter Try.func26, Try.ntmps26
  go_wp2_with (first
    | (go_at_call 42
       refine (findNil_any _ x).mono ?_
       rintro e w1 ⟨rfl, hk⟩
       have K1 := Lib.hid hk
       clear hk))
  go_ret
  exact ⟨rfl, K1.out⟩
theorem CutNil_any (w : World) (x : ByteArray) (n : Int) : Calls Try.prog 27 #[.pointer none, .string x, .int .i64 n] w fun e w' => e = .returned (.int .i64 1) ∧ Kept [] w w' := by
  go_enter Try.func27, Try.ntmps27
  go_wp2_with (first
    | (go_at_call 42
       refine (findNil_any _ x).mono ?_
       rintro e w1 ⟨rfl, hk⟩
       have K1 := Lib.hid hk
       clear hk))
  go_ret
  exact ⟨rfl, K1.out⟩
theorem NamesNil_any (w : World) : Calls Try.prog 15 #[.pointer none] w fun e w' => e = .returned (.slice none 0 0) ∧ Kept [] w w' := by
  go_enter Try.func15, Try.ntmps15
  go_wp2
  go_ret
  exact ⟨rfl, by first | exact Kept.refl _ _ | exact (Kept.refl _ _).alloc _ | exact ((Kept.refl _ _).alloc _).alloc _⟩
theorem SizeNil_any (w : World) : Calls Try.prog 16 #[.pointer none] w fun e w' => e = .returned (.int .i64 0) ∧ Kept [] w w' := by
  go_enter Try.func16, Try.ntmps16
  go_wp2
  go_ret
  exact ⟨rfl, by first | exact Kept.refl _ _ | exact (Kept.refl _ _).alloc _ | exact ((Kept.refl _ _).alloc _).alloc _⟩
theorem OpsNil_any (w : World) : Calls Try.prog 20 #[.pointer none] w fun e w' => e = .returned (.int .i64 0) ∧ Kept [] w w' := by
  go_enter Try.func20, Try.ntmps20
  go_wp2
  go_ret
  exact ⟨rfl, by first | exact Kept.refl _ _ | exact (Kept.refl _ _).alloc _ | exact ((Kept.refl _ _).alloc _).alloc _⟩
theorem CopyNil_any (w : World) : Calls Try.prog 33 #[.pointer none] w fun e w' => e = .returned (.pointer none) ∧ Kept [] w w' := by
  go_enter Try.func33, Try.ntmps33
  go_wp2
  go_ret
  exact ⟨rfl, by first | exact Kept.refl _ _ | exact (Kept.refl _ _).alloc _ | exact ((Kept.refl _ _).alloc _).alloc _⟩
theorem QuotaNil_any (w : World) : Calls Try.prog 34 #[.pointer none] w fun e w' => e = .returned (.int .i64 0) ∧ Kept [] w w' := by
  go_enter Try.func34, Try.ntmps34
  go_wp2
  go_ret
  exact ⟨rfl, by first | exact Kept.refl _ _ | exact (Kept.refl _ _).alloc _ | exact ((Kept.refl _ _).alloc _).alloc _⟩
set_option maxHeartbeats 3200000 in
set_option maxRecDepth 100000 in
theorem DiskNil_walk0 (w : World) (k n : Int) (x y : ByteArray) (A : Option Addr) (m c : Nat) : Calls Try.prog 10 #[.agg #[.int .i64 k, .int .i64 n, .string x, .string y, .slice A m c]] w fun e w' => e = .returned (.bool true) ∧ Kept [] w w' := by
  have B0 := Lib.hid (Blk.new w 30 #[.int .i64 k, .int .i64 n, .string x, .string y, .slice A m c])
  have K0 := Lib.hid (show Kept [] w (w.alloc (.cells #[.int .i64 k, .int .i64 n, .string x, .string y, .slice A m c] 30)) from (Kept.refl _ _).alloc _)
  have hc0 := B0.out.cell
  go_enter Try.func10, Try.ntmps10
  go_wp2_with (first
    | (go_at_call 19
       refine (FailNil_any _ n).mono ?_
       rintro e w1 ⟨rfl, hk⟩
       have B1 := Lib.hid (B0.out.kept hk (by simp))
       have K1 := Lib.hid (K0.out.trans hk (by simp))
       have hc1 := B1.out.cell
       clear hk hc0)
    | (go_at_call 24
       refine (CrashNil_any _ A m c).mono ?_
       rintro e w2 ⟨rfl, hk⟩
       have B2 := Lib.hid (B1.out.kept hk (by simp))
       have K2 := Lib.hid (K1.out.trans hk (by simp))
       have hc2 := B2.out.cell
       clear hk hc1)
    | (go_at_call 25
       refine (ReadNil_any _ x).mono ?_
       rintro e w3 ⟨rfl, hk⟩
       have B3 := Lib.hid (B2.out.kept hk (by simp))
       have K3 := Lib.hid (K2.out.trans hk (by simp))
       have hc3 := B3.out.cell
       clear hk hc2)
    | (go_at_call 17
       refine (AppendNil_any _ x A m c).mono ?_
       rintro e w4 ⟨rfl, hk⟩
       have B4 := Lib.hid (B3.out.kept hk (by simp))
       have K4 := Lib.hid (K3.out.trans hk (by simp))
       have hc4 := B4.out.cell
       clear hk hc3)
    | (go_at_call 21
       refine (SyncNil_any _ x).mono ?_
       rintro e w5 ⟨rfl, hk⟩
       have B5 := Lib.hid (B4.out.kept hk (by simp))
       have K5 := Lib.hid (K4.out.trans hk (by simp))
       have hc5 := B5.out.cell
       clear hk hc4)
    | (go_at_call 22
       refine (SyncDirNil_any _ ).mono ?_
       rintro e w6 ⟨rfl, hk⟩
       have B6 := Lib.hid (B5.out.kept hk (by simp))
       have K6 := Lib.hid (K5.out.trans hk (by simp))
       have hc6 := B6.out.cell
       clear hk hc5)
    | (go_at_call 23
       refine (RenameNil_any _ x y).mono ?_
       rintro e w7 ⟨rfl, hk⟩
       have B7 := Lib.hid (B6.out.kept hk (by simp))
       have K7 := Lib.hid (K6.out.trans hk (by simp))
       have hc7 := B7.out.cell
       clear hk hc6)
    | (go_at_call 26
       refine (RemoveNil_any _ x).mono ?_
       rintro e w8 ⟨rfl, hk⟩
       have B8 := Lib.hid (B7.out.kept hk (by simp))
       have K8 := Lib.hid (K7.out.trans hk (by simp))
       have hc8 := B8.out.cell
       clear hk hc7)
    | (go_at_call 27
       refine (CutNil_any _ x n).mono ?_
       rintro e w9 ⟨rfl, hk⟩
       have B9 := Lib.hid (B8.out.kept hk (by simp))
       have K9 := Lib.hid (K8.out.trans hk (by simp))
       have hc9 := B9.out.cell
       clear hk hc8)
    | (go_at_call 15
       refine (NamesNil_any _ ).mono ?_
       rintro e w10 ⟨rfl, hk⟩
       have B10 := Lib.hid (B9.out.kept hk (by simp))
       have K10 := Lib.hid (K9.out.trans hk (by simp))
       have hc10 := B10.out.cell
       clear hk hc9)
    | (go_at_call 16
       refine (SizeNil_any _ ).mono ?_
       rintro e w11 ⟨rfl, hk⟩
       have B11 := Lib.hid (B10.out.kept hk (by simp))
       have K11 := Lib.hid (K10.out.trans hk (by simp))
       have hc11 := B11.out.cell
       clear hk hc10)
    | (go_at_call 20
       refine (OpsNil_any _ ).mono ?_
       rintro e w12 ⟨rfl, hk⟩
       have B12 := Lib.hid (B11.out.kept hk (by simp))
       have K12 := Lib.hid (K11.out.trans hk (by simp))
       have hc12 := B12.out.cell
       clear hk hc11)
    | (go_at_call 33
       refine (CopyNil_any _ ).mono ?_
       rintro e w13 ⟨rfl, hk⟩
       have B13 := Lib.hid (B12.out.kept hk (by simp))
       have K13 := Lib.hid (K12.out.trans hk (by simp))
       have hc13 := B13.out.cell
       clear hk hc12)
    | (go_at_call 34
       refine (QuotaNil_any _ ).mono ?_
       rintro e w14 ⟨rfl, hk⟩
       have B14 := Lib.hid (B13.out.kept hk (by simp))
       have K14 := Lib.hid (K13.out.trans hk (by simp))
       have hc14 := B14.out.cell
       clear hk hc13)
    | (go_at_call 13
       refine (awake3_any _).mono ?_
       rintro e w15 ⟨rfl, hk⟩
       have K15 := Lib.hid (K14.out.trans hk (by simp))
       clear hk))
  go_ret
  exact ⟨rfl, K15.out⟩
section
variable {H : Type} {enc : TypeId × Value → H} {w : World}
set_option maxRecDepth 100000 in
theorem open_dcall_cells {fuel : Nat} {cs : List Value} {x : DataW H × List MemPlace} (h : DataW.trod enc Try.prog w 0 (fun _ => true) true fuel 30 cs = some x) :
    ∃ (k n : Int) (a b : ByteArray) (A : Option Addr) (m c : Nat) (bs : List UInt8), cs = [.int .i64 k, .int .i64 n, .string a, .string b, .slice A m c] ∧ RdB w (old w) (.slice A m c) bs ∧ (Lit.int .i64 k).wf = true ∧ (Lit.int .i64 n).wf = true ∧ a.size ≤ maxLen ∧ b.size ≤ maxLen := by
  obtain ⟨xs, n, _, hx, hlen, hxl, hf⟩ := DataW.trod_struct Try.underlying30 h
  have hl3 : cs.length = 5 := hlen.trans (by kernel_rfl)
  match cs, hl3 with
  | [c0, c1, c2, c3, c4], _ =>
    match xs, hxl with
    | [x0, x1, x2, x3, x4], _ =>
      have f0 := hf 0 _ rfl
      have f1 := hf 1 _ rfl
      have f2 := hf 2 _ rfl
      have f3 := hf 3 _ rfl
      have f4 := hf 4 _ rfl
      have k3 : Try.prog.cellsOf 3 = 1 := by kernel_rfl
      have k9 : Try.prog.cellsOf 9 = 1 := by kernel_rfl
      have k24 : Try.prog.cellsOf 28 = 1 := by kernel_rfl
      simp [k3, k9, k24] at f0 f1 f2 f3 f4
      obtain ⟨a, e0, _, wa⟩ := DataW.trod_int Try.underlying3 f0
      obtain ⟨b, e1, _, wb⟩ := DataW.trod_int Try.underlying3 f1
      obtain ⟨s, e2, _, ws⟩ := DataW.trod_string Try.underlying9 f2
      obtain ⟨t, e3, _, wt⟩ := DataW.trod_string Try.underlying9 f3
      obtain ⟨v, bs, e4, hr, hb, _⟩ := open_bytes Try.underlying28 f4
      injection e0 with e0; injection e1 with e1; injection e2 with e2; injection e3 with e3; injection e4 with e4
      subst e0 e1 e2 e3 e4
      obtain ⟨A, m, c, rfl, _⟩ := id hr
      exact ⟨a, b, s, t, A, m, c, bs, rfl, hr, wa, wb, ws, wt⟩
set_option maxRecDepth 100000 in
theorem DiskNil_walk {H : Type} {enc : TypeId × Value → H} {S : Prop} (W : World) (base : Nat) (v0 : Value) (d0 : DataW H) (p0 : List MemPlace)
    (hv0 : Value.okWide Try.prog W .any base 30 v0) (h0 : DataW.Trod enc Try.prog W 0 (fun _ => true) true 30 v0 d0 p0) (_ : S) :
    Calls Try.prog 10 #[v0] W fun e W' => e = .returned (.bool true) ∧ Below W.heap.size W W' := by
  obtain ⟨cs, rfl, _⟩ := okWide_struct Try.underlying30 hv0
  obtain ⟨fuel, hf⟩ := h0
  obtain ⟨k, n, a, b, A, m, c, bs, e, hr, _⟩ := open_dcall_cells hf
  have e : cs.toList = [.int .i64 k, .int .i64 n, .string a, .string b, .slice A m c] := by simpa [Value.cells] using e
  rw [← Array.toArray_toList (xs := cs), e]
  exact (DiskNil_walk0 W k n a b A m c).mono fun e W' ⟨h, hk⟩ => ⟨h, hk.below (Nat.le_refl _) (by simp)⟩
end
end Go.Proofs.Ythdjdfdefibepaa
