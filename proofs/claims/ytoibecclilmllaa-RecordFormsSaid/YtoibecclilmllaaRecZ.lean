
/-
  Arguments of the laws on records, opened.
-/
import Derived.Test.YtoibecclilmllaaRecD
import Derived.Test.YtoibecclilmllaaArgs
namespace Go.Proofs.Ytoibecclilmllaa
open Go.RowKit Go.ChangeShapes Go.WideShapes Go.ChangeAt Go.Deep
set_option linter.unusedVariables false
section
variable {H : Type} {enc : TypeId × Value → H} {w : World}
theorem u32_of {n : Int} (h : (Lit.int .u32 n).wf = true) : ∃ x : UInt32, n = (x.toNat : Nat) := by
  simp [Lit.wf, IntKind.min, IntKind.max, IntKind.signed, IntKind.bits] at h
  refine ⟨UInt32.ofNat n.toNat, ?_⟩
  simp only [UInt32.toNat_ofNat']
  omega
set_option maxRecDepth 100000 in
theorem open_back {fuel : Nat} {cs : List Value} {x : DataW H × List MemPlace} (h : DataW.trod enc Try.prog w 0 (fun _ => true) true fuel 45 cs = some x) :
    ∃ b : BackD, BkDec w (old w) cs b ∧ 0 ≤ Rows.uptoBulk x.1 := by
  obtain ⟨xs, n, _, hx, hlen, hxl, hf⟩ := DataW.trod_struct Try.underlying45 h
  have hl3 : cs.length = 3 := hlen.trans (by kernel_rfl)
  match cs, hl3 with
  | [c0, c1, c2], _ =>
    match xs, hxl with
    | [x0, x1, x2], _ =>
      have f0 := hf 0 _ rfl
      have f1 := hf 1 _ rfl
      have f2 := hf 2 _ rfl
      have k3 : Try.prog.cellsOf 3 = 1 := by kernel_rfl
      have k22 : Try.prog.cellsOf 22 = 1 := by kernel_rfl
      simp [k3, k22] at f0 f1 f2
      obtain ⟨a, e0, _, _⟩ := DataW.trod_int Try.underlying3 f0
      obtain ⟨b, e1, _, wb⟩ := DataW.trod_int Try.underlying22 f1
      obtain ⟨c, e2, _, wc⟩ := DataW.trod_int Try.underlying3 f2
      injection e0 with e0; injection e1 with e1; injection e2 with e2
      subst e0 e1 e2
      obtain ⟨y, rfl⟩ := u32_of wb
      exact ⟨⟨a, y, c⟩, rfl, Nat.zero_le _⟩
set_option maxRecDepth 100000 in
theorem open_tuple {fuel : Nat} {cs : List Value} {x : DataW H × List MemPlace} (h : DataW.trod enc Try.prog w 0 (fun _ => true) true fuel 24 cs = some x) : ∃ t : TupD, cs = [.int .u32 (t.src.toNat : Nat), .int .u32 (t.dst.toNat : Nat), .int .i64 t.proto, .int .i64 t.sport, .int .i64 t.dport] := by
  obtain ⟨xs, n, _, hx, hlen, hxl, hf⟩ := DataW.trod_struct Try.underlying24 h
  have hl3 : cs.length = 5 := hlen.trans (by kernel_rfl)
  match cs, hl3 with
  | [c0, c1, c2, c3, c4], _ =>
    match xs, hxl with
    | [x0, x1, x2, x3, x4], _ =>
      have f0 := hf 0 _ rfl
      have f1 := hf 1 _ rfl
      have f2 := hf 2 _ rfl
      have f3 := hf 3 _ rfl
      have f4 := hf 4 _ rfl
      have k3 : Try.prog.cellsOf 3 = 1 := by kernel_rfl
      have k22 : Try.prog.cellsOf 22 = 1 := by kernel_rfl
      simp [k3, k22] at f0 f1 f2 f3 f4
      obtain ⟨a, e0, _, wa⟩ := DataW.trod_int Try.underlying22 f0
      obtain ⟨b, e1, _, wb⟩ := DataW.trod_int Try.underlying22 f1
      obtain ⟨c, e2, _, _⟩ := DataW.trod_int Try.underlying3 f2
      obtain ⟨d, e3, _, _⟩ := DataW.trod_int Try.underlying3 f3
      obtain ⟨e, e4, _, _⟩ := DataW.trod_int Try.underlying3 f4
      injection e0 with e0; injection e1 with e1; injection e2 with e2; injection e3 with e3; injection e4 with e4
      subst e0 e1 e2 e3 e4
      obtain ⟨x, rfl⟩ := u32_of wa
      obtain ⟨y, rfl⟩ := u32_of wb
      exact ⟨⟨x, y, c, d, e⟩, rfl⟩
set_option maxRecDepth 100000 in
theorem open_backs {fuel : Nat} {cs : List Value} {x : DataW H × List MemPlace} (h : DataW.trod enc Try.prog w 0 (fun _ => true) true fuel 27 cs = some x) :
    ∃ A m c l, cs = [.slice A m c] ∧ BkArr w (old w) (.slice A m c) l := by
  obtain ⟨A, m, c, E, D, e1, h2, h3, h4, h5, h6, h7⟩ := open_slice_at (n := 3) Try.underlying27 (by kernel_rfl) (by omega) h
  obtain ⟨l, hl, hd, hs⟩ := list_of_dec (α := BackD) (m := m) (E := E) (D := D) (Dec := fun cs a => BkDec w (old w) cs a) (bk := fun _ => 0) (fun i hi => by
    obtain ⟨_, fu, ps, ht⟩ := h6 i hi
    exact open_back ht)
  refine ⟨A, m, c, l, e1, A, m, c, rfl, hl, h2, h3, h4, fun hne => ?_⟩
  obtain ⟨g, o, e2, e3, e4⟩ := h5 (by
    rcases Nat.eq_zero_or_pos m with h0 | h0
    · subst h0; exact absurd (List.eq_nil_of_length_eq_zero hl) hne
    · exact h0)
  refine ⟨g, o, e2, List.mem_range.2 e3, e3, fun i a hi => ?_⟩
  have hlt : i < m := by have := (List.getElem?_eq_some_iff.1 hi).1; omega
  exact ⟨E i, (h6 i hlt).1, hd i a hi, fun j hj => e4 i j hlt hj⟩
set_option maxRecDepth 100000 in
theorem open_flow {fuel : Nat} {cs : List Value} {x : DataW H × List MemPlace} (h : DataW.trod enc Try.prog w 0 (fun _ => true) true fuel 26 cs = some x) : ∃ r : RecD, cs = [.int .u32 (r.tup.src.toNat : Nat), .int .u32 (r.tup.dst.toNat : Nat), .int .i64 r.tup.proto, .int .i64 r.tup.sport, .int .i64 r.tup.dport, .int .i64 r.fb, .int .i64 r.fg, .int .i64 r.fs] := by
  obtain ⟨xs, n, _, hx, hlen, hxl, hf⟩ := DataW.trod_struct Try.underlying26 h
  have hl3 : cs.length = 8 := hlen.trans (by kernel_rfl)
  match cs, hl3 with
  | [c0, c1, c2, c3, c4, c5, c6, c7], _ =>
    match xs, hxl with
    | [x0, x1, x2, x3], _ =>
      have f0 := hf 0 _ rfl
      have f1 := hf 1 _ rfl
      have f2 := hf 2 _ rfl
      have f3 := hf 3 _ rfl
      have k3 : Try.prog.cellsOf 3 = 1 := by kernel_rfl
      have k2 : Try.prog.cellsOf 2 = 1 := by kernel_rfl
      have k24 : Try.prog.cellsOf 24 = 5 := by kernel_rfl
      simp [k3, k2, k24] at f0 f1 f2 f3
      obtain ⟨t, e0⟩ := open_tuple f0
      obtain ⟨a, e1, _, _⟩ := DataW.trod_int Try.underlying3 f1
      obtain ⟨b, e2, _, _⟩ := DataW.trod_int Try.underlying3 f2
      obtain ⟨c, e3, _, _⟩ := DataW.trod_int Try.underlying2 f3
      simp only [List.cons.injEq, and_true] at e0 e1 e2 e3
      obtain ⟨rfl, rfl, rfl, rfl, rfl⟩ := e0
      subst e1 e2 e3
      exact ⟨{ (default : RecD) with tup := t, fb := a, fg := b, fs := c }, rfl⟩
set_option maxRecDepth 100000 in
theorem open_record {v : Value} {d : DataW H} {p : List MemPlace} {base : Nat} (hv : Value.okWide Try.prog w .any base 29 v) (h : DataW.Trod enc Try.prog w 0 (fun _ => true) true 29 v d p) :
    ∃ (r : RecD) (A : Option Addr) (m c : Nat), v = .agg #[.int .i64 r.kind, .int .u32 (r.tup.src.toNat : Nat), .int .u32 (r.tup.dst.toNat : Nat), .int .i64 r.tup.proto, .int .i64 r.tup.sport, .int .i64 r.tup.dport, .int .i64 r.fb, .int .i64 r.fg, .int .i64 r.fs, .int .i64 r.gen, .slice A m c, .int .i64 r.back, .int .i64 r.until_, .int .i64 r.count] ∧ BkArr w (old w) (.slice A m c) r.backs := by
  obtain ⟨cs, rfl, _⟩ := okWide_struct Try.underlying29 hv
  obtain ⟨fuel, hf⟩ := h
  obtain ⟨xs, n, _, hx, hlen, hxl, hf⟩ := DataW.trod_struct Try.underlying29 hf
  have hl3 : (Value.agg cs).cells.toList.length = 14 := hlen.trans (by kernel_rfl)
  have hcs : (Value.agg cs).cells.toList = cs.toList := by simp [Value.cells]
  rw [hcs] at hl3 hf
  rw [← Array.toArray_toList (xs := cs)]
  generalize cs.toList = cl at *
  match cl, hl3 with
  | [c0, c1, c2, c3, c4, c5, c6, c7, c8, c9, c10, c11, c12, c13], _ =>
    match xs, hxl with
    | [x0, x1, x2, x3, x4, x5, x6], _ =>
      have f0 := hf 0 _ rfl
      have f1 := hf 1 _ rfl
      have f2 := hf 2 _ rfl
      have f3 := hf 3 _ rfl
      have f4 := hf 4 _ rfl
      have f5 := hf 5 _ rfl
      have f6 := hf 6 _ rfl
      have k3 : Try.prog.cellsOf 3 = 1 := by kernel_rfl
      have k2 : Try.prog.cellsOf 2 = 1 := by kernel_rfl
      have k26 : Try.prog.cellsOf 26 = 8 := by kernel_rfl
      have k27 : Try.prog.cellsOf 27 = 1 := by kernel_rfl
      simp [k3, k2, k26, k27] at f0 f1 f2 f3 f4 f5 f6
      obtain ⟨a0, e0, _, _⟩ := DataW.trod_int Try.underlying3 f0
      obtain ⟨r1, e1⟩ := open_flow f1
      obtain ⟨a2, e2, _, _⟩ := DataW.trod_int Try.underlying3 f2
      obtain ⟨A, m, c, l, e3, hl⟩ := open_backs f3
      obtain ⟨a4, e4, _, _⟩ := DataW.trod_int Try.underlying3 f4
      obtain ⟨a5, e5, _, _⟩ := DataW.trod_int Try.underlying2 f5
      obtain ⟨a6, e6, _, _⟩ := DataW.trod_int Try.underlying3 f6
      simp only [List.cons.injEq, and_true] at e0 e1 e2 e3 e4 e5 e6
      obtain ⟨rfl, rfl, rfl, rfl, rfl, rfl, rfl, rfl⟩ := e1
      subst e0 e2 e3 e4 e5 e6
      exact ⟨⟨a0, r1.tup, r1.fb, r1.fg, r1.fs, a2, l, a4, a5, a6⟩, A, m, c, rfl, hl⟩
end
end Go.Proofs.Ytoibecclilmllaa
