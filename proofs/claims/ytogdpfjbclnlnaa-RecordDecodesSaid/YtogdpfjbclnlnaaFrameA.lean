
/-
  Arguments of the laws on frames, opened.
-/
import Derived.Test.YtogdpfjbclnlnaaFrameB
namespace Go.Proofs.Ytogdpfjbclnlnaa
open Go.RowKit Go.ChangeShapes Go.WideShapes Go.ChangeAt Go.Deep
set_option linter.unusedVariables false
section
variable {H : Type} {enc : TypeId × Value → H} {w : World}
set_option maxRecDepth 100000 in
theorem open_frame_cells {fuel : Nat} {cs : List Value} {x : DataW H × List MemPlace} (h : DataW.trod enc Try.prog w 0 (fun _ => true) true fuel 34 cs = some x) :
    ∃ f : FrameD, FrDec w (old w) cs f ∧ f.body.length + 1 ≤ Rows.uptoBulk x.1 := by
  obtain ⟨xs, n, _, hx, hlen, hxl, hf⟩ := DataW.trod_struct Try.underlying34 h
  have hl3 : cs.length = 3 := hlen.trans (by kernel_rfl)
  match cs, hl3 with
  | [c0, c1, c2], _ =>
    match xs, hxl with
    | [x0, x1, x2], _ =>
      have f0 := hf 0 _ rfl
      have f1 := hf 1 _ rfl
      have f2 := hf 2 _ rfl
      have k3 : Try.prog.cellsOf 3 = 1 := by kernel_rfl
      have k24 : Try.prog.cellsOf 32 = 1 := by kernel_rfl
      simp [k3, k24] at f0 f1 f2
      obtain ⟨a, e0, _, _⟩ := DataW.trod_int Try.underlying3 f0
      obtain ⟨b, e1, _, wb⟩ := DataW.trod_int Try.underlying3 f1
      obtain ⟨v, bs, e2, hr, hb, _⟩ := open_bytes Try.underlying32 f2
      injection e0 with e0; injection e1 with e1; injection e2 with e2
      subst e0 e1 e2
      obtain ⟨A, m, c, rfl, _⟩ := id hr
      refine ⟨⟨a, b, bs⟩, ⟨A, m, c, rfl, hr⟩, ?_⟩
      rw [hx]
      simp only [List.map_cons, List.map_nil, Rows.uptoBulk, Rows.uptoBulkAll]
      omega
set_option maxRecDepth 100000 in
theorem open_frame {v : Value} {d : DataW H} {p : List MemPlace} {base : Nat} (hv : Value.okWide Try.prog w .any base 34 v) (h : DataW.Trod enc Try.prog w 0 (fun _ => true) true 34 v d p) :
    ∃ (f : FrameD) (A : Option Addr) (m c : Nat), v = .agg #[.int .i64 f.kind, .int .i64 f.ver, .slice A m c] ∧ RdB w (old w) (.slice A m c) f.body ∧ f.body.length + 1 ≤ Rows.uptoBulk d := by
  obtain ⟨cs, rfl, _⟩ := okWide_struct Try.underlying34 hv
  obtain ⟨fuel, hf⟩ := h
  obtain ⟨f, ⟨A, m, c, e, hr⟩, hb⟩ := open_frame_cells hf
  refine ⟨f, A, m, c, ?_, hr, hb⟩
  have e : cs.toList = [.int .i64 f.kind, .int .i64 f.ver, .slice A m c] := by simpa [Value.cells] using e
  rw [← Array.toArray_toList (xs := cs), e]
set_option maxRecDepth 100000 in
theorem open_list {α : Type} [Inhabited α] {t e : TypeId} {n : Nat} {Dec : World → List Nat → List Value → α → Prop} {bk : α → Nat} (ht : Try.prog.underlying t = some (.slice e)) (hn : Try.prog.cellsOf e = n) (hp : 0 < n)
    (ho : ∀ {fuel : Nat} {cs : List Value} {x : DataW H × List MemPlace}, DataW.trod enc Try.prog w 0 (fun _ => true) true fuel e cs = some x → ∃ a : α, Dec w (old w) cs a ∧ bk a ≤ Rows.uptoBulk x.1)
    {v : Value} {d : DataW H} {p : List MemPlace} {base : Nat} (hv : Value.okWide Try.prog w .any base t v) (h : DataW.Trod enc Try.prog w 0 (fun _ => true) true t v d p) :
    ∃ l : List α, ArrOf w (old w) n (fun w => Dec w (old w)) v l ∧ (l.map bk).sum + 1 ≤ Rows.uptoBulk d := by
  obtain ⟨a0, len, cap, rfl⟩ := okWide_slice ht hv
  obtain ⟨fuel, hf⟩ := h
  obtain ⟨A, m, c, E, D, e1, h2, h3, h4, h5, h6, h7⟩ := open_slice_at ht hn hp hf
  obtain ⟨l, hl, hd, hs⟩ := list_of_dec (α := α) (m := m) (E := E) (D := D) (Dec := fun cs a => Dec w (old w) cs a) (bk := bk) (fun i hi => by
    obtain ⟨_, fu, ps, ht⟩ := h6 i hi
    exact ho ht)
  refine ⟨l, ⟨A, m, c, by simpa [Value.cells] using e1, hl, h2, h3, h4, fun hne => ?_⟩, by simp only at h7; omega⟩
  obtain ⟨g, o, e2, e3, e4⟩ := h5 (by
    rcases Nat.eq_zero_or_pos m with h0 | h0
    · subst h0; exact absurd (List.eq_nil_of_length_eq_zero hl) hne
    · exact h0)
  refine ⟨g, o, e2, List.mem_range.2 e3, e3, fun i a hi => ?_⟩
  have hlt : i < m := by have := (List.getElem?_eq_some_iff.1 hi).1; omega
  exact ⟨E i, (h6 i hlt).1, hd i a hi, fun j hj => e4 i j hlt hj⟩
set_option maxRecDepth 100000 in
theorem open_bytes_arr {v : Value} {d : DataW H} {p : List MemPlace} {base : Nat} (hv : Value.okWide Try.prog w .any base 32 v) (h : DataW.Trod enc Try.prog w 0 (fun _ => true) true 32 v d p) :
    ∃ (A : Option Addr) (m c : Nat) (bs : List UInt8), v = .slice A m c ∧ RdB w (old w) (.slice A m c) bs ∧ bs.length + 1 ≤ Rows.uptoBulk d := by
  obtain ⟨a0, len, cap, rfl⟩ := okWide_slice Try.underlying32 hv
  obtain ⟨fuel, hf⟩ := h
  obtain ⟨v, bs, e, hb, hbk, _⟩ := open_bytes Try.underlying32 hf
  have e : v = .slice a0 len cap := by simpa [Value.cells] using e.symm
  subst e
  exact ⟨a0, len, cap, bs, rfl, hb, hbk⟩
set_option maxRecDepth 100000 in
theorem open_u8 {v : Value} {d : DataW H} {p : List MemPlace} {base : Nat} (hv : Value.okWide Try.prog w .any base 5 v) (h : DataW.Trod enc Try.prog w 0 (fun _ => true) true 5 v d p) : ∃ x : UInt8, v = .int .u8 x.toNat := by
  obtain ⟨n, rfl, rfl, rfl, hw⟩ := open_int Try.underlying5 hv h
  simp [Lit.wf, IntKind.min, IntKind.max, IntKind.signed, IntKind.bits] at hw
  refine ⟨UInt8.ofNat n.toNat, ?_⟩
  congr 1
  simp only [UInt8.toNat_ofNat']
  omega
end
end Go.Proofs.Ytogdpfjbclnlnaa
