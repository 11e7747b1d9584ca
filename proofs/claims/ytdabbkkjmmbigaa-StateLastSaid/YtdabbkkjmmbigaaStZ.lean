
/-
  StateLast: the law's arguments.
-/
import Derived.Test.YtdabbkkjmmbigaaStY
import Derived.Test.YtdabbkkjmmbigaaArgs
namespace Go.Proofs.Ytdabbkkjmmbigaa
open Go.RowKit Go.ChangeShapes Go.WideShapes Go.ChangeAt
set_option linter.unusedVariables false

set_option maxRecDepth 100000 in
theorem open_tuple_v {H : Type} {enc : TypeId × Value → H} {w : World} {v : Value} {d : DataW H} {p : List MemPlace} {base : Nat} (hv : Value.okWide Try.prog w .any base 29 v) (h : DataW.Trod enc Try.prog w 0 (fun _ => true) true 29 v d p) : ∃ t : TupD, v = .agg #[.int .u32 (t.src.toNat : Nat), .int .u32 (t.dst.toNat : Nat), .int .i64 t.proto, .int .i64 t.sport, .int .i64 t.dport] := by
  obtain ⟨cs, rfl, _⟩ := okWide_struct Try.underlying29 hv
  obtain ⟨fuel, hf⟩ := h
  obtain ⟨t, e⟩ := open_tuple hf
  refine ⟨t, ?_⟩
  have e : cs.toList = [.int .u32 (t.src.toNat : Nat), .int .u32 (t.dst.toNat : Nat), .int .i64 t.proto, .int .i64 t.sport, .int .i64 t.dport] := by simpa [Value.cells] using e
  rw [← Array.toArray_toList (xs := cs), e]
theorem old_lt {w : World} : ∀ g ∈ old w, g < w.heap.size := fun g hg => List.mem_range.1 hg
set_option maxRecDepth 100000 in
theorem StateLast_walk {H : Type} {enc : TypeId × Value → H} {S : Prop} (W : World) (base : Nat) (v0 : Value) (d0 : DataW H) (p0 : List MemPlace) (v1 : Value) (d1 : DataW H) (p1 : List MemPlace)
    (hv0 : Value.okWide Try.prog W .any base 38 v0) (hv1 : Value.okWide Try.prog W .any base 29 v1)
    (h0 : DataW.Trod enc Try.prog W 0 (fun _ => true) true 38 v0 d0 p0) (h1 : DataW.Trod enc Try.prog W 0 (fun _ => true) true 29 v1 d1 p1) (_ : S) :
    Calls Try.prog 4 #[v0, v1] W fun e W' => e = .returned (.bool true) ∧ Below W.heap.size W W' := by
  obtain ⟨A, m, c, l, rfl, hl⟩ := open_records hv0 h0
  obtain ⟨k, rfl⟩ := open_tuple_v hv1 h1
  exact (StateLast_walk0 W l k hl old_lt).mono fun e W' ⟨h, hk⟩ => ⟨h, hk.below (Nat.le_refl _) (by simp)⟩
end Go.Proofs.Ytdabbkkjmmbigaa
