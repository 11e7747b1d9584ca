/-
  The walks of octet's laws: a frame that every program must know; a writer, a reader that there isn't.
-/
import Derived.Test.YticjcmjodnedjaaArgs
import Derived.Test.YticjcmjodnedjaaRef1R
namespace Go.Proofs.Yticjcmjodnedjaa
open Go.RowKit Go.ChangeShapes Go.WideShapes
set_option linter.unusedVariables false

theorem Wr.new (w : World) : Wr (w.alloc (.cells #[.slice none 0 0] 26)) w.heap.size (.slice none 0 0) [] := ⟨Blk.new _ _ _, Own.nil _ _ _⟩

set_option maxHeartbeats 800000 in
theorem awake2_any (w : World) : Calls Try.prog 25 #[] w fun e w' => e = .returned (.bool true) ∧ Kept [] w w' := by
  go_enter Try.func25, Try.ntmps25
  go_wp2_with fail
  refine (WU16_any _ _ _ [] (Wr.new w) 258 (by simp)).mono ?_
  rintro e w1 ⟨rfl, v1, h1, h2, h3⟩
  have H1 := Lib.hid h1
  have H2 := Lib.hid h2
  clear h1 h2 h3
  go_wp2_with fail
  refine (Bytes_any _ _ _ _ H1.out (by simp [beK_len])).mono ?_
  rintro e w2 ⟨v2, rfl, h4, h5, h6⟩
  have h7 := RdB.of_own h4
  have he : ([] : List UInt8) ++ beK (nat64 258) 2 2 = [1, 2] := by decide +kernel
  rw [he] at h7
  have H5 := Lib.hid h5
  obtain ⟨A, m, c, rfl, h8, h9, h10, -⟩ := id h7
  obtain rfl : m = 2 := by rw [← h8]; rfl
  obtain ⟨g, o, rfl, hc0⟩ := h7.at (k := 0) (by omega)
  obtain ⟨g', o', e1, hc1⟩ := h7.at (k := 1) (by omega)
  injection e1 with e1
  injection e1 with e2 e3
  subst e2 e3
  simp only [Nat.add_zero, List.getElem?_cons_zero, List.getElem?_cons_succ, Option.getD_some] at hc0 hc1
  clear h4 h5 h6 h7 he h8
  unfold maxLen at h10
  go_wp2
  go_ret
  refine ⟨rfl, ((Kept.refl [] w).alloc _).trans H2.out ?_ |>.trans H5.out ?_⟩
  · intro i hi
    simp [rowOf, Value.ownBlock] at hi
    exact .inr (by omega)
  · simp

set_option maxHeartbeats 1600000 in
theorem OctetNil_any (n : Int) (x : Value) (w : World) : Calls Try.prog 8 #[.int .i64 n, x] w fun e w' => e = .returned (.bool true) ∧ Kept [] w w' := by
  go_enter Try.func8, Try.ntmps8
  go_wp2_with (first
    | (go_at_call 15; refine (WU8_nil _ _).mono ?_; rintro e w' ⟨rfl, rfl⟩)
    | (go_at_call 16; refine (WU16_nil _ _).mono ?_; rintro e w' ⟨rfl, rfl⟩)
    | (go_at_call 18; refine (WU32_nil _ _).mono ?_; rintro e w' ⟨rfl, rfl⟩)
    | (go_at_call 20; refine (WI64_nil _ _).mono ?_; rintro e w' ⟨rfl, rfl⟩)
    | (go_at_call 22; refine (WRaw_nil _ _).mono ?_; rintro e w' ⟨rfl, rfl⟩)
    | (go_at_call 24; refine (Bytes_nil _).mono ?_; rintro e w' ⟨rfl, rfl⟩)
    | (go_at_call 23; refine (Len_nil _).mono ?_; rintro e w' ⟨rfl, rfl⟩)
    | (go_at_call 27; refine (RU8_nil _).mono ?_; rintro e w' ⟨rfl, rfl⟩)
    | (go_at_call 29; refine (RU16_nil _).mono ?_; rintro e w' ⟨rfl, rfl⟩)
    | (go_at_call 31; refine (RU32_nil _).mono ?_; rintro e w' ⟨rfl, rfl⟩)
    | (go_at_call 33; refine (RI64_nil _).mono ?_; rintro e w' ⟨rfl, rfl⟩)
    | (go_at_call 35; refine (RRaw_nil _ _).mono ?_; rintro e w1 ⟨v, rfl, h1, h2, h3⟩; obtain ⟨A, c, rfl, _, _⟩ := h1.form; have H2 := Lib.hid h2; clear h1 h2 h3)
    | (go_at_call 37; refine (Left_nil _).mono ?_; rintro e w' ⟨rfl, rfl⟩)
    | (go_at_call 38; refine (End_nil _).mono ?_; rintro e w' ⟨rfl, rfl⟩)
    | (go_at_call 25; refine (awake2_any _).mono ?_; rintro e w2 ⟨rfl, h4⟩; have H4 := Lib.hid h4; clear h4))
  go_ret
  exact ⟨rfl, H2.out.trans H4.out (by simp)⟩

theorem OctetNil_walk {H : Type} {enc : TypeId × Value → H} {S : Prop} (W : World) (base : Nat) (v0 : Value) (d0 : DataW H) (p0 : List MemPlace) (v1 : Value) (d1 : DataW H) (p1 : List MemPlace)
    (hv0 : Value.okWide Try.prog W .any base 2 v0) (_ : Value.okWide Try.prog W .any base 24 v1)
    (h0 : DataW.Trod enc Try.prog W 0 (fun _ => true) true 2 v0 d0 p0) (_ : DataW.Trod enc Try.prog W 0 (fun _ => true) true 24 v1 d1 p1) (_ : S) :
    Calls Try.prog 8 #[v0, v1] W fun e W' => e = .returned (.bool true) ∧ Below W.heap.size W W' := by
  obtain ⟨n, rfl, rfl, rfl, _⟩ := open_int Try.underlying2 hv0 h0
  exact (OctetNil_any n v1 W).mono fun e W' ⟨h, hk⟩ => ⟨h, hk.below (Nat.le_refl _) (by simp)⟩
end Go.Proofs.Yticjcmjodnedjaa
