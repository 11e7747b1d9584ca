
/-
  The walk of RecordEncodes.
-/
import Derived.Test.YtogdpfjbclnlnaaRecT
import Derived.Test.YtogdpfjbclnlnaaRecZ
namespace Go.Proofs.Ytogdpfjbclnlnaa
open Go.RowKit Go.ChangeShapes Go.WideShapes Go.Deep
set_option linter.unusedVariables false

set_option maxHeartbeats 3200000 in
set_option maxRecDepth 100000 in
theorem RecordEncodes_any (w : World) {A : Option Addr} {m c : Nat} (r : RecD) (v : Int) (h : BkArr w (old w) (.slice A m c) r.backs) :
    Calls Try.prog 3 #[.agg #[.int .i64 r.kind, .int .u32 (r.tup.src.toNat : Nat), .int .u32 (r.tup.dst.toNat : Nat), .int .i64 r.tup.proto, .int .i64 r.tup.sport, .int .i64 r.tup.dport, .int .i64 r.fb, .int .i64 r.fg, .int .i64 r.fs, .int .i64 r.gen, .slice A m c, .int .i64 r.back, .int .i64 r.until_, .int .i64 r.count], .int .i64 v] w fun e w' => e = .returned (.bool true) ∧ Kept [] w w' := by
  have hk0 : Kept [] w (w.alloc (.cells #[.int .i64 r.kind, .int .u32 (r.tup.src.toNat : Nat), .int .u32 (r.tup.dst.toNat : Nat), .int .i64 r.tup.proto, .int .i64 r.tup.sport, .int .i64 r.tup.dport, .int .i64 r.fb, .int .i64 r.fg, .int .i64 r.fs, .int .i64 r.gen, .slice A m c, .int .i64 r.back, .int .i64 r.until_, .int .i64 r.count] 29)) := by (repeat (first | exact Kept.refl _ _ | apply Kept.alloc | apply Kept.drew))
  have Bx := Lib.hid (show Blk (w.alloc (.cells #[.int .i64 r.kind, .int .u32 (r.tup.src.toNat : Nat), .int .u32 (r.tup.dst.toNat : Nat), .int .i64 r.tup.proto, .int .i64 r.tup.sport, .int .i64 r.tup.dport, .int .i64 r.fb, .int .i64 r.fg, .int .i64 r.fs, .int .i64 r.gen, .slice A m c, .int .i64 r.back, .int .i64 r.until_, .int .i64 r.count] 29)) w.heap.size 29 #[.int .i64 r.kind, .int .u32 (r.tup.src.toNat : Nat), .int .u32 (r.tup.dst.toNat : Nat), .int .i64 r.tup.proto, .int .i64 r.tup.sport, .int .i64 r.tup.dport, .int .i64 r.fb, .int .i64 r.fg, .int .i64 r.fs, .int .i64 r.gen, .slice A m c, .int .i64 r.back, .int .i64 r.until_, .int .i64 r.count] from by (repeat (first | (apply Blk.new'; simp; done) | apply Blk.alloc | apply Blk.drew)))
  have H := Lib.hid h
  have Hk0 := Lib.hid hk0
  clear h hk0
  by_cases h40 : m ≤ 40
  · have hd : decide (m ≤ 40) = true := by simpa using h40
    have hs : ∀ w', Kept [] w w' → SmallB w' (old w) A m c r.backs := fun w' hk => ⟨BkArr.kept H.out hk (by simp), fun k hk' => Nat.lt_of_lt_of_le (List.mem_range.1 hk') hk.size, by omega⟩
    have Hs := Lib.hid hs
    clear hs
    obtain ⟨f, hf⟩ : ∃ f, encF r v = f := ⟨_, rfl⟩
    obtain ⟨n, hn⟩ : ∃ n, encE r v = n := ⟨_, rfl⟩
    have F := Lib.hid hf
    have E := Lib.hid hn
    clear hf hn
    go_enter Try.func3, Try.ntmps3
    go_wp2_with (first
      | (go_at_call 13
         go_must (refine (light8_any _ r (BkArr.kept H.out Hk0.out (by simp))).mono ?_)
         go_must (rintro e w1 ⟨rfl, hk1⟩)
         go_must (rw [hd])
         go_must (have hcx := (Bx.out.kept hk1 (by simp)).cell)
         go_must (have Bx1 := Lib.hid (Bx.out.kept hk1 (by simp)))
         go_must (have Hk1 := Lib.hid (Hk0.out.trans hk1 (by simp)))
         go_must (clear hk1))
      | (go_at_call 15
         go_must (refine (Encode_any _ r v (Hs.out _ Hk1.out) (by omega)).mono ?_)
         go_must (rintro e w2 ⟨sl, rfl, hn⟩)
         go_must (rw [F.out] at hn ⊢; rw [E.out])
         go_must (have N2 := Lib.hid (NB.of hn))
         go_must (obtain ⟨A2, m2, c2, rfl⟩ := N2.out.form)
         go_must (clear hcx hn)
         go_must (have Bx2 := Lib.hid (Bx1.out.kept N2.out.kept (by simp)))
         go_must (have hlt2 := Bx2.out.lt)
         go_must (have hcx := fun o => (Bx2.out.alloc o).cell)
         go_must (have Hk2 := Lib.hid (Hk1.out.trans N2.out.kept (by simp))))
      | (go_at_call 16
         go_must (refine (rEncode_any _ r v (Hs.out _ (Hk2.out.alloc _))).mono ?_)
         go_must (rintro e w3 ⟨sl, rfl, hn⟩)
         go_must (rw [F.out] at hn ⊢; rw [E.out])
         go_must (have N3 := Lib.hid hn)
         go_must (obtain ⟨A3, m3, c3, rfl⟩ := N3.out.form)
         go_must (clear hcx hn)
         go_must (have X3 := Lib.hid ((show Blk (w2.alloc (.cells #[.int .i64 f.kind, .int .i64 f.ver, .slice A2 m2 c2] 34)) w2.heap.size 34 #[.int .i64 f.kind, .int .i64 f.ver, .slice A2 m2 c2] from by (repeat (first | (apply Blk.new'; simp; done) | apply Blk.alloc | apply Blk.drew))).kept N3.out.kept (by simp)))
         go_must (have N4 := Lib.hid ((N2.out.go ((Kept.refl [] w2).alloc _)).go N3.out.kept))
         go_must (have hlt3 := X3.out.lt)
         go_must (have hcf := fun o => (X3.out.alloc o).cell)
         go_must (have Hk3 := Lib.hid ((Hk2.out.alloc _).trans N3.out.kept (by simp))))
      | (go_at_call 17
         go_must (refine (rSame_any _ f f ((N4.out.go ((Kept.refl [] w3).alloc _)).rd) ((N3.out.go ((Kept.refl [] w3).alloc _)).rd)).mono ?_)
         go_must (rintro e w4 ⟨rfl, hk4⟩)
         go_must (rw [show sameF f f = true by simp [sameF]])
         go_must (have Hk4 := Lib.hid ((Hk3.out.alloc _).trans hk4 (by simp)))
         go_must (clear hk4))
      | (go_at_call 14
         go_must (refine (awake8_any _).mono ?_)
         go_must (rintro e w5 ⟨rfl, hk5⟩)
         go_must (have Hk5 := Lib.hid (Hk4.out.trans hk5 (by simp)))
         go_must (clear hk5)))
    go_ret
    exact ⟨rfl, Hk5.out⟩
  · have hd : decide (m ≤ 40) = false := by simpa using h40
    go_enter Try.func3, Try.ntmps3
    go_wp2_with (first
      | (go_at_call 13; refine (light8_any _ r (BkArr.kept H.out Hk0.out (by simp))).mono ?_; rintro e w1 ⟨rfl, hk1⟩; rw [hd]; have Hk1 := Lib.hid (Hk0.out.trans hk1 (by simp)); clear hk1)
      | (go_at_call 14; refine (awake8_any _).mono ?_; rintro e w3 ⟨rfl, hk3⟩; have Hk3 := Lib.hid (Hk1.out.trans hk3 (by simp)); clear hk3))
    go_ret
    exact ⟨rfl, Hk3.out⟩

set_option maxRecDepth 100000 in
theorem RecordEncodes_walk {H : Type} {enc : TypeId × Value → H} {S : Prop} (W : World) (base : Nat) (v0 : Value) (d0 : DataW H) (p0 : List MemPlace) (v1 : Value) (d1 : DataW H) (p1 : List MemPlace)
    (hv0 : Value.okWide Try.prog W .any base 29 v0) (hv1 : Value.okWide Try.prog W .any base 3 v1)
    (h0 : DataW.Trod enc Try.prog W 0 (fun _ => true) true 29 v0 d0 p0) (h1 : DataW.Trod enc Try.prog W 0 (fun _ => true) true 3 v1 d1 p1) (_ : S) :
    Calls Try.prog 3 #[v0, v1] W fun e W' => e = .returned (.bool true) ∧ Below W.heap.size W W' := by
  obtain ⟨r, A, m, c, rfl, hr⟩ := open_record hv0 h0
  obtain ⟨n, rfl, rfl, rfl, _⟩ := open_int Try.underlying3 hv1 h1
  exact (RecordEncodes_any W r n hr).mono fun e W' ⟨h, hk⟩ => ⟨h, hk.below (Nat.le_refl _) (by simp)⟩
end Go.Proofs.Ytogdpfjbclnlnaa
