
/-
  The walk of MigrateRecords.
-/
import Derived.Test.YtogdpfjbclnlnaaMigC
import Derived.Test.YtogdpfjbclnlnaaRecE
import Derived.Test.YtogdpfjbclnlnaaRecZ
import Derived.Test.YtogdpfjbclnlnaaFrameA
import Derived.Outline
namespace Go.Proofs.Ytogdpfjbclnlnaa
open Go.RowKit Go.ChangeShapes Go.WideShapes Go.Deep
set_option linter.unusedVariables false

theorem mig_cases (r : RecD) (a b : Int) : migE r a b = 0 ∨ (migE r a b ≠ 0 ∧ (migR r a b).kind = 0) := by
  unfold migE migR
  cases waysB a b <;> cases mayR r <;> simp [default]
theorem mig_len (r : RecD) (a b : Int) : (migR r a b).backs.length ≤ r.backs.length := by
  unfold migR
  split
  · rw [mig_backs]; exact in_backs _ _
  · simp [default]
set_option maxHeartbeats 6400000 in
set_option maxRecDepth 100000 in
theorem MigrateRecords_any (w : World) {A : Option Addr} {m c : Nat} (r : RecD) (a b : Int) (h1 : BkArr w (old w) (.slice A m c) r.backs) :
    Calls Try.prog 5 #[.agg #[.int .i64 r.kind, .int .u32 (r.tup.src.toNat : Nat), .int .u32 (r.tup.dst.toNat : Nat), .int .i64 r.tup.proto, .int .i64 r.tup.sport, .int .i64 r.tup.dport, .int .i64 r.fb, .int .i64 r.fg, .int .i64 r.fs, .int .i64 r.gen, .slice A m c, .int .i64 r.back, .int .i64 r.until_, .int .i64 r.count], .int .i64 a, .int .i64 b] w fun e w' => e = .returned (.bool true) ∧ Kept [] w w' := by
  have hk0 : Kept [] w (w.alloc (.cells #[.int .i64 r.kind, .int .u32 (r.tup.src.toNat : Nat), .int .u32 (r.tup.dst.toNat : Nat), .int .i64 r.tup.proto, .int .i64 r.tup.sport, .int .i64 r.tup.dport, .int .i64 r.fb, .int .i64 r.fg, .int .i64 r.fs, .int .i64 r.gen, .slice A m c, .int .i64 r.back, .int .i64 r.until_, .int .i64 r.count] 29)) := by (repeat (first | exact Kept.refl _ _ | apply Kept.alloc | apply Kept.drew))
  have P := Lib.hid (show Blk (w.alloc (.cells #[.int .i64 r.kind, .int .u32 (r.tup.src.toNat : Nat), .int .u32 (r.tup.dst.toNat : Nat), .int .i64 r.tup.proto, .int .i64 r.tup.sport, .int .i64 r.tup.dport, .int .i64 r.fb, .int .i64 r.fg, .int .i64 r.fs, .int .i64 r.gen, .slice A m c, .int .i64 r.back, .int .i64 r.until_, .int .i64 r.count] 29)) w.heap.size 29 #[.int .i64 r.kind, .int .u32 (r.tup.src.toNat : Nat), .int .u32 (r.tup.dst.toNat : Nat), .int .i64 r.tup.proto, .int .i64 r.tup.sport, .int .i64 r.tup.dport, .int .i64 r.fb, .int .i64 r.fg, .int .i64 r.fs, .int .i64 r.gen, .slice A m c, .int .i64 r.back, .int .i64 r.until_, .int .i64 r.count] from by (repeat (first | (apply Blk.new'; simp; done) | apply Blk.alloc | apply Blk.drew)))
  have K := Lib.hid hk0
  have H1 := Lib.hid (BkArr.kept h1 (Kept.refl [] w) (by simp))
  have HL := Lib.hid h1.len.1
  have Hs1 : Hid (m ≤ 40 → ∀ w', Kept [] w w' → SmallB w' (old w) A m c r.backs) := Lib.hid (fun hm w' hk => ⟨BkArr.kept h1 hk (by simp), fun k hk' => Nat.lt_of_lt_of_le (List.mem_range.1 hk') hk.size, by omega⟩)
  clear h1 hk0
  by_cases g1 : m ≤ 40
  · have d1 : decide (m ≤ 40) = true := by simpa using g1
    obtain ⟨x, hx⟩ : ∃ x, migR r a b = x := ⟨_, rfl⟩
    obtain ⟨en, hen⟩ : ∃ e, migE r a b = e := ⟨_, rfl⟩
    have hcs := mig_cases r a b
    rw [hx, hen] at hcs
    have HB := Lib.hid (show x.backs.length ≤ 40 by have := mig_len r a b; rw [hx] at this; have := HL.out; omega)
    have EX := Lib.hid hx
    have EE := Lib.hid hen
    have SR := Lib.hid (sameR_refl x)
    clear hx hen
    rcases hcs with h0 | ⟨h0, hx0⟩
    all_goals
      first
        | (have e0 : (en == 0) = true := by simp [h0]
           have n0 : (en != 0) = false := by simp [h0]
           clear h0)
        | (have e0 : (en == 0) = false := by simp [h0]
           have n0 : (en != 0) = true := by simp [h0]
           have xk : (x.kind == 0) = true := by simp [hx0]
           have yk : (x.kind != 0) = false := by simp [hx0]
           clear h0 hx0)
      go_enter Try.func5, Try.ntmps5
      go_wp2_with (first
        | (go_at_call 19
           go_must (refine (light9_any _ r (BkArr.kept H1.out K.out (by simp))).mono ?_)
           go_must (rintro e w1 ⟨rfl, k1⟩)
           go_must (rw [d1])
           go_must (have P := Lib.hid (P.out.kept k1 (by simp)))
           go_must (have K := Lib.hid (K.out.trans k1 (by simp)))
           go_must (clear k1)
           go_must (have hcx := P.out.cell))
        | (go_at_call 21
           go_must (refine (mRecord_any _ r a b (Hs1.out g1 _ K.out)).mono ?_)
           go_must (rintro e w2 ⟨sl, rfl, hS⟩)
           go_must (rw [EX.out] at hS ⊢)
           go_must (rw [EE.out])
           go_must (have hkn := LV.kept hS)
           go_must (have S := Lib.hid (LV.wide hS K.out))
           go_must (obtain ⟨A2, m2, c2, rfl⟩ := BkV.form S.out)
           go_must (have P := Lib.hid (P.out.kept hkn (by simp)))
           go_must (have K := Lib.hid (K.out.trans hkn (by simp)))
           go_must (have hlp := P.out.lt)
           go_must (clear hS hkn hcx))
        | (with_reducible show wpList _ _ _ ({ dst := none, op := Op.store 29 (.tmp 7) (.tmp 20), type := _, pos := _, after := _, guard := _ } :: _) _ _
           go_must (refine wpList_put (t := 29) rfl 29 (.tmp 7) (.tmp 20) rfl _ (by rfl) (by rfl) (by (repeat (first | (apply Blk.new'; simp; done) | apply Blk.alloc | apply Blk.drew))) (by rfl) (by kernel_rfl) (by simp [Value.oneCell']) ?_)
           go_must (intro w3 h1 k1)
           go_must (have X := Lib.hid (show Blk w3 w2.heap.size 29 #[.int .i64 x.kind, .int .u32 (x.tup.src.toNat : Nat), .int .u32 (x.tup.dst.toNat : Nat), .int .i64 x.tup.proto, .int .i64 x.tup.sport, .int .i64 x.tup.dport, .int .i64 x.fb, .int .i64 x.fg, .int .i64 x.fs, .int .i64 x.gen, .slice A2 m2 c2, .int .i64 x.back, .int .i64 x.until_, .int .i64 x.count] from h1))
           go_must (have k2 : Kept [w2.heap.size] w2 w3 := ((Kept.refl _ w2).alloc _).trans k1 (fun i hi => .inl hi))
           go_must (have S := Lib.hid (BkV.far (LV.go BkOk S.out ((Kept.refl [] w2).alloc (.cells #[.int .i64 0, .int .u32 0, .int .u32 0, .int .i64 0, .int .i64 0, .int .i64 0, .int .i64 0, .int .i64 0, .int .i64 0, .int .i64 0, .slice none 0 0, .int .i64 0, .int .i64 0, .int .i64 0] 29))) k1 (by (repeat (first | (apply Blk.new'; simp; done) | apply Blk.alloc | apply Blk.drew))) (by decide) (by have := K.out.size; omega)))
           go_must (have P := Lib.hid (P.out.kept k2 (by simp; omega)))
           go_must (have K := Lib.hid (K.out.trans k2 (fun i hi => .inr (by simp at hi; have := K.out.size; omega))))
           go_must (clear h1 k1 k2)
           go_must (have hcx := P.out.cell))
        | (go_at_call 22
           go_must (refine (rMigrate_any _ r a b (Hs1.out g1 _ K.out)).mono ?_)
           go_must (rintro e w4 ⟨sl, rfl, hS⟩)
           go_must (rw [EX.out] at hS ⊢)
           go_must (rw [EE.out])
           go_must (have hkn := LV.kept hS)
           go_must (have S2 := Lib.hid (LV.wide hS K.out))
           go_must (obtain ⟨A4, m4, c4, rfl⟩ := BkV.form S2.out)
           go_must (have P := Lib.hid (P.out.kept hkn (by simp)))
           go_must (have K := Lib.hid (K.out.trans hkn (by simp)))
           go_must (have X := Lib.hid (X.out.kept hkn (by simp)))
           go_must (have S := Lib.hid (LV.go BkOk S.out hkn))
           go_must (have hlx := X.out.lt)
           go_must (have hlp2 := P.out.lt)
           go_must (clear hS hkn hcx))
        | (with_reducible show wpList _ _ _ ({ dst := none, op := Op.store 29 (.tmp 9) (.tmp 27), type := _, pos := _, after := _, guard := _ } :: _) _ _
           go_must (refine wpList_put (t := 29) rfl 29 (.tmp 9) (.tmp 27) rfl _ (by rfl) (by rfl) (by (repeat (first | (apply Blk.new'; simp; done) | apply Blk.alloc | apply Blk.drew))) (by rfl) (by kernel_rfl) (by simp [Value.oneCell']) ?_)
           go_must (intro w5 h1 k1)
           go_must (have Y := Lib.hid (show Blk w5 w4.heap.size 29 #[.int .i64 x.kind, .int .u32 (x.tup.src.toNat : Nat), .int .u32 (x.tup.dst.toNat : Nat), .int .i64 x.tup.proto, .int .i64 x.tup.sport, .int .i64 x.tup.dport, .int .i64 x.fb, .int .i64 x.fg, .int .i64 x.fs, .int .i64 x.gen, .slice A4 m4 c4, .int .i64 x.back, .int .i64 x.until_, .int .i64 x.count] from h1))
           go_must (have k2 : Kept [w4.heap.size] w4 w5 := ((Kept.refl _ w4).alloc _).trans k1 (fun i hi => .inl hi))
           go_must (have S := Lib.hid (BkV.far (LV.go BkOk S.out ((Kept.refl [] w4).alloc (.cells #[.int .i64 0, .int .u32 0, .int .u32 0, .int .i64 0, .int .i64 0, .int .i64 0, .int .i64 0, .int .i64 0, .int .i64 0, .int .i64 0, .slice none 0 0, .int .i64 0, .int .i64 0, .int .i64 0] 29))) k1 (by (repeat (first | (apply Blk.new'; simp; done) | apply Blk.alloc | apply Blk.drew))) (by decide) (by have := K.out.size; omega)))
           go_must (have S2 := Lib.hid (BkV.far (LV.go BkOk S2.out ((Kept.refl [] w4).alloc (.cells #[.int .i64 0, .int .u32 0, .int .u32 0, .int .i64 0, .int .i64 0, .int .i64 0, .int .i64 0, .int .i64 0, .int .i64 0, .int .i64 0, .slice none 0 0, .int .i64 0, .int .i64 0, .int .i64 0] 29))) k1 (by (repeat (first | (apply Blk.new'; simp; done) | apply Blk.alloc | apply Blk.drew))) (by decide) (by have := K.out.size; omega)))
           go_must (have P := Lib.hid (P.out.kept k2 (by simp; omega)))
           go_must (have X := Lib.hid (X.out.kept k2 (by simp; omega)))
           go_must (have K := Lib.hid (K.out.trans k2 (fun i hi => .inr (by simp at hi; have := K.out.size; omega))))
           go_must (clear h1 k1 k2)
           go_must (have hcx := X.out.cell)
           go_must (have hcy := Y.out.cell))
        | (go_at_call 23
           go_must (obtain ⟨G1, s1⟩ := BkV.small S.out (by have := HB.out; omega))
           go_must (obtain ⟨G2, s2⟩ := BkV.small S2.out (by have := HB.out; omega))
           go_must (refine (rSameR_any _ x x s1 s2).mono ?_)
           go_must (rintro e w6 ⟨rfl, k1⟩)
           go_must (rw [SR.out])
           go_must (have X := Lib.hid (X.out.kept k1 (by simp)))
           go_must (have Y := Lib.hid (Y.out.kept k1 (by simp)))
           go_must (have K := Lib.hid (K.out.trans k1 (by simp)))
           go_must (clear k1 s1 s2 hcx hcy)
           go_must (have hcx := X.out.cell)
           go_must (have hcy := Y.out.cell))
        | (go_at_call 24
           go_must (refine (Steps_any _ a b).mono ?_)
           go_must (rintro e w' ⟨rfl, rfl⟩))
        | (go_at_call 25
           go_must (refine (rSteps_any _ a b).mono ?_)
           go_must (rintro e w' ⟨rfl, rfl⟩))
        | (go_at_call 20
           go_must (refine (awake9_any _).mono ?_)
           go_must (rintro e w99 ⟨rfl, k1⟩)
           go_must (have K := Lib.hid (K.out.trans k1 (by simp)))
           go_must (clear k1)))
      go_ret
      exact ⟨rfl, K.out⟩
  · have d1 : decide (m ≤ 40) = false := by simpa using g1
    go_enter Try.func5, Try.ntmps5
    go_wp2_with (first
      | (go_at_call 19
         go_must (refine (light9_any _ r (BkArr.kept H1.out K.out (by simp))).mono ?_)
         go_must (rintro e w1 ⟨rfl, k1⟩)
         go_must (rw [d1])
         go_must (have P := Lib.hid (P.out.kept k1 (by simp)))
         go_must (have K := Lib.hid (K.out.trans k1 (by simp)))
         go_must (clear k1)
         go_must (have hcx := P.out.cell))
      | (go_at_call 20
         go_must (refine (awake9_any _).mono ?_)
         go_must (rintro e w99 ⟨rfl, k1⟩)
         go_must (have K := Lib.hid (K.out.trans k1 (by simp)))
         go_must (clear k1)))
    go_ret
    exact ⟨rfl, K.out⟩

set_option maxRecDepth 100000 in
theorem MigrateRecords_walk {H : Type} {enc : TypeId × Value → H} {S : Prop} (W : World) (base : Nat) (v0 : Value) (d0 : DataW H) (p0 : List MemPlace) (v1 : Value) (d1 : DataW H) (p1 : List MemPlace) (v2 : Value) (d2 : DataW H) (p2 : List MemPlace)
    (hv0 : Value.okWide Try.prog W .any base 29 v0) (hv1 : Value.okWide Try.prog W .any base 3 v1) (hv2 : Value.okWide Try.prog W .any base 3 v2)
    (h0 : DataW.Trod enc Try.prog W 0 (fun _ => true) true 29 v0 d0 p0) (h1 : DataW.Trod enc Try.prog W 0 (fun _ => true) true 3 v1 d1 p1) (h2 : DataW.Trod enc Try.prog W 0 (fun _ => true) true 3 v2 d2 p2) (_ : S) :
    Calls Try.prog 5 #[v0, v1, v2] W fun e W' => e = .returned (.bool true) ∧ Below W.heap.size W W' := by
  obtain ⟨r, A, m, c, rfl, hr⟩ := open_record hv0 h0
  obtain ⟨a, rfl, rfl, rfl, _⟩ := open_int Try.underlying3 hv1 h1
  obtain ⟨b, rfl, rfl, rfl, _⟩ := open_int Try.underlying3 hv2 h2
  exact (MigrateRecords_any W r a b hr).mono fun e W' ⟨h, hk⟩ => ⟨h, hk.below (Nat.le_refl _) (by simp)⟩
end Go.Proofs.Ytogdpfjbclnlnaa
