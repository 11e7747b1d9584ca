
/-
  The walk of RecordBack.
-/
import Derived.Test.YtogdpfjbclnlnaaLawQ0
import Derived.Test.YtogdpfjbclnlnaaRecE
import Derived.Test.YtogdpfjbclnlnaaRecN
import Derived.Test.YtogdpfjbclnlnaaNb
import Derived.Test.YtogdpfjbclnlnaaRecZ
import Derived.Test.YtogdpfjbclnlnaaPut
import Derived.Test.YtogdpfjbclnlnaaFrameA
import Derived.Deep.RegionHeld3
import Derived.Deep.DeepCutAuto
import Derived.Outline
namespace Go.Proofs.Ytogdpfjbclnlnaa
open Go.RowKit Go.ChangeShapes Go.WideShapes Go.Deep
set_option linter.unusedVariables false

set_option maxHeartbeats 6400000 in
set_option maxRecDepth 100000 in
theorem RecordBack_3 (w : World) {A : Option Addr} {m c : Nat} {B : Option Addr} {n d : Nat} (r : RecD) (v : Int) (f : FrameD) (g1 : m ≤ 40) (g2 : n ≤ 400) (hv : v < 1) (h1 : BkArr w (old w) (.slice A m c) r.backs) (h2 : RdB w (old w) (.slice B n d) f.body) :
    Calls Try.prog 11 #[.agg #[.int .i64 r.kind, .int .u32 (r.tup.src.toNat : Nat), .int .u32 (r.tup.dst.toNat : Nat), .int .i64 r.tup.proto, .int .i64 r.tup.sport, .int .i64 r.tup.dport, .int .i64 r.fb, .int .i64 r.fg, .int .i64 r.fs, .int .i64 r.gen, .slice A m c, .int .i64 r.back, .int .i64 r.until_, .int .i64 r.count], .int .i64 v, .agg #[.int .i64 f.kind, .int .i64 f.ver, .slice B n d]] w fun e w' => e = .returned (.bool true) ∧ Kept [] w w' := by
  have hk0 : Kept [] w ((w.alloc (.cells #[.int .i64 r.kind, .int .u32 (r.tup.src.toNat : Nat), .int .u32 (r.tup.dst.toNat : Nat), .int .i64 r.tup.proto, .int .i64 r.tup.sport, .int .i64 r.tup.dport, .int .i64 r.fb, .int .i64 r.fg, .int .i64 r.fs, .int .i64 r.gen, .slice A m c, .int .i64 r.back, .int .i64 r.until_, .int .i64 r.count] 29)).alloc (.cells #[.int .i64 f.kind, .int .i64 f.ver, .slice B n d] 34)) := by (repeat (first | exact Kept.refl _ _ | apply Kept.alloc | apply Kept.drew))
  have P := Lib.hid (show Blk ((w.alloc (.cells #[.int .i64 r.kind, .int .u32 (r.tup.src.toNat : Nat), .int .u32 (r.tup.dst.toNat : Nat), .int .i64 r.tup.proto, .int .i64 r.tup.sport, .int .i64 r.tup.dport, .int .i64 r.fb, .int .i64 r.fg, .int .i64 r.fs, .int .i64 r.gen, .slice A m c, .int .i64 r.back, .int .i64 r.until_, .int .i64 r.count] 29)).alloc (.cells #[.int .i64 f.kind, .int .i64 f.ver, .slice B n d] 34)) w.heap.size 29 #[.int .i64 r.kind, .int .u32 (r.tup.src.toNat : Nat), .int .u32 (r.tup.dst.toNat : Nat), .int .i64 r.tup.proto, .int .i64 r.tup.sport, .int .i64 r.tup.dport, .int .i64 r.fb, .int .i64 r.fg, .int .i64 r.fs, .int .i64 r.gen, .slice A m c, .int .i64 r.back, .int .i64 r.until_, .int .i64 r.count] from by (repeat (first | (apply Blk.new'; simp; done) | apply Blk.alloc | apply Blk.drew)))
  have Q := Lib.hid (show Blk ((w.alloc (.cells #[.int .i64 r.kind, .int .u32 (r.tup.src.toNat : Nat), .int .u32 (r.tup.dst.toNat : Nat), .int .i64 r.tup.proto, .int .i64 r.tup.sport, .int .i64 r.tup.dport, .int .i64 r.fb, .int .i64 r.fg, .int .i64 r.fs, .int .i64 r.gen, .slice A m c, .int .i64 r.back, .int .i64 r.until_, .int .i64 r.count] 29)).alloc (.cells #[.int .i64 f.kind, .int .i64 f.ver, .slice B n d] 34)) (w.heap.size + 1) 34 #[.int .i64 f.kind, .int .i64 f.ver, .slice B n d] from by (repeat (first | (apply Blk.new'; simp; done) | apply Blk.alloc | apply Blk.drew)))
  have K := Lib.hid hk0
  have H1 := Lib.hid (BkArr.kept h1 (Kept.refl [] w) (by simp))
  have HF := Lib.hid (h2.kept (Kept.refl [] w) (by simp))
  have Hs1 : Hid (m ≤ 40 → ∀ w', Kept [] w w' → SmallB w' (old w) A m c r.backs) := Lib.hid (fun hm w' hk => ⟨BkArr.kept h1 hk (by simp), fun k hk' => Nat.lt_of_lt_of_le (List.mem_range.1 hk') hk.size, by omega⟩)
  clear h1 h2 hk0
  have d1 : decide (m ≤ 40) = true := by simpa using g1
  have hnf : (n : Int) ≤ 400 := by omega
  obtain ⟨x, hx⟩ : ∃ x, decR f = x := ⟨_, rfl⟩
  obtain ⟨en, hen⟩ : ∃ e, decE f = e := ⟨_, rfl⟩
  have hb17 : x.backs.length ≤ 17 := by rw [← hx]; exact decR_backs f
  have HB := Lib.hid hb17
  have hback := back_dec (f := f)
  rw [hx, hen] at hback
  have HBK := Lib.hid hback
  have EX := Lib.hid hx
  have EE := Lib.hid hen
  clear hx hen hb17 hback
  go_enter Try.func11, Try.ntmps11
  go_upto_if 31 with (first
    | (go_at_call 13
       go_must (refine (light8_any _ r (BkArr.kept H1.out K.out (by simp))).mono ?_)
       go_must (rintro e w1 ⟨rfl, k1⟩)
       go_must (rw [d1])
       go_must (have P := Lib.hid (P.out.kept k1 (by simp)))
       go_must (have Q := Lib.hid (Q.out.kept k1 (by simp)))
       go_must (have K := Lib.hid (K.out.trans k1 (by simp)))
       go_must (clear k1)
       go_must (have hcx := P.out.cell)
       go_must (have hcy := Q.out.cell))
    | (go_at_call 33
       with_reducible refine (Decode_any _ f (HF.out.kept K.out (by simp)) (by omega)).mono ?_
       go_must (rintro e w2 ⟨sl, rfl, hS⟩)
       go_must (rw [EX.out] at hS ⊢)
       go_must (rw [EE.out])
       go_must (have hkn := LV.kept hS)
       go_must (have S := Lib.hid (LV.wide hS K.out))
       go_must (obtain ⟨A3, m3, c3, rfl⟩ := BkV.form S.out)
       go_must (clear hS)
       go_must (have P := Lib.hid (P.out.kept hkn (by simp)))
       go_must (have Q := Lib.hid (Q.out.kept hkn (by simp)))
       go_must (have K := Lib.hid (K.out.trans hkn (by simp)))
       go_must (clear hcx hcy hkn)
       go_must (have hlp := Q.out.lt)
       go_must (have hlw := K.out.size))
    | (with_reducible show wpList _ _ _ ({ dst := none, op := Op.store 29 (.tmp 7) (.tmp 28), type := _, pos := _, after := _, guard := _ } :: _) _ _
       go_must (refine wpList_put (t := 29) rfl 29 (.tmp 7) (.tmp 28) rfl _ (by rfl) (by rfl) (by (repeat (first | (apply Blk.new'; simp; done) | apply Blk.alloc | apply Blk.drew))) (by rfl) (by kernel_rfl) (by simp [Value.oneCell']) ?_)
       go_must (intro w3 h1 k1)
       go_must (have X := Lib.hid (show Blk w3 w2.heap.size 29 #[.int .i64 x.kind, .int .u32 (x.tup.src.toNat : Nat), .int .u32 (x.tup.dst.toNat : Nat), .int .i64 x.tup.proto, .int .i64 x.tup.sport, .int .i64 x.tup.dport, .int .i64 x.fb, .int .i64 x.fg, .int .i64 x.fs, .int .i64 x.gen, .slice A3 m3 c3, .int .i64 x.back, .int .i64 x.until_, .int .i64 x.count] from h1))
       go_must (have k2 : Kept [w2.heap.size] w2 w3 := ((Kept.refl _ w2).alloc _).trans k1 (fun i hi => .inl hi))
       go_must (have S := Lib.hid (BkV.far (LV.go BkOk S.out ((Kept.refl [] w2).alloc (.cells #[.int .i64 0, .int .u32 0, .int .u32 0, .int .i64 0, .int .i64 0, .int .i64 0, .int .i64 0, .int .i64 0, .int .i64 0, .int .i64 0, .slice none 0 0, .int .i64 0, .int .i64 0, .int .i64 0] 29))) k1 (by (repeat (first | (apply Blk.new'; simp; done) | apply Blk.alloc | apply Blk.drew))) (by decide) (by omega)))
       go_must (have P := Lib.hid (P.out.kept k2 (by simp; omega)))
       go_must (have Q := Lib.hid (Q.out.kept k2 (by simp; omega)))
       go_must (have K := Lib.hid (K.out.trans k2 (fun i hi => .inr (by simp at hi; omega))))
       go_must (clear h1 k1 k2)
       go_must (have hcz := X.out.cell)
       go_must (have hcx := P.out.cell)
       go_must (have hcy := Q.out.cell)))
  go_cut [] (fun wx => Blk wx w.heap.size 29 #[.int .i64 r.kind, .int .u32 (r.tup.src.toNat : Nat), .int .u32 (r.tup.dst.toNat : Nat), .int .i64 r.tup.proto, .int .i64 r.tup.sport, .int .i64 r.tup.dport, .int .i64 r.fb, .int .i64 r.fg, .int .i64 r.fs, .int .i64 r.gen, .slice A m c, .int .i64 r.back, .int .i64 r.until_, .int .i64 r.count] ∧ Kept [] w wx)
  case first =>
    by_cases h0 : en = 0
    · obtain ⟨hv, hm, h2, h3⟩ := HBK.out h0
      have e0 : (en == 0) = true := by simp [h0]
      have EG := Lib.hid h3
      have EG0 := Lib.hid h2
      have EM := Lib.hid hm
      clear hv hm h2 h3 h0
      go_wp2_with (first
        | (go_at_call 15
           go_must (obtain ⟨G2, hsm⟩ := BkV.small S.out (by have := HB.out; omega))
           go_must (have hm3 := (BkArr.len hsm.1).1)
           with_reducible refine (Encode_any _ x f.ver hsm (by have := HB.out; omega)).mono ?_
           go_must (rintro e w5 ⟨sl, rfl, hn⟩)
           go_must (rw [EG.out] at hn ⊢)
           go_must (rw [EG0.out])
           go_must (have N := Lib.hid (NB.of hn))
           go_must (obtain ⟨A4, m4, c4, rfl⟩ := N.out.form)
           go_must (have hkn := N.out.kept)
           go_must (clear hn hsm hm3 hcx hcy hcz)
           go_must (have P := Lib.hid (P.out.kept hkn (by simp)))
           go_must (have Q := Lib.hid (Q.out.kept hkn (by simp)))
           go_must (have X := Lib.hid (X.out.kept hkn (by simp)))
           go_must (have K := Lib.hid (K.out.trans hkn (by simp)))
           go_must (have S := Lib.hid (LV.go BkOk S.out hkn))
           go_must (clear hkn)
           go_must (have hcy := fun o => (Q.out.alloc o).cell)
           go_must (have hcz := fun o => (X.out.alloc o).cell))
        | (go_at_call 17
           go_must (refine (rSame_any _ f f ((N.out.go ((Kept.refl [] w5).alloc _)).rd) (HF.out.kept (K.out.alloc _) (by simp))).mono ?_)
           go_must (rintro e w6 ⟨rfl, k1⟩)
           go_must (rw [show sameF f f = true by simp [sameF]])
           go_must (have hka : Kept [] w5 (w5.alloc (.cells #[.int .i64 f.kind, .int .i64 f.ver, .slice A4 m4 c4] 34)) := (Kept.refl [] _).alloc _)
           go_must (have P := Lib.hid (P.out.kept hka (by simp)))
           go_must (have Q := Lib.hid (Q.out.kept hka (by simp)))
           go_must (have X := Lib.hid (X.out.kept hka (by simp)))
           go_must (have K := Lib.hid (K.out.trans hka (by simp)))
           go_must (have S := Lib.hid (LV.go BkOk S.out hka))
           go_must (have P := Lib.hid (P.out.kept k1 (by simp)))
           go_must (have Q := Lib.hid (Q.out.kept k1 (by simp)))
           go_must (have X := Lib.hid (X.out.kept k1 (by simp)))
           go_must (have K := Lib.hid (K.out.trans k1 (by simp)))
           go_must (have S := Lib.hid (LV.go BkOk S.out k1))
           go_must (clear k1 hka hcy hcz)
           go_must (have hcz := X.out.cell))
        | (go_at_call 18
           go_must (obtain ⟨G2, hsm⟩ := BkV.small S.out (by have := HB.out; omega))
           go_must (refine (May_any _ x hsm).mono ?_)
           go_must (rintro e w7 ⟨rfl, k1⟩)
           go_must (rw [EM.out])
           go_must (have P := Lib.hid (P.out.kept k1 (by simp)))
           go_must (have Q := Lib.hid (Q.out.kept k1 (by simp)))
           go_must (have X := Lib.hid (X.out.kept k1 (by simp)))
           go_must (have K := Lib.hid (K.out.trans k1 (by simp)))
           go_must (clear k1 hsm hcz)))
      go_meet
      case rel => exact ⟨P.out, K.out⟩
    · have e0 : (en == 0) = false := by simp [h0]
      go_wp2
      go_meet
      case rel => exact ⟨P.out, K.out⟩
  case rest =>
    obtain ⟨hP, hK⟩ := hcut
    have P := Lib.hid hP
    have K := Lib.hid hK
    clear hP hK hcx hcy hcz Q
    have hcx := P.out.cell
    have hb : verB v = false := by simp [verB]; omega
    have EF := Lib.hid (show encF r v = ⟨0, 0, []⟩ by simp [encF, hb, default])
    have EE2 := Lib.hid (show encE r v = 10 by simp [encE, hb])
    clear hb
    go_wp2_with (first
      | (go_at_call 15
         with_reducible refine (Encode_any _ r v (Hs1.out g1 _ K.out) (by omega)).mono ?_
         go_must (rintro e w8 ⟨sl, rfl, hn⟩)
         go_must (rw [EF.out] at hn ⊢)
         go_must (rw [EE2.out])
         go_must (have N := Lib.hid (NB.of hn))
         go_must (obtain ⟨A5, m5, c5, rfl⟩ := N.out.form)
         go_must (have hkn := N.out.kept)
         go_must (clear hn hcx)
         go_must (have P := Lib.hid (P.out.kept hkn (by simp)))
         go_must (have K := Lib.hid (K.out.trans hkn (by simp)))
         go_must (clear hkn)
         go_must (obtain rfl : m5 = 0 := by have := N.out.rd.len.1; simpa using this.symm)
         go_must (have hcx := fun o => (P.out.alloc o).cell))
      | (go_at_call 14
         go_must (refine (awake8_any _).mono ?_)
         go_must (rintro e w99 ⟨rfl, k1⟩)
         go_must (have K := Lib.hid ((K.out.alloc _).trans k1 (by simp)))
         go_must (clear k1)))
    go_ret
    exact ⟨rfl, K.out⟩

set_option maxHeartbeats 6400000 in
set_option maxRecDepth 100000 in
theorem RecordBack_4 (w : World) {A : Option Addr} {m c : Nat} {B : Option Addr} {n d : Nat} (r : RecD) (v : Int) (f : FrameD) (g1 : m ≤ 40) (g2 : n ≤ 400) (hv : 3 < v) (h1 : BkArr w (old w) (.slice A m c) r.backs) (h2 : RdB w (old w) (.slice B n d) f.body) :
    Calls Try.prog 11 #[.agg #[.int .i64 r.kind, .int .u32 (r.tup.src.toNat : Nat), .int .u32 (r.tup.dst.toNat : Nat), .int .i64 r.tup.proto, .int .i64 r.tup.sport, .int .i64 r.tup.dport, .int .i64 r.fb, .int .i64 r.fg, .int .i64 r.fs, .int .i64 r.gen, .slice A m c, .int .i64 r.back, .int .i64 r.until_, .int .i64 r.count], .int .i64 v, .agg #[.int .i64 f.kind, .int .i64 f.ver, .slice B n d]] w fun e w' => e = .returned (.bool true) ∧ Kept [] w w' := by
  have hk0 : Kept [] w ((w.alloc (.cells #[.int .i64 r.kind, .int .u32 (r.tup.src.toNat : Nat), .int .u32 (r.tup.dst.toNat : Nat), .int .i64 r.tup.proto, .int .i64 r.tup.sport, .int .i64 r.tup.dport, .int .i64 r.fb, .int .i64 r.fg, .int .i64 r.fs, .int .i64 r.gen, .slice A m c, .int .i64 r.back, .int .i64 r.until_, .int .i64 r.count] 29)).alloc (.cells #[.int .i64 f.kind, .int .i64 f.ver, .slice B n d] 34)) := by (repeat (first | exact Kept.refl _ _ | apply Kept.alloc | apply Kept.drew))
  have P := Lib.hid (show Blk ((w.alloc (.cells #[.int .i64 r.kind, .int .u32 (r.tup.src.toNat : Nat), .int .u32 (r.tup.dst.toNat : Nat), .int .i64 r.tup.proto, .int .i64 r.tup.sport, .int .i64 r.tup.dport, .int .i64 r.fb, .int .i64 r.fg, .int .i64 r.fs, .int .i64 r.gen, .slice A m c, .int .i64 r.back, .int .i64 r.until_, .int .i64 r.count] 29)).alloc (.cells #[.int .i64 f.kind, .int .i64 f.ver, .slice B n d] 34)) w.heap.size 29 #[.int .i64 r.kind, .int .u32 (r.tup.src.toNat : Nat), .int .u32 (r.tup.dst.toNat : Nat), .int .i64 r.tup.proto, .int .i64 r.tup.sport, .int .i64 r.tup.dport, .int .i64 r.fb, .int .i64 r.fg, .int .i64 r.fs, .int .i64 r.gen, .slice A m c, .int .i64 r.back, .int .i64 r.until_, .int .i64 r.count] from by (repeat (first | (apply Blk.new'; simp; done) | apply Blk.alloc | apply Blk.drew)))
  have Q := Lib.hid (show Blk ((w.alloc (.cells #[.int .i64 r.kind, .int .u32 (r.tup.src.toNat : Nat), .int .u32 (r.tup.dst.toNat : Nat), .int .i64 r.tup.proto, .int .i64 r.tup.sport, .int .i64 r.tup.dport, .int .i64 r.fb, .int .i64 r.fg, .int .i64 r.fs, .int .i64 r.gen, .slice A m c, .int .i64 r.back, .int .i64 r.until_, .int .i64 r.count] 29)).alloc (.cells #[.int .i64 f.kind, .int .i64 f.ver, .slice B n d] 34)) (w.heap.size + 1) 34 #[.int .i64 f.kind, .int .i64 f.ver, .slice B n d] from by (repeat (first | (apply Blk.new'; simp; done) | apply Blk.alloc | apply Blk.drew)))
  have K := Lib.hid hk0
  have H1 := Lib.hid (BkArr.kept h1 (Kept.refl [] w) (by simp))
  have HF := Lib.hid (h2.kept (Kept.refl [] w) (by simp))
  have Hs1 : Hid (m ≤ 40 → ∀ w', Kept [] w w' → SmallB w' (old w) A m c r.backs) := Lib.hid (fun hm w' hk => ⟨BkArr.kept h1 hk (by simp), fun k hk' => Nat.lt_of_lt_of_le (List.mem_range.1 hk') hk.size, by omega⟩)
  clear h1 h2 hk0
  have d1 : decide (m ≤ 40) = true := by simpa using g1
  have hnf : (n : Int) ≤ 400 := by omega
  obtain ⟨x, hx⟩ : ∃ x, decR f = x := ⟨_, rfl⟩
  obtain ⟨en, hen⟩ : ∃ e, decE f = e := ⟨_, rfl⟩
  have hb17 : x.backs.length ≤ 17 := by rw [← hx]; exact decR_backs f
  have HB := Lib.hid hb17
  have hback := back_dec (f := f)
  rw [hx, hen] at hback
  have HBK := Lib.hid hback
  have EX := Lib.hid hx
  have EE := Lib.hid hen
  clear hx hen hb17 hback
  go_enter Try.func11, Try.ntmps11
  go_upto_if 31 with (first
    | (go_at_call 13
       go_must (refine (light8_any _ r (BkArr.kept H1.out K.out (by simp))).mono ?_)
       go_must (rintro e w1 ⟨rfl, k1⟩)
       go_must (rw [d1])
       go_must (have P := Lib.hid (P.out.kept k1 (by simp)))
       go_must (have Q := Lib.hid (Q.out.kept k1 (by simp)))
       go_must (have K := Lib.hid (K.out.trans k1 (by simp)))
       go_must (clear k1)
       go_must (have hcx := P.out.cell)
       go_must (have hcy := Q.out.cell))
    | (go_at_call 33
       with_reducible refine (Decode_any _ f (HF.out.kept K.out (by simp)) (by omega)).mono ?_
       go_must (rintro e w2 ⟨sl, rfl, hS⟩)
       go_must (rw [EX.out] at hS ⊢)
       go_must (rw [EE.out])
       go_must (have hkn := LV.kept hS)
       go_must (have S := Lib.hid (LV.wide hS K.out))
       go_must (obtain ⟨A3, m3, c3, rfl⟩ := BkV.form S.out)
       go_must (clear hS)
       go_must (have P := Lib.hid (P.out.kept hkn (by simp)))
       go_must (have Q := Lib.hid (Q.out.kept hkn (by simp)))
       go_must (have K := Lib.hid (K.out.trans hkn (by simp)))
       go_must (clear hcx hcy hkn)
       go_must (have hlp := Q.out.lt)
       go_must (have hlw := K.out.size))
    | (with_reducible show wpList _ _ _ ({ dst := none, op := Op.store 29 (.tmp 7) (.tmp 28), type := _, pos := _, after := _, guard := _ } :: _) _ _
       go_must (refine wpList_put (t := 29) rfl 29 (.tmp 7) (.tmp 28) rfl _ (by rfl) (by rfl) (by (repeat (first | (apply Blk.new'; simp; done) | apply Blk.alloc | apply Blk.drew))) (by rfl) (by kernel_rfl) (by simp [Value.oneCell']) ?_)
       go_must (intro w3 h1 k1)
       go_must (have X := Lib.hid (show Blk w3 w2.heap.size 29 #[.int .i64 x.kind, .int .u32 (x.tup.src.toNat : Nat), .int .u32 (x.tup.dst.toNat : Nat), .int .i64 x.tup.proto, .int .i64 x.tup.sport, .int .i64 x.tup.dport, .int .i64 x.fb, .int .i64 x.fg, .int .i64 x.fs, .int .i64 x.gen, .slice A3 m3 c3, .int .i64 x.back, .int .i64 x.until_, .int .i64 x.count] from h1))
       go_must (have k2 : Kept [w2.heap.size] w2 w3 := ((Kept.refl _ w2).alloc _).trans k1 (fun i hi => .inl hi))
       go_must (have S := Lib.hid (BkV.far (LV.go BkOk S.out ((Kept.refl [] w2).alloc (.cells #[.int .i64 0, .int .u32 0, .int .u32 0, .int .i64 0, .int .i64 0, .int .i64 0, .int .i64 0, .int .i64 0, .int .i64 0, .int .i64 0, .slice none 0 0, .int .i64 0, .int .i64 0, .int .i64 0] 29))) k1 (by (repeat (first | (apply Blk.new'; simp; done) | apply Blk.alloc | apply Blk.drew))) (by decide) (by omega)))
       go_must (have P := Lib.hid (P.out.kept k2 (by simp; omega)))
       go_must (have Q := Lib.hid (Q.out.kept k2 (by simp; omega)))
       go_must (have K := Lib.hid (K.out.trans k2 (fun i hi => .inr (by simp at hi; omega))))
       go_must (clear h1 k1 k2)
       go_must (have hcz := X.out.cell)
       go_must (have hcx := P.out.cell)
       go_must (have hcy := Q.out.cell)))
  go_cut [] (fun wx => Blk wx w.heap.size 29 #[.int .i64 r.kind, .int .u32 (r.tup.src.toNat : Nat), .int .u32 (r.tup.dst.toNat : Nat), .int .i64 r.tup.proto, .int .i64 r.tup.sport, .int .i64 r.tup.dport, .int .i64 r.fb, .int .i64 r.fg, .int .i64 r.fs, .int .i64 r.gen, .slice A m c, .int .i64 r.back, .int .i64 r.until_, .int .i64 r.count] ∧ Kept [] w wx)
  case first =>
    by_cases h0 : en = 0
    · obtain ⟨hv, hm, h2, h3⟩ := HBK.out h0
      have e0 : (en == 0) = true := by simp [h0]
      have EG := Lib.hid h3
      have EG0 := Lib.hid h2
      have EM := Lib.hid hm
      clear hv hm h2 h3 h0
      go_wp2_with (first
        | (go_at_call 15
           go_must (obtain ⟨G2, hsm⟩ := BkV.small S.out (by have := HB.out; omega))
           go_must (have hm3 := (BkArr.len hsm.1).1)
           with_reducible refine (Encode_any _ x f.ver hsm (by have := HB.out; omega)).mono ?_
           go_must (rintro e w5 ⟨sl, rfl, hn⟩)
           go_must (rw [EG.out] at hn ⊢)
           go_must (rw [EG0.out])
           go_must (have N := Lib.hid (NB.of hn))
           go_must (obtain ⟨A4, m4, c4, rfl⟩ := N.out.form)
           go_must (have hkn := N.out.kept)
           go_must (clear hn hsm hm3 hcx hcy hcz)
           go_must (have P := Lib.hid (P.out.kept hkn (by simp)))
           go_must (have Q := Lib.hid (Q.out.kept hkn (by simp)))
           go_must (have X := Lib.hid (X.out.kept hkn (by simp)))
           go_must (have K := Lib.hid (K.out.trans hkn (by simp)))
           go_must (have S := Lib.hid (LV.go BkOk S.out hkn))
           go_must (clear hkn)
           go_must (have hcy := fun o => (Q.out.alloc o).cell)
           go_must (have hcz := fun o => (X.out.alloc o).cell))
        | (go_at_call 17
           go_must (refine (rSame_any _ f f ((N.out.go ((Kept.refl [] w5).alloc _)).rd) (HF.out.kept (K.out.alloc _) (by simp))).mono ?_)
           go_must (rintro e w6 ⟨rfl, k1⟩)
           go_must (rw [show sameF f f = true by simp [sameF]])
           go_must (have hka : Kept [] w5 (w5.alloc (.cells #[.int .i64 f.kind, .int .i64 f.ver, .slice A4 m4 c4] 34)) := (Kept.refl [] _).alloc _)
           go_must (have P := Lib.hid (P.out.kept hka (by simp)))
           go_must (have Q := Lib.hid (Q.out.kept hka (by simp)))
           go_must (have X := Lib.hid (X.out.kept hka (by simp)))
           go_must (have K := Lib.hid (K.out.trans hka (by simp)))
           go_must (have S := Lib.hid (LV.go BkOk S.out hka))
           go_must (have P := Lib.hid (P.out.kept k1 (by simp)))
           go_must (have Q := Lib.hid (Q.out.kept k1 (by simp)))
           go_must (have X := Lib.hid (X.out.kept k1 (by simp)))
           go_must (have K := Lib.hid (K.out.trans k1 (by simp)))
           go_must (have S := Lib.hid (LV.go BkOk S.out k1))
           go_must (clear k1 hka hcy hcz)
           go_must (have hcz := X.out.cell))
        | (go_at_call 18
           go_must (obtain ⟨G2, hsm⟩ := BkV.small S.out (by have := HB.out; omega))
           go_must (refine (May_any _ x hsm).mono ?_)
           go_must (rintro e w7 ⟨rfl, k1⟩)
           go_must (rw [EM.out])
           go_must (have P := Lib.hid (P.out.kept k1 (by simp)))
           go_must (have Q := Lib.hid (Q.out.kept k1 (by simp)))
           go_must (have X := Lib.hid (X.out.kept k1 (by simp)))
           go_must (have K := Lib.hid (K.out.trans k1 (by simp)))
           go_must (clear k1 hsm hcz)))
      go_meet
      case rel => exact ⟨P.out, K.out⟩
    · have e0 : (en == 0) = false := by simp [h0]
      go_wp2
      go_meet
      case rel => exact ⟨P.out, K.out⟩
  case rest =>
    obtain ⟨hP, hK⟩ := hcut
    have P := Lib.hid hP
    have K := Lib.hid hK
    clear hP hK hcx hcy hcz Q
    have hcx := P.out.cell
    have hb : verB v = false := by simp [verB]; omega
    have hv1 : ¬ v < 1 := by omega
    have EF := Lib.hid (show encF r v = ⟨0, 0, []⟩ by simp [encF, hb, default])
    have EE2 := Lib.hid (show encE r v = 10 by simp [encE, hb])
    clear hb
    go_wp2_with (first
      | (go_at_call 15
         with_reducible refine (Encode_any _ r v (Hs1.out g1 _ K.out) (by omega)).mono ?_
         go_must (rintro e w8 ⟨sl, rfl, hn⟩)
         go_must (rw [EF.out] at hn ⊢)
         go_must (rw [EE2.out])
         go_must (have N := Lib.hid (NB.of hn))
         go_must (obtain ⟨A5, m5, c5, rfl⟩ := N.out.form)
         go_must (have hkn := N.out.kept)
         go_must (clear hn hcx)
         go_must (have P := Lib.hid (P.out.kept hkn (by simp)))
         go_must (have K := Lib.hid (K.out.trans hkn (by simp)))
         go_must (clear hkn)
         go_must (obtain rfl : m5 = 0 := by have := N.out.rd.len.1; simpa using this.symm)
         go_must (have hcx := fun o => (P.out.alloc o).cell))
      | (go_at_call 14
         go_must (refine (awake8_any _).mono ?_)
         go_must (rintro e w99 ⟨rfl, k1⟩)
         go_must (have K := Lib.hid ((K.out.alloc _).trans k1 (by simp)))
         go_must (clear k1)))
    go_ret
    exact ⟨rfl, K.out⟩

end Go.Proofs.Ytogdpfjbclnlnaa
