
/-
  The walk of RecordFields.
-/
import Derived.Test.YtogdpfjbclnlnaaRecP
import Derived.Test.YtogdpfjbclnlnaaRecE
import Derived.Test.YtogdpfjbclnlnaaNb
import Derived.Test.YtogdpfjbclnlnaaRecZ
import Derived.Test.YtogdpfjbclnlnaaPut
import Derived.Deep.RegionHeld3
import Derived.Deep.DeepCutAuto
import Derived.Outline
namespace Go.Proofs.Ytogdpfjbclnlnaa
open Go.RowKit Go.ChangeShapes Go.WideShapes Go.Deep
set_option linter.unusedVariables false

set_option maxHeartbeats 6400000 in
set_option maxRecDepth 100000 in
theorem RecordFields_3 (w : World) {A : Option Addr} {m c : Nat} {B : Option Addr} {n d : Nat} (r s : RecD) (v : Int) (g1 : m ≤ 40) (g2 : n ≤ 40) (hk : r.kind = 3) (h1 : BkArr w (old w) (.slice A m c) r.backs) (h2 : BkArr w (old w) (.slice B n d) s.backs) :
    Calls Try.prog 7 #[.agg #[.int .i64 r.kind, .int .u32 (r.tup.src.toNat : Nat), .int .u32 (r.tup.dst.toNat : Nat), .int .i64 r.tup.proto, .int .i64 r.tup.sport, .int .i64 r.tup.dport, .int .i64 r.fb, .int .i64 r.fg, .int .i64 r.fs, .int .i64 r.gen, .slice A m c, .int .i64 r.back, .int .i64 r.until_, .int .i64 r.count], .agg #[.int .i64 s.kind, .int .u32 (s.tup.src.toNat : Nat), .int .u32 (s.tup.dst.toNat : Nat), .int .i64 s.tup.proto, .int .i64 s.tup.sport, .int .i64 s.tup.dport, .int .i64 s.fb, .int .i64 s.fg, .int .i64 s.fs, .int .i64 s.gen, .slice B n d, .int .i64 s.back, .int .i64 s.until_, .int .i64 s.count], .int .i64 v] w fun e w' => e = .returned (.bool true) ∧ Kept [] w w' := by
  have hk0 : Kept [] w ((w.alloc (.cells #[.int .i64 r.kind, .int .u32 (r.tup.src.toNat : Nat), .int .u32 (r.tup.dst.toNat : Nat), .int .i64 r.tup.proto, .int .i64 r.tup.sport, .int .i64 r.tup.dport, .int .i64 r.fb, .int .i64 r.fg, .int .i64 r.fs, .int .i64 r.gen, .slice A m c, .int .i64 r.back, .int .i64 r.until_, .int .i64 r.count] 29)).alloc (.cells #[.int .i64 s.kind, .int .u32 (s.tup.src.toNat : Nat), .int .u32 (s.tup.dst.toNat : Nat), .int .i64 s.tup.proto, .int .i64 s.tup.sport, .int .i64 s.tup.dport, .int .i64 s.fb, .int .i64 s.fg, .int .i64 s.fs, .int .i64 s.gen, .slice B n d, .int .i64 s.back, .int .i64 s.until_, .int .i64 s.count] 29)) := by (repeat (first | exact Kept.refl _ _ | apply Kept.alloc | apply Kept.drew))
  have P := Lib.hid (show Blk ((w.alloc (.cells #[.int .i64 r.kind, .int .u32 (r.tup.src.toNat : Nat), .int .u32 (r.tup.dst.toNat : Nat), .int .i64 r.tup.proto, .int .i64 r.tup.sport, .int .i64 r.tup.dport, .int .i64 r.fb, .int .i64 r.fg, .int .i64 r.fs, .int .i64 r.gen, .slice A m c, .int .i64 r.back, .int .i64 r.until_, .int .i64 r.count] 29)).alloc (.cells #[.int .i64 s.kind, .int .u32 (s.tup.src.toNat : Nat), .int .u32 (s.tup.dst.toNat : Nat), .int .i64 s.tup.proto, .int .i64 s.tup.sport, .int .i64 s.tup.dport, .int .i64 s.fb, .int .i64 s.fg, .int .i64 s.fs, .int .i64 s.gen, .slice B n d, .int .i64 s.back, .int .i64 s.until_, .int .i64 s.count] 29)) w.heap.size 29 #[.int .i64 r.kind, .int .u32 (r.tup.src.toNat : Nat), .int .u32 (r.tup.dst.toNat : Nat), .int .i64 r.tup.proto, .int .i64 r.tup.sport, .int .i64 r.tup.dport, .int .i64 r.fb, .int .i64 r.fg, .int .i64 r.fs, .int .i64 r.gen, .slice A m c, .int .i64 r.back, .int .i64 r.until_, .int .i64 r.count] from by (repeat (first | (apply Blk.new'; simp; done) | apply Blk.alloc | apply Blk.drew)))
  have Q := Lib.hid (show Blk ((w.alloc (.cells #[.int .i64 r.kind, .int .u32 (r.tup.src.toNat : Nat), .int .u32 (r.tup.dst.toNat : Nat), .int .i64 r.tup.proto, .int .i64 r.tup.sport, .int .i64 r.tup.dport, .int .i64 r.fb, .int .i64 r.fg, .int .i64 r.fs, .int .i64 r.gen, .slice A m c, .int .i64 r.back, .int .i64 r.until_, .int .i64 r.count] 29)).alloc (.cells #[.int .i64 s.kind, .int .u32 (s.tup.src.toNat : Nat), .int .u32 (s.tup.dst.toNat : Nat), .int .i64 s.tup.proto, .int .i64 s.tup.sport, .int .i64 s.tup.dport, .int .i64 s.fb, .int .i64 s.fg, .int .i64 s.fs, .int .i64 s.gen, .slice B n d, .int .i64 s.back, .int .i64 s.until_, .int .i64 s.count] 29)) (w.heap.size + 1) 29 #[.int .i64 s.kind, .int .u32 (s.tup.src.toNat : Nat), .int .u32 (s.tup.dst.toNat : Nat), .int .i64 s.tup.proto, .int .i64 s.tup.sport, .int .i64 s.tup.dport, .int .i64 s.fb, .int .i64 s.fg, .int .i64 s.fs, .int .i64 s.gen, .slice B n d, .int .i64 s.back, .int .i64 s.until_, .int .i64 s.count] from by (repeat (first | (apply Blk.new'; simp; done) | apply Blk.alloc | apply Blk.drew)))
  have K := Lib.hid hk0
  have H1 := Lib.hid (BkArr.kept h1 (Kept.refl [] w) (by simp))
  have H2 := Lib.hid (BkArr.kept h2 (Kept.refl [] w) (by simp))
  have Hs1 : Hid (m ≤ 40 → ∀ w', Kept [] w w' → SmallB w' (old w) A m c r.backs) := Lib.hid (fun hm w' hk => ⟨BkArr.kept h1 hk (by simp), fun k hk' => Nat.lt_of_lt_of_le (List.mem_range.1 hk') hk.size, by omega⟩)
  have Hs2 : Hid (n ≤ 40 → ∀ w', Kept [] w w' → SmallB w' (old w) B n d s.backs) := Lib.hid (fun hm w' hk => ⟨BkArr.kept h2 hk (by simp), fun k hk' => Nat.lt_of_lt_of_le (List.mem_range.1 hk') hk.size, by omega⟩)
  clear h1 h2 hk0
  have d1 : decide (m ≤ 40) = true := by simpa using g1
  have d2 : decide (n ≤ 40) = true := by simpa using g2
  obtain ⟨z, hz⟩ : ∃ z : RecD, z = ({ kind := r.kind, tup := s.tup, fb := s.fb, fg := s.fg, fs := s.fs, gen := r.gen, backs := r.backs, back := s.back, until_ := s.until_, count := s.count } : RecD) := ⟨_, rfl⟩
  have hpl : plainR r = plainR z := by rw [mix_plain r s, show mixR r s = z by rw [hz]; simp [mixR, hk]]
  have he := enc_of_plain hpl v
  have hsm := Lib.hid (sameR_iff.2 hpl)
  obtain ⟨f, hf⟩ : ∃ f, encF r v = f := ⟨_, rfl⟩
  obtain ⟨en, hen⟩ : ∃ e, encE r v = e := ⟨_, rfl⟩
  obtain ⟨my, hmy⟩ : ∃ b, mayR r = b := ⟨_, rfl⟩
  have EF2 := Lib.hid (he.2.2.symm.trans hf)
  have EE2 := Lib.hid (he.2.1.symm.trans hen)
  have EM2 := Lib.hid (he.1.symm.trans hmy)
  have EF := Lib.hid hf
  have EE := Lib.hid hen
  have EM := Lib.hid hmy
  have HZ := Lib.hid hz
  have n1 : (r.kind != 1) = true := by simp [hk]
  have n2 : (r.kind != 2) = true := by simp [hk]
  have n3 : (r.kind != 3) = false := by simp [hk]
  have n4 : (r.kind != 4) = true := by simp [hk]
  have n5 : (r.kind != 5) = true := by simp [hk]
  have n6 : (r.kind != 6) = true := by simp [hk]
  have b1 : (r.kind == 1) = false := by simp [hk]
  have b2 : (r.kind == 2) = false := by simp [hk]
  have b3 : (r.kind == 3) = true := by simp [hk]
  have b4 : (r.kind == 4) = false := by simp [hk]
  have b5 : (r.kind == 5) = false := by simp [hk]
  have b6 : (r.kind == 6) = false := by simp [hk]
  clear hpl he hf hen hmy hz hk
  go_enter Try.func7, Try.ntmps7
  go_upto_region 16 with (first
    | (go_at_call 13
       with_reducible refine (light8_any _ r (BkArr.kept H1.out K.out (by simp))).mono ?_
       go_must (rintro e w1 ⟨rfl, k1⟩)
       go_must (rw [d1])
       go_must (have P := Lib.hid (P.out.kept k1 (by simp)))
       go_must (have Q := Lib.hid (Q.out.kept k1 (by simp)))
       go_must (have K := Lib.hid (K.out.trans k1 (by simp)))
       go_must (first | (clear hcx hcy) | skip)
       go_must (first | (clear hcf) | skip)
       go_must (clear k1)
       go_must (have hcx := P.out.cell)
       go_must (have hcy := Q.out.cell))
    | (go_at_call 13
       with_reducible refine (light8_any _ s (BkArr.kept H2.out K.out (by simp))).mono ?_
       go_must (rintro e w2 ⟨rfl, k1⟩)
       go_must (rw [d2])
       go_must (have P := Lib.hid (P.out.kept k1 (by simp)))
       go_must (have Q := Lib.hid (Q.out.kept k1 (by simp)))
       go_must (have K := Lib.hid (K.out.trans k1 (by simp)))
       go_must (first | (clear hcx hcy) | skip)
       go_must (first | (clear hcf) | skip)
       go_must (clear k1)
       go_must (have hcx := P.out.cell)
       go_must (have hcy := Q.out.cell))
    | (with_reducible show wpList _ _ _ ({ dst := none, op := Op.store 29 (.tmp 7) (.tmp 21), type := _, pos := _, after := _, guard := _ } :: _) _ _
       go_must (refine wpList_put (t := 29) rfl 29 (.tmp 7) (.tmp 21) rfl _ (by rfl) (by rfl) (by (repeat (first | (apply Blk.new'; simp; done) | apply Blk.alloc | apply Blk.drew))) (by rfl) (by kernel_rfl) (by simp [Value.oneCell']) ?_)
       go_must (intro w3 h1 k1)
       go_must (have X := Lib.hid (show Blk w3 w2.heap.size 29 #[.int .i64 r.kind, .int .u32 (r.tup.src.toNat : Nat), .int .u32 (r.tup.dst.toNat : Nat), .int .i64 r.tup.proto, .int .i64 r.tup.sport, .int .i64 r.tup.dport, .int .i64 r.fb, .int .i64 r.fg, .int .i64 r.fs, .int .i64 r.gen, .slice A m c, .int .i64 r.back, .int .i64 r.until_, .int .i64 r.count] from h1))
       go_must (have hlt := Q.out.lt)
       go_must (have hlw := K.out.size)
       go_must (have k2 : Kept [w2.heap.size] w2 w3 := ((Kept.refl _ w2).alloc _).trans k1 (fun i hi => .inl hi))
       go_must (have P := Lib.hid (P.out.kept k2 (by simp; omega)))
       go_must (have Q := Lib.hid (Q.out.kept k2 (by simp; omega)))
       go_must (have K := Lib.hid (K.out.trans k2 (fun i hi => .inr (by simp at hi; omega))))
       go_must (clear hcx hcy)
       go_must (have hcx := P.out.cell)
       go_must (have hcy := Q.out.cell)
       go_must (clear h1 k1 k2))
    | (with_reducible show wpList _ _ _ ({ dst := none, op := Op.store 26 (.tmp 32) _, type := _, pos := _, after := _, guard := _ } :: _) _ _
       go_must (refine wpList_putAt (t := 29) (v := .agg #[.int .u32 (s.tup.src.toNat : Nat), .int .u32 (s.tup.dst.toNat : Nat), .int .i64 s.tup.proto, .int .i64 s.tup.sport, .int .i64 s.tup.dport, .int .i64 s.fb, .int .i64 s.fg, .int .i64 s.fs]) rfl 26 (.tmp 32) _ rfl (by rfl) (by rfl) X.out (by simp [Value.cells]) (by kernel_rfl) (by simp [Value.cells, Value.oneCell']) ?_)
       go_must (intro w4 h1 k1)
       go_must (have X := Lib.hid (show Blk w4 (w2.heap.size) 29 #[.int .i64 r.kind, .int .u32 (s.tup.src.toNat : Nat), .int .u32 (s.tup.dst.toNat : Nat), .int .i64 s.tup.proto, .int .i64 s.tup.sport, .int .i64 s.tup.dport, .int .i64 s.fb, .int .i64 s.fg, .int .i64 s.fs, .int .i64 r.gen, .slice A m c, .int .i64 r.back, .int .i64 r.until_, .int .i64 r.count] from h1))
       go_must (have P := Lib.hid (P.out.kept k1 (by simp; omega)))
       go_must (have Q := Lib.hid (Q.out.kept k1 (by simp; omega)))
       go_must (have K := Lib.hid (K.out.trans k1 (fun i hi => .inr (by simp at hi; omega))))
       go_must (clear hcx hcy)
       go_must (have hcx := P.out.cell)
       go_must (have hcy := Q.out.cell)
       go_must (clear h1 k1))
    | (with_reducible show wpList _ _ _ ({ dst := none, op := Op.store 3 (.tmp 52) _, type := _, pos := _, after := _, guard := _ } :: _) _ _
       go_must (refine wpList_putAt (t := 29) (v := .int .i64 s.back) rfl 3 (.tmp 52) _ rfl (by rfl) (by rfl) X.out (by simp [Value.cells]) (by kernel_rfl) (by simp [Value.cells, Value.oneCell']) ?_)
       go_must (intro w5 h1 k1)
       go_must (have X := Lib.hid (show Blk w5 (w2.heap.size) 29 #[.int .i64 r.kind, .int .u32 (s.tup.src.toNat : Nat), .int .u32 (s.tup.dst.toNat : Nat), .int .i64 s.tup.proto, .int .i64 s.tup.sport, .int .i64 s.tup.dport, .int .i64 s.fb, .int .i64 s.fg, .int .i64 s.fs, .int .i64 r.gen, .slice A m c, .int .i64 s.back, .int .i64 r.until_, .int .i64 r.count] from h1))
       go_must (have P := Lib.hid (P.out.kept k1 (by simp; omega)))
       go_must (have Q := Lib.hid (Q.out.kept k1 (by simp; omega)))
       go_must (have K := Lib.hid (K.out.trans k1 (fun i hi => .inr (by simp at hi; omega))))
       go_must (clear hcx hcy)
       go_must (have hcx := P.out.cell)
       go_must (have hcy := Q.out.cell)
       go_must (clear h1 k1))
    | (with_reducible show wpList _ _ _ ({ dst := none, op := Op.store 2 (.tmp 58) _, type := _, pos := _, after := _, guard := _ } :: _) _ _
       go_must (refine wpList_putAt (t := 29) (v := .int .i64 s.until_) rfl 2 (.tmp 58) _ rfl (by rfl) (by rfl) X.out (by simp [Value.cells]) (by kernel_rfl) (by simp [Value.cells, Value.oneCell']) ?_)
       go_must (intro w6 h1 k1)
       go_must (have X := Lib.hid (show Blk w6 (w2.heap.size) 29 #[.int .i64 r.kind, .int .u32 (s.tup.src.toNat : Nat), .int .u32 (s.tup.dst.toNat : Nat), .int .i64 s.tup.proto, .int .i64 s.tup.sport, .int .i64 s.tup.dport, .int .i64 s.fb, .int .i64 s.fg, .int .i64 s.fs, .int .i64 r.gen, .slice A m c, .int .i64 s.back, .int .i64 s.until_, .int .i64 r.count] from h1))
       go_must (have P := Lib.hid (P.out.kept k1 (by simp; omega)))
       go_must (have Q := Lib.hid (Q.out.kept k1 (by simp; omega)))
       go_must (have K := Lib.hid (K.out.trans k1 (fun i hi => .inr (by simp at hi; omega))))
       go_must (clear hcx hcy)
       go_must (have hcx := P.out.cell)
       go_must (have hcy := Q.out.cell)
       go_must (clear h1 k1))
    | (with_reducible show wpList _ _ _ ({ dst := none, op := Op.store 3 (.tmp 64) _, type := _, pos := _, after := _, guard := _ } :: _) _ _
       go_must (refine wpList_putAt (t := 29) (v := .int .i64 s.count) rfl 3 (.tmp 64) _ rfl (by rfl) (by rfl) X.out (by simp [Value.cells]) (by kernel_rfl) (by simp [Value.cells, Value.oneCell']) ?_)
       go_must (intro w7 h1 k1)
       go_must (have X := Lib.hid (show Blk w7 (w2.heap.size) 29 #[.int .i64 r.kind, .int .u32 (s.tup.src.toNat : Nat), .int .u32 (s.tup.dst.toNat : Nat), .int .i64 s.tup.proto, .int .i64 s.tup.sport, .int .i64 s.tup.dport, .int .i64 s.fb, .int .i64 s.fg, .int .i64 s.fs, .int .i64 r.gen, .slice A m c, .int .i64 s.back, .int .i64 s.until_, .int .i64 s.count] from h1))
       go_must (have P := Lib.hid (P.out.kept k1 (by simp; omega)))
       go_must (have Q := Lib.hid (Q.out.kept k1 (by simp; omega)))
       go_must (have K := Lib.hid (K.out.trans k1 (fun i hi => .inr (by simp at hi; omega))))
       go_must (clear hcx hcy)
       go_must (have hcx := P.out.cell)
       go_must (have hcy := Q.out.cell)
       go_must (clear h1 k1))
    | (go_at_call 15
       with_reducible refine (Encode_any _ r v (Hs1.out g1 _ K.out) (by omega)).mono ?_
       go_must (rintro e w8 ⟨sl, rfl, hn⟩)
       go_must (rw [EF.out] at hn ⊢)
       go_must (rw [EE.out])
       go_must (have N1 := Lib.hid (NB.of hn))
       go_must (obtain ⟨A1, m1, c1, rfl⟩ := N1.out.form)
       go_must (have hkn := N1.out.kept)
       go_must (have X := Lib.hid (show Blk _ w2.heap.size 29 #[.int .i64 z.kind, .int .u32 (z.tup.src.toNat : Nat), .int .u32 (z.tup.dst.toNat : Nat), .int .i64 z.tup.proto, .int .i64 z.tup.sport, .int .i64 z.tup.dport, .int .i64 z.fb, .int .i64 z.fg, .int .i64 z.fs, .int .i64 z.gen, .slice A m c, .int .i64 z.back, .int .i64 z.until_, .int .i64 z.count] by rw [HZ.out]; exact X.out))
       go_must (clear hn)
       go_must (have P := Lib.hid (P.out.kept hkn (by simp)))
       go_must (have X := Lib.hid (X.out.kept hkn (by simp)))
       go_must (have K := Lib.hid (K.out.trans hkn (by simp)))
       go_must (clear hcx hcy hkn)
       go_must (have hcx := fun o => (X.out.alloc o).cell))
    | (go_at_call 15
       with_reducible refine (Encode_any _ z v (by rw [show z.backs = r.backs by rw [HZ.out]]; exact Hs1.out g1 _ (K.out.alloc _)) (by omega)).mono ?_
       go_must (rintro e w9 ⟨sl, rfl, hn⟩)
       go_must (rw [EF2.out] at hn ⊢)
       go_must (rw [EE2.out])
       go_must (have N2 := Lib.hid (NB.of hn))
       go_must (obtain ⟨A2, m2, c2, rfl⟩ := N2.out.form)
       go_must (have hkn := N2.out.kept)
       go_must (clear hn hcx)
       go_must (have hka : Kept [] w8 (w8.alloc (.cells #[.int .i64 f.kind, .int .i64 f.ver, .slice A1 m1 c1] 34)) := (Kept.refl [] _).alloc _)
       go_must (have Y1 := Lib.hid ((show Blk (w8.alloc (.cells #[.int .i64 f.kind, .int .i64 f.ver, .slice A1 m1 c1] 34)) w8.heap.size 34 #[.int .i64 f.kind, .int .i64 f.ver, .slice A1 m1 c1] from by (repeat (first | (apply Blk.new'; simp; done) | apply Blk.alloc | apply Blk.drew))).kept hkn (by simp)))
       go_must (have P := Lib.hid (P.out.kept hka (by simp)))
       go_must (have X := Lib.hid (X.out.kept hka (by simp)))
       go_must (have K := Lib.hid (K.out.trans hka (by simp)))
       go_must (have N1 := Lib.hid (N1.out.go hka))
       go_must (have P := Lib.hid (P.out.kept hkn (by simp)))
       go_must (have X := Lib.hid (X.out.kept hkn (by simp)))
       go_must (have K := Lib.hid (K.out.trans hkn (by simp)))
       go_must (have N1 := Lib.hid (N1.out.go hkn))
       go_must (clear hka hkn)))
  have hka : Kept [] w9 ((w9.alloc (.cells #[.int .i64 f.kind, .int .i64 f.ver, .slice A2 m2 c2] 34)).drew) := by (repeat (first | exact Kept.refl _ _ | apply Kept.alloc | apply Kept.drew))
  have Y2 := Lib.hid (show Blk ((w9.alloc (.cells #[.int .i64 f.kind, .int .i64 f.ver, .slice A2 m2 c2] 34)).drew) w9.heap.size 34 #[.int .i64 f.kind, .int .i64 f.ver, .slice A2 m2 c2] from by (repeat (first | (apply Blk.new'; simp; done) | apply Blk.alloc | apply Blk.drew)))
  have P := Lib.hid (P.out.kept hka (by simp))
  have X := Lib.hid (X.out.kept hka (by simp))
  have Y1 := Lib.hid (Y1.out.kept hka (by simp))
  have N1 := Lib.hid (N1.out.go hka)
  have N2 := Lib.hid (N2.out.go hka)
  have K := Lib.hid (K.out.trans hka (by simp))
  clear hka
  cases my
  all_goals
    go_region_held3 (fun w' => (∀ o, w'.cell? ⟨w.heap.size, o, none⟩ = (#[.int .i64 r.kind, .int .u32 (r.tup.src.toNat : Nat), .int .u32 (r.tup.dst.toNat : Nat), .int .i64 r.tup.proto, .int .i64 r.tup.sport, .int .i64 r.tup.dport, .int .i64 r.fb, .int .i64 r.fg, .int .i64 r.fs, .int .i64 r.gen, .slice A m c, .int .i64 r.back, .int .i64 r.until_, .int .i64 r.count] : Array Value)[o]?) ∧ (∀ o, w'.cell? ⟨w2.heap.size, o, none⟩ = (#[.int .i64 z.kind, .int .u32 (z.tup.src.toNat : Nat), .int .u32 (z.tup.dst.toNat : Nat), .int .i64 z.tup.proto, .int .i64 z.tup.sport, .int .i64 z.tup.dport, .int .i64 z.fb, .int .i64 z.fg, .int .i64 z.fs, .int .i64 z.gen, .slice A m c, .int .i64 z.back, .int .i64 z.until_, .int .i64 z.count] : Array Value)[o]?) ∧ (∀ o, w'.cell? ⟨w8.heap.size, o, none⟩ = (#[.int .i64 f.kind, .int .i64 f.ver, .slice A1 m1 c1] : Array Value)[o]?) ∧ (∀ o, w'.cell? ⟨w9.heap.size, o, none⟩ = (#[.int .i64 f.kind, .int .i64 f.ver, .slice A2 m2 c2] : Array Value)[o]?)) (exact ⟨P.out.cell, X.out.cell, Y1.out.cell, Y2.out.cell⟩)
       (first
        | (go_at_call 26
           go_must (refine (SameR_any _ r z (Hs1.out g1 _ K.out) (by rw [show z.backs = r.backs by rw [HZ.out]]; exact Hs1.out g1 _ K.out)).mono ?_)
           go_must (rintro e w10 ⟨rfl, k1⟩)
           go_must (rw [hsm.out])
           go_must (have P := Lib.hid (P.out.kept k1 (by simp)))
           go_must (have X := Lib.hid (X.out.kept k1 (by simp)))
           go_must (have Y1 := Lib.hid (Y1.out.kept k1 (by simp)))
           go_must (have Y2 := Lib.hid (Y2.out.kept k1 (by simp)))
           go_must (have N1 := Lib.hid (N1.out.go k1))
           go_must (have N2 := Lib.hid (N2.out.go k1))
           go_must (have K := Lib.hid (K.out.trans k1 (by simp)))
           go_must (clear k1))
        | (go_at_call 18
           with_reducible refine (May_any _ r (Hs1.out g1 _ K.out)).mono ?_
           go_must (rintro e w11 ⟨rfl, k1⟩)
           go_must (rw [EM.out])
           go_must (have P := Lib.hid (P.out.kept k1 (by simp)))
           go_must (have X := Lib.hid (X.out.kept k1 (by simp)))
           go_must (have Y1 := Lib.hid (Y1.out.kept k1 (by simp)))
           go_must (have Y2 := Lib.hid (Y2.out.kept k1 (by simp)))
           go_must (have N1 := Lib.hid (N1.out.go k1))
           go_must (have N2 := Lib.hid (N2.out.go k1))
           go_must (have K := Lib.hid (K.out.trans k1 (by simp)))
           go_must (clear k1))
        | (go_at_call 18
           with_reducible refine (May_any _ z (by rw [show z.backs = r.backs by rw [HZ.out]]; exact Hs1.out g1 _ K.out)).mono ?_
           go_must (rintro e w12 ⟨rfl, k1⟩)
           go_must (rw [EM2.out])
           go_must (have P := Lib.hid (P.out.kept k1 (by simp)))
           go_must (have X := Lib.hid (X.out.kept k1 (by simp)))
           go_must (have Y1 := Lib.hid (Y1.out.kept k1 (by simp)))
           go_must (have Y2 := Lib.hid (Y2.out.kept k1 (by simp)))
           go_must (have N1 := Lib.hid (N1.out.go k1))
           go_must (have N2 := Lib.hid (N2.out.go k1))
           go_must (have K := Lib.hid (K.out.trans k1 (by simp)))
           go_must (clear k1))
        | (go_at_call 17
           go_must (refine (rSame_any _ f f N1.out.rd N2.out.rd).mono ?_)
           go_must (rintro e w13 ⟨rfl, k1⟩)
           go_must (rw [show sameF f f = true by simp [sameF]])
           go_must (have P := Lib.hid (P.out.kept k1 (by simp)))
           go_must (have X := Lib.hid (X.out.kept k1 (by simp)))
           go_must (have Y1 := Lib.hid (Y1.out.kept k1 (by simp)))
           go_must (have Y2 := Lib.hid (Y2.out.kept k1 (by simp)))
           go_must (have N1 := Lib.hid (N1.out.go k1))
           go_must (have N2 := Lib.hid (N2.out.go k1))
           go_must (have K := Lib.hid (K.out.trans k1 (by simp)))
           go_must (clear k1))
        | (go_at_call 14
           go_must (refine (awake8_any _).mono ?_)
           go_must (rintro e w14 ⟨rfl, k1⟩)
           go_must (have P := Lib.hid (P.out.kept k1 (by simp)))
           go_must (have X := Lib.hid (X.out.kept k1 (by simp)))
           go_must (have Y1 := Lib.hid (Y1.out.kept k1 (by simp)))
           go_must (have Y2 := Lib.hid (Y2.out.kept k1 (by simp)))
           go_must (have N1 := Lib.hid (N1.out.go k1))
           go_must (have N2 := Lib.hid (N2.out.go k1))
           go_must (have K := Lib.hid (K.out.trans k1 (by simp)))
           go_must (clear k1)))
    all_goals
      go_wp2
      go_ret
      exact ⟨rfl, K.out⟩

set_option maxHeartbeats 6400000 in
set_option maxRecDepth 100000 in
theorem RecordFields_4 (w : World) {A : Option Addr} {m c : Nat} {B : Option Addr} {n d : Nat} (r s : RecD) (v : Int) (g1 : m ≤ 40) (g2 : n ≤ 40) (hk : r.kind = 4) (h1 : BkArr w (old w) (.slice A m c) r.backs) (h2 : BkArr w (old w) (.slice B n d) s.backs) :
    Calls Try.prog 7 #[.agg #[.int .i64 r.kind, .int .u32 (r.tup.src.toNat : Nat), .int .u32 (r.tup.dst.toNat : Nat), .int .i64 r.tup.proto, .int .i64 r.tup.sport, .int .i64 r.tup.dport, .int .i64 r.fb, .int .i64 r.fg, .int .i64 r.fs, .int .i64 r.gen, .slice A m c, .int .i64 r.back, .int .i64 r.until_, .int .i64 r.count], .agg #[.int .i64 s.kind, .int .u32 (s.tup.src.toNat : Nat), .int .u32 (s.tup.dst.toNat : Nat), .int .i64 s.tup.proto, .int .i64 s.tup.sport, .int .i64 s.tup.dport, .int .i64 s.fb, .int .i64 s.fg, .int .i64 s.fs, .int .i64 s.gen, .slice B n d, .int .i64 s.back, .int .i64 s.until_, .int .i64 s.count], .int .i64 v] w fun e w' => e = .returned (.bool true) ∧ Kept [] w w' := by
  have hk0 : Kept [] w ((w.alloc (.cells #[.int .i64 r.kind, .int .u32 (r.tup.src.toNat : Nat), .int .u32 (r.tup.dst.toNat : Nat), .int .i64 r.tup.proto, .int .i64 r.tup.sport, .int .i64 r.tup.dport, .int .i64 r.fb, .int .i64 r.fg, .int .i64 r.fs, .int .i64 r.gen, .slice A m c, .int .i64 r.back, .int .i64 r.until_, .int .i64 r.count] 29)).alloc (.cells #[.int .i64 s.kind, .int .u32 (s.tup.src.toNat : Nat), .int .u32 (s.tup.dst.toNat : Nat), .int .i64 s.tup.proto, .int .i64 s.tup.sport, .int .i64 s.tup.dport, .int .i64 s.fb, .int .i64 s.fg, .int .i64 s.fs, .int .i64 s.gen, .slice B n d, .int .i64 s.back, .int .i64 s.until_, .int .i64 s.count] 29)) := by (repeat (first | exact Kept.refl _ _ | apply Kept.alloc | apply Kept.drew))
  have P := Lib.hid (show Blk ((w.alloc (.cells #[.int .i64 r.kind, .int .u32 (r.tup.src.toNat : Nat), .int .u32 (r.tup.dst.toNat : Nat), .int .i64 r.tup.proto, .int .i64 r.tup.sport, .int .i64 r.tup.dport, .int .i64 r.fb, .int .i64 r.fg, .int .i64 r.fs, .int .i64 r.gen, .slice A m c, .int .i64 r.back, .int .i64 r.until_, .int .i64 r.count] 29)).alloc (.cells #[.int .i64 s.kind, .int .u32 (s.tup.src.toNat : Nat), .int .u32 (s.tup.dst.toNat : Nat), .int .i64 s.tup.proto, .int .i64 s.tup.sport, .int .i64 s.tup.dport, .int .i64 s.fb, .int .i64 s.fg, .int .i64 s.fs, .int .i64 s.gen, .slice B n d, .int .i64 s.back, .int .i64 s.until_, .int .i64 s.count] 29)) w.heap.size 29 #[.int .i64 r.kind, .int .u32 (r.tup.src.toNat : Nat), .int .u32 (r.tup.dst.toNat : Nat), .int .i64 r.tup.proto, .int .i64 r.tup.sport, .int .i64 r.tup.dport, .int .i64 r.fb, .int .i64 r.fg, .int .i64 r.fs, .int .i64 r.gen, .slice A m c, .int .i64 r.back, .int .i64 r.until_, .int .i64 r.count] from by (repeat (first | (apply Blk.new'; simp; done) | apply Blk.alloc | apply Blk.drew)))
  have Q := Lib.hid (show Blk ((w.alloc (.cells #[.int .i64 r.kind, .int .u32 (r.tup.src.toNat : Nat), .int .u32 (r.tup.dst.toNat : Nat), .int .i64 r.tup.proto, .int .i64 r.tup.sport, .int .i64 r.tup.dport, .int .i64 r.fb, .int .i64 r.fg, .int .i64 r.fs, .int .i64 r.gen, .slice A m c, .int .i64 r.back, .int .i64 r.until_, .int .i64 r.count] 29)).alloc (.cells #[.int .i64 s.kind, .int .u32 (s.tup.src.toNat : Nat), .int .u32 (s.tup.dst.toNat : Nat), .int .i64 s.tup.proto, .int .i64 s.tup.sport, .int .i64 s.tup.dport, .int .i64 s.fb, .int .i64 s.fg, .int .i64 s.fs, .int .i64 s.gen, .slice B n d, .int .i64 s.back, .int .i64 s.until_, .int .i64 s.count] 29)) (w.heap.size + 1) 29 #[.int .i64 s.kind, .int .u32 (s.tup.src.toNat : Nat), .int .u32 (s.tup.dst.toNat : Nat), .int .i64 s.tup.proto, .int .i64 s.tup.sport, .int .i64 s.tup.dport, .int .i64 s.fb, .int .i64 s.fg, .int .i64 s.fs, .int .i64 s.gen, .slice B n d, .int .i64 s.back, .int .i64 s.until_, .int .i64 s.count] from by (repeat (first | (apply Blk.new'; simp; done) | apply Blk.alloc | apply Blk.drew)))
  have K := Lib.hid hk0
  have H1 := Lib.hid (BkArr.kept h1 (Kept.refl [] w) (by simp))
  have H2 := Lib.hid (BkArr.kept h2 (Kept.refl [] w) (by simp))
  have Hs1 : Hid (m ≤ 40 → ∀ w', Kept [] w w' → SmallB w' (old w) A m c r.backs) := Lib.hid (fun hm w' hk => ⟨BkArr.kept h1 hk (by simp), fun k hk' => Nat.lt_of_lt_of_le (List.mem_range.1 hk') hk.size, by omega⟩)
  have Hs2 : Hid (n ≤ 40 → ∀ w', Kept [] w w' → SmallB w' (old w) B n d s.backs) := Lib.hid (fun hm w' hk => ⟨BkArr.kept h2 hk (by simp), fun k hk' => Nat.lt_of_lt_of_le (List.mem_range.1 hk') hk.size, by omega⟩)
  clear h1 h2 hk0
  have d1 : decide (m ≤ 40) = true := by simpa using g1
  have d2 : decide (n ≤ 40) = true := by simpa using g2
  obtain ⟨z, hz⟩ : ∃ z : RecD, z = ({ kind := r.kind, tup := s.tup, fb := s.fb, fg := s.fg, fs := s.fs, gen := s.gen, backs := s.backs, back := r.back, until_ := r.until_, count := s.count } : RecD) := ⟨_, rfl⟩
  have hpl : plainR r = plainR z := by rw [mix_plain r s, show mixR r s = z by rw [hz]; simp [mixR, hk]]
  have he := enc_of_plain hpl v
  have hsm := Lib.hid (sameR_iff.2 hpl)
  obtain ⟨f, hf⟩ : ∃ f, encF r v = f := ⟨_, rfl⟩
  obtain ⟨en, hen⟩ : ∃ e, encE r v = e := ⟨_, rfl⟩
  obtain ⟨my, hmy⟩ : ∃ b, mayR r = b := ⟨_, rfl⟩
  have EF2 := Lib.hid (he.2.2.symm.trans hf)
  have EE2 := Lib.hid (he.2.1.symm.trans hen)
  have EM2 := Lib.hid (he.1.symm.trans hmy)
  have EF := Lib.hid hf
  have EE := Lib.hid hen
  have EM := Lib.hid hmy
  have HZ := Lib.hid hz
  have n1 : (r.kind != 1) = true := by simp [hk]
  have n2 : (r.kind != 2) = true := by simp [hk]
  have n3 : (r.kind != 3) = true := by simp [hk]
  have n4 : (r.kind != 4) = false := by simp [hk]
  have n5 : (r.kind != 5) = true := by simp [hk]
  have n6 : (r.kind != 6) = true := by simp [hk]
  have b1 : (r.kind == 1) = false := by simp [hk]
  have b2 : (r.kind == 2) = false := by simp [hk]
  have b3 : (r.kind == 3) = false := by simp [hk]
  have b4 : (r.kind == 4) = true := by simp [hk]
  have b5 : (r.kind == 5) = false := by simp [hk]
  have b6 : (r.kind == 6) = false := by simp [hk]
  clear hpl he hf hen hmy hz hk
  go_enter Try.func7, Try.ntmps7
  go_upto_region 7 with (first
    | (go_at_call 13
       with_reducible refine (light8_any _ r (BkArr.kept H1.out K.out (by simp))).mono ?_
       go_must (rintro e w1 ⟨rfl, k1⟩)
       go_must (rw [d1])
       go_must (have P := Lib.hid (P.out.kept k1 (by simp)))
       go_must (have Q := Lib.hid (Q.out.kept k1 (by simp)))
       go_must (have K := Lib.hid (K.out.trans k1 (by simp)))
       go_must (first | (clear hcx hcy) | skip)
       go_must (first | (clear hcf) | skip)
       go_must (clear k1)
       go_must (have hcx := P.out.cell)
       go_must (have hcy := Q.out.cell))
    | (go_at_call 13
       with_reducible refine (light8_any _ s (BkArr.kept H2.out K.out (by simp))).mono ?_
       go_must (rintro e w2 ⟨rfl, k1⟩)
       go_must (rw [d2])
       go_must (have P := Lib.hid (P.out.kept k1 (by simp)))
       go_must (have Q := Lib.hid (Q.out.kept k1 (by simp)))
       go_must (have K := Lib.hid (K.out.trans k1 (by simp)))
       go_must (first | (clear hcx hcy) | skip)
       go_must (first | (clear hcf) | skip)
       go_must (clear k1)
       go_must (have hcx := P.out.cell)
       go_must (have hcy := Q.out.cell))
    | (with_reducible show wpList _ _ _ ({ dst := none, op := Op.store 29 (.tmp 7) (.tmp 21), type := _, pos := _, after := _, guard := _ } :: _) _ _
       go_must (refine wpList_put (t := 29) rfl 29 (.tmp 7) (.tmp 21) rfl _ (by rfl) (by rfl) (by (repeat (first | (apply Blk.new'; simp; done) | apply Blk.alloc | apply Blk.drew))) (by rfl) (by kernel_rfl) (by simp [Value.oneCell']) ?_)
       go_must (intro w3 h1 k1)
       go_must (have X := Lib.hid (show Blk w3 w2.heap.size 29 #[.int .i64 r.kind, .int .u32 (r.tup.src.toNat : Nat), .int .u32 (r.tup.dst.toNat : Nat), .int .i64 r.tup.proto, .int .i64 r.tup.sport, .int .i64 r.tup.dport, .int .i64 r.fb, .int .i64 r.fg, .int .i64 r.fs, .int .i64 r.gen, .slice A m c, .int .i64 r.back, .int .i64 r.until_, .int .i64 r.count] from h1))
       go_must (have hlt := Q.out.lt)
       go_must (have hlw := K.out.size)
       go_must (have k2 : Kept [w2.heap.size] w2 w3 := ((Kept.refl _ w2).alloc _).trans k1 (fun i hi => .inl hi))
       go_must (have P := Lib.hid (P.out.kept k2 (by simp; omega)))
       go_must (have Q := Lib.hid (Q.out.kept k2 (by simp; omega)))
       go_must (have K := Lib.hid (K.out.trans k2 (fun i hi => .inr (by simp at hi; omega))))
       go_must (clear hcx hcy)
       go_must (have hcx := P.out.cell)
       go_must (have hcy := Q.out.cell)
       go_must (clear h1 k1 k2))
    | (with_reducible show wpList _ _ _ ({ dst := none, op := Op.store 26 (.tmp 32) _, type := _, pos := _, after := _, guard := _ } :: _) _ _
       go_must (refine wpList_putAt (t := 29) (v := .agg #[.int .u32 (s.tup.src.toNat : Nat), .int .u32 (s.tup.dst.toNat : Nat), .int .i64 s.tup.proto, .int .i64 s.tup.sport, .int .i64 s.tup.dport, .int .i64 s.fb, .int .i64 s.fg, .int .i64 s.fs]) rfl 26 (.tmp 32) _ rfl (by rfl) (by rfl) X.out (by simp [Value.cells]) (by kernel_rfl) (by simp [Value.cells, Value.oneCell']) ?_)
       go_must (intro w4 h1 k1)
       go_must (have X := Lib.hid (show Blk w4 (w2.heap.size) 29 #[.int .i64 r.kind, .int .u32 (s.tup.src.toNat : Nat), .int .u32 (s.tup.dst.toNat : Nat), .int .i64 s.tup.proto, .int .i64 s.tup.sport, .int .i64 s.tup.dport, .int .i64 s.fb, .int .i64 s.fg, .int .i64 s.fs, .int .i64 r.gen, .slice A m c, .int .i64 r.back, .int .i64 r.until_, .int .i64 r.count] from h1))
       go_must (have P := Lib.hid (P.out.kept k1 (by simp; omega)))
       go_must (have Q := Lib.hid (Q.out.kept k1 (by simp; omega)))
       go_must (have K := Lib.hid (K.out.trans k1 (fun i hi => .inr (by simp at hi; omega))))
       go_must (clear hcx hcy)
       go_must (have hcx := P.out.cell)
       go_must (have hcy := Q.out.cell)
       go_must (clear h1 k1)))
  go_cut [] (fun wx => Blk wx w.heap.size 29 #[.int .i64 r.kind, .int .u32 (r.tup.src.toNat : Nat), .int .u32 (r.tup.dst.toNat : Nat), .int .i64 r.tup.proto, .int .i64 r.tup.sport, .int .i64 r.tup.dport, .int .i64 r.fb, .int .i64 r.fg, .int .i64 r.fs, .int .i64 r.gen, .slice A m c, .int .i64 r.back, .int .i64 r.until_, .int .i64 r.count] ∧ Blk wx (w.heap.size + 1) 29 #[.int .i64 s.kind, .int .u32 (s.tup.src.toNat : Nat), .int .u32 (s.tup.dst.toNat : Nat), .int .i64 s.tup.proto, .int .i64 s.tup.sport, .int .i64 s.tup.dport, .int .i64 s.fb, .int .i64 s.fg, .int .i64 s.fs, .int .i64 s.gen, .slice B n d, .int .i64 s.back, .int .i64 s.until_, .int .i64 s.count] ∧ Blk wx w2.heap.size 29 #[.int .i64 r.kind, .int .u32 (s.tup.src.toNat : Nat), .int .u32 (s.tup.dst.toNat : Nat), .int .i64 s.tup.proto, .int .i64 s.tup.sport, .int .i64 s.tup.dport, .int .i64 s.fb, .int .i64 s.fg, .int .i64 s.fs, .int .i64 s.gen, .slice B n d, .int .i64 r.back, .int .i64 r.until_, .int .i64 r.count] ∧ Kept [] w wx)
  case first =>
    have hcz := X.out.cell
    have hfz := X.out.frozen
    go_region
    all_goals
      go_wp2
      go_meet
      case rel => exact ⟨((P.out.drew.far (by simp; omega) _).far (by simp; omega) _), ((Q.out.drew.far (by simp; omega) _).far (by simp; omega) _), ((X.out.drew.set 9 (.int .i64 s.gen)).set 10 (.slice B n d)), ((K.out.drew.setCell (.inr (by simp; omega)) _).setCell (.inr (by simp; omega)) _)⟩
  case rest =>
    obtain ⟨hP, hQ, hX, hK⟩ := hcut
    have P := Lib.hid hP
    have Q := Lib.hid hQ
    have X := Lib.hid hX
    have K := Lib.hid hK
    clear hP hQ hX hK hcx hcy
    have hcx := P.out.cell
    have hcy := Q.out.cell
    go_upto_region 16 with (first
      | (with_reducible show wpList _ _ _ ({ dst := none, op := Op.store 3 (.tmp 64) _, type := _, pos := _, after := _, guard := _ } :: _) _ _
         go_must (refine wpList_putAt (t := 29) (v := .int .i64 s.count) rfl 3 (.tmp 64) _ rfl (by rfl) (by rfl) X.out (by simp [Value.cells]) (by kernel_rfl) (by simp [Value.cells, Value.oneCell']) ?_)
         go_must (intro w7 h1 k1)
         go_must (have X := Lib.hid (show Blk w7 (w2.heap.size) 29 #[.int .i64 r.kind, .int .u32 (s.tup.src.toNat : Nat), .int .u32 (s.tup.dst.toNat : Nat), .int .i64 s.tup.proto, .int .i64 s.tup.sport, .int .i64 s.tup.dport, .int .i64 s.fb, .int .i64 s.fg, .int .i64 s.fs, .int .i64 s.gen, .slice B n d, .int .i64 r.back, .int .i64 r.until_, .int .i64 s.count] from h1))
         go_must (have P := Lib.hid (P.out.kept k1 (by simp; omega)))
         go_must (have Q := Lib.hid (Q.out.kept k1 (by simp; omega)))
         go_must (have K := Lib.hid (K.out.trans k1 (fun i hi => .inr (by simp at hi; omega))))
         go_must (clear hcx hcy)
         go_must (have hcx := P.out.cell)
         go_must (have hcy := Q.out.cell)
         go_must (clear h1 k1))
      | (go_at_call 15
         with_reducible refine (Encode_any _ r v (Hs1.out g1 _ K.out) (by omega)).mono ?_
         go_must (rintro e w8 ⟨sl, rfl, hn⟩)
         go_must (rw [EF.out] at hn ⊢)
         go_must (rw [EE.out])
         go_must (have N1 := Lib.hid (NB.of hn))
         go_must (obtain ⟨A1, m1, c1, rfl⟩ := N1.out.form)
         go_must (have hkn := N1.out.kept)
         go_must (have X := Lib.hid (show Blk _ w2.heap.size 29 #[.int .i64 z.kind, .int .u32 (z.tup.src.toNat : Nat), .int .u32 (z.tup.dst.toNat : Nat), .int .i64 z.tup.proto, .int .i64 z.tup.sport, .int .i64 z.tup.dport, .int .i64 z.fb, .int .i64 z.fg, .int .i64 z.fs, .int .i64 z.gen, .slice B n d, .int .i64 z.back, .int .i64 z.until_, .int .i64 z.count] by rw [HZ.out]; exact X.out))
         go_must (clear hn)
         go_must (have P := Lib.hid (P.out.kept hkn (by simp)))
         go_must (have X := Lib.hid (X.out.kept hkn (by simp)))
         go_must (have K := Lib.hid (K.out.trans hkn (by simp)))
         go_must (clear hcx hcy hkn)
         go_must (have hcx := fun o => (X.out.alloc o).cell))
      | (go_at_call 15
         with_reducible refine (Encode_any _ z v (by rw [show z.backs = s.backs by rw [HZ.out]]; exact Hs2.out g2 _ (K.out.alloc _)) (by omega)).mono ?_
         go_must (rintro e w9 ⟨sl, rfl, hn⟩)
         go_must (rw [EF2.out] at hn ⊢)
         go_must (rw [EE2.out])
         go_must (have N2 := Lib.hid (NB.of hn))
         go_must (obtain ⟨A2, m2, c2, rfl⟩ := N2.out.form)
         go_must (have hkn := N2.out.kept)
         go_must (clear hn hcx)
         go_must (have hka : Kept [] w8 (w8.alloc (.cells #[.int .i64 f.kind, .int .i64 f.ver, .slice A1 m1 c1] 34)) := (Kept.refl [] _).alloc _)
         go_must (have Y1 := Lib.hid ((show Blk (w8.alloc (.cells #[.int .i64 f.kind, .int .i64 f.ver, .slice A1 m1 c1] 34)) w8.heap.size 34 #[.int .i64 f.kind, .int .i64 f.ver, .slice A1 m1 c1] from by (repeat (first | (apply Blk.new'; simp; done) | apply Blk.alloc | apply Blk.drew))).kept hkn (by simp)))
         go_must (have P := Lib.hid (P.out.kept hka (by simp)))
         go_must (have X := Lib.hid (X.out.kept hka (by simp)))
         go_must (have K := Lib.hid (K.out.trans hka (by simp)))
         go_must (have N1 := Lib.hid (N1.out.go hka))
         go_must (have P := Lib.hid (P.out.kept hkn (by simp)))
         go_must (have X := Lib.hid (X.out.kept hkn (by simp)))
         go_must (have K := Lib.hid (K.out.trans hkn (by simp)))
         go_must (have N1 := Lib.hid (N1.out.go hkn))
         go_must (clear hka hkn)))
    have hka : Kept [] w9 ((w9.alloc (.cells #[.int .i64 f.kind, .int .i64 f.ver, .slice A2 m2 c2] 34)).drew) := by (repeat (first | exact Kept.refl _ _ | apply Kept.alloc | apply Kept.drew))
    have Y2 := Lib.hid (show Blk ((w9.alloc (.cells #[.int .i64 f.kind, .int .i64 f.ver, .slice A2 m2 c2] 34)).drew) w9.heap.size 34 #[.int .i64 f.kind, .int .i64 f.ver, .slice A2 m2 c2] from by (repeat (first | (apply Blk.new'; simp; done) | apply Blk.alloc | apply Blk.drew)))
    have P := Lib.hid (P.out.kept hka (by simp))
    have X := Lib.hid (X.out.kept hka (by simp))
    have Y1 := Lib.hid (Y1.out.kept hka (by simp))
    have N1 := Lib.hid (N1.out.go hka)
    have N2 := Lib.hid (N2.out.go hka)
    have K := Lib.hid (K.out.trans hka (by simp))
    clear hka
    cases my
    all_goals
      go_region_held3 (fun w' => (∀ o, w'.cell? ⟨w.heap.size, o, none⟩ = (#[.int .i64 r.kind, .int .u32 (r.tup.src.toNat : Nat), .int .u32 (r.tup.dst.toNat : Nat), .int .i64 r.tup.proto, .int .i64 r.tup.sport, .int .i64 r.tup.dport, .int .i64 r.fb, .int .i64 r.fg, .int .i64 r.fs, .int .i64 r.gen, .slice A m c, .int .i64 r.back, .int .i64 r.until_, .int .i64 r.count] : Array Value)[o]?) ∧ (∀ o, w'.cell? ⟨w2.heap.size, o, none⟩ = (#[.int .i64 z.kind, .int .u32 (z.tup.src.toNat : Nat), .int .u32 (z.tup.dst.toNat : Nat), .int .i64 z.tup.proto, .int .i64 z.tup.sport, .int .i64 z.tup.dport, .int .i64 z.fb, .int .i64 z.fg, .int .i64 z.fs, .int .i64 z.gen, .slice B n d, .int .i64 z.back, .int .i64 z.until_, .int .i64 z.count] : Array Value)[o]?) ∧ (∀ o, w'.cell? ⟨w8.heap.size, o, none⟩ = (#[.int .i64 f.kind, .int .i64 f.ver, .slice A1 m1 c1] : Array Value)[o]?) ∧ (∀ o, w'.cell? ⟨w9.heap.size, o, none⟩ = (#[.int .i64 f.kind, .int .i64 f.ver, .slice A2 m2 c2] : Array Value)[o]?)) (exact ⟨P.out.cell, X.out.cell, Y1.out.cell, Y2.out.cell⟩)
         (first
          | (go_at_call 26
             go_must (refine (SameR_any _ r z (Hs1.out g1 _ K.out) (by rw [show z.backs = s.backs by rw [HZ.out]]; exact Hs2.out g2 _ K.out)).mono ?_)
             go_must (rintro e w10 ⟨rfl, k1⟩)
             go_must (rw [hsm.out])
             go_must (have P := Lib.hid (P.out.kept k1 (by simp)))
             go_must (have X := Lib.hid (X.out.kept k1 (by simp)))
             go_must (have Y1 := Lib.hid (Y1.out.kept k1 (by simp)))
             go_must (have Y2 := Lib.hid (Y2.out.kept k1 (by simp)))
             go_must (have N1 := Lib.hid (N1.out.go k1))
             go_must (have N2 := Lib.hid (N2.out.go k1))
             go_must (have K := Lib.hid (K.out.trans k1 (by simp)))
             go_must (clear k1))
          | (go_at_call 18
             with_reducible refine (May_any _ r (Hs1.out g1 _ K.out)).mono ?_
             go_must (rintro e w11 ⟨rfl, k1⟩)
             go_must (rw [EM.out])
             go_must (have P := Lib.hid (P.out.kept k1 (by simp)))
             go_must (have X := Lib.hid (X.out.kept k1 (by simp)))
             go_must (have Y1 := Lib.hid (Y1.out.kept k1 (by simp)))
             go_must (have Y2 := Lib.hid (Y2.out.kept k1 (by simp)))
             go_must (have N1 := Lib.hid (N1.out.go k1))
             go_must (have N2 := Lib.hid (N2.out.go k1))
             go_must (have K := Lib.hid (K.out.trans k1 (by simp)))
             go_must (clear k1))
          | (go_at_call 18
             with_reducible refine (May_any _ z (by rw [show z.backs = s.backs by rw [HZ.out]]; exact Hs2.out g2 _ K.out)).mono ?_
             go_must (rintro e w12 ⟨rfl, k1⟩)
             go_must (rw [EM2.out])
             go_must (have P := Lib.hid (P.out.kept k1 (by simp)))
             go_must (have X := Lib.hid (X.out.kept k1 (by simp)))
             go_must (have Y1 := Lib.hid (Y1.out.kept k1 (by simp)))
             go_must (have Y2 := Lib.hid (Y2.out.kept k1 (by simp)))
             go_must (have N1 := Lib.hid (N1.out.go k1))
             go_must (have N2 := Lib.hid (N2.out.go k1))
             go_must (have K := Lib.hid (K.out.trans k1 (by simp)))
             go_must (clear k1))
          | (go_at_call 17
             go_must (refine (rSame_any _ f f N1.out.rd N2.out.rd).mono ?_)
             go_must (rintro e w13 ⟨rfl, k1⟩)
             go_must (rw [show sameF f f = true by simp [sameF]])
             go_must (have P := Lib.hid (P.out.kept k1 (by simp)))
             go_must (have X := Lib.hid (X.out.kept k1 (by simp)))
             go_must (have Y1 := Lib.hid (Y1.out.kept k1 (by simp)))
             go_must (have Y2 := Lib.hid (Y2.out.kept k1 (by simp)))
             go_must (have N1 := Lib.hid (N1.out.go k1))
             go_must (have N2 := Lib.hid (N2.out.go k1))
             go_must (have K := Lib.hid (K.out.trans k1 (by simp)))
             go_must (clear k1))
          | (go_at_call 14
             go_must (refine (awake8_any _).mono ?_)
             go_must (rintro e w14 ⟨rfl, k1⟩)
             go_must (have P := Lib.hid (P.out.kept k1 (by simp)))
             go_must (have X := Lib.hid (X.out.kept k1 (by simp)))
             go_must (have Y1 := Lib.hid (Y1.out.kept k1 (by simp)))
             go_must (have Y2 := Lib.hid (Y2.out.kept k1 (by simp)))
             go_must (have N1 := Lib.hid (N1.out.go k1))
             go_must (have N2 := Lib.hid (N2.out.go k1))
             go_must (have K := Lib.hid (K.out.trans k1 (by simp)))
             go_must (clear k1)))
      all_goals
        go_wp2
        go_ret
        exact ⟨rfl, K.out⟩

end Go.Proofs.Ytogdpfjbclnlnaa
