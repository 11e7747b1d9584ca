
/-
  The walk of MigrateParts, part 3.
-/
import Derived.Test.YtogdpfjbclnlnaaLawT0
import Derived.Deep.RegionHeld3
namespace Go.Proofs.Ytogdpfjbclnlnaa
open Go.RowKit Go.ChangeShapes Go.WideShapes Go.Deep
set_option linter.unusedVariables false

set_option maxHeartbeats 12800000 in
set_option maxRecDepth 100000 in
theorem MigrateParts_3 (w : World) {A : Option Addr} {m c : Nat} (r : RecD) (from_ by_ to_ : Int) (g1 : m ≤ 40) (dm : mayR r = true) (hk : r.kind ≠ 1) (hk3 : r.kind ≠ 3) (h1 : BkArr w (old w) (.slice A m c) r.backs) :
    Calls Try.prog 6 #[.agg #[.int .i64 r.kind, .int .u32 (r.tup.src.toNat : Nat), .int .u32 (r.tup.dst.toNat : Nat), .int .i64 r.tup.proto, .int .i64 r.tup.sport, .int .i64 r.tup.dport, .int .i64 r.fb, .int .i64 r.fg, .int .i64 r.fs, .int .i64 r.gen, .slice A m c, .int .i64 r.back, .int .i64 r.until_, .int .i64 r.count], .int .i64 from_, .int .i64 by_, .int .i64 to_] w fun e w' => e = .returned (.bool true) ∧ Kept [] w w' := by
  have hk0 : Kept [] w (w.alloc (.cells #[.int .i64 r.kind, .int .u32 (r.tup.src.toNat : Nat), .int .u32 (r.tup.dst.toNat : Nat), .int .i64 r.tup.proto, .int .i64 r.tup.sport, .int .i64 r.tup.dport, .int .i64 r.fb, .int .i64 r.fg, .int .i64 r.fs, .int .i64 r.gen, .slice A m c, .int .i64 r.back, .int .i64 r.until_, .int .i64 r.count] 29)) := by (repeat (first | exact Kept.refl _ _ | apply Kept.alloc | apply Kept.drew))
  have P := Lib.hid (show Blk (w.alloc (.cells #[.int .i64 r.kind, .int .u32 (r.tup.src.toNat : Nat), .int .u32 (r.tup.dst.toNat : Nat), .int .i64 r.tup.proto, .int .i64 r.tup.sport, .int .i64 r.tup.dport, .int .i64 r.fb, .int .i64 r.fg, .int .i64 r.fs, .int .i64 r.gen, .slice A m c, .int .i64 r.back, .int .i64 r.until_, .int .i64 r.count] 29)) w.heap.size 29 #[.int .i64 r.kind, .int .u32 (r.tup.src.toNat : Nat), .int .u32 (r.tup.dst.toNat : Nat), .int .i64 r.tup.proto, .int .i64 r.tup.sport, .int .i64 r.tup.dport, .int .i64 r.fb, .int .i64 r.fg, .int .i64 r.fs, .int .i64 r.gen, .slice A m c, .int .i64 r.back, .int .i64 r.until_, .int .i64 r.count] from by (repeat (first | (apply Blk.new'; simp; done) | apply Blk.alloc | apply Blk.drew)))
  have K := Lib.hid hk0
  have H1 := Lib.hid (BkArr.kept h1 (Kept.refl [] w) (by simp))
  have HL := Lib.hid h1.len.1
  have Hs1 : Hid (m ≤ 40 → ∀ w', Kept [] w w' → SmallB w' (old w) A m c r.backs) := Lib.hid (fun hm w' hk => ⟨BkArr.kept h1 hk (by simp), fun k hk' => Nat.lt_of_lt_of_le (List.mem_range.1 hk') hk.size, by omega⟩)
  clear h1 hk0
  have d1 : decide (m ≤ 40) = true := by simpa using g1
  obtain ⟨z1, hz1⟩ : ∃ z, nat64 from_ % 3 = z := ⟨_, rfl⟩
  obtain ⟨F, hF⟩ : ∃ F : Nat, 1 + z1 = F := ⟨_, rfl⟩
  have hF1 : 1 ≤ F ∧ F ≤ 3 := by omega
  obtain ⟨q2, hq2⟩ : ∃ q : Nat, 4 - F = q := ⟨_, rfl⟩
  have hq21 : 1 ≤ q2 ∧ q2 ≤ 3 := by omega
  obtain ⟨z2, hz2⟩ : ∃ z, nat64 by_ % q2 = z := ⟨_, rfl⟩
  have hz2q : z2 < q2 := by rw [← hz2]; exact Nat.mod_lt _ (by omega)
  obtain ⟨Y, hY⟩ : ∃ Y : Nat, F + z2 = Y := ⟨_, rfl⟩
  have hY1 : F ≤ Y ∧ Y ≤ 3 := by omega
  obtain ⟨q3, hq3⟩ : ∃ q : Nat, 4 - Y = q := ⟨_, rfl⟩
  have hq31 : 1 ≤ q3 ∧ q3 ≤ 3 := by omega
  obtain ⟨z3, hz3⟩ : ∃ z, nat64 to_ % q3 = z := ⟨_, rfl⟩
  have hz3q : z3 < q3 := by rw [← hz3]; exact Nat.mod_lt _ (by omega)
  obtain ⟨Z, hZ⟩ : ∃ Z : Nat, Y + z3 = Z := ⟨_, rfl⟩
  have hZ1 : Y ≤ Z ∧ Z ≤ 3 := by omega
  have a1 := wrap_u64 from_
  have a2 := wrap_u64 by_
  have a3 := wrap_u64 to_
  have a4 := wrap_u64 (q2 : Int)
  have a5 := wrap_u64 (q3 : Int)
  rw [nat64_small q2 (by omega)] at a4
  rw [nat64_small q3 (by omega)] at a5
  have c1 : ((nat64 from_ : Nat) : Int) % 3 = (z1 : Int) := by rw [← hz1]; simp
  have c2 : ((nat64 by_ : Nat) : Int) % (q2 : Int) = (z2 : Int) := by rw [← hz2]; simp
  have c3 : ((nat64 to_ : Nat) : Int) % (q3 : Int) = (z3 : Int) := by rw [← hz3]; simp
  have e1 : (1 : Int) + (z1 : Int) = (F : Int) := by omega
  have e2 : (4 : Int) - (F : Int) = (q2 : Int) := by omega
  have e3 : (F : Int) + (z2 : Int) = (Y : Int) := by omega
  have e4 : (4 : Int) - (Y : Int) = (q3 : Int) := by omega
  have e5 : (Y : Int) + (z3 : Int) = (Z : Int) := by omega
  have p2 : ((q2 : Int) == 0) = false := by simp; omega
  have p3 : ((q3 : Int) == 0) = false := by simp; omega
  have b2 : (1 : Int) ≤ (q2 : Int) := by omega
  have b3 : (1 : Int) ≤ (q3 : Int) := by omega
  have r1 : (z1 : Int) ≤ 3 := by omega
  have r2 : (z2 : Int) ≤ 3 := by omega
  have r3 : (z3 : Int) ≤ 3 := by omega
  have r4 : (F : Int) ≤ 3 := by omega
  have r5 : (Y : Int) ≤ 3 := by omega
  have wF : waysB (F : Int) (F : Int) = true := by simp [waysB]; omega
  have wFY : waysB (F : Int) (Y : Int) = true := by simp [waysB]; omega
  have wYZ : waysB (Y : Int) (Z : Int) = true := by simp [waysB]; omega
  have wFZ : waysB (F : Int) (Z : Int) = true := by simp [waysB]; omega
  obtain ⟨xa, hxa⟩ : ∃ x, migR r F Z = x := ⟨_, rfl⟩
  obtain ⟨xb, hxb⟩ : ∃ x, migR r F Y = x := ⟨_, rfl⟩
  obtain ⟨xd, hxd⟩ : ∃ x, inR r F = x := ⟨_, rfl⟩
  have EA := Lib.hid hxa
  have EB := Lib.hid hxb
  have EC := Lib.hid (show migR xb Y Z = xa by rw [← hxb, parts_same wFY wYZ dm, hxa])
  have ED := Lib.hid (show migR r F F = xd by rw [parts_self wF dm, hxd])
  have EI := Lib.hid hxd
  have EA0 := Lib.hid (mig_of wFZ dm).1
  have EB0 := Lib.hid (mig_of wFY dm).1
  have mb : mayR xb = true := by rw [← hxb]; exact (mig_of wFY dm).2.2
  have EC0 := Lib.hid (mig_of wYZ mb).1
  have ED0 := Lib.hid (mig_of wF dm).1
  have EMA := Lib.hid (show mayR xa = true by rw [← hxa]; exact (mig_of wFZ dm).2.2)
  have LA := Lib.hid (show xa.backs.length ≤ 40 by have := mig_len r F Z; rw [hxa] at this; have := HL.out; omega)
  have LB := Lib.hid (show xb.backs.length ≤ 40 by have := mig_len r F Y; rw [hxb] at this; have := HL.out; omega)
  have LD := Lib.hid (show xd.backs.length ≤ 40 by have := in_backs r F; rw [hxd] at this; have := HL.out; omega)
  have SA := Lib.hid (sameR_refl xa)
  have SD := Lib.hid (sameR_refl xd)
  have k1 : (r.kind == 1) = false := by simp [hk]
  have n1 : (r.kind != 1) = true := by simp [hk]
  have k3 : (r.kind == 3) = false := by simp [hk3]
  have n3 : (r.kind != 3) = true := by simp [hk3]
  have SX := Lib.hid (show sameR xa r = true by rw [← hxa]; exact parts_rest wFZ dm hk hk3)
  clear hz1 hF hF1 hq2 hz2 hz2q hY hY1 hq3 hz3 hz3q hZ hZ1 wF wFY wYZ wFZ hxa hxb hxd mb
  clear hk hk3
  go_enter Try.func6, Try.ntmps6
  go_upto_region 10 with (first
    | (go_at_call 19
       go_must (refine (light9_any _ r (BkArr.kept H1.out K.out (by simp))).mono ?_)
       go_must (rintro e w1 ⟨rfl, k1⟩)
       go_must (rw [d1])
       go_must (have P := Lib.hid (P.out.kept k1 (by simp)))
       go_must (have K := Lib.hid (K.out.trans k1 (by simp)))
       go_must (clear k1)
       go_must (have hcx := P.out.cell))
    | (go_at_call 18
       with_reducible refine (May_any _ r (Hs1.out g1 _ K.out)).mono ?_
       go_must (rintro e w1 ⟨rfl, k1⟩)
       go_must (rw [dm])
       go_must (have P := Lib.hid (P.out.kept k1 (by simp)))
       go_must (have K := Lib.hid (K.out.trans k1 (by simp)))
       go_must (clear k1 hcx)
       go_must (have hcx := P.out.cell))
    | (go_at_call 21
       with_reducible refine (mRecord_any _ r ((F : Nat) : Int) ((Z : Nat) : Int) (Hs1.out g1 _ K.out)).mono ?_
       go_must (rintro e w2 ⟨sl, rfl, hS⟩)
       go_must (rw [EA.out] at hS ⊢)
       go_must (rw [EA0.out])
       go_must (have hkn := LV.kept hS)
       go_must (have SLA := Lib.hid (LV.wide hS K.out))
       go_must (obtain ⟨A2, m2, c2, rfl⟩ := BkV.form SLA.out)
       go_must (have P := Lib.hid (P.out.kept hkn (by simp)))
       go_must (have K := Lib.hid (K.out.trans hkn (by simp)))
       go_must (clear hS hkn hcx)
       go_must (have hl1 := P.out.lt))
    | (with_reducible show wpList _ _ _ ({ dst := none, op := Op.store 29 (.tmp 9) (.tmp 54), type := _, pos := _, after := _, guard := _ } :: _) _ _
       go_must (refine wpList_put (t := 29) rfl 29 (.tmp 9) (.tmp 54) rfl _ (by rfl) (by rfl) (by (repeat (first | (apply Blk.new'; simp; done) | apply Blk.alloc | apply Blk.drew))) (by rfl) (by kernel_rfl) (by simp [Value.oneCell']) ?_)
       go_must (intro w3 h1 k1)
       go_must (have XA := Lib.hid (show Blk w3 w2.heap.size 29 #[.int .i64 xa.kind, .int .u32 (xa.tup.src.toNat : Nat), .int .u32 (xa.tup.dst.toNat : Nat), .int .i64 xa.tup.proto, .int .i64 xa.tup.sport, .int .i64 xa.tup.dport, .int .i64 xa.fb, .int .i64 xa.fg, .int .i64 xa.fs, .int .i64 xa.gen, .slice A2 m2 c2, .int .i64 xa.back, .int .i64 xa.until_, .int .i64 xa.count] from h1))
       go_must (have k2 : Kept [w2.heap.size] w2 w3 := ((Kept.refl _ w2).alloc _).trans k1 (fun i hi => .inl hi))
       go_must (have SLA := Lib.hid (BkV.far (LV.go BkOk SLA.out ((Kept.refl [] w2).alloc (.cells #[.int .i64 0, .int .u32 0, .int .u32 0, .int .i64 0, .int .i64 0, .int .i64 0, .int .i64 0, .int .i64 0, .int .i64 0, .int .i64 0, .slice none 0 0, .int .i64 0, .int .i64 0, .int .i64 0] 29))) k1 (by (repeat (first | (apply Blk.new'; simp; done) | apply Blk.alloc | apply Blk.drew))) (by decide) (by have := K.out.size; omega)))
       go_must (have P := Lib.hid (P.out.kept k2 (by simp; omega)))
       go_must (have K := Lib.hid (K.out.trans k2 (fun i hi => .inr (by simp at hi; have := K.out.size; omega))))
       go_must (clear h1 k1 k2)
       go_must (have hcx := P.out.cell))
    | (go_at_call 21
       with_reducible refine (mRecord_any _ r ((F : Nat) : Int) ((Y : Nat) : Int) (Hs1.out g1 _ K.out)).mono ?_
       go_must (rintro e w4 ⟨sl, rfl, hS⟩)
       go_must (rw [EB.out] at hS ⊢)
       go_must (rw [EB0.out])
       go_must (have hkn := LV.kept hS)
       go_must (have SLB := Lib.hid (LV.wide hS K.out))
       go_must (obtain ⟨A4, m4, c4, rfl⟩ := BkV.form SLB.out)
       go_must (have P := Lib.hid (P.out.kept hkn (by simp)))
       go_must (have K := Lib.hid (K.out.trans hkn (by simp)))
       go_must (have XA := Lib.hid (XA.out.kept hkn (by simp)))
       go_must (have SLA := Lib.hid (LV.go BkOk SLA.out hkn))
       go_must (clear hS hkn hcx)
       go_must (have hl2 := XA.out.lt)
       go_must (have hl3 := P.out.lt))
    | (with_reducible show wpList _ _ _ ({ dst := none, op := Op.store 29 (.tmp 11) (.tmp 61), type := _, pos := _, after := _, guard := _ } :: _) _ _
       go_must (refine wpList_put (t := 29) rfl 29 (.tmp 11) (.tmp 61) rfl _ (by rfl) (by rfl) (by (repeat (first | (apply Blk.new'; simp; done) | apply Blk.alloc | apply Blk.drew))) (by rfl) (by kernel_rfl) (by simp [Value.oneCell']) ?_)
       go_must (intro w5 h1 k1)
       go_must (have XB := Lib.hid (show Blk w5 w4.heap.size 29 #[.int .i64 xb.kind, .int .u32 (xb.tup.src.toNat : Nat), .int .u32 (xb.tup.dst.toNat : Nat), .int .i64 xb.tup.proto, .int .i64 xb.tup.sport, .int .i64 xb.tup.dport, .int .i64 xb.fb, .int .i64 xb.fg, .int .i64 xb.fs, .int .i64 xb.gen, .slice A4 m4 c4, .int .i64 xb.back, .int .i64 xb.until_, .int .i64 xb.count] from h1))
       go_must (have k2 : Kept [w4.heap.size] w4 w5 := ((Kept.refl _ w4).alloc _).trans k1 (fun i hi => .inl hi))
       go_must (have SLA := Lib.hid (BkV.far (LV.go BkOk SLA.out ((Kept.refl [] w4).alloc (.cells #[.int .i64 0, .int .u32 0, .int .u32 0, .int .i64 0, .int .i64 0, .int .i64 0, .int .i64 0, .int .i64 0, .int .i64 0, .int .i64 0, .slice none 0 0, .int .i64 0, .int .i64 0, .int .i64 0] 29))) k1 (by (repeat (first | (apply Blk.new'; simp; done) | apply Blk.alloc | apply Blk.drew))) (by decide) (by have := K.out.size; omega)))
       go_must (have SLB := Lib.hid (BkV.far (LV.go BkOk SLB.out ((Kept.refl [] w4).alloc (.cells #[.int .i64 0, .int .u32 0, .int .u32 0, .int .i64 0, .int .i64 0, .int .i64 0, .int .i64 0, .int .i64 0, .int .i64 0, .int .i64 0, .slice none 0 0, .int .i64 0, .int .i64 0, .int .i64 0] 29))) k1 (by (repeat (first | (apply Blk.new'; simp; done) | apply Blk.alloc | apply Blk.drew))) (by decide) (by have := K.out.size; omega)))
       go_must (have P := Lib.hid (P.out.kept k2 (by simp; omega)))
       go_must (have XA := Lib.hid (XA.out.kept k2 (by simp; omega)))
       go_must (have K := Lib.hid (K.out.trans k2 (fun i hi => .inr (by simp at hi; have := K.out.size; omega))))
       go_must (clear h1 k1 k2)
       go_must (have hcx := XB.out.cell))
    | (go_at_call 21
       go_must (obtain ⟨G2, hsm⟩ := BkV.small SLB.out (by have := LB.out; omega))
       with_reducible refine (mRecord_any _ xb ((Y : Nat) : Int) ((Z : Nat) : Int) hsm).mono ?_
       go_must (rintro e w6 ⟨sl, rfl, hS⟩)
       go_must (rw [EC.out] at hS ⊢)
       go_must (rw [EC0.out])
       go_must (have hkn := LV.kept hS)
       go_must (have SLC := Lib.hid (LV.wide hS K.out))
       go_must (obtain ⟨A6, m6, c6, rfl⟩ := BkV.form SLC.out)
       go_must (have P := Lib.hid (P.out.kept hkn (by simp)))
       go_must (have K := Lib.hid (K.out.trans hkn (by simp)))
       go_must (have XA := Lib.hid (XA.out.kept hkn (by simp)))
       go_must (have SLA := Lib.hid (LV.go BkOk SLA.out hkn))
       go_must (clear hS hkn hcx)
       go_must (have hl4 := XA.out.lt)
       go_must (have hl5 := P.out.lt)
       go_must (clear hsm))
    | (with_reducible show wpList _ _ _ ({ dst := none, op := Op.store 29 (.tmp 13) (.tmp 68), type := _, pos := _, after := _, guard := _ } :: _) _ _
       go_must (refine wpList_put (t := 29) rfl 29 (.tmp 13) (.tmp 68) rfl _ (by rfl) (by rfl) (by (repeat (first | (apply Blk.new'; simp; done) | apply Blk.alloc | apply Blk.drew))) (by rfl) (by kernel_rfl) (by simp [Value.oneCell']) ?_)
       go_must (intro w7 h1 k1)
       go_must (have XC := Lib.hid (show Blk w7 w6.heap.size 29 #[.int .i64 xa.kind, .int .u32 (xa.tup.src.toNat : Nat), .int .u32 (xa.tup.dst.toNat : Nat), .int .i64 xa.tup.proto, .int .i64 xa.tup.sport, .int .i64 xa.tup.dport, .int .i64 xa.fb, .int .i64 xa.fg, .int .i64 xa.fs, .int .i64 xa.gen, .slice A6 m6 c6, .int .i64 xa.back, .int .i64 xa.until_, .int .i64 xa.count] from h1))
       go_must (have k2 : Kept [w6.heap.size] w6 w7 := ((Kept.refl _ w6).alloc _).trans k1 (fun i hi => .inl hi))
       go_must (have SLA := Lib.hid (BkV.far (LV.go BkOk SLA.out ((Kept.refl [] w6).alloc (.cells #[.int .i64 0, .int .u32 0, .int .u32 0, .int .i64 0, .int .i64 0, .int .i64 0, .int .i64 0, .int .i64 0, .int .i64 0, .int .i64 0, .slice none 0 0, .int .i64 0, .int .i64 0, .int .i64 0] 29))) k1 (by (repeat (first | (apply Blk.new'; simp; done) | apply Blk.alloc | apply Blk.drew))) (by decide) (by have := K.out.size; omega)))
       go_must (have SLC := Lib.hid (BkV.far (LV.go BkOk SLC.out ((Kept.refl [] w6).alloc (.cells #[.int .i64 0, .int .u32 0, .int .u32 0, .int .i64 0, .int .i64 0, .int .i64 0, .int .i64 0, .int .i64 0, .int .i64 0, .int .i64 0, .slice none 0 0, .int .i64 0, .int .i64 0, .int .i64 0] 29))) k1 (by (repeat (first | (apply Blk.new'; simp; done) | apply Blk.alloc | apply Blk.drew))) (by decide) (by have := K.out.size; omega)))
       go_must (have P := Lib.hid (P.out.kept k2 (by simp; omega)))
       go_must (have XA := Lib.hid (XA.out.kept k2 (by simp; omega)))
       go_must (have K := Lib.hid (K.out.trans k2 (fun i hi => .inr (by simp at hi; have := K.out.size; omega))))
       go_must (clear h1 k1 k2)
       go_must (have hcx := P.out.cell))
    | (go_at_call 21
       with_reducible refine (mRecord_any _ r ((F : Nat) : Int) ((F : Nat) : Int) (Hs1.out g1 _ K.out)).mono ?_
       go_must (rintro e w8 ⟨sl, rfl, hS⟩)
       go_must (rw [ED.out] at hS ⊢)
       go_must (rw [ED0.out])
       go_must (have hkn := LV.kept hS)
       go_must (have SLD := Lib.hid (LV.wide hS K.out))
       go_must (obtain ⟨A8, m8, c8, rfl⟩ := BkV.form SLD.out)
       go_must (have P := Lib.hid (P.out.kept hkn (by simp)))
       go_must (have K := Lib.hid (K.out.trans hkn (by simp)))
       go_must (have XA := Lib.hid (XA.out.kept hkn (by simp)))
       go_must (have XC := Lib.hid (XC.out.kept hkn (by simp)))
       go_must (have SLA := Lib.hid (LV.go BkOk SLA.out hkn))
       go_must (have SLC := Lib.hid (LV.go BkOk SLC.out hkn))
       go_must (clear hS hkn hcx)
       go_must (have hl6 := XA.out.lt)
       go_must (have hl7 := XC.out.lt)
       go_must (have hl8 := P.out.lt))
    | (with_reducible show wpList _ _ _ ({ dst := none, op := Op.store 29 (.tmp 15) (.tmp 75), type := _, pos := _, after := _, guard := _ } :: _) _ _
       go_must (refine wpList_put (t := 29) rfl 29 (.tmp 15) (.tmp 75) rfl _ (by rfl) (by rfl) (by (repeat (first | (apply Blk.new'; simp; done) | apply Blk.alloc | apply Blk.drew))) (by rfl) (by kernel_rfl) (by simp [Value.oneCell']) ?_)
       go_must (intro w9 h1 k1)
       go_must (have XD := Lib.hid (show Blk w9 w8.heap.size 29 #[.int .i64 xd.kind, .int .u32 (xd.tup.src.toNat : Nat), .int .u32 (xd.tup.dst.toNat : Nat), .int .i64 xd.tup.proto, .int .i64 xd.tup.sport, .int .i64 xd.tup.dport, .int .i64 xd.fb, .int .i64 xd.fg, .int .i64 xd.fs, .int .i64 xd.gen, .slice A8 m8 c8, .int .i64 xd.back, .int .i64 xd.until_, .int .i64 xd.count] from h1))
       go_must (have k2 : Kept [w8.heap.size] w8 w9 := ((Kept.refl _ w8).alloc _).trans k1 (fun i hi => .inl hi))
       go_must (have SLA := Lib.hid (BkV.far (LV.go BkOk SLA.out ((Kept.refl [] w8).alloc (.cells #[.int .i64 0, .int .u32 0, .int .u32 0, .int .i64 0, .int .i64 0, .int .i64 0, .int .i64 0, .int .i64 0, .int .i64 0, .int .i64 0, .slice none 0 0, .int .i64 0, .int .i64 0, .int .i64 0] 29))) k1 (by (repeat (first | (apply Blk.new'; simp; done) | apply Blk.alloc | apply Blk.drew))) (by decide) (by have := K.out.size; omega)))
       go_must (have SLC := Lib.hid (BkV.far (LV.go BkOk SLC.out ((Kept.refl [] w8).alloc (.cells #[.int .i64 0, .int .u32 0, .int .u32 0, .int .i64 0, .int .i64 0, .int .i64 0, .int .i64 0, .int .i64 0, .int .i64 0, .int .i64 0, .slice none 0 0, .int .i64 0, .int .i64 0, .int .i64 0] 29))) k1 (by (repeat (first | (apply Blk.new'; simp; done) | apply Blk.alloc | apply Blk.drew))) (by decide) (by have := K.out.size; omega)))
       go_must (have SLD := Lib.hid (BkV.far (LV.go BkOk SLD.out ((Kept.refl [] w8).alloc (.cells #[.int .i64 0, .int .u32 0, .int .u32 0, .int .i64 0, .int .i64 0, .int .i64 0, .int .i64 0, .int .i64 0, .int .i64 0, .int .i64 0, .slice none 0 0, .int .i64 0, .int .i64 0, .int .i64 0] 29))) k1 (by (repeat (first | (apply Blk.new'; simp; done) | apply Blk.alloc | apply Blk.drew))) (by decide) (by have := K.out.size; omega)))
       go_must (have P := Lib.hid (P.out.kept k2 (by simp; omega)))
       go_must (have XA := Lib.hid (XA.out.kept k2 (by simp; omega)))
       go_must (have XC := Lib.hid (XC.out.kept k2 (by simp; omega)))
       go_must (have K := Lib.hid (K.out.trans k2 (fun i hi => .inr (by simp at hi; have := K.out.size; omega))))
       go_must (clear h1 k1 k2)))
  go_cut [104] (fun bb wx => bb = .bool false ∧ Blk wx w.heap.size 29 #[.int .i64 r.kind, .int .u32 (r.tup.src.toNat : Nat), .int .u32 (r.tup.dst.toNat : Nat), .int .i64 r.tup.proto, .int .i64 r.tup.sport, .int .i64 r.tup.dport, .int .i64 r.fb, .int .i64 r.fg, .int .i64 r.fs, .int .i64 r.gen, .slice A m c, .int .i64 r.back, .int .i64 r.until_, .int .i64 r.count] ∧ Blk wx w2.heap.size 29 #[.int .i64 xa.kind, .int .u32 (xa.tup.src.toNat : Nat), .int .u32 (xa.tup.dst.toNat : Nat), .int .i64 xa.tup.proto, .int .i64 xa.tup.sport, .int .i64 xa.tup.dport, .int .i64 xa.fb, .int .i64 xa.fg, .int .i64 xa.fs, .int .i64 xa.gen, .slice A2 m2 c2, .int .i64 xa.back, .int .i64 xa.until_, .int .i64 xa.count] ∧ BkV w wx (.slice A2 m2 c2) xa.backs ∧ Kept [] w wx)
  case first =>
    go_region_held3 (fun w' => (∀ o, w'.cell? ⟨w.heap.size, o, none⟩ = (#[.int .i64 r.kind, .int .u32 (r.tup.src.toNat : Nat), .int .u32 (r.tup.dst.toNat : Nat), .int .i64 r.tup.proto, .int .i64 r.tup.sport, .int .i64 r.tup.dport, .int .i64 r.fb, .int .i64 r.fg, .int .i64 r.fs, .int .i64 r.gen, .slice A m c, .int .i64 r.back, .int .i64 r.until_, .int .i64 r.count] : Array Value)[o]?) ∧ (∀ o, w'.cell? ⟨w2.heap.size, o, none⟩ = (#[.int .i64 xa.kind, .int .u32 (xa.tup.src.toNat : Nat), .int .u32 (xa.tup.dst.toNat : Nat), .int .i64 xa.tup.proto, .int .i64 xa.tup.sport, .int .i64 xa.tup.dport, .int .i64 xa.fb, .int .i64 xa.fg, .int .i64 xa.fs, .int .i64 xa.gen, .slice A2 m2 c2, .int .i64 xa.back, .int .i64 xa.until_, .int .i64 xa.count] : Array Value)[o]?) ∧ (∀ o, w'.cell? ⟨w6.heap.size, o, none⟩ = (#[.int .i64 xa.kind, .int .u32 (xa.tup.src.toNat : Nat), .int .u32 (xa.tup.dst.toNat : Nat), .int .i64 xa.tup.proto, .int .i64 xa.tup.sport, .int .i64 xa.tup.dport, .int .i64 xa.fb, .int .i64 xa.fg, .int .i64 xa.fs, .int .i64 xa.gen, .slice A6 m6 c6, .int .i64 xa.back, .int .i64 xa.until_, .int .i64 xa.count] : Array Value)[o]?) ∧ (∀ o, w'.cell? ⟨w8.heap.size, o, none⟩ = (#[.int .i64 xd.kind, .int .u32 (xd.tup.src.toNat : Nat), .int .u32 (xd.tup.dst.toNat : Nat), .int .i64 xd.tup.proto, .int .i64 xd.tup.sport, .int .i64 xd.tup.dport, .int .i64 xd.fb, .int .i64 xd.fg, .int .i64 xd.fs, .int .i64 xd.gen, .slice A8 m8 c8, .int .i64 xd.back, .int .i64 xd.until_, .int .i64 xd.count] : Array Value)[o]?)) (exact ⟨P.out.cell, XA.out.cell, XC.out.cell, XD.out.cell⟩)
       (first
        | (go_at_call 26
           go_must (obtain ⟨G1, s1⟩ := BkV.small SLA.out (by have := LA.out; omega))
           go_must (obtain ⟨G2, s2⟩ := BkV.small SLC.out (by have := LA.out; omega))
           go_must (have hkd := (Kept.refl [] w9).drew)
           have q1 : SmallB w9.drew G1 A2 m2 c2 xa.backs := ⟨BkArr.kept s1.1 hkd (by simp), s1.2.1, s1.2.2⟩
           have q2 : SmallB w9.drew G2 A6 m6 c6 xa.backs := ⟨BkArr.kept s2.1 hkd (by simp), s2.2.1, s2.2.2⟩
           with_reducible refine (SameR_any _ xa xa q1 q2).mono ?_
           go_must (rintro e w10 ⟨rfl, k1⟩)
           go_must (rw [SA.out])
           go_must (have k1 := hkd.trans k1 (by simp))
           go_must (have P := Lib.hid (P.out.kept k1 (by simp)))
           go_must (have XA := Lib.hid (XA.out.kept k1 (by simp)))
           go_must (have XC := Lib.hid (XC.out.kept k1 (by simp)))
           go_must (have XD := Lib.hid (XD.out.kept k1 (by simp)))
           go_must (have K := Lib.hid (K.out.trans k1 (by simp)))
           go_must (have SLA := Lib.hid (LV.go BkOk SLA.out k1))
           go_must (have SLD := Lib.hid (LV.go BkOk SLD.out k1))
           go_must (clear k1 s1 s2 hkd q1 q2))
        | (go_at_call 27
           go_must (refine (In_any _ r ((F : Nat) : Int) (Hs1.out g1 _ K.out)).mono ?_)
           go_must (rintro e w11 ⟨sl, rfl, hT⟩)
           go_must (rw [EI.out] at hT ⊢)
           go_must (have k1 := LV.kept hT)
           go_must (have SLT := Lib.hid (LV.wide hT K.out))
           go_must (clear hT)
           go_must (obtain ⟨A9, m9, c9, rfl⟩ := BkV.form SLT.out)
           go_must (have P := Lib.hid (P.out.kept k1 (by simp)))
           go_must (have XA := Lib.hid (XA.out.kept k1 (by simp)))
           go_must (have XC := Lib.hid (XC.out.kept k1 (by simp)))
           go_must (have XD := Lib.hid (XD.out.kept k1 (by simp)))
           go_must (have K := Lib.hid (K.out.trans k1 (by simp)))
           go_must (have SLA := Lib.hid (LV.go BkOk SLA.out k1))
           go_must (have SLD := Lib.hid (LV.go BkOk SLD.out k1))
           go_must (clear k1))
        | (go_at_call 26
           go_must (obtain ⟨G1, s1⟩ := BkV.small SLD.out (by have := LD.out; omega))
           go_must (obtain ⟨G2, s2⟩ := BkV.small SLT.out (by have := LD.out; omega))
           with_reducible refine (SameR_any _ xd xd s1 s2).mono ?_
           go_must (rintro e w12 ⟨rfl, k1⟩)
           go_must (rw [SD.out])
           go_must (have P := Lib.hid (P.out.kept k1 (by simp)))
           go_must (have XA := Lib.hid (XA.out.kept k1 (by simp)))
           go_must (have XC := Lib.hid (XC.out.kept k1 (by simp)))
           go_must (have XD := Lib.hid (XD.out.kept k1 (by simp)))
           go_must (have K := Lib.hid (K.out.trans k1 (by simp)))
           go_must (have SLA := Lib.hid (LV.go BkOk SLA.out k1))
           go_must (clear k1 s1 s2)))
    all_goals
      go_wp2
      go_meet
      case rel => exact ⟨rfl, P.out, XA.out, SLA.out, K.out⟩
  case rest =>
    obtain ⟨rfl, hP, hXA, hSA, hK⟩ := hcut
    have P := Lib.hid hP
    have XA := Lib.hid hXA
    have SLA := Lib.hid hSA
    have K := Lib.hid hK
    clear hP hXA hSA hK
    have hcx := P.out.cell
    have hcy := XA.out.cell
    go_wp2_with (first
      | (go_at_call 26
         go_must (obtain ⟨G1, s1⟩ := BkV.small SLA.out (by have := LA.out; omega))
         go_must (refine (SameR_any _ xa r s1 (Hs1.out g1 _ K.out)).mono ?_)
         go_must (rintro e w13 ⟨rfl, k1⟩)
         go_must (rw [SX.out])
         go_must (have P := Lib.hid (P.out.kept k1 (by simp)))
         go_must (have XA := Lib.hid (XA.out.kept k1 (by simp)))
         go_must (have K := Lib.hid (K.out.trans k1 (by simp)))
         go_must (have SLA := Lib.hid (LV.go BkOk SLA.out k1))
         go_must (clear k1 s1 hcx hcy)
         go_must (have hcy := XA.out.cell))
      | (go_at_call 18
         go_must (obtain ⟨G1, s1⟩ := BkV.small SLA.out (by have := LA.out; omega))
         go_must (refine (May_any _ xa s1).mono ?_)
         go_must (rintro e w14 ⟨rfl, k1⟩)
         go_must (rw [EMA.out])
         go_must (have K := Lib.hid (K.out.trans k1 (by simp)))
         go_must (clear k1 s1))
      | (go_at_call 20
         go_must (refine (awake9_any _).mono ?_)
         go_must (rintro e w99 ⟨rfl, k1⟩)
         go_must (have K := Lib.hid (K.out.trans k1 (by simp)))
         go_must (clear k1)))
    go_ret
    exact ⟨rfl, K.out⟩

end Go.Proofs.Ytogdpfjbclnlnaa
