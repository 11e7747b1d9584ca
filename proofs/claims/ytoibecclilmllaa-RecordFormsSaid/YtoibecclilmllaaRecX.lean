
/-
  The contract of record.write.
-/
import Derived.Test.YtoibecclilmllaaRecW
namespace Go.Proofs.Ytoibecclilmllaa
open Go.RowKit Go.ChangeShapes Go.WideShapes Go.Deep
set_option linter.unusedVariables false

set_option maxHeartbeats 3200000 in
set_option maxRecDepth 100000 in
theorem write_any {W w : World} {b : Nat} (h : WV W b [] w) {G : List Nat} {A : Option Addr} {m c : Nat} (r : RecD) (v : Int) (ha : BkArr W G (.slice A m c) r.backs) (hm : m ≤ 1000) :
    Calls Try.prog 31 #[.pointer (some ⟨b, 0, none⟩), .agg #[.int .i64 r.kind, .int .u32 (r.tup.src.toNat : Nat), .int .u32 (r.tup.dst.toNat : Nat), .int .i64 r.tup.proto, .int .i64 r.tup.sport, .int .i64 r.tup.dport, .int .i64 r.fb, .int .i64 r.fg, .int .i64 r.fs, .int .i64 r.gen, .slice A m c, .int .i64 r.back, .int .i64 r.until_, .int .i64 r.count], .int .i64 v] w fun e w' => e = .returned (.tuple #[]) ∧ WV W b (bodyR r v) w' := by
  have V0 := Lib.hid (h.go ((Kept.refl [] w).alloc (.cells #[.int .i64 r.kind, .int .u32 (r.tup.src.toNat : Nat), .int .u32 (r.tup.dst.toNat : Nat), .int .i64 r.tup.proto, .int .i64 r.tup.sport, .int .i64 r.tup.dport, .int .i64 r.fb, .int .i64 r.fg, .int .i64 r.fs, .int .i64 r.gen, .slice A m c, .int .i64 r.back, .int .i64 r.until_, .int .i64 r.count] 29)))
  have Hb := Lib.hid (Blk.new w 29 #[.int .i64 r.kind, .int .u32 (r.tup.src.toNat : Nat), .int .u32 (r.tup.dst.toNat : Nat), .int .i64 r.tup.proto, .int .i64 r.tup.sport, .int .i64 r.tup.dport, .int .i64 r.fb, .int .i64 r.fg, .int .i64 r.fs, .int .i64 r.gen, .slice A m c, .int .i64 r.back, .int .i64 r.until_, .int .i64 r.count])
  have A0 := Lib.hid (Apart.of_kept (Kept.refl [] (w.alloc (.cells #[.int .i64 r.kind, .int .u32 (r.tup.src.toNat : Nat), .int .u32 (r.tup.dst.toNat : Nat), .int .i64 r.tup.proto, .int .i64 r.tup.sport, .int .i64 r.tup.dport, .int .i64 r.fb, .int .i64 r.fg, .int .i64 r.fs, .int .i64 r.gen, .slice A m c, .int .i64 r.back, .int .i64 r.until_, .int .i64 r.count] 29))))
  have HA := Lib.hid ha
  have HL := Lib.hid ha.len
  clear h ha
  have hcx : True := trivial
  by_cases k1 : r.kind = 1
  · have b1 : (r.kind == 1) = true := by simp [k1]
    by_cases v3 : 3 ≤ v
    · have hp := Lib.hid (show bodyR r v = tupB r.tup ++ u16B r.fb ++ u32B r.fg ++ i64B r.fs by simp [bodyR, k1, v3, show 2 ≤ v by omega])
      have v2 : 2 ≤ v := by omega
      clear k1
      go_enter Try.func31, Try.ntmps31
      go_wp2_with fail
      refine (TW_any V0.out r.tup (by simp; try omega)).mono ?_
      rintro e w1 ⟨rfl, hv, ha⟩
      have A1 := Lib.hid (A0.out.trans ha)
      clear hcx
      have hcx := (A1.out _ _ _ (by decide) (by decide) Hb.out).cell
      have V1 := Lib.hid hv
      clear hv ha
      go_wp2_with fail
      refine (VU16 V1.out r.fb (by simp [len_all]; try omega)).mono ?_
      rintro e w2 ⟨rfl, hv, ha⟩
      have A2 := Lib.hid (A1.out.trans ha)
      clear hcx
      have hcx := (A2.out _ _ _ (by decide) (by decide) Hb.out).cell
      have V2 := Lib.hid hv
      clear hv ha
      go_wp2_with fail
      refine (VU32 V2.out _ (u32n r.fg) (wrap_u32n _) (u32n_lt _) (by simp [len_all]; try omega)).mono ?_
      rintro e w3 ⟨rfl, hv, ha⟩
      have A3 := Lib.hid (A2.out.trans ha)
      clear hcx
      have hcx := (A3.out _ _ _ (by decide) (by decide) Hb.out).cell
      have V3 := Lib.hid hv
      clear hv ha
      go_wp2_with fail
      refine (VI64 V3.out r.fs (by simp [len_all]; try omega)).mono ?_
      rintro e w4 ⟨rfl, hv, ha⟩
      have A4 := Lib.hid (A3.out.trans ha)
      clear hcx
      have hcx := (A4.out _ _ _ (by decide) (by decide) Hb.out).cell
      have V4 := Lib.hid hv
      clear hv ha
      go_wp2
      go_end0
      refine ⟨rfl, ?_⟩
      rw [hp.out]
      simpa [u8B, u16B, u32B, i64B] using V4.out
    by_cases v2 : 2 ≤ v
    · have hp := Lib.hid (show bodyR r v = tupB r.tup ++ u16B r.fb ++ u32B r.fg by simp [bodyR, k1, v2, v3])
      clear k1
      go_enter Try.func31, Try.ntmps31
      go_wp2_with fail
      refine (TW_any V0.out r.tup (by simp; try omega)).mono ?_
      rintro e w1 ⟨rfl, hv, ha⟩
      have A1 := Lib.hid (A0.out.trans ha)
      clear hcx
      have hcx := (A1.out _ _ _ (by decide) (by decide) Hb.out).cell
      have V1 := Lib.hid hv
      clear hv ha
      go_wp2_with fail
      refine (VU16 V1.out r.fb (by simp [len_all]; try omega)).mono ?_
      rintro e w2 ⟨rfl, hv, ha⟩
      have A2 := Lib.hid (A1.out.trans ha)
      clear hcx
      have hcx := (A2.out _ _ _ (by decide) (by decide) Hb.out).cell
      have V2 := Lib.hid hv
      clear hv ha
      go_wp2_with fail
      refine (VU32 V2.out _ (u32n r.fg) (wrap_u32n _) (u32n_lt _) (by simp [len_all]; try omega)).mono ?_
      rintro e w3 ⟨rfl, hv, ha⟩
      have A3 := Lib.hid (A2.out.trans ha)
      clear hcx
      have hcx := (A3.out _ _ _ (by decide) (by decide) Hb.out).cell
      have V3 := Lib.hid hv
      clear hv ha
      go_wp2
      go_end0
      refine ⟨rfl, ?_⟩
      rw [hp.out]
      simpa [u8B, u16B, u32B, i64B] using V3.out
    · have hp := Lib.hid (show bodyR r v = tupB r.tup ++ u16B r.fb by simp [bodyR, k1, v2, v3])
      clear k1
      go_enter Try.func31, Try.ntmps31
      go_wp2_with fail
      refine (TW_any V0.out r.tup (by simp; try omega)).mono ?_
      rintro e w1 ⟨rfl, hv, ha⟩
      have A1 := Lib.hid (A0.out.trans ha)
      clear hcx
      have hcx := (A1.out _ _ _ (by decide) (by decide) Hb.out).cell
      have V1 := Lib.hid hv
      clear hv ha
      go_wp2_with fail
      refine (VU16 V1.out r.fb (by simp [len_all]; try omega)).mono ?_
      rintro e w2 ⟨rfl, hv, ha⟩
      have A2 := Lib.hid (A1.out.trans ha)
      clear hcx
      have hcx := (A2.out _ _ _ (by decide) (by decide) Hb.out).cell
      have V2 := Lib.hid hv
      clear hv ha
      go_wp2
      go_end0
      refine ⟨rfl, ?_⟩
      rw [hp.out]
      simpa [u8B, u16B, u32B, i64B] using V2.out
  have b1 : (r.kind == 1) = false := by simp [k1]
  by_cases k2 : r.kind = 2
  · have b2 : (r.kind == 2) = true := by simp [k2]
    have hp := Lib.hid (show bodyR r v = tupB r.tup by simp [bodyR, k2])
    clear k2
    go_enter Try.func31, Try.ntmps31
    go_wp2_with fail
    refine (TW_any V0.out r.tup (by simp; try omega)).mono ?_
    rintro e w1 ⟨rfl, hv, ha⟩
    have A1 := Lib.hid (A0.out.trans ha)
    clear hcx
    have hcx := (A1.out _ _ _ (by decide) (by decide) Hb.out).cell
    have V1 := Lib.hid hv
    clear hv ha
    go_wp2
    go_end0
    refine ⟨rfl, ?_⟩
    rw [hp.out]
    simpa [u8B, u16B, u32B, i64B] using V1.out
  have b2 : (r.kind == 2) = false := by simp [k2]
  by_cases k3 : r.kind = 3
  · have b3 : (r.kind == 3) = true := by simp [k3]
    by_cases v2 : 2 ≤ v
    · have hbb : ∀ bk, backB v bk = u16B bk.id ++ beK bk.addr.toNat 4 4 ++ u8B bk.weight := fun bk => by simp [backB, v2]
      have Hbb := Lib.hid hbb
      clear hbb
      have hp := Lib.hid (show bodyR r v = u32B r.gen ++ u8B r.backs.length ++ r.backs.flatMap (backB v) by simp [bodyR, k3])
      clear k3
      go_enter Try.func31, Try.ntmps31
      go_wp2_with fail
      refine (VU32 V0.out _ (u32n r.gen) (wrap_u32n _) (u32n_lt _) (by simp; try omega)).mono ?_
      rintro e w1 ⟨rfl, hv, ha⟩
      have A1 := Lib.hid (A0.out.trans ha)
      clear hcx
      have hcx := (A1.out _ _ _ (by decide) (by decide) Hb.out).cell
      have V1 := Lib.hid hv
      clear hv ha
      go_wp2_with fail
      refine (VU8 V1.out (m : Int) (by simp [len_all]; try omega)).mono ?_
      rintro e w2 ⟨rfl, hv, ha⟩
      have A2 := Lib.hid (A1.out.trans ha)
      clear hcx
      have hcx := (A2.out _ _ _ (by decide) (by decide) Hb.out).cell
      have V2 := Lib.hid hv
      clear hv ha
      have B2 := Lib.hid (A2.out _ _ _ (by decide) (by decide) Hb.out)
      go_wp2
      clear hcx
      go_loopg [62] m (fun g i wr => ∃ k : Nat, k ≤ m ∧ g = m - k ∧ i = .int .i64 k ∧ WV W b (([] ++ beK (u32n r.gen) 4 4 ++ beK (nat64 (m : Int)) 1 1) ++ (r.backs.take k).flatMap (backB v)) wr)
      case atStart => exact ⟨0, by omega, by omega, rfl, by simpa using V2.out⟩
      case round =>
        obtain ⟨k, hk, rfl, rfl, hv⟩ := hrel
        have V := Lib.hid hv
        clear hv
        by_cases hlt : k < m
        · have hkl : k < r.backs.length := by rw [HL.out.1]; exact hlt
          obtain ⟨g, o, rfl, hg, hgG, c0, c1, c2⟩ := (BkArr.kept HA.out V.out.kept (by simp)).at (k := k) hkl
          have Hsn := Lib.hid (show (r.backs.take (k + 1)).flatMap (backB v) = (r.backs.take k).flatMap (backB v) ++ backB v (r.backs[k]'hkl) by rw [List.take_succ_eq_append_getElem hkl, List.flatMap_append, List.flatMap_cons, List.flatMap_nil, List.append_nil])
          have hbl : ((r.backs.take k).flatMap (backB v)).length ≤ 7000 := by
            rw [backsB_len, List.length_take]
            have h7 : (if 2 ≤ v then 7 else 6) ≤ 7 := by split <;> omega
            exact Nat.le_trans (Nat.mul_le_mul (Nat.min_le_left _ _) h7) (by omega)
          generalize hxs : (r.backs.take k).flatMap (backB v) = xs at *
          clear hxs
          generalize r.backs[k]'hkl = bk at *
          clear hkl
          have V0' := Lib.hid (V.out.go ((Kept.refl [] wr).alloc (.cells #[.int .i64 bk.id, .int .u32 (bk.addr.toNat : Nat), .int .i64 bk.weight] 45)))
          have Hbk := Lib.hid (Blk.new wr 45 #[.int .i64 bk.id, .int .u32 (bk.addr.toNat : Nat), .int .i64 bk.weight])
          have i0 : (0 : Int) ≤ (k : Int) := by omega
          have i1 : (k : Int) < (m : Int) := by omega
          go_wp2_with fail
          refine (VU16 V0'.out bk.id (by simp [beK_len]; omega)).mono ?_
          rintro e w3 ⟨rfl, hv3, ha3⟩
          have hc3 := (ha3 _ _ _ (by decide) (by decide) Hbk.out).cell
          have A3 := Lib.hid ha3
          have V3 := Lib.hid hv3
          clear hv3 ha3
          go_wp2_with fail
          clear hc3
          refine (VU32 V3.out _ bk.addr.toNat rfl bk.addr.toNat_lt (by simp [beK_len]; omega)).mono ?_
          rintro e w4 ⟨rfl, hv4, ha4⟩
          have hc4 := ((A3.out.trans ha4) _ _ _ (by decide) (by decide) Hbk.out).cell
          have V4 := Lib.hid hv4
          clear hv4 ha4
          go_wp2_with fail
          clear hc4
          refine (VU8 V4.out bk.weight (by simp [beK_len]; omega)).mono ?_
          rintro e w5 ⟨rfl, hv5, ha5⟩
          have V5 := Lib.hid hv5
          clear hv5 ha5
          go_wp2
          go_roundg (m - (k + 1))
          case measure => omega
          case rel => exact ⟨k + 1, by omega, rfl, by go_num, by rw [Hsn.out, Hbb.out]; simpa [u8B, u16B] using V5.out⟩
        · obtain rfl : k = m := by omega
          go_wp2
          go_end0
          refine ⟨rfl, ?_⟩
          have hv := V.out
          rw [List.take_of_length_le (by rw [HL.out.1]; omega)] at hv
          rw [hp.out, HL.out.1]
          simpa [u8B, u16B, u32B] using hv
    · have hbb : ∀ bk, backB v bk = u16B bk.id ++ beK bk.addr.toNat 4 4 := fun bk => by simp [backB, v2]
      have Hbb := Lib.hid hbb
      clear hbb
      have hp := Lib.hid (show bodyR r v = u32B r.gen ++ u8B r.backs.length ++ r.backs.flatMap (backB v) by simp [bodyR, k3])
      clear k3
      go_enter Try.func31, Try.ntmps31
      go_wp2_with fail
      refine (VU32 V0.out _ (u32n r.gen) (wrap_u32n _) (u32n_lt _) (by simp; try omega)).mono ?_
      rintro e w1 ⟨rfl, hv, ha⟩
      have A1 := Lib.hid (A0.out.trans ha)
      clear hcx
      have hcx := (A1.out _ _ _ (by decide) (by decide) Hb.out).cell
      have V1 := Lib.hid hv
      clear hv ha
      go_wp2_with fail
      refine (VU8 V1.out (m : Int) (by simp [len_all]; try omega)).mono ?_
      rintro e w2 ⟨rfl, hv, ha⟩
      have A2 := Lib.hid (A1.out.trans ha)
      clear hcx
      have hcx := (A2.out _ _ _ (by decide) (by decide) Hb.out).cell
      have V2 := Lib.hid hv
      clear hv ha
      have B2 := Lib.hid (A2.out _ _ _ (by decide) (by decide) Hb.out)
      go_wp2
      clear hcx
      go_loopg [62] m (fun g i wr => ∃ k : Nat, k ≤ m ∧ g = m - k ∧ i = .int .i64 k ∧ WV W b (([] ++ beK (u32n r.gen) 4 4 ++ beK (nat64 (m : Int)) 1 1) ++ (r.backs.take k).flatMap (backB v)) wr)
      case atStart => exact ⟨0, by omega, by omega, rfl, by simpa using V2.out⟩
      case round =>
        obtain ⟨k, hk, rfl, rfl, hv⟩ := hrel
        have V := Lib.hid hv
        clear hv
        by_cases hlt : k < m
        · have hkl : k < r.backs.length := by rw [HL.out.1]; exact hlt
          obtain ⟨g, o, rfl, hg, hgG, c0, c1, c2⟩ := (BkArr.kept HA.out V.out.kept (by simp)).at (k := k) hkl
          have Hsn := Lib.hid (show (r.backs.take (k + 1)).flatMap (backB v) = (r.backs.take k).flatMap (backB v) ++ backB v (r.backs[k]'hkl) by rw [List.take_succ_eq_append_getElem hkl, List.flatMap_append, List.flatMap_cons, List.flatMap_nil, List.append_nil])
          have hbl : ((r.backs.take k).flatMap (backB v)).length ≤ 7000 := by
            rw [backsB_len, List.length_take]
            have h7 : (if 2 ≤ v then 7 else 6) ≤ 7 := by split <;> omega
            exact Nat.le_trans (Nat.mul_le_mul (Nat.min_le_left _ _) h7) (by omega)
          generalize hxs : (r.backs.take k).flatMap (backB v) = xs at *
          clear hxs
          generalize r.backs[k]'hkl = bk at *
          clear hkl
          have V0' := Lib.hid (V.out.go ((Kept.refl [] wr).alloc (.cells #[.int .i64 bk.id, .int .u32 (bk.addr.toNat : Nat), .int .i64 bk.weight] 45)))
          have Hbk := Lib.hid (Blk.new wr 45 #[.int .i64 bk.id, .int .u32 (bk.addr.toNat : Nat), .int .i64 bk.weight])
          have i0 : (0 : Int) ≤ (k : Int) := by omega
          have i1 : (k : Int) < (m : Int) := by omega
          go_wp2_with fail
          refine (VU16 V0'.out bk.id (by simp [beK_len]; omega)).mono ?_
          rintro e w3 ⟨rfl, hv3, ha3⟩
          have hc3 := (ha3 _ _ _ (by decide) (by decide) Hbk.out).cell
          have A3 := Lib.hid ha3
          have V3 := Lib.hid hv3
          clear hv3 ha3
          go_wp2_with fail
          clear hc3
          refine (VU32 V3.out _ bk.addr.toNat rfl bk.addr.toNat_lt (by simp [beK_len]; omega)).mono ?_
          rintro e w4 ⟨rfl, hv4, ha4⟩
          have hc4 := ((A3.out.trans ha4) _ _ _ (by decide) (by decide) Hbk.out).cell
          have V4 := Lib.hid hv4
          clear hv4 ha4
          go_wp2
          go_roundg (m - (k + 1))
          case measure => omega
          case rel => exact ⟨k + 1, by omega, rfl, by go_num, by rw [Hsn.out, Hbb.out]; simpa [u8B, u16B] using V4.out⟩
        · obtain rfl : k = m := by omega
          go_wp2
          go_end0
          refine ⟨rfl, ?_⟩
          have hv := V.out
          rw [List.take_of_length_le (by rw [HL.out.1]; omega)] at hv
          rw [hp.out, HL.out.1]
          simpa [u8B, u16B, u32B] using hv
  have b3 : (r.kind == 3) = false := by simp [k3]
  by_cases k4 : r.kind = 4
  · have b4 : (r.kind == 4) = true := by simp [k4]
    have hp := Lib.hid (show bodyR r v = u16B r.back ++ i64B r.until_ by simp [bodyR, k4])
    clear k4
    go_enter Try.func31, Try.ntmps31
    go_wp2_with fail
    refine (VU16 V0.out r.back (by simp; try omega)).mono ?_
    rintro e w1 ⟨rfl, hv, ha⟩
    have A1 := Lib.hid (A0.out.trans ha)
    clear hcx
    have hcx := (A1.out _ _ _ (by decide) (by decide) Hb.out).cell
    have V1 := Lib.hid hv
    clear hv ha
    go_wp2_with fail
    refine (VI64 V1.out r.until_ (by simp [len_all]; try omega)).mono ?_
    rintro e w2 ⟨rfl, hv, ha⟩
    have A2 := Lib.hid (A1.out.trans ha)
    clear hcx
    have hcx := (A2.out _ _ _ (by decide) (by decide) Hb.out).cell
    have V2 := Lib.hid hv
    clear hv ha
    go_wp2
    go_end0
    refine ⟨rfl, ?_⟩
    rw [hp.out]
    simpa [u8B, u16B, u32B, i64B] using V2.out
  have b4 : (r.kind == 4) = false := by simp [k4]
  by_cases k5 : r.kind = 5
  · have b5 : (r.kind == 5) = true := by simp [k5]
    have hp := Lib.hid (show bodyR r v = u16B r.back by simp [bodyR, k5])
    clear k5
    go_enter Try.func31, Try.ntmps31
    go_wp2_with fail
    refine (VU16 V0.out r.back (by simp; try omega)).mono ?_
    rintro e w1 ⟨rfl, hv, ha⟩
    have A1 := Lib.hid (A0.out.trans ha)
    clear hcx
    have hcx := (A1.out _ _ _ (by decide) (by decide) Hb.out).cell
    have V1 := Lib.hid hv
    clear hv ha
    go_wp2
    go_end0
    refine ⟨rfl, ?_⟩
    rw [hp.out]
    simpa [u8B, u16B, u32B, i64B] using V1.out
  have b5 : (r.kind == 5) = false := by simp [k5]
  by_cases k6 : r.kind = 6
  · have b6 : (r.kind == 6) = true := by simp [k6]
    have hp := Lib.hid (show bodyR r v = u32B r.count by simp [bodyR, k6])
    clear k6
    go_enter Try.func31, Try.ntmps31
    go_wp2_with fail
    refine (VU32 V0.out _ (u32n r.count) (wrap_u32n _) (u32n_lt _) (by simp; try omega)).mono ?_
    rintro e w1 ⟨rfl, hv, ha⟩
    have A1 := Lib.hid (A0.out.trans ha)
    clear hcx
    have hcx := (A1.out _ _ _ (by decide) (by decide) Hb.out).cell
    have V1 := Lib.hid hv
    clear hv ha
    go_wp2
    go_end0
    refine ⟨rfl, ?_⟩
    rw [hp.out]
    simpa [u8B, u16B, u32B, i64B] using V1.out
  have b6 : (r.kind == 6) = false := by simp [k6]
  have hp := Lib.hid (show bodyR r v = [] by simp [bodyR, k1, k2, k3, k4, k5, k6])
  clear k1 k2 k3 k4 k5 k6
  go_enter Try.func31, Try.ntmps31
  go_wp2
  go_end0
  refine ⟨rfl, ?_⟩
  rw [hp.out]
  simpa [u8B, u16B, u32B, i64B] using V0.out
end Go.Proofs.Ytoibecclilmllaa
