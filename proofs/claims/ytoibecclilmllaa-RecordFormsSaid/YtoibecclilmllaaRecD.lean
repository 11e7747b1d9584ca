
/-
  Contracts: may a record be.
-/
import Derived.Test.YtoibecclilmllaaRecC
namespace Go.Proofs.Ytoibecclilmllaa
open Go.RowKit Go.ChangeShapes Go.WideShapes Go.Deep
set_option linter.unusedVariables false

-- MAY BEGINS
set_option maxHeartbeats 3200000 in
theorem May_any (w : World) {G : List Nat} {A : Option Addr} {m c : Nat} (r : RecD) (h : SmallB w G A m c r.backs) :
    Calls Try.prog 9 #[.agg #[.int .i64 r.kind, .int .u32 (r.tup.src.toNat : Nat), .int .u32 (r.tup.dst.toNat : Nat), .int .i64 r.tup.proto, .int .i64 r.tup.sport, .int .i64 r.tup.dport, .int .i64 r.fb, .int .i64 r.fg, .int .i64 r.fs, .int .i64 r.gen, .slice A m c, .int .i64 r.back, .int .i64 r.until_, .int .i64 r.count]] w fun e w' => e = .returned (.bool (mayR r)) ∧ Kept [] w w' := by
  have H := Lib.hid h
  have HL := Lib.hid h.1.len.1
  clear h
  by_cases k1 : r.kind = 1
  · have b1 : (r.kind == 1) = true := by simp [k1]
    cases g0 : mayT r.tup
    · have hp := Lib.hid (show mayR r = false by simp [mayR, k1, g0])
      clear k1
      go_enter Try.func9, Try.ntmps9
      go_wp2_with (first
        | (go_at_call 17; refine (tMay_any _ r.tup).mono ?_; rintro e w1 ⟨rfl, hk1⟩; (first | rw [g0]); have hcf := ((show Blk ((w.alloc (.cells #[.int .i64 r.kind, .int .u32 (r.tup.src.toNat : Nat), .int .u32 (r.tup.dst.toNat : Nat), .int .i64 r.tup.proto, .int .i64 r.tup.sport, .int .i64 r.tup.dport, .int .i64 r.fb, .int .i64 r.fg, .int .i64 r.fs, .int .i64 r.gen, .slice A m c, .int .i64 r.back, .int .i64 r.until_, .int .i64 r.count] 29)).alloc (.cells #[.int .u32 (r.tup.src.toNat : Nat), .int .u32 (r.tup.dst.toNat : Nat), .int .i64 r.tup.proto, .int .i64 r.tup.sport, .int .i64 r.tup.dport, .int .i64 r.fb, .int .i64 r.fg, .int .i64 r.fs] 26)) (w.heap.size + 1) 26 #[.int .u32 (r.tup.src.toNat : Nat), .int .u32 (r.tup.dst.toNat : Nat), .int .i64 r.tup.proto, .int .i64 r.tup.sport, .int .i64 r.tup.dport, .int .i64 r.fb, .int .i64 r.fg, .int .i64 r.fs] from by (repeat (first | (apply Blk.new'; simp; done) | apply Blk.alloc | apply Blk.drew))).kept hk1 (by simp)).cell; have hzf := hk1.size; simp only [World.size_alloc] at hzf; have Hk1 := Lib.hid ((show Kept [] w ((w.alloc (.cells #[.int .i64 r.kind, .int .u32 (r.tup.src.toNat : Nat), .int .u32 (r.tup.dst.toNat : Nat), .int .i64 r.tup.proto, .int .i64 r.tup.sport, .int .i64 r.tup.dport, .int .i64 r.fb, .int .i64 r.fg, .int .i64 r.fs, .int .i64 r.gen, .slice A m c, .int .i64 r.back, .int .i64 r.until_, .int .i64 r.count] 29)).alloc (.cells #[.int .u32 (r.tup.src.toNat : Nat), .int .u32 (r.tup.dst.toNat : Nat), .int .i64 r.tup.proto, .int .i64 r.tup.sport, .int .i64 r.tup.dport, .int .i64 r.fb, .int .i64 r.fg, .int .i64 r.fs] 26)) from by (repeat (first | exact Kept.refl _ _ | apply Kept.alloc | apply Kept.drew))).trans hk1 (by simp)); clear hk1)
        | (go_at_call 18; refine (in_any _ _ _).mono ?_; rintro e w' ⟨rfl, rfl⟩; (first | rw [g0]))
        | (go_at_call 19; refine (time_any _ _).mono ?_; rintro e w' ⟨rfl, rfl⟩; (first | rw [g0])))
      go_ret
      refine ⟨ret_bool (by rw [hp.out]), ?_⟩
      first | exact Hk1.out | (repeat (first | exact Kept.refl _ _ | apply Kept.alloc | apply Kept.drew))
    · cases g1 : inB r.fb 65535
      · have hp := Lib.hid (show mayR r = false by simp [mayR, k1, g0, g1])
        clear k1
        go_enter Try.func9, Try.ntmps9
        go_wp2_with (first
          | (go_at_call 17; refine (tMay_any _ r.tup).mono ?_; rintro e w1 ⟨rfl, hk1⟩; (first | rw [g0] | rw [g1]); have hcf := ((show Blk ((w.alloc (.cells #[.int .i64 r.kind, .int .u32 (r.tup.src.toNat : Nat), .int .u32 (r.tup.dst.toNat : Nat), .int .i64 r.tup.proto, .int .i64 r.tup.sport, .int .i64 r.tup.dport, .int .i64 r.fb, .int .i64 r.fg, .int .i64 r.fs, .int .i64 r.gen, .slice A m c, .int .i64 r.back, .int .i64 r.until_, .int .i64 r.count] 29)).alloc (.cells #[.int .u32 (r.tup.src.toNat : Nat), .int .u32 (r.tup.dst.toNat : Nat), .int .i64 r.tup.proto, .int .i64 r.tup.sport, .int .i64 r.tup.dport, .int .i64 r.fb, .int .i64 r.fg, .int .i64 r.fs] 26)) (w.heap.size + 1) 26 #[.int .u32 (r.tup.src.toNat : Nat), .int .u32 (r.tup.dst.toNat : Nat), .int .i64 r.tup.proto, .int .i64 r.tup.sport, .int .i64 r.tup.dport, .int .i64 r.fb, .int .i64 r.fg, .int .i64 r.fs] from by (repeat (first | (apply Blk.new'; simp; done) | apply Blk.alloc | apply Blk.drew))).kept hk1 (by simp)).cell; have hzf := hk1.size; simp only [World.size_alloc] at hzf; have Hk1 := Lib.hid ((show Kept [] w ((w.alloc (.cells #[.int .i64 r.kind, .int .u32 (r.tup.src.toNat : Nat), .int .u32 (r.tup.dst.toNat : Nat), .int .i64 r.tup.proto, .int .i64 r.tup.sport, .int .i64 r.tup.dport, .int .i64 r.fb, .int .i64 r.fg, .int .i64 r.fs, .int .i64 r.gen, .slice A m c, .int .i64 r.back, .int .i64 r.until_, .int .i64 r.count] 29)).alloc (.cells #[.int .u32 (r.tup.src.toNat : Nat), .int .u32 (r.tup.dst.toNat : Nat), .int .i64 r.tup.proto, .int .i64 r.tup.sport, .int .i64 r.tup.dport, .int .i64 r.fb, .int .i64 r.fg, .int .i64 r.fs] 26)) from by (repeat (first | exact Kept.refl _ _ | apply Kept.alloc | apply Kept.drew))).trans hk1 (by simp)); clear hk1)
          | (go_at_call 18; refine (in_any _ _ _).mono ?_; rintro e w' ⟨rfl, rfl⟩; (first | rw [g0] | rw [g1]))
          | (go_at_call 19; refine (time_any _ _).mono ?_; rintro e w' ⟨rfl, rfl⟩; (first | rw [g0] | rw [g1])))
        go_ret
        refine ⟨ret_bool (by rw [hp.out]), ?_⟩
        first | exact Hk1.out | (repeat (first | exact Kept.refl _ _ | apply Kept.alloc | apply Kept.drew))
      · cases g2 : inB r.fg 1000000
        · have hp := Lib.hid (show mayR r = false by simp [mayR, k1, g0, g1, g2])
          clear k1
          go_enter Try.func9, Try.ntmps9
          go_wp2_with (first
            | (go_at_call 17; refine (tMay_any _ r.tup).mono ?_; rintro e w1 ⟨rfl, hk1⟩; (first | rw [g0] | rw [g1] | rw [g2]); have hcf := ((show Blk ((w.alloc (.cells #[.int .i64 r.kind, .int .u32 (r.tup.src.toNat : Nat), .int .u32 (r.tup.dst.toNat : Nat), .int .i64 r.tup.proto, .int .i64 r.tup.sport, .int .i64 r.tup.dport, .int .i64 r.fb, .int .i64 r.fg, .int .i64 r.fs, .int .i64 r.gen, .slice A m c, .int .i64 r.back, .int .i64 r.until_, .int .i64 r.count] 29)).alloc (.cells #[.int .u32 (r.tup.src.toNat : Nat), .int .u32 (r.tup.dst.toNat : Nat), .int .i64 r.tup.proto, .int .i64 r.tup.sport, .int .i64 r.tup.dport, .int .i64 r.fb, .int .i64 r.fg, .int .i64 r.fs] 26)) (w.heap.size + 1) 26 #[.int .u32 (r.tup.src.toNat : Nat), .int .u32 (r.tup.dst.toNat : Nat), .int .i64 r.tup.proto, .int .i64 r.tup.sport, .int .i64 r.tup.dport, .int .i64 r.fb, .int .i64 r.fg, .int .i64 r.fs] from by (repeat (first | (apply Blk.new'; simp; done) | apply Blk.alloc | apply Blk.drew))).kept hk1 (by simp)).cell; have hzf := hk1.size; simp only [World.size_alloc] at hzf; have Hk1 := Lib.hid ((show Kept [] w ((w.alloc (.cells #[.int .i64 r.kind, .int .u32 (r.tup.src.toNat : Nat), .int .u32 (r.tup.dst.toNat : Nat), .int .i64 r.tup.proto, .int .i64 r.tup.sport, .int .i64 r.tup.dport, .int .i64 r.fb, .int .i64 r.fg, .int .i64 r.fs, .int .i64 r.gen, .slice A m c, .int .i64 r.back, .int .i64 r.until_, .int .i64 r.count] 29)).alloc (.cells #[.int .u32 (r.tup.src.toNat : Nat), .int .u32 (r.tup.dst.toNat : Nat), .int .i64 r.tup.proto, .int .i64 r.tup.sport, .int .i64 r.tup.dport, .int .i64 r.fb, .int .i64 r.fg, .int .i64 r.fs] 26)) from by (repeat (first | exact Kept.refl _ _ | apply Kept.alloc | apply Kept.drew))).trans hk1 (by simp)); clear hk1)
            | (go_at_call 18; refine (in_any _ _ _).mono ?_; rintro e w' ⟨rfl, rfl⟩; (first | rw [g0] | rw [g1] | rw [g2]))
            | (go_at_call 19; refine (time_any _ _).mono ?_; rintro e w' ⟨rfl, rfl⟩; (first | rw [g0] | rw [g1] | rw [g2])))
          go_ret
          refine ⟨ret_bool (by rw [hp.out]), ?_⟩
          first | exact Hk1.out | (repeat (first | exact Kept.refl _ _ | apply Kept.alloc | apply Kept.drew))
        · cases g3 : timeB r.fs
          · have hp := Lib.hid (show mayR r = false by simp [mayR, k1, g0, g1, g2, g3])
            clear k1
            go_enter Try.func9, Try.ntmps9
            go_wp2_with (first
              | (go_at_call 17; refine (tMay_any _ r.tup).mono ?_; rintro e w1 ⟨rfl, hk1⟩; (first | rw [g0] | rw [g1] | rw [g2] | rw [g3]); have hcf := ((show Blk ((w.alloc (.cells #[.int .i64 r.kind, .int .u32 (r.tup.src.toNat : Nat), .int .u32 (r.tup.dst.toNat : Nat), .int .i64 r.tup.proto, .int .i64 r.tup.sport, .int .i64 r.tup.dport, .int .i64 r.fb, .int .i64 r.fg, .int .i64 r.fs, .int .i64 r.gen, .slice A m c, .int .i64 r.back, .int .i64 r.until_, .int .i64 r.count] 29)).alloc (.cells #[.int .u32 (r.tup.src.toNat : Nat), .int .u32 (r.tup.dst.toNat : Nat), .int .i64 r.tup.proto, .int .i64 r.tup.sport, .int .i64 r.tup.dport, .int .i64 r.fb, .int .i64 r.fg, .int .i64 r.fs] 26)) (w.heap.size + 1) 26 #[.int .u32 (r.tup.src.toNat : Nat), .int .u32 (r.tup.dst.toNat : Nat), .int .i64 r.tup.proto, .int .i64 r.tup.sport, .int .i64 r.tup.dport, .int .i64 r.fb, .int .i64 r.fg, .int .i64 r.fs] from by (repeat (first | (apply Blk.new'; simp; done) | apply Blk.alloc | apply Blk.drew))).kept hk1 (by simp)).cell; have hzf := hk1.size; simp only [World.size_alloc] at hzf; have Hk1 := Lib.hid ((show Kept [] w ((w.alloc (.cells #[.int .i64 r.kind, .int .u32 (r.tup.src.toNat : Nat), .int .u32 (r.tup.dst.toNat : Nat), .int .i64 r.tup.proto, .int .i64 r.tup.sport, .int .i64 r.tup.dport, .int .i64 r.fb, .int .i64 r.fg, .int .i64 r.fs, .int .i64 r.gen, .slice A m c, .int .i64 r.back, .int .i64 r.until_, .int .i64 r.count] 29)).alloc (.cells #[.int .u32 (r.tup.src.toNat : Nat), .int .u32 (r.tup.dst.toNat : Nat), .int .i64 r.tup.proto, .int .i64 r.tup.sport, .int .i64 r.tup.dport, .int .i64 r.fb, .int .i64 r.fg, .int .i64 r.fs] 26)) from by (repeat (first | exact Kept.refl _ _ | apply Kept.alloc | apply Kept.drew))).trans hk1 (by simp)); clear hk1)
              | (go_at_call 18; refine (in_any _ _ _).mono ?_; rintro e w' ⟨rfl, rfl⟩; (first | rw [g0] | rw [g1] | rw [g2] | rw [g3]))
              | (go_at_call 19; refine (time_any _ _).mono ?_; rintro e w' ⟨rfl, rfl⟩; (first | rw [g0] | rw [g1] | rw [g2] | rw [g3])))
            go_ret
            refine ⟨ret_bool (by rw [hp.out]), ?_⟩
            first | exact Hk1.out | (repeat (first | exact Kept.refl _ _ | apply Kept.alloc | apply Kept.drew))
          · have hp := Lib.hid (show mayR r = true by simp [mayR, k1, g0, g1, g2, g3])
            clear k1
            go_enter Try.func9, Try.ntmps9
            go_wp2_with (first
              | (go_at_call 17; refine (tMay_any _ r.tup).mono ?_; rintro e w1 ⟨rfl, hk1⟩; (first | rw [g0] | rw [g1] | rw [g2] | rw [g3]); have hcf := ((show Blk ((w.alloc (.cells #[.int .i64 r.kind, .int .u32 (r.tup.src.toNat : Nat), .int .u32 (r.tup.dst.toNat : Nat), .int .i64 r.tup.proto, .int .i64 r.tup.sport, .int .i64 r.tup.dport, .int .i64 r.fb, .int .i64 r.fg, .int .i64 r.fs, .int .i64 r.gen, .slice A m c, .int .i64 r.back, .int .i64 r.until_, .int .i64 r.count] 29)).alloc (.cells #[.int .u32 (r.tup.src.toNat : Nat), .int .u32 (r.tup.dst.toNat : Nat), .int .i64 r.tup.proto, .int .i64 r.tup.sport, .int .i64 r.tup.dport, .int .i64 r.fb, .int .i64 r.fg, .int .i64 r.fs] 26)) (w.heap.size + 1) 26 #[.int .u32 (r.tup.src.toNat : Nat), .int .u32 (r.tup.dst.toNat : Nat), .int .i64 r.tup.proto, .int .i64 r.tup.sport, .int .i64 r.tup.dport, .int .i64 r.fb, .int .i64 r.fg, .int .i64 r.fs] from by (repeat (first | (apply Blk.new'; simp; done) | apply Blk.alloc | apply Blk.drew))).kept hk1 (by simp)).cell; have hzf := hk1.size; simp only [World.size_alloc] at hzf; have Hk1 := Lib.hid ((show Kept [] w ((w.alloc (.cells #[.int .i64 r.kind, .int .u32 (r.tup.src.toNat : Nat), .int .u32 (r.tup.dst.toNat : Nat), .int .i64 r.tup.proto, .int .i64 r.tup.sport, .int .i64 r.tup.dport, .int .i64 r.fb, .int .i64 r.fg, .int .i64 r.fs, .int .i64 r.gen, .slice A m c, .int .i64 r.back, .int .i64 r.until_, .int .i64 r.count] 29)).alloc (.cells #[.int .u32 (r.tup.src.toNat : Nat), .int .u32 (r.tup.dst.toNat : Nat), .int .i64 r.tup.proto, .int .i64 r.tup.sport, .int .i64 r.tup.dport, .int .i64 r.fb, .int .i64 r.fg, .int .i64 r.fs] 26)) from by (repeat (first | exact Kept.refl _ _ | apply Kept.alloc | apply Kept.drew))).trans hk1 (by simp)); clear hk1)
              | (go_at_call 18; refine (in_any _ _ _).mono ?_; rintro e w' ⟨rfl, rfl⟩; (first | rw [g0] | rw [g1] | rw [g2] | rw [g3]))
              | (go_at_call 19; refine (time_any _ _).mono ?_; rintro e w' ⟨rfl, rfl⟩; (first | rw [g0] | rw [g1] | rw [g2] | rw [g3])))
            go_ret
            refine ⟨ret_bool (by rw [hp.out]), ?_⟩
            first | exact Hk1.out | (repeat (first | exact Kept.refl _ _ | apply Kept.alloc | apply Kept.drew))
  have b1 : (r.kind == 1) = false := by simp [k1]
  by_cases k2 : r.kind = 2
  · have b2 : (r.kind == 2) = true := by simp [k2]
    cases g0 : mayT r.tup
    · have hp := Lib.hid (show mayR r = false by simp [mayR, k2, g0])
      clear k2
      go_enter Try.func9, Try.ntmps9
      go_wp2_with (first
        | (go_at_call 17; refine (tMay_any _ r.tup).mono ?_; rintro e w1 ⟨rfl, hk1⟩; (first | rw [g0]); have Hk1 := Lib.hid ((show Kept [] w (w.alloc (.cells #[.int .i64 r.kind, .int .u32 (r.tup.src.toNat : Nat), .int .u32 (r.tup.dst.toNat : Nat), .int .i64 r.tup.proto, .int .i64 r.tup.sport, .int .i64 r.tup.dport, .int .i64 r.fb, .int .i64 r.fg, .int .i64 r.fs, .int .i64 r.gen, .slice A m c, .int .i64 r.back, .int .i64 r.until_, .int .i64 r.count] 29)) from by (repeat (first | exact Kept.refl _ _ | apply Kept.alloc | apply Kept.drew))).trans hk1 (by simp)); clear hk1))
      go_ret
      refine ⟨ret_bool (by rw [hp.out]), ?_⟩
      first | exact Hk1.out | (repeat (first | exact Kept.refl _ _ | apply Kept.alloc | apply Kept.drew))
    · have hp := Lib.hid (show mayR r = true by simp [mayR, k2, g0])
      clear k2
      go_enter Try.func9, Try.ntmps9
      go_wp2_with (first
        | (go_at_call 17; refine (tMay_any _ r.tup).mono ?_; rintro e w1 ⟨rfl, hk1⟩; (first | rw [g0]); have Hk1 := Lib.hid ((show Kept [] w (w.alloc (.cells #[.int .i64 r.kind, .int .u32 (r.tup.src.toNat : Nat), .int .u32 (r.tup.dst.toNat : Nat), .int .i64 r.tup.proto, .int .i64 r.tup.sport, .int .i64 r.tup.dport, .int .i64 r.fb, .int .i64 r.fg, .int .i64 r.fs, .int .i64 r.gen, .slice A m c, .int .i64 r.back, .int .i64 r.until_, .int .i64 r.count] 29)) from by (repeat (first | exact Kept.refl _ _ | apply Kept.alloc | apply Kept.drew))).trans hk1 (by simp)); clear hk1))
      go_ret
      refine ⟨ret_bool (by rw [hp.out]), ?_⟩
      first | exact Hk1.out | (repeat (first | exact Kept.refl _ _ | apply Kept.alloc | apply Kept.drew))
  have b2 : (r.kind == 2) = false := by simp [k2]
  by_cases k3 : r.kind = 3
  · have b3 : (r.kind == 3) = true := by simp [k3]
    cases g0 : inB r.gen 1000000
    · have hp := Lib.hid (show mayR r = false by simp [mayR, k3, g0])
      clear k3
      go_enter Try.func9, Try.ntmps9
      go_wp2_with (first
        | (go_at_call 18; refine (in_any _ _ _).mono ?_; rintro e w' ⟨rfl, rfl⟩; (first | rw [g0]))
        | (go_at_call 19; refine (time_any _ _).mono ?_; rintro e w' ⟨rfl, rfl⟩; (first | rw [g0]))
        | (go_at_call 20; refine (contains_any _ r.backs (BkArr.kept H.out.1 ((Kept.refl [] w).alloc _) (by simp))).mono ?_; rintro e w1 ⟨rfl, hk1⟩; (first | rw [g0]); have Hk1 := Lib.hid (((Kept.refl [] w).alloc (.cells #[.int .i64 r.kind, .int .u32 (r.tup.src.toNat : Nat), .int .u32 (r.tup.dst.toNat : Nat), .int .i64 r.tup.proto, .int .i64 r.tup.sport, .int .i64 r.tup.dport, .int .i64 r.fb, .int .i64 r.fg, .int .i64 r.fs, .int .i64 r.gen, .slice A m c, .int .i64 r.back, .int .i64 r.until_, .int .i64 r.count] 29)).trans hk1 (by simp)); clear hk1))
      go_ret
      refine ⟨ret_bool (by rw [hp.out]), ?_⟩
      first | exact Hk1.out | (repeat (first | exact Kept.refl _ _ | apply Kept.alloc | apply Kept.drew))
    · by_cases g1 : m ≤ 16
      · have g1' := Lib.hid (show r.backs.length ≤ 16 by rw [HL.out]; exact g1)
        cases g2 : r.backs.all mayB
        · have hp := Lib.hid (show mayR r = false by simp [mayR, k3, g0, g1'.out, g2])
          clear k3
          go_enter Try.func9, Try.ntmps9
          go_wp2_with (first
            | (go_at_call 18; refine (in_any _ _ _).mono ?_; rintro e w' ⟨rfl, rfl⟩; (first | rw [g0] | rw [g2]))
            | (go_at_call 19; refine (time_any _ _).mono ?_; rintro e w' ⟨rfl, rfl⟩; (first | rw [g0] | rw [g2]))
            | (go_at_call 20; refine (contains_any _ r.backs (BkArr.kept H.out.1 ((Kept.refl [] w).alloc _) (by simp))).mono ?_; rintro e w1 ⟨rfl, hk1⟩; (first | rw [g0] | rw [g2]); have Hk1 := Lib.hid (((Kept.refl [] w).alloc (.cells #[.int .i64 r.kind, .int .u32 (r.tup.src.toNat : Nat), .int .u32 (r.tup.dst.toNat : Nat), .int .i64 r.tup.proto, .int .i64 r.tup.sport, .int .i64 r.tup.dport, .int .i64 r.fb, .int .i64 r.fg, .int .i64 r.fs, .int .i64 r.gen, .slice A m c, .int .i64 r.back, .int .i64 r.until_, .int .i64 r.count] 29)).trans hk1 (by simp)); clear hk1))
          go_ret
          refine ⟨ret_bool (by rw [hp.out]), ?_⟩
          first | exact Hk1.out | (repeat (first | exact Kept.refl _ _ | apply Kept.alloc | apply Kept.drew))
        · have hp := Lib.hid (show mayR r = true by simp [mayR, k3, g0, g1'.out, g2])
          clear k3
          go_enter Try.func9, Try.ntmps9
          go_wp2_with (first
            | (go_at_call 18; refine (in_any _ _ _).mono ?_; rintro e w' ⟨rfl, rfl⟩; (first | rw [g0] | rw [g2]))
            | (go_at_call 19; refine (time_any _ _).mono ?_; rintro e w' ⟨rfl, rfl⟩; (first | rw [g0] | rw [g2]))
            | (go_at_call 20; refine (contains_any _ r.backs (BkArr.kept H.out.1 ((Kept.refl [] w).alloc _) (by simp))).mono ?_; rintro e w1 ⟨rfl, hk1⟩; (first | rw [g0] | rw [g2]); have Hk1 := Lib.hid (((Kept.refl [] w).alloc (.cells #[.int .i64 r.kind, .int .u32 (r.tup.src.toNat : Nat), .int .u32 (r.tup.dst.toNat : Nat), .int .i64 r.tup.proto, .int .i64 r.tup.sport, .int .i64 r.tup.dport, .int .i64 r.fb, .int .i64 r.fg, .int .i64 r.fs, .int .i64 r.gen, .slice A m c, .int .i64 r.back, .int .i64 r.until_, .int .i64 r.count] 29)).trans hk1 (by simp)); clear hk1))
          go_ret
          refine ⟨ret_bool (by rw [hp.out]), ?_⟩
          first | exact Hk1.out | (repeat (first | exact Kept.refl _ _ | apply Kept.alloc | apply Kept.drew))
      · have g1' := Lib.hid (show ¬ r.backs.length ≤ 16 by rw [HL.out]; exact g1)
        have hp := Lib.hid (show mayR r = false by simp [mayR, k3, g0, g1'.out])
        clear k3
        go_enter Try.func9, Try.ntmps9
        go_wp2_with (first
          | (go_at_call 18; refine (in_any _ _ _).mono ?_; rintro e w' ⟨rfl, rfl⟩; (first | rw [g0]))
          | (go_at_call 19; refine (time_any _ _).mono ?_; rintro e w' ⟨rfl, rfl⟩; (first | rw [g0]))
          | (go_at_call 20; refine (contains_any _ r.backs (BkArr.kept H.out.1 ((Kept.refl [] w).alloc _) (by simp))).mono ?_; rintro e w1 ⟨rfl, hk1⟩; (first | rw [g0]); have Hk1 := Lib.hid (((Kept.refl [] w).alloc (.cells #[.int .i64 r.kind, .int .u32 (r.tup.src.toNat : Nat), .int .u32 (r.tup.dst.toNat : Nat), .int .i64 r.tup.proto, .int .i64 r.tup.sport, .int .i64 r.tup.dport, .int .i64 r.fb, .int .i64 r.fg, .int .i64 r.fs, .int .i64 r.gen, .slice A m c, .int .i64 r.back, .int .i64 r.until_, .int .i64 r.count] 29)).trans hk1 (by simp)); clear hk1))
        go_ret
        refine ⟨ret_bool (by rw [hp.out]), ?_⟩
        first | exact Hk1.out | (repeat (first | exact Kept.refl _ _ | apply Kept.alloc | apply Kept.drew))
  have b3 : (r.kind == 3) = false := by simp [k3]
  by_cases k4 : r.kind = 4
  · have b4 : (r.kind == 4) = true := by simp [k4]
    cases g0 : inB r.back 65535
    · have hp := Lib.hid (show mayR r = false by simp [mayR, k4, g0])
      clear k4
      go_enter Try.func9, Try.ntmps9
      go_wp2_with (first
        | (go_at_call 18; refine (in_any _ _ _).mono ?_; rintro e w' ⟨rfl, rfl⟩; (first | rw [g0]))
        | (go_at_call 19; refine (time_any _ _).mono ?_; rintro e w' ⟨rfl, rfl⟩; (first | rw [g0])))
      go_ret
      refine ⟨ret_bool (by rw [hp.out]), ?_⟩
      first | exact Hk1.out | (repeat (first | exact Kept.refl _ _ | apply Kept.alloc | apply Kept.drew))
    · cases g1 : timeB r.until_
      · have hp := Lib.hid (show mayR r = false by simp [mayR, k4, g0, g1])
        clear k4
        go_enter Try.func9, Try.ntmps9
        go_wp2_with (first
          | (go_at_call 18; refine (in_any _ _ _).mono ?_; rintro e w' ⟨rfl, rfl⟩; (first | rw [g0] | rw [g1]))
          | (go_at_call 19; refine (time_any _ _).mono ?_; rintro e w' ⟨rfl, rfl⟩; (first | rw [g0] | rw [g1])))
        go_ret
        refine ⟨ret_bool (by rw [hp.out]), ?_⟩
        first | exact Hk1.out | (repeat (first | exact Kept.refl _ _ | apply Kept.alloc | apply Kept.drew))
      · have hp := Lib.hid (show mayR r = true by simp [mayR, k4, g0, g1])
        clear k4
        go_enter Try.func9, Try.ntmps9
        go_wp2_with (first
          | (go_at_call 18; refine (in_any _ _ _).mono ?_; rintro e w' ⟨rfl, rfl⟩; (first | rw [g0] | rw [g1]))
          | (go_at_call 19; refine (time_any _ _).mono ?_; rintro e w' ⟨rfl, rfl⟩; (first | rw [g0] | rw [g1])))
        go_ret
        refine ⟨ret_bool (by rw [hp.out]), ?_⟩
        first | exact Hk1.out | (repeat (first | exact Kept.refl _ _ | apply Kept.alloc | apply Kept.drew))
  have b4 : (r.kind == 4) = false := by simp [k4]
  by_cases k5 : r.kind = 5
  · have b5 : (r.kind == 5) = true := by simp [k5]
    cases g0 : inB r.back 65535
    · have hp := Lib.hid (show mayR r = false by simp [mayR, k5, g0])
      clear k5
      go_enter Try.func9, Try.ntmps9
      go_wp2_with (first
        | (go_at_call 18; refine (in_any _ _ _).mono ?_; rintro e w' ⟨rfl, rfl⟩; (first | rw [g0]))
        | (go_at_call 19; refine (time_any _ _).mono ?_; rintro e w' ⟨rfl, rfl⟩; (first | rw [g0])))
      go_ret
      refine ⟨ret_bool (by rw [hp.out]), ?_⟩
      first | exact Hk1.out | (repeat (first | exact Kept.refl _ _ | apply Kept.alloc | apply Kept.drew))
    · have hp := Lib.hid (show mayR r = true by simp [mayR, k5, g0])
      clear k5
      go_enter Try.func9, Try.ntmps9
      go_wp2_with (first
        | (go_at_call 18; refine (in_any _ _ _).mono ?_; rintro e w' ⟨rfl, rfl⟩; (first | rw [g0]))
        | (go_at_call 19; refine (time_any _ _).mono ?_; rintro e w' ⟨rfl, rfl⟩; (first | rw [g0])))
      go_ret
      refine ⟨ret_bool (by rw [hp.out]), ?_⟩
      first | exact Hk1.out | (repeat (first | exact Kept.refl _ _ | apply Kept.alloc | apply Kept.drew))
  have b5 : (r.kind == 5) = false := by simp [k5]
  by_cases k6 : r.kind = 6
  · have b6 : (r.kind == 6) = true := by simp [k6]
    cases g0 : inB r.count 1000000
    · have hp := Lib.hid (show mayR r = false by simp [mayR, k6, g0])
      clear k6
      go_enter Try.func9, Try.ntmps9
      go_wp2_with (first
        | (go_at_call 18; refine (in_any _ _ _).mono ?_; rintro e w' ⟨rfl, rfl⟩; (first | rw [g0]))
        | (go_at_call 19; refine (time_any _ _).mono ?_; rintro e w' ⟨rfl, rfl⟩; (first | rw [g0])))
      go_ret
      refine ⟨ret_bool (by rw [hp.out]), ?_⟩
      first | exact Hk1.out | (repeat (first | exact Kept.refl _ _ | apply Kept.alloc | apply Kept.drew))
    · have hp := Lib.hid (show mayR r = true by simp [mayR, k6, g0])
      clear k6
      go_enter Try.func9, Try.ntmps9
      go_wp2_with (first
        | (go_at_call 18; refine (in_any _ _ _).mono ?_; rintro e w' ⟨rfl, rfl⟩; (first | rw [g0]))
        | (go_at_call 19; refine (time_any _ _).mono ?_; rintro e w' ⟨rfl, rfl⟩; (first | rw [g0])))
      go_ret
      refine ⟨ret_bool (by rw [hp.out]), ?_⟩
      first | exact Hk1.out | (repeat (first | exact Kept.refl _ _ | apply Kept.alloc | apply Kept.drew))
  have b6 : (r.kind == 6) = false := by simp [k6]
  have hp := Lib.hid (show mayR r = false by simp [mayR, k1, k2, k3, k4, k5, k6])
  clear k1 k2 k3 k4 k5 k6
  go_enter Try.func9, Try.ntmps9
  go_wp2
  go_ret
  exact ⟨ret_bool (by rw [hp.out]), (Kept.refl _ _).alloc _⟩
-- MAY ENDS
end Go.Proofs.Ytoibecclilmllaa
