
/-
  The walk of RecordLengths.
-/
import Derived.Test.YtogdpfjbclnlnaaRecY
import Derived.Test.YtogdpfjbclnlnaaRecZ
namespace Go.Proofs.Ytogdpfjbclnlnaa
open Go.RowKit Go.ChangeShapes Go.WideShapes Go.Deep
set_option linter.unusedVariables false

/-- what the law says of a body's length -/
theorem body_lens {r : RecD} (h : mayR r = true) {m : Nat} (hm : r.backs.length = m) :
    (r.kind = 1 ∧ (bodyR r 1).length = 15 ∧ (bodyR r 2).length = 19 ∧ (bodyR r 3).length = 27) ∨ (r.kind = 2 ∧ ∀ v, (bodyR r v).length = 13) ∨
    (r.kind = 3 ∧ m ≤ 16 ∧ (bodyR r 1).length = 5 + 6 * m ∧ (bodyR r 2).length = 5 + 7 * m ∧ (bodyR r 3).length = 5 + 7 * m) ∨ (r.kind = 4 ∧ ∀ v, (bodyR r v).length = 10) ∨ (r.kind = 5 ∧ ∀ v, (bodyR r v).length = 2) ∨ (r.kind = 6 ∧ ∀ v, (bodyR r v).length = 4) := by
  have hk := may_kind h
  have hc : r.kind = 1 ∨ r.kind = 2 ∨ r.kind = 3 ∨ r.kind = 4 ∨ r.kind = 5 ∨ r.kind = 6 := by omega
  rcases hc with k | k | k | k | k | k
  · left
    simp [bodyR, k, tupB_len, u16B_len, u32B_len, i64B_len]
  · right; left
    simp [bodyR, k, tupB_len]
  · right; right; left
    have hl : r.backs.length ≤ 16 := by
      have : (inB r.gen 1000000 && (decide (r.backs.length ≤ 16) && r.backs.all mayB)) = true := by simpa [mayR, k] using h
      simp at this; exact this.2.1
    have b1 := backsB_len 1 r.backs
    have b2 := backsB_len 2 r.backs
    have b3 := backsB_len 3 r.backs
    rw [if_neg (by omega), hm] at b1
    rw [if_pos (by omega), hm] at b2
    rw [if_pos (by omega), hm] at b3
    have e : ∀ v, bodyR r v = u32B r.gen ++ u8B r.backs.length ++ r.backs.flatMap (backB v) := fun v => by simp [bodyR, k]
    refine ⟨k, by omega, ?_, ?_, ?_⟩
    · rw [e, List.length_append, List.length_append, b1, u32B_len, u8B_len]; omega
    · rw [e, List.length_append, List.length_append, b2, u32B_len, u8B_len]; omega
    · rw [e, List.length_append, List.length_append, b3, u32B_len, u8B_len]; omega
  · right; right; right; left
    simp [bodyR, k, u16B_len, i64B_len]
  · right; right; right; right; left
    simp [bodyR, k, u16B_len]
  · right; right; right; right; right
    simp [bodyR, k, u32B_len]

theorem idx4_1 (w : World) (a b c d : Int) : (Instr.index 41 (.agg #[.int .i64 a, .int .i64 b, .int .i64 c, .int .i64 d]) (.int .i64 1)).run Try.prog w = .ok (.int .i64 b) w := by
  have u := Try.underlying41
  have a3 := Try.isAgg3
  have z3 := Try.sizeOf3
  simp [Instr.index, run_underlying u, asIntOf, go_sem, a3, z3]
theorem idx4_2 (w : World) (a b c d : Int) : (Instr.index 41 (.agg #[.int .i64 a, .int .i64 b, .int .i64 c, .int .i64 d]) (.int .i64 2)).run Try.prog w = .ok (.int .i64 c) w := by
  have u := Try.underlying41
  have a3 := Try.isAgg3
  have z3 := Try.sizeOf3
  simp [Instr.index, run_underlying u, asIntOf, go_sem, a3, z3]
theorem idx4_3 (w : World) (a b c d : Int) : (Instr.index 41 (.agg #[.int .i64 a, .int .i64 b, .int .i64 c, .int .i64 d]) (.int .i64 3)).run Try.prog w = .ok (.int .i64 d) w := by
  have u := Try.underlying41
  have a3 := Try.isAgg3
  have z3 := Try.sizeOf3
  simp [Instr.index, run_underlying u, asIntOf, go_sem, a3, z3]
theorem idx7_1 (w : World) (a b c d e f g : Int) : (Instr.index 42 (.agg #[.int .i64 a, .int .i64 b, .int .i64 c, .int .i64 d, .int .i64 e, .int .i64 f, .int .i64 g]) (.int .i64 1)).run Try.prog w = .ok (.int .i64 b) w := by
  have u := Try.underlying42
  have a3 := Try.isAgg3
  have z3 := Try.sizeOf3
  simp [Instr.index, run_underlying u, asIntOf, go_sem, a3, z3]
theorem idx7_2 (w : World) (a b c d e f g : Int) : (Instr.index 42 (.agg #[.int .i64 a, .int .i64 b, .int .i64 c, .int .i64 d, .int .i64 e, .int .i64 f, .int .i64 g]) (.int .i64 2)).run Try.prog w = .ok (.int .i64 c) w := by
  have u := Try.underlying42
  have a3 := Try.isAgg3
  have z3 := Try.sizeOf3
  simp [Instr.index, run_underlying u, asIntOf, go_sem, a3, z3]
theorem idx7_3 (w : World) (a b c d e f g : Int) : (Instr.index 42 (.agg #[.int .i64 a, .int .i64 b, .int .i64 c, .int .i64 d, .int .i64 e, .int .i64 f, .int .i64 g]) (.int .i64 3)).run Try.prog w = .ok (.int .i64 d) w := by
  have u := Try.underlying42
  have a3 := Try.isAgg3
  have z3 := Try.sizeOf3
  simp [Instr.index, run_underlying u, asIntOf, go_sem, a3, z3]
theorem idx7_4 (w : World) (a b c d e f g : Int) : (Instr.index 42 (.agg #[.int .i64 a, .int .i64 b, .int .i64 c, .int .i64 d, .int .i64 e, .int .i64 f, .int .i64 g]) (.int .i64 4)).run Try.prog w = .ok (.int .i64 e) w := by
  have u := Try.underlying42
  have a3 := Try.isAgg3
  have z3 := Try.sizeOf3
  simp [Instr.index, run_underlying u, asIntOf, go_sem, a3, z3]
theorem idx7_5 (w : World) (a b c d e f g : Int) : (Instr.index 42 (.agg #[.int .i64 a, .int .i64 b, .int .i64 c, .int .i64 d, .int .i64 e, .int .i64 f, .int .i64 g]) (.int .i64 5)).run Try.prog w = .ok (.int .i64 f) w := by
  have u := Try.underlying42
  have a3 := Try.isAgg3
  have z3 := Try.sizeOf3
  simp [Instr.index, run_underlying u, asIntOf, go_sem, a3, z3]
theorem idx7_6 (w : World) (a b c d e f g : Int) : (Instr.index 42 (.agg #[.int .i64 a, .int .i64 b, .int .i64 c, .int .i64 d, .int .i64 e, .int .i64 f, .int .i64 g]) (.int .i64 6)).run Try.prog w = .ok (.int .i64 g) w := by
  have u := Try.underlying42
  have a3 := Try.isAgg3
  have z3 := Try.sizeOf3
  simp [Instr.index, run_underlying u, asIntOf, go_sem, a3, z3]

set_option maxHeartbeats 3200000 in
theorem RecordLengths_any (w : World) {A : Option Addr} {m c : Nat} (r : RecD) (v : Int) (h : BkArr w (old w) (.slice A m c) r.backs) :
    Calls Try.prog 4 #[.agg #[.int .i64 r.kind, .int .u32 (r.tup.src.toNat : Nat), .int .u32 (r.tup.dst.toNat : Nat), .int .i64 r.tup.proto, .int .i64 r.tup.sport, .int .i64 r.tup.dport, .int .i64 r.fb, .int .i64 r.fg, .int .i64 r.fs, .int .i64 r.gen, .slice A m c, .int .i64 r.back, .int .i64 r.until_, .int .i64 r.count], .int .i64 v] w fun e w' => e = .returned (.bool true) ∧ Kept [] w w' := by
  have hk0 : Kept [] w (w.alloc (.cells #[.int .i64 r.kind, .int .u32 (r.tup.src.toNat : Nat), .int .u32 (r.tup.dst.toNat : Nat), .int .i64 r.tup.proto, .int .i64 r.tup.sport, .int .i64 r.tup.dport, .int .i64 r.fb, .int .i64 r.fg, .int .i64 r.fs, .int .i64 r.gen, .slice A m c, .int .i64 r.back, .int .i64 r.until_, .int .i64 r.count] 29)) := by (repeat (first | exact Kept.refl _ _ | apply Kept.alloc | apply Kept.drew))
  have Bx := Lib.hid (show Blk (w.alloc (.cells #[.int .i64 r.kind, .int .u32 (r.tup.src.toNat : Nat), .int .u32 (r.tup.dst.toNat : Nat), .int .i64 r.tup.proto, .int .i64 r.tup.sport, .int .i64 r.tup.dport, .int .i64 r.fb, .int .i64 r.fg, .int .i64 r.fs, .int .i64 r.gen, .slice A m c, .int .i64 r.back, .int .i64 r.until_, .int .i64 r.count] 29)) w.heap.size 29 #[.int .i64 r.kind, .int .u32 (r.tup.src.toNat : Nat), .int .u32 (r.tup.dst.toNat : Nat), .int .i64 r.tup.proto, .int .i64 r.tup.sport, .int .i64 r.tup.dport, .int .i64 r.fb, .int .i64 r.fg, .int .i64 r.fs, .int .i64 r.gen, .slice A m c, .int .i64 r.back, .int .i64 r.until_, .int .i64 r.count] from by (repeat (first | (apply Blk.new'; simp; done) | apply Blk.alloc | apply Blk.drew)))
  have HL := Lib.hid h.len.1
  have H := Lib.hid h
  have Hk0 := Lib.hid hk0
  clear h hk0
  by_cases h40 : m ≤ 40
  · have hd : decide (m ≤ 40) = true := by simpa using h40
    have hs : ∀ w', Kept [] w w' → SmallB w' (old w) A m c r.backs := fun w' hk => ⟨BkArr.kept H.out hk (by simp), fun k hk' => Nat.lt_of_lt_of_le (List.mem_range.1 hk') hk.size, by omega⟩
    have Hs := Lib.hid hs
    clear hs
    cases hy : mayR r
    · go_enter Try.func4, Try.ntmps4
      go_wp2_with (first
        | (go_at_call 13; refine (light8_any _ r (BkArr.kept H.out Hk0.out (by simp))).mono ?_; rintro e w1 ⟨rfl, hk1⟩; rw [hd]
           have hcx := (Bx.out.kept hk1 (by simp)).cell
           have Hk1 := Lib.hid (Hk0.out.trans hk1 (by simp))
           clear hk1)
        | (go_at_call 18; refine (May_any _ r (Hs.out _ Hk1.out)).mono ?_; rintro e w2 ⟨rfl, hk2⟩; rw [hy]; clear hcx; have Hk2 := Lib.hid (Hk1.out.trans hk2 (by simp)); clear hk2)
        | (go_at_call 14; refine (awake8_any _).mono ?_; rintro e w3 ⟨rfl, hk3⟩; have Hk3 := Lib.hid (Hk2.out.trans hk3 (by simp)); clear hk3))
      go_ret
      exact ⟨rfl, Hk3.out⟩
    · have hbl := body_lens hy HL.out
      have Hbl := Lib.hid hbl
      clear hbl
      have hw := wrap_u64 v
      have hq3 : ((nat64 v : Nat) : Int) % 3 = 0 ∨ ((nat64 v : Nat) : Int) % 3 = 1 ∨ ((nat64 v : Nat) : Int) % 3 = 2 := by omega
      rcases hq3 with hq | hq | hq
      all_goals
        go_enter Try.func4, Try.ntmps4
        go_wp2_with (first
          | (go_at_call 13; refine (light8_any _ r (BkArr.kept H.out Hk0.out (by simp))).mono ?_; rintro e w1 ⟨rfl, hk1⟩; rw [hd]
             have hcx := (Bx.out.kept hk1 (by simp)).cell
             have Bx1 := Lib.hid (Bx.out.kept hk1 (by simp))
             have Hk1 := Lib.hid (Hk0.out.trans hk1 (by simp))
             clear hk1)
          | (go_at_call 18; refine (May_any _ r (Hs.out _ Hk1.out)).mono ?_; rintro e w2 ⟨rfl, hk2⟩; rw [hy]; clear hcx; have hcy := (Bx1.out.kept hk2 (by simp)).cell
             have Bx2 := Lib.hid (Bx1.out.kept hk2 (by simp)); have Hk2 := Lib.hid (Hk1.out.trans hk2 (by simp)); clear hk2))
        clear hcy hw hq
        refine (Encode_any _ r _ (Hs.out _ Hk2.out) (by omega)).mono ?_
        rintro e w3 ⟨sl, rfl, hn⟩
        first
          | (rw [show encE r 1 = 0 by simp [encE, hy, verB]]; rw [show encF r 1 = ⟨r.kind, 1, bodyR r 1⟩ by simp [encF, hy, verB]] at hn ⊢)
          | (rw [show encE r 2 = 0 by simp [encE, hy, verB]]; rw [show encF r 2 = ⟨r.kind, 2, bodyR r 2⟩ by simp [encF, hy, verB]] at hn ⊢)
          | (rw [show encE r 3 = 0 by simp [encE, hy, verB]]; rw [show encF r 3 = ⟨r.kind, 3, bodyR r 3⟩ by simp [encF, hy, verB]] at hn ⊢)
        dsimp only at hn ⊢
        have hb3 := (Bx2.out.kept hn.2.1 (by simp))
        have hlt3 := hb3.lt
        have Hk3 := Lib.hid (Hk2.out.trans hn.2.1 (by simp))
        have ho3 := hn.1
        clear hn
        rcases Hbl.out with ⟨k, l1, l2, l3⟩ | ⟨k, l⟩ | ⟨k, hm16, l1, l2, l3⟩ | ⟨k, l⟩ | ⟨k, l⟩ | ⟨k, l⟩
        all_goals
          first
            | (simp only [l] at ho3)
            | (simp only [l1] at ho3)
            | (simp only [l2] at ho3)
            | (simp only [l3] at ho3)
          obtain ⟨A3, c3, rfl, -, -⟩ := ho3.form
          clear ho3
          have hcx := fun o => (hb3.alloc o).cell
          clear hb3
          first | clear l | clear l1 l2 l3
          have i4_1 := idx4_1
          have i4_2 := idx4_2
          have i4_3 := idx4_3
          have i7_1 := idx7_1
          have i7_2 := idx7_2
          have i7_3 := idx7_3
          have i7_4 := idx7_4
          have i7_5 := idx7_5
          have i7_6 := idx7_6
          go_wp2
          go_quiet (fail)
          clear i4_1 i4_2 i4_3 i7_1 i7_2 i7_3 i7_4 i7_5 i7_6
          go_wp2_with (go_at_call 14; refine (awake8_any _).mono ?_; rintro e w4 ⟨rfl, hk4⟩; have Hk4 := Lib.hid (((Hk3.out.alloc _).drewN nq).trans hk4 (by simp)); clear hk4)
          go_ret
          exact ⟨rfl, Hk4.out⟩
  · have hd : decide (m ≤ 40) = false := by simpa using h40
    go_enter Try.func4, Try.ntmps4
    go_wp2_with (first
      | (go_at_call 13; refine (light8_any _ r (BkArr.kept H.out Hk0.out (by simp))).mono ?_; rintro e w1 ⟨rfl, hk1⟩; rw [hd]; have Hk1 := Lib.hid (Hk0.out.trans hk1 (by simp)); clear hk1)
      | (go_at_call 14; refine (awake8_any _).mono ?_; rintro e w3 ⟨rfl, hk3⟩; have Hk3 := Lib.hid (Hk1.out.trans hk3 (by simp)); clear hk3))
    go_ret
    exact ⟨rfl, Hk3.out⟩
end Go.Proofs.Ytogdpfjbclnlnaa
