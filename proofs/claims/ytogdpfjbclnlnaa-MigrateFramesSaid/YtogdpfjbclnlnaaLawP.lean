
/-
  The walk of RecordDecodes.
-/
import Derived.Test.YtogdpfjbclnlnaaLawQ0
import Derived.Test.YtogdpfjbclnlnaaRecE
import Derived.Test.YtogdpfjbclnlnaaRecL
import Derived.Test.YtogdpfjbclnlnaaRecT
import Derived.Test.YtogdpfjbclnlnaaNb
import Derived.Test.YtogdpfjbclnlnaaRecZ
import Derived.Test.YtogdpfjbclnlnaaPut
import Derived.Test.YtogdpfjbclnlnaaFrameA
import Derived.Deep.RegionHeld3
import Derived.Deep.DeepCutAuto
import Derived.BigRegion
import Derived.Outline
namespace Go.Proofs.Ytogdpfjbclnlnaa
open Go.RowKit Go.ChangeShapes Go.WideShapes Go.Deep
set_option linter.unusedVariables false

theorem Own.cut {w : World} {e : TypeId} {s n cap j : Nat} {A : Option Addr} {xs : List Value} (h : Own w e s (.slice A n cap) n xs) (hj : j ≤ n) (h0 : 0 < n) : Own w e s (.slice A j cap) j (xs.take (j * s)) := by
  have hl := h.1
  rcases h.2 with ⟨_, h2⟩ | ⟨g, cap', cur, hv, hb, hg, h3, h4, h5, h6⟩
  · omega
  · injection hv with e1 e2 e3
    subst e1 e3
    have hjs : j * s ≤ n * s := Nat.mul_le_mul_right _ hj
    refine ⟨by rw [List.length_take, hl]; omega, .inr ⟨g, cap, cur, rfl, hb, hg, by omega, h4, h5, ?_⟩⟩
    rw [← h6, List.take_take, Nat.min_eq_left hjs]
theorem NB.cut {W w : World} {A : Option Addr} {n cap j : Nat} {bs : List UInt8} (h : NB W w (.slice A n cap) bs) (hn : bs.length = n) (hj : j ≤ n) (h0 : 0 < n) : NB W w (.slice A j cap) (bs.take j) := by
  subst hn
  have hx := Own.cut h.1 hj h0
  have e : (bs.take j).length = j := by rw [List.length_take]; omega
  refine ⟨?_, h.2.1, fun k hk => h.2.2 k (by cases A <;> exact hk)⟩
  rw [e]
  rw [Nat.mul_one] at hx
  have e2 : u8s (bs.take j) = (u8s bs).take j := by simp [u8s, List.map_take]
  rw [e2]; exact hx
theorem NB.set {W w : World} {g n cap : Nat} {bs : List UInt8} (h : NB W w (.slice (some ⟨g, 0, none⟩) n cap) bs) (hn : bs.length = n) (j : Nat) (b : UInt8) {u : Value} (hu : u = .int .u8 b.toNat) :
    NB W (w.setCell ⟨g, j, none⟩ u) (.slice (some ⟨g, 0, none⟩) n cap) (bs.set j b) := by
  subst hn hu
  have := New.set h j b
  unfold NB
  rw [List.length_set]
  exact this
theorem idx2_0 (w : World) (a b c d e f : Value) : (Instr.index 53 (.agg #[a, b, c, d, e, f]) (.int .i64 0)).run Try.prog w = .ok (.agg #[a, b, c]) w := by kernel_rfl
theorem idx2_1 (w : World) (a b c d e f : Value) : (Instr.index 53 (.agg #[a, b, c, d, e, f]) (.int .i64 1)).run Try.prog w = .ok (.agg #[d, e, f]) w := by kernel_rfl
theorem cut_bd (cut : Int) (N : Nat) (h : 0 < N) : nat64 cut % 3 * (nat64 cut % N) / 2 < N := by
  have h1 : nat64 cut % 3 ≤ 2 := by omega
  have h2 : nat64 cut % N < N := Nat.mod_lt _ h
  generalize nat64 cut % 3 = a at *
  generalize nat64 cut % N = b at *
  have : a * b ≤ 2 * b := Nat.mul_le_mul_right _ h1
  omega
set_option maxHeartbeats 12800000 in
set_option maxRecDepth 100000 in
theorem RecordDecodes_1 (w : World) {A : Option Addr} {m c : Nat} {B : Option Addr} {n d : Nat} {C : Option Addr} {q t : Nat} (r : RecD) (v place cut : Int) (xb : UInt8) (more : List UInt8) (f : FrameD) (g1 : ¬ m ≤ 40) (h1 : BkArr w (old w) (.slice A m c) r.backs) (h2 : RdB w (old w) (.slice B n d) f.body) (h3 : RdB w (old w) (.slice C q t) more) :
    Calls Try.prog 10 #[.agg #[.int .i64 r.kind, .int .u32 (r.tup.src.toNat : Nat), .int .u32 (r.tup.dst.toNat : Nat), .int .i64 r.tup.proto, .int .i64 r.tup.sport, .int .i64 r.tup.dport, .int .i64 r.fb, .int .i64 r.fg, .int .i64 r.fs, .int .i64 r.gen, .slice A m c, .int .i64 r.back, .int .i64 r.until_, .int .i64 r.count], .int .i64 v, .int .i64 place, .int .u8 xb.toNat, .int .i64 cut, .slice C q t, .agg #[.int .i64 f.kind, .int .i64 f.ver, .slice B n d]] w fun e w' => e = .returned (.bool true) ∧ Kept [] w w' := by
  have hk0 : Kept [] w ((w.alloc (.cells #[.int .i64 r.kind, .int .u32 (r.tup.src.toNat : Nat), .int .u32 (r.tup.dst.toNat : Nat), .int .i64 r.tup.proto, .int .i64 r.tup.sport, .int .i64 r.tup.dport, .int .i64 r.fb, .int .i64 r.fg, .int .i64 r.fs, .int .i64 r.gen, .slice A m c, .int .i64 r.back, .int .i64 r.until_, .int .i64 r.count] 29)).alloc (.cells #[.int .i64 f.kind, .int .i64 f.ver, .slice B n d] 34)) := by (repeat (first | exact Kept.refl _ _ | apply Kept.alloc | apply Kept.drew))
  have P := Lib.hid (show Blk ((w.alloc (.cells #[.int .i64 r.kind, .int .u32 (r.tup.src.toNat : Nat), .int .u32 (r.tup.dst.toNat : Nat), .int .i64 r.tup.proto, .int .i64 r.tup.sport, .int .i64 r.tup.dport, .int .i64 r.fb, .int .i64 r.fg, .int .i64 r.fs, .int .i64 r.gen, .slice A m c, .int .i64 r.back, .int .i64 r.until_, .int .i64 r.count] 29)).alloc (.cells #[.int .i64 f.kind, .int .i64 f.ver, .slice B n d] 34)) w.heap.size 29 #[.int .i64 r.kind, .int .u32 (r.tup.src.toNat : Nat), .int .u32 (r.tup.dst.toNat : Nat), .int .i64 r.tup.proto, .int .i64 r.tup.sport, .int .i64 r.tup.dport, .int .i64 r.fb, .int .i64 r.fg, .int .i64 r.fs, .int .i64 r.gen, .slice A m c, .int .i64 r.back, .int .i64 r.until_, .int .i64 r.count] from by (repeat (first | (apply Blk.new'; simp; done) | apply Blk.alloc | apply Blk.drew)))
  have Q := Lib.hid (show Blk ((w.alloc (.cells #[.int .i64 r.kind, .int .u32 (r.tup.src.toNat : Nat), .int .u32 (r.tup.dst.toNat : Nat), .int .i64 r.tup.proto, .int .i64 r.tup.sport, .int .i64 r.tup.dport, .int .i64 r.fb, .int .i64 r.fg, .int .i64 r.fs, .int .i64 r.gen, .slice A m c, .int .i64 r.back, .int .i64 r.until_, .int .i64 r.count] 29)).alloc (.cells #[.int .i64 f.kind, .int .i64 f.ver, .slice B n d] 34)) (w.heap.size + 1) 34 #[.int .i64 f.kind, .int .i64 f.ver, .slice B n d] from by (repeat (first | (apply Blk.new'; simp; done) | apply Blk.alloc | apply Blk.drew)))
  have K := Lib.hid hk0
  have H1 := Lib.hid (BkArr.kept h1 (Kept.refl [] w) (by simp))
  have HF := Lib.hid (h2.kept (Kept.refl [] w) (by simp))
  have HM := Lib.hid (h3.kept (Kept.refl [] w) (by simp))
  have Hs1 : Hid (m ≤ 40 → ∀ w', Kept [] w w' → SmallB w' (old w) A m c r.backs) := Lib.hid (fun hm w' hk => ⟨BkArr.kept h1 hk (by simp), fun k hk' => Nat.lt_of_lt_of_le (List.mem_range.1 hk') hk.size, by omega⟩)
  clear h1 h2 h3 hk0
  have d1 : decide (m ≤ 40) = false := by simpa using g1
  go_enter Try.func10, Try.ntmps10
  go_wp2_with (first
    | (go_at_call 13
       go_must (refine (light8_any _ r (BkArr.kept H1.out K.out (by simp))).mono ?_)
       go_must (rintro e w1 ⟨rfl, k1⟩)
       go_must (rw [d1])
       go_must (have P := Lib.hid (P.out.kept k1 (by simp)))
       go_must (have Q := Lib.hid (Q.out.kept k1 (by simp)))
       go_must (have K := Lib.hid (K.out.trans k1 (by simp)))
       go_must (clear k1)
       go_must (have hcx := P.out.cell)
       go_must (have hcy := Q.out.cell))
    | (go_at_call 14
       go_must (refine (awake8_any _).mono ?_)
       go_must (rintro e w99 ⟨rfl, k1⟩)
       go_must (have K := Lib.hid (K.out.trans k1 (by simp)))
       go_must (clear k1)))
  go_ret
  exact ⟨rfl, K.out⟩

set_option maxHeartbeats 12800000 in
set_option maxRecDepth 100000 in
theorem RecordDecodes_2 (w : World) {A : Option Addr} {m c : Nat} {B : Option Addr} {n d : Nat} {C : Option Addr} {q t : Nat} (r : RecD) (v place cut : Int) (xb : UInt8) (more : List UInt8) (f : FrameD) (g1 : m ≤ 40) (g2 : ¬ n ≤ 400) (h1 : BkArr w (old w) (.slice A m c) r.backs) (h2 : RdB w (old w) (.slice B n d) f.body) (h3 : RdB w (old w) (.slice C q t) more) :
    Calls Try.prog 10 #[.agg #[.int .i64 r.kind, .int .u32 (r.tup.src.toNat : Nat), .int .u32 (r.tup.dst.toNat : Nat), .int .i64 r.tup.proto, .int .i64 r.tup.sport, .int .i64 r.tup.dport, .int .i64 r.fb, .int .i64 r.fg, .int .i64 r.fs, .int .i64 r.gen, .slice A m c, .int .i64 r.back, .int .i64 r.until_, .int .i64 r.count], .int .i64 v, .int .i64 place, .int .u8 xb.toNat, .int .i64 cut, .slice C q t, .agg #[.int .i64 f.kind, .int .i64 f.ver, .slice B n d]] w fun e w' => e = .returned (.bool true) ∧ Kept [] w w' := by
  have hk0 : Kept [] w ((w.alloc (.cells #[.int .i64 r.kind, .int .u32 (r.tup.src.toNat : Nat), .int .u32 (r.tup.dst.toNat : Nat), .int .i64 r.tup.proto, .int .i64 r.tup.sport, .int .i64 r.tup.dport, .int .i64 r.fb, .int .i64 r.fg, .int .i64 r.fs, .int .i64 r.gen, .slice A m c, .int .i64 r.back, .int .i64 r.until_, .int .i64 r.count] 29)).alloc (.cells #[.int .i64 f.kind, .int .i64 f.ver, .slice B n d] 34)) := by (repeat (first | exact Kept.refl _ _ | apply Kept.alloc | apply Kept.drew))
  have P := Lib.hid (show Blk ((w.alloc (.cells #[.int .i64 r.kind, .int .u32 (r.tup.src.toNat : Nat), .int .u32 (r.tup.dst.toNat : Nat), .int .i64 r.tup.proto, .int .i64 r.tup.sport, .int .i64 r.tup.dport, .int .i64 r.fb, .int .i64 r.fg, .int .i64 r.fs, .int .i64 r.gen, .slice A m c, .int .i64 r.back, .int .i64 r.until_, .int .i64 r.count] 29)).alloc (.cells #[.int .i64 f.kind, .int .i64 f.ver, .slice B n d] 34)) w.heap.size 29 #[.int .i64 r.kind, .int .u32 (r.tup.src.toNat : Nat), .int .u32 (r.tup.dst.toNat : Nat), .int .i64 r.tup.proto, .int .i64 r.tup.sport, .int .i64 r.tup.dport, .int .i64 r.fb, .int .i64 r.fg, .int .i64 r.fs, .int .i64 r.gen, .slice A m c, .int .i64 r.back, .int .i64 r.until_, .int .i64 r.count] from by (repeat (first | (apply Blk.new'; simp; done) | apply Blk.alloc | apply Blk.drew)))
  have Q := Lib.hid (show Blk ((w.alloc (.cells #[.int .i64 r.kind, .int .u32 (r.tup.src.toNat : Nat), .int .u32 (r.tup.dst.toNat : Nat), .int .i64 r.tup.proto, .int .i64 r.tup.sport, .int .i64 r.tup.dport, .int .i64 r.fb, .int .i64 r.fg, .int .i64 r.fs, .int .i64 r.gen, .slice A m c, .int .i64 r.back, .int .i64 r.until_, .int .i64 r.count] 29)).alloc (.cells #[.int .i64 f.kind, .int .i64 f.ver, .slice B n d] 34)) (w.heap.size + 1) 34 #[.int .i64 f.kind, .int .i64 f.ver, .slice B n d] from by (repeat (first | (apply Blk.new'; simp; done) | apply Blk.alloc | apply Blk.drew)))
  have K := Lib.hid hk0
  have H1 := Lib.hid (BkArr.kept h1 (Kept.refl [] w) (by simp))
  have HF := Lib.hid (h2.kept (Kept.refl [] w) (by simp))
  have HM := Lib.hid (h3.kept (Kept.refl [] w) (by simp))
  have Hs1 : Hid (m ≤ 40 → ∀ w', Kept [] w w' → SmallB w' (old w) A m c r.backs) := Lib.hid (fun hm w' hk => ⟨BkArr.kept h1 hk (by simp), fun k hk' => Nat.lt_of_lt_of_le (List.mem_range.1 hk') hk.size, by omega⟩)
  clear h1 h2 h3 hk0
  have d1 : decide (m ≤ 40) = true := by simpa using g1
  have hnf : (400 : Int) < n := by omega
  go_enter Try.func10, Try.ntmps10
  go_wp2_with (first
    | (go_at_call 13
       go_must (refine (light8_any _ r (BkArr.kept H1.out K.out (by simp))).mono ?_)
       go_must (rintro e w1 ⟨rfl, k1⟩)
       go_must (rw [d1])
       go_must (have P := Lib.hid (P.out.kept k1 (by simp)))
       go_must (have Q := Lib.hid (Q.out.kept k1 (by simp)))
       go_must (have K := Lib.hid (K.out.trans k1 (by simp)))
       go_must (clear k1)
       go_must (have hcx := P.out.cell)
       go_must (have hcy := Q.out.cell))
    | (go_at_call 14
       go_must (refine (awake8_any _).mono ?_)
       go_must (rintro e w99 ⟨rfl, k1⟩)
       go_must (have K := Lib.hid (K.out.trans k1 (by simp)))
       go_must (clear k1)))
  go_ret
  exact ⟨rfl, K.out⟩

set_option maxHeartbeats 12800000 in
set_option maxRecDepth 100000 in
theorem RecordDecodes_3 (w : World) {A : Option Addr} {m c : Nat} {B : Option Addr} {n d : Nat} {C : Option Addr} {q t : Nat} (r : RecD) (v place cut : Int) (xb : UInt8) (more : List UInt8) (f : FrameD) (g1 : m ≤ 40) (g2 : n ≤ 400) (g3 : ¬ q ≤ 50) (h1 : BkArr w (old w) (.slice A m c) r.backs) (h2 : RdB w (old w) (.slice B n d) f.body) (h3 : RdB w (old w) (.slice C q t) more) :
    Calls Try.prog 10 #[.agg #[.int .i64 r.kind, .int .u32 (r.tup.src.toNat : Nat), .int .u32 (r.tup.dst.toNat : Nat), .int .i64 r.tup.proto, .int .i64 r.tup.sport, .int .i64 r.tup.dport, .int .i64 r.fb, .int .i64 r.fg, .int .i64 r.fs, .int .i64 r.gen, .slice A m c, .int .i64 r.back, .int .i64 r.until_, .int .i64 r.count], .int .i64 v, .int .i64 place, .int .u8 xb.toNat, .int .i64 cut, .slice C q t, .agg #[.int .i64 f.kind, .int .i64 f.ver, .slice B n d]] w fun e w' => e = .returned (.bool true) ∧ Kept [] w w' := by
  have hk0 : Kept [] w ((w.alloc (.cells #[.int .i64 r.kind, .int .u32 (r.tup.src.toNat : Nat), .int .u32 (r.tup.dst.toNat : Nat), .int .i64 r.tup.proto, .int .i64 r.tup.sport, .int .i64 r.tup.dport, .int .i64 r.fb, .int .i64 r.fg, .int .i64 r.fs, .int .i64 r.gen, .slice A m c, .int .i64 r.back, .int .i64 r.until_, .int .i64 r.count] 29)).alloc (.cells #[.int .i64 f.kind, .int .i64 f.ver, .slice B n d] 34)) := by (repeat (first | exact Kept.refl _ _ | apply Kept.alloc | apply Kept.drew))
  have P := Lib.hid (show Blk ((w.alloc (.cells #[.int .i64 r.kind, .int .u32 (r.tup.src.toNat : Nat), .int .u32 (r.tup.dst.toNat : Nat), .int .i64 r.tup.proto, .int .i64 r.tup.sport, .int .i64 r.tup.dport, .int .i64 r.fb, .int .i64 r.fg, .int .i64 r.fs, .int .i64 r.gen, .slice A m c, .int .i64 r.back, .int .i64 r.until_, .int .i64 r.count] 29)).alloc (.cells #[.int .i64 f.kind, .int .i64 f.ver, .slice B n d] 34)) w.heap.size 29 #[.int .i64 r.kind, .int .u32 (r.tup.src.toNat : Nat), .int .u32 (r.tup.dst.toNat : Nat), .int .i64 r.tup.proto, .int .i64 r.tup.sport, .int .i64 r.tup.dport, .int .i64 r.fb, .int .i64 r.fg, .int .i64 r.fs, .int .i64 r.gen, .slice A m c, .int .i64 r.back, .int .i64 r.until_, .int .i64 r.count] from by (repeat (first | (apply Blk.new'; simp; done) | apply Blk.alloc | apply Blk.drew)))
  have Q := Lib.hid (show Blk ((w.alloc (.cells #[.int .i64 r.kind, .int .u32 (r.tup.src.toNat : Nat), .int .u32 (r.tup.dst.toNat : Nat), .int .i64 r.tup.proto, .int .i64 r.tup.sport, .int .i64 r.tup.dport, .int .i64 r.fb, .int .i64 r.fg, .int .i64 r.fs, .int .i64 r.gen, .slice A m c, .int .i64 r.back, .int .i64 r.until_, .int .i64 r.count] 29)).alloc (.cells #[.int .i64 f.kind, .int .i64 f.ver, .slice B n d] 34)) (w.heap.size + 1) 34 #[.int .i64 f.kind, .int .i64 f.ver, .slice B n d] from by (repeat (first | (apply Blk.new'; simp; done) | apply Blk.alloc | apply Blk.drew)))
  have K := Lib.hid hk0
  have H1 := Lib.hid (BkArr.kept h1 (Kept.refl [] w) (by simp))
  have HF := Lib.hid (h2.kept (Kept.refl [] w) (by simp))
  have HM := Lib.hid (h3.kept (Kept.refl [] w) (by simp))
  have Hs1 : Hid (m ≤ 40 → ∀ w', Kept [] w w' → SmallB w' (old w) A m c r.backs) := Lib.hid (fun hm w' hk => ⟨BkArr.kept h1 hk (by simp), fun k hk' => Nat.lt_of_lt_of_le (List.mem_range.1 hk') hk.size, by omega⟩)
  clear h1 h2 h3 hk0
  have d1 : decide (m ≤ 40) = true := by simpa using g1
  have hnf : (n : Int) ≤ 400 := by omega
  have hnq : (50 : Int) < q := by omega
  go_enter Try.func10, Try.ntmps10
  go_wp2_with (first
    | (go_at_call 13
       go_must (refine (light8_any _ r (BkArr.kept H1.out K.out (by simp))).mono ?_)
       go_must (rintro e w1 ⟨rfl, k1⟩)
       go_must (rw [d1])
       go_must (have P := Lib.hid (P.out.kept k1 (by simp)))
       go_must (have Q := Lib.hid (Q.out.kept k1 (by simp)))
       go_must (have K := Lib.hid (K.out.trans k1 (by simp)))
       go_must (clear k1)
       go_must (have hcx := P.out.cell)
       go_must (have hcy := Q.out.cell))
    | (go_at_call 14
       go_must (refine (awake8_any _).mono ?_)
       go_must (rintro e w99 ⟨rfl, k1⟩)
       go_must (have K := Lib.hid (K.out.trans k1 (by simp)))
       go_must (clear k1)))
  go_ret
  exact ⟨rfl, K.out⟩

set_option maxHeartbeats 12800000 in
set_option maxRecDepth 100000 in
theorem RecordDecodes_4 (w : World) {A : Option Addr} {m c : Nat} {B : Option Addr} {n d : Nat} {C : Option Addr} {q t : Nat} (r : RecD) (v place cut : Int) (xb : UInt8) (more : List UInt8) (f : FrameD) (g1 : m ≤ 40) (g2 : n ≤ 400) (g3 : q ≤ 50) (h1 : BkArr w (old w) (.slice A m c) r.backs) (h2 : RdB w (old w) (.slice B n d) f.body) (h3 : RdB w (old w) (.slice C q t) more) :
    Calls Try.prog 10 #[.agg #[.int .i64 r.kind, .int .u32 (r.tup.src.toNat : Nat), .int .u32 (r.tup.dst.toNat : Nat), .int .i64 r.tup.proto, .int .i64 r.tup.sport, .int .i64 r.tup.dport, .int .i64 r.fb, .int .i64 r.fg, .int .i64 r.fs, .int .i64 r.gen, .slice A m c, .int .i64 r.back, .int .i64 r.until_, .int .i64 r.count], .int .i64 v, .int .i64 place, .int .u8 xb.toNat, .int .i64 cut, .slice C q t, .agg #[.int .i64 f.kind, .int .i64 f.ver, .slice B n d]] w fun e w' => e = .returned (.bool true) ∧ Kept [] w w' := by
  have hk0 : Kept [] w ((w.alloc (.cells #[.int .i64 r.kind, .int .u32 (r.tup.src.toNat : Nat), .int .u32 (r.tup.dst.toNat : Nat), .int .i64 r.tup.proto, .int .i64 r.tup.sport, .int .i64 r.tup.dport, .int .i64 r.fb, .int .i64 r.fg, .int .i64 r.fs, .int .i64 r.gen, .slice A m c, .int .i64 r.back, .int .i64 r.until_, .int .i64 r.count] 29)).alloc (.cells #[.int .i64 f.kind, .int .i64 f.ver, .slice B n d] 34)) := by (repeat (first | exact Kept.refl _ _ | apply Kept.alloc | apply Kept.drew))
  have P := Lib.hid (show Blk ((w.alloc (.cells #[.int .i64 r.kind, .int .u32 (r.tup.src.toNat : Nat), .int .u32 (r.tup.dst.toNat : Nat), .int .i64 r.tup.proto, .int .i64 r.tup.sport, .int .i64 r.tup.dport, .int .i64 r.fb, .int .i64 r.fg, .int .i64 r.fs, .int .i64 r.gen, .slice A m c, .int .i64 r.back, .int .i64 r.until_, .int .i64 r.count] 29)).alloc (.cells #[.int .i64 f.kind, .int .i64 f.ver, .slice B n d] 34)) w.heap.size 29 #[.int .i64 r.kind, .int .u32 (r.tup.src.toNat : Nat), .int .u32 (r.tup.dst.toNat : Nat), .int .i64 r.tup.proto, .int .i64 r.tup.sport, .int .i64 r.tup.dport, .int .i64 r.fb, .int .i64 r.fg, .int .i64 r.fs, .int .i64 r.gen, .slice A m c, .int .i64 r.back, .int .i64 r.until_, .int .i64 r.count] from by (repeat (first | (apply Blk.new'; simp; done) | apply Blk.alloc | apply Blk.drew)))
  have Q := Lib.hid (show Blk ((w.alloc (.cells #[.int .i64 r.kind, .int .u32 (r.tup.src.toNat : Nat), .int .u32 (r.tup.dst.toNat : Nat), .int .i64 r.tup.proto, .int .i64 r.tup.sport, .int .i64 r.tup.dport, .int .i64 r.fb, .int .i64 r.fg, .int .i64 r.fs, .int .i64 r.gen, .slice A m c, .int .i64 r.back, .int .i64 r.until_, .int .i64 r.count] 29)).alloc (.cells #[.int .i64 f.kind, .int .i64 f.ver, .slice B n d] 34)) (w.heap.size + 1) 34 #[.int .i64 f.kind, .int .i64 f.ver, .slice B n d] from by (repeat (first | (apply Blk.new'; simp; done) | apply Blk.alloc | apply Blk.drew)))
  have K := Lib.hid hk0
  have H1 := Lib.hid (BkArr.kept h1 (Kept.refl [] w) (by simp))
  have HF := Lib.hid (h2.kept (Kept.refl [] w) (by simp))
  have HM := Lib.hid (h3.kept (Kept.refl [] w) (by simp))
  have Hs1 : Hid (m ≤ 40 → ∀ w', Kept [] w w' → SmallB w' (old w) A m c r.backs) := Lib.hid (fun hm w' hk => ⟨BkArr.kept h1 hk (by simp), fun k hk' => Nat.lt_of_lt_of_le (List.mem_range.1 hk') hk.size, by omega⟩)
  clear h1 h2 h3 hk0
  have d1 : decide (m ≤ 40) = true := by simpa using g1
  have hnf : (n : Int) ≤ 400 := by omega
  have hnq : (q : Int) ≤ 50 := by omega
  obtain ⟨g, hg⟩ : ∃ g, encF r v = g := ⟨_, rfl⟩
  have hgl : g.body.length ≤ 200 := by
    rw [← hg]
    by_cases hh : verB v = true ∧ mayR r = true
    · rw [encF_yes hh.1 hh.2]; exact bodyR_len hh.2 v
    · unfold encF; rw [if_neg hh]; exact Nat.zero_le _
  obtain ⟨N, hN⟩ : ∃ N, g.body.length = N := ⟨_, rfl⟩
  rw [hN] at hgl
  have EF := Lib.hid hg
  have HN := Lib.hid hN
  clear hg hN
  go_enter Try.func10, Try.ntmps10
  go_upto_if 49 with (first
    | (go_at_call 13
       go_must (refine (light8_any _ r (BkArr.kept H1.out K.out (by simp))).mono ?_)
       go_must (rintro e w1 ⟨rfl, k1⟩)
       go_must (rw [d1])
       go_must (have P := Lib.hid (P.out.kept k1 (by simp)))
       go_must (have Q := Lib.hid (Q.out.kept k1 (by simp)))
       go_must (have K := Lib.hid (K.out.trans k1 (by simp)))
       go_must (clear k1)
       go_must (have hcx := P.out.cell)
       go_must (have hcy := Q.out.cell))
    | (go_at_call 16
       with_reducible refine (rEncode_any _ r v (Hs1.out g1 _ K.out)).mono ?_
       go_must (rintro e w2 ⟨sl, rfl, hn⟩)
       go_must (rw [EF.out] at hn ⊢)
       go_must (have hlw := hn.2.1.size)
       go_must (have hlb := hn.len)
       go_must (obtain ⟨A2, c2, rfl, hcA, hcB⟩ := hn.1.form)
       go_must (rw [HN.out] at hcA ⊢)
       go_must (have NN := Lib.hid (show NB w1 w2 (.slice A2 N c2) g.body by rw [← HN.out]; exact hn))
       go_must (have NN := Lib.hid (NN.out.wide K.out))
       go_must (have hkn := NN.out.kept)
       go_must (have hkn := hn.2.1)
       go_must (clear hn hlb)
       go_must (have P := Lib.hid (P.out.kept hkn (by simp)))
       go_must (have Q := Lib.hid (Q.out.kept hkn (by simp)))
       go_must (have K := Lib.hid (K.out.trans hkn (by simp)))
       go_must (clear hkn hcx hcy)
       go_must (have hlq := Q.out.lt)
       go_must (unfold maxLen at hcB)))
  go_cut [] (fun wx => ∃ A3 j c3, ∃ bs : List UInt8, Blk wx w2.heap.size 34 #[.int .i64 g.kind, .int .i64 g.ver, .slice A3 j c3] ∧ NB w wx (.slice A3 j c3) bs ∧ bs.length = j ∧ j ≤ 200 ∧ (c3 : Int) ≤ 9223372036854775807 ∧ Blk wx w.heap.size 29 #[.int .i64 r.kind, .int .u32 (r.tup.src.toNat : Nat), .int .u32 (r.tup.dst.toNat : Nat), .int .i64 r.tup.proto, .int .i64 r.tup.sport, .int .i64 r.tup.dport, .int .i64 r.fb, .int .i64 r.fg, .int .i64 r.fs, .int .i64 r.gen, .slice A m c, .int .i64 r.back, .int .i64 r.until_, .int .i64 r.count] ∧ Blk wx (w.heap.size + 1) 34 #[.int .i64 f.kind, .int .i64 f.ver, .slice B n d] ∧ Kept [] w wx)
  case first =>
    have hka : Kept [] w2 (w2.alloc (.cells #[.int .i64 g.kind, .int .i64 g.ver, .slice A2 N c2] 34)) := (Kept.refl [] _).alloc _
    have Y := Lib.hid (show Blk (w2.alloc (.cells #[.int .i64 g.kind, .int .i64 g.ver, .slice A2 N c2] 34)) w2.heap.size 34 #[.int .i64 g.kind, .int .i64 g.ver, .slice A2 N c2] from by (repeat (first | (apply Blk.new'; simp; done) | apply Blk.alloc | apply Blk.drew)))
    have NN := Lib.hid (NN.out.go hka)
    have P := Lib.hid (P.out.kept hka (by simp))
    have Q := Lib.hid (Q.out.kept hka (by simp))
    have K := Lib.hid (K.out.trans hka (by simp))
    have hlY := Y.out.lt
    clear hka
    by_cases h0 : N = 0
    · have i0 : ¬ (0 : Int) < (N : Int) := by omega
      clear h0
      go_wp2
      go_meet
      case rel => exact ⟨_, _, _, _, Y.out, NN.out, HN.out, hgl, by omega, P.out, Q.out, K.out⟩
    · have hpos : 0 < N := by omega
      have i0 : (0 : Int) < (N : Int) := by omega
      obtain ⟨gb, rfl⟩ : ∃ gb, A2 = some ⟨gb, 0, none⟩ := by
        rcases NN.out.1.2 with ⟨h1, h2⟩ | ⟨g', cap', cur, h1, _⟩
        · rw [HN.out] at h2; omega
        · injection h1 with e1 e2 e3; exact ⟨g', e1⟩
      have hgb : gb < w2.heap.size := by
        have := NN.out.1.lt gb (by simp [rowOf, Value.ownBlock])
        have h2 := NN.out.1.ne_blk Y.out (by decide)
        simp [rowOf, Value.ownBlock] at this h2
        omega
      have hgw : w.heap.size ≤ gb := NN.out.2.2 gb (by simp [rowOf, Value.ownBlock])
      have hgP : ¬ w.heap.size = gb := by have := NN.out.1.ne_blk P.out (by decide); simpa [rowOf, Value.ownBlock, eq_comm] using this
      have hgQ : ¬ w.heap.size + 1 = gb := by have := NN.out.1.ne_blk Q.out (by decide); simpa [rowOf, Value.ownBlock, eq_comm] using this
      obtain ⟨i, hi⟩ : ∃ i, nat64 place % N = i := ⟨_, rfl⟩
      have hiN : i < N := by rw [← hi]; exact Nat.mod_lt _ hpos
      have hw1 := wrap_u64 place
      have hw2 := wrap_u64 (N : Int)
      rw [nat64_small N (by omega)] at hw2
      have hw3 : ((nat64 place : Nat) : Int) % (N : Int) = (i : Int) := by rw [← hi]; simp
      obtain ⟨b, hb⟩ : ∃ b, g.body[i]? = some b := ⟨_, List.getElem?_eq_getElem (by rw [HN.out]; exact hiN)⟩
      have hub : (u8s g.body)[i]? = some (.int .u8 (b.toNat : Int)) := by simp [u8s, hb, u8v]
      have hown := NN.out.1
      rw [HN.out] at hown
      have hcell := hown.cellAt i (by omega)
      have hfz := hown.frozenAt i
      clear hown
      rw [hub] at hcell
      have hxr := xor_u8 b xb
      have ii0 : (0 : Int) ≤ (i : Int) := by omega
      have ii1 : (i : Int) < (N : Int) := by omega
      have hN0 : ((N : Int) == 0) = false := by simp; omega
      clear hi hb hub
      have hcy := Y.out.cell
      generalize (w2.alloc (.cells #[.int .i64 g.kind, .int .i64 g.ver, .slice (some ⟨gb, 0, none⟩) N c2] 34)) = wa at *
      go_upto_region 6 with fail
      go_cut [] (fun wx => Blk wx w2.heap.size 34 #[.int .i64 g.kind, .int .i64 g.ver, .slice (some ⟨gb, 0, none⟩) N c2] ∧ NB w wx (.slice (some ⟨gb, 0, none⟩) N c2) (g.body.set i (b ^^^ xb)) ∧ Blk wx w.heap.size 29 #[.int .i64 r.kind, .int .u32 (r.tup.src.toNat : Nat), .int .u32 (r.tup.dst.toNat : Nat), .int .i64 r.tup.proto, .int .i64 r.tup.sport, .int .i64 r.tup.dport, .int .i64 r.fb, .int .i64 r.fg, .int .i64 r.fs, .int .i64 r.gen, .slice A m c, .int .i64 r.back, .int .i64 r.until_, .int .i64 r.count] ∧ Blk wx (w.heap.size + 1) 34 #[.int .i64 f.kind, .int .i64 f.ver, .slice B n d] ∧ Kept [] w wx)
      case first =>
        go_region
        all_goals
          go_wp2
          go_meet
          case rel => exact ⟨Y.out.drew.far (by simp; omega) _, (NN.out.go ((Kept.refl [] _).drew)).set HN.out i (b ^^^ xb) (by simp), P.out.drew.far (by simp; omega) _, Q.out.drew.far (by simp; omega) _, K.out.drew.setCell (.inr (by simp; omega)) _⟩
      case rest =>
        obtain ⟨hY, hNN, hP, hQ, hK⟩ := hcut
        clear hcell hfz hxr hw3 ii0 ii1 hw1 hcy
        have Y := Lib.hid hY
        have NN := Lib.hid hNN
        have P := Lib.hid hP
        have Q := Lib.hid hQ
        have K := Lib.hid hK
        clear hY hNN hP hQ hK
        obtain ⟨bs, hbs⟩ : ∃ bs, g.body.set i (b ^^^ xb) = bs := ⟨_, rfl⟩
        have NN := Lib.hid (hbs ▸ NN.out)
        have HL := Lib.hid (show bs.length = N by rw [← hbs, List.length_set, HN.out])
        clear hbs
        obtain ⟨a, ha⟩ : ∃ a, nat64 cut % 3 = a := ⟨_, rfl⟩
        obtain ⟨z, hz⟩ : ∃ z, nat64 cut % N = z := ⟨_, rfl⟩
        have hbd := cut_bd cut N hpos
        rw [ha, hz] at hbd
        have ha2 : a ≤ 2 := by rw [← ha]; omega
        have hzN : z < N := by rw [← hz]; exact Nat.mod_lt _ hpos
        obtain ⟨y, hy⟩ : ∃ y, a * z = y := ⟨_, rfl⟩
        have hy2 : y ≤ 400 := by
          rw [← hy]
          exact Nat.le_trans (Nat.mul_le_mul ha2 (Nat.le_of_lt hzN)) (by omega)
        rw [hy] at hbd
        have hw1 := wrap_u64 cut
        have hw3 : ((nat64 cut : Nat) : Int) % 3 = (a : Int) := by rw [← ha]; simp
        have hw4 : ((nat64 cut : Nat) : Int) % (N : Int) = (z : Int) := by rw [← hz]; simp
        have hw5 : (a : Int) * (z : Int) = (y : Int) := by rw [← hy]; simp
        obtain ⟨j, hj⟩ : ∃ j, N - y / 2 = j := ⟨_, rfl⟩
        have hw6 : (N : Int) - (y : Int) / 2 = (j : Int) := by omega
        have hjN : j ≤ N := by omega
        have hj0 : (0 : Int) ≤ (j : Int) := by omega
        have hjc : (j : Int) ≤ (c2 : Int) := by omega
        have hy0 : (0 : Int) ≤ (y : Int) := by omega
        clear ha hz hy hj hbd
        go_upto_region 7 with fail
        have hcy := Y.out.cell
        have hfy := Y.out.frozen
        go_region
        all_goals
          go_wp2
          go_meet
          case rel => exact ⟨_, _, _, _, Y.out.drew.set 2 _, ((NN.out.go ((Kept.refl [] _).drew)).cut HL.out hjN hpos).other ((Kept.refl [w2.heap.size] _).setCell (.inl (by simp)) _) (by simp [rowOf, Value.ownBlock]; omega) (by simp; omega), by rw [List.length_take, HL.out]; omega, by omega, by omega, P.out.drew.far (by simp; omega) _, Q.out.drew.far (by simp; omega) _, K.out.drew.setCell (.inr (by simp; omega)) _⟩
  case rest =>
    obtain ⟨A3, j, c3, bs, hY, hNN, hL, hj, hcB, hP, hQ, hK⟩ := hcut
    have Y := Lib.hid hY
    have NN := Lib.hid hNN
    have P := Lib.hid hP
    have Q := Lib.hid hQ
    have K := Lib.hid hK
    have HL := Lib.hid hL
    have HQ := Lib.hid HM.out.len.1
    clear hY hNN hL hP hQ hK
    have hcx := Y.out.cell
    have i2_0 := idx2_0
    have i2_1 := idx2_1
    go_wp2_with (first
      | (at_builtin
         go_must (refine wpList_app _ rfl (.tmp 82) (.tmp 83) 32 rfl elem_u8 (by rfl) (HL.out ▸ NN.out.1) (by rfl) (HM.out.kept K.out (by simp)).rd (by rw [u8s_len, HQ.out, Nat.mul_one]) (u8s_one _) (by unfold maxLen; omega) (by omega) ?_)
         go_must (intro v4 w4 ho hk hr)
         go_must (have hn := NN.out.app ho hk hr)
         go_must (have hap := NN.out.off hk)
         go_must (clear ho hk hr)
         go_must (have NN := Lib.hid hn)
         go_must (obtain ⟨A4, m4, c4, rfl⟩ := NN.out.form)
         go_must (have K := Lib.hid NN.out.kept)
         go_must (have Y := Lib.hid (hap _ _ _ (by decide) (by decide) Y.out))
         go_must (have P := Lib.hid (hap _ _ _ (by decide) (by decide) P.out))
         go_must (have Q := Lib.hid (hap _ _ _ (by decide) (by decide) Q.out))
         go_must (clear hn hap hcx))
      | (with_reducible show wpList _ _ _ ({ dst := none, op := Op.store 32 (.tmp 85) (.tmp 84), type := _, pos := _, after := _, guard := _ } :: _) _ _
         go_must (refine wpList_putAt (t := 34) (v := .slice A4 m4 c4) rfl 32 (.tmp 85) (.tmp 84) rfl (by rfl) (by rfl) Y.out (by simp [Value.cells]) (by kernel_rfl) (by simp [Value.cells, Value.oneCell']) ?_)
         go_must (intro w5 h1 k1)
         go_must (have NN := Lib.hid (NN.out.other k1 (fun k hk hm => by simp at hm; subst hm; exact NN.out.1.ne_blk Y.out (by decide) hk) (by simp; omega)))
         go_must (have Y := Lib.hid (show Blk w5 w2.heap.size 34 #[.int .i64 g.kind, .int .i64 g.ver, .slice A4 m4 c4] from h1))
         go_must (have Q := Lib.hid (Q.out.kept k1 (by simp; omega)))
         go_must (have K := Lib.hid NN.out.kept)
         go_must (clear h1 k1)
         go_must (have hcx := Y.out.cell)
         go_must (have hcq := Q.out.cell)))
    have HLN := Lib.hid (show (bs ++ more).length = m4 from NN.out.rd.len.1)
    have HLM := Lib.hid (show (bs ++ more).length ≤ 250 by rw [List.length_append, HL.out, HQ.out]; omega)
    obtain ⟨bs2, hb2⟩ : ∃ bs2, bs ++ more = bs2 := ⟨_, rfl⟩
    have NN := Lib.hid (hb2 ▸ NN.out)
    have HLN := Lib.hid (hb2 ▸ HLN.out)
    have HLM := Lib.hid (hb2 ▸ HLM.out)
    clear hb2 hcx hcq
    go_loopg [89] 2 (fun g i wr => ∃ k : Nat, k ≤ 2 ∧ g = 2 - k ∧ i = .int .i64 k ∧ NB w wr (.slice A4 m4 c4) bs2 ∧ Kept [] w wr)
    case atStart => exact ⟨0, by omega, by omega, rfl, NN.out, K.out⟩
    case round =>
      obtain ⟨k, hk, rfl, rfl, hNN, hK⟩ := hrel
      have NN := Lib.hid hNN
      have K := Lib.hid hK
      clear hNN hK
      have hk3 : k = 0 ∨ k = 1 ∨ k = 2 := by omega
      rcases hk3 with rfl | rfl | rfl
      · have HX : Hid (∃ G, RdB wr G (.slice A4 m4 c4) (⟨g.kind, g.ver, bs2⟩ : FrameD).body ∧ ∀ k ∈ G, k < wr.heap.size) := Lib.hid ⟨_, NN.out.rd, NN.out.1.lt⟩
        have hmx : m4 ≤ 1000000 := by have h1 := HLN.out; have h2 := HLM.out; omega
        obtain ⟨GX, hX, hGX⟩ := HX.out
        obtain ⟨x, hx⟩ : ∃ x, decR (⟨g.kind, g.ver, bs2⟩ : FrameD) = x := ⟨_, rfl⟩
        obtain ⟨en, hen⟩ : ∃ e, decE (⟨g.kind, g.ver, bs2⟩ : FrameD) = e := ⟨_, rfl⟩
        have hbk : x.backs.length ≤ 17 := by rw [← hx]; exact decR_backs (⟨g.kind, g.ver, bs2⟩ : FrameD)
        have hcs := decE_cases (⟨g.kind, g.ver, bs2⟩ : FrameD)
        rw [hx, hen] at hcs
        have RX := Lib.hid hX
        have GL := Lib.hid hGX
        have EX := Lib.hid hx
        have EE := Lib.hid hen
        have HB := Lib.hid hbk
        have SR := Lib.hid (sameR_refl x)
        clear hX hGX hx hen hbk HX
        rcases hcs with h0 | ⟨h0, hx0⟩
        all_goals
          first
            | (have e0 : (en == 0) = true := by simp [h0]
               have n0 : (en != 0) = false := by simp [h0]
               clear h0)
            | (have e0 : (en == 0) = false := by simp [h0]
               have n0 : (en != 0) = true := by simp [h0]
               have xk : (x.kind == 0) = true := by rw [hx0]; rfl
               have yk : (x.kind != 0) = false := by rw [hx0]; rfl
               clear h0 hx0)
          go_wp2_with (first
            | (go_at_call 33
               go_must (have hka : Kept [] wr (wr.alloc (.cells #[.int .i64 g.kind, .int .i64 g.ver, .slice A4 m4 c4] 34)) := (Kept.refl [] _).alloc _)
               with_reducible refine (Decode_any _ (⟨g.kind, g.ver, bs2⟩ : FrameD) (RX.out.kept hka (by simp)) hmx).mono ?_
               go_must (rintro e w6 ⟨sl, rfl, hS⟩)
               go_must (rw [EX.out] at hS ⊢)
               go_must (rw [EE.out])
               go_must (have hkn := LV.kept hS)
               go_must (have Z := Lib.hid ((show Blk (wr.alloc (.cells #[.int .i64 g.kind, .int .i64 g.ver, .slice A4 m4 c4] 34)) wr.heap.size 34 #[.int .i64 g.kind, .int .i64 g.ver, .slice A4 m4 c4] from by (repeat (first | (apply Blk.new'; simp; done) | apply Blk.alloc | apply Blk.drew))).kept hkn (by simp)))
               go_must (have K := Lib.hid (K.out.trans hka (by simp)))
               go_must (have S := Lib.hid (LV.wide hS K.out))
               go_must (have K := Lib.hid (K.out.trans hkn (by simp)))
               go_must (have NN := Lib.hid ((NN.out.go hka).go hkn))
               go_must (have GL := Lib.hid (fun k hk => Nat.lt_of_lt_of_le (GL.out k hk) (Nat.le_trans hka.size hkn.size)))
               go_must (have RX := Lib.hid ((RX.out.kept hka (by simp)).kept hkn (by simp)))
               go_must (obtain ⟨A6, m6, c6, rfl⟩ := BkV.form S.out)
               go_must (have hlz := Z.out.lt)
               go_must (have hlw := K.out.size)
               go_must (clear hS hka hkn))
            | (with_reducible show wpList _ _ _ ({ dst := none, op := Op.store 29 (.tmp 20) (.tmp 95), type := _, pos := _, after := _, guard := _ } :: _) _ _
               go_must (refine wpList_put (t := 29) rfl 29 (.tmp 20) (.tmp 95) rfl _ (by rfl) (by rfl) (by (repeat (first | (apply Blk.new'; simp; done) | apply Blk.alloc | apply Blk.drew))) (by rfl) (by kernel_rfl) (by simp [Value.oneCell']) ?_)
               go_must (intro w7 h1 k1)
               go_must (have X1 := Lib.hid (show Blk w7 w6.heap.size 29 #[.int .i64 x.kind, .int .u32 (x.tup.src.toNat : Nat), .int .u32 (x.tup.dst.toNat : Nat), .int .i64 x.tup.proto, .int .i64 x.tup.sport, .int .i64 x.tup.dport, .int .i64 x.fb, .int .i64 x.fg, .int .i64 x.fs, .int .i64 x.gen, .slice A6 m6 c6, .int .i64 x.back, .int .i64 x.until_, .int .i64 x.count] from h1))
               go_must (have k2 : Kept [w6.heap.size] w6 w7 := ((Kept.refl _ w6).alloc _).trans k1 (fun i hi => .inl hi))
               go_must (have S := Lib.hid (BkV.far (LV.go BkOk S.out ((Kept.refl [] w6).alloc (.cells #[.int .i64 0, .int .u32 0, .int .u32 0, .int .i64 0, .int .i64 0, .int .i64 0, .int .i64 0, .int .i64 0, .int .i64 0, .int .i64 0, .slice none 0 0, .int .i64 0, .int .i64 0, .int .i64 0] 29))) k1 (by (repeat (first | (apply Blk.new'; simp; done) | apply Blk.alloc | apply Blk.drew))) (by decide) (by omega)))
               go_must (have Z := Lib.hid (Z.out.kept k2 (by simp; omega)))
               go_must (have NN := Lib.hid (NN.out.other k2 (fun k hk hm => by simp at hm; have := NN.out.1.lt k hk; omega) (by simp; omega)))
               go_must (have K := Lib.hid (K.out.trans k2 (fun i hi => .inr (by simp at hi; omega))))
               go_must (have RX := Lib.hid (RX.out.kept k2 (fun k hk hm => by simp at hm; have := GL.out k hk; omega)))
               go_must (have GL := Lib.hid (fun k hk => Nat.lt_of_lt_of_le (GL.out k hk) k2.size))
               go_must (clear h1 k1 k2)
               go_must (have hcz := Z.out.cell))
            | (go_at_call 34
               with_reducible refine (rDecode_any _ (⟨g.kind, g.ver, bs2⟩ : FrameD) RX.out GL.out hmx).mono ?_
               go_must (rintro e w8 ⟨sl, rfl, hS⟩)
               go_must (rw [EX.out] at hS ⊢)
               go_must (rw [EE.out])
               go_must (have hkn := LV.kept hS)
               go_must (have S2 := Lib.hid (LV.wide hS K.out))
               go_must (have S := Lib.hid (LV.go BkOk S.out hkn))
               go_must (have Z := Lib.hid (Z.out.kept hkn (by simp)))
               go_must (have X1 := Lib.hid (X1.out.kept hkn (by simp)))
               go_must (have K := Lib.hid (K.out.trans hkn (by simp)))
               go_must (have NN := Lib.hid (NN.out.go hkn))
               go_must (obtain ⟨A8, m8, c8, rfl⟩ := BkV.form S2.out)
               go_must (have hlx := X1.out.lt)
               go_must (have hlw2 := K.out.size)
               go_must (clear hS hkn hcz))
            | (with_reducible show wpList _ _ _ ({ dst := none, op := Op.store 29 (.tmp 22) (.tmp 100), type := _, pos := _, after := _, guard := _ } :: _) _ _
               go_must (refine wpList_put (t := 29) rfl 29 (.tmp 22) (.tmp 100) rfl _ (by rfl) (by rfl) (by (repeat (first | (apply Blk.new'; simp; done) | apply Blk.alloc | apply Blk.drew))) (by rfl) (by kernel_rfl) (by simp [Value.oneCell']) ?_)
               go_must (intro w9 h1 k1)
               go_must (have X2 := Lib.hid (show Blk w9 w8.heap.size 29 #[.int .i64 x.kind, .int .u32 (x.tup.src.toNat : Nat), .int .u32 (x.tup.dst.toNat : Nat), .int .i64 x.tup.proto, .int .i64 x.tup.sport, .int .i64 x.tup.dport, .int .i64 x.fb, .int .i64 x.fg, .int .i64 x.fs, .int .i64 x.gen, .slice A8 m8 c8, .int .i64 x.back, .int .i64 x.until_, .int .i64 x.count] from h1))
               go_must (have k2 : Kept [w8.heap.size] w8 w9 := ((Kept.refl _ w8).alloc _).trans k1 (fun i hi => .inl hi))
               go_must (have S := Lib.hid (BkV.far (LV.go BkOk S.out ((Kept.refl [] w8).alloc (.cells #[.int .i64 0, .int .u32 0, .int .u32 0, .int .i64 0, .int .i64 0, .int .i64 0, .int .i64 0, .int .i64 0, .int .i64 0, .int .i64 0, .slice none 0 0, .int .i64 0, .int .i64 0, .int .i64 0] 29))) k1 (by (repeat (first | (apply Blk.new'; simp; done) | apply Blk.alloc | apply Blk.drew))) (by decide) (by omega)))
               go_must (have S2 := Lib.hid (BkV.far (LV.go BkOk S2.out ((Kept.refl [] w8).alloc (.cells #[.int .i64 0, .int .u32 0, .int .u32 0, .int .i64 0, .int .i64 0, .int .i64 0, .int .i64 0, .int .i64 0, .int .i64 0, .int .i64 0, .slice none 0 0, .int .i64 0, .int .i64 0, .int .i64 0] 29))) k1 (by (repeat (first | (apply Blk.new'; simp; done) | apply Blk.alloc | apply Blk.drew))) (by decide) (by omega)))
               go_must (have NN := Lib.hid (NN.out.other k2 (fun k hk hm => by simp at hm; have := NN.out.1.lt k hk; omega) (by simp; omega)))
               go_must (have K := Lib.hid (K.out.trans k2 (fun i hi => .inr (by simp at hi; omega))))
               go_must (have X1 := Lib.hid (X1.out.kept k2 (by simp; omega)))
               go_must (clear h1 k1 k2)
               go_must (have hcx1 := X1.out.cell)
               go_must (have hcx2 := X2.out.cell))
            | (go_at_call 23
               go_must (obtain ⟨G1, s1⟩ := BkV.small S.out (by have := HB.out; omega))
               go_must (obtain ⟨G2, s2⟩ := BkV.small S2.out (by have := HB.out; omega))
               go_must (refine (rSameR_any _ x x s1 s2).mono ?_)
               go_must (rintro e w10 ⟨rfl, k1⟩)
               go_must (rw [SR.out])
               go_must (have K := Lib.hid (K.out.trans k1 (by simp)))
               go_must (have NN := Lib.hid (NN.out.go k1))
               go_must (clear k1 s1 s2 hcx1 hcx2)))
          go_roundg (2 - (0 + 1))
          case measure => omega
          case rel => exact ⟨0 + 1, by omega, rfl, by go_num, NN.out, K.out⟩
      · have HX : Hid (∃ G, RdB wr G (.slice B n d) (f : FrameD).body ∧ ∀ k ∈ G, k < wr.heap.size) := Lib.hid ⟨_, (HF.out.kept K.out (by simp)), fun k hk => Nat.lt_of_lt_of_le (List.mem_range.1 hk) K.out.size⟩
        have hmx : n ≤ 1000000 := by omega
        obtain ⟨GX, hX, hGX⟩ := HX.out
        obtain ⟨x, hx⟩ : ∃ x, decR (f : FrameD) = x := ⟨_, rfl⟩
        obtain ⟨en, hen⟩ : ∃ e, decE (f : FrameD) = e := ⟨_, rfl⟩
        have hbk : x.backs.length ≤ 17 := by rw [← hx]; exact decR_backs (f : FrameD)
        have hcs := decE_cases (f : FrameD)
        rw [hx, hen] at hcs
        have RX := Lib.hid hX
        have GL := Lib.hid hGX
        have EX := Lib.hid hx
        have EE := Lib.hid hen
        have HB := Lib.hid hbk
        have SR := Lib.hid (sameR_refl x)
        clear hX hGX hx hen hbk HX
        rcases hcs with h0 | ⟨h0, hx0⟩
        all_goals
          first
            | (have e0 : (en == 0) = true := by simp [h0]
               have n0 : (en != 0) = false := by simp [h0]
               clear h0)
            | (have e0 : (en == 0) = false := by simp [h0]
               have n0 : (en != 0) = true := by simp [h0]
               have xk : (x.kind == 0) = true := by rw [hx0]; rfl
               have yk : (x.kind != 0) = false := by rw [hx0]; rfl
               clear h0 hx0)
          go_wp2_with (first
            | (go_at_call 33
               go_must (have hka : Kept [] wr (wr.alloc (.cells #[.int .i64 f.kind, .int .i64 f.ver, .slice B n d] 34)) := (Kept.refl [] _).alloc _)
               with_reducible refine (Decode_any _ (f : FrameD) (RX.out.kept hka (by simp)) hmx).mono ?_
               go_must (rintro e w6 ⟨sl, rfl, hS⟩)
               go_must (rw [EX.out] at hS ⊢)
               go_must (rw [EE.out])
               go_must (have hkn := LV.kept hS)
               go_must (have Z := Lib.hid ((show Blk (wr.alloc (.cells #[.int .i64 f.kind, .int .i64 f.ver, .slice B n d] 34)) wr.heap.size 34 #[.int .i64 f.kind, .int .i64 f.ver, .slice B n d] from by (repeat (first | (apply Blk.new'; simp; done) | apply Blk.alloc | apply Blk.drew))).kept hkn (by simp)))
               go_must (have K := Lib.hid (K.out.trans hka (by simp)))
               go_must (have S := Lib.hid (LV.wide hS K.out))
               go_must (have K := Lib.hid (K.out.trans hkn (by simp)))
               go_must (have NN := Lib.hid ((NN.out.go hka).go hkn))
               go_must (have GL := Lib.hid (fun k hk => Nat.lt_of_lt_of_le (GL.out k hk) (Nat.le_trans hka.size hkn.size)))
               go_must (have RX := Lib.hid ((RX.out.kept hka (by simp)).kept hkn (by simp)))
               go_must (obtain ⟨A6, m6, c6, rfl⟩ := BkV.form S.out)
               go_must (have hlz := Z.out.lt)
               go_must (have hlw := K.out.size)
               go_must (clear hS hka hkn))
            | (with_reducible show wpList _ _ _ ({ dst := none, op := Op.store 29 (.tmp 20) (.tmp 95), type := _, pos := _, after := _, guard := _ } :: _) _ _
               go_must (refine wpList_put (t := 29) rfl 29 (.tmp 20) (.tmp 95) rfl _ (by rfl) (by rfl) (by (repeat (first | (apply Blk.new'; simp; done) | apply Blk.alloc | apply Blk.drew))) (by rfl) (by kernel_rfl) (by simp [Value.oneCell']) ?_)
               go_must (intro w7 h1 k1)
               go_must (have X1 := Lib.hid (show Blk w7 w6.heap.size 29 #[.int .i64 x.kind, .int .u32 (x.tup.src.toNat : Nat), .int .u32 (x.tup.dst.toNat : Nat), .int .i64 x.tup.proto, .int .i64 x.tup.sport, .int .i64 x.tup.dport, .int .i64 x.fb, .int .i64 x.fg, .int .i64 x.fs, .int .i64 x.gen, .slice A6 m6 c6, .int .i64 x.back, .int .i64 x.until_, .int .i64 x.count] from h1))
               go_must (have k2 : Kept [w6.heap.size] w6 w7 := ((Kept.refl _ w6).alloc _).trans k1 (fun i hi => .inl hi))
               go_must (have S := Lib.hid (BkV.far (LV.go BkOk S.out ((Kept.refl [] w6).alloc (.cells #[.int .i64 0, .int .u32 0, .int .u32 0, .int .i64 0, .int .i64 0, .int .i64 0, .int .i64 0, .int .i64 0, .int .i64 0, .int .i64 0, .slice none 0 0, .int .i64 0, .int .i64 0, .int .i64 0] 29))) k1 (by (repeat (first | (apply Blk.new'; simp; done) | apply Blk.alloc | apply Blk.drew))) (by decide) (by omega)))
               go_must (have Z := Lib.hid (Z.out.kept k2 (by simp; omega)))
               go_must (have NN := Lib.hid (NN.out.other k2 (fun k hk hm => by simp at hm; have := NN.out.1.lt k hk; omega) (by simp; omega)))
               go_must (have K := Lib.hid (K.out.trans k2 (fun i hi => .inr (by simp at hi; omega))))
               go_must (have RX := Lib.hid (RX.out.kept k2 (fun k hk hm => by simp at hm; have := GL.out k hk; omega)))
               go_must (have GL := Lib.hid (fun k hk => Nat.lt_of_lt_of_le (GL.out k hk) k2.size))
               go_must (clear h1 k1 k2)
               go_must (have hcz := Z.out.cell))
            | (go_at_call 34
               with_reducible refine (rDecode_any _ (f : FrameD) RX.out GL.out hmx).mono ?_
               go_must (rintro e w8 ⟨sl, rfl, hS⟩)
               go_must (rw [EX.out] at hS ⊢)
               go_must (rw [EE.out])
               go_must (have hkn := LV.kept hS)
               go_must (have S2 := Lib.hid (LV.wide hS K.out))
               go_must (have S := Lib.hid (LV.go BkOk S.out hkn))
               go_must (have Z := Lib.hid (Z.out.kept hkn (by simp)))
               go_must (have X1 := Lib.hid (X1.out.kept hkn (by simp)))
               go_must (have K := Lib.hid (K.out.trans hkn (by simp)))
               go_must (have NN := Lib.hid (NN.out.go hkn))
               go_must (obtain ⟨A8, m8, c8, rfl⟩ := BkV.form S2.out)
               go_must (have hlx := X1.out.lt)
               go_must (have hlw2 := K.out.size)
               go_must (clear hS hkn hcz))
            | (with_reducible show wpList _ _ _ ({ dst := none, op := Op.store 29 (.tmp 22) (.tmp 100), type := _, pos := _, after := _, guard := _ } :: _) _ _
               go_must (refine wpList_put (t := 29) rfl 29 (.tmp 22) (.tmp 100) rfl _ (by rfl) (by rfl) (by (repeat (first | (apply Blk.new'; simp; done) | apply Blk.alloc | apply Blk.drew))) (by rfl) (by kernel_rfl) (by simp [Value.oneCell']) ?_)
               go_must (intro w9 h1 k1)
               go_must (have X2 := Lib.hid (show Blk w9 w8.heap.size 29 #[.int .i64 x.kind, .int .u32 (x.tup.src.toNat : Nat), .int .u32 (x.tup.dst.toNat : Nat), .int .i64 x.tup.proto, .int .i64 x.tup.sport, .int .i64 x.tup.dport, .int .i64 x.fb, .int .i64 x.fg, .int .i64 x.fs, .int .i64 x.gen, .slice A8 m8 c8, .int .i64 x.back, .int .i64 x.until_, .int .i64 x.count] from h1))
               go_must (have k2 : Kept [w8.heap.size] w8 w9 := ((Kept.refl _ w8).alloc _).trans k1 (fun i hi => .inl hi))
               go_must (have S := Lib.hid (BkV.far (LV.go BkOk S.out ((Kept.refl [] w8).alloc (.cells #[.int .i64 0, .int .u32 0, .int .u32 0, .int .i64 0, .int .i64 0, .int .i64 0, .int .i64 0, .int .i64 0, .int .i64 0, .int .i64 0, .slice none 0 0, .int .i64 0, .int .i64 0, .int .i64 0] 29))) k1 (by (repeat (first | (apply Blk.new'; simp; done) | apply Blk.alloc | apply Blk.drew))) (by decide) (by omega)))
               go_must (have S2 := Lib.hid (BkV.far (LV.go BkOk S2.out ((Kept.refl [] w8).alloc (.cells #[.int .i64 0, .int .u32 0, .int .u32 0, .int .i64 0, .int .i64 0, .int .i64 0, .int .i64 0, .int .i64 0, .int .i64 0, .int .i64 0, .slice none 0 0, .int .i64 0, .int .i64 0, .int .i64 0] 29))) k1 (by (repeat (first | (apply Blk.new'; simp; done) | apply Blk.alloc | apply Blk.drew))) (by decide) (by omega)))
               go_must (have NN := Lib.hid (NN.out.other k2 (fun k hk hm => by simp at hm; have := NN.out.1.lt k hk; omega) (by simp; omega)))
               go_must (have K := Lib.hid (K.out.trans k2 (fun i hi => .inr (by simp at hi; omega))))
               go_must (have X1 := Lib.hid (X1.out.kept k2 (by simp; omega)))
               go_must (clear h1 k1 k2)
               go_must (have hcx1 := X1.out.cell)
               go_must (have hcx2 := X2.out.cell))
            | (go_at_call 23
               go_must (obtain ⟨G1, s1⟩ := BkV.small S.out (by have := HB.out; omega))
               go_must (obtain ⟨G2, s2⟩ := BkV.small S2.out (by have := HB.out; omega))
               go_must (refine (rSameR_any _ x x s1 s2).mono ?_)
               go_must (rintro e w10 ⟨rfl, k1⟩)
               go_must (rw [SR.out])
               go_must (have K := Lib.hid (K.out.trans k1 (by simp)))
               go_must (have NN := Lib.hid (NN.out.go k1))
               go_must (clear k1 s1 s2 hcx1 hcx2)))
          go_roundg (2 - (1 + 1))
          case measure => omega
          case rel => exact ⟨1 + 1, by omega, rfl, by go_num, NN.out, K.out⟩
      · go_wp2_with (first
          | (go_at_call 14
             go_must (refine (awake8_any _).mono ?_)
             go_must (rintro e w99 ⟨rfl, k1⟩)
             go_must (have K := Lib.hid (K.out.trans k1 (by simp)))
             go_must (clear k1)))
        go_ret
        exact ⟨rfl, K.out⟩
theorem RecordDecodes_any (w : World) {A : Option Addr} {m c : Nat} {B : Option Addr} {n d : Nat} {C : Option Addr} {q t : Nat} (r : RecD) (v place cut : Int) (xb : UInt8) (more : List UInt8) (f : FrameD) (h1 : BkArr w (old w) (.slice A m c) r.backs) (h2 : RdB w (old w) (.slice B n d) f.body) (h3 : RdB w (old w) (.slice C q t) more) :
    Calls Try.prog 10 #[.agg #[.int .i64 r.kind, .int .u32 (r.tup.src.toNat : Nat), .int .u32 (r.tup.dst.toNat : Nat), .int .i64 r.tup.proto, .int .i64 r.tup.sport, .int .i64 r.tup.dport, .int .i64 r.fb, .int .i64 r.fg, .int .i64 r.fs, .int .i64 r.gen, .slice A m c, .int .i64 r.back, .int .i64 r.until_, .int .i64 r.count], .int .i64 v, .int .i64 place, .int .u8 xb.toNat, .int .i64 cut, .slice C q t, .agg #[.int .i64 f.kind, .int .i64 f.ver, .slice B n d]] w fun e w' => e = .returned (.bool true) ∧ Kept [] w w' := by
  by_cases g1 : m ≤ 40
  · by_cases g2 : n ≤ 400
    · by_cases g3 : q ≤ 50
      · exact RecordDecodes_4 w r v place cut xb more f g1 g2 g3 h1 h2 h3
      · exact RecordDecodes_3 w r v place cut xb more f g1 g2 g3 h1 h2 h3
    · exact RecordDecodes_2 w r v place cut xb more f g1 g2 h1 h2 h3
  · exact RecordDecodes_1 w r v place cut xb more f g1 h1 h2 h3

set_option maxRecDepth 100000 in
theorem RecordDecodes_walk {H : Type} {enc : TypeId × Value → H} {S : Prop} (W : World) (base : Nat) (v0 : Value) (d0 : DataW H) (p0 : List MemPlace) (v1 : Value) (d1 : DataW H) (p1 : List MemPlace) (v2 : Value) (d2 : DataW H) (p2 : List MemPlace) (v3 : Value) (d3 : DataW H) (p3 : List MemPlace) (v4 : Value) (d4 : DataW H) (p4 : List MemPlace) (v5 : Value) (d5 : DataW H) (p5 : List MemPlace) (v6 : Value) (d6 : DataW H) (p6 : List MemPlace)
    (hv0 : Value.okWide Try.prog W .any base 29 v0) (hv1 : Value.okWide Try.prog W .any base 3 v1) (hv2 : Value.okWide Try.prog W .any base 3 v2) (hv3 : Value.okWide Try.prog W .any base 5 v3) (hv4 : Value.okWide Try.prog W .any base 3 v4) (hv5 : Value.okWide Try.prog W .any base 32 v5) (hv6 : Value.okWide Try.prog W .any base 34 v6)
    (h0 : DataW.Trod enc Try.prog W 0 (fun _ => true) true 29 v0 d0 p0) (h1 : DataW.Trod enc Try.prog W 0 (fun _ => true) true 3 v1 d1 p1) (h2 : DataW.Trod enc Try.prog W 0 (fun _ => true) true 3 v2 d2 p2) (h3 : DataW.Trod enc Try.prog W 0 (fun _ => true) true 5 v3 d3 p3) (h4 : DataW.Trod enc Try.prog W 0 (fun _ => true) true 3 v4 d4 p4) (h5 : DataW.Trod enc Try.prog W 0 (fun _ => true) true 32 v5 d5 p5) (h6 : DataW.Trod enc Try.prog W 0 (fun _ => true) true 34 v6 d6 p6) (_ : S) :
    Calls Try.prog 10 #[v0, v1, v2, v3, v4, v5, v6] W fun e W' => e = .returned (.bool true) ∧ Below W.heap.size W W' := by
  obtain ⟨r, A, m, c, rfl, hr⟩ := open_record hv0 h0
  obtain ⟨v, rfl, rfl, rfl, _⟩ := open_int Try.underlying3 hv1 h1
  obtain ⟨place, rfl, rfl, rfl, _⟩ := open_int Try.underlying3 hv2 h2
  obtain ⟨xb, rfl⟩ := open_u8 hv3 h3
  obtain ⟨cut, rfl, rfl, rfl, _⟩ := open_int Try.underlying3 hv4 h4
  obtain ⟨C, q, t, more, rfl, hm, _⟩ := open_bytes_arr hv5 h5
  obtain ⟨f, B, n, d, rfl, hf, _⟩ := open_frame hv6 h6
  exact (RecordDecodes_any W r v place cut xb more f hr hf hm).mono fun e W' ⟨h, hk⟩ => ⟨h, hk.below (Nat.le_refl _) (by simp)⟩
end Go.Proofs.Ytogdpfjbclnlnaa
