
/-
  The walk of RecordApart.
-/
import Derived.Test.YtogdpfjbclnlnaaRecP
import Derived.Test.YtogdpfjbclnlnaaRecE
import Derived.Test.YtogdpfjbclnlnaaNb
import Derived.Test.YtogdpfjbclnlnaaRecZ
namespace Go.Proofs.Ytogdpfjbclnlnaa
open Go.RowKit Go.ChangeShapes Go.WideShapes Go.Deep
set_option linter.unusedVariables false

set_option maxHeartbeats 6400000 in
set_option maxRecDepth 100000 in
theorem RecordApart_1 (w : World) {A : Option Addr} {m c : Nat} {B : Option Addr} {n d : Nat} (r s : RecD) (g1 : ¬ m ≤ 40) (h1 : BkArr w (old w) (.slice A m c) r.backs) (h2 : BkArr w (old w) (.slice B n d) s.backs) :
    Calls Try.prog 8 #[.agg #[.int .i64 r.kind, .int .u32 (r.tup.src.toNat : Nat), .int .u32 (r.tup.dst.toNat : Nat), .int .i64 r.tup.proto, .int .i64 r.tup.sport, .int .i64 r.tup.dport, .int .i64 r.fb, .int .i64 r.fg, .int .i64 r.fs, .int .i64 r.gen, .slice A m c, .int .i64 r.back, .int .i64 r.until_, .int .i64 r.count], .agg #[.int .i64 s.kind, .int .u32 (s.tup.src.toNat : Nat), .int .u32 (s.tup.dst.toNat : Nat), .int .i64 s.tup.proto, .int .i64 s.tup.sport, .int .i64 s.tup.dport, .int .i64 s.fb, .int .i64 s.fg, .int .i64 s.fs, .int .i64 s.gen, .slice B n d, .int .i64 s.back, .int .i64 s.until_, .int .i64 s.count]] w fun e w' => e = .returned (.bool true) ∧ Kept [] w w' := by
  have hk0 : Kept [] w ((w.alloc (.cells #[.int .i64 r.kind, .int .u32 (r.tup.src.toNat : Nat), .int .u32 (r.tup.dst.toNat : Nat), .int .i64 r.tup.proto, .int .i64 r.tup.sport, .int .i64 r.tup.dport, .int .i64 r.fb, .int .i64 r.fg, .int .i64 r.fs, .int .i64 r.gen, .slice A m c, .int .i64 r.back, .int .i64 r.until_, .int .i64 r.count] 29)).alloc (.cells #[.int .i64 s.kind, .int .u32 (s.tup.src.toNat : Nat), .int .u32 (s.tup.dst.toNat : Nat), .int .i64 s.tup.proto, .int .i64 s.tup.sport, .int .i64 s.tup.dport, .int .i64 s.fb, .int .i64 s.fg, .int .i64 s.fs, .int .i64 s.gen, .slice B n d, .int .i64 s.back, .int .i64 s.until_, .int .i64 s.count] 29)) := by (repeat (first | exact Kept.refl _ _ | apply Kept.alloc | apply Kept.drew))
  have P := Lib.hid (show Blk ((w.alloc (.cells #[.int .i64 r.kind, .int .u32 (r.tup.src.toNat : Nat), .int .u32 (r.tup.dst.toNat : Nat), .int .i64 r.tup.proto, .int .i64 r.tup.sport, .int .i64 r.tup.dport, .int .i64 r.fb, .int .i64 r.fg, .int .i64 r.fs, .int .i64 r.gen, .slice A m c, .int .i64 r.back, .int .i64 r.until_, .int .i64 r.count] 29)).alloc (.cells #[.int .i64 s.kind, .int .u32 (s.tup.src.toNat : Nat), .int .u32 (s.tup.dst.toNat : Nat), .int .i64 s.tup.proto, .int .i64 s.tup.sport, .int .i64 s.tup.dport, .int .i64 s.fb, .int .i64 s.fg, .int .i64 s.fs, .int .i64 s.gen, .slice B n d, .int .i64 s.back, .int .i64 s.until_, .int .i64 s.count] 29)) w.heap.size 29 #[.int .i64 r.kind, .int .u32 (r.tup.src.toNat : Nat), .int .u32 (r.tup.dst.toNat : Nat), .int .i64 r.tup.proto, .int .i64 r.tup.sport, .int .i64 r.tup.dport, .int .i64 r.fb, .int .i64 r.fg, .int .i64 r.fs, .int .i64 r.gen, .slice A m c, .int .i64 r.back, .int .i64 r.until_, .int .i64 r.count] from by (repeat (first | (apply Blk.new'; simp; done) | apply Blk.alloc | apply Blk.drew)))
  have Q := Lib.hid (show Blk ((w.alloc (.cells #[.int .i64 r.kind, .int .u32 (r.tup.src.toNat : Nat), .int .u32 (r.tup.dst.toNat : Nat), .int .i64 r.tup.proto, .int .i64 r.tup.sport, .int .i64 r.tup.dport, .int .i64 r.fb, .int .i64 r.fg, .int .i64 r.fs, .int .i64 r.gen, .slice A m c, .int .i64 r.back, .int .i64 r.until_, .int .i64 r.count] 29)).alloc (.cells #[.int .i64 s.kind, .int .u32 (s.tup.src.toNat : Nat), .int .u32 (s.tup.dst.toNat : Nat), .int .i64 s.tup.proto, .int .i64 s.tup.sport, .int .i64 s.tup.dport, .int .i64 s.fb, .int .i64 s.fg, .int .i64 s.fs, .int .i64 s.gen, .slice B n d, .int .i64 s.back, .int .i64 s.until_, .int .i64 s.count] 29)) (w.heap.size + 1) 29 #[.int .i64 s.kind, .int .u32 (s.tup.src.toNat : Nat), .int .u32 (s.tup.dst.toNat : Nat), .int .i64 s.tup.proto, .int .i64 s.tup.sport, .int .i64 s.tup.dport, .int .i64 s.fb, .int .i64 s.fg, .int .i64 s.fs, .int .i64 s.gen, .slice B n d, .int .i64 s.back, .int .i64 s.until_, .int .i64 s.count] from by (repeat (first | (apply Blk.new'; simp; done) | apply Blk.alloc | apply Blk.drew)))
  have K := Lib.hid hk0
  have H1 := Lib.hid (BkArr.kept h1 (Kept.refl [] w) (by simp))
  have H2 := Lib.hid (BkArr.kept h2 (Kept.refl [] w) (by simp))
  have Hs1 : Hid (m ≤ 40 → ∀ w', Kept [] w w' → SmallB w' (old w) A m c r.backs) := Lib.hid (fun hm w' hk => ⟨BkArr.kept h1 hk (by simp), fun k hk' => Nat.lt_of_lt_of_le (List.mem_range.1 hk') hk.size, by omega⟩)
  have Hs2 : Hid (n ≤ 40 → ∀ w', Kept [] w w' → SmallB w' (old w) B n d s.backs) := Lib.hid (fun hm w' hk => ⟨BkArr.kept h2 hk (by simp), fun k hk' => Nat.lt_of_lt_of_le (List.mem_range.1 hk') hk.size, by omega⟩)
  clear h1 h2 hk0
  have d1 : decide (m ≤ 40) = false := by simpa using g1
  go_enter Try.func8, Try.ntmps8
  go_wp2_with (first
    | (go_at_call 13
       with_reducible refine (light8_any _ r (BkArr.kept H1.out K.out (by simp))).mono ?_
       go_must (rintro e w1 ⟨rfl, k1⟩)
       go_must (rw [d1])
       go_must (have P := Lib.hid (P.out.kept k1 (by simp)))
       go_must (have Q := Lib.hid (Q.out.kept k1 (by simp)))
       go_must (have K := Lib.hid (K.out.trans k1 (by simp)))
       go_must (first | (clear hcx hcy) | skip)
       go_must (first | (clear hcf) | skip)
       go_must (clear k1)
       go_must (have hcx := P.out.cell)
       go_must (have hcy := Q.out.cell))
    | (go_at_call 14
       go_must (refine (awake8_any _).mono ?_)
       go_must (rintro e w8 ⟨rfl, k1⟩)
       go_must (have K := Lib.hid (K.out.trans k1 (by simp)))
       go_must (clear k1)))
  go_ret
  exact ⟨rfl, K.out⟩

set_option maxHeartbeats 6400000 in
set_option maxRecDepth 100000 in
theorem RecordApart_2 (w : World) {A : Option Addr} {m c : Nat} {B : Option Addr} {n d : Nat} (r s : RecD) (g1 : m ≤ 40) (g2 : ¬ n ≤ 40) (h1 : BkArr w (old w) (.slice A m c) r.backs) (h2 : BkArr w (old w) (.slice B n d) s.backs) :
    Calls Try.prog 8 #[.agg #[.int .i64 r.kind, .int .u32 (r.tup.src.toNat : Nat), .int .u32 (r.tup.dst.toNat : Nat), .int .i64 r.tup.proto, .int .i64 r.tup.sport, .int .i64 r.tup.dport, .int .i64 r.fb, .int .i64 r.fg, .int .i64 r.fs, .int .i64 r.gen, .slice A m c, .int .i64 r.back, .int .i64 r.until_, .int .i64 r.count], .agg #[.int .i64 s.kind, .int .u32 (s.tup.src.toNat : Nat), .int .u32 (s.tup.dst.toNat : Nat), .int .i64 s.tup.proto, .int .i64 s.tup.sport, .int .i64 s.tup.dport, .int .i64 s.fb, .int .i64 s.fg, .int .i64 s.fs, .int .i64 s.gen, .slice B n d, .int .i64 s.back, .int .i64 s.until_, .int .i64 s.count]] w fun e w' => e = .returned (.bool true) ∧ Kept [] w w' := by
  have hk0 : Kept [] w ((w.alloc (.cells #[.int .i64 r.kind, .int .u32 (r.tup.src.toNat : Nat), .int .u32 (r.tup.dst.toNat : Nat), .int .i64 r.tup.proto, .int .i64 r.tup.sport, .int .i64 r.tup.dport, .int .i64 r.fb, .int .i64 r.fg, .int .i64 r.fs, .int .i64 r.gen, .slice A m c, .int .i64 r.back, .int .i64 r.until_, .int .i64 r.count] 29)).alloc (.cells #[.int .i64 s.kind, .int .u32 (s.tup.src.toNat : Nat), .int .u32 (s.tup.dst.toNat : Nat), .int .i64 s.tup.proto, .int .i64 s.tup.sport, .int .i64 s.tup.dport, .int .i64 s.fb, .int .i64 s.fg, .int .i64 s.fs, .int .i64 s.gen, .slice B n d, .int .i64 s.back, .int .i64 s.until_, .int .i64 s.count] 29)) := by (repeat (first | exact Kept.refl _ _ | apply Kept.alloc | apply Kept.drew))
  have P := Lib.hid (show Blk ((w.alloc (.cells #[.int .i64 r.kind, .int .u32 (r.tup.src.toNat : Nat), .int .u32 (r.tup.dst.toNat : Nat), .int .i64 r.tup.proto, .int .i64 r.tup.sport, .int .i64 r.tup.dport, .int .i64 r.fb, .int .i64 r.fg, .int .i64 r.fs, .int .i64 r.gen, .slice A m c, .int .i64 r.back, .int .i64 r.until_, .int .i64 r.count] 29)).alloc (.cells #[.int .i64 s.kind, .int .u32 (s.tup.src.toNat : Nat), .int .u32 (s.tup.dst.toNat : Nat), .int .i64 s.tup.proto, .int .i64 s.tup.sport, .int .i64 s.tup.dport, .int .i64 s.fb, .int .i64 s.fg, .int .i64 s.fs, .int .i64 s.gen, .slice B n d, .int .i64 s.back, .int .i64 s.until_, .int .i64 s.count] 29)) w.heap.size 29 #[.int .i64 r.kind, .int .u32 (r.tup.src.toNat : Nat), .int .u32 (r.tup.dst.toNat : Nat), .int .i64 r.tup.proto, .int .i64 r.tup.sport, .int .i64 r.tup.dport, .int .i64 r.fb, .int .i64 r.fg, .int .i64 r.fs, .int .i64 r.gen, .slice A m c, .int .i64 r.back, .int .i64 r.until_, .int .i64 r.count] from by (repeat (first | (apply Blk.new'; simp; done) | apply Blk.alloc | apply Blk.drew)))
  have Q := Lib.hid (show Blk ((w.alloc (.cells #[.int .i64 r.kind, .int .u32 (r.tup.src.toNat : Nat), .int .u32 (r.tup.dst.toNat : Nat), .int .i64 r.tup.proto, .int .i64 r.tup.sport, .int .i64 r.tup.dport, .int .i64 r.fb, .int .i64 r.fg, .int .i64 r.fs, .int .i64 r.gen, .slice A m c, .int .i64 r.back, .int .i64 r.until_, .int .i64 r.count] 29)).alloc (.cells #[.int .i64 s.kind, .int .u32 (s.tup.src.toNat : Nat), .int .u32 (s.tup.dst.toNat : Nat), .int .i64 s.tup.proto, .int .i64 s.tup.sport, .int .i64 s.tup.dport, .int .i64 s.fb, .int .i64 s.fg, .int .i64 s.fs, .int .i64 s.gen, .slice B n d, .int .i64 s.back, .int .i64 s.until_, .int .i64 s.count] 29)) (w.heap.size + 1) 29 #[.int .i64 s.kind, .int .u32 (s.tup.src.toNat : Nat), .int .u32 (s.tup.dst.toNat : Nat), .int .i64 s.tup.proto, .int .i64 s.tup.sport, .int .i64 s.tup.dport, .int .i64 s.fb, .int .i64 s.fg, .int .i64 s.fs, .int .i64 s.gen, .slice B n d, .int .i64 s.back, .int .i64 s.until_, .int .i64 s.count] from by (repeat (first | (apply Blk.new'; simp; done) | apply Blk.alloc | apply Blk.drew)))
  have K := Lib.hid hk0
  have H1 := Lib.hid (BkArr.kept h1 (Kept.refl [] w) (by simp))
  have H2 := Lib.hid (BkArr.kept h2 (Kept.refl [] w) (by simp))
  have Hs1 : Hid (m ≤ 40 → ∀ w', Kept [] w w' → SmallB w' (old w) A m c r.backs) := Lib.hid (fun hm w' hk => ⟨BkArr.kept h1 hk (by simp), fun k hk' => Nat.lt_of_lt_of_le (List.mem_range.1 hk') hk.size, by omega⟩)
  have Hs2 : Hid (n ≤ 40 → ∀ w', Kept [] w w' → SmallB w' (old w) B n d s.backs) := Lib.hid (fun hm w' hk => ⟨BkArr.kept h2 hk (by simp), fun k hk' => Nat.lt_of_lt_of_le (List.mem_range.1 hk') hk.size, by omega⟩)
  clear h1 h2 hk0
  have d1 : decide (m ≤ 40) = true := by simpa using g1
  have d2 : decide (n ≤ 40) = false := by simpa using g2
  go_enter Try.func8, Try.ntmps8
  go_wp2_with (first
    | (go_at_call 13
       with_reducible refine (light8_any _ r (BkArr.kept H1.out K.out (by simp))).mono ?_
       go_must (rintro e w1 ⟨rfl, k1⟩)
       go_must (rw [d1])
       go_must (have P := Lib.hid (P.out.kept k1 (by simp)))
       go_must (have Q := Lib.hid (Q.out.kept k1 (by simp)))
       go_must (have K := Lib.hid (K.out.trans k1 (by simp)))
       go_must (first | (clear hcx hcy) | skip)
       go_must (first | (clear hcf) | skip)
       go_must (clear k1)
       go_must (have hcx := P.out.cell)
       go_must (have hcy := Q.out.cell))
    | (go_at_call 13
       with_reducible refine (light8_any _ s (BkArr.kept H2.out K.out (by simp))).mono ?_
       go_must (rintro e w2 ⟨rfl, k1⟩)
       go_must (rw [d2])
       go_must (have P := Lib.hid (P.out.kept k1 (by simp)))
       go_must (have Q := Lib.hid (Q.out.kept k1 (by simp)))
       go_must (have K := Lib.hid (K.out.trans k1 (by simp)))
       go_must (first | (clear hcx hcy) | skip)
       go_must (first | (clear hcf) | skip)
       go_must (clear k1)
       go_must (have hcx := P.out.cell)
       go_must (have hcy := Q.out.cell))
    | (go_at_call 14
       go_must (refine (awake8_any _).mono ?_)
       go_must (rintro e w8 ⟨rfl, k1⟩)
       go_must (have K := Lib.hid (K.out.trans k1 (by simp)))
       go_must (clear k1)))
  go_ret
  exact ⟨rfl, K.out⟩

set_option maxHeartbeats 6400000 in
set_option maxRecDepth 100000 in
theorem RecordApart_3 (w : World) {A : Option Addr} {m c : Nat} {B : Option Addr} {n d : Nat} (r s : RecD) (g1 : m ≤ 40) (g2 : n ≤ 40) (d3 : mayR r = false) (h1 : BkArr w (old w) (.slice A m c) r.backs) (h2 : BkArr w (old w) (.slice B n d) s.backs) :
    Calls Try.prog 8 #[.agg #[.int .i64 r.kind, .int .u32 (r.tup.src.toNat : Nat), .int .u32 (r.tup.dst.toNat : Nat), .int .i64 r.tup.proto, .int .i64 r.tup.sport, .int .i64 r.tup.dport, .int .i64 r.fb, .int .i64 r.fg, .int .i64 r.fs, .int .i64 r.gen, .slice A m c, .int .i64 r.back, .int .i64 r.until_, .int .i64 r.count], .agg #[.int .i64 s.kind, .int .u32 (s.tup.src.toNat : Nat), .int .u32 (s.tup.dst.toNat : Nat), .int .i64 s.tup.proto, .int .i64 s.tup.sport, .int .i64 s.tup.dport, .int .i64 s.fb, .int .i64 s.fg, .int .i64 s.fs, .int .i64 s.gen, .slice B n d, .int .i64 s.back, .int .i64 s.until_, .int .i64 s.count]] w fun e w' => e = .returned (.bool true) ∧ Kept [] w w' := by
  have hk0 : Kept [] w ((w.alloc (.cells #[.int .i64 r.kind, .int .u32 (r.tup.src.toNat : Nat), .int .u32 (r.tup.dst.toNat : Nat), .int .i64 r.tup.proto, .int .i64 r.tup.sport, .int .i64 r.tup.dport, .int .i64 r.fb, .int .i64 r.fg, .int .i64 r.fs, .int .i64 r.gen, .slice A m c, .int .i64 r.back, .int .i64 r.until_, .int .i64 r.count] 29)).alloc (.cells #[.int .i64 s.kind, .int .u32 (s.tup.src.toNat : Nat), .int .u32 (s.tup.dst.toNat : Nat), .int .i64 s.tup.proto, .int .i64 s.tup.sport, .int .i64 s.tup.dport, .int .i64 s.fb, .int .i64 s.fg, .int .i64 s.fs, .int .i64 s.gen, .slice B n d, .int .i64 s.back, .int .i64 s.until_, .int .i64 s.count] 29)) := by (repeat (first | exact Kept.refl _ _ | apply Kept.alloc | apply Kept.drew))
  have P := Lib.hid (show Blk ((w.alloc (.cells #[.int .i64 r.kind, .int .u32 (r.tup.src.toNat : Nat), .int .u32 (r.tup.dst.toNat : Nat), .int .i64 r.tup.proto, .int .i64 r.tup.sport, .int .i64 r.tup.dport, .int .i64 r.fb, .int .i64 r.fg, .int .i64 r.fs, .int .i64 r.gen, .slice A m c, .int .i64 r.back, .int .i64 r.until_, .int .i64 r.count] 29)).alloc (.cells #[.int .i64 s.kind, .int .u32 (s.tup.src.toNat : Nat), .int .u32 (s.tup.dst.toNat : Nat), .int .i64 s.tup.proto, .int .i64 s.tup.sport, .int .i64 s.tup.dport, .int .i64 s.fb, .int .i64 s.fg, .int .i64 s.fs, .int .i64 s.gen, .slice B n d, .int .i64 s.back, .int .i64 s.until_, .int .i64 s.count] 29)) w.heap.size 29 #[.int .i64 r.kind, .int .u32 (r.tup.src.toNat : Nat), .int .u32 (r.tup.dst.toNat : Nat), .int .i64 r.tup.proto, .int .i64 r.tup.sport, .int .i64 r.tup.dport, .int .i64 r.fb, .int .i64 r.fg, .int .i64 r.fs, .int .i64 r.gen, .slice A m c, .int .i64 r.back, .int .i64 r.until_, .int .i64 r.count] from by (repeat (first | (apply Blk.new'; simp; done) | apply Blk.alloc | apply Blk.drew)))
  have Q := Lib.hid (show Blk ((w.alloc (.cells #[.int .i64 r.kind, .int .u32 (r.tup.src.toNat : Nat), .int .u32 (r.tup.dst.toNat : Nat), .int .i64 r.tup.proto, .int .i64 r.tup.sport, .int .i64 r.tup.dport, .int .i64 r.fb, .int .i64 r.fg, .int .i64 r.fs, .int .i64 r.gen, .slice A m c, .int .i64 r.back, .int .i64 r.until_, .int .i64 r.count] 29)).alloc (.cells #[.int .i64 s.kind, .int .u32 (s.tup.src.toNat : Nat), .int .u32 (s.tup.dst.toNat : Nat), .int .i64 s.tup.proto, .int .i64 s.tup.sport, .int .i64 s.tup.dport, .int .i64 s.fb, .int .i64 s.fg, .int .i64 s.fs, .int .i64 s.gen, .slice B n d, .int .i64 s.back, .int .i64 s.until_, .int .i64 s.count] 29)) (w.heap.size + 1) 29 #[.int .i64 s.kind, .int .u32 (s.tup.src.toNat : Nat), .int .u32 (s.tup.dst.toNat : Nat), .int .i64 s.tup.proto, .int .i64 s.tup.sport, .int .i64 s.tup.dport, .int .i64 s.fb, .int .i64 s.fg, .int .i64 s.fs, .int .i64 s.gen, .slice B n d, .int .i64 s.back, .int .i64 s.until_, .int .i64 s.count] from by (repeat (first | (apply Blk.new'; simp; done) | apply Blk.alloc | apply Blk.drew)))
  have K := Lib.hid hk0
  have H1 := Lib.hid (BkArr.kept h1 (Kept.refl [] w) (by simp))
  have H2 := Lib.hid (BkArr.kept h2 (Kept.refl [] w) (by simp))
  have Hs1 : Hid (m ≤ 40 → ∀ w', Kept [] w w' → SmallB w' (old w) A m c r.backs) := Lib.hid (fun hm w' hk => ⟨BkArr.kept h1 hk (by simp), fun k hk' => Nat.lt_of_lt_of_le (List.mem_range.1 hk') hk.size, by omega⟩)
  have Hs2 : Hid (n ≤ 40 → ∀ w', Kept [] w w' → SmallB w' (old w) B n d s.backs) := Lib.hid (fun hm w' hk => ⟨BkArr.kept h2 hk (by simp), fun k hk' => Nat.lt_of_lt_of_le (List.mem_range.1 hk') hk.size, by omega⟩)
  clear h1 h2 hk0
  have d1 : decide (m ≤ 40) = true := by simpa using g1
  have d2 : decide (n ≤ 40) = true := by simpa using g2
  go_enter Try.func8, Try.ntmps8
  go_wp2_with (first
    | (go_at_call 13
       with_reducible refine (light8_any _ r (BkArr.kept H1.out K.out (by simp))).mono ?_
       go_must (rintro e w1 ⟨rfl, k1⟩)
       go_must (rw [d1])
       go_must (have P := Lib.hid (P.out.kept k1 (by simp)))
       go_must (have Q := Lib.hid (Q.out.kept k1 (by simp)))
       go_must (have K := Lib.hid (K.out.trans k1 (by simp)))
       go_must (first | (clear hcx hcy) | skip)
       go_must (first | (clear hcf) | skip)
       go_must (clear k1)
       go_must (have hcx := P.out.cell)
       go_must (have hcy := Q.out.cell))
    | (go_at_call 13
       with_reducible refine (light8_any _ s (BkArr.kept H2.out K.out (by simp))).mono ?_
       go_must (rintro e w2 ⟨rfl, k1⟩)
       go_must (rw [d2])
       go_must (have P := Lib.hid (P.out.kept k1 (by simp)))
       go_must (have Q := Lib.hid (Q.out.kept k1 (by simp)))
       go_must (have K := Lib.hid (K.out.trans k1 (by simp)))
       go_must (first | (clear hcx hcy) | skip)
       go_must (first | (clear hcf) | skip)
       go_must (clear k1)
       go_must (have hcx := P.out.cell)
       go_must (have hcy := Q.out.cell))
    | (go_at_call 18
       with_reducible refine (May_any _ r (Hs1.out g1 _ K.out)).mono ?_
       go_must (rintro e w3 ⟨rfl, k1⟩)
       go_must (rw [d3])
       go_must (have P := Lib.hid (P.out.kept k1 (by simp)))
       go_must (have Q := Lib.hid (Q.out.kept k1 (by simp)))
       go_must (have K := Lib.hid (K.out.trans k1 (by simp)))
       go_must (first | (clear hcx hcy) | skip)
       go_must (first | (clear hcf) | skip)
       go_must (clear k1)
       go_must (have hcx := P.out.cell)
       go_must (have hcy := Q.out.cell))
    | (go_at_call 14
       go_must (refine (awake8_any _).mono ?_)
       go_must (rintro e w8 ⟨rfl, k1⟩)
       go_must (have K := Lib.hid (K.out.trans k1 (by simp)))
       go_must (clear k1)))
  go_ret
  exact ⟨rfl, K.out⟩

set_option maxHeartbeats 6400000 in
set_option maxRecDepth 100000 in
theorem RecordApart_4 (w : World) {A : Option Addr} {m c : Nat} {B : Option Addr} {n d : Nat} (r s : RecD) (g1 : m ≤ 40) (g2 : n ≤ 40) (d3 : mayR r = true) (d4 : mayR s = false) (h1 : BkArr w (old w) (.slice A m c) r.backs) (h2 : BkArr w (old w) (.slice B n d) s.backs) :
    Calls Try.prog 8 #[.agg #[.int .i64 r.kind, .int .u32 (r.tup.src.toNat : Nat), .int .u32 (r.tup.dst.toNat : Nat), .int .i64 r.tup.proto, .int .i64 r.tup.sport, .int .i64 r.tup.dport, .int .i64 r.fb, .int .i64 r.fg, .int .i64 r.fs, .int .i64 r.gen, .slice A m c, .int .i64 r.back, .int .i64 r.until_, .int .i64 r.count], .agg #[.int .i64 s.kind, .int .u32 (s.tup.src.toNat : Nat), .int .u32 (s.tup.dst.toNat : Nat), .int .i64 s.tup.proto, .int .i64 s.tup.sport, .int .i64 s.tup.dport, .int .i64 s.fb, .int .i64 s.fg, .int .i64 s.fs, .int .i64 s.gen, .slice B n d, .int .i64 s.back, .int .i64 s.until_, .int .i64 s.count]] w fun e w' => e = .returned (.bool true) ∧ Kept [] w w' := by
  have hk0 : Kept [] w ((w.alloc (.cells #[.int .i64 r.kind, .int .u32 (r.tup.src.toNat : Nat), .int .u32 (r.tup.dst.toNat : Nat), .int .i64 r.tup.proto, .int .i64 r.tup.sport, .int .i64 r.tup.dport, .int .i64 r.fb, .int .i64 r.fg, .int .i64 r.fs, .int .i64 r.gen, .slice A m c, .int .i64 r.back, .int .i64 r.until_, .int .i64 r.count] 29)).alloc (.cells #[.int .i64 s.kind, .int .u32 (s.tup.src.toNat : Nat), .int .u32 (s.tup.dst.toNat : Nat), .int .i64 s.tup.proto, .int .i64 s.tup.sport, .int .i64 s.tup.dport, .int .i64 s.fb, .int .i64 s.fg, .int .i64 s.fs, .int .i64 s.gen, .slice B n d, .int .i64 s.back, .int .i64 s.until_, .int .i64 s.count] 29)) := by (repeat (first | exact Kept.refl _ _ | apply Kept.alloc | apply Kept.drew))
  have P := Lib.hid (show Blk ((w.alloc (.cells #[.int .i64 r.kind, .int .u32 (r.tup.src.toNat : Nat), .int .u32 (r.tup.dst.toNat : Nat), .int .i64 r.tup.proto, .int .i64 r.tup.sport, .int .i64 r.tup.dport, .int .i64 r.fb, .int .i64 r.fg, .int .i64 r.fs, .int .i64 r.gen, .slice A m c, .int .i64 r.back, .int .i64 r.until_, .int .i64 r.count] 29)).alloc (.cells #[.int .i64 s.kind, .int .u32 (s.tup.src.toNat : Nat), .int .u32 (s.tup.dst.toNat : Nat), .int .i64 s.tup.proto, .int .i64 s.tup.sport, .int .i64 s.tup.dport, .int .i64 s.fb, .int .i64 s.fg, .int .i64 s.fs, .int .i64 s.gen, .slice B n d, .int .i64 s.back, .int .i64 s.until_, .int .i64 s.count] 29)) w.heap.size 29 #[.int .i64 r.kind, .int .u32 (r.tup.src.toNat : Nat), .int .u32 (r.tup.dst.toNat : Nat), .int .i64 r.tup.proto, .int .i64 r.tup.sport, .int .i64 r.tup.dport, .int .i64 r.fb, .int .i64 r.fg, .int .i64 r.fs, .int .i64 r.gen, .slice A m c, .int .i64 r.back, .int .i64 r.until_, .int .i64 r.count] from by (repeat (first | (apply Blk.new'; simp; done) | apply Blk.alloc | apply Blk.drew)))
  have Q := Lib.hid (show Blk ((w.alloc (.cells #[.int .i64 r.kind, .int .u32 (r.tup.src.toNat : Nat), .int .u32 (r.tup.dst.toNat : Nat), .int .i64 r.tup.proto, .int .i64 r.tup.sport, .int .i64 r.tup.dport, .int .i64 r.fb, .int .i64 r.fg, .int .i64 r.fs, .int .i64 r.gen, .slice A m c, .int .i64 r.back, .int .i64 r.until_, .int .i64 r.count] 29)).alloc (.cells #[.int .i64 s.kind, .int .u32 (s.tup.src.toNat : Nat), .int .u32 (s.tup.dst.toNat : Nat), .int .i64 s.tup.proto, .int .i64 s.tup.sport, .int .i64 s.tup.dport, .int .i64 s.fb, .int .i64 s.fg, .int .i64 s.fs, .int .i64 s.gen, .slice B n d, .int .i64 s.back, .int .i64 s.until_, .int .i64 s.count] 29)) (w.heap.size + 1) 29 #[.int .i64 s.kind, .int .u32 (s.tup.src.toNat : Nat), .int .u32 (s.tup.dst.toNat : Nat), .int .i64 s.tup.proto, .int .i64 s.tup.sport, .int .i64 s.tup.dport, .int .i64 s.fb, .int .i64 s.fg, .int .i64 s.fs, .int .i64 s.gen, .slice B n d, .int .i64 s.back, .int .i64 s.until_, .int .i64 s.count] from by (repeat (first | (apply Blk.new'; simp; done) | apply Blk.alloc | apply Blk.drew)))
  have K := Lib.hid hk0
  have H1 := Lib.hid (BkArr.kept h1 (Kept.refl [] w) (by simp))
  have H2 := Lib.hid (BkArr.kept h2 (Kept.refl [] w) (by simp))
  have Hs1 : Hid (m ≤ 40 → ∀ w', Kept [] w w' → SmallB w' (old w) A m c r.backs) := Lib.hid (fun hm w' hk => ⟨BkArr.kept h1 hk (by simp), fun k hk' => Nat.lt_of_lt_of_le (List.mem_range.1 hk') hk.size, by omega⟩)
  have Hs2 : Hid (n ≤ 40 → ∀ w', Kept [] w w' → SmallB w' (old w) B n d s.backs) := Lib.hid (fun hm w' hk => ⟨BkArr.kept h2 hk (by simp), fun k hk' => Nat.lt_of_lt_of_le (List.mem_range.1 hk') hk.size, by omega⟩)
  clear h1 h2 hk0
  have d1 : decide (m ≤ 40) = true := by simpa using g1
  have d2 : decide (n ≤ 40) = true := by simpa using g2
  go_enter Try.func8, Try.ntmps8
  go_wp2_with (first
    | (go_at_call 13
       with_reducible refine (light8_any _ r (BkArr.kept H1.out K.out (by simp))).mono ?_
       go_must (rintro e w1 ⟨rfl, k1⟩)
       go_must (rw [d1])
       go_must (have P := Lib.hid (P.out.kept k1 (by simp)))
       go_must (have Q := Lib.hid (Q.out.kept k1 (by simp)))
       go_must (have K := Lib.hid (K.out.trans k1 (by simp)))
       go_must (first | (clear hcx hcy) | skip)
       go_must (first | (clear hcf) | skip)
       go_must (clear k1)
       go_must (have hcx := P.out.cell)
       go_must (have hcy := Q.out.cell))
    | (go_at_call 13
       with_reducible refine (light8_any _ s (BkArr.kept H2.out K.out (by simp))).mono ?_
       go_must (rintro e w2 ⟨rfl, k1⟩)
       go_must (rw [d2])
       go_must (have P := Lib.hid (P.out.kept k1 (by simp)))
       go_must (have Q := Lib.hid (Q.out.kept k1 (by simp)))
       go_must (have K := Lib.hid (K.out.trans k1 (by simp)))
       go_must (first | (clear hcx hcy) | skip)
       go_must (first | (clear hcf) | skip)
       go_must (clear k1)
       go_must (have hcx := P.out.cell)
       go_must (have hcy := Q.out.cell))
    | (go_at_call 18
       with_reducible refine (May_any _ r (Hs1.out g1 _ K.out)).mono ?_
       go_must (rintro e w3 ⟨rfl, k1⟩)
       go_must (rw [d3])
       go_must (have P := Lib.hid (P.out.kept k1 (by simp)))
       go_must (have Q := Lib.hid (Q.out.kept k1 (by simp)))
       go_must (have K := Lib.hid (K.out.trans k1 (by simp)))
       go_must (first | (clear hcx hcy) | skip)
       go_must (first | (clear hcf) | skip)
       go_must (clear k1)
       go_must (have hcx := P.out.cell)
       go_must (have hcy := Q.out.cell))
    | (go_at_call 18
       with_reducible refine (May_any _ s (Hs2.out g2 _ K.out)).mono ?_
       go_must (rintro e w4 ⟨rfl, k1⟩)
       go_must (rw [d4])
       go_must (have P := Lib.hid (P.out.kept k1 (by simp)))
       go_must (have Q := Lib.hid (Q.out.kept k1 (by simp)))
       go_must (have K := Lib.hid (K.out.trans k1 (by simp)))
       go_must (first | (clear hcx hcy) | skip)
       go_must (first | (clear hcf) | skip)
       go_must (clear k1)
       go_must (have hcx := P.out.cell)
       go_must (have hcy := Q.out.cell))
    | (go_at_call 14
       go_must (refine (awake8_any _).mono ?_)
       go_must (rintro e w8 ⟨rfl, k1⟩)
       go_must (have K := Lib.hid (K.out.trans k1 (by simp)))
       go_must (clear k1)))
  go_ret
  exact ⟨rfl, K.out⟩

set_option maxHeartbeats 6400000 in
set_option maxRecDepth 100000 in
theorem RecordApart_5 (w : World) {A : Option Addr} {m c : Nat} {B : Option Addr} {n d : Nat} (r s : RecD) (g1 : m ≤ 40) (g2 : n ≤ 40) (d3 : mayR r = true) (d4 : mayR s = true) (g5 : r.kind ≠ s.kind) (h1 : BkArr w (old w) (.slice A m c) r.backs) (h2 : BkArr w (old w) (.slice B n d) s.backs) :
    Calls Try.prog 8 #[.agg #[.int .i64 r.kind, .int .u32 (r.tup.src.toNat : Nat), .int .u32 (r.tup.dst.toNat : Nat), .int .i64 r.tup.proto, .int .i64 r.tup.sport, .int .i64 r.tup.dport, .int .i64 r.fb, .int .i64 r.fg, .int .i64 r.fs, .int .i64 r.gen, .slice A m c, .int .i64 r.back, .int .i64 r.until_, .int .i64 r.count], .agg #[.int .i64 s.kind, .int .u32 (s.tup.src.toNat : Nat), .int .u32 (s.tup.dst.toNat : Nat), .int .i64 s.tup.proto, .int .i64 s.tup.sport, .int .i64 s.tup.dport, .int .i64 s.fb, .int .i64 s.fg, .int .i64 s.fs, .int .i64 s.gen, .slice B n d, .int .i64 s.back, .int .i64 s.until_, .int .i64 s.count]] w fun e w' => e = .returned (.bool true) ∧ Kept [] w w' := by
  have hk0 : Kept [] w ((w.alloc (.cells #[.int .i64 r.kind, .int .u32 (r.tup.src.toNat : Nat), .int .u32 (r.tup.dst.toNat : Nat), .int .i64 r.tup.proto, .int .i64 r.tup.sport, .int .i64 r.tup.dport, .int .i64 r.fb, .int .i64 r.fg, .int .i64 r.fs, .int .i64 r.gen, .slice A m c, .int .i64 r.back, .int .i64 r.until_, .int .i64 r.count] 29)).alloc (.cells #[.int .i64 s.kind, .int .u32 (s.tup.src.toNat : Nat), .int .u32 (s.tup.dst.toNat : Nat), .int .i64 s.tup.proto, .int .i64 s.tup.sport, .int .i64 s.tup.dport, .int .i64 s.fb, .int .i64 s.fg, .int .i64 s.fs, .int .i64 s.gen, .slice B n d, .int .i64 s.back, .int .i64 s.until_, .int .i64 s.count] 29)) := by (repeat (first | exact Kept.refl _ _ | apply Kept.alloc | apply Kept.drew))
  have P := Lib.hid (show Blk ((w.alloc (.cells #[.int .i64 r.kind, .int .u32 (r.tup.src.toNat : Nat), .int .u32 (r.tup.dst.toNat : Nat), .int .i64 r.tup.proto, .int .i64 r.tup.sport, .int .i64 r.tup.dport, .int .i64 r.fb, .int .i64 r.fg, .int .i64 r.fs, .int .i64 r.gen, .slice A m c, .int .i64 r.back, .int .i64 r.until_, .int .i64 r.count] 29)).alloc (.cells #[.int .i64 s.kind, .int .u32 (s.tup.src.toNat : Nat), .int .u32 (s.tup.dst.toNat : Nat), .int .i64 s.tup.proto, .int .i64 s.tup.sport, .int .i64 s.tup.dport, .int .i64 s.fb, .int .i64 s.fg, .int .i64 s.fs, .int .i64 s.gen, .slice B n d, .int .i64 s.back, .int .i64 s.until_, .int .i64 s.count] 29)) w.heap.size 29 #[.int .i64 r.kind, .int .u32 (r.tup.src.toNat : Nat), .int .u32 (r.tup.dst.toNat : Nat), .int .i64 r.tup.proto, .int .i64 r.tup.sport, .int .i64 r.tup.dport, .int .i64 r.fb, .int .i64 r.fg, .int .i64 r.fs, .int .i64 r.gen, .slice A m c, .int .i64 r.back, .int .i64 r.until_, .int .i64 r.count] from by (repeat (first | (apply Blk.new'; simp; done) | apply Blk.alloc | apply Blk.drew)))
  have Q := Lib.hid (show Blk ((w.alloc (.cells #[.int .i64 r.kind, .int .u32 (r.tup.src.toNat : Nat), .int .u32 (r.tup.dst.toNat : Nat), .int .i64 r.tup.proto, .int .i64 r.tup.sport, .int .i64 r.tup.dport, .int .i64 r.fb, .int .i64 r.fg, .int .i64 r.fs, .int .i64 r.gen, .slice A m c, .int .i64 r.back, .int .i64 r.until_, .int .i64 r.count] 29)).alloc (.cells #[.int .i64 s.kind, .int .u32 (s.tup.src.toNat : Nat), .int .u32 (s.tup.dst.toNat : Nat), .int .i64 s.tup.proto, .int .i64 s.tup.sport, .int .i64 s.tup.dport, .int .i64 s.fb, .int .i64 s.fg, .int .i64 s.fs, .int .i64 s.gen, .slice B n d, .int .i64 s.back, .int .i64 s.until_, .int .i64 s.count] 29)) (w.heap.size + 1) 29 #[.int .i64 s.kind, .int .u32 (s.tup.src.toNat : Nat), .int .u32 (s.tup.dst.toNat : Nat), .int .i64 s.tup.proto, .int .i64 s.tup.sport, .int .i64 s.tup.dport, .int .i64 s.fb, .int .i64 s.fg, .int .i64 s.fs, .int .i64 s.gen, .slice B n d, .int .i64 s.back, .int .i64 s.until_, .int .i64 s.count] from by (repeat (first | (apply Blk.new'; simp; done) | apply Blk.alloc | apply Blk.drew)))
  have K := Lib.hid hk0
  have H1 := Lib.hid (BkArr.kept h1 (Kept.refl [] w) (by simp))
  have H2 := Lib.hid (BkArr.kept h2 (Kept.refl [] w) (by simp))
  have Hs1 : Hid (m ≤ 40 → ∀ w', Kept [] w w' → SmallB w' (old w) A m c r.backs) := Lib.hid (fun hm w' hk => ⟨BkArr.kept h1 hk (by simp), fun k hk' => Nat.lt_of_lt_of_le (List.mem_range.1 hk') hk.size, by omega⟩)
  have Hs2 : Hid (n ≤ 40 → ∀ w', Kept [] w w' → SmallB w' (old w) B n d s.backs) := Lib.hid (fun hm w' hk => ⟨BkArr.kept h2 hk (by simp), fun k hk' => Nat.lt_of_lt_of_le (List.mem_range.1 hk') hk.size, by omega⟩)
  clear h1 h2 hk0
  have d1 : decide (m ≤ 40) = true := by simpa using g1
  have d2 : decide (n ≤ 40) = true := by simpa using g2
  have hs := same_body d3 d4
  obtain ⟨f1, hf1⟩ : ∃ f, encF r 3 = f := ⟨_, rfl⟩
  obtain ⟨f2, hf2⟩ : ∃ f, encF s 3 = f := ⟨_, rfl⟩
  have EF1 := Lib.hid hf1
  have EF2 := Lib.hid hf2
  rw [encF_yes (by rfl) d3] at hf1
  rw [encF_yes (by rfl) d4] at hf2
  have EE1 := Lib.hid (encE_ok (v := 3) (by rfl) d3)
  have EE2 := Lib.hid (encE_ok (v := 3) (by rfl) d4)
  have bk : (f1.kind == f2.kind) = false := by rw [← hf1, ← hf2]; simpa using g5
  rw [show (r.kind == s.kind) = false by simpa using g5] at hs
  simp only [Bool.false_and] at hs
  have hs := Lib.hid hs
  clear hf1 hf2
  go_enter Try.func8, Try.ntmps8
  go_wp2_with (first
    | (go_at_call 13
       with_reducible refine (light8_any _ r (BkArr.kept H1.out K.out (by simp))).mono ?_
       go_must (rintro e w1 ⟨rfl, k1⟩)
       go_must (rw [d1])
       go_must (have P := Lib.hid (P.out.kept k1 (by simp)))
       go_must (have Q := Lib.hid (Q.out.kept k1 (by simp)))
       go_must (have K := Lib.hid (K.out.trans k1 (by simp)))
       go_must (first | (clear hcx hcy) | skip)
       go_must (first | (clear hcf) | skip)
       go_must (clear k1)
       go_must (have hcx := P.out.cell)
       go_must (have hcy := Q.out.cell))
    | (go_at_call 13
       with_reducible refine (light8_any _ s (BkArr.kept H2.out K.out (by simp))).mono ?_
       go_must (rintro e w2 ⟨rfl, k1⟩)
       go_must (rw [d2])
       go_must (have P := Lib.hid (P.out.kept k1 (by simp)))
       go_must (have Q := Lib.hid (Q.out.kept k1 (by simp)))
       go_must (have K := Lib.hid (K.out.trans k1 (by simp)))
       go_must (first | (clear hcx hcy) | skip)
       go_must (first | (clear hcf) | skip)
       go_must (clear k1)
       go_must (have hcx := P.out.cell)
       go_must (have hcy := Q.out.cell))
    | (go_at_call 18
       with_reducible refine (May_any _ r (Hs1.out g1 _ K.out)).mono ?_
       go_must (rintro e w3 ⟨rfl, k1⟩)
       go_must (rw [d3])
       go_must (have P := Lib.hid (P.out.kept k1 (by simp)))
       go_must (have Q := Lib.hid (Q.out.kept k1 (by simp)))
       go_must (have K := Lib.hid (K.out.trans k1 (by simp)))
       go_must (first | (clear hcx hcy) | skip)
       go_must (first | (clear hcf) | skip)
       go_must (clear k1)
       go_must (have hcx := P.out.cell)
       go_must (have hcy := Q.out.cell))
    | (go_at_call 18
       with_reducible refine (May_any _ s (Hs2.out g2 _ K.out)).mono ?_
       go_must (rintro e w4 ⟨rfl, k1⟩)
       go_must (rw [d4])
       go_must (have P := Lib.hid (P.out.kept k1 (by simp)))
       go_must (have Q := Lib.hid (Q.out.kept k1 (by simp)))
       go_must (have K := Lib.hid (K.out.trans k1 (by simp)))
       go_must (first | (clear hcx hcy) | skip)
       go_must (first | (clear hcf) | skip)
       go_must (clear k1)
       go_must (have hcx := P.out.cell)
       go_must (have hcy := Q.out.cell))
    | (go_at_call 15
       with_reducible refine (Encode_any _ r 3 (Hs1.out g1 _ K.out) (by omega)).mono ?_
       go_must (rintro e w5 ⟨sl, rfl, hn⟩)
       go_must (rw [EF1.out] at hn ⊢)
       go_must (rw [EE1.out])
       go_must (have N1 := Lib.hid (NB.of hn))
       go_must (obtain ⟨A1, m1, c1, rfl⟩ := N1.out.form)
       go_must (have hk := N1.out.kept)
       go_must (clear hn)
       go_must (have P := Lib.hid (P.out.kept hk (by simp)))
       go_must (have Q := Lib.hid (Q.out.kept hk (by simp)))
       go_must (have K := Lib.hid (K.out.trans hk (by simp)))
       go_must (clear hcx hcy hk)
       go_must (have hcx := fun o => (P.out.alloc o).cell)
       go_must (have hcy := fun o => (Q.out.alloc o).cell))
    | (go_at_call 15
       with_reducible refine (Encode_any _ s 3 (Hs2.out g2 _ (K.out.alloc _)) (by omega)).mono ?_
       go_must (rintro e w6 ⟨sl, rfl, hn⟩)
       go_must (rw [EF2.out] at hn ⊢)
       go_must (rw [EE2.out])
       go_must (have N2 := Lib.hid (NB.of hn))
       go_must (obtain ⟨A2, m2, c2, rfl⟩ := N2.out.form)
       go_must (have hk := N2.out.kept)
       go_must (clear hn hcx hcy)
       go_must (have hka : Kept [] w5 (w5.alloc (.cells #[.int .i64 f1.kind, .int .i64 f1.ver, .slice A1 m1 c1] 34)) := (Kept.refl [] _).alloc _)
       go_must (have X1 := Lib.hid ((show Blk (w5.alloc (.cells #[.int .i64 f1.kind, .int .i64 f1.ver, .slice A1 m1 c1] 34)) w5.heap.size 34 #[.int .i64 f1.kind, .int .i64 f1.ver, .slice A1 m1 c1] from by (repeat (first | (apply Blk.new'; simp; done) | apply Blk.alloc | apply Blk.drew))).kept hk (by simp)))
       go_must (have P := Lib.hid (P.out.kept hka (by simp)))
       go_must (have Q := Lib.hid (Q.out.kept hka (by simp)))
       go_must (have K := Lib.hid (K.out.trans hka (by simp)))
       go_must (have N1 := Lib.hid (N1.out.go hka))
       go_must (have P := Lib.hid (P.out.kept hk (by simp)))
       go_must (have Q := Lib.hid (Q.out.kept hk (by simp)))
       go_must (have K := Lib.hid (K.out.trans hk (by simp)))
       go_must (have N1 := Lib.hid (N1.out.go hk))
       go_must (clear hk hka)
       go_must (have hlx := X1.out.lt)
       go_must (have hcx := fun o => (P.out.alloc o).cell)
       go_must (have hcy := fun o => (Q.out.alloc o).cell)
       go_must (have hcf := fun o => (X1.out.alloc o).cell)
       go_must (have q1 := run_str ((N1.out.go ((Kept.refl [] w6).alloc (.cells #[.int .i64 f2.kind, .int .i64 f2.ver, .slice A2 m2 c2] 34))).rd))
       go_must (have q2 := run_str ((N2.out.go ((Kept.refl [] w6).alloc (.cells #[.int .i64 f2.kind, .int .i64 f2.ver, .slice A2 m2 c2] 34))).rd))
       go_must (have t1 := strOf_toList f1.body)
       go_must (have t2 := strOf_toList f2.body))
    | (go_at_call 26
       go_must (refine (SameR_any _ r s (Hs1.out g1 _ (K.out.alloc _)) (Hs2.out g2 _ (K.out.alloc _))).mono ?_)
       go_must (rintro e w7 ⟨rfl, k1⟩)
       go_must (rw [hs.out])
       go_must (have K := Lib.hid ((K.out.alloc _).trans k1 (by simp)))
       go_must (clear k1 hcx hcy hcf))
    | (go_at_call 14
       go_must (refine (awake8_any _).mono ?_)
       go_must (rintro e w8 ⟨rfl, k1⟩)
       go_must (have K := Lib.hid (K.out.trans k1 (by simp)))
       go_must (clear k1)))
  go_ret
  exact ⟨rfl, K.out⟩

set_option maxHeartbeats 6400000 in
set_option maxRecDepth 100000 in
theorem RecordApart_6 (w : World) {A : Option Addr} {m c : Nat} {B : Option Addr} {n d : Nat} (r s : RecD) (g1 : m ≤ 40) (g2 : n ≤ 40) (d3 : mayR r = true) (d4 : mayR s = true) (g5 : r.kind = s.kind) (g6 : (bodyR r 3 == bodyR s 3) = false) (h1 : BkArr w (old w) (.slice A m c) r.backs) (h2 : BkArr w (old w) (.slice B n d) s.backs) :
    Calls Try.prog 8 #[.agg #[.int .i64 r.kind, .int .u32 (r.tup.src.toNat : Nat), .int .u32 (r.tup.dst.toNat : Nat), .int .i64 r.tup.proto, .int .i64 r.tup.sport, .int .i64 r.tup.dport, .int .i64 r.fb, .int .i64 r.fg, .int .i64 r.fs, .int .i64 r.gen, .slice A m c, .int .i64 r.back, .int .i64 r.until_, .int .i64 r.count], .agg #[.int .i64 s.kind, .int .u32 (s.tup.src.toNat : Nat), .int .u32 (s.tup.dst.toNat : Nat), .int .i64 s.tup.proto, .int .i64 s.tup.sport, .int .i64 s.tup.dport, .int .i64 s.fb, .int .i64 s.fg, .int .i64 s.fs, .int .i64 s.gen, .slice B n d, .int .i64 s.back, .int .i64 s.until_, .int .i64 s.count]] w fun e w' => e = .returned (.bool true) ∧ Kept [] w w' := by
  have hk0 : Kept [] w ((w.alloc (.cells #[.int .i64 r.kind, .int .u32 (r.tup.src.toNat : Nat), .int .u32 (r.tup.dst.toNat : Nat), .int .i64 r.tup.proto, .int .i64 r.tup.sport, .int .i64 r.tup.dport, .int .i64 r.fb, .int .i64 r.fg, .int .i64 r.fs, .int .i64 r.gen, .slice A m c, .int .i64 r.back, .int .i64 r.until_, .int .i64 r.count] 29)).alloc (.cells #[.int .i64 s.kind, .int .u32 (s.tup.src.toNat : Nat), .int .u32 (s.tup.dst.toNat : Nat), .int .i64 s.tup.proto, .int .i64 s.tup.sport, .int .i64 s.tup.dport, .int .i64 s.fb, .int .i64 s.fg, .int .i64 s.fs, .int .i64 s.gen, .slice B n d, .int .i64 s.back, .int .i64 s.until_, .int .i64 s.count] 29)) := by (repeat (first | exact Kept.refl _ _ | apply Kept.alloc | apply Kept.drew))
  have P := Lib.hid (show Blk ((w.alloc (.cells #[.int .i64 r.kind, .int .u32 (r.tup.src.toNat : Nat), .int .u32 (r.tup.dst.toNat : Nat), .int .i64 r.tup.proto, .int .i64 r.tup.sport, .int .i64 r.tup.dport, .int .i64 r.fb, .int .i64 r.fg, .int .i64 r.fs, .int .i64 r.gen, .slice A m c, .int .i64 r.back, .int .i64 r.until_, .int .i64 r.count] 29)).alloc (.cells #[.int .i64 s.kind, .int .u32 (s.tup.src.toNat : Nat), .int .u32 (s.tup.dst.toNat : Nat), .int .i64 s.tup.proto, .int .i64 s.tup.sport, .int .i64 s.tup.dport, .int .i64 s.fb, .int .i64 s.fg, .int .i64 s.fs, .int .i64 s.gen, .slice B n d, .int .i64 s.back, .int .i64 s.until_, .int .i64 s.count] 29)) w.heap.size 29 #[.int .i64 r.kind, .int .u32 (r.tup.src.toNat : Nat), .int .u32 (r.tup.dst.toNat : Nat), .int .i64 r.tup.proto, .int .i64 r.tup.sport, .int .i64 r.tup.dport, .int .i64 r.fb, .int .i64 r.fg, .int .i64 r.fs, .int .i64 r.gen, .slice A m c, .int .i64 r.back, .int .i64 r.until_, .int .i64 r.count] from by (repeat (first | (apply Blk.new'; simp; done) | apply Blk.alloc | apply Blk.drew)))
  have Q := Lib.hid (show Blk ((w.alloc (.cells #[.int .i64 r.kind, .int .u32 (r.tup.src.toNat : Nat), .int .u32 (r.tup.dst.toNat : Nat), .int .i64 r.tup.proto, .int .i64 r.tup.sport, .int .i64 r.tup.dport, .int .i64 r.fb, .int .i64 r.fg, .int .i64 r.fs, .int .i64 r.gen, .slice A m c, .int .i64 r.back, .int .i64 r.until_, .int .i64 r.count] 29)).alloc (.cells #[.int .i64 s.kind, .int .u32 (s.tup.src.toNat : Nat), .int .u32 (s.tup.dst.toNat : Nat), .int .i64 s.tup.proto, .int .i64 s.tup.sport, .int .i64 s.tup.dport, .int .i64 s.fb, .int .i64 s.fg, .int .i64 s.fs, .int .i64 s.gen, .slice B n d, .int .i64 s.back, .int .i64 s.until_, .int .i64 s.count] 29)) (w.heap.size + 1) 29 #[.int .i64 s.kind, .int .u32 (s.tup.src.toNat : Nat), .int .u32 (s.tup.dst.toNat : Nat), .int .i64 s.tup.proto, .int .i64 s.tup.sport, .int .i64 s.tup.dport, .int .i64 s.fb, .int .i64 s.fg, .int .i64 s.fs, .int .i64 s.gen, .slice B n d, .int .i64 s.back, .int .i64 s.until_, .int .i64 s.count] from by (repeat (first | (apply Blk.new'; simp; done) | apply Blk.alloc | apply Blk.drew)))
  have K := Lib.hid hk0
  have H1 := Lib.hid (BkArr.kept h1 (Kept.refl [] w) (by simp))
  have H2 := Lib.hid (BkArr.kept h2 (Kept.refl [] w) (by simp))
  have Hs1 : Hid (m ≤ 40 → ∀ w', Kept [] w w' → SmallB w' (old w) A m c r.backs) := Lib.hid (fun hm w' hk => ⟨BkArr.kept h1 hk (by simp), fun k hk' => Nat.lt_of_lt_of_le (List.mem_range.1 hk') hk.size, by omega⟩)
  have Hs2 : Hid (n ≤ 40 → ∀ w', Kept [] w w' → SmallB w' (old w) B n d s.backs) := Lib.hid (fun hm w' hk => ⟨BkArr.kept h2 hk (by simp), fun k hk' => Nat.lt_of_lt_of_le (List.mem_range.1 hk') hk.size, by omega⟩)
  clear h1 h2 hk0
  have d1 : decide (m ≤ 40) = true := by simpa using g1
  have d2 : decide (n ≤ 40) = true := by simpa using g2
  have hs := same_body d3 d4
  obtain ⟨f1, hf1⟩ : ∃ f, encF r 3 = f := ⟨_, rfl⟩
  obtain ⟨f2, hf2⟩ : ∃ f, encF s 3 = f := ⟨_, rfl⟩
  have EF1 := Lib.hid hf1
  have EF2 := Lib.hid hf2
  rw [encF_yes (by rfl) d3] at hf1
  rw [encF_yes (by rfl) d4] at hf2
  have EE1 := Lib.hid (encE_ok (v := 3) (by rfl) d3)
  have EE2 := Lib.hid (encE_ok (v := 3) (by rfl) d4)
  have bk : (f1.kind == f2.kind) = true := by rw [← hf1, ← hf2]; simpa using g5
  rw [show (r.kind == s.kind) = true by simpa using g5] at hs
  simp only [Bool.true_and] at hs
  have HS := Lib.hid (hs.trans g6)
  rw [show bodyR r 3 = f1.body by rw [← hf1], show bodyR s 3 = f2.body by rw [← hf2]] at g6
  clear hf1 hf2 hs g5
  have hs := HS
  go_enter Try.func8, Try.ntmps8
  go_wp2_with (first
    | (go_at_call 13
       with_reducible refine (light8_any _ r (BkArr.kept H1.out K.out (by simp))).mono ?_
       go_must (rintro e w1 ⟨rfl, k1⟩)
       go_must (rw [d1])
       go_must (have P := Lib.hid (P.out.kept k1 (by simp)))
       go_must (have Q := Lib.hid (Q.out.kept k1 (by simp)))
       go_must (have K := Lib.hid (K.out.trans k1 (by simp)))
       go_must (first | (clear hcx hcy) | skip)
       go_must (first | (clear hcf) | skip)
       go_must (clear k1)
       go_must (have hcx := P.out.cell)
       go_must (have hcy := Q.out.cell))
    | (go_at_call 13
       with_reducible refine (light8_any _ s (BkArr.kept H2.out K.out (by simp))).mono ?_
       go_must (rintro e w2 ⟨rfl, k1⟩)
       go_must (rw [d2])
       go_must (have P := Lib.hid (P.out.kept k1 (by simp)))
       go_must (have Q := Lib.hid (Q.out.kept k1 (by simp)))
       go_must (have K := Lib.hid (K.out.trans k1 (by simp)))
       go_must (first | (clear hcx hcy) | skip)
       go_must (first | (clear hcf) | skip)
       go_must (clear k1)
       go_must (have hcx := P.out.cell)
       go_must (have hcy := Q.out.cell))
    | (go_at_call 18
       with_reducible refine (May_any _ r (Hs1.out g1 _ K.out)).mono ?_
       go_must (rintro e w3 ⟨rfl, k1⟩)
       go_must (rw [d3])
       go_must (have P := Lib.hid (P.out.kept k1 (by simp)))
       go_must (have Q := Lib.hid (Q.out.kept k1 (by simp)))
       go_must (have K := Lib.hid (K.out.trans k1 (by simp)))
       go_must (first | (clear hcx hcy) | skip)
       go_must (first | (clear hcf) | skip)
       go_must (clear k1)
       go_must (have hcx := P.out.cell)
       go_must (have hcy := Q.out.cell))
    | (go_at_call 18
       with_reducible refine (May_any _ s (Hs2.out g2 _ K.out)).mono ?_
       go_must (rintro e w4 ⟨rfl, k1⟩)
       go_must (rw [d4])
       go_must (have P := Lib.hid (P.out.kept k1 (by simp)))
       go_must (have Q := Lib.hid (Q.out.kept k1 (by simp)))
       go_must (have K := Lib.hid (K.out.trans k1 (by simp)))
       go_must (first | (clear hcx hcy) | skip)
       go_must (first | (clear hcf) | skip)
       go_must (clear k1)
       go_must (have hcx := P.out.cell)
       go_must (have hcy := Q.out.cell))
    | (go_at_call 15
       with_reducible refine (Encode_any _ r 3 (Hs1.out g1 _ K.out) (by omega)).mono ?_
       go_must (rintro e w5 ⟨sl, rfl, hn⟩)
       go_must (rw [EF1.out] at hn ⊢)
       go_must (rw [EE1.out])
       go_must (have N1 := Lib.hid (NB.of hn))
       go_must (obtain ⟨A1, m1, c1, rfl⟩ := N1.out.form)
       go_must (have hk := N1.out.kept)
       go_must (clear hn)
       go_must (have P := Lib.hid (P.out.kept hk (by simp)))
       go_must (have Q := Lib.hid (Q.out.kept hk (by simp)))
       go_must (have K := Lib.hid (K.out.trans hk (by simp)))
       go_must (clear hcx hcy hk)
       go_must (have hcx := fun o => (P.out.alloc o).cell)
       go_must (have hcy := fun o => (Q.out.alloc o).cell))
    | (go_at_call 15
       with_reducible refine (Encode_any _ s 3 (Hs2.out g2 _ (K.out.alloc _)) (by omega)).mono ?_
       go_must (rintro e w6 ⟨sl, rfl, hn⟩)
       go_must (rw [EF2.out] at hn ⊢)
       go_must (rw [EE2.out])
       go_must (have N2 := Lib.hid (NB.of hn))
       go_must (obtain ⟨A2, m2, c2, rfl⟩ := N2.out.form)
       go_must (have hk := N2.out.kept)
       go_must (clear hn hcx hcy)
       go_must (have hka : Kept [] w5 (w5.alloc (.cells #[.int .i64 f1.kind, .int .i64 f1.ver, .slice A1 m1 c1] 34)) := (Kept.refl [] _).alloc _)
       go_must (have X1 := Lib.hid ((show Blk (w5.alloc (.cells #[.int .i64 f1.kind, .int .i64 f1.ver, .slice A1 m1 c1] 34)) w5.heap.size 34 #[.int .i64 f1.kind, .int .i64 f1.ver, .slice A1 m1 c1] from by (repeat (first | (apply Blk.new'; simp; done) | apply Blk.alloc | apply Blk.drew))).kept hk (by simp)))
       go_must (have P := Lib.hid (P.out.kept hka (by simp)))
       go_must (have Q := Lib.hid (Q.out.kept hka (by simp)))
       go_must (have K := Lib.hid (K.out.trans hka (by simp)))
       go_must (have N1 := Lib.hid (N1.out.go hka))
       go_must (have P := Lib.hid (P.out.kept hk (by simp)))
       go_must (have Q := Lib.hid (Q.out.kept hk (by simp)))
       go_must (have K := Lib.hid (K.out.trans hk (by simp)))
       go_must (have N1 := Lib.hid (N1.out.go hk))
       go_must (clear hk hka)
       go_must (have hlx := X1.out.lt)
       go_must (have hcx := fun o => (P.out.alloc o).cell)
       go_must (have hcy := fun o => (Q.out.alloc o).cell)
       go_must (have hcf := fun o => (X1.out.alloc o).cell)
       go_must (have q1 := run_str ((N1.out.go ((Kept.refl [] w6).alloc (.cells #[.int .i64 f2.kind, .int .i64 f2.ver, .slice A2 m2 c2] 34))).rd))
       go_must (have q2 := run_str ((N2.out.go ((Kept.refl [] w6).alloc (.cells #[.int .i64 f2.kind, .int .i64 f2.ver, .slice A2 m2 c2] 34))).rd))
       go_must (have t1 := strOf_toList f1.body)
       go_must (have t2 := strOf_toList f2.body))
    | (go_at_call 26
       go_must (refine (SameR_any _ r s (Hs1.out g1 _ (K.out.alloc _)) (Hs2.out g2 _ (K.out.alloc _))).mono ?_)
       go_must (rintro e w7 ⟨rfl, k1⟩)
       go_must (rw [hs.out])
       go_must (have K := Lib.hid ((K.out.alloc _).trans k1 (by simp)))
       go_must (clear k1 hcx hcy hcf))
    | (go_at_call 14
       go_must (refine (awake8_any _).mono ?_)
       go_must (rintro e w8 ⟨rfl, k1⟩)
       go_must (have K := Lib.hid (K.out.trans k1 (by simp)))
       go_must (clear k1)))
  go_ret
  exact ⟨rfl, K.out⟩

set_option maxHeartbeats 6400000 in
set_option maxRecDepth 100000 in
theorem RecordApart_7 (w : World) {A : Option Addr} {m c : Nat} {B : Option Addr} {n d : Nat} (r s : RecD) (g1 : m ≤ 40) (g2 : n ≤ 40) (d3 : mayR r = true) (d4 : mayR s = true) (g5 : r.kind = s.kind) (g6 : (bodyR r 3 == bodyR s 3) = true) (h1 : BkArr w (old w) (.slice A m c) r.backs) (h2 : BkArr w (old w) (.slice B n d) s.backs) :
    Calls Try.prog 8 #[.agg #[.int .i64 r.kind, .int .u32 (r.tup.src.toNat : Nat), .int .u32 (r.tup.dst.toNat : Nat), .int .i64 r.tup.proto, .int .i64 r.tup.sport, .int .i64 r.tup.dport, .int .i64 r.fb, .int .i64 r.fg, .int .i64 r.fs, .int .i64 r.gen, .slice A m c, .int .i64 r.back, .int .i64 r.until_, .int .i64 r.count], .agg #[.int .i64 s.kind, .int .u32 (s.tup.src.toNat : Nat), .int .u32 (s.tup.dst.toNat : Nat), .int .i64 s.tup.proto, .int .i64 s.tup.sport, .int .i64 s.tup.dport, .int .i64 s.fb, .int .i64 s.fg, .int .i64 s.fs, .int .i64 s.gen, .slice B n d, .int .i64 s.back, .int .i64 s.until_, .int .i64 s.count]] w fun e w' => e = .returned (.bool true) ∧ Kept [] w w' := by
  have hk0 : Kept [] w ((w.alloc (.cells #[.int .i64 r.kind, .int .u32 (r.tup.src.toNat : Nat), .int .u32 (r.tup.dst.toNat : Nat), .int .i64 r.tup.proto, .int .i64 r.tup.sport, .int .i64 r.tup.dport, .int .i64 r.fb, .int .i64 r.fg, .int .i64 r.fs, .int .i64 r.gen, .slice A m c, .int .i64 r.back, .int .i64 r.until_, .int .i64 r.count] 29)).alloc (.cells #[.int .i64 s.kind, .int .u32 (s.tup.src.toNat : Nat), .int .u32 (s.tup.dst.toNat : Nat), .int .i64 s.tup.proto, .int .i64 s.tup.sport, .int .i64 s.tup.dport, .int .i64 s.fb, .int .i64 s.fg, .int .i64 s.fs, .int .i64 s.gen, .slice B n d, .int .i64 s.back, .int .i64 s.until_, .int .i64 s.count] 29)) := by (repeat (first | exact Kept.refl _ _ | apply Kept.alloc | apply Kept.drew))
  have P := Lib.hid (show Blk ((w.alloc (.cells #[.int .i64 r.kind, .int .u32 (r.tup.src.toNat : Nat), .int .u32 (r.tup.dst.toNat : Nat), .int .i64 r.tup.proto, .int .i64 r.tup.sport, .int .i64 r.tup.dport, .int .i64 r.fb, .int .i64 r.fg, .int .i64 r.fs, .int .i64 r.gen, .slice A m c, .int .i64 r.back, .int .i64 r.until_, .int .i64 r.count] 29)).alloc (.cells #[.int .i64 s.kind, .int .u32 (s.tup.src.toNat : Nat), .int .u32 (s.tup.dst.toNat : Nat), .int .i64 s.tup.proto, .int .i64 s.tup.sport, .int .i64 s.tup.dport, .int .i64 s.fb, .int .i64 s.fg, .int .i64 s.fs, .int .i64 s.gen, .slice B n d, .int .i64 s.back, .int .i64 s.until_, .int .i64 s.count] 29)) w.heap.size 29 #[.int .i64 r.kind, .int .u32 (r.tup.src.toNat : Nat), .int .u32 (r.tup.dst.toNat : Nat), .int .i64 r.tup.proto, .int .i64 r.tup.sport, .int .i64 r.tup.dport, .int .i64 r.fb, .int .i64 r.fg, .int .i64 r.fs, .int .i64 r.gen, .slice A m c, .int .i64 r.back, .int .i64 r.until_, .int .i64 r.count] from by (repeat (first | (apply Blk.new'; simp; done) | apply Blk.alloc | apply Blk.drew)))
  have Q := Lib.hid (show Blk ((w.alloc (.cells #[.int .i64 r.kind, .int .u32 (r.tup.src.toNat : Nat), .int .u32 (r.tup.dst.toNat : Nat), .int .i64 r.tup.proto, .int .i64 r.tup.sport, .int .i64 r.tup.dport, .int .i64 r.fb, .int .i64 r.fg, .int .i64 r.fs, .int .i64 r.gen, .slice A m c, .int .i64 r.back, .int .i64 r.until_, .int .i64 r.count] 29)).alloc (.cells #[.int .i64 s.kind, .int .u32 (s.tup.src.toNat : Nat), .int .u32 (s.tup.dst.toNat : Nat), .int .i64 s.tup.proto, .int .i64 s.tup.sport, .int .i64 s.tup.dport, .int .i64 s.fb, .int .i64 s.fg, .int .i64 s.fs, .int .i64 s.gen, .slice B n d, .int .i64 s.back, .int .i64 s.until_, .int .i64 s.count] 29)) (w.heap.size + 1) 29 #[.int .i64 s.kind, .int .u32 (s.tup.src.toNat : Nat), .int .u32 (s.tup.dst.toNat : Nat), .int .i64 s.tup.proto, .int .i64 s.tup.sport, .int .i64 s.tup.dport, .int .i64 s.fb, .int .i64 s.fg, .int .i64 s.fs, .int .i64 s.gen, .slice B n d, .int .i64 s.back, .int .i64 s.until_, .int .i64 s.count] from by (repeat (first | (apply Blk.new'; simp; done) | apply Blk.alloc | apply Blk.drew)))
  have K := Lib.hid hk0
  have H1 := Lib.hid (BkArr.kept h1 (Kept.refl [] w) (by simp))
  have H2 := Lib.hid (BkArr.kept h2 (Kept.refl [] w) (by simp))
  have Hs1 : Hid (m ≤ 40 → ∀ w', Kept [] w w' → SmallB w' (old w) A m c r.backs) := Lib.hid (fun hm w' hk => ⟨BkArr.kept h1 hk (by simp), fun k hk' => Nat.lt_of_lt_of_le (List.mem_range.1 hk') hk.size, by omega⟩)
  have Hs2 : Hid (n ≤ 40 → ∀ w', Kept [] w w' → SmallB w' (old w) B n d s.backs) := Lib.hid (fun hm w' hk => ⟨BkArr.kept h2 hk (by simp), fun k hk' => Nat.lt_of_lt_of_le (List.mem_range.1 hk') hk.size, by omega⟩)
  clear h1 h2 hk0
  have d1 : decide (m ≤ 40) = true := by simpa using g1
  have d2 : decide (n ≤ 40) = true := by simpa using g2
  have hs := same_body d3 d4
  obtain ⟨f1, hf1⟩ : ∃ f, encF r 3 = f := ⟨_, rfl⟩
  obtain ⟨f2, hf2⟩ : ∃ f, encF s 3 = f := ⟨_, rfl⟩
  have EF1 := Lib.hid hf1
  have EF2 := Lib.hid hf2
  rw [encF_yes (by rfl) d3] at hf1
  rw [encF_yes (by rfl) d4] at hf2
  have EE1 := Lib.hid (encE_ok (v := 3) (by rfl) d3)
  have EE2 := Lib.hid (encE_ok (v := 3) (by rfl) d4)
  have bk : (f1.kind == f2.kind) = true := by rw [← hf1, ← hf2]; simpa using g5
  rw [show (r.kind == s.kind) = true by simpa using g5] at hs
  simp only [Bool.true_and] at hs
  have HS := Lib.hid (hs.trans g6)
  rw [show bodyR r 3 = f1.body by rw [← hf1], show bodyR s 3 = f2.body by rw [← hf2]] at g6
  clear hf1 hf2 hs g5
  have hs := HS
  go_enter Try.func8, Try.ntmps8
  go_wp2_with (first
    | (go_at_call 13
       with_reducible refine (light8_any _ r (BkArr.kept H1.out K.out (by simp))).mono ?_
       go_must (rintro e w1 ⟨rfl, k1⟩)
       go_must (rw [d1])
       go_must (have P := Lib.hid (P.out.kept k1 (by simp)))
       go_must (have Q := Lib.hid (Q.out.kept k1 (by simp)))
       go_must (have K := Lib.hid (K.out.trans k1 (by simp)))
       go_must (first | (clear hcx hcy) | skip)
       go_must (first | (clear hcf) | skip)
       go_must (clear k1)
       go_must (have hcx := P.out.cell)
       go_must (have hcy := Q.out.cell))
    | (go_at_call 13
       with_reducible refine (light8_any _ s (BkArr.kept H2.out K.out (by simp))).mono ?_
       go_must (rintro e w2 ⟨rfl, k1⟩)
       go_must (rw [d2])
       go_must (have P := Lib.hid (P.out.kept k1 (by simp)))
       go_must (have Q := Lib.hid (Q.out.kept k1 (by simp)))
       go_must (have K := Lib.hid (K.out.trans k1 (by simp)))
       go_must (first | (clear hcx hcy) | skip)
       go_must (first | (clear hcf) | skip)
       go_must (clear k1)
       go_must (have hcx := P.out.cell)
       go_must (have hcy := Q.out.cell))
    | (go_at_call 18
       with_reducible refine (May_any _ r (Hs1.out g1 _ K.out)).mono ?_
       go_must (rintro e w3 ⟨rfl, k1⟩)
       go_must (rw [d3])
       go_must (have P := Lib.hid (P.out.kept k1 (by simp)))
       go_must (have Q := Lib.hid (Q.out.kept k1 (by simp)))
       go_must (have K := Lib.hid (K.out.trans k1 (by simp)))
       go_must (first | (clear hcx hcy) | skip)
       go_must (first | (clear hcf) | skip)
       go_must (clear k1)
       go_must (have hcx := P.out.cell)
       go_must (have hcy := Q.out.cell))
    | (go_at_call 18
       with_reducible refine (May_any _ s (Hs2.out g2 _ K.out)).mono ?_
       go_must (rintro e w4 ⟨rfl, k1⟩)
       go_must (rw [d4])
       go_must (have P := Lib.hid (P.out.kept k1 (by simp)))
       go_must (have Q := Lib.hid (Q.out.kept k1 (by simp)))
       go_must (have K := Lib.hid (K.out.trans k1 (by simp)))
       go_must (first | (clear hcx hcy) | skip)
       go_must (first | (clear hcf) | skip)
       go_must (clear k1)
       go_must (have hcx := P.out.cell)
       go_must (have hcy := Q.out.cell))
    | (go_at_call 15
       with_reducible refine (Encode_any _ r 3 (Hs1.out g1 _ K.out) (by omega)).mono ?_
       go_must (rintro e w5 ⟨sl, rfl, hn⟩)
       go_must (rw [EF1.out] at hn ⊢)
       go_must (rw [EE1.out])
       go_must (have N1 := Lib.hid (NB.of hn))
       go_must (obtain ⟨A1, m1, c1, rfl⟩ := N1.out.form)
       go_must (have hk := N1.out.kept)
       go_must (clear hn)
       go_must (have P := Lib.hid (P.out.kept hk (by simp)))
       go_must (have Q := Lib.hid (Q.out.kept hk (by simp)))
       go_must (have K := Lib.hid (K.out.trans hk (by simp)))
       go_must (clear hcx hcy hk)
       go_must (have hcx := fun o => (P.out.alloc o).cell)
       go_must (have hcy := fun o => (Q.out.alloc o).cell))
    | (go_at_call 15
       with_reducible refine (Encode_any _ s 3 (Hs2.out g2 _ (K.out.alloc _)) (by omega)).mono ?_
       go_must (rintro e w6 ⟨sl, rfl, hn⟩)
       go_must (rw [EF2.out] at hn ⊢)
       go_must (rw [EE2.out])
       go_must (have N2 := Lib.hid (NB.of hn))
       go_must (obtain ⟨A2, m2, c2, rfl⟩ := N2.out.form)
       go_must (have hk := N2.out.kept)
       go_must (clear hn hcx hcy)
       go_must (have hka : Kept [] w5 (w5.alloc (.cells #[.int .i64 f1.kind, .int .i64 f1.ver, .slice A1 m1 c1] 34)) := (Kept.refl [] _).alloc _)
       go_must (have X1 := Lib.hid ((show Blk (w5.alloc (.cells #[.int .i64 f1.kind, .int .i64 f1.ver, .slice A1 m1 c1] 34)) w5.heap.size 34 #[.int .i64 f1.kind, .int .i64 f1.ver, .slice A1 m1 c1] from by (repeat (first | (apply Blk.new'; simp; done) | apply Blk.alloc | apply Blk.drew))).kept hk (by simp)))
       go_must (have P := Lib.hid (P.out.kept hka (by simp)))
       go_must (have Q := Lib.hid (Q.out.kept hka (by simp)))
       go_must (have K := Lib.hid (K.out.trans hka (by simp)))
       go_must (have N1 := Lib.hid (N1.out.go hka))
       go_must (have P := Lib.hid (P.out.kept hk (by simp)))
       go_must (have Q := Lib.hid (Q.out.kept hk (by simp)))
       go_must (have K := Lib.hid (K.out.trans hk (by simp)))
       go_must (have N1 := Lib.hid (N1.out.go hk))
       go_must (clear hk hka)
       go_must (have hlx := X1.out.lt)
       go_must (have hcx := fun o => (P.out.alloc o).cell)
       go_must (have hcy := fun o => (Q.out.alloc o).cell)
       go_must (have hcf := fun o => (X1.out.alloc o).cell)
       go_must (have q1 := run_str ((N1.out.go ((Kept.refl [] w6).alloc (.cells #[.int .i64 f2.kind, .int .i64 f2.ver, .slice A2 m2 c2] 34))).rd))
       go_must (have q2 := run_str ((N2.out.go ((Kept.refl [] w6).alloc (.cells #[.int .i64 f2.kind, .int .i64 f2.ver, .slice A2 m2 c2] 34))).rd))
       go_must (have t1 := strOf_toList f1.body)
       go_must (have t2 := strOf_toList f2.body))
    | (go_at_call 26
       go_must (refine (SameR_any _ r s (Hs1.out g1 _ (K.out.alloc _)) (Hs2.out g2 _ (K.out.alloc _))).mono ?_)
       go_must (rintro e w7 ⟨rfl, k1⟩)
       go_must (rw [hs.out])
       go_must (have K := Lib.hid ((K.out.alloc _).trans k1 (by simp)))
       go_must (clear k1 hcx hcy hcf))
    | (go_at_call 14
       go_must (refine (awake8_any _).mono ?_)
       go_must (rintro e w8 ⟨rfl, k1⟩)
       go_must (have K := Lib.hid (K.out.trans k1 (by simp)))
       go_must (clear k1)))
  go_ret
  exact ⟨rfl, K.out⟩

theorem RecordApart_any (w : World) {A : Option Addr} {m c : Nat} {B : Option Addr} {n d : Nat} (r s : RecD) (h1 : BkArr w (old w) (.slice A m c) r.backs) (h2 : BkArr w (old w) (.slice B n d) s.backs) :
    Calls Try.prog 8 #[.agg #[.int .i64 r.kind, .int .u32 (r.tup.src.toNat : Nat), .int .u32 (r.tup.dst.toNat : Nat), .int .i64 r.tup.proto, .int .i64 r.tup.sport, .int .i64 r.tup.dport, .int .i64 r.fb, .int .i64 r.fg, .int .i64 r.fs, .int .i64 r.gen, .slice A m c, .int .i64 r.back, .int .i64 r.until_, .int .i64 r.count], .agg #[.int .i64 s.kind, .int .u32 (s.tup.src.toNat : Nat), .int .u32 (s.tup.dst.toNat : Nat), .int .i64 s.tup.proto, .int .i64 s.tup.sport, .int .i64 s.tup.dport, .int .i64 s.fb, .int .i64 s.fg, .int .i64 s.fs, .int .i64 s.gen, .slice B n d, .int .i64 s.back, .int .i64 s.until_, .int .i64 s.count]] w fun e w' => e = .returned (.bool true) ∧ Kept [] w w' := by
  by_cases g1 : m ≤ 40
  · by_cases g2 : n ≤ 40
    · cases d3 : mayR r
      · exact RecordApart_3 w r s g1 g2 d3 h1 h2
      · cases d4 : mayR s
        · exact RecordApart_4 w r s g1 g2 d3 d4 h1 h2
        · by_cases g5 : r.kind = s.kind
          · cases g6 : (bodyR r 3 == bodyR s 3)
            · exact RecordApart_6 w r s g1 g2 d3 d4 g5 g6 h1 h2
            · exact RecordApart_7 w r s g1 g2 d3 d4 g5 g6 h1 h2
          · exact RecordApart_5 w r s g1 g2 d3 d4 g5 h1 h2
    · exact RecordApart_2 w r s g1 g2 h1 h2
  · exact RecordApart_1 w r s g1 h1 h2

set_option maxRecDepth 100000 in
theorem RecordApart_walk {H : Type} {enc : TypeId × Value → H} {S : Prop} (W : World) (base : Nat) (v0 : Value) (d0 : DataW H) (p0 : List MemPlace) (v1 : Value) (d1 : DataW H) (p1 : List MemPlace)
    (hv0 : Value.okWide Try.prog W .any base 29 v0) (hv1 : Value.okWide Try.prog W .any base 29 v1)
    (h0 : DataW.Trod enc Try.prog W 0 (fun _ => true) true 29 v0 d0 p0) (h1 : DataW.Trod enc Try.prog W 0 (fun _ => true) true 29 v1 d1 p1) (_ : S) :
    Calls Try.prog 8 #[v0, v1] W fun e W' => e = .returned (.bool true) ∧ Below W.heap.size W W' := by
  obtain ⟨r, A, m, c, rfl, hr⟩ := open_record hv0 h0
  obtain ⟨s, B, n, d, rfl, hs⟩ := open_record hv1 h1
  exact (RecordApart_any W r s hr hs).mono fun e W' ⟨h, hk⟩ => ⟨h, hk.below (Nat.le_refl _) (by simp)⟩
end Go.Proofs.Ytogdpfjbclnlnaa
