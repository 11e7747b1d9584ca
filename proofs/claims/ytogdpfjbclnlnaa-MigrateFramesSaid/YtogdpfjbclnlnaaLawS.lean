
/-
  The walk of MigrateFrames.
-/
import Derived.Test.YtogdpfjbclnlnaaMigC
import Derived.Test.YtogdpfjbclnlnaaLawP
import Derived.Test.YtogdpfjbclnlnaaRecZ
import Derived.Test.YtogdpfjbclnlnaaFrameA
import Derived.Outline
namespace Go.Proofs.Ytogdpfjbclnlnaa
open Go.RowKit Go.ChangeShapes Go.WideShapes Go.Deep
set_option linter.unusedVariables false

set_option maxHeartbeats 12800000 in
set_option maxRecDepth 100000 in
theorem MigrateFrames_1 (w : World) {A : Option Addr} {m c : Nat} {B : Option Addr} {n d : Nat} (r : RecD) (v b : Int) (f : FrameD) (g1 : ¬ m ≤ 40) (h1 : BkArr w (old w) (.slice A m c) r.backs) (h2 : RdB w (old w) (.slice B n d) f.body) :
    Calls Try.prog 12 #[.agg #[.int .i64 r.kind, .int .u32 (r.tup.src.toNat : Nat), .int .u32 (r.tup.dst.toNat : Nat), .int .i64 r.tup.proto, .int .i64 r.tup.sport, .int .i64 r.tup.dport, .int .i64 r.fb, .int .i64 r.fg, .int .i64 r.fs, .int .i64 r.gen, .slice A m c, .int .i64 r.back, .int .i64 r.until_, .int .i64 r.count], .int .i64 v, .int .i64 b, .agg #[.int .i64 f.kind, .int .i64 f.ver, .slice B n d]] w fun e w' => e = .returned (.bool true) ∧ Kept [] w w' := by
  have hk0 : Kept [] w ((w.alloc (.cells #[.int .i64 r.kind, .int .u32 (r.tup.src.toNat : Nat), .int .u32 (r.tup.dst.toNat : Nat), .int .i64 r.tup.proto, .int .i64 r.tup.sport, .int .i64 r.tup.dport, .int .i64 r.fb, .int .i64 r.fg, .int .i64 r.fs, .int .i64 r.gen, .slice A m c, .int .i64 r.back, .int .i64 r.until_, .int .i64 r.count] 29)).alloc (.cells #[.int .i64 f.kind, .int .i64 f.ver, .slice B n d] 34)) := by (repeat (first | exact Kept.refl _ _ | apply Kept.alloc | apply Kept.drew))
  have P := Lib.hid (show Blk ((w.alloc (.cells #[.int .i64 r.kind, .int .u32 (r.tup.src.toNat : Nat), .int .u32 (r.tup.dst.toNat : Nat), .int .i64 r.tup.proto, .int .i64 r.tup.sport, .int .i64 r.tup.dport, .int .i64 r.fb, .int .i64 r.fg, .int .i64 r.fs, .int .i64 r.gen, .slice A m c, .int .i64 r.back, .int .i64 r.until_, .int .i64 r.count] 29)).alloc (.cells #[.int .i64 f.kind, .int .i64 f.ver, .slice B n d] 34)) w.heap.size 29 #[.int .i64 r.kind, .int .u32 (r.tup.src.toNat : Nat), .int .u32 (r.tup.dst.toNat : Nat), .int .i64 r.tup.proto, .int .i64 r.tup.sport, .int .i64 r.tup.dport, .int .i64 r.fb, .int .i64 r.fg, .int .i64 r.fs, .int .i64 r.gen, .slice A m c, .int .i64 r.back, .int .i64 r.until_, .int .i64 r.count] from by (repeat (first | (apply Blk.new'; simp; done) | apply Blk.alloc | apply Blk.drew)))
  have Q := Lib.hid (show Blk ((w.alloc (.cells #[.int .i64 r.kind, .int .u32 (r.tup.src.toNat : Nat), .int .u32 (r.tup.dst.toNat : Nat), .int .i64 r.tup.proto, .int .i64 r.tup.sport, .int .i64 r.tup.dport, .int .i64 r.fb, .int .i64 r.fg, .int .i64 r.fs, .int .i64 r.gen, .slice A m c, .int .i64 r.back, .int .i64 r.until_, .int .i64 r.count] 29)).alloc (.cells #[.int .i64 f.kind, .int .i64 f.ver, .slice B n d] 34)) (w.heap.size + 1) 34 #[.int .i64 f.kind, .int .i64 f.ver, .slice B n d] from by (repeat (first | (apply Blk.new'; simp; done) | apply Blk.alloc | apply Blk.drew)))
  have K := Lib.hid hk0
  have H1 := Lib.hid (BkArr.kept h1 (Kept.refl [] w) (by simp))
  have HF := Lib.hid (h2.kept (Kept.refl [] w) (by simp))
  have Hs1 : Hid (m ≤ 40 → ∀ w', Kept [] w w' → SmallB w' (old w) A m c r.backs) := Lib.hid (fun hm w' hk => ⟨BkArr.kept h1 hk (by simp), fun k hk' => Nat.lt_of_lt_of_le (List.mem_range.1 hk') hk.size, by omega⟩)
  clear h1 h2 hk0
  have d1 : decide (m ≤ 40) = false := by simpa using g1
  go_enter Try.func12, Try.ntmps12
  go_wp2_with (first
    | (go_at_call 19
       go_must (refine (light9_any _ r (BkArr.kept H1.out K.out (by simp))).mono ?_)
       go_must (rintro e w1 ⟨rfl, k1⟩)
       go_must (rw [d1])
       go_must (have P := Lib.hid (P.out.kept k1 (by simp)))
       go_must (have Q := Lib.hid (Q.out.kept k1 (by simp)))
       go_must (have K := Lib.hid (K.out.trans k1 (by simp)))
       go_must (clear k1)
       go_must (have hcx := P.out.cell)
       go_must (have hcy := Q.out.cell))
    | (go_at_call 20
       go_must (refine (awake9_any _).mono ?_)
       go_must (rintro e w99 ⟨rfl, k1⟩)
       go_must (have K := Lib.hid (K.out.trans k1 (by simp)))
       go_must (clear k1)))
  go_ret
  exact ⟨rfl, K.out⟩

set_option maxHeartbeats 12800000 in
set_option maxRecDepth 100000 in
theorem MigrateFrames_2 (w : World) {A : Option Addr} {m c : Nat} {B : Option Addr} {n d : Nat} (r : RecD) (v b : Int) (f : FrameD) (g1 : m ≤ 40) (g2 : ¬ n ≤ 400) (h1 : BkArr w (old w) (.slice A m c) r.backs) (h2 : RdB w (old w) (.slice B n d) f.body) :
    Calls Try.prog 12 #[.agg #[.int .i64 r.kind, .int .u32 (r.tup.src.toNat : Nat), .int .u32 (r.tup.dst.toNat : Nat), .int .i64 r.tup.proto, .int .i64 r.tup.sport, .int .i64 r.tup.dport, .int .i64 r.fb, .int .i64 r.fg, .int .i64 r.fs, .int .i64 r.gen, .slice A m c, .int .i64 r.back, .int .i64 r.until_, .int .i64 r.count], .int .i64 v, .int .i64 b, .agg #[.int .i64 f.kind, .int .i64 f.ver, .slice B n d]] w fun e w' => e = .returned (.bool true) ∧ Kept [] w w' := by
  have hk0 : Kept [] w ((w.alloc (.cells #[.int .i64 r.kind, .int .u32 (r.tup.src.toNat : Nat), .int .u32 (r.tup.dst.toNat : Nat), .int .i64 r.tup.proto, .int .i64 r.tup.sport, .int .i64 r.tup.dport, .int .i64 r.fb, .int .i64 r.fg, .int .i64 r.fs, .int .i64 r.gen, .slice A m c, .int .i64 r.back, .int .i64 r.until_, .int .i64 r.count] 29)).alloc (.cells #[.int .i64 f.kind, .int .i64 f.ver, .slice B n d] 34)) := by (repeat (first | exact Kept.refl _ _ | apply Kept.alloc | apply Kept.drew))
  have P := Lib.hid (show Blk ((w.alloc (.cells #[.int .i64 r.kind, .int .u32 (r.tup.src.toNat : Nat), .int .u32 (r.tup.dst.toNat : Nat), .int .i64 r.tup.proto, .int .i64 r.tup.sport, .int .i64 r.tup.dport, .int .i64 r.fb, .int .i64 r.fg, .int .i64 r.fs, .int .i64 r.gen, .slice A m c, .int .i64 r.back, .int .i64 r.until_, .int .i64 r.count] 29)).alloc (.cells #[.int .i64 f.kind, .int .i64 f.ver, .slice B n d] 34)) w.heap.size 29 #[.int .i64 r.kind, .int .u32 (r.tup.src.toNat : Nat), .int .u32 (r.tup.dst.toNat : Nat), .int .i64 r.tup.proto, .int .i64 r.tup.sport, .int .i64 r.tup.dport, .int .i64 r.fb, .int .i64 r.fg, .int .i64 r.fs, .int .i64 r.gen, .slice A m c, .int .i64 r.back, .int .i64 r.until_, .int .i64 r.count] from by (repeat (first | (apply Blk.new'; simp; done) | apply Blk.alloc | apply Blk.drew)))
  have Q := Lib.hid (show Blk ((w.alloc (.cells #[.int .i64 r.kind, .int .u32 (r.tup.src.toNat : Nat), .int .u32 (r.tup.dst.toNat : Nat), .int .i64 r.tup.proto, .int .i64 r.tup.sport, .int .i64 r.tup.dport, .int .i64 r.fb, .int .i64 r.fg, .int .i64 r.fs, .int .i64 r.gen, .slice A m c, .int .i64 r.back, .int .i64 r.until_, .int .i64 r.count] 29)).alloc (.cells #[.int .i64 f.kind, .int .i64 f.ver, .slice B n d] 34)) (w.heap.size + 1) 34 #[.int .i64 f.kind, .int .i64 f.ver, .slice B n d] from by (repeat (first | (apply Blk.new'; simp; done) | apply Blk.alloc | apply Blk.drew)))
  have K := Lib.hid hk0
  have H1 := Lib.hid (BkArr.kept h1 (Kept.refl [] w) (by simp))
  have HF := Lib.hid (h2.kept (Kept.refl [] w) (by simp))
  have Hs1 : Hid (m ≤ 40 → ∀ w', Kept [] w w' → SmallB w' (old w) A m c r.backs) := Lib.hid (fun hm w' hk => ⟨BkArr.kept h1 hk (by simp), fun k hk' => Nat.lt_of_lt_of_le (List.mem_range.1 hk') hk.size, by omega⟩)
  clear h1 h2 hk0
  have d1 : decide (m ≤ 40) = true := by simpa using g1
  have hnf : (400 : Int) < n := by omega
  go_enter Try.func12, Try.ntmps12
  go_wp2_with (first
    | (go_at_call 19
       go_must (refine (light9_any _ r (BkArr.kept H1.out K.out (by simp))).mono ?_)
       go_must (rintro e w1 ⟨rfl, k1⟩)
       go_must (rw [d1])
       go_must (have P := Lib.hid (P.out.kept k1 (by simp)))
       go_must (have Q := Lib.hid (Q.out.kept k1 (by simp)))
       go_must (have K := Lib.hid (K.out.trans k1 (by simp)))
       go_must (clear k1)
       go_must (have hcx := P.out.cell)
       go_must (have hcy := Q.out.cell))
    | (go_at_call 20
       go_must (refine (awake9_any _).mono ?_)
       go_must (rintro e w99 ⟨rfl, k1⟩)
       go_must (have K := Lib.hid (K.out.trans k1 (by simp)))
       go_must (clear k1)))
  go_ret
  exact ⟨rfl, K.out⟩

set_option maxHeartbeats 12800000 in
set_option maxRecDepth 100000 in
theorem MigrateFrames_3 (w : World) {A : Option Addr} {m c : Nat} {B : Option Addr} {n d : Nat} (r : RecD) (v b : Int) (f : FrameD) (g1 : m ≤ 40) (g2 : n ≤ 400) (h1 : BkArr w (old w) (.slice A m c) r.backs) (h2 : RdB w (old w) (.slice B n d) f.body) :
    Calls Try.prog 12 #[.agg #[.int .i64 r.kind, .int .u32 (r.tup.src.toNat : Nat), .int .u32 (r.tup.dst.toNat : Nat), .int .i64 r.tup.proto, .int .i64 r.tup.sport, .int .i64 r.tup.dport, .int .i64 r.fb, .int .i64 r.fg, .int .i64 r.fs, .int .i64 r.gen, .slice A m c, .int .i64 r.back, .int .i64 r.until_, .int .i64 r.count], .int .i64 v, .int .i64 b, .agg #[.int .i64 f.kind, .int .i64 f.ver, .slice B n d]] w fun e w' => e = .returned (.bool true) ∧ Kept [] w w' := by
  have hk0 : Kept [] w ((w.alloc (.cells #[.int .i64 r.kind, .int .u32 (r.tup.src.toNat : Nat), .int .u32 (r.tup.dst.toNat : Nat), .int .i64 r.tup.proto, .int .i64 r.tup.sport, .int .i64 r.tup.dport, .int .i64 r.fb, .int .i64 r.fg, .int .i64 r.fs, .int .i64 r.gen, .slice A m c, .int .i64 r.back, .int .i64 r.until_, .int .i64 r.count] 29)).alloc (.cells #[.int .i64 f.kind, .int .i64 f.ver, .slice B n d] 34)) := by (repeat (first | exact Kept.refl _ _ | apply Kept.alloc | apply Kept.drew))
  have P := Lib.hid (show Blk ((w.alloc (.cells #[.int .i64 r.kind, .int .u32 (r.tup.src.toNat : Nat), .int .u32 (r.tup.dst.toNat : Nat), .int .i64 r.tup.proto, .int .i64 r.tup.sport, .int .i64 r.tup.dport, .int .i64 r.fb, .int .i64 r.fg, .int .i64 r.fs, .int .i64 r.gen, .slice A m c, .int .i64 r.back, .int .i64 r.until_, .int .i64 r.count] 29)).alloc (.cells #[.int .i64 f.kind, .int .i64 f.ver, .slice B n d] 34)) w.heap.size 29 #[.int .i64 r.kind, .int .u32 (r.tup.src.toNat : Nat), .int .u32 (r.tup.dst.toNat : Nat), .int .i64 r.tup.proto, .int .i64 r.tup.sport, .int .i64 r.tup.dport, .int .i64 r.fb, .int .i64 r.fg, .int .i64 r.fs, .int .i64 r.gen, .slice A m c, .int .i64 r.back, .int .i64 r.until_, .int .i64 r.count] from by (repeat (first | (apply Blk.new'; simp; done) | apply Blk.alloc | apply Blk.drew)))
  have Q := Lib.hid (show Blk ((w.alloc (.cells #[.int .i64 r.kind, .int .u32 (r.tup.src.toNat : Nat), .int .u32 (r.tup.dst.toNat : Nat), .int .i64 r.tup.proto, .int .i64 r.tup.sport, .int .i64 r.tup.dport, .int .i64 r.fb, .int .i64 r.fg, .int .i64 r.fs, .int .i64 r.gen, .slice A m c, .int .i64 r.back, .int .i64 r.until_, .int .i64 r.count] 29)).alloc (.cells #[.int .i64 f.kind, .int .i64 f.ver, .slice B n d] 34)) (w.heap.size + 1) 34 #[.int .i64 f.kind, .int .i64 f.ver, .slice B n d] from by (repeat (first | (apply Blk.new'; simp; done) | apply Blk.alloc | apply Blk.drew)))
  have K := Lib.hid hk0
  have H1 := Lib.hid (BkArr.kept h1 (Kept.refl [] w) (by simp))
  have HF := Lib.hid (h2.kept (Kept.refl [] w) (by simp))
  have Hs1 : Hid (m ≤ 40 → ∀ w', Kept [] w w' → SmallB w' (old w) A m c r.backs) := Lib.hid (fun hm w' hk => ⟨BkArr.kept h1 hk (by simp), fun k hk' => Nat.lt_of_lt_of_le (List.mem_range.1 hk') hk.size, by omega⟩)
  clear h1 h2 hk0
  have d1 : decide (m ≤ 40) = true := by simpa using g1
  have hnf : (n : Int) ≤ 400 := by omega
  obtain ⟨g, hg⟩ : ∃ g, encF r v = g := ⟨_, rfl⟩
  have hgl : g.body.length ≤ 200 := by
    rw [← hg]
    by_cases hh : verB v = true ∧ mayR r = true
    · rw [encF_yes hh.1 hh.2]; exact bodyR_len hh.2 v
    · unfold encF; rw [if_neg hh]; exact Nat.zero_le _
  have EF := Lib.hid hg
  have HGL := Lib.hid hgl
  clear hg hgl
  have i2_0 := idx2_0
  have i2_1 := idx2_1
  go_enter Try.func12, Try.ntmps12
  go_wp2_with (first
    | (go_at_call 19
       go_must (refine (light9_any _ r (BkArr.kept H1.out K.out (by simp))).mono ?_)
       go_must (rintro e w1 ⟨rfl, k1⟩)
       go_must (rw [d1])
       go_must (have P := Lib.hid (P.out.kept k1 (by simp)))
       go_must (have Q := Lib.hid (Q.out.kept k1 (by simp)))
       go_must (have K := Lib.hid (K.out.trans k1 (by simp)))
       go_must (clear k1)
       go_must (have hcx := P.out.cell)
       go_must (have hcy := Q.out.cell))
    | (go_at_call 16
       with_reducible refine (rEncode_any _ r v (Hs1.out g1 _ K.out)).mono ?_
       go_must (rintro e w2 ⟨sl, rfl, hn⟩)
       go_must (rw [EF.out] at hn ⊢)
       go_must (have hkn := hn.kept)
       go_must (have NN := Lib.hid (hn.wide K.out))
       go_must (obtain ⟨A2, m2, c2, rfl⟩ := NN.out.form)
       go_must (clear hn)
       go_must (have Q := Lib.hid (Q.out.kept hkn (by simp)))
       go_must (have K := Lib.hid (K.out.trans hkn (by simp)))
       go_must (clear hkn hcx hcy)
       go_must (have hcy := fun o => (Q.out.alloc o).cell)))
  have hka : Kept [] w2 (w2.alloc (.cells #[.int .i64 g.kind, .int .i64 g.ver, .slice A2 m2 c2] 34)) := (Kept.refl [] _).alloc _
  have HLN := Lib.hid (NN.out.rd.len.1)
  have NN := Lib.hid (NN.out.go hka)
  have K := Lib.hid (K.out.trans hka (by simp))
  clear hka hcy
  go_loopg [36] 2 (fun gh i wr => ∃ k : Nat, k ≤ 2 ∧ gh = 2 - k ∧ i = .int .i64 k ∧ NB w wr (.slice A2 m2 c2) g.body ∧ Kept [] w wr)
  case atStart => exact ⟨0, by omega, by omega, rfl, NN.out, K.out⟩
  case round =>
    obtain ⟨k, hk, rfl, rfl, hNN, hK⟩ := hrel
    have NN := Lib.hid hNN
    have K := Lib.hid hK
    clear hNN hK
    have hk3 : k = 0 ∨ k = 1 ∨ k = 2 := by omega
    rcases hk3 with rfl | rfl | rfl
    · have HX : Hid (∃ G, RdB wr G (.slice A2 m2 c2) g.body ∧ ∀ k ∈ G, k < wr.heap.size) := Lib.hid ⟨_, NN.out.rd, NN.out.1.lt⟩
      have hmx : m2 ≤ 1000000 := by have h1 := HLN.out; have h2 := HGL.out; omega
      obtain ⟨GX, hX, hGX⟩ := HX.out
      obtain ⟨y, hy⟩ : ∃ y, mfF g b = y := ⟨_, rfl⟩
      obtain ⟨en, hen⟩ : ∃ e, mfE g b = e := ⟨_, rfl⟩
      have RX := Lib.hid hX
      have GL := Lib.hid hGX
      have EY := Lib.hid hy
      have EE := Lib.hid hen
      have n0 : (en != en) = false := by simp
      clear hX hGX hy hen HX
      go_wp2_with (first
        | (go_at_call 35
           go_must (have hka : Kept [] wr (wr.alloc (.cells #[.int .i64 g.kind, .int .i64 g.ver, .slice A2 m2 c2] 34)) := (Kept.refl [] _).alloc _)
           go_must (refine (mFrame_any _ g b (RX.out.kept hka (by simp)) (fun k hk => Nat.lt_of_lt_of_le (GL.out k hk) hka.size) hmx).mono ?_)
           go_must (rintro e w6 ⟨sl, rfl, hn⟩)
           go_must (rw [EY.out] at hn ⊢)
           go_must (rw [EE.out])
           go_must (have hkn := hn.kept)
           go_must (have Z := Lib.hid ((show Blk (wr.alloc (.cells #[.int .i64 g.kind, .int .i64 g.ver, .slice A2 m2 c2] 34)) wr.heap.size 34 #[.int .i64 g.kind, .int .i64 g.ver, .slice A2 m2 c2] from by (repeat (first | (apply Blk.new'; simp; done) | apply Blk.alloc | apply Blk.drew))).kept hkn (by simp)))
           go_must (have K := Lib.hid (K.out.trans hka (by simp)))
           go_must (have N1 := Lib.hid (hn.wide K.out))
           go_must (have K := Lib.hid (K.out.trans hkn (by simp)))
           go_must (have NN := Lib.hid ((NN.out.go hka).go hkn))
           go_must (have GL := Lib.hid (fun k hk => Nat.lt_of_lt_of_le (GL.out k hk) (Nat.le_trans hka.size hkn.size)))
           go_must (have RX := Lib.hid ((RX.out.kept hka (by simp)).kept hkn (by simp)))
           go_must (obtain ⟨A6, m6, c6, rfl⟩ := N1.out.form)
           go_must (clear hn hka hkn)
           go_must (have hcz := fun o => (Z.out.alloc o).cell))
        | (go_at_call 36
           go_must (have hka : Kept [] w6 (w6.alloc (.cells #[.int .i64 y.kind, .int .i64 y.ver, .slice A6 m6 c6] 34)) := (Kept.refl [] _).alloc _)
           go_must (refine (rmFrame_any _ g b (RX.out.kept hka (by simp)) (fun k hk => Nat.lt_of_lt_of_le (GL.out k hk) hka.size) hmx).mono ?_)
           go_must (rintro e w8 ⟨sl, rfl, hn⟩)
           go_must (rw [EY.out] at hn ⊢)
           go_must (rw [EE.out])
           go_must (have hkn := hn.kept)
           go_must (have Y1 := Lib.hid ((show Blk (w6.alloc (.cells #[.int .i64 y.kind, .int .i64 y.ver, .slice A6 m6 c6] 34)) w6.heap.size 34 #[.int .i64 y.kind, .int .i64 y.ver, .slice A6 m6 c6] from by (repeat (first | (apply Blk.new'; simp; done) | apply Blk.alloc | apply Blk.drew))).kept hkn (by simp)))
           go_must (have K := Lib.hid (K.out.trans hka (by simp)))
           go_must (have N2 := Lib.hid (hn.wide K.out))
           go_must (have K := Lib.hid (K.out.trans hkn (by simp)))
           go_must (have NN := Lib.hid ((NN.out.go hka).go hkn))
           go_must (have N1 := Lib.hid ((N1.out.go hka).go hkn))
           go_must (obtain ⟨A8, m8, c8, rfl⟩ := N2.out.form)
           go_must (clear hn hka hkn hcz)
           go_must (have hcz := fun o => (Y1.out.alloc o).cell))
        | (go_at_call 17
           go_must (have hka := (Kept.refl [] w8).alloc (.cells #[.int .i64 y.kind, .int .i64 y.ver, .slice A8 m8 c8] 34))
           go_must (refine (rSame_any _ y y (N1.out.go hka).rd (N2.out.go hka).rd).mono ?_)
           go_must (rintro e w9 ⟨rfl, k1⟩)
           go_must (rw [show sameF y y = true by simp [sameF]])
           go_must (have K := Lib.hid ((K.out.trans hka (by simp)).trans k1 (by simp)))
           go_must (have NN := Lib.hid ((NN.out.go hka).go k1))
           go_must (clear k1 hka hcz)))
      go_roundg (2 - (0 + 1))
      case measure => omega
      case rel => exact ⟨0 + 1, by omega, rfl, by go_num, NN.out, K.out⟩
    · have HX : Hid (∃ G, RdB wr G (.slice B n d) f.body ∧ ∀ k ∈ G, k < wr.heap.size) := Lib.hid ⟨_, (HF.out.kept K.out (by simp)), fun k hk => Nat.lt_of_lt_of_le (List.mem_range.1 hk) K.out.size⟩
      have hmx : n ≤ 1000000 := by omega
      obtain ⟨GX, hX, hGX⟩ := HX.out
      obtain ⟨y, hy⟩ : ∃ y, mfF f b = y := ⟨_, rfl⟩
      obtain ⟨en, hen⟩ : ∃ e, mfE f b = e := ⟨_, rfl⟩
      have RX := Lib.hid hX
      have GL := Lib.hid hGX
      have EY := Lib.hid hy
      have EE := Lib.hid hen
      have n0 : (en != en) = false := by simp
      clear hX hGX hy hen HX
      go_wp2_with (first
        | (go_at_call 35
           go_must (have hka : Kept [] wr (wr.alloc (.cells #[.int .i64 f.kind, .int .i64 f.ver, .slice B n d] 34)) := (Kept.refl [] _).alloc _)
           go_must (refine (mFrame_any _ f b (RX.out.kept hka (by simp)) (fun k hk => Nat.lt_of_lt_of_le (GL.out k hk) hka.size) hmx).mono ?_)
           go_must (rintro e w6 ⟨sl, rfl, hn⟩)
           go_must (rw [EY.out] at hn ⊢)
           go_must (rw [EE.out])
           go_must (have hkn := hn.kept)
           go_must (have Z := Lib.hid ((show Blk (wr.alloc (.cells #[.int .i64 f.kind, .int .i64 f.ver, .slice B n d] 34)) wr.heap.size 34 #[.int .i64 f.kind, .int .i64 f.ver, .slice B n d] from by (repeat (first | (apply Blk.new'; simp; done) | apply Blk.alloc | apply Blk.drew))).kept hkn (by simp)))
           go_must (have K := Lib.hid (K.out.trans hka (by simp)))
           go_must (have N1 := Lib.hid (hn.wide K.out))
           go_must (have K := Lib.hid (K.out.trans hkn (by simp)))
           go_must (have NN := Lib.hid ((NN.out.go hka).go hkn))
           go_must (have GL := Lib.hid (fun k hk => Nat.lt_of_lt_of_le (GL.out k hk) (Nat.le_trans hka.size hkn.size)))
           go_must (have RX := Lib.hid ((RX.out.kept hka (by simp)).kept hkn (by simp)))
           go_must (obtain ⟨A6, m6, c6, rfl⟩ := N1.out.form)
           go_must (clear hn hka hkn)
           go_must (have hcz := fun o => (Z.out.alloc o).cell))
        | (go_at_call 36
           go_must (have hka : Kept [] w6 (w6.alloc (.cells #[.int .i64 y.kind, .int .i64 y.ver, .slice A6 m6 c6] 34)) := (Kept.refl [] _).alloc _)
           go_must (refine (rmFrame_any _ f b (RX.out.kept hka (by simp)) (fun k hk => Nat.lt_of_lt_of_le (GL.out k hk) hka.size) hmx).mono ?_)
           go_must (rintro e w8 ⟨sl, rfl, hn⟩)
           go_must (rw [EY.out] at hn ⊢)
           go_must (rw [EE.out])
           go_must (have hkn := hn.kept)
           go_must (have Y1 := Lib.hid ((show Blk (w6.alloc (.cells #[.int .i64 y.kind, .int .i64 y.ver, .slice A6 m6 c6] 34)) w6.heap.size 34 #[.int .i64 y.kind, .int .i64 y.ver, .slice A6 m6 c6] from by (repeat (first | (apply Blk.new'; simp; done) | apply Blk.alloc | apply Blk.drew))).kept hkn (by simp)))
           go_must (have K := Lib.hid (K.out.trans hka (by simp)))
           go_must (have N2 := Lib.hid (hn.wide K.out))
           go_must (have K := Lib.hid (K.out.trans hkn (by simp)))
           go_must (have NN := Lib.hid ((NN.out.go hka).go hkn))
           go_must (have N1 := Lib.hid ((N1.out.go hka).go hkn))
           go_must (obtain ⟨A8, m8, c8, rfl⟩ := N2.out.form)
           go_must (clear hn hka hkn hcz)
           go_must (have hcz := fun o => (Y1.out.alloc o).cell))
        | (go_at_call 17
           go_must (have hka := (Kept.refl [] w8).alloc (.cells #[.int .i64 y.kind, .int .i64 y.ver, .slice A8 m8 c8] 34))
           go_must (refine (rSame_any _ y y (N1.out.go hka).rd (N2.out.go hka).rd).mono ?_)
           go_must (rintro e w9 ⟨rfl, k1⟩)
           go_must (rw [show sameF y y = true by simp [sameF]])
           go_must (have K := Lib.hid ((K.out.trans hka (by simp)).trans k1 (by simp)))
           go_must (have NN := Lib.hid ((NN.out.go hka).go k1))
           go_must (clear k1 hka hcz)))
      go_roundg (2 - (1 + 1))
      case measure => omega
      case rel => exact ⟨1 + 1, by omega, rfl, by go_num, NN.out, K.out⟩
    · go_wp2_with (first
        | (go_at_call 20
           go_must (refine (awake9_any _).mono ?_)
           go_must (rintro e w99 ⟨rfl, k1⟩)
           go_must (have K := Lib.hid (K.out.trans k1 (by simp)))
           go_must (clear k1)))
      go_ret
      exact ⟨rfl, K.out⟩
theorem MigrateFrames_any (w : World) {A : Option Addr} {m c : Nat} {B : Option Addr} {n d : Nat} (r : RecD) (v b : Int) (f : FrameD) (h1 : BkArr w (old w) (.slice A m c) r.backs) (h2 : RdB w (old w) (.slice B n d) f.body) :
    Calls Try.prog 12 #[.agg #[.int .i64 r.kind, .int .u32 (r.tup.src.toNat : Nat), .int .u32 (r.tup.dst.toNat : Nat), .int .i64 r.tup.proto, .int .i64 r.tup.sport, .int .i64 r.tup.dport, .int .i64 r.fb, .int .i64 r.fg, .int .i64 r.fs, .int .i64 r.gen, .slice A m c, .int .i64 r.back, .int .i64 r.until_, .int .i64 r.count], .int .i64 v, .int .i64 b, .agg #[.int .i64 f.kind, .int .i64 f.ver, .slice B n d]] w fun e w' => e = .returned (.bool true) ∧ Kept [] w w' := by
  by_cases g1 : m ≤ 40
  · by_cases g2 : n ≤ 400
    · exact MigrateFrames_3 w r v b f g1 g2 h1 h2
    · exact MigrateFrames_2 w r v b f g1 g2 h1 h2
  · exact MigrateFrames_1 w r v b f g1 h1 h2

set_option maxRecDepth 100000 in
theorem MigrateFrames_walk {H : Type} {enc : TypeId × Value → H} {S : Prop} (W : World) (base : Nat) (v0 : Value) (d0 : DataW H) (p0 : List MemPlace) (v1 : Value) (d1 : DataW H) (p1 : List MemPlace) (v2 : Value) (d2 : DataW H) (p2 : List MemPlace) (v3 : Value) (d3 : DataW H) (p3 : List MemPlace)
    (hv0 : Value.okWide Try.prog W .any base 29 v0) (hv1 : Value.okWide Try.prog W .any base 3 v1) (hv2 : Value.okWide Try.prog W .any base 3 v2) (hv3 : Value.okWide Try.prog W .any base 34 v3)
    (h0 : DataW.Trod enc Try.prog W 0 (fun _ => true) true 29 v0 d0 p0) (h1 : DataW.Trod enc Try.prog W 0 (fun _ => true) true 3 v1 d1 p1) (h2 : DataW.Trod enc Try.prog W 0 (fun _ => true) true 3 v2 d2 p2) (h3 : DataW.Trod enc Try.prog W 0 (fun _ => true) true 34 v3 d3 p3) (_ : S) :
    Calls Try.prog 12 #[v0, v1, v2, v3] W fun e W' => e = .returned (.bool true) ∧ Below W.heap.size W W' := by
  obtain ⟨r, A, m, c, rfl, hr⟩ := open_record hv0 h0
  obtain ⟨v, rfl, rfl, rfl, _⟩ := open_int Try.underlying3 hv1 h1
  obtain ⟨b, rfl, rfl, rfl, _⟩ := open_int Try.underlying3 hv2 h2
  obtain ⟨f, B, n, d, rfl, hf, _⟩ := open_frame hv3 h3
  exact (MigrateFrames_any W r v b f hr hf).mono fun e W' ⟨h, hk⟩ => ⟨h, hk.below (Nat.le_refl _) (by simp)⟩
end Go.Proofs.Ytogdpfjbclnlnaa
