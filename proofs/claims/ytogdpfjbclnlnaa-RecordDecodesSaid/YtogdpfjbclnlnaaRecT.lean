
/-
  The reference's Encode, any record, any format.
-/
import Derived.Test.YtogdpfjbclnlnaaRecS3
namespace Go.Proofs.Ytogdpfjbclnlnaa
open Go.RowKit Go.ChangeShapes Go.WideShapes Go.Deep
set_option linter.unusedVariables false

set_option maxHeartbeats 3200000 in
set_option maxRecDepth 100000 in
theorem rEncode_any (w : World) {G : List Nat} {A : Option Addr} {m c : Nat} (r : RecD) (v : Int) (h : SmallB w G A m c r.backs) :
    Calls Try.prog 16 #[.agg #[.int .i64 r.kind, .int .u32 (r.tup.src.toNat : Nat), .int .u32 (r.tup.dst.toNat : Nat), .int .i64 r.tup.proto, .int .i64 r.tup.sport, .int .i64 r.tup.dport, .int .i64 r.fb, .int .i64 r.fg, .int .i64 r.fs, .int .i64 r.gen, .slice A m c, .int .i64 r.back, .int .i64 r.until_, .int .i64 r.count], .int .i64 v] w fun e w' => ∃ sl, e = .returned (.tuple #[.agg #[.int .i64 (encF r v).kind, .int .i64 (encF r v).ver, sl], .int .i64 (encE r v)]) ∧ NB w w' sl (encF r v).body := by
  have hk0 : Kept [] w ((w.alloc (.cells #[.int .i64 r.kind, .int .u32 (r.tup.src.toNat : Nat), .int .u32 (r.tup.dst.toNat : Nat), .int .i64 r.tup.proto, .int .i64 r.tup.sport, .int .i64 r.tup.dport, .int .i64 r.fb, .int .i64 r.fg, .int .i64 r.fs, .int .i64 r.gen, .slice A m c, .int .i64 r.back, .int .i64 r.until_, .int .i64 r.count] 29)).alloc (.cells #[.int .i64 0, .int .i64 0, .slice none 0 0] 34)) := by (repeat (first | exact Kept.refl _ _ | apply Kept.alloc | apply Kept.drew))
  have S0 := Lib.hid (show EncS w r (.slice A m c) ((w.alloc (.cells #[.int .i64 r.kind, .int .u32 (r.tup.src.toNat : Nat), .int .u32 (r.tup.dst.toNat : Nat), .int .i64 r.tup.proto, .int .i64 r.tup.sport, .int .i64 r.tup.dport, .int .i64 r.fb, .int .i64 r.fg, .int .i64 r.fs, .int .i64 r.gen, .slice A m c, .int .i64 r.back, .int .i64 r.until_, .int .i64 r.count] 29)).alloc (.cells #[.int .i64 0, .int .i64 0, .slice none 0 0] 34)) from ⟨by (repeat (first | (apply Blk.new'; simp; done) | apply Blk.alloc | apply Blk.drew)), by (repeat (first | (apply Blk.new'; simp; done) | apply Blk.alloc | apply Blk.drew))⟩)
  have H := Lib.hid h
  have Hk0 := Lib.hid hk0
  clear hk0
  cases hv : verB v
  · clear h
    have he := Lib.hid (show encE r v = 10 by simp [encE, hv])
    have hf := Lib.hid (show encF r v = default by simp [encF, hv])
    go_enter Try.func16, Try.ntmps16
    go_wp2_with (go_at_call 40; refine (rVersion_any _ _).mono ?_; rintro e w' ⟨rfl, rfl⟩; rw [hv])
    refine bodyPost_ret (by simp [results, Try.results16, go_sem]; rfl) rfl ?_
    rw [he.out, hf.out]
    exact ⟨_, rfl, NB.nil (by (repeat (first | exact Kept.refl _ _ | apply Kept.alloc | apply Kept.drew)))⟩
  · cases hy : mayR r
    · clear h
      have he := Lib.hid (show encE r v = 1 by simp [encE, hv, hy])
      have hf := Lib.hid (show encF r v = default by simp [encF, hy])
      go_enter Try.func16, Try.ntmps16
      go_wp2_with (first
        | (go_at_call 40; refine (rVersion_any _ _).mono ?_; rintro e w' ⟨rfl, rfl⟩; rw [hv])
        | (go_at_call 31; refine (rMay_any _ r ⟨BkArr.kept H.out.1 Hk0.out (by simp), fun k hk => Nat.lt_of_lt_of_le (H.out.2.1 k hk) Hk0.out.size, H.out.2.2⟩).mono ?_; rintro e w1 ⟨rfl, hk1⟩; rw [hy]
           have hb1 := S0.out.2.kept hk1 (by simp)
           have hc1 := hb1.cell
           have hf1 := hb1.frozen
           have Hb1 := Lib.hid hb1
           have Hk1 := Lib.hid (Hk0.out.trans hk1 (by simp))
           clear hk1 hb1))
      obtain ⟨r1, r2, r3⟩ := Hb1.out.cells3 (.int .i64 0) (.int .i64 0) (.slice none 0 0)
      refine bodyPost_ret (by simp [results, Try.results16, go_sem, r1, r2, r3]; rfl) rfl ?_
      rw [he.out, hf.out]
      exact ⟨_, rfl, NB.nil (Hk1.out.cells3 (by omega) _ _ _)⟩
    · obtain ⟨he, hf⟩ := encF_ok hv hy
      rw [he, hf]
      have hk := may_kind hy
      have hc : r.kind = 5 ∨ r.kind = 2 ∨ r.kind = 6 ∨ r.kind = 4 ∨ r.kind = 1 ∨ r.kind = 3 := by omega
      rcases hc with k | k | k | k | k | k
      · exact rEncode_5 w r v hv hy k h
      · exact rEncode_2 w r v hv hy k h
      · exact rEncode_6 w r v hv hy k h
      · exact rEncode_4 w r v hv hy k h
      · exact rEncode_1 w r v hv hy k h
      · exact rEncode_3 w r v hv hy k h
end Go.Proofs.Ytogdpfjbclnlnaa
