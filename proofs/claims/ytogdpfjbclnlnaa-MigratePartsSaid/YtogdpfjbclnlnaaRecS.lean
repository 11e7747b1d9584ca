
/-
  The contract of the reference's Encode.
-/
import Derived.Test.YtogdpfjbclnlnaaRecQ
import Derived.Test.YtogdpfjbclnlnaaNb
import Derived.Outline
namespace Go.Proofs.Ytogdpfjbclnlnaa
open Go.RowKit Go.ChangeShapes Go.WideShapes Go.Deep
set_option linter.unusedVariables false

/-- the record's block, the result's, as they were laid -/
def EncS (w : World) (r : RecD) (sl : Value) (wx : World) : Prop := Blk wx w.heap.size 29 #[.int .i64 r.kind, .int .u32 (r.tup.src.toNat : Nat), .int .u32 (r.tup.dst.toNat : Nat), .int .i64 r.tup.proto, .int .i64 r.tup.sport, .int .i64 r.tup.dport, .int .i64 r.fb, .int .i64 r.fg, .int .i64 r.fs, .int .i64 r.gen, sl, .int .i64 r.back, .int .i64 r.until_, .int .i64 r.count] ∧ Blk wx (w.heap.size + 1) 34 #[.int .i64 0, .int .i64 0, .slice none 0 0]
theorem EncS.off {w : World} {r : RecD} {sl : Value} {a b : World} (h : EncS w r sl a) (k : Apart a b) : EncS w r sl b := ⟨k _ _ _ (by decide) (by decide) h.1, k _ _ _ (by decide) (by decide) h.2⟩
theorem encF_ok {r : RecD} {v : Int} (hv : verB v = true) (hy : mayR r = true) : encE r v = 0 ∧ encF r v = ⟨r.kind, v, bodyR r v⟩ := by simp [encE, encF, hv, hy]
/-- how it ends: the three cells of the result are written -/
def EncR (w : World) (r : RecD) (v : Int) (bs : List UInt8) (e : Ending) (w' : World) : Prop := ∃ sl, e = .returned (.tuple #[.agg #[.int .i64 r.kind, .int .i64 v, sl], .int .i64 0]) ∧ NB w w' sl bs
theorem EncR.mk {w w3 : World} {r : RecD} {v : Int} {bs : List UInt8} {sl0 : Value} {A : Option Addr} {n c : Nat} (S : EncS w r sl0 w3) (N : NB w w3 (.slice A n c) bs) :
    NB w (((w3.setCell ⟨w.heap.size + 1, 0, none⟩ (.int .i64 r.kind)).setCell ⟨w.heap.size + 1, 1, none⟩ (.int .i64 v)).setCell ⟨w.heap.size + 1, 2, none⟩ (.slice A n c)) (.slice A n c) bs :=
  N.other (S := [w.heap.size + 1]) (((((Kept.refl [w.heap.size + 1] w3).setCell (p := ⟨w.heap.size + 1, 0, none⟩) (.inl (by simp)) (.int .i64 r.kind)).setCell (p := ⟨w.heap.size + 1, 1, none⟩) (.inl (by simp)) (.int .i64 v)).setCell (p := ⟨w.heap.size + 1, 2, none⟩) (.inl (by simp)) (.slice A n c)))
    (fun k hk hm => by
      have := N.1.ne_blk S.2 (by decide)
      simp at hm; subst hm; exact this hk) (fun k hk => by simp at hk; omega)

/-- the two blocks, and the bytes so far -/
def EncN (w : World) (r : RecD) (sl : Value) (bs : List UInt8) (s : Value) (wx : World) : Prop := EncS w r sl wx ∧ ∃ A m c, s = .slice A m c ∧ NB w wx s bs
theorem may_backs {r : RecD} (h : mayR r = true) (k : r.kind = 3) : r.backs.length ≤ 16 := by
  have : (inB r.gen 1000000 && (decide (r.backs.length ≤ 16) && r.backs.all mayB)) = true := by simpa [mayR, k] using h
  simp at this; exact this.2.1
set_option maxHeartbeats 6400000 in
set_option maxRecDepth 100000 in
theorem rEncode_5 (w : World) {G : List Nat} {A : Option Addr} {m c : Nat} (r : RecD) (v : Int) (hv : verB v = true) (hy : mayR r = true) (hk : r.kind = 5) (h : SmallB w G A m c r.backs) :
    Calls Try.prog 16 #[.agg #[.int .i64 r.kind, .int .u32 (r.tup.src.toNat : Nat), .int .u32 (r.tup.dst.toNat : Nat), .int .i64 r.tup.proto, .int .i64 r.tup.sport, .int .i64 r.tup.dport, .int .i64 r.fb, .int .i64 r.fg, .int .i64 r.fs, .int .i64 r.gen, .slice A m c, .int .i64 r.back, .int .i64 r.until_, .int .i64 r.count], .int .i64 v] w (EncR w r v (bodyR r v)) := by
  have hk0 : Kept [] w ((w.alloc (.cells #[.int .i64 r.kind, .int .u32 (r.tup.src.toNat : Nat), .int .u32 (r.tup.dst.toNat : Nat), .int .i64 r.tup.proto, .int .i64 r.tup.sport, .int .i64 r.tup.dport, .int .i64 r.fb, .int .i64 r.fg, .int .i64 r.fs, .int .i64 r.gen, .slice A m c, .int .i64 r.back, .int .i64 r.until_, .int .i64 r.count] 29)).alloc (.cells #[.int .i64 0, .int .i64 0, .slice none 0 0] 34)) := by (repeat (first | exact Kept.refl _ _ | apply Kept.alloc | apply Kept.drew))
  have S0 := Lib.hid (show EncS w r (.slice A m c) ((w.alloc (.cells #[.int .i64 r.kind, .int .u32 (r.tup.src.toNat : Nat), .int .u32 (r.tup.dst.toNat : Nat), .int .i64 r.tup.proto, .int .i64 r.tup.sport, .int .i64 r.tup.dport, .int .i64 r.fb, .int .i64 r.fg, .int .i64 r.fs, .int .i64 r.gen, .slice A m c, .int .i64 r.back, .int .i64 r.until_, .int .i64 r.count] 29)).alloc (.cells #[.int .i64 0, .int .i64 0, .slice none 0 0] 34)) from ⟨by (repeat (first | (apply Blk.new'; simp; done) | apply Blk.alloc | apply Blk.drew)), by (repeat (first | (apply Blk.new'; simp; done) | apply Blk.alloc | apply Blk.drew))⟩)
  have H := Lib.hid h
  have HL := Lib.hid (BkArr.len h.1)
  have Hk0 := Lib.hid hk0
  have Hv := Lib.hid hv
  have Hy := Lib.hid hy
  have HK := Lib.hid hk
  have hv13 : v = 1 ∨ v = 2 ∨ v = 3 := by simp [verB] at hv; omega
  clear h hk0
  all_goals
    have hp := Lib.hid (show bodyR r v = u16B r.back by simp [bodyR, hk])
    have b1 : (r.kind == 1) = false := by simp [hk]
    have b2 : (r.kind == 2) = false := by simp [hk]
    have b3 : (r.kind == 3) = false := by simp [hk]
    have b4 : (r.kind == 4) = false := by simp [hk]
    have b5 : (r.kind == 5) = true := by simp [hk]
    have b6 : (r.kind == 6) = false := by simp [hk]
    clear hk
    go_enter Try.func16, Try.ntmps16
    go_upto_region 5 with (first
      | (go_at_call 40; refine (rVersion_any _ _).mono ?_; rintro e w' ⟨rfl, rfl⟩; rw [hv])
      | (go_at_call 31; refine (rMay_any _ r ⟨BkArr.kept H.out.1 Hk0.out (by simp), fun k hk => Nat.lt_of_lt_of_le (H.out.2.1 k hk) Hk0.out.size, H.out.2.2⟩).mono ?_; rintro e w1 ⟨rfl, hk1⟩; rw [hy]
         have S := Lib.hid (S0.out.off (Apart.of_kept hk1))
         have hc := S.out.1.cell
         have hd := S.out.2.cell
         have hf := S.out.2.frozen
         have hlt1 := S.out.2.lt
         have Hk1 := Lib.hid (Hk0.out.trans hk1 (by simp))
         clear hk1))
    clear hv hy
    go_wp2_with (first
      | (go_at_call 42
         go_must (refine (nU16 _ r.back).mono ?_)
         go_must (rintro e w2 ⟨A2, m2, c2, rfl, hn⟩)
         go_must (clear hc hd hf)
         go_must (have S := Lib.hid (S.out.off (Apart.of_kept hn.kept)))
         go_must (have hc := S.out.1.cell)
         go_must (have hd := S.out.2.cell)
         go_must (have hf := S.out.2.frozen)
         go_must (have N := Lib.hid (hn.wide Hk1.out))
         go_must (clear hn)))
    obtain ⟨r1, r2, r3⟩ := S.out.2.cells3 (.int .i64 r.kind) (.int .i64 v) (.slice A2 m2 c2)
    refine bodyPost_ret (by simp [results, Try.results16, go_sem, r1, r2, r3]; rfl) rfl ?_
    exact ⟨_, rfl, (EncR.mk S.out N.out).cast (by rw [hp.out])⟩

set_option maxHeartbeats 6400000 in
set_option maxRecDepth 100000 in
theorem rEncode_2 (w : World) {G : List Nat} {A : Option Addr} {m c : Nat} (r : RecD) (v : Int) (hv : verB v = true) (hy : mayR r = true) (hk : r.kind = 2) (h : SmallB w G A m c r.backs) :
    Calls Try.prog 16 #[.agg #[.int .i64 r.kind, .int .u32 (r.tup.src.toNat : Nat), .int .u32 (r.tup.dst.toNat : Nat), .int .i64 r.tup.proto, .int .i64 r.tup.sport, .int .i64 r.tup.dport, .int .i64 r.fb, .int .i64 r.fg, .int .i64 r.fs, .int .i64 r.gen, .slice A m c, .int .i64 r.back, .int .i64 r.until_, .int .i64 r.count], .int .i64 v] w (EncR w r v (bodyR r v)) := by
  have hk0 : Kept [] w ((w.alloc (.cells #[.int .i64 r.kind, .int .u32 (r.tup.src.toNat : Nat), .int .u32 (r.tup.dst.toNat : Nat), .int .i64 r.tup.proto, .int .i64 r.tup.sport, .int .i64 r.tup.dport, .int .i64 r.fb, .int .i64 r.fg, .int .i64 r.fs, .int .i64 r.gen, .slice A m c, .int .i64 r.back, .int .i64 r.until_, .int .i64 r.count] 29)).alloc (.cells #[.int .i64 0, .int .i64 0, .slice none 0 0] 34)) := by (repeat (first | exact Kept.refl _ _ | apply Kept.alloc | apply Kept.drew))
  have S0 := Lib.hid (show EncS w r (.slice A m c) ((w.alloc (.cells #[.int .i64 r.kind, .int .u32 (r.tup.src.toNat : Nat), .int .u32 (r.tup.dst.toNat : Nat), .int .i64 r.tup.proto, .int .i64 r.tup.sport, .int .i64 r.tup.dport, .int .i64 r.fb, .int .i64 r.fg, .int .i64 r.fs, .int .i64 r.gen, .slice A m c, .int .i64 r.back, .int .i64 r.until_, .int .i64 r.count] 29)).alloc (.cells #[.int .i64 0, .int .i64 0, .slice none 0 0] 34)) from ⟨by (repeat (first | (apply Blk.new'; simp; done) | apply Blk.alloc | apply Blk.drew)), by (repeat (first | (apply Blk.new'; simp; done) | apply Blk.alloc | apply Blk.drew))⟩)
  have H := Lib.hid h
  have HL := Lib.hid (BkArr.len h.1)
  have Hk0 := Lib.hid hk0
  have Hv := Lib.hid hv
  have Hy := Lib.hid hy
  have HK := Lib.hid hk
  have hv13 : v = 1 ∨ v = 2 ∨ v = 3 := by simp [verB] at hv; omega
  clear h hk0
  all_goals
    have hp := Lib.hid (show bodyR r v = tupB r.tup by simp [bodyR, hk])
    have b1 : (r.kind == 1) = false := by simp [hk]
    have b2 : (r.kind == 2) = true := by simp [hk]
    have b3 : (r.kind == 3) = false := by simp [hk]
    have b4 : (r.kind == 4) = false := by simp [hk]
    have b5 : (r.kind == 5) = false := by simp [hk]
    have b6 : (r.kind == 6) = false := by simp [hk]
    clear hk
    go_enter Try.func16, Try.ntmps16
    go_upto_region 5 with (first
      | (go_at_call 40; refine (rVersion_any _ _).mono ?_; rintro e w' ⟨rfl, rfl⟩; rw [hv])
      | (go_at_call 31; refine (rMay_any _ r ⟨BkArr.kept H.out.1 Hk0.out (by simp), fun k hk => Nat.lt_of_lt_of_le (H.out.2.1 k hk) Hk0.out.size, H.out.2.2⟩).mono ?_; rintro e w1 ⟨rfl, hk1⟩; rw [hy]
         have S := Lib.hid (S0.out.off (Apart.of_kept hk1))
         have hc := S.out.1.cell
         have hd := S.out.2.cell
         have hf := S.out.2.frozen
         have hlt1 := S.out.2.lt
         have Hk1 := Lib.hid (Hk0.out.trans hk1 (by simp))
         clear hk1))
    clear hv hy
    go_wp2_with (first
      | (go_at_call 41
         go_must (refine (nTB _ r.tup).mono ?_)
         go_must (rintro e w2 ⟨A2, m2, c2, rfl, hn⟩)
         go_must (clear hc hd hf)
         go_must (have S := Lib.hid (S.out.off (Apart.of_kept hn.kept)))
         go_must (have hc := S.out.1.cell)
         go_must (have hd := S.out.2.cell)
         go_must (have hf := S.out.2.frozen)
         go_must (have N := Lib.hid (hn.wide Hk1.out))
         go_must (clear hn)))
    obtain ⟨r1, r2, r3⟩ := S.out.2.cells3 (.int .i64 r.kind) (.int .i64 v) (.slice A2 m2 c2)
    refine bodyPost_ret (by simp [results, Try.results16, go_sem, r1, r2, r3]; rfl) rfl ?_
    exact ⟨_, rfl, (EncR.mk S.out N.out).cast (by rw [hp.out])⟩

set_option maxHeartbeats 6400000 in
set_option maxRecDepth 100000 in
theorem rEncode_6 (w : World) {G : List Nat} {A : Option Addr} {m c : Nat} (r : RecD) (v : Int) (hv : verB v = true) (hy : mayR r = true) (hk : r.kind = 6) (h : SmallB w G A m c r.backs) :
    Calls Try.prog 16 #[.agg #[.int .i64 r.kind, .int .u32 (r.tup.src.toNat : Nat), .int .u32 (r.tup.dst.toNat : Nat), .int .i64 r.tup.proto, .int .i64 r.tup.sport, .int .i64 r.tup.dport, .int .i64 r.fb, .int .i64 r.fg, .int .i64 r.fs, .int .i64 r.gen, .slice A m c, .int .i64 r.back, .int .i64 r.until_, .int .i64 r.count], .int .i64 v] w (EncR w r v (bodyR r v)) := by
  have hk0 : Kept [] w ((w.alloc (.cells #[.int .i64 r.kind, .int .u32 (r.tup.src.toNat : Nat), .int .u32 (r.tup.dst.toNat : Nat), .int .i64 r.tup.proto, .int .i64 r.tup.sport, .int .i64 r.tup.dport, .int .i64 r.fb, .int .i64 r.fg, .int .i64 r.fs, .int .i64 r.gen, .slice A m c, .int .i64 r.back, .int .i64 r.until_, .int .i64 r.count] 29)).alloc (.cells #[.int .i64 0, .int .i64 0, .slice none 0 0] 34)) := by (repeat (first | exact Kept.refl _ _ | apply Kept.alloc | apply Kept.drew))
  have S0 := Lib.hid (show EncS w r (.slice A m c) ((w.alloc (.cells #[.int .i64 r.kind, .int .u32 (r.tup.src.toNat : Nat), .int .u32 (r.tup.dst.toNat : Nat), .int .i64 r.tup.proto, .int .i64 r.tup.sport, .int .i64 r.tup.dport, .int .i64 r.fb, .int .i64 r.fg, .int .i64 r.fs, .int .i64 r.gen, .slice A m c, .int .i64 r.back, .int .i64 r.until_, .int .i64 r.count] 29)).alloc (.cells #[.int .i64 0, .int .i64 0, .slice none 0 0] 34)) from ⟨by (repeat (first | (apply Blk.new'; simp; done) | apply Blk.alloc | apply Blk.drew)), by (repeat (first | (apply Blk.new'; simp; done) | apply Blk.alloc | apply Blk.drew))⟩)
  have H := Lib.hid h
  have HL := Lib.hid (BkArr.len h.1)
  have Hk0 := Lib.hid hk0
  have Hv := Lib.hid hv
  have Hy := Lib.hid hy
  have HK := Lib.hid hk
  have hv13 : v = 1 ∨ v = 2 ∨ v = 3 := by simp [verB] at hv; omega
  clear h hk0
  all_goals
    have hp := Lib.hid (show bodyR r v = u32B r.count by simp [bodyR, hk])
    have b1 : (r.kind == 1) = false := by simp [hk]
    have b2 : (r.kind == 2) = false := by simp [hk]
    have b3 : (r.kind == 3) = false := by simp [hk]
    have b4 : (r.kind == 4) = false := by simp [hk]
    have b5 : (r.kind == 5) = false := by simp [hk]
    have b6 : (r.kind == 6) = true := by simp [hk]
    clear hk
    go_enter Try.func16, Try.ntmps16
    go_upto_region 5 with (first
      | (go_at_call 40; refine (rVersion_any _ _).mono ?_; rintro e w' ⟨rfl, rfl⟩; rw [hv])
      | (go_at_call 31; refine (rMay_any _ r ⟨BkArr.kept H.out.1 Hk0.out (by simp), fun k hk => Nat.lt_of_lt_of_le (H.out.2.1 k hk) Hk0.out.size, H.out.2.2⟩).mono ?_; rintro e w1 ⟨rfl, hk1⟩; rw [hy]
         have S := Lib.hid (S0.out.off (Apart.of_kept hk1))
         have hc := S.out.1.cell
         have hd := S.out.2.cell
         have hf := S.out.2.frozen
         have hlt1 := S.out.2.lt
         have Hk1 := Lib.hid (Hk0.out.trans hk1 (by simp))
         clear hk1))
    clear hv hy
    go_wp2_with (first
      | (go_at_call 43
         go_must (refine (nU32w _ r.count _ (wrap_u32n _)).mono ?_)
         go_must (rintro e w2 ⟨A2, m2, c2, rfl, hn⟩)
         go_must (clear hc hd hf)
         go_must (have S := Lib.hid (S.out.off (Apart.of_kept hn.kept)))
         go_must (have hc := S.out.1.cell)
         go_must (have hd := S.out.2.cell)
         go_must (have hf := S.out.2.frozen)
         go_must (have N := Lib.hid (hn.wide Hk1.out))
         go_must (clear hn)))
    obtain ⟨r1, r2, r3⟩ := S.out.2.cells3 (.int .i64 r.kind) (.int .i64 v) (.slice A2 m2 c2)
    refine bodyPost_ret (by simp [results, Try.results16, go_sem, r1, r2, r3]; rfl) rfl ?_
    exact ⟨_, rfl, (EncR.mk S.out N.out).cast (by rw [hp.out])⟩

set_option maxHeartbeats 6400000 in
set_option maxRecDepth 100000 in
theorem rEncode_4 (w : World) {G : List Nat} {A : Option Addr} {m c : Nat} (r : RecD) (v : Int) (hv : verB v = true) (hy : mayR r = true) (hk : r.kind = 4) (h : SmallB w G A m c r.backs) :
    Calls Try.prog 16 #[.agg #[.int .i64 r.kind, .int .u32 (r.tup.src.toNat : Nat), .int .u32 (r.tup.dst.toNat : Nat), .int .i64 r.tup.proto, .int .i64 r.tup.sport, .int .i64 r.tup.dport, .int .i64 r.fb, .int .i64 r.fg, .int .i64 r.fs, .int .i64 r.gen, .slice A m c, .int .i64 r.back, .int .i64 r.until_, .int .i64 r.count], .int .i64 v] w (EncR w r v (bodyR r v)) := by
  have hk0 : Kept [] w ((w.alloc (.cells #[.int .i64 r.kind, .int .u32 (r.tup.src.toNat : Nat), .int .u32 (r.tup.dst.toNat : Nat), .int .i64 r.tup.proto, .int .i64 r.tup.sport, .int .i64 r.tup.dport, .int .i64 r.fb, .int .i64 r.fg, .int .i64 r.fs, .int .i64 r.gen, .slice A m c, .int .i64 r.back, .int .i64 r.until_, .int .i64 r.count] 29)).alloc (.cells #[.int .i64 0, .int .i64 0, .slice none 0 0] 34)) := by (repeat (first | exact Kept.refl _ _ | apply Kept.alloc | apply Kept.drew))
  have S0 := Lib.hid (show EncS w r (.slice A m c) ((w.alloc (.cells #[.int .i64 r.kind, .int .u32 (r.tup.src.toNat : Nat), .int .u32 (r.tup.dst.toNat : Nat), .int .i64 r.tup.proto, .int .i64 r.tup.sport, .int .i64 r.tup.dport, .int .i64 r.fb, .int .i64 r.fg, .int .i64 r.fs, .int .i64 r.gen, .slice A m c, .int .i64 r.back, .int .i64 r.until_, .int .i64 r.count] 29)).alloc (.cells #[.int .i64 0, .int .i64 0, .slice none 0 0] 34)) from ⟨by (repeat (first | (apply Blk.new'; simp; done) | apply Blk.alloc | apply Blk.drew)), by (repeat (first | (apply Blk.new'; simp; done) | apply Blk.alloc | apply Blk.drew))⟩)
  have H := Lib.hid h
  have HL := Lib.hid (BkArr.len h.1)
  have Hk0 := Lib.hid hk0
  have Hv := Lib.hid hv
  have Hy := Lib.hid hy
  have HK := Lib.hid hk
  have hv13 : v = 1 ∨ v = 2 ∨ v = 3 := by simp [verB] at hv; omega
  clear h hk0
  all_goals
    have hp := Lib.hid (show bodyR r v = u16B r.back ++ i64B r.until_ by simp [bodyR, hk])
    have b1 : (r.kind == 1) = false := by simp [hk]
    have b2 : (r.kind == 2) = false := by simp [hk]
    have b3 : (r.kind == 3) = false := by simp [hk]
    have b4 : (r.kind == 4) = true := by simp [hk]
    have b5 : (r.kind == 5) = false := by simp [hk]
    have b6 : (r.kind == 6) = false := by simp [hk]
    clear hk
    go_enter Try.func16, Try.ntmps16
    go_upto_region 5 with (first
      | (go_at_call 40; refine (rVersion_any _ _).mono ?_; rintro e w' ⟨rfl, rfl⟩; rw [hv])
      | (go_at_call 31; refine (rMay_any _ r ⟨BkArr.kept H.out.1 Hk0.out (by simp), fun k hk => Nat.lt_of_lt_of_le (H.out.2.1 k hk) Hk0.out.size, H.out.2.2⟩).mono ?_; rintro e w1 ⟨rfl, hk1⟩; rw [hy]
         have S := Lib.hid (S0.out.off (Apart.of_kept hk1))
         have hc := S.out.1.cell
         have hd := S.out.2.cell
         have hf := S.out.2.frozen
         have hlt1 := S.out.2.lt
         have Hk1 := Lib.hid (Hk0.out.trans hk1 (by simp))
         clear hk1))
    clear hv hy
    go_wp2
    clear hc hd hf
    go_region_held3 (fun w' => ∀ o, w'.cell? ⟨w.heap.size, o, none⟩ = (#[.int .i64 r.kind, .int .u32 (r.tup.src.toNat : Nat), .int .u32 (r.tup.dst.toNat : Nat), .int .i64 r.tup.proto, .int .i64 r.tup.sport, .int .i64 r.tup.dport, .int .i64 r.fb, .int .i64 r.fg, .int .i64 r.fs, .int .i64 r.gen, .slice A m c, .int .i64 r.back, .int .i64 r.until_, .int .i64 r.count] : Array Value)[o]?) (first | exact S.out.1.cell | exact (S.out.1.alloc _).drew.cell | go_keep)
      (first
        | (go_at_call 42
           go_must (with_reducible refine (nU16 _ r.back).mono ?_)
           go_must (rintro e w2 ⟨A2, m2, c2, rfl, hn⟩)
           go_must (have S := Lib.hid (S.out.off (Apart.of_kept ((Kept.refl [] w1).drew.trans hn.kept (by simp)))))
           go_must (have N := Lib.hid (hn.wide Hk1.out.drew))
           go_must (clear hn))
        | (go_at_call 44
           go_must (with_reducible refine (nI64 _ r.until_).mono ?_)
           go_must (rintro e w3 ⟨A3, m3, c3, rfl, hn⟩)
           go_must (have S := Lib.hid (S.out.off (Apart.of_kept hn.kept)))
           go_must (have N := Lib.hid (N.out.go hn.kept))
           go_must (have R := Lib.hid hn)
           go_must (clear hn))
        | (refine step_cat rfl (.tmp 98) (.tmp 101) rfl (by rfl) N.out (by rfl) R.out (by simp [len_all]; try omega) ?_
           intro A4 m4 c4 w4 hn ho hsz
           have S := Lib.hid (S.out.off ho)
           have N := Lib.hid hn
           clear hn ho))
    have hc := S.out.1.cell
    have hd := S.out.2.cell
    have hf := S.out.2.frozen
    go_wp2
    obtain ⟨r1, r2, r3⟩ := S.out.2.cells3 (.int .i64 r.kind) (.int .i64 v) (.slice A4 m4 c4)
    refine bodyPost_ret (by simp [results, Try.results16, go_sem, r1, r2, r3]; rfl) rfl ?_
    exact ⟨_, rfl, (EncR.mk S.out N.out).cast (by rw [hp.out])⟩

set_option maxHeartbeats 6400000 in
set_option maxRecDepth 100000 in
theorem rEncode_1 (w : World) {G : List Nat} {A : Option Addr} {m c : Nat} (r : RecD) (v : Int) (hv : verB v = true) (hy : mayR r = true) (hk : r.kind = 1) (h : SmallB w G A m c r.backs) :
    Calls Try.prog 16 #[.agg #[.int .i64 r.kind, .int .u32 (r.tup.src.toNat : Nat), .int .u32 (r.tup.dst.toNat : Nat), .int .i64 r.tup.proto, .int .i64 r.tup.sport, .int .i64 r.tup.dport, .int .i64 r.fb, .int .i64 r.fg, .int .i64 r.fs, .int .i64 r.gen, .slice A m c, .int .i64 r.back, .int .i64 r.until_, .int .i64 r.count], .int .i64 v] w (EncR w r v (bodyR r v)) := by
  have hk0 : Kept [] w ((w.alloc (.cells #[.int .i64 r.kind, .int .u32 (r.tup.src.toNat : Nat), .int .u32 (r.tup.dst.toNat : Nat), .int .i64 r.tup.proto, .int .i64 r.tup.sport, .int .i64 r.tup.dport, .int .i64 r.fb, .int .i64 r.fg, .int .i64 r.fs, .int .i64 r.gen, .slice A m c, .int .i64 r.back, .int .i64 r.until_, .int .i64 r.count] 29)).alloc (.cells #[.int .i64 0, .int .i64 0, .slice none 0 0] 34)) := by (repeat (first | exact Kept.refl _ _ | apply Kept.alloc | apply Kept.drew))
  have S0 := Lib.hid (show EncS w r (.slice A m c) ((w.alloc (.cells #[.int .i64 r.kind, .int .u32 (r.tup.src.toNat : Nat), .int .u32 (r.tup.dst.toNat : Nat), .int .i64 r.tup.proto, .int .i64 r.tup.sport, .int .i64 r.tup.dport, .int .i64 r.fb, .int .i64 r.fg, .int .i64 r.fs, .int .i64 r.gen, .slice A m c, .int .i64 r.back, .int .i64 r.until_, .int .i64 r.count] 29)).alloc (.cells #[.int .i64 0, .int .i64 0, .slice none 0 0] 34)) from ⟨by (repeat (first | (apply Blk.new'; simp; done) | apply Blk.alloc | apply Blk.drew)), by (repeat (first | (apply Blk.new'; simp; done) | apply Blk.alloc | apply Blk.drew))⟩)
  have H := Lib.hid h
  have HL := Lib.hid (BkArr.len h.1)
  have Hk0 := Lib.hid hk0
  have Hv := Lib.hid hv
  have Hy := Lib.hid hy
  have HK := Lib.hid hk
  have hv13 : v = 1 ∨ v = 2 ∨ v = 3 := by simp [verB] at hv; omega
  clear h hk0
  have hq : ∃ bs, bodyR r v = bs ∧ ((v = 1 ∧ bs = tupB r.tup ++ u16B r.fb) ∨ (v = 2 ∧ bs = tupB r.tup ++ u16B r.fb ++ u32B r.fg) ∨ (v = 3 ∧ bs = tupB r.tup ++ u16B r.fb ++ u32B r.fg ++ i64B r.fs)) := by
    rcases hv13 with rfl | rfl | rfl <;> simp [bodyR, hk]
  obtain ⟨bs, hb, hq⟩ := hq
  have HB := Lib.hid hb
  clear hb hv13
  rcases hq with ⟨hv', hb⟩ | ⟨hv', hb⟩ | ⟨hv', hb⟩
  all_goals
    have hp := Lib.hid hb
    have HV := Lib.hid hv'
    have v1 : decide (2 ≤ v) = decide (2 ≤ v) := rfl
    first
      | (have q2 : ¬ 2 ≤ v := by omega)
      | (have q2 : 2 ≤ v := by omega)
    first
      | (have q3 : ¬ 3 ≤ v := by omega)
      | (have q3 : 3 ≤ v := by omega)
    clear hv' hb v1
    have b1 : (r.kind == 1) = true := by simp [hk]
    have b2 : (r.kind == 2) = false := by simp [hk]
    have b3 : (r.kind == 3) = false := by simp [hk]
    have b4 : (r.kind == 4) = false := by simp [hk]
    have b5 : (r.kind == 5) = false := by simp [hk]
    have b6 : (r.kind == 6) = false := by simp [hk]
    clear hk
    go_enter Try.func16, Try.ntmps16
    go_upto_region 5 with (first
      | (go_at_call 40; refine (rVersion_any _ _).mono ?_; rintro e w' ⟨rfl, rfl⟩; rw [hv])
      | (go_at_call 31; refine (rMay_any _ r ⟨BkArr.kept H.out.1 Hk0.out (by simp), fun k hk => Nat.lt_of_lt_of_le (H.out.2.1 k hk) Hk0.out.size, H.out.2.2⟩).mono ?_; rintro e w1 ⟨rfl, hk1⟩; rw [hy]
         have S := Lib.hid (S0.out.off (Apart.of_kept hk1))
         have hc := S.out.1.cell
         have hd := S.out.2.cell
         have hf := S.out.2.frozen
         have hlt1 := S.out.2.lt
         have Hk1 := Lib.hid (Hk0.out.trans hk1 (by simp))
         clear hk1))
    clear hv hy
    go_upto_region 9 with fail
    clear hc hd hf
    go_region_held3 (fun w' => ∀ o, w'.cell? ⟨w.heap.size, o, none⟩ = (#[.int .i64 r.kind, .int .u32 (r.tup.src.toNat : Nat), .int .u32 (r.tup.dst.toNat : Nat), .int .i64 r.tup.proto, .int .i64 r.tup.sport, .int .i64 r.tup.dport, .int .i64 r.fb, .int .i64 r.fg, .int .i64 r.fs, .int .i64 r.gen, .slice A m c, .int .i64 r.back, .int .i64 r.until_, .int .i64 r.count] : Array Value)[o]?) (first | exact S.out.1.cell | exact (S.out.1.alloc _).drew.cell | go_keep)
      (first
        | (go_at_call 41
           go_must (with_reducible refine (nTB _ r.tup).mono ?_)
           go_must (rintro e w2 ⟨A2, m2, c2, rfl, hn⟩)
           go_must (have S := Lib.hid (S.out.off (Apart.of_kept ((Kept.refl [] w1).drew.trans hn.kept (by simp)))))
           go_must (have N := Lib.hid (hn.wide Hk1.out.drew))
           go_must (clear hn))
        | (go_at_call 42
           go_must (with_reducible refine (nU16 _ r.fb).mono ?_)
           go_must (rintro e w3 ⟨A3, m3, c3, rfl, hn⟩)
           go_must (have S := Lib.hid (S.out.off (Apart.of_kept hn.kept)))
           go_must (have N := Lib.hid (N.out.go hn.kept))
           go_must (have R := Lib.hid hn)
           go_must (clear hn))
        | (refine step_cat rfl (.tmp 28) (.tmp 32) rfl (by rfl) N.out (by rfl) R.out (by simp [len_all]; try omega) ?_
           intro A4 m4 c4 w4 hn ho hsz
           have S := Lib.hid (S.out.off ho)
           have N := Lib.hid hn
           clear hn ho))
    have hc := S.out.1.cell
    have hd := S.out.2.cell
    have hf := S.out.2.frozen
    go_wp2_with (first
      | (go_at_call 43
         go_must (refine (nU32w _ r.fg _ (wrap_u32n _)).mono ?_)
         go_must (rintro e w5 ⟨A5, m5, c5, rfl, hn⟩)
         go_must (clear hc hd hf)
         go_must (have S := Lib.hid (S.out.off (Apart.of_kept hn.kept)))
         go_must (have hc := S.out.1.cell)
         go_must (have hd := S.out.2.cell)
         go_must (have hf := S.out.2.frozen)
         go_must (have N := Lib.hid (N.out.go hn.kept))
         go_must (have R := Lib.hid hn)
         go_must (clear hn))
      | (at_builtin
         refine wpList_cat rfl (.tmp 36) (.tmp 41) rfl (by rfl) N.out (by rfl) R.out (by simp [len_all]; try omega) ?_
         intro A6 m6 c6 w6 hn ho hsz
         clear hc hd hf
         have S := Lib.hid (S.out.off ho)
         have hc := S.out.1.cell
         have hd := S.out.2.cell
         have hf := S.out.2.frozen
         have N := Lib.hid hn
         clear hn ho)
      | (go_at_call 44
         go_must (refine (nI64 _ r.fs).mono ?_)
         go_must (rintro e w7 ⟨A7, m7, c7, rfl, hn⟩)
         go_must (clear hc hd hf)
         go_must (have S := Lib.hid (S.out.off (Apart.of_kept hn.kept)))
         go_must (have hc := S.out.1.cell)
         go_must (have hd := S.out.2.cell)
         go_must (have hf := S.out.2.frozen)
         go_must (have N := Lib.hid (N.out.go hn.kept))
         go_must (have R := Lib.hid hn)
         go_must (clear hn))
      | (at_builtin
         refine wpList_cat rfl (.tmp 45) (.tmp 49) rfl (by rfl) N.out (by rfl) R.out (by simp [len_all]; try omega) ?_
         intro A8 m8 c8 w8 hn ho hsz
         clear hc hd hf
         have S := Lib.hid (S.out.off ho)
         have hc := S.out.1.cell
         have hd := S.out.2.cell
         have hf := S.out.2.frozen
         have N := Lib.hid hn
         clear hn ho))
    first
      | (have hr := S.out.2.cells3 (.int .i64 r.kind) (.int .i64 v) (.slice A8 m8 c8))
      | (have hr := S.out.2.cells3 (.int .i64 r.kind) (.int .i64 v) (.slice A6 m6 c6))
      | (have hr := S.out.2.cells3 (.int .i64 r.kind) (.int .i64 v) (.slice A4 m4 c4))
    obtain ⟨r1, r2, r3⟩ := hr
    refine bodyPost_ret (by simp [results, Try.results16, go_sem, r1, r2, r3]; rfl) rfl ?_
    exact ⟨_, rfl, (EncR.mk S.out N.out).cast (by rw [HB.out, hp.out])⟩

end Go.Proofs.Ytogdpfjbclnlnaa
