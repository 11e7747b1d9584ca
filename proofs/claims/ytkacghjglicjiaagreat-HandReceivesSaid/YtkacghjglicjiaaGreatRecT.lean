/-
  The reference's Encode, any record, any format.
-/
import Derived.Outline
import Derived.Test.YtkacghjglicjiaaGreatSvO
import Derived.Test.YtkacghjglicjiaaGreatNb
namespace Go.Proofs.YtkacghjglicjiaaGreat
set_option linter.unusedVariables false
section
open Go.RowKit Go.ChangeShapes Go.WideShapes Go.Deep
set_option maxRecDepth 100000
def EncS (w : World) (r : RecD) (sl : Value) (wx : World) : Prop := Blk wx w.heap.size 43 #[.int .i64 r.kind, .int .u32 (r.tup.src.toNat : Nat), .int .u32 (r.tup.dst.toNat : Nat), .int .i64 r.tup.proto, .int .i64 r.tup.sport, .int .i64 r.tup.dport, .int .i64 r.fb, .int .i64 r.fg, .int .i64 r.fs, .int .i64 r.gen, sl, .int .i64 r.back, .int .i64 r.until_, .int .i64 r.count] ∧ Blk wx (w.heap.size + 1) 45 #[.int .i64 0, .int .i64 0, .slice none 0 0]
theorem EncS.off {w : World} {r : RecD} {sl : Value} {a b : World} (h : EncS w r sl a) (k : Apart a b) : EncS w r sl b := ⟨k _ _ _ (by decide) (by decide) h.1, k _ _ _ (by decide) (by decide) h.2⟩
theorem encF_ok {r : RecD} {v : Int} (hv : verB v = true) (hy : mayR r = true) : encE r v = 0 ∧ encF r v = ⟨r.kind, v, bodyR r v⟩ := by simp [encE, encF, hv, hy]
def EncR (w : World) (r : RecD) (v : Int) (bs : List UInt8) (e : Ending) (w' : World) : Prop := ∃ sl, e = .returned (.tuple #[.agg #[.int .i64 r.kind, .int .i64 v, sl], .int .i64 0]) ∧ NB w w' sl bs
theorem EncR.mk {w w3 : World} {r : RecD} {v : Int} {bs : List UInt8} {sl0 : Value} {A : Option Addr} {n c : Nat} (S : EncS w r sl0 w3) (N : NB w w3 (.slice A n c) bs) :
    NB w (((w3.setCell ⟨w.heap.size + 1, 0, none⟩ (.int .i64 r.kind)).setCell ⟨w.heap.size + 1, 1, none⟩ (.int .i64 v)).setCell ⟨w.heap.size + 1, 2, none⟩ (.slice A n c)) (.slice A n c) bs :=
  N.other (S := [w.heap.size + 1]) (((((Kept.refl [w.heap.size + 1] w3).setCell (p := ⟨w.heap.size + 1, 0, none⟩) (.inl (by simp)) (.int .i64 r.kind)).setCell (p := ⟨w.heap.size + 1, 1, none⟩) (.inl (by simp)) (.int .i64 v)).setCell (p := ⟨w.heap.size + 1, 2, none⟩) (.inl (by simp)) (.slice A n c)))
    (fun k hk hm => by
      have := N.1.ne_blk S.2 (by decide)
      simp at hm; subst hm; exact this hk) (fun k hk => by simp at hk; omega)
def EncN (w : World) (r : RecD) (sl : Value) (bs : List UInt8) (s : Value) (wx : World) : Prop := EncS w r sl wx ∧ ∃ A m c, s = .slice A m c ∧ NB w wx s bs
theorem may_backs {r : RecD} (h : mayR r = true) (k : r.kind = 3) : r.backs.length ≤ 16 := by
  have : (inB r.gen 1000000 && (decide (r.backs.length ≤ 16) && r.backs.all mayB)) = true := by simpa [mayR, k] using h
  simp at this; exact this.2.1
set_option maxHeartbeats 6400000 in
set_option maxRecDepth 100000 in
theorem rEncode_5 (w : World) {G : List Nat} {A : Option Addr} {m c : Nat} (r : RecD) (v : Int) (hv : verB v = true) (hy : mayR r = true) (hk : r.kind = 5) (h : SmallB w G A m c r.backs) :
    Calls Tryz.prog 13 #[.agg #[.int .i64 r.kind, .int .u32 (r.tup.src.toNat : Nat), .int .u32 (r.tup.dst.toNat : Nat), .int .i64 r.tup.proto, .int .i64 r.tup.sport, .int .i64 r.tup.dport, .int .i64 r.fb, .int .i64 r.fg, .int .i64 r.fs, .int .i64 r.gen, .slice A m c, .int .i64 r.back, .int .i64 r.until_, .int .i64 r.count], .int .i64 v] w (EncR w r v (bodyR r v)) := by
  have hk0 : Kept [] w ((w.alloc (.cells #[.int .i64 r.kind, .int .u32 (r.tup.src.toNat : Nat), .int .u32 (r.tup.dst.toNat : Nat), .int .i64 r.tup.proto, .int .i64 r.tup.sport, .int .i64 r.tup.dport, .int .i64 r.fb, .int .i64 r.fg, .int .i64 r.fs, .int .i64 r.gen, .slice A m c, .int .i64 r.back, .int .i64 r.until_, .int .i64 r.count] 43)).alloc (.cells #[.int .i64 0, .int .i64 0, .slice none 0 0] 45)) := by (repeat (first | exact Kept.refl _ _ | apply Kept.alloc | apply Kept.drew))
  have S0 := Lib.hid (show EncS w r (.slice A m c) ((w.alloc (.cells #[.int .i64 r.kind, .int .u32 (r.tup.src.toNat : Nat), .int .u32 (r.tup.dst.toNat : Nat), .int .i64 r.tup.proto, .int .i64 r.tup.sport, .int .i64 r.tup.dport, .int .i64 r.fb, .int .i64 r.fg, .int .i64 r.fs, .int .i64 r.gen, .slice A m c, .int .i64 r.back, .int .i64 r.until_, .int .i64 r.count] 43)).alloc (.cells #[.int .i64 0, .int .i64 0, .slice none 0 0] 45)) from ⟨by (repeat (first | (apply Blk.new'; simp; done) | apply Blk.alloc | apply Blk.drew)), by (repeat (first | (apply Blk.new'; simp; done) | apply Blk.alloc | apply Blk.drew))⟩)
  have H := Lib.hid h
  have HL := Lib.hid (BkArr.len h.1)
  have Hk0 := Lib.hid hk0
  have Hv := Lib.hid hv
  have Hy := Lib.hid hy
  have HK := Lib.hid hk
  have hv13 : v = 1 ∨ v = 2 ∨ v = 3 := by simp [verB] at hv; omega
  clear h hk0
  all_goals
    have hp := Lib.hid (show bodyR r v = u16B r.back by simp [bodyR, hk])
    have b1 : (r.kind == 1) = false := by simp [hk]
    have b2 : (r.kind == 2) = false := by simp [hk]
    have b3 : (r.kind == 3) = false := by simp [hk]
    have b4 : (r.kind == 4) = false := by simp [hk]
    have b5 : (r.kind == 5) = true := by simp [hk]
    have b6 : (r.kind == 6) = false := by simp [hk]
    clear hk
    go_enter Tryz.func13, Tryz.ntmps13
    go_upto_region 5 with (first
      | (go_at_call 26; refine (rVersion_any _ _).mono ?_; rintro e w' ⟨rfl, rfl⟩; rw [hv])
      | (go_at_call 27; refine (rMay_any _ r ⟨BkArr.kept H.out.1 Hk0.out (by simp), fun k hk => Nat.lt_of_lt_of_le (H.out.2.1 k hk) Hk0.out.size, H.out.2.2⟩).mono ?_; rintro e w1 ⟨rfl, hk1⟩; rw [hy]
         have S := Lib.hid (S0.out.off (Apart.of_kept hk1))
         have hc := S.out.1.cell
         have hd := S.out.2.cell
         have hf := S.out.2.frozen
         have hlt1 := S.out.2.lt
         have Hk1 := Lib.hid (Hk0.out.trans hk1 (by simp))
         clear hk1))
    clear hv hy
    go_wp2_with (first
      | (go_at_call 29
         go_must (refine (nU16 _ r.back).mono ?_)
         go_must (rintro e w2 ⟨A2, m2, c2, rfl, hn⟩)
         go_must (clear hc hd hf)
         go_must (have S := Lib.hid (S.out.off (Apart.of_kept hn.kept)))
         go_must (have hc := S.out.1.cell)
         go_must (have hd := S.out.2.cell)
         go_must (have hf := S.out.2.frozen)
         go_must (have N := Lib.hid (hn.wide Hk1.out))
         go_must (clear hn)))
    obtain ⟨r1, r2, r3⟩ := S.out.2.cells3 (.int .i64 r.kind) (.int .i64 v) (.slice A2 m2 c2)
    refine bodyPost_ret (by simp [results, Tryz.results13, go_sem, r1, r2, r3]; rfl) rfl ?_
    exact ⟨_, rfl, (EncR.mk S.out N.out).cast (by rw [hp.out])⟩
set_option maxHeartbeats 6400000 in
set_option maxRecDepth 100000 in
theorem rEncode_2 (w : World) {G : List Nat} {A : Option Addr} {m c : Nat} (r : RecD) (v : Int) (hv : verB v = true) (hy : mayR r = true) (hk : r.kind = 2) (h : SmallB w G A m c r.backs) :
    Calls Tryz.prog 13 #[.agg #[.int .i64 r.kind, .int .u32 (r.tup.src.toNat : Nat), .int .u32 (r.tup.dst.toNat : Nat), .int .i64 r.tup.proto, .int .i64 r.tup.sport, .int .i64 r.tup.dport, .int .i64 r.fb, .int .i64 r.fg, .int .i64 r.fs, .int .i64 r.gen, .slice A m c, .int .i64 r.back, .int .i64 r.until_, .int .i64 r.count], .int .i64 v] w (EncR w r v (bodyR r v)) := by
  have hk0 : Kept [] w ((w.alloc (.cells #[.int .i64 r.kind, .int .u32 (r.tup.src.toNat : Nat), .int .u32 (r.tup.dst.toNat : Nat), .int .i64 r.tup.proto, .int .i64 r.tup.sport, .int .i64 r.tup.dport, .int .i64 r.fb, .int .i64 r.fg, .int .i64 r.fs, .int .i64 r.gen, .slice A m c, .int .i64 r.back, .int .i64 r.until_, .int .i64 r.count] 43)).alloc (.cells #[.int .i64 0, .int .i64 0, .slice none 0 0] 45)) := by (repeat (first | exact Kept.refl _ _ | apply Kept.alloc | apply Kept.drew))
  have S0 := Lib.hid (show EncS w r (.slice A m c) ((w.alloc (.cells #[.int .i64 r.kind, .int .u32 (r.tup.src.toNat : Nat), .int .u32 (r.tup.dst.toNat : Nat), .int .i64 r.tup.proto, .int .i64 r.tup.sport, .int .i64 r.tup.dport, .int .i64 r.fb, .int .i64 r.fg, .int .i64 r.fs, .int .i64 r.gen, .slice A m c, .int .i64 r.back, .int .i64 r.until_, .int .i64 r.count] 43)).alloc (.cells #[.int .i64 0, .int .i64 0, .slice none 0 0] 45)) from ⟨by (repeat (first | (apply Blk.new'; simp; done) | apply Blk.alloc | apply Blk.drew)), by (repeat (first | (apply Blk.new'; simp; done) | apply Blk.alloc | apply Blk.drew))⟩)
  have H := Lib.hid h
  have HL := Lib.hid (BkArr.len h.1)
  have Hk0 := Lib.hid hk0
  have Hv := Lib.hid hv
  have Hy := Lib.hid hy
  have HK := Lib.hid hk
  have hv13 : v = 1 ∨ v = 2 ∨ v = 3 := by simp [verB] at hv; omega
  clear h hk0
  all_goals
    have hp := Lib.hid (show bodyR r v = tupB r.tup by simp [bodyR, hk])
    have b1 : (r.kind == 1) = false := by simp [hk]
    have b2 : (r.kind == 2) = true := by simp [hk]
    have b3 : (r.kind == 3) = false := by simp [hk]
    have b4 : (r.kind == 4) = false := by simp [hk]
    have b5 : (r.kind == 5) = false := by simp [hk]
    have b6 : (r.kind == 6) = false := by simp [hk]
    clear hk
    go_enter Tryz.func13, Tryz.ntmps13
    go_upto_region 5 with (first
      | (go_at_call 26; refine (rVersion_any _ _).mono ?_; rintro e w' ⟨rfl, rfl⟩; rw [hv])
      | (go_at_call 27; refine (rMay_any _ r ⟨BkArr.kept H.out.1 Hk0.out (by simp), fun k hk => Nat.lt_of_lt_of_le (H.out.2.1 k hk) Hk0.out.size, H.out.2.2⟩).mono ?_; rintro e w1 ⟨rfl, hk1⟩; rw [hy]
         have S := Lib.hid (S0.out.off (Apart.of_kept hk1))
         have hc := S.out.1.cell
         have hd := S.out.2.cell
         have hf := S.out.2.frozen
         have hlt1 := S.out.2.lt
         have Hk1 := Lib.hid (Hk0.out.trans hk1 (by simp))
         clear hk1))
    clear hv hy
    go_wp2_with (first
      | (go_at_call 28
         go_must (refine (nTB _ r.tup).mono ?_)
         go_must (rintro e w2 ⟨A2, m2, c2, rfl, hn⟩)
         go_must (clear hc hd hf)
         go_must (have S := Lib.hid (S.out.off (Apart.of_kept hn.kept)))
         go_must (have hc := S.out.1.cell)
         go_must (have hd := S.out.2.cell)
         go_must (have hf := S.out.2.frozen)
         go_must (have N := Lib.hid (hn.wide Hk1.out))
         go_must (clear hn)))
    obtain ⟨r1, r2, r3⟩ := S.out.2.cells3 (.int .i64 r.kind) (.int .i64 v) (.slice A2 m2 c2)
    refine bodyPost_ret (by simp [results, Tryz.results13, go_sem, r1, r2, r3]; rfl) rfl ?_
    exact ⟨_, rfl, (EncR.mk S.out N.out).cast (by rw [hp.out])⟩
set_option maxHeartbeats 6400000 in
set_option maxRecDepth 100000 in
theorem rEncode_6 (w : World) {G : List Nat} {A : Option Addr} {m c : Nat} (r : RecD) (v : Int) (hv : verB v = true) (hy : mayR r = true) (hk : r.kind = 6) (h : SmallB w G A m c r.backs) :
    Calls Tryz.prog 13 #[.agg #[.int .i64 r.kind, .int .u32 (r.tup.src.toNat : Nat), .int .u32 (r.tup.dst.toNat : Nat), .int .i64 r.tup.proto, .int .i64 r.tup.sport, .int .i64 r.tup.dport, .int .i64 r.fb, .int .i64 r.fg, .int .i64 r.fs, .int .i64 r.gen, .slice A m c, .int .i64 r.back, .int .i64 r.until_, .int .i64 r.count], .int .i64 v] w (EncR w r v (bodyR r v)) := by
  have hk0 : Kept [] w ((w.alloc (.cells #[.int .i64 r.kind, .int .u32 (r.tup.src.toNat : Nat), .int .u32 (r.tup.dst.toNat : Nat), .int .i64 r.tup.proto, .int .i64 r.tup.sport, .int .i64 r.tup.dport, .int .i64 r.fb, .int .i64 r.fg, .int .i64 r.fs, .int .i64 r.gen, .slice A m c, .int .i64 r.back, .int .i64 r.until_, .int .i64 r.count] 43)).alloc (.cells #[.int .i64 0, .int .i64 0, .slice none 0 0] 45)) := by (repeat (first | exact Kept.refl _ _ | apply Kept.alloc | apply Kept.drew))
  have S0 := Lib.hid (show EncS w r (.slice A m c) ((w.alloc (.cells #[.int .i64 r.kind, .int .u32 (r.tup.src.toNat : Nat), .int .u32 (r.tup.dst.toNat : Nat), .int .i64 r.tup.proto, .int .i64 r.tup.sport, .int .i64 r.tup.dport, .int .i64 r.fb, .int .i64 r.fg, .int .i64 r.fs, .int .i64 r.gen, .slice A m c, .int .i64 r.back, .int .i64 r.until_, .int .i64 r.count] 43)).alloc (.cells #[.int .i64 0, .int .i64 0, .slice none 0 0] 45)) from ⟨by (repeat (first | (apply Blk.new'; simp; done) | apply Blk.alloc | apply Blk.drew)), by (repeat (first | (apply Blk.new'; simp; done) | apply Blk.alloc | apply Blk.drew))⟩)
  have H := Lib.hid h
  have HL := Lib.hid (BkArr.len h.1)
  have Hk0 := Lib.hid hk0
  have Hv := Lib.hid hv
  have Hy := Lib.hid hy
  have HK := Lib.hid hk
  have hv13 : v = 1 ∨ v = 2 ∨ v = 3 := by simp [verB] at hv; omega
  clear h hk0
  all_goals
    have hp := Lib.hid (show bodyR r v = u32B r.count by simp [bodyR, hk])
    have b1 : (r.kind == 1) = false := by simp [hk]
    have b2 : (r.kind == 2) = false := by simp [hk]
    have b3 : (r.kind == 3) = false := by simp [hk]
    have b4 : (r.kind == 4) = false := by simp [hk]
    have b5 : (r.kind == 5) = false := by simp [hk]
    have b6 : (r.kind == 6) = true := by simp [hk]
    clear hk
    go_enter Tryz.func13, Tryz.ntmps13
    go_upto_region 5 with (first
      | (go_at_call 26; refine (rVersion_any _ _).mono ?_; rintro e w' ⟨rfl, rfl⟩; rw [hv])
      | (go_at_call 27; refine (rMay_any _ r ⟨BkArr.kept H.out.1 Hk0.out (by simp), fun k hk => Nat.lt_of_lt_of_le (H.out.2.1 k hk) Hk0.out.size, H.out.2.2⟩).mono ?_; rintro e w1 ⟨rfl, hk1⟩; rw [hy]
         have S := Lib.hid (S0.out.off (Apart.of_kept hk1))
         have hc := S.out.1.cell
         have hd := S.out.2.cell
         have hf := S.out.2.frozen
         have hlt1 := S.out.2.lt
         have Hk1 := Lib.hid (Hk0.out.trans hk1 (by simp))
         clear hk1))
    clear hv hy
    go_wp2_with (first
      | (go_at_call 30
         go_must (refine (nU32w _ r.count _ (wrap_u32n _)).mono ?_)
         go_must (rintro e w2 ⟨A2, m2, c2, rfl, hn⟩)
         go_must (clear hc hd hf)
         go_must (have S := Lib.hid (S.out.off (Apart.of_kept hn.kept)))
         go_must (have hc := S.out.1.cell)
         go_must (have hd := S.out.2.cell)
         go_must (have hf := S.out.2.frozen)
         go_must (have N := Lib.hid (hn.wide Hk1.out))
         go_must (clear hn)))
    obtain ⟨r1, r2, r3⟩ := S.out.2.cells3 (.int .i64 r.kind) (.int .i64 v) (.slice A2 m2 c2)
    refine bodyPost_ret (by simp [results, Tryz.results13, go_sem, r1, r2, r3]; rfl) rfl ?_
    exact ⟨_, rfl, (EncR.mk S.out N.out).cast (by rw [hp.out])⟩
set_option maxHeartbeats 6400000 in
set_option maxRecDepth 100000 in
theorem rEncode_4 (w : World) {G : List Nat} {A : Option Addr} {m c : Nat} (r : RecD) (v : Int) (hv : verB v = true) (hy : mayR r = true) (hk : r.kind = 4) (h : SmallB w G A m c r.backs) :
    Calls Tryz.prog 13 #[.agg #[.int .i64 r.kind, .int .u32 (r.tup.src.toNat : Nat), .int .u32 (r.tup.dst.toNat : Nat), .int .i64 r.tup.proto, .int .i64 r.tup.sport, .int .i64 r.tup.dport, .int .i64 r.fb, .int .i64 r.fg, .int .i64 r.fs, .int .i64 r.gen, .slice A m c, .int .i64 r.back, .int .i64 r.until_, .int .i64 r.count], .int .i64 v] w (EncR w r v (bodyR r v)) := by
  have hk0 : Kept [] w ((w.alloc (.cells #[.int .i64 r.kind, .int .u32 (r.tup.src.toNat : Nat), .int .u32 (r.tup.dst.toNat : Nat), .int .i64 r.tup.proto, .int .i64 r.tup.sport, .int .i64 r.tup.dport, .int .i64 r.fb, .int .i64 r.fg, .int .i64 r.fs, .int .i64 r.gen, .slice A m c, .int .i64 r.back, .int .i64 r.until_, .int .i64 r.count] 43)).alloc (.cells #[.int .i64 0, .int .i64 0, .slice none 0 0] 45)) := by (repeat (first | exact Kept.refl _ _ | apply Kept.alloc | apply Kept.drew))
  have S0 := Lib.hid (show EncS w r (.slice A m c) ((w.alloc (.cells #[.int .i64 r.kind, .int .u32 (r.tup.src.toNat : Nat), .int .u32 (r.tup.dst.toNat : Nat), .int .i64 r.tup.proto, .int .i64 r.tup.sport, .int .i64 r.tup.dport, .int .i64 r.fb, .int .i64 r.fg, .int .i64 r.fs, .int .i64 r.gen, .slice A m c, .int .i64 r.back, .int .i64 r.until_, .int .i64 r.count] 43)).alloc (.cells #[.int .i64 0, .int .i64 0, .slice none 0 0] 45)) from ⟨by (repeat (first | (apply Blk.new'; simp; done) | apply Blk.alloc | apply Blk.drew)), by (repeat (first | (apply Blk.new'; simp; done) | apply Blk.alloc | apply Blk.drew))⟩)
  have H := Lib.hid h
  have HL := Lib.hid (BkArr.len h.1)
  have Hk0 := Lib.hid hk0
  have Hv := Lib.hid hv
  have Hy := Lib.hid hy
  have HK := Lib.hid hk
  have hv13 : v = 1 ∨ v = 2 ∨ v = 3 := by simp [verB] at hv; omega
  clear h hk0
  all_goals
    have hp := Lib.hid (show bodyR r v = u16B r.back ++ i64B r.until_ by simp [bodyR, hk])
    have b1 : (r.kind == 1) = false := by simp [hk]
    have b2 : (r.kind == 2) = false := by simp [hk]
    have b3 : (r.kind == 3) = false := by simp [hk]
    have b4 : (r.kind == 4) = true := by simp [hk]
    have b5 : (r.kind == 5) = false := by simp [hk]
    have b6 : (r.kind == 6) = false := by simp [hk]
    clear hk
    go_enter Tryz.func13, Tryz.ntmps13
    go_upto_region 5 with (first
      | (go_at_call 26; refine (rVersion_any _ _).mono ?_; rintro e w' ⟨rfl, rfl⟩; rw [hv])
      | (go_at_call 27; refine (rMay_any _ r ⟨BkArr.kept H.out.1 Hk0.out (by simp), fun k hk => Nat.lt_of_lt_of_le (H.out.2.1 k hk) Hk0.out.size, H.out.2.2⟩).mono ?_; rintro e w1 ⟨rfl, hk1⟩; rw [hy]
         have S := Lib.hid (S0.out.off (Apart.of_kept hk1))
         have hc := S.out.1.cell
         have hd := S.out.2.cell
         have hf := S.out.2.frozen
         have hlt1 := S.out.2.lt
         have Hk1 := Lib.hid (Hk0.out.trans hk1 (by simp))
         clear hk1))
    clear hv hy
    go_wp2
    clear hc hd hf
    go_region_held3 (fun w' => ∀ o, w'.cell? ⟨w.heap.size, o, none⟩ = (#[.int .i64 r.kind, .int .u32 (r.tup.src.toNat : Nat), .int .u32 (r.tup.dst.toNat : Nat), .int .i64 r.tup.proto, .int .i64 r.tup.sport, .int .i64 r.tup.dport, .int .i64 r.fb, .int .i64 r.fg, .int .i64 r.fs, .int .i64 r.gen, .slice A m c, .int .i64 r.back, .int .i64 r.until_, .int .i64 r.count] : Array Value)[o]?) (first | exact S.out.1.cell | exact (S.out.1.alloc _).drew.cell | go_keep)
      (first
        | (go_at_call 29
           go_must (with_reducible refine (nU16 _ r.back).mono ?_)
           go_must (rintro e w2 ⟨A2, m2, c2, rfl, hn⟩)
           go_must (have S := Lib.hid (S.out.off (Apart.of_kept ((Kept.refl [] w1).drew.trans hn.kept (by simp)))))
           go_must (have N := Lib.hid (hn.wide Hk1.out.drew))
           go_must (clear hn))
        | (go_at_call 31
           go_must (with_reducible refine (nI64 _ r.until_).mono ?_)
           go_must (rintro e w3 ⟨A3, m3, c3, rfl, hn⟩)
           go_must (have S := Lib.hid (S.out.off (Apart.of_kept hn.kept)))
           go_must (have N := Lib.hid (N.out.go hn.kept))
           go_must (have R := Lib.hid hn)
           go_must (clear hn))
        | (refine step_cat rfl (.tmp 98) (.tmp 101) rfl (by rfl) N.out (by rfl) R.out (by simp [len_all]; try omega) ?_
           intro A4 m4 c4 w4 hn ho hsz
           have S := Lib.hid (S.out.off ho)
           have N := Lib.hid hn
           clear hn ho))
    have hc := S.out.1.cell
    have hd := S.out.2.cell
    have hf := S.out.2.frozen
    go_wp2
    obtain ⟨r1, r2, r3⟩ := S.out.2.cells3 (.int .i64 r.kind) (.int .i64 v) (.slice A4 m4 c4)
    refine bodyPost_ret (by simp [results, Tryz.results13, go_sem, r1, r2, r3]; rfl) rfl ?_
    exact ⟨_, rfl, (EncR.mk S.out N.out).cast (by rw [hp.out])⟩
set_option maxHeartbeats 6400000 in
set_option maxRecDepth 100000 in
theorem rEncode_1 (w : World) {G : List Nat} {A : Option Addr} {m c : Nat} (r : RecD) (v : Int) (hv : verB v = true) (hy : mayR r = true) (hk : r.kind = 1) (h : SmallB w G A m c r.backs) :
    Calls Tryz.prog 13 #[.agg #[.int .i64 r.kind, .int .u32 (r.tup.src.toNat : Nat), .int .u32 (r.tup.dst.toNat : Nat), .int .i64 r.tup.proto, .int .i64 r.tup.sport, .int .i64 r.tup.dport, .int .i64 r.fb, .int .i64 r.fg, .int .i64 r.fs, .int .i64 r.gen, .slice A m c, .int .i64 r.back, .int .i64 r.until_, .int .i64 r.count], .int .i64 v] w (EncR w r v (bodyR r v)) := by
  have hk0 : Kept [] w ((w.alloc (.cells #[.int .i64 r.kind, .int .u32 (r.tup.src.toNat : Nat), .int .u32 (r.tup.dst.toNat : Nat), .int .i64 r.tup.proto, .int .i64 r.tup.sport, .int .i64 r.tup.dport, .int .i64 r.fb, .int .i64 r.fg, .int .i64 r.fs, .int .i64 r.gen, .slice A m c, .int .i64 r.back, .int .i64 r.until_, .int .i64 r.count] 43)).alloc (.cells #[.int .i64 0, .int .i64 0, .slice none 0 0] 45)) := by (repeat (first | exact Kept.refl _ _ | apply Kept.alloc | apply Kept.drew))
  have S0 := Lib.hid (show EncS w r (.slice A m c) ((w.alloc (.cells #[.int .i64 r.kind, .int .u32 (r.tup.src.toNat : Nat), .int .u32 (r.tup.dst.toNat : Nat), .int .i64 r.tup.proto, .int .i64 r.tup.sport, .int .i64 r.tup.dport, .int .i64 r.fb, .int .i64 r.fg, .int .i64 r.fs, .int .i64 r.gen, .slice A m c, .int .i64 r.back, .int .i64 r.until_, .int .i64 r.count] 43)).alloc (.cells #[.int .i64 0, .int .i64 0, .slice none 0 0] 45)) from ⟨by (repeat (first | (apply Blk.new'; simp; done) | apply Blk.alloc | apply Blk.drew)), by (repeat (first | (apply Blk.new'; simp; done) | apply Blk.alloc | apply Blk.drew))⟩)
  have H := Lib.hid h
  have HL := Lib.hid (BkArr.len h.1)
  have Hk0 := Lib.hid hk0
  have Hv := Lib.hid hv
  have Hy := Lib.hid hy
  have HK := Lib.hid hk
  have hv13 : v = 1 ∨ v = 2 ∨ v = 3 := by simp [verB] at hv; omega
  clear h hk0
  have hq : ∃ bs, bodyR r v = bs ∧ ((v = 1 ∧ bs = tupB r.tup ++ u16B r.fb) ∨ (v = 2 ∧ bs = tupB r.tup ++ u16B r.fb ++ u32B r.fg) ∨ (v = 3 ∧ bs = tupB r.tup ++ u16B r.fb ++ u32B r.fg ++ i64B r.fs)) := by
    rcases hv13 with rfl | rfl | rfl <;> simp [bodyR, hk]
  obtain ⟨bs, hb, hq⟩ := hq
  have HB := Lib.hid hb
  clear hb hv13
  rcases hq with ⟨hv', hb⟩ | ⟨hv', hb⟩ | ⟨hv', hb⟩
  all_goals
    have hp := Lib.hid hb
    have HV := Lib.hid hv'
    have v1 : decide (2 ≤ v) = decide (2 ≤ v) := rfl
    first
      | (have q2 : ¬ 2 ≤ v := by omega)
      | (have q2 : 2 ≤ v := by omega)
    first
      | (have q3 : ¬ 3 ≤ v := by omega)
      | (have q3 : 3 ≤ v := by omega)
    clear hv' hb v1
    have b1 : (r.kind == 1) = true := by simp [hk]
    have b2 : (r.kind == 2) = false := by simp [hk]
    have b3 : (r.kind == 3) = false := by simp [hk]
    have b4 : (r.kind == 4) = false := by simp [hk]
    have b5 : (r.kind == 5) = false := by simp [hk]
    have b6 : (r.kind == 6) = false := by simp [hk]
    clear hk
    go_enter Tryz.func13, Tryz.ntmps13
    go_upto_region 5 with (first
      | (go_at_call 26; refine (rVersion_any _ _).mono ?_; rintro e w' ⟨rfl, rfl⟩; rw [hv])
      | (go_at_call 27; refine (rMay_any _ r ⟨BkArr.kept H.out.1 Hk0.out (by simp), fun k hk => Nat.lt_of_lt_of_le (H.out.2.1 k hk) Hk0.out.size, H.out.2.2⟩).mono ?_; rintro e w1 ⟨rfl, hk1⟩; rw [hy]
         have S := Lib.hid (S0.out.off (Apart.of_kept hk1))
         have hc := S.out.1.cell
         have hd := S.out.2.cell
         have hf := S.out.2.frozen
         have hlt1 := S.out.2.lt
         have Hk1 := Lib.hid (Hk0.out.trans hk1 (by simp))
         clear hk1))
    clear hv hy
    go_upto_region 9 with fail
    clear hc hd hf
    go_region_held3 (fun w' => ∀ o, w'.cell? ⟨w.heap.size, o, none⟩ = (#[.int .i64 r.kind, .int .u32 (r.tup.src.toNat : Nat), .int .u32 (r.tup.dst.toNat : Nat), .int .i64 r.tup.proto, .int .i64 r.tup.sport, .int .i64 r.tup.dport, .int .i64 r.fb, .int .i64 r.fg, .int .i64 r.fs, .int .i64 r.gen, .slice A m c, .int .i64 r.back, .int .i64 r.until_, .int .i64 r.count] : Array Value)[o]?) (first | exact S.out.1.cell | exact (S.out.1.alloc _).drew.cell | go_keep)
      (first
        | (go_at_call 28
           go_must (with_reducible refine (nTB _ r.tup).mono ?_)
           go_must (rintro e w2 ⟨A2, m2, c2, rfl, hn⟩)
           go_must (have S := Lib.hid (S.out.off (Apart.of_kept ((Kept.refl [] w1).drew.trans hn.kept (by simp)))))
           go_must (have N := Lib.hid (hn.wide Hk1.out.drew))
           go_must (clear hn))
        | (go_at_call 29
           go_must (with_reducible refine (nU16 _ r.fb).mono ?_)
           go_must (rintro e w3 ⟨A3, m3, c3, rfl, hn⟩)
           go_must (have S := Lib.hid (S.out.off (Apart.of_kept hn.kept)))
           go_must (have N := Lib.hid (N.out.go hn.kept))
           go_must (have R := Lib.hid hn)
           go_must (clear hn))
        | (refine step_cat rfl (.tmp 28) (.tmp 32) rfl (by rfl) N.out (by rfl) R.out (by simp [len_all]; try omega) ?_
           intro A4 m4 c4 w4 hn ho hsz
           have S := Lib.hid (S.out.off ho)
           have N := Lib.hid hn
           clear hn ho))
    have hc := S.out.1.cell
    have hd := S.out.2.cell
    have hf := S.out.2.frozen
    go_wp2_with (first
      | (go_at_call 30
         go_must (refine (nU32w _ r.fg _ (wrap_u32n _)).mono ?_)
         go_must (rintro e w5 ⟨A5, m5, c5, rfl, hn⟩)
         go_must (clear hc hd hf)
         go_must (have S := Lib.hid (S.out.off (Apart.of_kept hn.kept)))
         go_must (have hc := S.out.1.cell)
         go_must (have hd := S.out.2.cell)
         go_must (have hf := S.out.2.frozen)
         go_must (have N := Lib.hid (N.out.go hn.kept))
         go_must (have R := Lib.hid hn)
         go_must (clear hn))
      | (at_builtin
         refine wpList_cat rfl (.tmp 36) (.tmp 41) rfl (by rfl) N.out (by rfl) R.out (by simp [len_all]; try omega) ?_
         intro A6 m6 c6 w6 hn ho hsz
         clear hc hd hf
         have S := Lib.hid (S.out.off ho)
         have hc := S.out.1.cell
         have hd := S.out.2.cell
         have hf := S.out.2.frozen
         have N := Lib.hid hn
         clear hn ho)
      | (go_at_call 31
         go_must (refine (nI64 _ r.fs).mono ?_)
         go_must (rintro e w7 ⟨A7, m7, c7, rfl, hn⟩)
         go_must (clear hc hd hf)
         go_must (have S := Lib.hid (S.out.off (Apart.of_kept hn.kept)))
         go_must (have hc := S.out.1.cell)
         go_must (have hd := S.out.2.cell)
         go_must (have hf := S.out.2.frozen)
         go_must (have N := Lib.hid (N.out.go hn.kept))
         go_must (have R := Lib.hid hn)
         go_must (clear hn))
      | (at_builtin
         refine wpList_cat rfl (.tmp 45) (.tmp 49) rfl (by rfl) N.out (by rfl) R.out (by simp [len_all]; try omega) ?_
         intro A8 m8 c8 w8 hn ho hsz
         clear hc hd hf
         have S := Lib.hid (S.out.off ho)
         have hc := S.out.1.cell
         have hd := S.out.2.cell
         have hf := S.out.2.frozen
         have N := Lib.hid hn
         clear hn ho))
    first
      | (have hr := S.out.2.cells3 (.int .i64 r.kind) (.int .i64 v) (.slice A8 m8 c8))
      | (have hr := S.out.2.cells3 (.int .i64 r.kind) (.int .i64 v) (.slice A6 m6 c6))
      | (have hr := S.out.2.cells3 (.int .i64 r.kind) (.int .i64 v) (.slice A4 m4 c4))
    obtain ⟨r1, r2, r3⟩ := hr
    refine bodyPost_ret (by simp [results, Tryz.results13, go_sem, r1, r2, r3]; rfl) rfl ?_
    exact ⟨_, rfl, (EncR.mk S.out N.out).cast (by rw [HB.out, hp.out])⟩
end
section
open Go.RowKit Go.ChangeShapes Go.WideShapes Go.Deep
set_option maxRecDepth 100000
set_option maxHeartbeats 6400000 in
set_option maxRecDepth 100000 in
theorem rEncode_3 (w : World) {G : List Nat} {A : Option Addr} {m c : Nat} (r : RecD) (v : Int) (hv : verB v = true) (hy : mayR r = true) (hk : r.kind = 3) (h : SmallB w G A m c r.backs) :
    Calls Tryz.prog 13 #[.agg #[.int .i64 r.kind, .int .u32 (r.tup.src.toNat : Nat), .int .u32 (r.tup.dst.toNat : Nat), .int .i64 r.tup.proto, .int .i64 r.tup.sport, .int .i64 r.tup.dport, .int .i64 r.fb, .int .i64 r.fg, .int .i64 r.fs, .int .i64 r.gen, .slice A m c, .int .i64 r.back, .int .i64 r.until_, .int .i64 r.count], .int .i64 v] w (EncR w r v (bodyR r v)) := by
  have hk0 : Kept [] w ((w.alloc (.cells #[.int .i64 r.kind, .int .u32 (r.tup.src.toNat : Nat), .int .u32 (r.tup.dst.toNat : Nat), .int .i64 r.tup.proto, .int .i64 r.tup.sport, .int .i64 r.tup.dport, .int .i64 r.fb, .int .i64 r.fg, .int .i64 r.fs, .int .i64 r.gen, .slice A m c, .int .i64 r.back, .int .i64 r.until_, .int .i64 r.count] 43)).alloc (.cells #[.int .i64 0, .int .i64 0, .slice none 0 0] 45)) := by (repeat (first | exact Kept.refl _ _ | apply Kept.alloc | apply Kept.drew))
  have S0 := Lib.hid (show EncS w r (.slice A m c) ((w.alloc (.cells #[.int .i64 r.kind, .int .u32 (r.tup.src.toNat : Nat), .int .u32 (r.tup.dst.toNat : Nat), .int .i64 r.tup.proto, .int .i64 r.tup.sport, .int .i64 r.tup.dport, .int .i64 r.fb, .int .i64 r.fg, .int .i64 r.fs, .int .i64 r.gen, .slice A m c, .int .i64 r.back, .int .i64 r.until_, .int .i64 r.count] 43)).alloc (.cells #[.int .i64 0, .int .i64 0, .slice none 0 0] 45)) from ⟨by (repeat (first | (apply Blk.new'; simp; done) | apply Blk.alloc | apply Blk.drew)), by (repeat (first | (apply Blk.new'; simp; done) | apply Blk.alloc | apply Blk.drew))⟩)
  have H := Lib.hid h
  have HL := Lib.hid (BkArr.len h.1)
  have Hk0 := Lib.hid hk0
  have Hv := Lib.hid hv
  have Hy := Lib.hid hy
  have HK := Lib.hid hk
  have hv13 : v = 1 ∨ v = 2 ∨ v = 3 := by simp [verB] at hv; omega
  clear h hk0
  have hp := Lib.hid (show bodyR r v = u32B r.gen ++ u8B r.backs.length ++ r.backs.flatMap (backB v) by simp [bodyR, hk])
  have hm16 := may_backs hy hk
  rw [HL.out.1] at hm16
  have HM := Lib.hid HL.out.1
  have w8 : IntKind.u8.wrap (m : Int) = (m : Int) % 256 := IntKind.wrap_u8 _
  have hq2 : 2 ≤ v ∨ ¬ 2 ≤ v := by omega
  clear hv13
  rcases hq2 with q2 | q2
  all_goals
    have b1 : (r.kind == 1) = false := by simp [hk]
    have b2 : (r.kind == 2) = false := by simp [hk]
    have b3 : (r.kind == 3) = true := by simp [hk]
    have b4 : (r.kind == 4) = false := by simp [hk]
    have b5 : (r.kind == 5) = false := by simp [hk]
    have b6 : (r.kind == 6) = false := by simp [hk]
    clear hk
    go_enter Tryz.func13, Tryz.ntmps13
    go_upto_region 5 with (first
      | (go_at_call 26; refine (rVersion_any _ _).mono ?_; rintro e w' ⟨rfl, rfl⟩; rw [hv])
      | (go_at_call 27; refine (rMay_any _ r ⟨BkArr.kept H.out.1 Hk0.out (by simp), fun k hk => Nat.lt_of_lt_of_le (H.out.2.1 k hk) Hk0.out.size, H.out.2.2⟩).mono ?_; rintro e w1 ⟨rfl, hk1⟩; rw [hy]
         have S := Lib.hid (S0.out.off (Apart.of_kept hk1))
         have hc := S.out.1.cell
         have hd := S.out.2.cell
         have hf := S.out.2.frozen
         have hlt1 := S.out.2.lt
         have Hk1 := Lib.hid (Hk0.out.trans hk1 (by simp))
         clear hk1))
    clear hv hy
    go_upto_region 17 with fail
    clear hc hd hf
    go_cut [6] (fun s wx => EncN w r (.slice A m c) (u32B r.gen ++ u8B m) s wx)
    case first =>
      go_region_held3 (fun w' => ∀ o, w'.cell? ⟨w.heap.size, o, none⟩ = (#[.int .i64 r.kind, .int .u32 (r.tup.src.toNat : Nat), .int .u32 (r.tup.dst.toNat : Nat), .int .i64 r.tup.proto, .int .i64 r.tup.sport, .int .i64 r.tup.dport, .int .i64 r.fb, .int .i64 r.fg, .int .i64 r.fs, .int .i64 r.gen, .slice A m c, .int .i64 r.back, .int .i64 r.until_, .int .i64 r.count] : Array Value)[o]?) (first | exact S.out.1.cell | exact (S.out.1.alloc _).drew.cell | go_keep)
        (first
          | (go_at_call 30
             go_must (refine (nU32w _ r.gen _ (by first | exact wrap_u32n _ | (unfold u32n; omega))).mono ?_)
             go_must (rintro e w2 ⟨A2, m2, c2, rfl, hn⟩)
             go_must (have hkd := Kept.trans (a := w1) (S := []) (by (repeat (first | exact Kept.refl _ _ | apply Kept.alloc | apply Kept.drew))) hn.kept (by simp))
             go_must (first | (have X := Lib.hid (((Blk.new w1 5 #[.int .u8 ((m : Int) % 256)]).drew).kept hn.kept (by simp))) | skip)
             go_must (have S := Lib.hid (S.out.off (Apart.of_kept hkd)))
             go_must (have N := Lib.hid (hn.wide (Hk1.out.trans (b := w1) (S := []) (T := []) (by (repeat (first | exact Kept.refl _ _ | apply Kept.alloc | apply Kept.drew))) (by simp))))
             go_must (clear hn hkd))
          | (refine step_catB (n := m) rfl (.tmp 62) (.tmp 67) rfl X.out (by rfl) N.out (by rfl) (by simp [len_all]; try omega) ?_
             intro A4 m4 c4 w4 hn ho hsz
             have S := Lib.hid (S.out.off ho)
             have N := Lib.hid hn
             clear hn ho)
          | (refine step_cat1 (n := m) rfl (.tmp 62) (.tmp 67) rfl (by rfl) (by rfl) N.out (by rfl) (by simp [len_all]; try omega) ?_
             intro A4 m4 c4 w4 hn ho hsz
             have S := Lib.hid (S.out.off ho)
             have N := Lib.hid hn
             clear hn ho))
      all_goals
        go_wp2
        go_meet
        case rel => exact ⟨S.out, _, _, _, rfl, N.out⟩
    case rest =>
      obtain ⟨hs5, A5, m5, c5, rfl, hn5⟩ := hcut
      have S := Lib.hid hs5
      have N5 := Lib.hid hn5
      have hc := S.out.1.cell
      clear hs5 hn5
      have hmc := HL.out.2.2.1
      have hmc2 := HL.out.2.1
      unfold maxLen at hmc
      go_wp2
      go_loopg [6, 72] m (fun g s i wr => ∃ k : Nat, k ≤ m ∧ g = m - k ∧ i = .int .i64 k ∧ EncN w r (.slice A m c) (u32B r.gen ++ u8B m ++ (r.backs.take k).flatMap (backB v)) s wr)
      case atStart => exact ⟨0, by omega, by omega, rfl, S.out, _, _, _, rfl, N5.out.cast (by simp)⟩
      case round =>
        obtain ⟨k, hk, rfl, rfl, hs6, A6, m6, c6, rfl, hn6⟩ := hrel
        have S := Lib.hid hs6
        have N := Lib.hid hn6
        clear hs6 hn6 hc
        by_cases hlt : k < m
        · have hkl : k < r.backs.length := by rw [HM.out]; exact hlt
          obtain ⟨g, o, rfl, hg, hgG, c0, c1, c2⟩ := (BkArr.kept H.out.1 N.out.kept (by simp)).at (k := k) hkl
          have hb6 : (u32B r.gen ++ u8B m ++ (r.backs.take k).flatMap (backB v)).length ≤ 1000 := by
            have := backsB_len v (r.backs.take k)
            simp only [List.length_append, this, u32B_len, u8B_len, List.length_take]
            split <;> omega
          have Hd := Lib.hid (show u32B r.gen ++ u8B m ++ (r.backs.take (k + 1)).flatMap (backB v) = (u32B r.gen ++ u8B m ++ (r.backs.take k).flatMap (backB v)) ++ backB v r.backs[k] by rw [List.take_succ_eq_append_getElem hkl, List.flatMap_append, List.flatMap_cons, List.flatMap_nil, List.append_nil]; simp only [List.append_assoc])
          generalize r.backs[k]'hkl = bk at *
          generalize u32B r.gen ++ u8B m ++ (r.backs.take k).flatMap (backB v) = bs6 at *
          clear hkl
          have i0 : (0 : Int) ≤ (k : Int) := by omega
          have i1 : (k : Int) < (m : Int) := by omega
          have w8b : IntKind.u8.wrap bk.weight = bk.weight % 256 := IntKind.wrap_u8 _
          go_upto_region 21 with fail
          have hka : Kept [] wr (wr.alloc (.cells #[.int .i64 bk.id, .int .u32 (bk.addr.toNat : Nat), .int .i64 bk.weight] 78)).drew := by (repeat (first | exact Kept.refl _ _ | apply Kept.alloc | apply Kept.drew))
          have X := Lib.hid (show Blk (wr.alloc (.cells #[.int .i64 bk.id, .int .u32 (bk.addr.toNat : Nat), .int .i64 bk.weight] 78)).drew wr.heap.size 78 #[.int .i64 bk.id, .int .u32 (bk.addr.toNat : Nat), .int .i64 bk.weight] from by (repeat (first | (apply Blk.new'; simp; done) | apply Blk.alloc | apply Blk.drew)))
          have hwr : w.heap.size ≤ wr.heap.size := N.out.kept.size
          have S := Lib.hid (S.out.off (Apart.of_kept hka))
          have N := Lib.hid (N.out.go hka)
          clear hka c0 c1 c2
          go_region_held3 (fun w' => ∀ o, w'.cell? ⟨wr.heap.size, o, none⟩ = (#[.int .i64 bk.id, .int .u32 (bk.addr.toNat : Nat), .int .i64 bk.weight] : Array Value)[o]?) (first | exact X.out.cell | go_keep)
            (first
              | (go_at_call 29
                 go_must (refine (nU16 _ bk.id).mono ?_)
                 go_must (rintro e w2 ⟨A2, m2, c2, rfl, hn⟩)
                 go_must (have X := Lib.hid (X.out.kept hn.kept (by simp)))
                 go_must (have S := Lib.hid (S.out.off (Apart.of_kept hn.kept)))
                 go_must (have N := Lib.hid (N.out.go hn.kept))
                 go_must (have R := Lib.hid hn)
                 go_must (clear hn))
              | (go_at_call 30
                 go_must (refine (nU32 _ bk.addr).mono ?_)
                 go_must (rintro e w3 ⟨A3, m3, c3, rfl, hn⟩)
                 go_must (have X := Lib.hid (X.out.kept hn.kept (by simp)))
                 go_must (have S := Lib.hid (S.out.off (Apart.of_kept hn.kept)))
                 go_must (have N := Lib.hid (N.out.go hn.kept))
                 go_must (have R := Lib.hid hn)
                 go_must (clear hn))
              | (refine step_cat rfl (.tmp 76) (.tmp 79) rfl (by rfl) N.out (by rfl) R.out (by simp [len_all]; try omega) ?_
                 intro A4 m4 c4 w4 hn ho hsz
                 have X := Lib.hid (ho _ _ _ (by decide) (by decide) X.out)
                 have S := Lib.hid (S.out.off ho)
                 have N := Lib.hid hn
                 clear hn ho)
              | (refine step_cat rfl (.tmp 80) (.tmp 83) rfl (by rfl) N.out (by rfl) R.out (by simp [len_all]; try omega) ?_
                 intro A5 m5 c5 w5 hn ho hsz
                 have X := Lib.hid (ho _ _ _ (by decide) (by decide) X.out)
                 have S := Lib.hid (S.out.off ho)
                 have N := Lib.hid hn
                 clear hn ho))
          have hcx := X.out.cell
          go_wp2_with (at_builtin
                       refine wpList_cat1 (n := bk.weight) rfl (.tmp 87) (.tmp 91) rfl rfl (by rfl) N.out (by rfl) (by simp [len_all]; try omega) ?_
                       intro A9 m9 c9 w9 hn ho hsz
                       clear hcx
                       have S := Lib.hid (S.out.off ho)
                       have N := Lib.hid hn
                       clear hn ho)
          go_roundg (m - (k + 1))
          case measure => omega
          case rel => exact ⟨k + 1, by omega, rfl, by go_num, S.out, _, _, _, rfl, N.out.cast (by rw [Hd.out]; first | (simp [backB, q2]; done) | (simp [backB, show ¬ 2 ≤ v by omega]; done))⟩
        · obtain rfl : k = m := by omega
          have N := Lib.hid (N.out.cast (show _ = bodyR r v by rw [hp.out, List.take_of_length_le (Nat.le_of_eq HM.out), HM.out]))
          generalize bodyR r v = bsx at *
          have hc := S.out.1.cell
          have hd := S.out.2.cell
          have hf := S.out.2.frozen
          go_wp2
          obtain ⟨r1, r2, r3⟩ := S.out.2.cells3 (.int .i64 r.kind) (.int .i64 v) (.slice A6 m6 c6)
          refine bodyPost_ret (by simp [results, Tryz.results13, go_sem, r1, r2, r3]; rfl) rfl ?_
          exact ⟨_, rfl, EncR.mk S.out N.out⟩
end
section
open Go.RowKit Go.ChangeShapes Go.WideShapes Go.Deep
set_option maxRecDepth 100000
set_option maxHeartbeats 3200000 in
set_option maxRecDepth 100000 in
theorem rEncode_any (w : World) {G : List Nat} {A : Option Addr} {m c : Nat} (r : RecD) (v : Int) (h : SmallB w G A m c r.backs) :
    Calls Tryz.prog 13 #[.agg #[.int .i64 r.kind, .int .u32 (r.tup.src.toNat : Nat), .int .u32 (r.tup.dst.toNat : Nat), .int .i64 r.tup.proto, .int .i64 r.tup.sport, .int .i64 r.tup.dport, .int .i64 r.fb, .int .i64 r.fg, .int .i64 r.fs, .int .i64 r.gen, .slice A m c, .int .i64 r.back, .int .i64 r.until_, .int .i64 r.count], .int .i64 v] w fun e w' => ∃ sl, e = .returned (.tuple #[.agg #[.int .i64 (encF r v).kind, .int .i64 (encF r v).ver, sl], .int .i64 (encE r v)]) ∧ NB w w' sl (encF r v).body := by
  have hk0 : Kept [] w ((w.alloc (.cells #[.int .i64 r.kind, .int .u32 (r.tup.src.toNat : Nat), .int .u32 (r.tup.dst.toNat : Nat), .int .i64 r.tup.proto, .int .i64 r.tup.sport, .int .i64 r.tup.dport, .int .i64 r.fb, .int .i64 r.fg, .int .i64 r.fs, .int .i64 r.gen, .slice A m c, .int .i64 r.back, .int .i64 r.until_, .int .i64 r.count] 43)).alloc (.cells #[.int .i64 0, .int .i64 0, .slice none 0 0] 45)) := by (repeat (first | exact Kept.refl _ _ | apply Kept.alloc | apply Kept.drew))
  have S0 := Lib.hid (show EncS w r (.slice A m c) ((w.alloc (.cells #[.int .i64 r.kind, .int .u32 (r.tup.src.toNat : Nat), .int .u32 (r.tup.dst.toNat : Nat), .int .i64 r.tup.proto, .int .i64 r.tup.sport, .int .i64 r.tup.dport, .int .i64 r.fb, .int .i64 r.fg, .int .i64 r.fs, .int .i64 r.gen, .slice A m c, .int .i64 r.back, .int .i64 r.until_, .int .i64 r.count] 43)).alloc (.cells #[.int .i64 0, .int .i64 0, .slice none 0 0] 45)) from ⟨by (repeat (first | (apply Blk.new'; simp; done) | apply Blk.alloc | apply Blk.drew)), by (repeat (first | (apply Blk.new'; simp; done) | apply Blk.alloc | apply Blk.drew))⟩)
  have H := Lib.hid h
  have Hk0 := Lib.hid hk0
  clear hk0
  cases hv : verB v
  · clear h
    have he := Lib.hid (show encE r v = 10 by simp [encE, hv])
    have hf := Lib.hid (show encF r v = default by simp [encF, hv])
    go_enter Tryz.func13, Tryz.ntmps13
    go_wp2_with (go_at_call 26; refine (rVersion_any _ _).mono ?_; rintro e w' ⟨rfl, rfl⟩; rw [hv])
    refine bodyPost_ret (by simp [results, Tryz.results13, go_sem]; rfl) rfl ?_
    rw [he.out, hf.out]
    exact ⟨_, rfl, NB.nil (by (repeat (first | exact Kept.refl _ _ | apply Kept.alloc | apply Kept.drew)))⟩
  · cases hy : mayR r
    · clear h
      have he := Lib.hid (show encE r v = 1 by simp [encE, hv, hy])
      have hf := Lib.hid (show encF r v = default by simp [encF, hy])
      go_enter Tryz.func13, Tryz.ntmps13
      go_wp2_with (first
        | (go_at_call 26; refine (rVersion_any _ _).mono ?_; rintro e w' ⟨rfl, rfl⟩; rw [hv])
        | (go_at_call 27; refine (rMay_any _ r ⟨BkArr.kept H.out.1 Hk0.out (by simp), fun k hk => Nat.lt_of_lt_of_le (H.out.2.1 k hk) Hk0.out.size, H.out.2.2⟩).mono ?_; rintro e w1 ⟨rfl, hk1⟩; rw [hy]
           have hb1 := S0.out.2.kept hk1 (by simp)
           have hc1 := hb1.cell
           have hf1 := hb1.frozen
           have Hb1 := Lib.hid hb1
           have Hk1 := Lib.hid (Hk0.out.trans hk1 (by simp))
           clear hk1 hb1))
      obtain ⟨r1, r2, r3⟩ := Hb1.out.cells3 (.int .i64 0) (.int .i64 0) (.slice none 0 0)
      refine bodyPost_ret (by simp [results, Tryz.results13, go_sem, r1, r2, r3]; rfl) rfl ?_
      rw [he.out, hf.out]
      exact ⟨_, rfl, NB.nil (Hk1.out.cells3 (by omega) _ _ _)⟩
    · obtain ⟨he, hf⟩ := encF_ok hv hy
      rw [he, hf]
      have hk := may_kind hy
      have hc : r.kind = 5 ∨ r.kind = 2 ∨ r.kind = 6 ∨ r.kind = 4 ∨ r.kind = 1 ∨ r.kind = 3 := by omega
      rcases hc with k | k | k | k | k | k
      · exact rEncode_5 w r v hv hy k h
      · exact rEncode_2 w r v hv hy k h
      · exact rEncode_6 w r v hv hy k h
      · exact rEncode_4 w r v hv hy k h
      · exact rEncode_1 w r v hv hy k h
      · exact rEncode_3 w r v hv hy k h
end
end Go.Proofs.YtkacghjglicjiaaGreat
