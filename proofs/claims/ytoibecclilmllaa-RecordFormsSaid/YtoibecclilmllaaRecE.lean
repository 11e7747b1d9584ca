
/-
  Contracts: records, the same.
-/
import Derived.Test.YtoibecclilmllaaRecC
import Derived.Deep.RegionWith
import Derived.Deep.DeepCutAuto
namespace Go.Proofs.Ytoibecclilmllaa
open Go.RowKit Go.ChangeShapes Go.WideShapes Go.Deep
set_option linter.unusedVariables false

theorem two_puts {w : World} {g h : Nat} {t u : TypeId} {cs ds : Array Value} (hg : Blk w g t cs) (hh : Blk w h u ds) (hne : g ≠ h) (vs us : List Value) (hs : cs.size = vs.length) (hu : ds.size = us.length) :
    Blk ((w.setCells g 0 vs).setCells h 0 us) g t vs.toArray ∧ Blk ((w.setCells g 0 vs).setCells h 0 us) h u us.toArray ∧ Kept [g, h] w ((w.setCells g 0 vs).setCells h 0 us) := by
  have k1 := Kept.setCells (g := g) vs 0 w w (Kept.refl _ _)
  have k2 := Kept.setCells (g := h) us 0 (w.setCells g 0 vs) (w.setCells g 0 vs) (Kept.refl _ _)
  have b1 := hg.whole vs.toArray (by simpa using hs)
  have b2 := (hh.kept k1 (by simpa using fun e => hne e.symm)).whole us.toArray (by simpa using hu)
  simp only at b1 b2
  exact ⟨b1.kept k2 (by simpa using hne), b2, (k1.mono (fun i hi => .inl (by simp at hi; simp [hi]))).trans k2 (fun i hi => .inl (by simp at hi; simp [hi]))⟩

/-- two records in blocks of their own, made since w -/
def TwoRec (w w9 : World) (p q : RecD) : Prop := ∃ A1 d1 A2 d2, Blk w9 w.heap.size 29 #[.int .i64 p.kind, .int .u32 (p.tup.src.toNat : Nat), .int .u32 (p.tup.dst.toNat : Nat), .int .i64 p.tup.proto, .int .i64 p.tup.sport, .int .i64 p.tup.dport, .int .i64 p.fb, .int .i64 p.fg, .int .i64 p.fs, .int .i64 p.gen, .slice A1 p.backs.length d1, .int .i64 p.back, .int .i64 p.until_, .int .i64 p.count] ∧ Blk w9 (w.heap.size + 1) 29 #[.int .i64 q.kind, .int .u32 (q.tup.src.toNat : Nat), .int .u32 (q.tup.dst.toNat : Nat), .int .i64 q.tup.proto, .int .i64 q.tup.sport, .int .i64 q.tup.dport, .int .i64 q.fb, .int .i64 q.fg, .int .i64 q.fs, .int .i64 q.gen, .slice A2 q.backs.length d2, .int .i64 q.back, .int .i64 q.until_, .int .i64 q.count] ∧
  BkV w w9 (.slice A1 p.backs.length d1) p.backs ∧ BkV w w9 (.slice A2 q.backs.length d2) q.backs ∧ Kept [] w w9

set_option maxHeartbeats 6400000 in
theorem SameR_any (w : World) {G1 G2 : List Nat} {A B : Option Addr} {m c n d : Nat} (r s : RecD) (h1 : SmallB w G1 A m c r.backs) (h2 : SmallB w G2 B n d s.backs) :
    Calls Try.prog 11 #[.agg #[.int .i64 r.kind, .int .u32 (r.tup.src.toNat : Nat), .int .u32 (r.tup.dst.toNat : Nat), .int .i64 r.tup.proto, .int .i64 r.tup.sport, .int .i64 r.tup.dport, .int .i64 r.fb, .int .i64 r.fg, .int .i64 r.fs, .int .i64 r.gen, .slice A m c, .int .i64 r.back, .int .i64 r.until_, .int .i64 r.count], .agg #[.int .i64 s.kind, .int .u32 (s.tup.src.toNat : Nat), .int .u32 (s.tup.dst.toNat : Nat), .int .i64 s.tup.proto, .int .i64 s.tup.sport, .int .i64 s.tup.dport, .int .i64 s.fb, .int .i64 s.fg, .int .i64 s.fs, .int .i64 s.gen, .slice B n d, .int .i64 s.back, .int .i64 s.until_, .int .i64 s.count]] w fun e w' => e = .returned (.bool (sameR r s)) ∧ Kept [] w w' := by
  have hk0 : Kept [] w ((w.alloc (.cells #[.int .i64 r.kind, .int .u32 (r.tup.src.toNat : Nat), .int .u32 (r.tup.dst.toNat : Nat), .int .i64 r.tup.proto, .int .i64 r.tup.sport, .int .i64 r.tup.dport, .int .i64 r.fb, .int .i64 r.fg, .int .i64 r.fs, .int .i64 r.gen, .slice A m c, .int .i64 r.back, .int .i64 r.until_, .int .i64 r.count] 29)).alloc (.cells #[.int .i64 s.kind, .int .u32 (s.tup.src.toNat : Nat), .int .u32 (s.tup.dst.toNat : Nat), .int .i64 s.tup.proto, .int .i64 s.tup.sport, .int .i64 s.tup.dport, .int .i64 s.fb, .int .i64 s.fg, .int .i64 s.fs, .int .i64 s.gen, .slice B n d, .int .i64 s.back, .int .i64 s.until_, .int .i64 s.count] 29)).drew := by (repeat (first | exact Kept.refl _ _ | apply Kept.alloc | apply Kept.drew))
  have Ba := Lib.hid (show Blk ((w.alloc (.cells #[.int .i64 r.kind, .int .u32 (r.tup.src.toNat : Nat), .int .u32 (r.tup.dst.toNat : Nat), .int .i64 r.tup.proto, .int .i64 r.tup.sport, .int .i64 r.tup.dport, .int .i64 r.fb, .int .i64 r.fg, .int .i64 r.fs, .int .i64 r.gen, .slice A m c, .int .i64 r.back, .int .i64 r.until_, .int .i64 r.count] 29)).alloc (.cells #[.int .i64 s.kind, .int .u32 (s.tup.src.toNat : Nat), .int .u32 (s.tup.dst.toNat : Nat), .int .i64 s.tup.proto, .int .i64 s.tup.sport, .int .i64 s.tup.dport, .int .i64 s.fb, .int .i64 s.fg, .int .i64 s.fs, .int .i64 s.gen, .slice B n d, .int .i64 s.back, .int .i64 s.until_, .int .i64 s.count] 29)).drew w.heap.size 29 #[.int .i64 r.kind, .int .u32 (r.tup.src.toNat : Nat), .int .u32 (r.tup.dst.toNat : Nat), .int .i64 r.tup.proto, .int .i64 r.tup.sport, .int .i64 r.tup.dport, .int .i64 r.fb, .int .i64 r.fg, .int .i64 r.fs, .int .i64 r.gen, .slice A m c, .int .i64 r.back, .int .i64 r.until_, .int .i64 r.count] from by (repeat (first | (apply Blk.new'; simp; done) | apply Blk.alloc | apply Blk.drew)))
  have Bb := Lib.hid (show Blk ((w.alloc (.cells #[.int .i64 r.kind, .int .u32 (r.tup.src.toNat : Nat), .int .u32 (r.tup.dst.toNat : Nat), .int .i64 r.tup.proto, .int .i64 r.tup.sport, .int .i64 r.tup.dport, .int .i64 r.fb, .int .i64 r.fg, .int .i64 r.fs, .int .i64 r.gen, .slice A m c, .int .i64 r.back, .int .i64 r.until_, .int .i64 r.count] 29)).alloc (.cells #[.int .i64 s.kind, .int .u32 (s.tup.src.toNat : Nat), .int .u32 (s.tup.dst.toNat : Nat), .int .i64 s.tup.proto, .int .i64 s.tup.sport, .int .i64 s.tup.dport, .int .i64 s.fb, .int .i64 s.fg, .int .i64 s.fs, .int .i64 s.gen, .slice B n d, .int .i64 s.back, .int .i64 s.until_, .int .i64 s.count] 29)).drew (w.heap.size + 1) 29 #[.int .i64 s.kind, .int .u32 (s.tup.src.toNat : Nat), .int .u32 (s.tup.dst.toNat : Nat), .int .i64 s.tup.proto, .int .i64 s.tup.sport, .int .i64 s.tup.dport, .int .i64 s.fb, .int .i64 s.fg, .int .i64 s.fs, .int .i64 s.gen, .slice B n d, .int .i64 s.back, .int .i64 s.until_, .int .i64 s.count] from by (repeat (first | (apply Blk.new'; simp; done) | apply Blk.alloc | apply Blk.drew)))
  have H1 := Lib.hid h1
  have H2 := Lib.hid h2
  have Hk0 := Lib.hid hk0
  have hres := Lib.hid (show sameR r s = sameP (plainR r) (plainR s) from rfl)
  clear h1 h2 hk0
  go_enter Try.func11, Try.ntmps11
  go_upto_region 1 with fail
  go_cut [] (fun wx => TwoRec w wx (plainR r) (plainR s))
  case first =>
    go_region_with (first
      | (go_at_call 6
         with_reducible refine (Plain_any _ r ⟨BkArr.kept H1.out.1 Hk0.out (by simp), fun k hk => Nat.lt_of_lt_of_le (H1.out.2.1 k hk) Hk0.out.size, H1.out.2.2⟩).mono ?_
         rintro e w1 ⟨v1, rfl, hv1⟩
         have Hk1 := Lib.hid (Hk0.out.trans hv1.kept (by simp))
         have Hkd1 := Lib.hid hv1.kept
         have Ba1 := Lib.hid (Ba.out.kept hv1.kept (by simp))
         have Bb1 := Lib.hid (Bb.out.kept hv1.kept (by simp))
         have hcb1 := Bb1.out.cell
         have Hv1 := Lib.hid hv1
         obtain ⟨css1, G1', hx1⟩ := hv1
         obtain ⟨A1, d1, rfl, -, -⟩ := hx1.own.form
         clear hx1)
      | (go_at_call 6
         with_reducible refine (Plain_any _ s ⟨BkArr.kept H2.out.1 Hk1.out (by simp), fun k hk => Nat.lt_of_lt_of_le (H2.out.2.1 k hk) Hk1.out.size, H2.out.2.2⟩).mono ?_
         rintro e w2 ⟨v2, rfl, hv2⟩
         have Hk2 := Lib.hid (Hk1.out.trans hv2.kept (by simp))
         have Ba2 := Lib.hid (Ba1.out.kept hv2.kept (by simp))
         have Bb2 := Lib.hid (Bb1.out.kept hv2.kept (by simp))
         clear hcb1
         have hca2 := Ba2.out.cell
         have hcb2 := Bb2.out.cell
         have hfa2 := Ba2.out.frozen
         have hfb2 := Bb2.out.frozen
         have Hv12 := Lib.hid (LV.go BkOk Hv1.out hv2.kept)
         have Hv2 := Lib.hid hv2
         obtain ⟨css2, G2', hx2⟩ := hv2
         obtain ⟨A2, d2, rfl, -, -⟩ := hx2.own.form
         clear hx2))
    all_goals
      clear hca2 hcb2 hfa2 hfb2
      go_wp2_with fail
      go_meet
      show TwoRec w ((w2.setCells w.heap.size 0 [.int .i64 (plainR r).kind, .int .u32 ((plainR r).tup.src.toNat : Nat), .int .u32 ((plainR r).tup.dst.toNat : Nat), .int .i64 (plainR r).tup.proto, .int .i64 (plainR r).tup.sport, .int .i64 (plainR r).tup.dport, .int .i64 (plainR r).fb, .int .i64 (plainR r).fg, .int .i64 (plainR r).fs, .int .i64 (plainR r).gen, .slice A1 (plainR r).backs.length d1, .int .i64 (plainR r).back, .int .i64 (plainR r).until_, .int .i64 (plainR r).count]).setCells (w.heap.size + 1) 0 [.int .i64 (plainR s).kind, .int .u32 ((plainR s).tup.src.toNat : Nat), .int .u32 ((plainR s).tup.dst.toNat : Nat), .int .i64 (plainR s).tup.proto, .int .i64 (plainR s).tup.sport, .int .i64 (plainR s).tup.dport, .int .i64 (plainR s).fb, .int .i64 (plainR s).fg, .int .i64 (plainR s).fs, .int .i64 (plainR s).gen, .slice A2 (plainR s).backs.length d2, .int .i64 (plainR s).back, .int .i64 (plainR s).until_, .int .i64 (plainR s).count]) _ _
      obtain ⟨ba, bb, hkp⟩ := two_puts Ba2.out Bb2.out (by simp) [.int .i64 (plainR r).kind, .int .u32 ((plainR r).tup.src.toNat : Nat), .int .u32 ((plainR r).tup.dst.toNat : Nat), .int .i64 (plainR r).tup.proto, .int .i64 (plainR r).tup.sport, .int .i64 (plainR r).tup.dport, .int .i64 (plainR r).fb, .int .i64 (plainR r).fg, .int .i64 (plainR r).fs, .int .i64 (plainR r).gen, .slice A1 (plainR r).backs.length d1, .int .i64 (plainR r).back, .int .i64 (plainR r).until_, .int .i64 (plainR r).count] [.int .i64 (plainR s).kind, .int .u32 ((plainR s).tup.src.toNat : Nat), .int .u32 ((plainR s).tup.dst.toNat : Nat), .int .i64 (plainR s).tup.proto, .int .i64 (plainR s).tup.sport, .int .i64 (plainR s).tup.dport, .int .i64 (plainR s).fb, .int .i64 (plainR s).fg, .int .i64 (plainR s).fs, .int .i64 (plainR s).gen, .slice A2 (plainR s).backs.length d2, .int .i64 (plainR s).back, .int .i64 (plainR s).until_, .int .i64 (plainR s).count] rfl rfl
      generalize (w2.setCells w.heap.size 0 [.int .i64 (plainR r).kind, .int .u32 ((plainR r).tup.src.toNat : Nat), .int .u32 ((plainR r).tup.dst.toNat : Nat), .int .i64 (plainR r).tup.proto, .int .i64 (plainR r).tup.sport, .int .i64 (plainR r).tup.dport, .int .i64 (plainR r).fb, .int .i64 (plainR r).fg, .int .i64 (plainR r).fs, .int .i64 (plainR r).gen, .slice A1 (plainR r).backs.length d1, .int .i64 (plainR r).back, .int .i64 (plainR r).until_, .int .i64 (plainR r).count]).setCells (w.heap.size + 1) 0 [.int .i64 (plainR s).kind, .int .u32 ((plainR s).tup.src.toNat : Nat), .int .u32 ((plainR s).tup.dst.toNat : Nat), .int .i64 (plainR s).tup.proto, .int .i64 (plainR s).tup.sport, .int .i64 (plainR s).tup.dport, .int .i64 (plainR s).fb, .int .i64 (plainR s).fg, .int .i64 (plainR s).fs, .int .i64 (plainR s).gen, .slice A2 (plainR s).backs.length d2, .int .i64 (plainR s).back, .int .i64 (plainR s).until_, .int .i64 (plainR s).count] = w9 at *
      have hS : ∀ k ∈ [w.heap.size, w.heap.size + 1], w.heap.size ≤ k ∧ k < ((w.alloc (.cells #[.int .i64 r.kind, .int .u32 (r.tup.src.toNat : Nat), .int .u32 (r.tup.dst.toNat : Nat), .int .i64 r.tup.proto, .int .i64 r.tup.sport, .int .i64 r.tup.dport, .int .i64 r.fb, .int .i64 r.fg, .int .i64 r.fs, .int .i64 r.gen, .slice A m c, .int .i64 r.back, .int .i64 r.until_, .int .i64 r.count] 29)).alloc (.cells #[.int .i64 s.kind, .int .u32 (s.tup.src.toNat : Nat), .int .u32 (s.tup.dst.toNat : Nat), .int .i64 s.tup.proto, .int .i64 s.tup.sport, .int .i64 s.tup.dport, .int .i64 s.fb, .int .i64 s.fg, .int .i64 s.fs, .int .i64 s.gen, .slice B n d, .int .i64 s.back, .int .i64 s.until_, .int .i64 s.count] 29)).drew.heap.size := fun k hk => by
        simp at hk
        rcases hk with rfl | rfl <;> (simp; try omega)
      exact ⟨A1, d1, A2, d2, ba, bb, BkV.carry Hv12.out Hk0.out hkp hS, BkV.carry (LV.wide Hv2.out Hkd1.out) Hk0.out hkp hS, Hk2.out.trans hkp (fun i hi => .inr (hS i hi).1)⟩
  case rest =>
    generalize plainR r = p at *
    generalize plainR s = q at *
    obtain ⟨A1, d1, A2, d2, ba, bb, hva, hvb, hk9⟩ := hcut
    have hca := ba.cell
    have hcb := bb.cell
    have Hk9 := Lib.hid hk9
    obtain ⟨Ga, ha9, -⟩ := hva.arr BkOk
    obtain ⟨Gb, hb9, -⟩ := hvb.arr BkOk
    have Ha9 := Lib.hid ha9
    have Hb9 := Lib.hid hb9
    clear ba bb hva hvb hk9 ha9 hb9
    have hq := eqFl_run p q
    have hgd : Try.prog.eqGuardType Try.prog.depth 26 = false := by kernel_rfl
    cases e0 : (p.kind == q.kind)
    · have hs := Lib.hid (show sameP p q = false by simp [sameP, e0])
      go_wp2
      go_ret
      exact ⟨ret_bool (by rw [hres.out, hs.out]), Hk9.out⟩
    cases e1 : (sameFl p q)
    · have hs := Lib.hid (show sameP p q = false by simp [sameP, e0, e1])
      rw [e1] at hq
      go_wp2
      go_ret
      exact ⟨ret_bool (by rw [hres.out, hs.out]), Hk9.out⟩
    cases e2 : (p.gen == q.gen)
    · have hs := Lib.hid (show sameP p q = false by simp [sameP, e0, e1, e2])
      rw [e1] at hq
      go_wp2
      go_ret
      exact ⟨ret_bool (by rw [hres.out, hs.out]), Hk9.out⟩
    cases e3 : (p.back == q.back)
    · have hs := Lib.hid (show sameP p q = false by simp [sameP, e0, e1, e2, e3])
      rw [e1] at hq
      go_wp2
      go_ret
      exact ⟨ret_bool (by rw [hres.out, hs.out]), Hk9.out⟩
    cases e4 : (p.until_ == q.until_)
    · have hs := Lib.hid (show sameP p q = false by simp [sameP, e0, e1, e2, e3, e4])
      rw [e1] at hq
      go_wp2
      go_ret
      exact ⟨ret_bool (by rw [hres.out, hs.out]), Hk9.out⟩
    cases e5 : (p.count == q.count)
    · have hs := Lib.hid (show sameP p q = false by simp [sameP, e0, e1, e2, e3, e4, e5])
      rw [e1] at hq
      go_wp2
      go_ret
      exact ⟨ret_bool (by rw [hres.out, hs.out]), Hk9.out⟩
    have hs := Lib.hid (show sameP p q = sameBs p.backs q.backs by simp [sameP, e0, e1, e2, e3, e4, e5])
    rw [e1] at hq
    go_wp2_with (go_at_call 28
                 refine (EqualB_any _ _ _ Ha9.out Hb9.out).mono ?_
                 rintro e w10 ⟨rfl, hk10⟩
                 have Hk10 := Lib.hid (Hk9.out.trans hk10 (by simp))
                 clear hk10)
    go_ret
    exact ⟨ret_bool (by rw [hres.out, hs.out]), Hk10.out⟩

set_option maxHeartbeats 6400000 in
theorem rSameR_any (w : World) {G1 G2 : List Nat} {A B : Option Addr} {m c n d : Nat} (r s : RecD) (h1 : SmallB w G1 A m c r.backs) (h2 : SmallB w G2 B n d s.backs) :
    Calls Try.prog 12 #[.agg #[.int .i64 r.kind, .int .u32 (r.tup.src.toNat : Nat), .int .u32 (r.tup.dst.toNat : Nat), .int .i64 r.tup.proto, .int .i64 r.tup.sport, .int .i64 r.tup.dport, .int .i64 r.fb, .int .i64 r.fg, .int .i64 r.fs, .int .i64 r.gen, .slice A m c, .int .i64 r.back, .int .i64 r.until_, .int .i64 r.count], .agg #[.int .i64 s.kind, .int .u32 (s.tup.src.toNat : Nat), .int .u32 (s.tup.dst.toNat : Nat), .int .i64 s.tup.proto, .int .i64 s.tup.sport, .int .i64 s.tup.dport, .int .i64 s.fb, .int .i64 s.fg, .int .i64 s.fs, .int .i64 s.gen, .slice B n d, .int .i64 s.back, .int .i64 s.until_, .int .i64 s.count]] w fun e w' => e = .returned (.bool (sameR r s)) ∧ Kept [] w w' := by
  have hk0 : Kept [] w ((w.alloc (.cells #[.int .i64 r.kind, .int .u32 (r.tup.src.toNat : Nat), .int .u32 (r.tup.dst.toNat : Nat), .int .i64 r.tup.proto, .int .i64 r.tup.sport, .int .i64 r.tup.dport, .int .i64 r.fb, .int .i64 r.fg, .int .i64 r.fs, .int .i64 r.gen, .slice A m c, .int .i64 r.back, .int .i64 r.until_, .int .i64 r.count] 29)).alloc (.cells #[.int .i64 s.kind, .int .u32 (s.tup.src.toNat : Nat), .int .u32 (s.tup.dst.toNat : Nat), .int .i64 s.tup.proto, .int .i64 s.tup.sport, .int .i64 s.tup.dport, .int .i64 s.fb, .int .i64 s.fg, .int .i64 s.fs, .int .i64 s.gen, .slice B n d, .int .i64 s.back, .int .i64 s.until_, .int .i64 s.count] 29)).drew := by (repeat (first | exact Kept.refl _ _ | apply Kept.alloc | apply Kept.drew))
  have Ba := Lib.hid (show Blk ((w.alloc (.cells #[.int .i64 r.kind, .int .u32 (r.tup.src.toNat : Nat), .int .u32 (r.tup.dst.toNat : Nat), .int .i64 r.tup.proto, .int .i64 r.tup.sport, .int .i64 r.tup.dport, .int .i64 r.fb, .int .i64 r.fg, .int .i64 r.fs, .int .i64 r.gen, .slice A m c, .int .i64 r.back, .int .i64 r.until_, .int .i64 r.count] 29)).alloc (.cells #[.int .i64 s.kind, .int .u32 (s.tup.src.toNat : Nat), .int .u32 (s.tup.dst.toNat : Nat), .int .i64 s.tup.proto, .int .i64 s.tup.sport, .int .i64 s.tup.dport, .int .i64 s.fb, .int .i64 s.fg, .int .i64 s.fs, .int .i64 s.gen, .slice B n d, .int .i64 s.back, .int .i64 s.until_, .int .i64 s.count] 29)).drew w.heap.size 29 #[.int .i64 r.kind, .int .u32 (r.tup.src.toNat : Nat), .int .u32 (r.tup.dst.toNat : Nat), .int .i64 r.tup.proto, .int .i64 r.tup.sport, .int .i64 r.tup.dport, .int .i64 r.fb, .int .i64 r.fg, .int .i64 r.fs, .int .i64 r.gen, .slice A m c, .int .i64 r.back, .int .i64 r.until_, .int .i64 r.count] from by (repeat (first | (apply Blk.new'; simp; done) | apply Blk.alloc | apply Blk.drew)))
  have Bb := Lib.hid (show Blk ((w.alloc (.cells #[.int .i64 r.kind, .int .u32 (r.tup.src.toNat : Nat), .int .u32 (r.tup.dst.toNat : Nat), .int .i64 r.tup.proto, .int .i64 r.tup.sport, .int .i64 r.tup.dport, .int .i64 r.fb, .int .i64 r.fg, .int .i64 r.fs, .int .i64 r.gen, .slice A m c, .int .i64 r.back, .int .i64 r.until_, .int .i64 r.count] 29)).alloc (.cells #[.int .i64 s.kind, .int .u32 (s.tup.src.toNat : Nat), .int .u32 (s.tup.dst.toNat : Nat), .int .i64 s.tup.proto, .int .i64 s.tup.sport, .int .i64 s.tup.dport, .int .i64 s.fb, .int .i64 s.fg, .int .i64 s.fs, .int .i64 s.gen, .slice B n d, .int .i64 s.back, .int .i64 s.until_, .int .i64 s.count] 29)).drew (w.heap.size + 1) 29 #[.int .i64 s.kind, .int .u32 (s.tup.src.toNat : Nat), .int .u32 (s.tup.dst.toNat : Nat), .int .i64 s.tup.proto, .int .i64 s.tup.sport, .int .i64 s.tup.dport, .int .i64 s.fb, .int .i64 s.fg, .int .i64 s.fs, .int .i64 s.gen, .slice B n d, .int .i64 s.back, .int .i64 s.until_, .int .i64 s.count] from by (repeat (first | (apply Blk.new'; simp; done) | apply Blk.alloc | apply Blk.drew)))
  have H1 := Lib.hid h1
  have H2 := Lib.hid h2
  have Hk0 := Lib.hid hk0
  have hres := Lib.hid (show sameR r s = sameP (plainR r) (plainR s) from rfl)
  clear h1 h2 hk0
  go_enter Try.func12, Try.ntmps12
  go_upto_region 1 with fail
  go_cut [] (fun wx => TwoRec w wx (plainR r) (plainR s))
  case first =>
    go_region_with (first
      | (go_at_call 7
         with_reducible refine (rPlain_any _ r ⟨BkArr.kept H1.out.1 Hk0.out (by simp), fun k hk => Nat.lt_of_lt_of_le (H1.out.2.1 k hk) Hk0.out.size, H1.out.2.2⟩).mono ?_
         rintro e w1 ⟨v1, rfl, hv1⟩
         have Hk1 := Lib.hid (Hk0.out.trans hv1.kept (by simp))
         have Hkd1 := Lib.hid hv1.kept
         have Ba1 := Lib.hid (Ba.out.kept hv1.kept (by simp))
         have Bb1 := Lib.hid (Bb.out.kept hv1.kept (by simp))
         have hcb1 := Bb1.out.cell
         have Hv1 := Lib.hid hv1
         obtain ⟨css1, G1', hx1⟩ := hv1
         obtain ⟨A1, d1, rfl, -, -⟩ := hx1.own.form
         clear hx1)
      | (go_at_call 7
         with_reducible refine (rPlain_any _ s ⟨BkArr.kept H2.out.1 Hk1.out (by simp), fun k hk => Nat.lt_of_lt_of_le (H2.out.2.1 k hk) Hk1.out.size, H2.out.2.2⟩).mono ?_
         rintro e w2 ⟨v2, rfl, hv2⟩
         have Hk2 := Lib.hid (Hk1.out.trans hv2.kept (by simp))
         have Ba2 := Lib.hid (Ba1.out.kept hv2.kept (by simp))
         have Bb2 := Lib.hid (Bb1.out.kept hv2.kept (by simp))
         clear hcb1
         have hca2 := Ba2.out.cell
         have hcb2 := Bb2.out.cell
         have hfa2 := Ba2.out.frozen
         have hfb2 := Bb2.out.frozen
         have Hv12 := Lib.hid (LV.go BkOk Hv1.out hv2.kept)
         have Hv2 := Lib.hid hv2
         obtain ⟨css2, G2', hx2⟩ := hv2
         obtain ⟨A2, d2, rfl, -, -⟩ := hx2.own.form
         clear hx2))
    all_goals
      clear hca2 hcb2 hfa2 hfb2
      go_wp2_with fail
      go_meet
      show TwoRec w ((w2.setCells w.heap.size 0 [.int .i64 (plainR r).kind, .int .u32 ((plainR r).tup.src.toNat : Nat), .int .u32 ((plainR r).tup.dst.toNat : Nat), .int .i64 (plainR r).tup.proto, .int .i64 (plainR r).tup.sport, .int .i64 (plainR r).tup.dport, .int .i64 (plainR r).fb, .int .i64 (plainR r).fg, .int .i64 (plainR r).fs, .int .i64 (plainR r).gen, .slice A1 (plainR r).backs.length d1, .int .i64 (plainR r).back, .int .i64 (plainR r).until_, .int .i64 (plainR r).count]).setCells (w.heap.size + 1) 0 [.int .i64 (plainR s).kind, .int .u32 ((plainR s).tup.src.toNat : Nat), .int .u32 ((plainR s).tup.dst.toNat : Nat), .int .i64 (plainR s).tup.proto, .int .i64 (plainR s).tup.sport, .int .i64 (plainR s).tup.dport, .int .i64 (plainR s).fb, .int .i64 (plainR s).fg, .int .i64 (plainR s).fs, .int .i64 (plainR s).gen, .slice A2 (plainR s).backs.length d2, .int .i64 (plainR s).back, .int .i64 (plainR s).until_, .int .i64 (plainR s).count]) _ _
      obtain ⟨ba, bb, hkp⟩ := two_puts Ba2.out Bb2.out (by simp) [.int .i64 (plainR r).kind, .int .u32 ((plainR r).tup.src.toNat : Nat), .int .u32 ((plainR r).tup.dst.toNat : Nat), .int .i64 (plainR r).tup.proto, .int .i64 (plainR r).tup.sport, .int .i64 (plainR r).tup.dport, .int .i64 (plainR r).fb, .int .i64 (plainR r).fg, .int .i64 (plainR r).fs, .int .i64 (plainR r).gen, .slice A1 (plainR r).backs.length d1, .int .i64 (plainR r).back, .int .i64 (plainR r).until_, .int .i64 (plainR r).count] [.int .i64 (plainR s).kind, .int .u32 ((plainR s).tup.src.toNat : Nat), .int .u32 ((plainR s).tup.dst.toNat : Nat), .int .i64 (plainR s).tup.proto, .int .i64 (plainR s).tup.sport, .int .i64 (plainR s).tup.dport, .int .i64 (plainR s).fb, .int .i64 (plainR s).fg, .int .i64 (plainR s).fs, .int .i64 (plainR s).gen, .slice A2 (plainR s).backs.length d2, .int .i64 (plainR s).back, .int .i64 (plainR s).until_, .int .i64 (plainR s).count] rfl rfl
      generalize (w2.setCells w.heap.size 0 [.int .i64 (plainR r).kind, .int .u32 ((plainR r).tup.src.toNat : Nat), .int .u32 ((plainR r).tup.dst.toNat : Nat), .int .i64 (plainR r).tup.proto, .int .i64 (plainR r).tup.sport, .int .i64 (plainR r).tup.dport, .int .i64 (plainR r).fb, .int .i64 (plainR r).fg, .int .i64 (plainR r).fs, .int .i64 (plainR r).gen, .slice A1 (plainR r).backs.length d1, .int .i64 (plainR r).back, .int .i64 (plainR r).until_, .int .i64 (plainR r).count]).setCells (w.heap.size + 1) 0 [.int .i64 (plainR s).kind, .int .u32 ((plainR s).tup.src.toNat : Nat), .int .u32 ((plainR s).tup.dst.toNat : Nat), .int .i64 (plainR s).tup.proto, .int .i64 (plainR s).tup.sport, .int .i64 (plainR s).tup.dport, .int .i64 (plainR s).fb, .int .i64 (plainR s).fg, .int .i64 (plainR s).fs, .int .i64 (plainR s).gen, .slice A2 (plainR s).backs.length d2, .int .i64 (plainR s).back, .int .i64 (plainR s).until_, .int .i64 (plainR s).count] = w9 at *
      have hS : ∀ k ∈ [w.heap.size, w.heap.size + 1], w.heap.size ≤ k ∧ k < ((w.alloc (.cells #[.int .i64 r.kind, .int .u32 (r.tup.src.toNat : Nat), .int .u32 (r.tup.dst.toNat : Nat), .int .i64 r.tup.proto, .int .i64 r.tup.sport, .int .i64 r.tup.dport, .int .i64 r.fb, .int .i64 r.fg, .int .i64 r.fs, .int .i64 r.gen, .slice A m c, .int .i64 r.back, .int .i64 r.until_, .int .i64 r.count] 29)).alloc (.cells #[.int .i64 s.kind, .int .u32 (s.tup.src.toNat : Nat), .int .u32 (s.tup.dst.toNat : Nat), .int .i64 s.tup.proto, .int .i64 s.tup.sport, .int .i64 s.tup.dport, .int .i64 s.fb, .int .i64 s.fg, .int .i64 s.fs, .int .i64 s.gen, .slice B n d, .int .i64 s.back, .int .i64 s.until_, .int .i64 s.count] 29)).drew.heap.size := fun k hk => by
        simp at hk
        rcases hk with rfl | rfl <;> (simp; try omega)
      exact ⟨A1, d1, A2, d2, ba, bb, BkV.carry Hv12.out Hk0.out hkp hS, BkV.carry (LV.wide Hv2.out Hkd1.out) Hk0.out hkp hS, Hk2.out.trans hkp (fun i hi => .inr (hS i hi).1)⟩
  case rest =>
    generalize plainR r = p at *
    generalize plainR s = q at *
    obtain ⟨A1, d1, A2, d2, ba, bb, hva, hvb, hk9⟩ := hcut
    have hca := ba.cell
    have hcb := bb.cell
    have Hk9 := Lib.hid hk9
    obtain ⟨Ga, ha9, -⟩ := hva.arr BkOk
    obtain ⟨Gb, hb9, -⟩ := hvb.arr BkOk
    have Ha9 := Lib.hid ha9
    have Hb9 := Lib.hid hb9
    clear ba bb hva hvb hk9 ha9 hb9
    have hq := eqFl_run p q
    have hgd : Try.prog.eqGuardType Try.prog.depth 26 = false := by kernel_rfl
    cases e0 : (p.kind == q.kind)
    · have hs := Lib.hid (show sameP p q = false by simp [sameP, e0])
      go_wp2
      go_ret
      exact ⟨ret_bool (by rw [hres.out, hs.out]), Hk9.out⟩
    cases e1 : (sameFl p q)
    · have hs := Lib.hid (show sameP p q = false by simp [sameP, e0, e1])
      rw [e1] at hq
      go_wp2
      go_ret
      exact ⟨ret_bool (by rw [hres.out, hs.out]), Hk9.out⟩
    cases e2 : (p.gen == q.gen)
    · have hs := Lib.hid (show sameP p q = false by simp [sameP, e0, e1, e2])
      rw [e1] at hq
      go_wp2
      go_ret
      exact ⟨ret_bool (by rw [hres.out, hs.out]), Hk9.out⟩
    cases e3 : (p.back == q.back)
    · have hs := Lib.hid (show sameP p q = false by simp [sameP, e0, e1, e2, e3])
      rw [e1] at hq
      go_wp2
      go_ret
      exact ⟨ret_bool (by rw [hres.out, hs.out]), Hk9.out⟩
    cases e4 : (p.until_ == q.until_)
    · have hs := Lib.hid (show sameP p q = false by simp [sameP, e0, e1, e2, e3, e4])
      rw [e1] at hq
      go_wp2
      go_ret
      exact ⟨ret_bool (by rw [hres.out, hs.out]), Hk9.out⟩
    cases e5 : (p.count == q.count)
    · have hs := Lib.hid (show sameP p q = false by simp [sameP, e0, e1, e2, e3, e4, e5])
      rw [e1] at hq
      go_wp2
      go_ret
      exact ⟨ret_bool (by rw [hres.out, hs.out]), Hk9.out⟩
    have hs := Lib.hid (show sameP p q = sameBs p.backs q.backs by simp [sameP, e0, e1, e2, e3, e4, e5])
    rw [e1] at hq
    go_wp2_with (go_at_call 8
                 refine (rSameBs_any _ _ _ Ha9.out Hb9.out).mono ?_
                 rintro e w10 ⟨rfl, hk10⟩
                 have Hk10 := Lib.hid (Hk9.out.trans hk10 (by simp))
                 clear hk10)
    go_ret
    exact ⟨ret_bool (by rw [hres.out, hs.out]), Hk10.out⟩
end Go.Proofs.Ytoibecclilmllaa
