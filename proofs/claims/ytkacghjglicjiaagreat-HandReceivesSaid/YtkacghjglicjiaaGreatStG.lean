/-
  The order of flows, as the sort asks for it.
-/
import Derived.Shelf.SlSortCmp.WholeK
import Derived.Test.YtkacghjglicjiaaGreatStD
namespace Go.Proofs.YtkacghjglicjiaaGreat
open Go.RowKit
set_option linter.unusedVariables false

/-- blocks were laid and draws made, no more -/
def Grew (w w' : World) : Prop := ∃ q os, w' = Go.Sort.grow (w.drewN q) os
namespace Grew
variable {w w' w'' : World}
theorem refl (w : World) : Grew w w := ⟨0, #[], by simp [World.drewN_zero]⟩
theorem drew (h : Grew w w') : Grew w w'.drew := by obtain ⟨q, os, rfl⟩ := h; exact ⟨q + 1, os, rfl⟩
theorem alloc (h : Grew w w') (o : Obj) : Grew w (w'.alloc o) := by
  obtain ⟨q, os, rfl⟩ := h
  exact ⟨q, os ++ #[o], by rw [← Go.Sort.grow_grow]; simp [Go.Sort.grow, World.alloc]⟩
theorem trans (h : Grew w w') (h' : Grew w' w'') : Grew w w'' := by
  obtain ⟨q, os, rfl⟩ := h
  obtain ⟨q', os', rfl⟩ := h'
  refine ⟨q + q', os ++ os', ?_⟩
  show Go.Sort.grow (Go.Sort.grow ((w.drewN q).drewN q') os) os' = _
  rw [Go.Sort.grow_grow, World.drewN_drewN]
theorem kept (h : Grew w w') : Kept [] w w' := by
  obtain ⟨q, os, rfl⟩ := h
  exact ⟨rfl, rfl, rfl, by simp [Go.Sort.grow], fun i hi _ => by simp only [Go.Sort.grow]; exact Array.getElem?_append_left hi⟩
end Grew
set_option maxHeartbeats 3200000 in
theorem LessG_any (w : World) (a b : TupD) : Calls Tryz.prog 100 #[.agg #[.int .u32 (a.src.toNat : Nat), .int .u32 (a.dst.toNat : Nat), .int .i64 a.proto, .int .i64 a.sport, .int .i64 a.dport], .agg #[.int .u32 (b.src.toNat : Nat), .int .u32 (b.dst.toNat : Nat), .int .i64 b.proto, .int .i64 b.sport, .int .i64 b.dport]] w fun e w' => e = .returned (.bool (lessT a b)) ∧ Grew w w' := by
  have P := Lib.hid (show Blk ((w.alloc (.cells #[.int .u32 (a.src.toNat : Nat), .int .u32 (a.dst.toNat : Nat), .int .i64 a.proto, .int .i64 a.sport, .int .i64 a.dport] 39)).alloc (.cells #[.int .u32 (b.src.toNat : Nat), .int .u32 (b.dst.toNat : Nat), .int .i64 b.proto, .int .i64 b.sport, .int .i64 b.dport] 39)) w.heap.size 39 #[.int .u32 (a.src.toNat : Nat), .int .u32 (a.dst.toNat : Nat), .int .i64 a.proto, .int .i64 a.sport, .int .i64 a.dport] from by (repeat (first | (apply Blk.new'; simp; done) | apply Blk.alloc | apply Blk.drew)))
  have Q := Lib.hid (show Blk ((w.alloc (.cells #[.int .u32 (a.src.toNat : Nat), .int .u32 (a.dst.toNat : Nat), .int .i64 a.proto, .int .i64 a.sport, .int .i64 a.dport] 39)).alloc (.cells #[.int .u32 (b.src.toNat : Nat), .int .u32 (b.dst.toNat : Nat), .int .i64 b.proto, .int .i64 b.sport, .int .i64 b.dport] 39)) (w.heap.size + 1) 39 #[.int .u32 (b.src.toNat : Nat), .int .u32 (b.dst.toNat : Nat), .int .i64 b.proto, .int .i64 b.sport, .int .i64 b.dport] from by (repeat (first | (apply Blk.new'; simp; done) | apply Blk.alloc | apply Blk.drew)))
  have K := Lib.hid (show Grew w ((w.alloc (.cells #[.int .u32 (a.src.toNat : Nat), .int .u32 (a.dst.toNat : Nat), .int .i64 a.proto, .int .i64 a.sport, .int .i64 a.dport] 39)).alloc (.cells #[.int .u32 (b.src.toNat : Nat), .int .u32 (b.dst.toNat : Nat), .int .i64 b.proto, .int .i64 b.sport, .int .i64 b.dport] 39)) from ((Grew.refl w).alloc _).alloc _)
  obtain ⟨c1, h1⟩ : ∃ c, cmpI (a.src.toNat : Nat) (b.src.toNat : Nat) = c := ⟨_, rfl⟩
  obtain ⟨c2, h2⟩ : ∃ c, cmpI (a.dst.toNat : Nat) (b.dst.toNat : Nat) = c := ⟨_, rfl⟩
  obtain ⟨c3, h3⟩ : ∃ c, cmpI a.proto b.proto = c := ⟨_, rfl⟩
  obtain ⟨c4, h4⟩ : ∃ c, cmpI a.sport b.sport = c := ⟨_, rfl⟩
  obtain ⟨c5, h5⟩ : ∃ c, cmpI a.dport b.dport = c := ⟨_, rfl⟩
  have HLS := Lib.hid (show lessT a b = decide (orI [c1, c2, c3, c4, c5] < 0) by unfold lessT cmpsT; rw [h1, h2, h3, h4, h5])
  obtain ⟨r, hr⟩ : ∃ r, orI [c1, c2, c3, c4, c5] = r := ⟨_, rfl⟩
  have E1 := Lib.hid h1
  have E2 := Lib.hid h2
  have E3 := Lib.hid h3
  have E4 := Lib.hid h4
  have E5 := Lib.hid h5
  have HR := Lib.hid hr
  clear h1 h2 h3 h4 h5 hr
  go_enter Tryz.func100, Tryz.ntmps100
  go_wp2
  generalize ((w.alloc (.cells #[.int .u32 (a.src.toNat : Nat), .int .u32 (a.dst.toNat : Nat), .int .i64 a.proto, .int .i64 a.sport, .int .i64 a.dport] 39)).alloc (.cells #[.int .u32 (b.src.toNat : Nat), .int .u32 (b.dst.toNat : Nat), .int .i64 b.proto, .int .i64 b.sport, .int .i64 b.dport] 39)) = w0 at *
  go_region_held3 (fun w' => Grew w0 w' ∧ (∀ o, w'.cell? ⟨w.heap.size, o, none⟩ = (#[.int .u32 (a.src.toNat : Nat), .int .u32 (a.dst.toNat : Nat), .int .i64 a.proto, .int .i64 a.sport, .int .i64 a.dport] : Array Value)[o]?) ∧ (∀ o, w'.cell? ⟨w.heap.size + 1, o, none⟩ = (#[.int .u32 (b.src.toNat : Nat), .int .u32 (b.dst.toNat : Nat), .int .i64 b.proto, .int .i64 b.sport, .int .i64 b.dport] : Array Value)[o]?))
    (first | exact ⟨(Grew.refl _).drew, P.out.cell, Q.out.cell⟩ | exact ⟨hkn, (P.out.kept hkn.kept (by simp)).cell, (Q.out.kept hkn.kept (by simp)).cell⟩ | exact ⟨hkn.alloc _, (P.out.kept (hkn.alloc _).kept (by simp)).cell, (Q.out.kept (hkn.alloc _).kept (by simp)).cell⟩)
    (first
     | (go_at_call 133
        rename_i hq _ _
        refine (cmp32 _ _ _).mono ?_
        rintro e w1 ⟨rfl, rfl⟩
        first | rw [E1.out] | rw [E2.out]
        have hkn := hq.1)
     | (go_at_call 134
        rename_i hq _ _
        refine (cmp64 _ _ _).mono ?_
        rintro e w1 ⟨rfl, rfl⟩
        first | rw [E3.out] | rw [E4.out] | rw [E5.out]
        have hkn := hq.1)
     | (go_at_call 132
        rename_i hq _ _
        refine (Or_any (w0.alloc (.cells #[.int .i64 c1, .int .i64 c2, .int .i64 c3, .int .i64 c4, .int .i64 c5] 3)).drew _ [c1, c2, c3, c4, c5] 5 rfl (by omega) (fun j hj => cells5 w0 c1 c2 c3 c4 c5 j hj)).mono ?_
        rintro e w1 ⟨rfl, rfl⟩
        rw [HR.out]
        have hkn := hq.1))
  go_wp2
  go_ret
  exact ⟨ret_bool (by rw [HLS.out, HR.out]), K.out.trans hkn⟩
def cmpF (f g : FlD) : Int := if lessT f.tup g.tup = true then -1 else 1
theorem cmpF_lt (f g : FlD) : ltOf cmpF f g = lessT f.tup g.tup := by
  unfold ltOf cmpF
  cases lessT f.tup g.tup <;> simp
set_option maxHeartbeats 1600000 in
theorem cmpF_any (w : World) (f g : FlD) : Calls Tryz.prog 99 #[.agg #[.int .u32 (f.tup.src.toNat : Nat), .int .u32 (f.tup.dst.toNat : Nat), .int .i64 f.tup.proto, .int .i64 f.tup.sport, .int .i64 f.tup.dport, .int .i64 f.back, .int .i64 f.gen, .int .i64 f.seen], .agg #[.int .u32 (g.tup.src.toNat : Nat), .int .u32 (g.tup.dst.toNat : Nat), .int .i64 g.tup.proto, .int .i64 g.tup.sport, .int .i64 g.tup.dport, .int .i64 g.back, .int .i64 g.gen, .int .i64 g.seen]] w fun e w' => e = .returned (.int .i64 (cmpF f g)) ∧ Grew w w' := by
  have K := Lib.hid (show Grew w ((w.alloc (.cells #[.int .u32 (f.tup.src.toNat : Nat), .int .u32 (f.tup.dst.toNat : Nat), .int .i64 f.tup.proto, .int .i64 f.tup.sport, .int .i64 f.tup.dport, .int .i64 f.back, .int .i64 f.gen, .int .i64 f.seen] 41)).alloc (.cells #[.int .u32 (g.tup.src.toNat : Nat), .int .u32 (g.tup.dst.toNat : Nat), .int .i64 g.tup.proto, .int .i64 g.tup.sport, .int .i64 g.tup.dport, .int .i64 g.back, .int .i64 g.gen, .int .i64 g.seen] 41)) from ((Grew.refl w).alloc _).alloc _)
  have hlf : (cmpF f g) = if lessT f.tup g.tup = true then -1 else 1 := rfl
  have HF := Lib.hid hlf
  clear hlf
  go_enter Tryz.func99, Tryz.ntmps99
  rcases hl : lessT f.tup g.tup with _ | _
  all_goals
    have Hl := Lib.hid hl
    clear hl
    go_wp2_with (go_at_call 100; refine (LessG_any _ _ _).mono ?_; rintro e w1 ⟨rfl, hk1⟩; rw [Hl.out]; have HK1 := Lib.hid (K.out.trans hk1); clear hk1)
    go_ret
    exact ⟨by rw [HF.out, Hl.out]; rfl, HK1.out⟩
end Go.Proofs.YtkacghjglicjiaaGreat
