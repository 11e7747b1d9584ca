/-
  The contract of the reference's Decode.
-/
import Derived.Test.YtkacghjglicjiaaGreatSvO
import Derived.Test.YtkacghjglicjiaaGreatRecO
namespace Go.Proofs.YtkacghjglicjiaaGreat
set_option linter.unusedVariables false
section
open Go.RowKit Go.ChangeShapes Go.WideShapes Go.Deep
set_option maxRecDepth 100000
def DecS (w : World) (x : RecD) (o : Option (List UInt8)) (wx : World) : Prop :=
  ∃ sl, Blk wx (w.heap.size + 3) 43 #[.int .i64 x.kind, .int .u32 (x.tup.src.toNat : Nat), .int .u32 (x.tup.dst.toNat : Nat), .int .i64 x.tup.proto, .int .i64 x.tup.sport, .int .i64 x.tup.dport, .int .i64 x.fb, .int .i64 x.fg, .int .i64 x.fs, .int .i64 x.gen, sl, .int .i64 x.back, .int .i64 x.until_, .int .i64 x.count] ∧ Blk wx (w.heap.size + 1) 43 #[.int .i64 0, .int .u32 0, .int .u32 0, .int .i64 0, .int .i64 0, .int .i64 0, .int .i64 0, .int .i64 0, .int .i64 0, .int .i64 0, .slice none 0 0, .int .i64 0, .int .i64 0, .int .i64 0] ∧ RWr w (w.heap.size + 2) o wx ∧ BkV w wx sl x.backs
set_option maxHeartbeats 12800000 in
set_option maxRecDepth 100000 in
theorem rDecode_any (w : World) {G : List Nat} {A : Option Addr} {m c : Nat} (f : FrameD) (h : RdB w G (.slice A m c) f.body) (hG : ∀ k ∈ G, k < w.heap.size) (hm : m ≤ 1000000) :
    Calls Tryz.prog 38 #[.agg #[.int .i64 f.kind, .int .i64 f.ver, .slice A m c]] w fun e w' => ∃ sl, e = .returned (.tuple #[.agg #[.int .i64 (decR f).kind, .int .u32 ((decR f).tup.src.toNat : Nat), .int .u32 ((decR f).tup.dst.toNat : Nat), .int .i64 (decR f).tup.proto, .int .i64 (decR f).tup.sport, .int .i64 (decR f).tup.dport, .int .i64 (decR f).fb, .int .i64 (decR f).fg, .int .i64 (decR f).fs, .int .i64 (decR f).gen, sl, .int .i64 (decR f).back, .int .i64 (decR f).until_, .int .i64 (decR f).count], .int .i64 (decE f)]) ∧ BkV w w' sl (decR f).backs := by
  cases hv : verB f.ver
  · have hk0 : Kept [] w ((w.alloc (.cells #[.int .i64 f.kind, .int .i64 f.ver, .slice A m c] 45)).alloc (.cells #[.int .i64 0, .int .u32 0, .int .u32 0, .int .i64 0, .int .i64 0, .int .i64 0, .int .i64 0, .int .i64 0, .int .i64 0, .int .i64 0, .slice none 0 0, .int .i64 0, .int .i64 0, .int .i64 0] 43)) := by (repeat (first | exact Kept.refl _ _ | apply Kept.alloc | apply Kept.drew))
    have B := Lib.hid (show Blk ((w.alloc (.cells #[.int .i64 f.kind, .int .i64 f.ver, .slice A m c] 45)).alloc (.cells #[.int .i64 0, .int .u32 0, .int .u32 0, .int .i64 0, .int .i64 0, .int .i64 0, .int .i64 0, .int .i64 0, .int .i64 0, .int .i64 0, .slice none 0 0, .int .i64 0, .int .i64 0, .int .i64 0] 43)) (w.heap.size + 1) 43 #[.int .i64 0, .int .u32 0, .int .u32 0, .int .i64 0, .int .i64 0, .int .i64 0, .int .i64 0, .int .i64 0, .int .i64 0, .int .i64 0, .slice none 0 0, .int .i64 0, .int .i64 0, .int .i64 0] from by (repeat (first | (apply Blk.new'; simp; done) | apply Blk.alloc | apply Blk.drew)))
    have K := Lib.hid hk0
    clear h hk0
    have he := Lib.hid (show decE f = 10 by simp [decE, hv])
    have hr := Lib.hid (show decR f = default by simp [decR, hv])
    go_enter Tryz.func38, Tryz.ntmps38
    go_wp2_with (first
      | (go_at_call 26; refine (rVersion_any _ _).mono ?_; rintro e w' ⟨rfl, rfl⟩; rw [hv])
      | ((with_reducible show wpList _ _ _ ({ dst := none, op := Op.store 43 (.tmp 2) (.tmp 12), type := _, pos := _, after := _, guard := _ } :: _) _ _); refine wpList_put (t := 43) rfl 43 (.tmp 2) (.tmp 12) rfl _ (by rfl) (by rfl) (by exact B.out) (by rfl) (by kernel_rfl) (by simp [Value.oneCell']) ?_; intro w9 hb9 hk9; have Hb9 := Lib.hid hb9; have Hk9 := Lib.hid hk9; clear hb9 hk9))
    refine bodyPost_ret (results_cell1 (t := 43) Tryz.results38 (by rfl) Hb9.out _ Tryz.underlying43 rfl (by kernel_rfl)) rfl ?_
    rw [he.out, hr.out]
    exact ⟨_, rfl, LV.nil (K.out.trans Hk9.out (fun i hi => .inr (by simp at hi; omega)))⟩
  · have hk0 : Kept [] w ((((w.alloc (.cells #[.int .i64 f.kind, .int .i64 f.ver, .slice A m c] 45)).alloc (.cells #[.int .i64 0, .int .u32 0, .int .u32 0, .int .i64 0, .int .i64 0, .int .i64 0, .int .i64 0, .int .i64 0, .int .i64 0, .int .i64 0, .slice none 0 0, .int .i64 0, .int .i64 0, .int .i64 0] 43)).alloc (.cells #[.slice A m c, .int .i64 0] 132)).alloc (.cells #[.int .i64 f.kind, .int .u32 0, .int .u32 0, .int .i64 0, .int .i64 0, .int .i64 0, .int .i64 0, .int .i64 0, .int .i64 0, .int .i64 0, .slice none 0 0, .int .i64 0, .int .i64 0, .int .i64 0] 43)) := by (repeat (first | exact Kept.refl _ _ | apply Kept.alloc | apply Kept.drew))
    have B := Lib.hid (show Blk ((((w.alloc (.cells #[.int .i64 f.kind, .int .i64 f.ver, .slice A m c] 45)).alloc (.cells #[.int .i64 0, .int .u32 0, .int .u32 0, .int .i64 0, .int .i64 0, .int .i64 0, .int .i64 0, .int .i64 0, .int .i64 0, .int .i64 0, .slice none 0 0, .int .i64 0, .int .i64 0, .int .i64 0] 43)).alloc (.cells #[.slice A m c, .int .i64 0] 132)).alloc (.cells #[.int .i64 f.kind, .int .u32 0, .int .u32 0, .int .i64 0, .int .i64 0, .int .i64 0, .int .i64 0, .int .i64 0, .int .i64 0, .int .i64 0, .slice none 0 0, .int .i64 0, .int .i64 0, .int .i64 0] 43)) (w.heap.size + 1) 43 #[.int .i64 0, .int .u32 0, .int .u32 0, .int .i64 0, .int .i64 0, .int .i64 0, .int .i64 0, .int .i64 0, .int .i64 0, .int .i64 0, .slice none 0 0, .int .i64 0, .int .i64 0, .int .i64 0] from by (repeat (first | (apply Blk.new'; simp; done) | apply Blk.alloc | apply Blk.drew)))
    have F := Lib.hid (show Blk ((((w.alloc (.cells #[.int .i64 f.kind, .int .i64 f.ver, .slice A m c] 45)).alloc (.cells #[.int .i64 0, .int .u32 0, .int .u32 0, .int .i64 0, .int .i64 0, .int .i64 0, .int .i64 0, .int .i64 0, .int .i64 0, .int .i64 0, .slice none 0 0, .int .i64 0, .int .i64 0, .int .i64 0] 43)).alloc (.cells #[.slice A m c, .int .i64 0] 132)).alloc (.cells #[.int .i64 f.kind, .int .u32 0, .int .u32 0, .int .i64 0, .int .i64 0, .int .i64 0, .int .i64 0, .int .i64 0, .int .i64 0, .int .i64 0, .slice none 0 0, .int .i64 0, .int .i64 0, .int .i64 0] 43)) w.heap.size 45 #[.int .i64 f.kind, .int .i64 f.ver, .slice A m c] from by (repeat (first | (apply Blk.new'; simp; done) | apply Blk.alloc | apply Blk.drew)))
    have X := Lib.hid (show Blk ((((w.alloc (.cells #[.int .i64 f.kind, .int .i64 f.ver, .slice A m c] 45)).alloc (.cells #[.int .i64 0, .int .u32 0, .int .u32 0, .int .i64 0, .int .i64 0, .int .i64 0, .int .i64 0, .int .i64 0, .int .i64 0, .int .i64 0, .slice none 0 0, .int .i64 0, .int .i64 0, .int .i64 0] 43)).alloc (.cells #[.slice A m c, .int .i64 0] 132)).alloc (.cells #[.int .i64 f.kind, .int .u32 0, .int .u32 0, .int .i64 0, .int .i64 0, .int .i64 0, .int .i64 0, .int .i64 0, .int .i64 0, .int .i64 0, .slice none 0 0, .int .i64 0, .int .i64 0, .int .i64 0] 43)) (w.heap.size + 3) 43 #[.int .i64 f.kind, .int .u32 0, .int .u32 0, .int .i64 0, .int .i64 0, .int .i64 0, .int .i64 0, .int .i64 0, .int .i64 0, .int .i64 0, .slice none 0 0, .int .i64 0, .int .i64 0, .int .i64 0] from by (repeat (first | (apply Blk.new'; simp; done) | apply Blk.alloc | apply Blk.drew)))
    have Y := Lib.hid (show Blk ((((w.alloc (.cells #[.int .i64 f.kind, .int .i64 f.ver, .slice A m c] 45)).alloc (.cells #[.int .i64 0, .int .u32 0, .int .u32 0, .int .i64 0, .int .i64 0, .int .i64 0, .int .i64 0, .int .i64 0, .int .i64 0, .int .i64 0, .slice none 0 0, .int .i64 0, .int .i64 0, .int .i64 0] 43)).alloc (.cells #[.slice A m c, .int .i64 0] 132)).alloc (.cells #[.int .i64 f.kind, .int .u32 0, .int .u32 0, .int .i64 0, .int .i64 0, .int .i64 0, .int .i64 0, .int .i64 0, .int .i64 0, .int .i64 0, .slice none 0 0, .int .i64 0, .int .i64 0, .int .i64 0] 43)) (w.heap.size + 2) 132 #[.slice A m c, .int .i64 0] from by (repeat (first | (apply Blk.new'; simp; done) | apply Blk.alloc | apply Blk.drew)))
    have hL := h.len
    have R : Hid (RWr w (w.heap.size + 2) (some f.body) ((((w.alloc (.cells #[.int .i64 f.kind, .int .i64 f.ver, .slice A m c] 45)).alloc (.cells #[.int .i64 0, .int .u32 0, .int .u32 0, .int .i64 0, .int .i64 0, .int .i64 0, .int .i64 0, .int .i64 0, .int .i64 0, .int .i64 0, .slice none 0 0, .int .i64 0, .int .i64 0, .int .i64 0] 43)).alloc (.cells #[.slice A m c, .int .i64 0] 132)).alloc (.cells #[.int .i64 f.kind, .int .u32 0, .int .u32 0, .int .i64 0, .int .i64 0, .int .i64 0, .int .i64 0, .int .i64 0, .int .i64 0, .int .i64 0, .slice none 0 0, .int .i64 0, .int .i64 0, .int .i64 0] 43))) := Lib.hid ⟨G, ⟨⟨_, Y.out, h.kept hk0 (by simp)⟩, fun hm => by have := hG _ hm; omega⟩, by omega, fun k hk => by have := hG k hk; omega, hk0, by show f.body.length ≤ 1000000; omega⟩
    clear h hk0 hL Y
    obtain ⟨bs, hbs⟩ : ∃ bs, f.body = bs := ⟨_, rfl⟩
    rw [hbs] at R
    obtain ⟨x, hx⟩ : ∃ x, (rdR 256 f.kind f.ver (some bs)).1 = x := ⟨_, rfl⟩
    obtain ⟨ok, hok⟩ : ∃ ok, (rdR 256 f.kind f.ver (some bs)).2.1 = ok := ⟨_, rfl⟩
    obtain ⟨o, ho⟩ : ∃ o, (rdR 256 f.kind f.ver (some bs)).2.2 = o := ⟨_, rfl⟩
    obtain ⟨en, hen⟩ : ∃ en, endOf (o.getD []) (erO o) = en := ⟨_, rfl⟩
    have hbk := Lib.hid (show x.backs.length ≤ 256 by rw [← hx]; exact rdR_backs 256 _ _ _)
    have hg2 := goodR_end 256 f.kind f.ver bs
    rw [hx, hok, ho, hen] at hg2
    have hcap := goodR_cap (cap := 256) (by omega) f.kind f.ver bs
    have HR := Lib.hid (show rdR 256 f.kind f.ver (some bs) = (x, ok, o) by rw [← hx, ← hok, ← ho])
    have EE := Lib.hid hen
    have HV := Lib.hid hv
    have hways : (ok = false) ∨ (ok = true ∧ en ≠ 0) ∨ (ok = true ∧ en = 0 ∧ mayR x = false) ∨ (ok = true ∧ en = 0 ∧ mayR x = true) := by
      cases ok <;> cases mayR x <;> simp <;> omega
    have HW := Lib.hid hways
    have HG : Hid ((ok = false ∨ en ≠ 0 ∨ mayR x = false) → decE f = 3 ∧ decR f = default) := Lib.hid (fun hh => by
      have : goodR 17 f.kind f.ver f.body = false := by rw [hbs, ← hcap.1, hg2]; rcases hh with hh | hh | hh <;> simp [hh]
      simp [decE, decR, hv, this])
    have HG2 : Hid (ok = true → en = 0 → mayR x = true → decE f = 0 ∧ decR f = x) := Lib.hid (fun h1 h2 h3 => by
      have h17 : goodR 17 f.kind f.ver bs = true := by rw [← hcap.1, hg2]; simp [h1, h2, h3]
      have h18 := hcap.2 h17
      rw [← hbs] at h17 h18
      simp [decE, decR, hv, h17, ← h18]
      rw [hbs]; exact hx)
    clear hx hok ho hen hg2 hcap hways
    have hv13 : f.ver = 1 ∨ f.ver = 2 ∨ f.ver = 3 := by simp [verB] at hv; omega
    have HV13 := Lib.hid hv13
    clear hv13
    have HBS := Lib.hid hbs
    clear hbs
    go_enter Tryz.func38, Tryz.ntmps38
    go_upto_block 0 with (go_at_call 26; refine (rVersion_any _ _).mono ?_; rintro e w' ⟨rfl, rfl⟩; rw [hv])
    go_cut [6] (fun okv wx => okv = .bool ok ∧ DecS w x o wx)
    case first =>
      clear HG HG2 HW EE
      have hkc : f.kind = 1 ∨ f.kind = 2 ∨ f.kind = 4 ∨ f.kind = 5 ∨ f.kind = 6 ∨ (f.kind < 1 ∨ 6 < f.kind) ∨ f.kind = 3 := by omega
      rcases hkc with hk | hk | hk | hk | hk | hk | hk
      · obtain ⟨T, okT, hT⟩ : ∃ T okT, rdT (some bs) = (T, okT) := ⟨_, _, rfl⟩
        obtain ⟨o1, ho1⟩ : ∃ o1, nk (some bs) 13 = o1 := ⟨_, rfl⟩
        obtain ⟨f1, hf1⟩ : ∃ f1, gk o1 2 = f1 := ⟨_, rfl⟩
        obtain ⟨f2, hf2⟩ : ∃ f2, gk (nk o1 2) 4 = f2 := ⟨_, rfl⟩
        obtain ⟨f3, hf3⟩ : ∃ f3, wrap64 (gk (nk (nk o1 2) 4) 8 : Nat) = f3 := ⟨_, rfl⟩
        have l2 := gk_lt (nk o1 2) 4
        rw [hf2] at l2
        have hw2 : IntKind.i64.wrap (f2 : Int) = (f2 : Int) := IntWalk.i64_in _ (by omega)
        have hq : ∃ y, rdR 256 f.kind f.ver (some bs) = y ∧ ((f.ver = 1 ∧ y = ({ (default : RecD) with kind := f.kind, tup := T, fb := f1 }, okT, nk o1 2)) ∨ (f.ver = 2 ∧ y = ({ (default : RecD) with kind := f.kind, tup := T, fb := f1, fg := f2 }, okT, nk (nk o1 2) 4)) ∨ (f.ver = 3 ∧ y = ({ (default : RecD) with kind := f.kind, tup := T, fb := f1, fg := f2, fs := f3 }, okT, nk (nk (nk o1 2) 4) 8))) := by
          rcases HV13.out with hv' | hv' | hv' <;> rw [hk, hv'] <;> simp [rdR, hT, ho1, hf1, hf2, hf3, default]
        obtain ⟨y, hy, hq⟩ := hq
        rw [HR.out] at hy
        subst hy
        have EX := Lib.hid hT
        have EO := Lib.hid ho1
        have E2 := Lib.hid hf1
        have E3 := Lib.hid hf2
        have E4 := Lib.hid hf3
        have b1 : (f.kind == 1) = true := by simp [hk]
        have b2 : (f.kind == 2) = false := by simp [hk]
        have b3 : (f.kind == 3) = false := by simp [hk]
        have b4 : (f.kind == 4) = false := by simp [hk]
        have b5 : (f.kind == 5) = false := by simp [hk]
        have b6 : (f.kind == 6) = false := by simp [hk]
        clear hk hT ho1 hf1 hf2 hf3 l2
        rcases hq with ⟨hv', hx⟩ | ⟨hv', hx⟩ | ⟨hv', hx⟩
        all_goals
          simp only [Prod.mk.injEq] at hx
          have HXE := Lib.hid hx.1
          have HOK := Lib.hid hx.2.1
          have HOE := Lib.hid hx.2.2
          first
            | (have q2 : ¬ 2 ≤ f.ver := by omega)
            | (have q2 : 2 ≤ f.ver := by omega)
          first
            | (have q3 : ¬ 3 ≤ f.ver := by omega)
            | (have q3 : 3 ≤ f.ver := by omega)
          clear hv' hx
          go_wp2_with (first
            | (go_at_call 79
               go_must (refine (rTRead_any R.out).mono ?_)
               go_must (rintro e w1 ⟨rfl, h1, k1⟩)
               go_must (rw [EX.out])
               go_must (rw [EO.out] at h1)
               go_must (have X := Lib.hid (X.out.kept k1 (by simp <;> omega)))
               go_must (have B := Lib.hid (B.out.kept k1 (by simp <;> omega)))
               go_must (have F := Lib.hid (F.out.kept k1 (by simp <;> omega)))
               go_must (have hb1 := h1.lt)
               go_must (have R := Lib.hid h1)
               go_must (clear h1 k1))
            | (with_reducible show wpList _ _ _ ({ dst := none, op := Op.store 39 (.tmp 30) (.tmp 27), type := _, pos := _, after := _, guard := _ } :: _) _ _
               go_must (refine wpList_putAt (t := 43) (v := .agg #[.int .u32 (T.src.toNat : Nat), .int .u32 (T.dst.toNat : Nat), .int .i64 T.proto, .int .i64 T.sport, .int .i64 T.dport]) rfl 39 (.tmp 30) (.tmp 27) rfl (by rfl) (by rfl) X.out (by simp [Value.cells]) (by kernel_rfl) (by simp [Value.cells, Value.oneCell']) ?_)
               go_must (intro w2 h1 k1)
               go_must (have X := Lib.hid (show Blk w2 (w.heap.size + 3) 43 #[.int .i64 f.kind, .int .u32 (T.src.toNat : Nat), .int .u32 (T.dst.toNat : Nat), .int .i64 T.proto, .int .i64 T.sport, .int .i64 T.dport, .int .i64 0, .int .i64 0, .int .i64 0, .int .i64 0, .slice none 0 0, .int .i64 0, .int .i64 0, .int .i64 0] from h1))
               go_must (have B := Lib.hid (B.out.kept k1 (by simp <;> omega)))
               go_must (have F := Lib.hid (F.out.kept k1 (by simp <;> omega)))
               go_must (have R := Lib.hid (R.out.other k1 (by simp <;> omega)))
               go_must (have hb2 := R.out.lt)
               go_must (clear h1 k1))
            | (go_at_call 80
               go_must (refine (EU16 R.out).mono ?_)
               go_must (rintro e w3 ⟨rfl, h1, k1⟩)
               go_must (rw [E2.out])
               go_must (have X := Lib.hid (X.out.kept k1 (by simp <;> omega)))
               go_must (have B := Lib.hid (B.out.kept k1 (by simp <;> omega)))
               go_must (have F := Lib.hid (F.out.kept k1 (by simp <;> omega)))
               go_must (have hb3 := h1.lt)
               go_must (have R := Lib.hid h1)
               go_must (clear h1 k1))
            | (with_reducible show wpList _ _ _ ({ dst := none, op := Op.store 3 (.tmp 34) (.tmp 32), type := _, pos := _, after := _, guard := _ } :: _) _ _
               go_must (refine wpList_putAt (t := 43) (v := .int .i64 (f1 : Nat)) rfl 3 (.tmp 34) (.tmp 32) rfl (by rfl) (by rfl) X.out (by simp [Value.cells]) (by kernel_rfl) (by simp [Value.cells, Value.oneCell']) ?_)
               go_must (intro w4 h1 k1)
               go_must (have X := Lib.hid (show Blk w4 (w.heap.size + 3) 43 #[.int .i64 f.kind, .int .u32 (T.src.toNat : Nat), .int .u32 (T.dst.toNat : Nat), .int .i64 T.proto, .int .i64 T.sport, .int .i64 T.dport, .int .i64 f1, .int .i64 0, .int .i64 0, .int .i64 0, .slice none 0 0, .int .i64 0, .int .i64 0, .int .i64 0] from h1))
               go_must (have B := Lib.hid (B.out.kept k1 (by simp <;> omega)))
               go_must (have F := Lib.hid (F.out.kept k1 (by simp <;> omega)))
               go_must (have R := Lib.hid (R.out.other k1 (by simp <;> omega)))
               go_must (have hb4 := R.out.lt)
               go_must (clear h1 k1)
               go_must (have hcf := F.out.cell))
            | (go_at_call 81
               go_must (refine (EU32 R.out).mono ?_)
               go_must (rintro e w5 ⟨rfl, h1, k1⟩)
               go_must (rw [E3.out])
               go_must (clear hcf)
               go_must (have X := Lib.hid (X.out.kept k1 (by simp <;> omega)))
               go_must (have B := Lib.hid (B.out.kept k1 (by simp <;> omega)))
               go_must (have F := Lib.hid (F.out.kept k1 (by simp <;> omega)))
               go_must (have hb5 := h1.lt)
               go_must (have R := Lib.hid h1)
               go_must (clear h1 k1))
            | (with_reducible show wpList _ _ _ ({ dst := none, op := Op.store 3 (.tmp 42) (.tmp 40), type := _, pos := _, after := _, guard := _ } :: _) _ _
               go_must (refine wpList_putAt (t := 43) (v := .int .i64 (f2 : Nat)) rfl 3 (.tmp 42) (.tmp 40) rfl (by rfl) (by rfl) X.out (by simp [Value.cells]) (by kernel_rfl) (by simp [Value.cells, Value.oneCell']) ?_)
               go_must (intro w6 h1 k1)
               go_must (have X := Lib.hid (show Blk w6 (w.heap.size + 3) 43 #[.int .i64 f.kind, .int .u32 (T.src.toNat : Nat), .int .u32 (T.dst.toNat : Nat), .int .i64 T.proto, .int .i64 T.sport, .int .i64 T.dport, .int .i64 f1, .int .i64 f2, .int .i64 0, .int .i64 0, .slice none 0 0, .int .i64 0, .int .i64 0, .int .i64 0] from h1))
               go_must (have B := Lib.hid (B.out.kept k1 (by simp <;> omega)))
               go_must (have F := Lib.hid (F.out.kept k1 (by simp <;> omega)))
               go_must (have R := Lib.hid (R.out.other k1 (by simp <;> omega)))
               go_must (have hb6 := R.out.lt)
               go_must (clear h1 k1)
               go_must (have hcf := F.out.cell))
            | (go_at_call 82
               go_must (refine (EI64 R.out).mono ?_)
               go_must (rintro e w7 ⟨rfl, h1, k1⟩)
               go_must (rw [E4.out])
               go_must (clear hcf)
               go_must (have X := Lib.hid (X.out.kept k1 (by simp <;> omega)))
               go_must (have B := Lib.hid (B.out.kept k1 (by simp <;> omega)))
               go_must (have F := Lib.hid (F.out.kept k1 (by simp <;> omega)))
               go_must (have hb7 := h1.lt)
               go_must (have R := Lib.hid h1)
               go_must (clear h1 k1))
            | (with_reducible show wpList _ _ _ ({ dst := none, op := Op.store 2 (.tmp 49) (.tmp 47), type := _, pos := _, after := _, guard := _ } :: _) _ _
               go_must (refine wpList_putAt (t := 43) (v := .int .i64 f3) rfl 2 (.tmp 49) (.tmp 47) rfl (by rfl) (by rfl) X.out (by simp [Value.cells]) (by kernel_rfl) (by simp [Value.cells, Value.oneCell']) ?_)
               go_must (intro w8 h1 k1)
               go_must (have X := Lib.hid (show Blk w8 (w.heap.size + 3) 43 #[.int .i64 f.kind, .int .u32 (T.src.toNat : Nat), .int .u32 (T.dst.toNat : Nat), .int .i64 T.proto, .int .i64 T.sport, .int .i64 T.dport, .int .i64 f1, .int .i64 f2, .int .i64 f3, .int .i64 0, .slice none 0 0, .int .i64 0, .int .i64 0, .int .i64 0] from h1))
               go_must (have B := Lib.hid (B.out.kept k1 (by simp <;> omega)))
               go_must (have F := Lib.hid (F.out.kept k1 (by simp <;> omega)))
               go_must (have R := Lib.hid (R.out.other k1 (by simp <;> omega)))
               go_must (have hb8 := R.out.lt)
               go_must (clear h1 k1)))
          go_meet
          case rel => exact ⟨by rw [HOK.out], _, by rw [HXE.out]; exact X.out, B.out, by rw [HOE.out]; exact R.out, by rw [HXE.out]; exact LV.nil R.out.kept⟩
      · have hk' := Lib.hid hk
        obtain ⟨T, hT⟩ : ∃ T, (rdT (some bs)).1 = T := ⟨_, rfl⟩
        obtain ⟨okT, hokT⟩ : ∃ okT, (rdT (some bs)).2 = okT := ⟨_, rfl⟩
        have EX := Lib.hid (show rdT (some bs) = (T, okT) by rw [← hT, ← hokT])
        have hxe := HR.out
        rw [show rdR 256 f.kind f.ver (some bs) = ({ (default : RecD) with kind := f.kind, tup := T }, okT, nk (some bs) 13) by simp [rdR, hk, hT, hokT]] at hxe
        simp only [Prod.mk.injEq] at hxe
        have HXE := Lib.hid hxe.1.symm
        have HOK := Lib.hid hxe.2.1.symm
        have HOE := Lib.hid hxe.2.2.symm
        clear hxe
        have b1 : (f.kind == 1) = false := by simp [hk]
        have b2 : (f.kind == 2) = true := by simp [hk]
        have b3 : (f.kind == 3) = false := by simp [hk]
        have b4 : (f.kind == 4) = false := by simp [hk]
        have b5 : (f.kind == 5) = false := by simp [hk]
        have b6 : (f.kind == 6) = false := by simp [hk]
        clear hk hT hokT
        go_wp2_with (first
          | (go_at_call 79
             go_must (refine (rTRead_any R.out).mono ?_)
             go_must (rintro e w1 ⟨rfl, h1, k1⟩)
             go_must (rw [EX.out])
             go_must (have X := Lib.hid (X.out.kept k1 (by simp <;> omega)))
             go_must (have B := Lib.hid (B.out.kept k1 (by simp <;> omega)))
             go_must (have F := Lib.hid (F.out.kept k1 (by simp <;> omega)))
             go_must (have hb1 := h1.lt)
             go_must (have R := Lib.hid h1)
             go_must (clear h1 k1))
          | (with_reducible show wpList _ _ _ ({ dst := none, op := Op.store 39 (.tmp 58) (.tmp 55), type := _, pos := _, after := _, guard := _ } :: _) _ _
             go_must (refine wpList_putAt (t := 43) (v := .agg #[.int .u32 (T.src.toNat : Nat), .int .u32 (T.dst.toNat : Nat), .int .i64 T.proto, .int .i64 T.sport, .int .i64 T.dport]) rfl 39 (.tmp 58) (.tmp 55) rfl (by rfl) (by rfl) X.out (by simp [Value.cells]) (by kernel_rfl) (by simp [Value.cells, Value.oneCell']) ?_)
             go_must (intro w2 h1 k1)
             go_must (have X := Lib.hid (show Blk w2 (w.heap.size + 3) 43 #[.int .i64 f.kind, .int .u32 (T.src.toNat : Nat), .int .u32 (T.dst.toNat : Nat), .int .i64 T.proto, .int .i64 T.sport, .int .i64 T.dport, .int .i64 0, .int .i64 0, .int .i64 0, .int .i64 0, .slice none 0 0, .int .i64 0, .int .i64 0, .int .i64 0] from h1))
             go_must (have B := Lib.hid (B.out.kept k1 (by simp <;> omega)))
             go_must (have F := Lib.hid (F.out.kept k1 (by simp <;> omega)))
             go_must (have R := Lib.hid (R.out.other k1 (by simp <;> omega)))
             go_must (have hb2 := R.out.lt)
             go_must (clear h1 k1)))
        all_goals
          go_meet
          case rel => exact ⟨by rw [HOK.out], _, by rw [HXE.out]; exact X.out, B.out, by rw [HOE.out]; exact R.out, by rw [HXE.out]; exact LV.nil R.out.kept⟩
      · have hk' := Lib.hid hk
        obtain ⟨f1, hf1⟩ : ∃ f1, gk (some bs) 2 = f1 := ⟨_, rfl⟩
        obtain ⟨f2, hf2⟩ : ∃ f2, wrap64 (gk (nk (some bs) 2) 8 : Nat) = f2 := ⟨_, rfl⟩
        have E1 := Lib.hid hf1
        have E2 := Lib.hid hf2
        have hxe := HR.out
        rw [show rdR 256 f.kind f.ver (some bs) = ({ (default : RecD) with kind := f.kind, back := f1, until_ := f2 }, true, nk (nk (some bs) 2) 8) by simp [rdR, hk, hf1, hf2]] at hxe
        simp only [Prod.mk.injEq] at hxe
        have HXE := Lib.hid hxe.1.symm
        have HOK := Lib.hid hxe.2.1.symm
        have HOE := Lib.hid hxe.2.2.symm
        clear hxe
        have b1 : (f.kind == 1) = false := by simp [hk]
        have b2 : (f.kind == 2) = false := by simp [hk]
        have b3 : (f.kind == 3) = false := by simp [hk]
        have b4 : (f.kind == 4) = true := by simp [hk]
        have b5 : (f.kind == 5) = false := by simp [hk]
        have b6 : (f.kind == 6) = false := by simp [hk]
        clear hk hf1 hf2
        go_wp2_with (first
          | (go_at_call 80
             go_must (refine (EU16 R.out).mono ?_)
             go_must (rintro e w1 ⟨rfl, h1, k1⟩)
             go_must (rw [E1.out])
             go_must (have X := Lib.hid (X.out.kept k1 (by simp <;> omega)))
             go_must (have B := Lib.hid (B.out.kept k1 (by simp <;> omega)))
             go_must (have F := Lib.hid (F.out.kept k1 (by simp <;> omega)))
             go_must (have hb1 := h1.lt)
             go_must (have R := Lib.hid h1)
             go_must (clear h1 k1))
          | (go_at_call 82
             go_must (refine (EI64 R.out).mono ?_)
             go_must (rintro e w3 ⟨rfl, h1, k1⟩)
             go_must (rw [E2.out])
             go_must (have X := Lib.hid (X.out.kept k1 (by simp <;> omega)))
             go_must (have B := Lib.hid (B.out.kept k1 (by simp <;> omega)))
             go_must (have F := Lib.hid (F.out.kept k1 (by simp <;> omega)))
             go_must (have hb3 := h1.lt)
             go_must (have R := Lib.hid h1)
             go_must (clear h1 k1))
          | (with_reducible show wpList _ _ _ ({ dst := none, op := Op.store 3 (.tmp 93) (.tmp 90), type := _, pos := _, after := _, guard := _ } :: _) _ _
             go_must (refine wpList_putAt (t := 43) (v := .int .i64 (f1 : Nat)) rfl 3 (.tmp 93) (.tmp 90) rfl (by rfl) (by rfl) X.out (by simp [Value.cells]) (by kernel_rfl) (by simp [Value.cells, Value.oneCell']) ?_)
             go_must (intro w4 h1 k1)
             go_must (have X := Lib.hid (show Blk w4 (w.heap.size + 3) 43 #[.int .i64 f.kind, .int .u32 0, .int .u32 0, .int .i64 0, .int .i64 0, .int .i64 0, .int .i64 0, .int .i64 0, .int .i64 0, .int .i64 0, .slice none 0 0, .int .i64 f1, .int .i64 0, .int .i64 0] from h1))
             go_must (have B := Lib.hid (B.out.kept k1 (by simp <;> omega)))
             go_must (have F := Lib.hid (F.out.kept k1 (by simp <;> omega)))
             go_must (have R := Lib.hid (R.out.other k1 (by simp <;> omega)))
             go_must (have hb4 := R.out.lt)
             go_must (clear h1 k1))
          | (with_reducible show wpList _ _ _ ({ dst := none, op := Op.store 2 (.tmp 94) (.tmp 92), type := _, pos := _, after := _, guard := _ } :: _) _ _
             go_must (refine wpList_putAt (t := 43) (v := .int .i64 f2) rfl 2 (.tmp 94) (.tmp 92) rfl (by rfl) (by rfl) X.out (by simp [Value.cells]) (by kernel_rfl) (by simp [Value.cells, Value.oneCell']) ?_)
             go_must (intro w5 h1 k1)
             go_must (have X := Lib.hid (show Blk w5 (w.heap.size + 3) 43 #[.int .i64 f.kind, .int .u32 0, .int .u32 0, .int .i64 0, .int .i64 0, .int .i64 0, .int .i64 0, .int .i64 0, .int .i64 0, .int .i64 0, .slice none 0 0, .int .i64 f1, .int .i64 f2, .int .i64 0] from h1))
             go_must (have B := Lib.hid (B.out.kept k1 (by simp <;> omega)))
             go_must (have F := Lib.hid (F.out.kept k1 (by simp <;> omega)))
             go_must (have R := Lib.hid (R.out.other k1 (by simp <;> omega)))
             go_must (have hb5 := R.out.lt)
             go_must (clear h1 k1)))
        all_goals
          go_meet
          case rel => exact ⟨by rw [HOK.out], _, by rw [HXE.out]; exact X.out, B.out, by rw [HOE.out]; exact R.out, by rw [HXE.out]; exact LV.nil R.out.kept⟩
      · have hk' := Lib.hid hk
        obtain ⟨f1, hf1⟩ : ∃ f1, gk (some bs) 2 = f1 := ⟨_, rfl⟩
        have E1 := Lib.hid hf1
        have hxe := HR.out
        rw [show rdR 256 f.kind f.ver (some bs) = ({ (default : RecD) with kind := f.kind, back := f1 }, true, nk (some bs) 2) by simp [rdR, hk, hf1]] at hxe
        simp only [Prod.mk.injEq] at hxe
        have HXE := Lib.hid hxe.1.symm
        have HOK := Lib.hid hxe.2.1.symm
        have HOE := Lib.hid hxe.2.2.symm
        clear hxe
        have b1 : (f.kind == 1) = false := by simp [hk]
        have b2 : (f.kind == 2) = false := by simp [hk]
        have b3 : (f.kind == 3) = false := by simp [hk]
        have b4 : (f.kind == 4) = false := by simp [hk]
        have b5 : (f.kind == 5) = true := by simp [hk]
        have b6 : (f.kind == 6) = false := by simp [hk]
        clear hk hf1
        go_wp2_with (first
          | (go_at_call 80
             go_must (refine (EU16 R.out).mono ?_)
             go_must (rintro e w1 ⟨rfl, h1, k1⟩)
             go_must (rw [E1.out])
             go_must (have X := Lib.hid (X.out.kept k1 (by simp <;> omega)))
             go_must (have B := Lib.hid (B.out.kept k1 (by simp <;> omega)))
             go_must (have F := Lib.hid (F.out.kept k1 (by simp <;> omega)))
             go_must (have hb1 := h1.lt)
             go_must (have R := Lib.hid h1)
             go_must (clear h1 k1))
          | (with_reducible show wpList _ _ _ ({ dst := none, op := Op.store 3 (.tmp 99) (.tmp 98), type := _, pos := _, after := _, guard := _ } :: _) _ _
             go_must (refine wpList_putAt (t := 43) (v := .int .i64 (f1 : Nat)) rfl 3 (.tmp 99) (.tmp 98) rfl (by rfl) (by rfl) X.out (by simp [Value.cells]) (by kernel_rfl) (by simp [Value.cells, Value.oneCell']) ?_)
             go_must (intro w2 h1 k1)
             go_must (have X := Lib.hid (show Blk w2 (w.heap.size + 3) 43 #[.int .i64 f.kind, .int .u32 0, .int .u32 0, .int .i64 0, .int .i64 0, .int .i64 0, .int .i64 0, .int .i64 0, .int .i64 0, .int .i64 0, .slice none 0 0, .int .i64 f1, .int .i64 0, .int .i64 0] from h1))
             go_must (have B := Lib.hid (B.out.kept k1 (by simp <;> omega)))
             go_must (have F := Lib.hid (F.out.kept k1 (by simp <;> omega)))
             go_must (have R := Lib.hid (R.out.other k1 (by simp <;> omega)))
             go_must (have hb2 := R.out.lt)
             go_must (clear h1 k1)))
        all_goals
          go_meet
          case rel => exact ⟨by rw [HOK.out], _, by rw [HXE.out]; exact X.out, B.out, by rw [HOE.out]; exact R.out, by rw [HXE.out]; exact LV.nil R.out.kept⟩
      · have hk' := Lib.hid hk
        obtain ⟨f1, hf1⟩ : ∃ f1, gk (some bs) 4 = f1 := ⟨_, rfl⟩
        have E1 := Lib.hid hf1
        have l1 := gk_lt (some bs) 4
        rw [hf1] at l1
        have hw1 : IntKind.i64.wrap (f1 : Int) = (f1 : Int) := IntWalk.i64_in _ (by omega)
        clear l1
        have hxe := HR.out
        rw [show rdR 256 f.kind f.ver (some bs) = ({ (default : RecD) with kind := f.kind, count := f1 }, true, nk (some bs) 4) by simp [rdR, hk, hf1]] at hxe
        simp only [Prod.mk.injEq] at hxe
        have HXE := Lib.hid hxe.1.symm
        have HOK := Lib.hid hxe.2.1.symm
        have HOE := Lib.hid hxe.2.2.symm
        clear hxe
        have b1 : (f.kind == 1) = false := by simp [hk]
        have b2 : (f.kind == 2) = false := by simp [hk]
        have b3 : (f.kind == 3) = false := by simp [hk]
        have b4 : (f.kind == 4) = false := by simp [hk]
        have b5 : (f.kind == 5) = false := by simp [hk]
        have b6 : (f.kind == 6) = true := by simp [hk]
        clear hk hf1
        go_wp2_with (first
          | (go_at_call 81
             go_must (refine (EU32 R.out).mono ?_)
             go_must (rintro e w1 ⟨rfl, h1, k1⟩)
             go_must (rw [E1.out])
             go_must (have X := Lib.hid (X.out.kept k1 (by simp <;> omega)))
             go_must (have B := Lib.hid (B.out.kept k1 (by simp <;> omega)))
             go_must (have F := Lib.hid (F.out.kept k1 (by simp <;> omega)))
             go_must (have hb1 := h1.lt)
             go_must (have R := Lib.hid h1)
             go_must (clear h1 k1))
          | (with_reducible show wpList _ _ _ ({ dst := none, op := Op.store 3 (.tmp 105) (.tmp 104), type := _, pos := _, after := _, guard := _ } :: _) _ _
             go_must (refine wpList_putAt (t := 43) (v := .int .i64 (f1 : Nat)) rfl 3 (.tmp 105) (.tmp 104) rfl (by rfl) (by rfl) X.out (by simp [Value.cells]) (by kernel_rfl) (by simp [Value.cells, Value.oneCell']) ?_)
             go_must (intro w2 h1 k1)
             go_must (have X := Lib.hid (show Blk w2 (w.heap.size + 3) 43 #[.int .i64 f.kind, .int .u32 0, .int .u32 0, .int .i64 0, .int .i64 0, .int .i64 0, .int .i64 0, .int .i64 0, .int .i64 0, .int .i64 0, .slice none 0 0, .int .i64 0, .int .i64 0, .int .i64 f1] from h1))
             go_must (have B := Lib.hid (B.out.kept k1 (by simp <;> omega)))
             go_must (have F := Lib.hid (F.out.kept k1 (by simp <;> omega)))
             go_must (have R := Lib.hid (R.out.other k1 (by simp <;> omega)))
             go_must (have hb2 := R.out.lt)
             go_must (clear h1 k1)))
        all_goals
          go_meet
          case rel => exact ⟨by rw [HOK.out], _, by rw [HXE.out]; exact X.out, B.out, by rw [HOE.out]; exact R.out, by rw [HXE.out]; exact LV.nil R.out.kept⟩
      · have hk' := Lib.hid hk
        have hxe := HR.out
        rw [show rdR 256 f.kind f.ver (some bs) = ({ (default : RecD) with kind := f.kind }, true, some bs) by simp [rdR, show ¬ f.kind = 1 by omega, show ¬ f.kind = 2 by omega, show ¬ f.kind = 3 by omega, show ¬ f.kind = 4 by omega, show ¬ f.kind = 5 by omega, show ¬ f.kind = 6 by omega]] at hxe
        simp only [Prod.mk.injEq] at hxe
        have HXE := Lib.hid hxe.1.symm
        have HOK := Lib.hid hxe.2.1.symm
        have HOE := Lib.hid hxe.2.2.symm
        clear hxe
        have b1 : (f.kind == 1) = false := by simp; omega
        have b2 : (f.kind == 2) = false := by simp; omega
        have b3 : (f.kind == 3) = false := by simp; omega
        have b4 : (f.kind == 4) = false := by simp; omega
        have b5 : (f.kind == 5) = false := by simp; omega
        have b6 : (f.kind == 6) = false := by simp; omega
        clear hk
        go_wp2
        all_goals
          go_meet
          case rel => exact ⟨by rw [HOK.out], _, by rw [HXE.out]; exact X.out, B.out, by rw [HOE.out]; exact R.out, by rw [HXE.out]; exact LV.nil R.out.kept⟩
      · have hk' := Lib.hid hk
        obtain ⟨f1, hf1⟩ : ∃ f1, gk (some bs) 4 = f1 := ⟨_, rfl⟩
        have l1 := gk_lt (some bs) 4
        rw [hf1] at l1
        have hw1 : IntKind.i64.wrap (f1 : Int) = (f1 : Int) := IntWalk.i64_in _ (by omega)
        clear l1
        obtain ⟨n, hn⟩ : ∃ n, gk (nk (some bs) 4) 1 = n := ⟨_, rfl⟩
        have l8 := gk_lt (nk (some bs) 4) 1
        rw [hn] at l8
        obtain ⟨o1, ho1⟩ : ∃ o1, nk (nk (some bs) 4) 1 = o1 := ⟨_, rfl⟩
        obtain ⟨v, hv'⟩ : ∃ v, f.ver = v := ⟨_, rfl⟩
        have E1 := Lib.hid hf1
        have E2 := Lib.hid hn
        have EO := Lib.hid ho1
        have hxe := HR.out
        rw [show rdR 256 f.kind f.ver (some bs) = ({ (default : RecD) with kind := f.kind, gen := f1, backs := (rdBs f.ver n o1).1 }, true, (rdBs f.ver n o1).2) by simp [rdR, hk, hf1, hn, ho1, show min n 256 = n by omega]] at hxe
        rw [hv'] at hxe
        simp only [Prod.mk.injEq] at hxe
        have HXE := Lib.hid hxe.1.symm
        have HOK := Lib.hid hxe.2.1.symm
        have HOE := Lib.hid hxe.2.2.symm
        have HVV := Lib.hid hv'
        clear hxe
        have b1 : (f.kind == 1) = false := by simp [hk]
        have b2 : (f.kind == 2) = false := by simp [hk]
        have b3 : (f.kind == 3) = true := by simp [hk]
        have b4 : (f.kind == 4) = false := by simp [hk]
        have b5 : (f.kind == 5) = false := by simp [hk]
        have b6 : (f.kind == 6) = false := by simp [hk]
        clear hk hf1 hn ho1 hv'
        obtain ⟨W0, hW0⟩ : ∃ W0 : World, W0.heap.size = w.heap.size + 4 := ⟨_, by exact (show ((((w.alloc (.cells #[.int .i64 f.kind, .int .i64 f.ver, .slice A m c] 45)).alloc (.cells #[.int .i64 0, .int .u32 0, .int .u32 0, .int .i64 0, .int .i64 0, .int .i64 0, .int .i64 0, .int .i64 0, .int .i64 0, .int .i64 0, .slice none 0 0, .int .i64 0, .int .i64 0, .int .i64 0] 43)).alloc (.cells #[.slice A m c, .int .i64 0] 132)).alloc (.cells #[.int .i64 f.kind, .int .u32 0, .int .u32 0, .int .i64 0, .int .i64 0, .int .i64 0, .int .i64 0, .int .i64 0, .int .i64 0, .int .i64 0, .slice none 0 0, .int .i64 0, .int .i64 0, .int .i64 0] 43)).heap.size = w.heap.size + 4 by simp)⟩
        have HW0 := Lib.hid hW0
        clear hW0
        go_wp2_with (first
          | (go_at_call 81
             go_must (refine (EU32 R.out).mono ?_)
             go_must (rintro e w1 ⟨rfl, h1, k1⟩)
             go_must (rw [E1.out])
             go_must (have X := Lib.hid (X.out.kept k1 (by simp <;> omega)))
             go_must (have B := Lib.hid (B.out.kept k1 (by simp <;> omega)))
             go_must (have F := Lib.hid (F.out.kept k1 (by simp <;> omega)))
             go_must (have hb1 := h1.lt)
             go_must (have R := Lib.hid h1)
             go_must (clear h1 k1))
          | (with_reducible show wpList _ _ _ ({ dst := none, op := Op.store 3 (.tmp 64) (.tmp 63), type := _, pos := _, after := _, guard := _ } :: _) _ _
             go_must (refine wpList_putAt (t := 43) (v := .int .i64 (f1 : Nat)) rfl 3 (.tmp 64) (.tmp 63) rfl (by rfl) (by rfl) X.out (by simp [Value.cells]) (by kernel_rfl) (by simp [Value.cells, Value.oneCell']) ?_)
             go_must (intro w2 h1 k1)
             go_must (have X := Lib.hid (show Blk w2 (w.heap.size + 3) 43 #[.int .i64 f.kind, .int .u32 0, .int .u32 0, .int .i64 0, .int .i64 0, .int .i64 0, .int .i64 0, .int .i64 0, .int .i64 0, .int .i64 f1, .slice none 0 0, .int .i64 0, .int .i64 0, .int .i64 0] from h1))
             go_must (have B := Lib.hid (B.out.kept k1 (by simp <;> omega)))
             go_must (have F := Lib.hid (F.out.kept k1 (by simp <;> omega)))
             go_must (have R := Lib.hid (R.out.other k1 (by simp <;> omega)))
             go_must (have hb2 := R.out.lt)
             go_must (clear h1 k1))
          | (go_at_call 83
             go_must (refine (EU8 R.out).mono ?_)
             go_must (rintro e w3 ⟨rfl, h1, k1⟩)
             go_must ((rw [E2.out]; rw [EO.out] at h1))
             go_must (have X := Lib.hid (X.out.kept k1 (by simp <;> omega)))
             go_must (have B := Lib.hid (B.out.kept k1 (by simp <;> omega)))
             go_must (have F := Lib.hid (F.out.kept k1 (by simp <;> omega)))
             go_must (have hb3 := h1.lt)
             go_must (have R := Lib.hid h1)
             go_must (clear h1 k1)))
        go_loopg [67] n (fun g i wr => ∃ k : Nat, k ≤ n ∧ g = n - k ∧ i = .int .i64 k ∧ ∃ sl, Blk wr (w.heap.size + 3) 43 #[.int .i64 f.kind, .int .u32 0, .int .u32 0, .int .i64 0, .int .i64 0, .int .i64 0, .int .i64 0, .int .i64 0, .int .i64 0, .int .i64 f1, sl, .int .i64 0, .int .i64 0, .int .i64 0] ∧ Blk wr (w.heap.size + 1) 43 #[.int .i64 0, .int .u32 0, .int .u32 0, .int .i64 0, .int .i64 0, .int .i64 0, .int .i64 0, .int .i64 0, .int .i64 0, .int .i64 0, .slice none 0 0, .int .i64 0, .int .i64 0, .int .i64 0] ∧ Blk wr w.heap.size 45 #[.int .i64 f.kind, .int .i64 f.ver, .slice A m c] ∧ RWr w (w.heap.size + 2) (rdBs v k o1).2 wr ∧ BkO w W0 wr sl (rdBs v k o1).1)
        case atStart => exact ⟨0, by omega, by omega, rfl, _, X.out, B.out, F.out, R.out, BkO.nil R.out.kept⟩
        case round =>
          obtain ⟨k, hk, rfl, rfl, sl, hX, hB, hF, hR, hS⟩ := hrel
          have X := Lib.hid hX
          have B := Lib.hid hB
          have F := Lib.hid hF
          have R := Lib.hid hR
          have S := Lib.hid hS
          clear hX hB hF hR hS
          have hlen := Lib.hid (rdBs_len v o1 k)
          have hnx := Lib.hid (show rdBs v (k + 1) o1 = ((rdBs v k o1).1 ++ [(rdB v (rdBs v k o1).2).1], (rdB v (rdBs v k o1).2).2) from rfl)
          obtain ⟨A0, m0, c0, rfl⟩ := S.out.form
          by_cases hlt : k < n
          · obtain ⟨lk, hlk⟩ : ∃ lk, (rdBs v k o1).1 = lk := ⟨_, rfl⟩
            obtain ⟨oq, hoq⟩ : ∃ oq, (rdBs v k o1).2 = oq := ⟨_, rfl⟩
            obtain ⟨bk, hbk⟩ : ∃ bk, (rdB v oq).1 = bk := ⟨_, rfl⟩
            have S := Lib.hid (hlk ▸ S.out)
            have R := Lib.hid (hoq ▸ R.out)
            have hlen := hlen.out
            rw [hlk] at hlen
            have hnx := Lib.hid (show rdBs v (k + 1) o1 = (lk ++ [bk], (rdB v oq).2) by rw [hnx.out, hlk, hoq, hbk])
            have E1 := Lib.hid (show ((gk oq 2 : Nat) : Int) = bk.id by rw [← hbk]; rfl)
            have E2 := Lib.hid (show ((gk (nk oq 2) 4 : Nat) : Int) = (bk.addr.toNat : Nat) by rw [← hbk]; simp only [rdB, gad_nat])
            have E3 := Lib.hid (show 2 ≤ v → ((gk (nk (nk oq 2) 4) 1 : Nat) : Int) = bk.weight by intro h; rw [← hbk]; simp only [rdB, if_pos h])
            have E4 := Lib.hid (show ¬ 2 ≤ v → bk.weight = 1 by intro h; rw [← hbk]; simp only [rdB, if_neg h])
            have E5 := Lib.hid (show (rdB v oq).2 = if 2 ≤ v then nk (nk (nk oq 2) 4) 1 else nk (nk oq 2) 4 from rfl)
            clear hlk hoq hbk
            have i0 : (0 : Int) ≤ (k : Int) := by omega
            have i1 : (k : Int) < (n : Int) := by omega
            rcases Int.lt_or_le v 2 with q2 | q2
            all_goals
              first
                | (have qv : ¬ 2 ≤ f.ver := by rw [HVV.out]; omega)
                | (have qv : 2 ≤ f.ver := by rw [HVV.out]; omega)
              go_wp2_with (first
                | (go_at_call 80
                   go_must (refine (EU16 (R.out)).mono ?_)
                   go_must (rintro e w1 ⟨rfl, h1, k1⟩)
                   go_must (rw [E1.out])
                   go_must (have X := Lib.hid (X.out.kept k1 (by simp <;> omega)))
                   go_must (have B := Lib.hid (B.out.kept k1 (by simp <;> omega)))
                   go_must (have F := Lib.hid (F.out.kept k1 (by simp <;> omega)))
                   go_must (have S := Lib.hid (S.out.other k1 (by simp [HW0.out] <;> omega)))
                   go_must (have hb1 := h1.lt)
                   go_must (have R := Lib.hid h1)
                   go_must (have hsz1 := X.out.lt)
                   go_must (clear h1 k1))
                | (go_at_call 81
                   go_must (refine (EU32 (R.out)).mono ?_)
                   go_must (rintro e w2 ⟨rfl, h1, k1⟩)
                   go_must (rw [E2.out])
                   go_must (have X := Lib.hid (X.out.kept k1 (by simp <;> omega)))
                   go_must (have B := Lib.hid (B.out.kept k1 (by simp <;> omega)))
                   go_must (have F := Lib.hid (F.out.kept k1 (by simp <;> omega)))
                   go_must (have S := Lib.hid (S.out.other k1 (by simp [HW0.out] <;> omega)))
                   go_must (have hb2 := h1.lt)
                   go_must (have R := Lib.hid h1)
                   go_must (have hsz2 := X.out.lt)
                   go_must (clear h1 k1)
                   go_must (have hcf := fun o => (F.out.alloc o).cell)
                   go_must (have hcx := fun o => (X.out.alloc o).cell))
                | (go_at_call 83
                   go_must (refine (EU8 (R.out.go ((Kept.refl [] _).alloc _))).mono ?_)
                   go_must (rintro e w4 ⟨rfl, h1, k1⟩)
                   go_must (rw [E3.out q2])
                   go_must (have hk6 := (Kept.refl [] w2).alloc (.cells #[.int .i64 bk.id, .int .u32 (bk.addr.toNat : Nat), .int .i64 1] 78))
                   go_must (have Y := Lib.hid ((show Blk (w2.alloc (.cells #[.int .i64 bk.id, .int .u32 (bk.addr.toNat : Nat), .int .i64 1] 78)) w2.heap.size 78 #[.int .i64 bk.id, .int .u32 (bk.addr.toNat : Nat), .int .i64 1] from by (repeat (first | (apply Blk.new'; simp; done) | apply Blk.alloc | apply Blk.drew))).kept k1 (by simp <;> omega)))
                   go_must (have hg6 : w2.heap.size ∉ rowOf (.slice A0 m0 c0) := fun hm => Nat.lt_irrefl _ (S.out.lt _ hm))
                   go_must (have S := Lib.hid ((S.out.go hk6).other k1 (by simp [HW0.out] <;> omega)))
                   go_must (clear hcf hcx)
                   go_must (have X := Lib.hid ((X.out.alloc _).kept k1 (by simp <;> omega)))
                   go_must (have B := Lib.hid ((B.out.alloc _).kept k1 (by simp <;> omega)))
                   go_must (have F := Lib.hid ((F.out.alloc _).kept k1 (by simp <;> omega)))
                   go_must (clear hk6)
                   go_must (have hb4 := h1.lt)
                   go_must (have R := Lib.hid h1)
                   go_must (have hlt3 := Y.out.lt)
                   go_must (clear h1 k1))
                | (with_reducible show wpList _ _ _ ({ dst := none, op := Op.store 3 (.tmp 79) (.tmp 78), type := _, pos := _, after := _, guard := _ } :: _) _ _
                   go_must (refine wpList_putAt (t := 78) (v := .int .i64 bk.weight) rfl 3 (.tmp 79) (.tmp 78) rfl (by rfl) (by rfl) Y.out (by simp [Value.cells]) (by kernel_rfl) (by simp [Value.cells, Value.oneCell']) ?_)
                   go_must (intro w5 h1 k1)
                   go_must (have Y := Lib.hid (show Blk w5 w2.heap.size 78 #[.int .i64 bk.id, .int .u32 (bk.addr.toNat : Nat), .int .i64 bk.weight] from h1))
                   go_must (have X := Lib.hid (X.out.kept k1 (by simp <;> omega)))
                   go_must (have B := Lib.hid (B.out.kept k1 (by simp <;> omega)))
                   go_must (have F := Lib.hid (F.out.kept k1 (by simp <;> omega)))
                   go_must (have S := Lib.hid (S.out.farG k1 hg6 (by omega)))
                   go_must (have R := Lib.hid (R.out.other k1 (by simp <;> omega)))
                   go_must (have hb5 := R.out.lt)
                   go_must (have hcx := X.out.cell)
                   go_must (have hcy := Y.out.cell)
                   go_must (have hlt5 := Y.out.lt)
                   go_must (clear h1 k1))
                | (at_builtin
                   go_must (first | (refine wpList_bk (W0 := W0) (w0 := w5) (bk := bk) rfl (.tmp 81) (.tmp 83) rfl rfl (by rw [HW0.out]; omega) rfl S.out (by rfl) (by omega) ?_; intro A9 m9 c9 w9 h1 k1) | (refine wpList_bk (W0 := W0) (w0 := w2.alloc (.cells #[.int .i64 bk.id, .int .u32 (bk.addr.toNat : Nat), .int .i64 1] 78)) (bk := ⟨bk.id, bk.addr, 1⟩) (g := w2.heap.size + 1) rfl (.tmp 81) (.tmp 83) rfl (by simp) (by simp [HW0.out] <;> omega) rfl (S.out.go ((Kept.refl [] w2).alloc _)) (by rfl) (by omega) ?_; intro A9 m9 c9 w9 h1 k0; have k1 := ((Kept.refl (rowOf (.slice A0 m0 c0)) w2).alloc (.cells #[.int .i64 bk.id, .int .u32 (bk.addr.toNat : Nat), .int .i64 1] 78)).trans k0 (fun i hi => .inl hi); clear k0; have h1 := h1.cast (show lk ++ [(⟨bk.id, bk.addr, 1⟩ : BackD)] = lk ++ [bk] by rw [← E4.out (by omega)])))
                   go_must (first | (clear hcf) | skip)
                   go_must (first | (clear hcx hcy) | skip)
                   go_must (first | (clear hcx) | skip)
                   go_must (have hrw := S.out.row)
                   go_must (rw [HW0.out] at hrw)
                   go_must (have R := Lib.hid (R.out.other k1 (fun k hk => by have := hrw k hk; omega)))
                   go_must (have X := Lib.hid (X.out.kept k1 (fun hm => by have := hrw _ hm; omega)))
                   go_must (have B := Lib.hid (B.out.kept k1 (fun hm => by have := hrw _ hm; omega)))
                   go_must (have F := Lib.hid (F.out.kept k1 (fun hm => by have := hrw _ hm; omega)))
                   go_must (have S := Lib.hid h1)
                   go_must (clear h1 k1 hrw))
                | (with_reducible show wpList _ _ _ ({ dst := none, op := Op.store 22 (.tmp 85) (.tmp 84), type := _, pos := _, after := _, guard := _ } :: _) _ _
                   go_must (refine wpList_putAt (t := 43) (v := .slice A9 m9 c9) rfl 22 (.tmp 85) (.tmp 84) rfl (by rfl) (by rfl) X.out (by simp [Value.cells]) (by kernel_rfl) (by simp [Value.cells, Value.oneCell']) ?_)
                   go_must (intro w10 h1 k1)
                   go_must (have X := Lib.hid (show Blk w10 (w.heap.size + 3) 43 #[.int .i64 f.kind, .int .u32 0, .int .u32 0, .int .i64 0, .int .i64 0, .int .i64 0, .int .i64 0, .int .i64 0, .int .i64 0, .int .i64 f1, .slice A9 m9 c9, .int .i64 0, .int .i64 0, .int .i64 0] from h1))
                   go_must (have B := Lib.hid (B.out.kept k1 (by simp <;> omega)))
                   go_must (have F := Lib.hid (F.out.kept k1 (by simp <;> omega)))
                   go_must (have hrw := S.out.row)
                   go_must (rw [HW0.out] at hrw)
                   go_must (have S := Lib.hid (S.out.farG k1 (fun hm => by have := hrw _ hm; omega) (by omega)))
                   go_must (have R := Lib.hid (R.out.other k1 (by simp <;> omega)))
                   go_must (clear h1 k1 hrw)))
              go_roundg (n - (k + 1))
              case measure => omega
              case rel => exact ⟨k + 1, by omega, rfl, by go_num, _, X.out, B.out, F.out, (by have hr := R.out; rw [hnx.out]; dsimp only; rw [E5.out]; first | (rw [if_pos q2]; exact hr) | (rw [if_neg (by omega)]; exact hr)), S.out.cast (by rw [hnx.out])⟩
          · obtain rfl : k = n := by omega
            have i1 : ¬ (k : Int) < (k : Int) := by omega
            go_wp2
            go_meet
            case rel => exact ⟨by rw [HOK.out], _, by rw [HXE.out]; exact X.out, B.out, by rw [HOE.out]; exact R.out, by rw [HXE.out]; exact S.out.bk⟩
    case rest =>
      obtain ⟨rfl, sl, hX, hB, hR, hS⟩ := hcut
      have X := Lib.hid hX
      have B := Lib.hid hB
      have R := Lib.hid hR
      have S := Lib.hid hS
      obtain ⟨A3, m3, c3, rfl⟩ := S.out.form
      have hlt3 := B.out.lt
      have hcx := X.out.cell
      clear hX hB hR hS
      rcases HW.out with d1 | ⟨d1, d2⟩ | ⟨d1, d2, d3⟩ | ⟨d1, d2, d3⟩
      all_goals
        subst d1
        first
          | (have b2 : (en == 0) = false := by simpa using d2)
          | (subst d2)
          | skip
        first
          | (have HZ0 := HG.out (.inl rfl))
          | (have HZ0 := HG.out (.inr (.inl d2)))
          | (have HZ0 := HG.out (.inr (.inr d3)))
          | (have HZ0 := HG2.out rfl rfl d3)
        have HZ := Lib.hid HZ0
        clear HZ0
        clear HG HG2
        go_wp2_with (first
          | (go_at_call 84
             go_must (refine (EEnd R.out).mono ?_)
             go_must (rintro e w' ⟨rfl, rfl⟩)
             go_must (rw [EE.out]))
          | (go_at_call 27
             go_must (obtain ⟨G2, hsm⟩ := BkV.small S.out (by have := hbk.out; omega))
             go_must (refine (rMay_any _ x hsm).mono ?_)
             go_must (rintro e w4 ⟨rfl, k1⟩)
             go_must (rw [d3])
             go_must (have X := Lib.hid (X.out.kept k1 (by simp)))
             go_must (have B := Lib.hid (B.out.kept k1 (by simp)))
             go_must (have R := Lib.hid (R.out.go k1))
             go_must (have S := Lib.hid (LV.go BkOk S.out k1))
             go_must (clear hcx)
             go_must (have hcx := X.out.cell)
             go_must (clear k1 hsm))
          | ((with_reducible show wpList _ _ _ ({ dst := none, op := Op.store 43 (.tmp 2) (.tmp 118), type := _, pos := _, after := _, guard := _ } :: _) _ _); refine wpList_put (t := 43) rfl 43 (.tmp 2) (.tmp 118) rfl _ (by rfl) (by rfl) (by exact B.out) (by rfl) (by kernel_rfl) (by simp [Value.oneCell']) ?_; intro w9 hb9 hk9; have Hb9 := Lib.hid hb9; have Hk9 := Lib.hid hk9; clear hb9 hk9)
          | ((with_reducible show wpList _ _ _ ({ dst := none, op := Op.store 43 (.tmp 2) (.tmp 119), type := _, pos := _, after := _, guard := _ } :: _) _ _); refine wpList_put (t := 43) rfl 43 (.tmp 2) (.tmp 119) rfl _ (by rfl) (by rfl) (by exact B.out) (by rfl) (by kernel_rfl) (by simp [Value.oneCell']) ?_; intro w9 hb9 hk9; have Hb9 := Lib.hid hb9; have Hk9 := Lib.hid hk9; clear hb9 hk9))
        refine bodyPost_ret (results_cell1 (t := 43) Tryz.results38 (by rfl) Hb9.out _ Tryz.underlying43 rfl (by kernel_rfl)) rfl ?_
        rw [HZ.out.1, HZ.out.2]
        first
          | (with_reducible exact ⟨_, rfl, BkV.far S.out Hk9.out B.out (by decide) (by omega)⟩)
          | exact ⟨_, rfl, LV.nil (R.out.kept.trans Hk9.out (fun i hi => .inr (by simp at hi; omega)))⟩
end
end Go.Proofs.YtkacghjglicjiaaGreat
