
/-
  The document's answer on flows: put, got.
-/
import Derived.Test.YtdabbkkjmmbigaaGreatSvC
namespace Go.Proofs.YtdabbkkjmmbigaaGreat
open Go.RowKit Go.ChangeShapes Go.WideShapes Go.ChangeAt Go.Deep Go.MapKept
set_option linter.unusedVariables false

/-- flows in memory, as the document's answer has them -/
structure Fls (W w : World) (q : Nat) (G : List Nat) (A : Option Addr) (m c : Nat) (x y : Int) (l : List FlD) : Prop where
  blk : Blk w q 81 #[.slice A m c, .int .i64 x, .int .i64 y]
  arr : FlArr w G (.slice A m c) l
  lt : ∀ k ∈ G, k < w.heap.size
  nq : q ∉ G
/-- what a put owes -/
def FlPutPost (w : World) (q : Nat) (y : Int) (l : List FlD) (f : FlD) (e : Ending) (w' : World) : Prop :=
  (mayFl f = false ∧ e = .returned (.tuple #[.bool false, .int .i64 1]) ∧ Kept [] w w') ∨
  (mayFl f = true ∧ (atI l f.tup < 0 ∧ 256 ≤ l.length) ∧ e = .returned (.tuple #[.bool false, .int .i64 9]) ∧ Kept [] w w') ∨
  (mayFl f = true ∧ ¬ (atI l f.tup < 0 ∧ 256 ≤ l.length) ∧ ∃ A' m' c', e = .returned (.tuple #[.bool (decide (atI l f.tup < 0)), .int .i64 0]) ∧ Kept [q] w w' ∧ Blk w' q 81 #[.slice A' m' c', .int .i64 256, .int .i64 y] ∧ ∃ G', FlArr w' G' (.slice A' m' c') (putFl l f) ∧ ∀ k ∈ G', w.heap.size ≤ k ∧ k < w'.heap.size)
set_option maxRecDepth 100000 in
set_option maxHeartbeats 3200000 in
theorem FlPut_any (w : World) {q : Nat} {G : List Nat} {A : Option Addr} {m c : Nat} {y : Int} {l : List FlD} (h : Fls w w q G A m c 256 y l) (f : FlD) (hm : m ≤ 1000) :
    Calls Tryz.prog 36 #[.pointer (some ⟨q, 0, none⟩), .agg #[.int .u32 (f.tup.src.toNat : Nat), .int .u32 (f.tup.dst.toNat : Nat), .int .i64 f.tup.proto, .int .i64 f.tup.sport, .int .i64 f.tup.dport, .int .i64 f.back, .int .i64 f.gen, .int .i64 f.seen]] w fun e w' => FlPutPost w q y l f e w' := by
  have H := Lib.hid h
  have hl := h.arr.len.1
  have X0 := Lib.hid (Blk.new w 43 #[.int .u32 (f.tup.src.toNat : Nat), .int .u32 (f.tup.dst.toNat : Nat), .int .i64 f.tup.proto, .int .i64 f.tup.sport, .int .i64 f.tup.dport, .int .i64 f.back, .int .i64 f.gen, .int .i64 f.seen])
  have K0 := Lib.hid ((Kept.refl [] w).alloc (.cells #[.int .u32 (f.tup.src.toNat : Nat), .int .u32 (f.tup.dst.toNat : Nat), .int .i64 f.tup.proto, .int .i64 f.tup.sport, .int .i64 f.tup.dport, .int .i64 f.back, .int .i64 f.gen, .int .i64 f.seen] 43))
  have hqlt := h.blk.lt
  obtain ⟨n, hn⟩ : ∃ n, atI l f.tup = n := ⟨_, rfl⟩
  have HN := Lib.hid hn
  have HLN := Lib.hid hl
  clear h hn hl
  go_enter Tryz.func36, Tryz.ntmps36
  rcases hmay : mayFl f with _ | _
  · have HM := Lib.hid hmay
    clear hmay
    go_wp2_with (go_at_call 63
                 refine (MayFlow_any _ f).mono ?_
                 rintro e w1 ⟨rfl, hk1⟩
                 rw [HM.out]
                 have K1 := Lib.hid (K0.out.trans hk1 (by simp))
                 clear hk1)
    go_ret2
    exact .inl ⟨HM.out, rfl, K1.out⟩
  · have HM := Lib.hid hmay
    clear hmay
    by_cases hneg : n < 0
    · by_cases hful : 256 ≤ m
      · have i1 : (256 : Int) ≤ (m : Int) := by omega
        go_wp2_with (first
          | (go_at_call 63
             refine (MayFlow_any _ f).mono ?_
             rintro e w1 ⟨rfl, hk1⟩
             rw [HM.out]
             have K1 := Lib.hid (K0.out.trans hk1 (by simp))
             have X1 := Lib.hid (X0.out.kept hk1 (by simp))
             have hx1 := X1.out.cell
             clear hk1)
          | (go_at_call 64
             refine (at_any _ l f.tup (H.out.blk.kept K1.out (by simp)) (FlArr.kept H.out.arr K1.out (by simp))).mono ?_
             rintro e w2 ⟨rfl, hk2⟩
             rw [HN.out]
             have K2 := Lib.hid (K1.out.trans hk2 (by simp))
             have hq2 := (H.out.blk.kept K2.out (by simp)).cell
             have hl2 : q < w2.heap.size := Nat.lt_of_lt_of_le hqlt K2.out.size
             clear hk2))
        go_quiet (fail)
        go_wp2
        go_ret2
        exact .inr (.inl ⟨HM.out, ⟨by rw [HN.out]; exact hneg, by rw [HLN.out]; exact hful⟩, rfl, K2.out.drewN nq⟩)
      · have i1 : ¬ (256 : Int) ≤ (m : Int) := by omega
        go_wp2_with (first
          | (go_at_call 63
             refine (MayFlow_any _ f).mono ?_
             rintro e w1 ⟨rfl, hk1⟩
             rw [HM.out]
             have K1 := Lib.hid (K0.out.trans hk1 (by simp))
             have X1 := Lib.hid (X0.out.kept hk1 (by simp))
             have hx1 := X1.out.cell
             clear hk1)
          | (go_at_call 64
             refine (at_any _ l f.tup (H.out.blk.kept K1.out (by simp)) (FlArr.kept H.out.arr K1.out (by simp))).mono ?_
             rintro e w2 ⟨rfl, hk2⟩
             rw [HN.out]
             have K2 := Lib.hid (K1.out.trans hk2 (by simp))
             have X2 := Lib.hid (X1.out.kept hk2 (by simp))
             have hq2 := (H.out.blk.kept K2.out (by simp)).cell
             have hx2 := X2.out.cell
             have hl2 : q < w2.heap.size := Nat.lt_of_lt_of_le hqlt K2.out.size
             clear hk2 hx1))
        go_quiet (fail)
        go_wp2
        obtain ⟨wx, hwx⟩ : ∃ wx, w2.drewN nq = wx := ⟨_, rfl⟩
        have KX := Lib.hid (hwx ▸ K2.out.drewN nq : Kept [] w wx)
        have BX := Lib.hid (H.out.blk.kept KX.out (by simp))
        have XX := Lib.hid (hwx ▸ X2.out.kept ((Kept.refl [] w2).drewN nq) (by simp) : Blk wx w.heap.size 43 #[.int .u32 (f.tup.src.toNat : Nat), .int .u32 (f.tup.dst.toNat : Nat), .int .i64 f.tup.proto, .int .i64 f.tup.sport, .int .i64 f.tup.dport, .int .i64 f.back, .int .i64 f.gen, .int .i64 f.seen])
        have hqx := BX.out.cell
        have hxx := XX.out.cell
        have hlx : q < wx.heap.size := Nat.lt_of_lt_of_le hqlt KX.out.size
        simp only [hwx]
        clear hwx hq2 hx2 hl2
        have KD := Lib.hid (KX.out.drew)
        have PF : Hid (Calls Tryz.prog 65 #[.slice A m c, .agg #[.int .u32 (f.tup.src.toNat : Nat), .int .u32 (f.tup.dst.toNat : Nat), .int .i64 f.tup.proto, .int .i64 f.tup.sport, .int .i64 f.tup.dport, .int .i64 f.back, .int .i64 f.gen, .int .i64 f.seen]] wx.drew fun e w' => ∃ A' m' c', e = .returned (.slice A' m' c') ∧ FlV wx.drew w' (.slice A' m' c') (putFl l f)) := Lib.hid (PutFlow_any _ l f (FlArr.kept H.out.arr KD.out (by simp)) (fun k hk => Nat.lt_of_lt_of_le (H.out.lt k hk) KD.out.size) hm)
        go_region_law ((first
          | (go_simp
             go_at_call 65
             with_reducible refine PF.out.mono ?_
             go_must (rintro e w5 ⟨A5, m5, c5, rfl, hv5⟩)
             have V5 := Lib.hid hv5
             go_must (have K5 := Lib.hid (((Kept.refl [] wx).drew).trans (LV.kept hv5) (by simp)))
             go_must (have B5 := Lib.hid (BX.out.kept K5.out (by simp)))
             go_must (have hq5 := B5.out.cell)
             go_must (have hf5 := B5.out.frozen)
             go_must (have hl5 : q < w5.heap.size := B5.out.lt)
             clear hv5)))
        all_goals
          go_wp2
          go_ret2
          refine .inr (.inr ⟨HM.out, ?_, A5, m5, c5, ?_, ?_, ?_, ?_⟩)
          · rw [HN.out, HLN.out]
            omega
          · rw [HN.out]
            first
              | (rw [decide_eq_true hneg]; rfl)
              | (rw [decide_eq_false (show ¬ n < 0 by omega)]; rfl)
          · exact ((KX.out.trans K5.out (by simp)).mono (T := [q]) (by simp)).trans ((Kept.refl [q] w5).setCell (.inl (by simp)) _) (by simp)
          · have := B5.out.set 0 (.slice A5 m5 c5)
            simpa using this
          · obtain ⟨b1, b2⟩ := lv_row FlOk (fun h => h) V5.out
            have hsz : w.heap.size ≤ wx.drew.heap.size := KD.out.size
            have hks := (Kept.refl [q] w5).setCell (p := ⟨q, 0, none⟩) (.inl (by simp)) (.slice A5 m5 c5)
            exact ⟨_, FlArr.kept b1 hks (fun k hk hm => by have := (b2 k hk).1; simp at hm; omega), fun k hk => ⟨Nat.le_trans hsz (b2 k hk).1, Nat.lt_of_lt_of_le (b2 k hk).2 hks.size⟩⟩
    · have hd : decide (n < 0) = false := decide_eq_false hneg
      have hd2 : (n < 0) = False := eq_false hneg
      go_wp2_with (first
        | (go_at_call 63
           refine (MayFlow_any _ f).mono ?_
           rintro e w1 ⟨rfl, hk1⟩
           rw [HM.out]
           have K1 := Lib.hid (K0.out.trans hk1 (by simp))
           have X1 := Lib.hid (X0.out.kept hk1 (by simp))
           have hx1 := X1.out.cell
           clear hk1)
        | (go_at_call 64
           refine (at_any _ l f.tup (H.out.blk.kept K1.out (by simp)) (FlArr.kept H.out.arr K1.out (by simp))).mono ?_
           rintro e w2 ⟨rfl, hk2⟩
           rw [HN.out]
           have K2 := Lib.hid (K1.out.trans hk2 (by simp))
           have X2 := Lib.hid (X1.out.kept hk2 (by simp))
           have hq2 := (H.out.blk.kept K2.out (by simp)).cell
           have hx2 := X2.out.cell
           have hl2 : q < w2.heap.size := Nat.lt_of_lt_of_le hqlt K2.out.size
           clear hk2 hx1))
      go_quiet (fail)
      go_wp2
      obtain ⟨wx, hwx⟩ : ∃ wx, w2.drewN nq = wx := ⟨_, rfl⟩
      have KX := Lib.hid (hwx ▸ K2.out.drewN nq : Kept [] w wx)
      have BX := Lib.hid (H.out.blk.kept KX.out (by simp))
      have XX := Lib.hid (hwx ▸ X2.out.kept ((Kept.refl [] w2).drewN nq) (by simp) : Blk wx w.heap.size 43 #[.int .u32 (f.tup.src.toNat : Nat), .int .u32 (f.tup.dst.toNat : Nat), .int .i64 f.tup.proto, .int .i64 f.tup.sport, .int .i64 f.tup.dport, .int .i64 f.back, .int .i64 f.gen, .int .i64 f.seen])
      have hqx := BX.out.cell
      have hxx := XX.out.cell
      have hlx : q < wx.heap.size := Nat.lt_of_lt_of_le hqlt KX.out.size
      simp only [hwx]
      clear hwx hq2 hx2 hl2
      have KD := Lib.hid (KX.out.drew)
      have PF : Hid (Calls Tryz.prog 65 #[.slice A m c, .agg #[.int .u32 (f.tup.src.toNat : Nat), .int .u32 (f.tup.dst.toNat : Nat), .int .i64 f.tup.proto, .int .i64 f.tup.sport, .int .i64 f.tup.dport, .int .i64 f.back, .int .i64 f.gen, .int .i64 f.seen]] wx.drew fun e w' => ∃ A' m' c', e = .returned (.slice A' m' c') ∧ FlV wx.drew w' (.slice A' m' c') (putFl l f)) := Lib.hid (PutFlow_any _ l f (FlArr.kept H.out.arr KD.out (by simp)) (fun k hk => Nat.lt_of_lt_of_le (H.out.lt k hk) KD.out.size) hm)
      go_region_law ((first
        | (go_simp
           go_at_call 65
           with_reducible refine PF.out.mono ?_
           go_must (rintro e w5 ⟨A5, m5, c5, rfl, hv5⟩)
           have V5 := Lib.hid hv5
           go_must (have K5 := Lib.hid (((Kept.refl [] wx).drew).trans (LV.kept hv5) (by simp)))
           go_must (have B5 := Lib.hid (BX.out.kept K5.out (by simp)))
           go_must (have hq5 := B5.out.cell)
           go_must (have hf5 := B5.out.frozen)
           go_must (have hl5 : q < w5.heap.size := B5.out.lt)
           clear hv5)))
      all_goals
        go_wp2
        go_ret2
        refine .inr (.inr ⟨HM.out, ?_, A5, m5, c5, ?_, ?_, ?_, ?_⟩)
        · rw [HN.out, HLN.out]
          omega
        · rw [HN.out]
          first
            | (rw [decide_eq_true hneg]; rfl)
            | (rw [decide_eq_false (show ¬ n < 0 by omega)]; rfl)
        · exact ((KX.out.trans K5.out (by simp)).mono (T := [q]) (by simp)).trans ((Kept.refl [q] w5).setCell (.inl (by simp)) _) (by simp)
        · have := B5.out.set 0 (.slice A5 m5 c5)
          simpa using this
        · obtain ⟨b1, b2⟩ := lv_row FlOk (fun h => h) V5.out
          have hsz : w.heap.size ≤ wx.drew.heap.size := KD.out.size
          have hks := (Kept.refl [q] w5).setCell (p := ⟨q, 0, none⟩) (.inl (by simp)) (.slice A5 m5 c5)
          exact ⟨_, FlArr.kept b1 hks (fun k hk hm => by have := (b2 k hk).1; simp at hm; omega), fun k hk => ⟨Nat.le_trans hsz (b2 k hk).1, Nat.lt_of_lt_of_le (b2 k hk).2 hks.size⟩⟩
end Go.Proofs.YtdabbkkjmmbigaaGreat
