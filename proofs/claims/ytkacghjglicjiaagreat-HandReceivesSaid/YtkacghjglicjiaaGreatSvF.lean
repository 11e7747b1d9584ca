/-
  The document's answer on flows, got; on drains: until, cleared.
-/
import Derived.Test.YtkacghjglicjiaaGreatSvC
namespace Go.Proofs.YtkacghjglicjiaaGreat
set_option linter.unusedVariables false
section
open Go.RowKit Go.ChangeShapes Go.WideShapes Go.ChangeAt Go.Deep Go.MapKept
structure Fls (W w : World) (q : Nat) (G : List Nat) (A : Option Addr) (m c : Nat) (x y : Int) (l : List FlD) : Prop where
  blk : Blk w q 95 #[.slice A m c, .int .i64 x, .int .i64 y]
  arr : FlArr w G (.slice A m c) l
  lt : ∀ k ∈ G, k < w.heap.size
  nq : q ∉ G
def FlPutPost (w : World) (q : Nat) (y : Int) (l : List FlD) (f : FlD) (e : Ending) (w' : World) : Prop :=
  (mayFl f = false ∧ e = .returned (.tuple #[.bool false, .int .i64 1]) ∧ Kept [] w w') ∨
  (mayFl f = true ∧ (atI l f.tup < 0 ∧ 256 ≤ l.length) ∧ e = .returned (.tuple #[.bool false, .int .i64 9]) ∧ Kept [] w w') ∨
  (mayFl f = true ∧ ¬ (atI l f.tup < 0 ∧ 256 ≤ l.length) ∧ ∃ A' m' c', e = .returned (.tuple #[.bool (decide (atI l f.tup < 0)), .int .i64 0]) ∧ Kept [q] w w' ∧ Blk w' q 95 #[.slice A' m' c', .int .i64 256, .int .i64 y] ∧ ∃ G', FlArr w' G' (.slice A' m' c') (putFl l f) ∧ ∀ k ∈ G', w.heap.size ≤ k ∧ k < w'.heap.size)
set_option maxRecDepth 100000 in
set_option maxHeartbeats 3200000 in
theorem FlPut_any (w : World) {q : Nat} {G : List Nat} {A : Option Addr} {m c : Nat} {y : Int} {l : List FlD} (h : Fls w w q G A m c 256 y l) (f : FlD) (hm : m ≤ 1000) :
    Calls Tryz.prog 45 #[.pointer (some ⟨q, 0, none⟩), .agg #[.int .u32 (f.tup.src.toNat : Nat), .int .u32 (f.tup.dst.toNat : Nat), .int .i64 f.tup.proto, .int .i64 f.tup.sport, .int .i64 f.tup.dport, .int .i64 f.back, .int .i64 f.gen, .int .i64 f.seen]] w fun e w' => FlPutPost w q y l f e w' := by
  have H := Lib.hid h
  have hl := h.arr.len.1
  have X0 := Lib.hid (Blk.new w 41 #[.int .u32 (f.tup.src.toNat : Nat), .int .u32 (f.tup.dst.toNat : Nat), .int .i64 f.tup.proto, .int .i64 f.tup.sport, .int .i64 f.tup.dport, .int .i64 f.back, .int .i64 f.gen, .int .i64 f.seen])
  have K0 := Lib.hid ((Kept.refl [] w).alloc (.cells #[.int .u32 (f.tup.src.toNat : Nat), .int .u32 (f.tup.dst.toNat : Nat), .int .i64 f.tup.proto, .int .i64 f.tup.sport, .int .i64 f.tup.dport, .int .i64 f.back, .int .i64 f.gen, .int .i64 f.seen] 41))
  have hqlt := h.blk.lt
  obtain ⟨n, hn⟩ : ∃ n, atI l f.tup = n := ⟨_, rfl⟩
  have HN := Lib.hid hn
  have HLN := Lib.hid hl
  clear h hn hl
  go_enter Tryz.func45, Tryz.ntmps45
  rcases hmay : mayFl f with _ | _
  · have HM := Lib.hid hmay
    clear hmay
    go_wp2_with (go_at_call 86
                 refine (MayFlow_any _ f).mono ?_
                 rintro e w1 ⟨rfl, hk1⟩
                 rw [HM.out]
                 have K1 := Lib.hid (K0.out.trans hk1 (by simp))
                 clear hk1)
    go_ret2
    exact .inl ⟨HM.out, rfl, K1.out⟩
  · have HM := Lib.hid hmay
    clear hmay
    by_cases hneg : n < 0
    · by_cases hful : 256 ≤ m
      · have i1 : (256 : Int) ≤ (m : Int) := by omega
        go_wp2_with (first
          | (go_at_call 86
             refine (MayFlow_any _ f).mono ?_
             rintro e w1 ⟨rfl, hk1⟩
             rw [HM.out]
             have K1 := Lib.hid (K0.out.trans hk1 (by simp))
             have X1 := Lib.hid (X0.out.kept hk1 (by simp))
             have hx1 := X1.out.cell
             clear hk1)
          | (go_at_call 87
             refine (at_any _ l f.tup (H.out.blk.kept K1.out (by simp)) (FlArr.kept H.out.arr K1.out (by simp))).mono ?_
             rintro e w2 ⟨rfl, hk2⟩
             rw [HN.out]
             have K2 := Lib.hid (K1.out.trans hk2 (by simp))
             have hq2 := (H.out.blk.kept K2.out (by simp)).cell
             have hl2 : q < w2.heap.size := Nat.lt_of_lt_of_le hqlt K2.out.size
             clear hk2))
        go_quiet (fail)
        go_wp2
        go_ret2
        exact .inr (.inl ⟨HM.out, ⟨by rw [HN.out]; exact hneg, by rw [HLN.out]; exact hful⟩, rfl, K2.out.drewN nq⟩)
      · have i1 : ¬ (256 : Int) ≤ (m : Int) := by omega
        go_wp2_with (first
          | (go_at_call 86
             refine (MayFlow_any _ f).mono ?_
             rintro e w1 ⟨rfl, hk1⟩
             rw [HM.out]
             have K1 := Lib.hid (K0.out.trans hk1 (by simp))
             have X1 := Lib.hid (X0.out.kept hk1 (by simp))
             have hx1 := X1.out.cell
             clear hk1)
          | (go_at_call 87
             refine (at_any _ l f.tup (H.out.blk.kept K1.out (by simp)) (FlArr.kept H.out.arr K1.out (by simp))).mono ?_
             rintro e w2 ⟨rfl, hk2⟩
             rw [HN.out]
             have K2 := Lib.hid (K1.out.trans hk2 (by simp))
             have X2 := Lib.hid (X1.out.kept hk2 (by simp))
             have hq2 := (H.out.blk.kept K2.out (by simp)).cell
             have hx2 := X2.out.cell
             have hl2 : q < w2.heap.size := Nat.lt_of_lt_of_le hqlt K2.out.size
             clear hk2 hx1))
        go_quiet (fail)
        go_wp2
        obtain ⟨wx, hwx⟩ : ∃ wx, w2.drewN nq = wx := ⟨_, rfl⟩
        have KX := Lib.hid (hwx ▸ K2.out.drewN nq : Kept [] w wx)
        have BX := Lib.hid (H.out.blk.kept KX.out (by simp))
        have XX := Lib.hid (hwx ▸ X2.out.kept ((Kept.refl [] w2).drewN nq) (by simp) : Blk wx w.heap.size 41 #[.int .u32 (f.tup.src.toNat : Nat), .int .u32 (f.tup.dst.toNat : Nat), .int .i64 f.tup.proto, .int .i64 f.tup.sport, .int .i64 f.tup.dport, .int .i64 f.back, .int .i64 f.gen, .int .i64 f.seen])
        have hqx := BX.out.cell
        have hxx := XX.out.cell
        have hlx : q < wx.heap.size := Nat.lt_of_lt_of_le hqlt KX.out.size
        simp only [hwx]
        clear hwx hq2 hx2 hl2
        have KD := Lib.hid (KX.out.drew)
        have PF : Hid (Calls Tryz.prog 88 #[.slice A m c, .agg #[.int .u32 (f.tup.src.toNat : Nat), .int .u32 (f.tup.dst.toNat : Nat), .int .i64 f.tup.proto, .int .i64 f.tup.sport, .int .i64 f.tup.dport, .int .i64 f.back, .int .i64 f.gen, .int .i64 f.seen]] wx.drew fun e w' => ∃ A' m' c', e = .returned (.slice A' m' c') ∧ FlV wx.drew w' (.slice A' m' c') (putFl l f)) := Lib.hid (PutFlow_any _ l f (FlArr.kept H.out.arr KD.out (by simp)) (fun k hk => Nat.lt_of_lt_of_le (H.out.lt k hk) KD.out.size) hm)
        go_region_law ((first
          | (go_simp
             go_at_call 88
             with_reducible refine PF.out.mono ?_
             go_must (rintro e w5 ⟨A5, m5, c5, rfl, hv5⟩)
             have V5 := Lib.hid hv5
             go_must (have K5 := Lib.hid (((Kept.refl [] wx).drew).trans (LV.kept hv5) (by simp)))
             go_must (have B5 := Lib.hid (BX.out.kept K5.out (by simp)))
             go_must (have hq5 := B5.out.cell)
             go_must (have hf5 := B5.out.frozen)
             go_must (have hl5 : q < w5.heap.size := B5.out.lt)
             clear hv5)))
        all_goals
          go_wp2
          go_ret2
          refine .inr (.inr ⟨HM.out, ?_, A5, m5, c5, ?_, ?_, ?_, ?_⟩)
          · rw [HN.out, HLN.out]
            omega
          · rw [HN.out]
            first
              | (rw [decide_eq_true hneg]; rfl)
              | (rw [decide_eq_false (show ¬ n < 0 by omega)]; rfl)
          · exact ((KX.out.trans K5.out (by simp)).mono (T := [q]) (by simp)).trans ((Kept.refl [q] w5).setCell (.inl (by simp)) _) (by simp)
          · have := B5.out.set 0 (.slice A5 m5 c5)
            simpa using this
          · obtain ⟨b1, b2⟩ := lv_row FlOk (fun h => h) V5.out
            have hsz : w.heap.size ≤ wx.drew.heap.size := KD.out.size
            have hks := (Kept.refl [q] w5).setCell (p := ⟨q, 0, none⟩) (.inl (by simp)) (.slice A5 m5 c5)
            exact ⟨_, FlArr.kept b1 hks (fun k hk hm => by have := (b2 k hk).1; simp at hm; omega), fun k hk => ⟨Nat.le_trans hsz (b2 k hk).1, Nat.lt_of_lt_of_le (b2 k hk).2 hks.size⟩⟩
    · have hd : decide (n < 0) = false := decide_eq_false hneg
      have hd2 : (n < 0) = False := eq_false hneg
      go_wp2_with (first
        | (go_at_call 86
           refine (MayFlow_any _ f).mono ?_
           rintro e w1 ⟨rfl, hk1⟩
           rw [HM.out]
           have K1 := Lib.hid (K0.out.trans hk1 (by simp))
           have X1 := Lib.hid (X0.out.kept hk1 (by simp))
           have hx1 := X1.out.cell
           clear hk1)
        | (go_at_call 87
           refine (at_any _ l f.tup (H.out.blk.kept K1.out (by simp)) (FlArr.kept H.out.arr K1.out (by simp))).mono ?_
           rintro e w2 ⟨rfl, hk2⟩
           rw [HN.out]
           have K2 := Lib.hid (K1.out.trans hk2 (by simp))
           have X2 := Lib.hid (X1.out.kept hk2 (by simp))
           have hq2 := (H.out.blk.kept K2.out (by simp)).cell
           have hx2 := X2.out.cell
           have hl2 : q < w2.heap.size := Nat.lt_of_lt_of_le hqlt K2.out.size
           clear hk2 hx1))
      go_quiet (fail)
      go_wp2
      obtain ⟨wx, hwx⟩ : ∃ wx, w2.drewN nq = wx := ⟨_, rfl⟩
      have KX := Lib.hid (hwx ▸ K2.out.drewN nq : Kept [] w wx)
      have BX := Lib.hid (H.out.blk.kept KX.out (by simp))
      have XX := Lib.hid (hwx ▸ X2.out.kept ((Kept.refl [] w2).drewN nq) (by simp) : Blk wx w.heap.size 41 #[.int .u32 (f.tup.src.toNat : Nat), .int .u32 (f.tup.dst.toNat : Nat), .int .i64 f.tup.proto, .int .i64 f.tup.sport, .int .i64 f.tup.dport, .int .i64 f.back, .int .i64 f.gen, .int .i64 f.seen])
      have hqx := BX.out.cell
      have hxx := XX.out.cell
      have hlx : q < wx.heap.size := Nat.lt_of_lt_of_le hqlt KX.out.size
      simp only [hwx]
      clear hwx hq2 hx2 hl2
      have KD := Lib.hid (KX.out.drew)
      have PF : Hid (Calls Tryz.prog 88 #[.slice A m c, .agg #[.int .u32 (f.tup.src.toNat : Nat), .int .u32 (f.tup.dst.toNat : Nat), .int .i64 f.tup.proto, .int .i64 f.tup.sport, .int .i64 f.tup.dport, .int .i64 f.back, .int .i64 f.gen, .int .i64 f.seen]] wx.drew fun e w' => ∃ A' m' c', e = .returned (.slice A' m' c') ∧ FlV wx.drew w' (.slice A' m' c') (putFl l f)) := Lib.hid (PutFlow_any _ l f (FlArr.kept H.out.arr KD.out (by simp)) (fun k hk => Nat.lt_of_lt_of_le (H.out.lt k hk) KD.out.size) hm)
      go_region_law ((first
        | (go_simp
           go_at_call 88
           with_reducible refine PF.out.mono ?_
           go_must (rintro e w5 ⟨A5, m5, c5, rfl, hv5⟩)
           have V5 := Lib.hid hv5
           go_must (have K5 := Lib.hid (((Kept.refl [] wx).drew).trans (LV.kept hv5) (by simp)))
           go_must (have B5 := Lib.hid (BX.out.kept K5.out (by simp)))
           go_must (have hq5 := B5.out.cell)
           go_must (have hf5 := B5.out.frozen)
           go_must (have hl5 : q < w5.heap.size := B5.out.lt)
           clear hv5)))
      all_goals
        go_wp2
        go_ret2
        refine .inr (.inr ⟨HM.out, ?_, A5, m5, c5, ?_, ?_, ?_, ?_⟩)
        · rw [HN.out, HLN.out]
          omega
        · rw [HN.out]
          first
            | (rw [decide_eq_true hneg]; rfl)
            | (rw [decide_eq_false (show ¬ n < 0 by omega)]; rfl)
        · exact ((KX.out.trans K5.out (by simp)).mono (T := [q]) (by simp)).trans ((Kept.refl [q] w5).setCell (.inl (by simp)) _) (by simp)
        · have := B5.out.set 0 (.slice A5 m5 c5)
          simpa using this
        · obtain ⟨b1, b2⟩ := lv_row FlOk (fun h => h) V5.out
          have hsz : w.heap.size ≤ wx.drew.heap.size := KD.out.size
          have hks := (Kept.refl [q] w5).setCell (p := ⟨q, 0, none⟩) (.inl (by simp)) (.slice A5 m5 c5)
          exact ⟨_, FlArr.kept b1 hks (fun k hk hm => by have := (b2 k hk).1; simp at hm; omega), fun k hk => ⟨Nat.le_trans hsz (b2 k hk).1, Nat.lt_of_lt_of_le (b2 k hk).2 hks.size⟩⟩
end
section
open Go.RowKit Go.ChangeShapes Go.WideShapes Go.ChangeAt Go.Deep Go.MapKept
theorem at_cases (l : List FlD) (t : TupD) : (atI l t = -1 ∧ ∀ x ∈ l, x.tup ≠ t) ∨ ∃ (i : Nat) (h : i < l.length), atI l t = (i : Nat) ∧ l[i].tup = t ∧ ∀ x ∈ l.take i, x.tup ≠ t := by
  induction l with
  | nil => exact .inl ⟨rfl, by simp⟩
  | cons a l ih =>
    by_cases h : a.tup = t
    · refine .inr ⟨0, by simp, ?_, h, by simp⟩
      exact at_hit (j := 0) (by simp) (by simp) h
    · rcases ih with ⟨_, h2⟩ | ⟨i, hi, _, h2, h3⟩
      · have hall : ∀ x ∈ a :: l, x.tup ≠ t := by
          intro x hx
          rcases List.mem_cons.1 hx with rfl | hx
          · exact h
          · exact h2 x hx
        exact .inl ⟨at_none hall, hall⟩
      · have htk : ∀ x ∈ (a :: l).take (i + 1), x.tup ≠ t := by
          intro x hx
          rw [List.take_succ_cons] at hx
          rcases List.mem_cons.1 hx with rfl | hx
          · exact h
          · exact h3 x hx
        exact .inr ⟨i + 1, by simpa using hi, at_hit (l := a :: l) (j := i + 1) (by simpa using hi) htk (by simpa using h2), by simpa using h2, htk⟩
def FlDropPost (w : World) (q : Nat) (x y : Int) (l : List FlD) (t : TupD) (e : Ending) (w' : World) : Prop :=
  (atI l t = -1 ∧ e = .returned (.bool false) ∧ Kept [] w w') ∨
  (∃ i : Nat, i < l.length ∧ atI l t = (i : Nat) ∧ e = .returned (.bool true) ∧ Kept [q] w w' ∧ ∃ A' m' c', Blk w' q 95 #[.slice A' m' c', .int .i64 x, .int .i64 y] ∧ ∃ G', FlArr w' G' (.slice A' m' c') (l.take i ++ l.drop (i + 1)) ∧ ∀ k ∈ G', w.heap.size ≤ k ∧ k < w'.heap.size)
set_option maxRecDepth 100000 in
set_option maxHeartbeats 3200000 in
theorem FlDrop_any (w : World) {q : Nat} {G : List Nat} {A : Option Addr} {m c : Nat} {x y : Int} {l : List FlD} (h : Fls w w q G A m c x y l) (t : TupD) (hm : m ≤ 1000) :
    Calls Tryz.prog 46 #[.pointer (some ⟨q, 0, none⟩), .agg #[.int .u32 (t.src.toNat : Nat), .int .u32 (t.dst.toNat : Nat), .int .i64 t.proto, .int .i64 t.sport, .int .i64 t.dport]] w fun e w' => FlDropPost w q x y l t e w' := by
  have H := Lib.hid h
  have hl := h.arr.len
  unfold maxLen at hl
  obtain ⟨hl1, hl2, hl3, hl4⟩ := hl
  have X0 := Lib.hid (Blk.new w 39 #[.int .u32 (t.src.toNat : Nat), .int .u32 (t.dst.toNat : Nat), .int .i64 t.proto, .int .i64 t.sport, .int .i64 t.dport])
  have K0 := Lib.hid ((Kept.refl [] w).alloc (.cells #[.int .u32 (t.src.toNat : Nat), .int .u32 (t.dst.toNat : Nat), .int .i64 t.proto, .int .i64 t.sport, .int .i64 t.dport] 39))
  have hqlt := h.blk.lt
  have AT := Lib.hid (fun w' (hk : Kept [] w w') => at_any w' l t (h.blk.kept hk (by simp)) (FlArr.kept h.arr hk (by simp)))
  have HLN := Lib.hid hl1
  clear h
  rcases at_cases l t with ⟨hat, _⟩ | ⟨i, hi, hat, ht1, ht2⟩
  · have HA := Lib.hid hat
    clear hat hl1 hl4
    go_enter Tryz.func46, Tryz.ntmps46
    go_wp2_with (go_at_call 87
                 refine (AT.out _ K0.out).mono ?_
                 rintro e w1 ⟨rfl, hk1⟩
                 rw [HA.out]
                 have K1 := Lib.hid (K0.out.trans hk1 (by simp))
                 clear hk1)
    go_ret
    exact .inl ⟨HA.out, rfl, K1.out⟩
  · have HA := Lib.hid hat
    have him : i < m := by rw [← hl1]; exact hi
    have HI := Lib.hid hi
    have i0 : ¬ ((i : Int) < 0) := by omega
    have i0' : (0 : Int) ≤ (i : Int) := by omega
    have i1 : (i : Int) ≤ (m : Int) := by omega
    have i2 : (i : Int) ≤ (c : Int) := by omega
    have iw : IntKind.i64.wrap ((i : Int) + 1) = ((i + 1 : Nat) : Int) := (IntWalk.i64_in _ (by omega)).trans (by omega)
    have i5 : (0 : Int) ≤ (i : Int) + 1 := by omega
    have i6 : (i : Int) ≤ (i : Int) + 1 := by omega
    have i7 : (i : Int) + 1 ≤ (m : Int) := by omega
    have i8 : (i : Int) + 1 ≤ (c : Int) := by omega
    have i9 : 0 ≤ (i : Int) + 1 ∧ (i : Int) + 1 ≤ (m : Int) := ⟨i5, i7⟩
    obtain ⟨g, o, rfl, hgs⟩ : ∃ g o, A = some ⟨g, o, none⟩ ∧ g < w.heap.size := by
      obtain ⟨g, o, e, hg, _⟩ := H.out.arr.at (k := i) hi
      exact ⟨g, o, e, hg⟩
    clear ht1 ht2
    clear hat hl1 hl4 hi
    by_cases hc : c = i + 1
    · subst hc
      have hmi : m = i + 1 := by omega
      go_enter Tryz.func46, Tryz.ntmps46
      go_wp2_with (go_at_call 87
                   refine (AT.out _ K0.out).mono ?_
                   rintro e w1 ⟨rfl, hk1⟩
                   rw [HA.out]
                   have K1 := Lib.hid (K0.out.trans hk1 (by simp))
                   have B1 := Lib.hid (H.out.blk.kept K1.out (by simp))
                   have hq1 := B1.out.cell
                   have hf1 := B1.out.frozen
                   have hl1 : q < w1.heap.size := B1.out.lt
                   clear hk1)
      have KD := Lib.hid (K1.out.drew)
      have N1 := Lib.hid (LV.nil KD.out : FlV w w1.drew (.slice none 0 0) [])
      have T1 := Lib.hid (arr_take (k := i) (FlArr.kept H.out.arr KD.out (by simp)) (by omega))
      have R1 := Lib.hid (by rw [List.drop_of_length_le (by have := HLN.out; omega)]; exact arr_zero w1.drew G 8 _ ⟨g, o, none⟩ 0 (by unfold maxLen; omega) : FlArr w1.drew G (.slice (some ⟨g, o, none⟩) 0 0) (l.drop (i + 1)))
      have HL1 := Lib.hid (show ([] : List FlD).length + (l.take i).length ≤ 100000 by have := HLN.out; simp; omega)
      have HL2 := Lib.hid (show ([] ++ l.take i : List FlD).length + (l.drop (i + 1)).length ≤ 100000 by have := HLN.out; simp; omega)
      go_region_law ((first
        | (refine step_lvs (W := w) (w0 := w1.drew) (sl := .slice none 0 0) (l := []) (l2 := l.take i) FlOk elem_flow (fun h => h) (by omega) rfl (.const (.slice none 0 0)) (.tmp 17) rfl (by first | (simp [Act.eval]; done) | (simp [Act.eval]; rfl) | rfl) N1.out (by first | (simp [Act.eval]; done) | (simp [Act.eval]; rfl) | rfl) T1.out HL1.out ?_
           intro A9 m9 c9 w9 h9 k9 r9
           go_must (have K9 := Lib.hid (Kept.trans (S := []) ((Kept.refl [] w1).drew) (show Kept [] w1.drew w9 from k9) (by simp)))
           go_must (have B9 := Lib.hid (B1.out.kept K9.out (by simp)))
           go_must (have hq9 := B9.out.cell)
           go_must (have hf9 := B9.out.frozen)
           go_must (have hl9 : q < w9.heap.size := B9.out.lt)
           go_must (have R9 := Lib.hid (FlArr.kept R1.out (show Kept [] w1.drew w9 from k9) (by simp)))
           have H9 := Lib.hid h9
           clear h9 k9 r9)
        | (refine step_lvs (W := w) (w0 := w9) (sl := .slice A9 m9 c9) (l := [] ++ l.take i) (l2 := l.drop (i + 1)) FlOk elem_flow (fun h => h) (by omega) rfl (.tmp 18) (.tmp 25) rfl (by first | (simp [Act.eval]; done) | (simp [Act.eval]; rfl) | rfl) H9.out (by first | (simp [Act.eval]; done) | (simp [Act.eval]; rfl) | rfl) R9.out HL2.out ?_
           intro A10 m10 c10 w10 h10 k10 r10
           go_must (have B10 := Lib.hid (B9.out.kept k10 (fun hm => lv_far H9.out B9.out (by decide) q hm (by simp))))
           go_must (have hq10 := B10.out.cell)
           go_must (have hf10 := B10.out.frozen)
           go_must (have hl10 : q < w10.heap.size := B10.out.lt)
           go_must (have K10 := Lib.hid (LV.kept h10))
           have H10 := Lib.hid h10
           clear h10 k10 r10)))
      all_goals
        go_wp2
        go_ret
        obtain ⟨b1, b2⟩ := lv_row FlOk (fun h => h) H10.out
        have hks := (Kept.refl [q] w10).setCell (p := ⟨q, 0, none⟩) (.inl (by simp)) (.slice A10 m10 c10)
        refine .inr ⟨i, HI.out, HA.out, rfl, (K10.out.mono (T := [q]) (by simp)).trans hks (by simp), A10, m10, c10, ?_, _, FlArr.kept (by rw [List.nil_append] at b1; exact b1) hks (fun k hk hm => by have := (b2 k hk).1; simp at hm; omega), fun k hk => ⟨(b2 k hk).1, Nat.lt_of_lt_of_le (b2 k hk).2 hks.size⟩⟩
        have := B10.out.set 0 (.slice A10 m10 c10)
        simpa using this
    · have hc2 : ¬ (i + 1 = c) := fun e => hc e.symm
      go_enter Tryz.func46, Tryz.ntmps46
      go_wp2_with (go_at_call 87
                   refine (AT.out _ K0.out).mono ?_
                   rintro e w1 ⟨rfl, hk1⟩
                   rw [HA.out]
                   have K1 := Lib.hid (K0.out.trans hk1 (by simp))
                   have B1 := Lib.hid (H.out.blk.kept K1.out (by simp))
                   have hq1 := B1.out.cell
                   have hf1 := B1.out.frozen
                   have hl1 : q < w1.heap.size := B1.out.lt
                   clear hk1)
      have KD := Lib.hid (K1.out.drew)
      have N1 := Lib.hid (LV.nil KD.out : FlV w w1.drew (.slice none 0 0) [])
      have T1 := Lib.hid (arr_take (k := i) (FlArr.kept H.out.arr KD.out (by simp)) (by omega))
      have R1 := Lib.hid (arr_drop (k := i + 1) (FlArr.kept H.out.arr KD.out (by simp)) (by omega) : FlArr w1.drew G (.slice (some ⟨g, o + (i + 1) * 8, none⟩) (m - (i + 1)) (c - (i + 1))) (l.drop (i + 1)))
      have HL1 := Lib.hid (show ([] : List FlD).length + (l.take i).length ≤ 100000 by have := HLN.out; simp; omega)
      have HL2 := Lib.hid (show ([] ++ l.take i : List FlD).length + (l.drop (i + 1)).length ≤ 100000 by have := HLN.out; simp; omega)
      go_region_law ((first
        | (refine step_lvs (W := w) (w0 := w1.drew) (sl := .slice none 0 0) (l := []) (l2 := l.take i) FlOk elem_flow (fun h => h) (by omega) rfl (.const (.slice none 0 0)) (.tmp 17) rfl (by first | (simp [Act.eval]; done) | (simp [Act.eval]; rfl) | rfl) N1.out (by first | (simp [Act.eval]; done) | (simp [Act.eval]; rfl) | rfl) T1.out HL1.out ?_
           intro A9 m9 c9 w9 h9 k9 r9
           go_must (have K9 := Lib.hid (Kept.trans (S := []) ((Kept.refl [] w1).drew) (show Kept [] w1.drew w9 from k9) (by simp)))
           go_must (have B9 := Lib.hid (B1.out.kept K9.out (by simp)))
           go_must (have hq9 := B9.out.cell)
           go_must (have hf9 := B9.out.frozen)
           go_must (have hl9 : q < w9.heap.size := B9.out.lt)
           go_must (have R9 := Lib.hid (FlArr.kept R1.out (show Kept [] w1.drew w9 from k9) (by simp)))
           have H9 := Lib.hid h9
           clear h9 k9 r9)
        | (refine step_lvs (W := w) (w0 := w9) (sl := .slice A9 m9 c9) (l := [] ++ l.take i) (l2 := l.drop (i + 1)) FlOk elem_flow (fun h => h) (by omega) rfl (.tmp 18) (.tmp 25) rfl (by first | (simp [Act.eval]; done) | (simp [Act.eval]; rfl) | rfl) H9.out (by first | (simp [Act.eval]; done) | (simp [Act.eval]; rfl) | rfl) R9.out HL2.out ?_
           intro A10 m10 c10 w10 h10 k10 r10
           go_must (have B10 := Lib.hid (B9.out.kept k10 (fun hm => lv_far H9.out B9.out (by decide) q hm (by simp))))
           go_must (have hq10 := B10.out.cell)
           go_must (have hf10 := B10.out.frozen)
           go_must (have hl10 : q < w10.heap.size := B10.out.lt)
           go_must (have K10 := Lib.hid (LV.kept h10))
           have H10 := Lib.hid h10
           clear h10 k10 r10)))
      all_goals
        go_wp2
        go_ret
        obtain ⟨b1, b2⟩ := lv_row FlOk (fun h => h) H10.out
        have hks := (Kept.refl [q] w10).setCell (p := ⟨q, 0, none⟩) (.inl (by simp)) (.slice A10 m10 c10)
        refine .inr ⟨i, HI.out, HA.out, rfl, (K10.out.mono (T := [q]) (by simp)).trans hks (by simp), A10, m10, c10, ?_, _, FlArr.kept (by rw [List.nil_append] at b1; exact b1) hks (fun k hk hm => by have := (b2 k hk).1; simp at hm; omega), fun k hk => ⟨(b2 k hk).1, Nat.lt_of_lt_of_le (b2 k hk).2 hks.size⟩⟩
        have := B10.out.set 0 (.slice A10 m10 c10)
        simpa using this
end
section
open Go.RowKit Go.ChangeShapes Go.WideShapes Go.ChangeAt Go.Deep Go.MapKept
theorem wpList_lvs {α : Type} {n bytes : Nat} {e t : TypeId} {Dec : World → List Nat → List Value → α → Prop} (D : DecOk n Dec) (E : Elem Tryz.prog t e n bytes) (hD : ∀ {w w' : World} {G G' : List Nat} {cs : List Value} {a : α}, Dec w G cs a → Dec w' G' cs a) (hby : bytes ≤ 1000)
    {ops : Array Oper} {rest : List Oper} {o : Oper} {a : Act} {Q : Exit → Act → World → Prop} {w0 : World} (hgd : o.guard = none) (s x : Operand)
    (ho : o.op = .call { callee := .builtin .append, args := #[s, x], argTypes := #[t, t] }) {W : World} {sl : Value} {l l2 : List α} {G : List Nat} {A : Option Addr} {m c : Nat}
    (hs : a.eval s = sl) (hN : LV Dec e n W w0 sl l) (hx : a.eval x = .slice A m c) (hb : ArrOf w0 G n (fun w => Dec w G) (.slice A m c) l2) (hl : l.length + l2.length ≤ 100000)
    (h : ∀ A' m' c' w', LV Dec e n W w' (.slice A' m' c') (l ++ l2) → Kept (rowOf sl) w0 w' → (∀ k ∈ rowOf sl, W.heap.size ≤ k ∧ k < w0.heap.size) → wpList Tryz.prog ops Q rest (a.put o.dst (.slice A' m' c')) w') : wpList Tryz.prog ops Q (o :: rest) a w0 := by
  obtain ⟨css, G1, h1⟩ := hN
  obtain ⟨A0, m0, c0, cs2, e0, l0, _, _, _, hd2, hlen2, hr2⟩ := ArrOf.decs hb
  injection e0 with e1 e2 e3
  subst e1 e2 e3
  have hD2 : Decs Dec w0 [] cs2 l2 := ⟨hd2.1, fun i cs b h1 h2 => hD (hd2.2 i cs b h1 h2)⟩
  have hfl : cs2.flatten.length = m * n := by rw [flat_len hlen2, hd2.1, l0]
  have hmul : (l.length + m) * bytes ≤ 100000 * 1000 := Nat.mul_le_mul (by omega) hby
  refine wpList_app _ hgd s x t ho E hs h1.own hx hr2 hfl (hD2.ones D) (by unfold maxLen; omega) (by omega) (fun v' w' ho' hk hr' => ?_)
  have hx := LVx.app D h1 (Kept.refl [] w0) hD2 (by simp) ho' (by rw [List.length_append, l0]) (by simp) hk hr'
  obtain ⟨A', m', c', rfl⟩ := Own.form' ho'
  exact h A' m' c' w' ⟨_, _, hx⟩ hk (fun k hk => ⟨h1.new k hk, h1.own.lt k hk⟩)
theorem getM_hit {l : List (Int × Int)} {b : Int} {j : Nat} (hj : j < l.length) (h1 : ∀ x ∈ l.take j, x.1 ≠ b) (h2 : l[j].1 = b) : getM l b = some l[j].2 := by
  conv => lhs; rw [← List.take_append_drop j l]
  rw [getM_append, getM_none.2 h1, ← List.getElem_cons_drop (h := hj), getM_cons, if_pos h2]
  rfl
structure Drs (w : World) (q : Nat) (G : List Nat) (A : Option Addr) (m c : Nat) (l : List (Int × Int)) : Prop where
  blk : Blk w q 105 #[.slice A m c]
  arr : DrArr w G (.slice A m c) l
  lt : ∀ k ∈ G, k < w.heap.size
  nq : q ∉ G
set_option maxHeartbeats 1600000 in
theorem Until_any (w : World) {q : Nat} {G : List Nat} {A : Option Addr} {m c : Nat} {l : List (Int × Int)} (h : Drs w q G A m c l) (b : Int) :
    Calls Tryz.prog 48 #[.pointer (some ⟨q, 0, none⟩), .int .i64 b] w fun e w' => e = .returned (.tuple #[.int .i64 ((getM l b).getD 0), .bool (getM l b).isSome]) ∧ Kept [] w w' := by
  have hl := h.arr.len
  unfold maxLen at hl
  obtain ⟨hl1, hl2, hl3, hl4⟩ := hl
  have H := Lib.hid h
  have A1 := Lib.hid hl1
  have hq0 := h.blk.cell
  have hqlt := h.blk.lt
  clear h hl1 hl4
  go_enter Tryz.func48, Tryz.ntmps48
  go_wp2
  go_loopg [13] m (fun gg i wr => ∃ j : Nat, j ≤ m ∧ gg = m - j ∧ i = .int .i64 j ∧ (∀ x ∈ l.take j, x.1 ≠ b) ∧ Kept [] w wr)
  case atStart => exact ⟨0, by omega, by omega, rfl, by simp, Kept.refl _ _⟩
  case round =>
    obtain ⟨j, hj, rfl, rfl, hs, hkw⟩ := hrel
    have Hs := Lib.hid hs
    have Hkw := Lib.hid hkw
    clear hs hkw
    by_cases hlt : j < m
    · have hkl : j < l.length := by rw [A1.out]; exact hlt
      obtain ⟨g, o, rfl, hg, hgG, c0, c1⟩ := (DrArr.kept H.out.arr Hkw.out (by simp)).at (k := j) hkl
      have Htk := Lib.hid (show l.take (j + 1) = l.take j ++ [l[j]] by rw [List.take_add_one, List.getElem?_eq_getElem hkl]; rfl)
      have Hhit := Lib.hid (fun h2 => getM_hit hkl Hs.out h2)
      generalize l[j]'hkl = d at *
      have i0 : (0 : Int) ≤ (j : Int) := by omega
      have i1 : (j : Int) < (m : Int) := by omega
      have iw : IntKind.i64.wrap ((j : Int) + 1) = (j : Int) + 1 := IntWalk.i64_in _ (by omega)
      by_cases hd : d.1 = b
      · have HG := Lib.hid (Hhit.out hd)
        have hd' : (d.1 == b) = true := by simp [hd]
        clear hd
        go_wp2_with (((with_reducible show wpList _ _ _ ({ dst := none, op := Op.store 118 (.tmp 7) (.tmp 16), type := _, pos := _, after := _, guard := _ } :: _) _ _); refine wpList_put (t := 118) rfl 118 (.tmp 7) (.tmp 16) rfl _ (by rfl) (by rfl) (by (repeat (first | (apply Blk.new'; simp; done) | apply Blk.alloc | apply Blk.drew))) (by rfl) (by kernel_rfl) (by simp [Value.oneCell']) ?_; intro w5 hb5 hk5; have Hb5 := Lib.hid hb5; have Hk5 := Lib.hid hk5; clear hb5 hk5)
                     have K5 := Lib.hid (Hkw.out.trans (((Kept.refl [] wr).alloc _).trans Hk5.out (fun i hi => .inr (by simp at hi; omega))) (by simp))
                     have hx5 := Hb5.out.cell)
        go_ret2
        exact ⟨by rw [HG.out]; rfl, K5.out⟩
      · have HD := Lib.hid hd
        have hd' : (d.1 == b) = false := by simp [hd]
        clear hd
        go_wp2_with (((with_reducible show wpList _ _ _ ({ dst := none, op := Op.store 118 (.tmp 7) (.tmp 16), type := _, pos := _, after := _, guard := _ } :: _) _ _); refine wpList_put (t := 118) rfl 118 (.tmp 7) (.tmp 16) rfl _ (by rfl) (by rfl) (by (repeat (first | (apply Blk.new'; simp; done) | apply Blk.alloc | apply Blk.drew))) (by rfl) (by kernel_rfl) (by simp [Value.oneCell']) ?_; intro w5 hb5 hk5; have Hb5 := Lib.hid hb5; have Hk5 := Lib.hid hk5; clear hb5 hk5)
                     have K5 := Lib.hid (Hkw.out.trans (((Kept.refl [] wr).alloc _).trans Hk5.out (fun i hi => .inr (by simp at hi; omega))) (by simp))
                     have hx5 := Hb5.out.cell)
        go_roundg (m - (j + 1))
        case measure => omega
        case rel =>
          refine ⟨j + 1, by omega, rfl, by go_num, fun x hx => ?_, K5.out⟩
          rw [Htk.out, List.mem_append] at hx
          rcases hx with hx | hx
          · exact Hs.out x hx
          · rw [List.mem_singleton] at hx
            rw [hx]
            exact HD.out
    · obtain rfl : m = j := by omega
      have i1 : ¬ (m : Int) < (m : Int) := by omega
      have hres := Lib.hid (show getM l b = none from getM_none.2 (by
        have := Hs.out
        rwa [List.take_of_length_le (by rw [A1.out]; exact Nat.le_refl _)] at this))
      go_wp2
      go_ret2
      exact ⟨by rw [hres.out]; rfl, Hkw.out⟩
def DrClearPost (w : World) (q : Nat) (l : List (Int × Int)) (b : Int) (e : Ending) (w' : World) : Prop :=
  (∃ t : Bool, e = .returned (.bool t)) ∧ Kept [q] w w' ∧ ∃ A' m' c', Blk w' q 105 #[.slice A' m' c'] ∧ ∃ G', DrArr w' G' (.slice A' m' c') (delM l b) ∧ ∀ k ∈ G', w.heap.size ≤ k ∧ k < w'.heap.size
theorem delM_snoc (l : List (Int × Int)) (d : Int × Int) (b : Int) : delM (l ++ [d]) b = delM l b ++ (if d.1 = b then [] else [d]) := by
  unfold delM
  rw [List.filter_append]
  by_cases h : d.1 = b <;> simp [h]
set_option maxHeartbeats 1600000 in
theorem Clear_any (w : World) {q : Nat} {G : List Nat} {A : Option Addr} {m c : Nat} {l : List (Int × Int)} (h : Drs w q G A m c l) (b : Int) (hm : m ≤ 1000) :
    Calls Tryz.prog 50 #[.pointer (some ⟨q, 0, none⟩), .int .i64 b] w fun e w' => DrClearPost w q l b e w' := by
  have hl := h.arr.len
  unfold maxLen at hl
  obtain ⟨hl1, hl2, hl3, hl4⟩ := hl
  have H := Lib.hid h
  have A1 := Lib.hid hl1
  have hq0 := h.blk.cell
  have hqlt := h.blk.lt
  clear h hl1 hl4
  go_enter Tryz.func50, Tryz.ntmps50
  go_wp2
  go_loopg [5, 14] m (fun gg s i wr => ∃ (j : Nat) (A : Option Addr) (m1 c1 : Nat), j ≤ m ∧ gg = m - j ∧ s = .slice A m1 c1 ∧ i = .int .i64 j ∧ DrV w wr (.slice A m1 c1) (delM (l.take j) b))
  case atStart => exact ⟨0, _, _, _, by omega, by omega, rfl, rfl, LV.nil (Kept.refl _ _)⟩
  case round =>
    obtain ⟨j, As, ms, cs, hj, rfl, rfl, rfl, hv⟩ := hrel
    have Hv := Lib.hid hv
    have Hkw := Lib.hid (LV.kept hv)
    have hsz := Hkw.out.size
    clear hv
    by_cases hlt : j < m
    · have hkl : j < l.length := by rw [A1.out]; exact hlt
      obtain ⟨g, o, rfl, hg, hgG, c0, c1⟩ := (DrArr.kept H.out.arr Hkw.out (by simp)).at (k := j) hkl
      have Htk := Lib.hid (show delM (l.take (j + 1)) b = delM (l.take j) b ++ (if l[j].1 = b then [] else [l[j]]) by rw [List.take_add_one, List.getElem?_eq_getElem hkl]; exact delM_snoc _ _ _)
      have hll : (delM (l.take j) b).length + [l[j]].length ≤ 100000 := by
        have h1 := del_len_le (l.take j) b
        rw [List.length_take] at h1
        simp
        omega
      have HLL := Lib.hid hll
      clear hll
      generalize l[j]'hkl = d at *
      have i0 : (0 : Int) ≤ (j : Int) := by omega
      have i1 : (j : Int) < (m : Int) := by omega
      have iw : IntKind.i64.wrap ((j : Int) + 1) = (j : Int) + 1 := IntWalk.i64_in _ (by omega)
      by_cases hd : d.1 = b
      · have HD := Lib.hid hd
        have hd' : (d.1 == b) = true := by simp [hd]
        have hd2 : (d.1 != b) = false := by simp [hd]
        clear hd
        go_wp2_with (((with_reducible show wpList _ _ _ ({ dst := none, op := Op.store 118 (.tmp 7) (.tmp 17), type := _, pos := _, after := _, guard := _ } :: _) _ _); refine wpList_put (t := 118) rfl 118 (.tmp 7) (.tmp 17) rfl _ (by rfl) (by rfl) (by (repeat (first | (apply Blk.new'; simp; done) | apply Blk.alloc | apply Blk.drew))) (by rfl) (by kernel_rfl) (by simp [Value.oneCell']) ?_; intro w5 hb5 hk5; have Hb5 := Lib.hid hb5; have Hk5 := Lib.hid hk5; clear hb5 hk5)
                     have K5 := Lib.hid (((Kept.refl [] wr).alloc _).trans Hk5.out (fun i hi => .inr (by simp at hi; omega)))
                     have hx5 := Hb5.out.cell)
        go_roundg (m - (j + 1))
        case measure => omega
        case rel => exact ⟨j + 1, _, _, _, by omega, rfl, rfl, by go_num, by rw [Htk.out, if_pos HD.out, List.append_nil]; exact LV.go DrOk Hv.out K5.out⟩
      · have HD := Lib.hid hd
        have hd' : (d.1 == b) = false := by simp [hd]
        have hd2 : (d.1 != b) = true := by simp [hd]
        clear hd
        go_wp2_with (first
          | (((with_reducible show wpList _ _ _ ({ dst := none, op := Op.store 118 (.tmp 7) (.tmp 17), type := _, pos := _, after := _, guard := _ } :: _) _ _); refine wpList_put (t := 118) rfl 118 (.tmp 7) (.tmp 17) rfl _ (by rfl) (by rfl) (by (repeat (first | (apply Blk.new'; simp; done) | apply Blk.alloc | apply Blk.drew))) (by rfl) (by kernel_rfl) (by simp [Value.oneCell']) ?_; intro w5 hb5 hk5; have Hb5 := Lib.hid hb5; have Hk5 := Lib.hid hk5; clear hb5 hk5)
             have K5 := Lib.hid (((Kept.refl [] wr).alloc _).trans Hk5.out (fun i hi => .inr (by simp at hi; omega)))
             have hx5 := Hb5.out.cell)
          | (at_builtin
             have hN7 := LV.go DrOk Hv.out (K5.out.alloc (.cells #[.int .i64 d.1, .int .i64 d.2] 118))
             apply wpList_lvs (l2 := [d]) DrOk elem_drain (fun h => h) (by omega) rfl (.tmp 22) (.tmp 24) rfl
             case hs => exact rfl
             case hN => exact hN7
             case hx => exact rfl
             case hb => exact arr_blk (Blk.new _ _ _) rfl rfl
             case hl => exact HLL.out
             intro A7 m7 c7 w7 h7 k7 r7
             have V7 := Lib.hid h7
             clear h7 k7 r7 hN7))
        go_roundg (m - (j + 1))
        case measure => omega
        case rel => exact ⟨j + 1, _, _, _, by omega, rfl, rfl, by go_num, by rw [Htk.out, if_neg HD.out]; exact V7.out⟩
    · obtain rfl : m = j := by omega
      have i1 : ¬ (m : Int) < (m : Int) := by omega
      have B1 := Lib.hid (H.out.blk.kept Hkw.out (by simp))
      have hq1 := B1.out.cell
      have hf1 := B1.out.frozen
      have hl1 := B1.out.lt
      have HV := Lib.hid (show DrV w wr (.slice As ms cs) (delM l b) by
        have := Hv.out
        rwa [List.take_of_length_le (by rw [A1.out]; exact Nat.le_refl _)] at this)
      go_wp2
      go_ret
      obtain ⟨b1, b2⟩ := lv_row DrOk (fun h => h) HV.out
      have hks := (Kept.refl [q] wr).setCell (p := ⟨q, 0, none⟩) (.inl (by simp)) (.slice As ms cs)
      refine ⟨⟨_, rfl⟩, (Hkw.out.mono (T := [q]) (by simp)).trans hks (by simp), As, ms, cs, ?_, _, DrArr.kept b1 hks (fun k hk hm => by have := (b2 k hk).1; simp at hm; omega), fun k hk => ⟨(b2 k hk).1, Nat.lt_of_lt_of_le (b2 k hk).2 hks.size⟩⟩
      have := B1.out.set 0 (.slice As ms cs)
      simpa using this
end
end Go.Proofs.YtkacghjglicjiaaGreat
