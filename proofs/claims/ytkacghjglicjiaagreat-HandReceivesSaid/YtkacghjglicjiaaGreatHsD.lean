/-
  The hand-off: is a row of records whole? the state that records make.
-/
import Derived.Test.YtkacghjglicjiaaGreatSvB
import Derived.Test.YtkacghjglicjiaaGreatRecE
import Derived.Test.YtkacghjglicjiaaGreatHsB
import Derived.Laws.EntriesVeiled
namespace Go.Proofs.YtkacghjglicjiaaGreat
set_option linter.unusedVariables false
section
open Go.RowKit Go.ChangeShapes Go.WideShapes Go.ChangeAt Go.Deep Go.MapKept
theorem endF_any (w : World) (r : RecD) (sl : Value) : Calls Tryz.prog 75 #[.agg #[.int .i64 r.kind, .int .u32 (r.tup.src.toNat : Nat), .int .u32 (r.tup.dst.toNat : Nat), .int .i64 r.tup.proto, .int .i64 r.tup.sport, .int .i64 r.tup.dport, .int .i64 r.fb, .int .i64 r.fg, .int .i64 r.fs, .int .i64 r.gen, sl, .int .i64 r.back, .int .i64 r.until_, .int .i64 r.count]] w fun e w' => e = .returned (.bool (decide (r.kind = 6))) ∧ Kept [] w w' := by
  have X0 := Lib.hid (Blk.new w 43 #[.int .i64 r.kind, .int .u32 (r.tup.src.toNat : Nat), .int .u32 (r.tup.dst.toNat : Nat), .int .i64 r.tup.proto, .int .i64 r.tup.sport, .int .i64 r.tup.dport, .int .i64 r.fb, .int .i64 r.fg, .int .i64 r.fs, .int .i64 r.gen, sl, .int .i64 r.back, .int .i64 r.until_, .int .i64 r.count])
  have K0 := Lib.hid ((Kept.refl [] w).alloc (.cells #[.int .i64 r.kind, .int .u32 (r.tup.src.toNat : Nat), .int .u32 (r.tup.dst.toNat : Nat), .int .i64 r.tup.proto, .int .i64 r.tup.sport, .int .i64 r.tup.dport, .int .i64 r.fb, .int .i64 r.fg, .int .i64 r.fs, .int .i64 r.gen, sl, .int .i64 r.back, .int .i64 r.until_, .int .i64 r.count] 43))
  have hx0 := X0.out.cell
  go_enter Tryz.func75, Tryz.ntmps75
  by_cases hk : r.kind = 6
  · have b6 : (r.kind == 6) = true := by simp [hk]
    have hd : decide (r.kind = 6) = true := by simp [hk]
    rw [hd]
    clear hk hd
    go_wp2
    go_ret
    exact ⟨rfl, K0.out⟩
  · have b6 : (r.kind == 6) = false := by simp [hk]
    have hd : decide (r.kind = 6) = false := by simp [hk]
    rw [hd]
    clear hk hd
    go_wp2
    go_ret
    exact ⟨rfl, K0.out⟩
set_option maxRecDepth 100000 in
set_option maxHeartbeats 1600000 in
theorem indexR_any (w : World) {G : List Nat} {A : Option Addr} {m c : Nat} (l : List RecD) (h : RecArr w G (.slice A m c) l) :
    Calls Tryz.prog 120 #[.slice A m c, .func (.func 75) #[] #[]] w fun e w' => (∃ i : Int, e = .returned (.int .i64 i) ∧ (decide (0 ≤ i) = l.any fun r => decide (r.kind = 6))) ∧ Kept [] w w' := by
  obtain ⟨a1, a2, a3, a4⟩ := h.len
  have H := Lib.hid h
  have A1 := Lib.hid a1
  clear h a1 a4
  unfold maxLen at a3
  go_enter Tryz.func120, Tryz.ntmps120
  go_wp2
  go_loopg [8] m (fun g i wr => ∃ k : Nat, k ≤ m ∧ g = m - k ∧ i = .int .i64 k ∧ (l.any fun r => decide (r.kind = 6)) = ((l.drop k).any fun r => decide (r.kind = 6)) ∧ Kept [] w wr)
  case atStart => exact ⟨0, by omega, by omega, rfl, by simp, Kept.refl _ _⟩
  case round =>
    obtain ⟨k, hk, rfl, rfl, hs, hkw⟩ := hrel
    have Hs := Lib.hid hs
    have Hkw := Lib.hid hkw
    clear hs hkw
    by_cases hlt : k < m
    · have hkl : k < l.length := by rw [A1.out]; exact hlt
      obtain ⟨g, o, B, n, d, rfl, hg, hgG, hat, hbk⟩ := (RecArr.kept H.out Hkw.out (by simp)).at (k := k) hkl
      have Hd := Lib.hid (show ((l.drop k).any fun r => decide (r.kind = 6)) = (decide (l[k].kind = 6) || (l.drop (k + 1)).any fun r => decide (r.kind = 6)) by rw [← List.getElem_cons_drop (h := hkl)]; rfl)
      generalize l[k]'hkl = r at *
      clear hkl hbk
      obtain ⟨c0, c1', c2', c3', c4, c5', c6, c7', c8, c9, c10, c11, c12, c13⟩ := hat
      have i0 : (0 : Int) ≤ (k : Int) := by omega
      have i1 : (k : Int) < (m : Int) := by omega
      have iw : IntKind.i64.wrap ((k : Int) + 1) = (k : Int) + 1 := IntWalk.i64_in _ (by omega)
      cases hb : decide (r.kind = 6)
      · have HB := Lib.hid hb
        have hres := Lib.hid (show (l.any fun r => decide (r.kind = 6)) = ((l.drop (k + 1)).any fun r => decide (r.kind = 6)) by rw [Hs.out, Hd.out, hb]; rfl)
        clear hb
        go_wp2_with (first
          | (go_at_call 75
             refine (endF_any _ r _).mono ?_
             rintro e w2 ⟨rfl, hk2⟩
             rw [HB.out]
             have Hk2 := Lib.hid hk2
             clear hk2))
        go_roundg (m - (k + 1))
        case measure => omega
        case rel => exact ⟨k + 1, by omega, rfl, by go_num, hres.out, Hkw.out.trans Hk2.out (by simp)⟩
      · have HB := Lib.hid hb
        have hres := Lib.hid (show (l.any fun r => decide (r.kind = 6)) = true by rw [Hs.out, Hd.out, hb]; rfl)
        clear hb
        go_wp2_with (first
          | (go_at_call 75
             refine (endF_any _ r _).mono ?_
             rintro e w2 ⟨rfl, hk2⟩
             rw [HB.out]
             have Hk2 := Lib.hid hk2
             clear hk2))
        go_ret
        exact ⟨⟨k, rfl, by rw [hres.out]; simp⟩, Hkw.out.trans Hk2.out (by simp)⟩
    · have hres := Lib.hid (show (l.any fun r => decide (r.kind = 6)) = false by rw [Hs.out, List.drop_of_length_le (by rw [A1.out]; omega)]; rfl)
      have i1 : ¬ (k : Int) < (m : Int) := by omega
      go_wp2
      go_ret
      exact ⟨⟨-1, rfl, by rw [hres.out]; simp⟩, Hkw.out⟩
set_option maxHeartbeats 800000 in
theorem containsR_any (w : World) {G : List Nat} {A : Option Addr} {m c : Nat} (l : List RecD) (h : RecArr w G (.slice A m c) l) :
    Calls Tryz.prog 74 #[.slice A m c, .func (.func 75) #[] #[]] w fun e w' => e = .returned (.bool (l.any fun r => decide (r.kind = 6))) ∧ Kept [] w w' := by
  have IX := Lib.hid (indexR_any w l h)
  obtain ⟨b, hb⟩ : ∃ b, (l.any fun r => decide (r.kind = 6)) = b := ⟨_, rfl⟩
  rw [hb] at IX ⊢
  clear h hb
  go_enter Tryz.func74, Tryz.ntmps74
  go_wp2_with fail
  refine IX.out.mono ?_
  rintro e w1 ⟨⟨i, rfl, hi⟩, hk⟩
  have Hi := Lib.hid hi
  have Hk := Lib.hid hk
  clear hi hk
  go_wp2
  go_ret
  exact ⟨ret_bool Hi.out, Hk.out⟩
end
section
open Go.RowKit Go.ChangeShapes Go.WideShapes Go.ChangeAt Go.Deep Go.MapKept
theorem whole_short {l : List RecD} (h : l.length < 2) : wholeB l = false := by
  unfold wholeB
  rw [decide_eq_false (by omega)]
  rfl
theorem whole_long {l : List RecD} {n : Nat} (h : l.length = n + 1) (h1 : 1 ≤ n) {r : RecD} (hr : l[n]? = some r) : wholeB l = (decide (r.kind = 6) && (decide (r.count = (n : Nat)) && !((l.take n).any fun r => decide (r.kind = 6)))) := by
  unfold wholeB
  rw [h, Nat.add_sub_cancel, List.getD_eq_getElem?_getD, hr, Option.getD_some, decide_eq_true (by omega), Bool.true_and, List.not_any_eq_all_not]
set_option maxRecDepth 100000 in
set_option maxHeartbeats 3200000 in
theorem whole_any (w : World) {G : List Nat} {A : Option Addr} {m c : Nat} (l : List RecD) (h : RecArr w G (.slice A m c) l) :
    Calls Tryz.prog 35 #[.slice A m c] w fun e w' => e = .returned (.bool (wholeB l)) ∧ Kept [] w w' := by
  obtain ⟨a1, a2, a3, a4⟩ := h.len
  unfold maxLen at a3
  have H := Lib.hid h
  have A1 := Lib.hid a1
  clear h a1 a4
  go_enter Tryz.func35, Tryz.ntmps35
  by_cases h2 : m < 2
  · have hres := Lib.hid (whole_short (l := l) (by rw [A1.out]; exact h2))
    have iw : IntKind.i64.wrap ((m : Int) - 1) = (m : Int) - 1 := IntWalk.i64_in _ (by omega)
    have i1 : (m : Int) - 1 < 1 := by omega
    go_wp2
    go_ret
    exact ⟨ret_bool hres.out.symm, Kept.refl _ _⟩
  · obtain ⟨n, rfl⟩ : ∃ n, m = n + 1 := ⟨m - 1, by omega⟩
    have hkl : n < l.length := by rw [A1.out]; omega
    obtain ⟨g, o, B, bn, d, rfl, hg, hgG, hat, hbk⟩ := H.out.at (k := n) hkl
    have hw := whole_long (l := l) (n := n) A1.out (by omega) (List.getElem?_eq_getElem hkl)
    have HT := Lib.hid (arr_take (k := n) H.out (by omega))
    generalize l[n]'hkl = r at *
    have HW := Lib.hid hw
    obtain ⟨c0, c1', c2', c3', c4, c5', c6, c7', c8, c9, c10, c11, c12, c13⟩ := hat
    have iw : IntKind.i64.wrap ((n : Int) + 1 - 1) = (n : Int) := by rw [Int.add_sub_cancel]; exact IntWalk.i64_in _ (by omega)
    have iw2 : IntKind.i64.wrap (n : Int) = (n : Int) := IntWalk.i64_in _ (by omega)
    have i1 : ¬ (n : Int) < 1 := by omega
    have i0 : (0 : Int) ≤ (n : Int) := by omega
    have i2 : (n : Int) < (n : Int) + 1 := by omega
    have i3 : (n : Int) ≤ (c : Int) := by omega
    clear hw hkl hbk h2
    by_cases hk : r.kind = 6
    · have b1 : (r.kind != 6) = false := by simp [hk]
      by_cases hc : r.count = (n : Int)
      · have b2 : (r.count != (n : Int)) = false := by simp [hc]
        obtain ⟨b, hb⟩ : ∃ b, ((l.take n).any fun r => decide (r.kind = 6)) = b := ⟨_, rfl⟩
        have CT := Lib.hid (containsR_any w (l.take n) HT.out)
        have hres := Lib.hid (show wholeB l = !b by rw [HW.out, hk, hc, hb]; simp)
        rw [hb] at CT
        clear hk hc hb
        go_wp2_with (first
          | (go_at_call 74
             refine CT.out.mono ?_
             rintro e w2 ⟨rfl, hk2⟩
             have Hk2 := Lib.hid hk2
             clear hk2))
        go_ret
        exact ⟨ret_bool hres.out.symm, Hk2.out⟩
      · have b2 : (r.count != (n : Int)) = true := by simp [hc]
        have hres := Lib.hid (show wholeB l = false by rw [HW.out, decide_eq_false hc]; simp)
        clear hk hc
        go_wp2
        go_ret
        exact ⟨ret_bool hres.out.symm, Kept.refl _ _⟩
    · have b1 : (r.kind != 6) = true := by simp [hk]
      have hres := Lib.hid (show wholeB l = false by rw [HW.out, decide_eq_false hk]; rfl)
      clear hk
      go_wp2
      go_ret
      exact ⟨ret_bool hres.out.symm, Kept.refl _ _⟩
theorem sameRs_ne : ∀ {l l' : List RecD}, l.length ≠ l'.length → sameRs l l' = false
  | [], [], h => absurd rfl h
  | [], _ :: _, _ => rfl
  | _ :: _, [], _ => rfl
  | a :: l, b :: l', h => by
    unfold sameRs
    rw [sameRs_ne (l := l) (l' := l') (by simpa using h), Bool.and_false]
set_option maxRecDepth 100000 in
set_option maxHeartbeats 3200000 in
theorem EqualR_any (w : World) {G1 G2 : List Nat} {A B : Option Addr} {m c n d : Nat} (l l' : List RecD) (h1 : RecArr w G1 (.slice A m c) l) (h2 : RecArr w G2 (.slice B n d) l') (hG1 : ∀ k ∈ G1, k < w.heap.size) (hG2 : ∀ k ∈ G2, k < w.heap.size) (hb1 : ∀ r ∈ l, r.backs.length ≤ 1000) (hb2 : ∀ r ∈ l', r.backs.length ≤ 1000) :
    Calls Tryz.prog 76 #[.slice A m c, .slice B n d, .func (.func 77) #[] #[]] w fun e w' => e = .returned (.bool (sameRs l l')) ∧ Kept [] w w' := by
  obtain ⟨a1, a2, a3, a4⟩ := h1.len
  obtain ⟨b1, b2, b3, b4⟩ := h2.len
  have H1 := Lib.hid h1
  have H2 := Lib.hid h2
  have A1 := Lib.hid a1
  have B1 := Lib.hid b1
  have HG1 := Lib.hid hG1
  have HG2 := Lib.hid hG2
  have HL1 := Lib.hid hb1
  have HL2 := Lib.hid hb2
  clear h1 h2 a1 b1 a4 b4 hG1 hG2 hb1 hb2
  unfold maxLen at a3 b3
  go_enter Tryz.func76, Tryz.ntmps76
  by_cases hmn : m = n
  · subst hmn
    go_wp2
    go_loopg [17] m (fun gg i wr => ∃ k : Nat, k ≤ m ∧ gg = m - k ∧ i = .int .i64 k ∧ sameRs l l' = sameRs (l.drop k) (l'.drop k) ∧ Kept [] w wr)
    case atStart => exact ⟨0, by omega, by omega, rfl, by simp, Kept.refl _ _⟩
    case round =>
      obtain ⟨k, hk, rfl, rfl, hs, hkw⟩ := hrel
      have Hs := Lib.hid hs
      have Hkw := Lib.hid hkw
      clear hs hkw
      by_cases hlt : k < m
      · have hkl : k < l.length := by rw [A1.out]; exact hlt
        have hkl' : k < l'.length := by rw [B1.out]; exact hlt
        obtain ⟨g, o, B1v, n1, d1, rfl, hg, hgG, hat, hbk⟩ := (RecArr.kept H1.out Hkw.out (by simp)).at (k := k) hkl
        obtain ⟨g', o', B2v, n2, d2, rfl, hg', hgG', hat', hbk'⟩ := (RecArr.kept H2.out Hkw.out (by simp)).at (k := k) hkl'
        have HB1 := Lib.hid hbk
        have HB2 := Lib.hid hbk'
        have hn1 : n1 ≤ 1000 := by rw [← hbk.len.1]; exact HL1.out _ (List.getElem_mem hkl)
        have hn2 : n2 ≤ 1000 := by rw [← hbk'.len.1]; exact HL2.out _ (List.getElem_mem hkl')
        have Hd := Lib.hid (sameRs_drop (l := l) (l' := l') hkl hkl')
        have R2 := Lib.hid (RecArr.kept H2.out Hkw.out (by simp))
        clear hbk hbk'
        generalize l[k]'hkl = x at *
        generalize l'[k]'hkl' = y at *
        obtain ⟨c0, c1, c2, c3, c4, c5, c6, c7, c8, c9, c10, c11, c12, c13⟩ := hat
        have HY := Lib.hid hat'
        have i0 : (0 : Int) ≤ (k : Int) := by omega
        have i1 : (k : Int) < (m : Int) := by omega
        have iw : IntKind.i64.wrap ((k : Int) + 1) = (k : Int) + 1 := IntWalk.i64_in _ (by omega)
        obtain ⟨b, hb⟩ : ∃ b, sameR x y = b := ⟨_, rfl⟩
        have HE := Lib.hid hb
        rw [hb] at Hd
        clear hb hat'
        cases b
        all_goals
          go_wp2_with (first
            | (((with_reducible show wpList _ _ _ ({ dst := none, op := Op.store 43 (.tmp 8) (.tmp 21), type := _, pos := _, after := _, guard := _ } :: _) _ _); refine wpList_put (t := 43) rfl 43 (.tmp 8) (.tmp 21) rfl _ (by rfl) (by rfl) (by (repeat (first | (apply Blk.new'; simp; done) | apply Blk.alloc | apply Blk.drew))) (by rfl) (by kernel_rfl) (by simp [Value.oneCell']) ?_; intro w5 hb5 hk5; have Hb5 := Lib.hid hb5; have Hk5 := Lib.hid hk5; clear hb5 hk5)
               have K5 := Lib.hid (((Kept.refl [] wr).alloc _).trans Hk5.out (fun i hi => .inr (by simp at hi; omega)))
               have hx5 := Hb5.out.cell
               have hy5 := (show RecAt w5 g' (o' + k * 14) y (.slice B2v n2 d2) from by
                 obtain ⟨e0, e1, e2, e3, e4, e5, e6, e7, e8, e9, e10, e11, e12, e13⟩ := HY.out
                 have hq : ∀ j v, wr.cell? ⟨g', j, none⟩ = some v → w5.cell? ⟨g', j, none⟩ = some v := fun j v hv => (K5.out.cell (p := ⟨g', j, none⟩) (World.block_lt_of_cell? wr ⟨g', j, none⟩ hv) (by simp)).trans hv
                 exact ⟨hq _ _ e0, hq _ _ e1, hq _ _ e2, hq _ _ e3, hq _ _ e4, hq _ _ e5, hq _ _ e6, hq _ _ e7, hq _ _ e8, hq _ _ e9, hq _ _ e10, hq _ _ e11, hq _ _ e12, hq _ _ e13⟩)
               obtain ⟨e0, e1, e2, e3, e4, e5, e6, e7, e8, e9, e10, e11, e12, e13⟩ := hy5
               have hl5 : wr.heap.size < w5.heap.size := Hb5.out.lt
               clear c0 c1 c2 c3 c4 c5 c6 c7 c8 c9 c10 c11 c12 c13)
            | (((with_reducible show wpList _ _ _ ({ dst := none, op := Op.store 43 (.tmp 9) (.tmp 25), type := _, pos := _, after := _, guard := _ } :: _) _ _); refine wpList_put (t := 43) rfl 43 (.tmp 9) (.tmp 25) rfl _ (by rfl) (by rfl) (by (repeat (first | (apply Blk.new'; simp; done) | apply Blk.alloc | apply Blk.drew))) (by rfl) (by kernel_rfl) (by simp [Value.oneCell']) ?_; intro w6 hb6 hk6; have Hb6 := Lib.hid hb6; have Hk6 := Lib.hid hk6; clear hb6 hk6)
               have hk56 := (((Kept.refl [] w5).alloc _).trans Hk6.out (fun i hi => .inr (by simp at hi; omega)) : Kept [] w5 w6)
               have K6 := Lib.hid (K5.out.trans hk56 (by simp))
               have X6 := Lib.hid (Hb5.out.kept hk56 (by simp))
               have hx6 := X6.out.cell
               have hz6 := Hb6.out.cell
               clear hk56 hx5 e0 e1 e2 e3 e4 e5 e6 e7 e8 e9 e10 e11 e12 e13)
            | (go_at_call 77
               refine (SameR_any w6 x y (⟨BkArr.kept HB1.out K6.out (by simp), fun q hq => Nat.lt_of_lt_of_le (HG1.out q hq) (Hkw.out.trans K6.out (by simp)).size, by omega⟩ : SmallB w6 G1 B1v n1 d1 x.backs) (⟨BkArr.kept HB2.out K6.out (by simp), fun q hq => Nat.lt_of_lt_of_le (HG2.out q hq) (Hkw.out.trans K6.out (by simp)).size, by omega⟩ : SmallB w6 G2 B2v n2 d2 y.backs)).mono ?_
               rintro e w7 ⟨rfl, hk7⟩
               rw [HE.out]
               have K7 := Lib.hid (Hkw.out.trans (K6.out.trans hk7 (by simp)) (by simp))
               clear hk7 hx6 hz6))
        · have hres := Lib.hid (show sameRs l l' = false by rw [Hs.out, Hd.out]; rfl)
          go_ret
          exact ⟨ret_bool hres.out.symm, K7.out⟩
        · have hres := Lib.hid (show sameRs l l' = sameRs (l.drop (k + 1)) (l'.drop (k + 1)) by rw [Hs.out, Hd.out]; rfl)
          go_roundg (m - (k + 1))
          case measure => omega
          case rel => exact ⟨k + 1, by omega, rfl, by go_num, hres.out, K7.out⟩
      · have i1 : ¬ (k : Int) < (m : Int) := by omega
        have hres := Lib.hid (show sameRs l l' = true by rw [Hs.out, List.drop_of_length_le (by rw [A1.out]; omega), List.drop_of_length_le (by rw [B1.out]; omega)]; rfl)
        go_wp2
        go_ret
        exact ⟨ret_bool hres.out.symm, Hkw.out⟩
  · have hres := Lib.hid (show sameRs l l' = false from sameRs_ne (by rw [A1.out, B1.out]; exact hmn))
    have b1 : ((m : Int) != (n : Int)) = true := by simp; omega
    clear hmn
    go_wp2
    go_ret
    exact ⟨ret_bool hres.out.symm, Kept.refl _ _⟩
def MadePost (w : World) (l : List RecD) (e : Ending) (w' : World) : Prop :=
  Kept [] w w' ∧ (((runV nilV l).2 ≠ 0 ∧ e = .returned (.tuple #[.agg #[.int .i64 0, .slice none 0 0, .slice none 0 0, .slice none 0 0], .bool false])) ∨
    ((runV nilV l).2 = 0 ∧ ∃ A1 m1 c1 A2 m2 c2 A3 m3 c3 G', e = .returned (.tuple #[.agg #[.int .i64 (runV nilV l).1.gen, .slice A1 m1 c1, .slice A2 m2 c2, .slice A3 m3 c3], .bool (sameRs (recsV (runV nilV l).1) l)]) ∧ VA w' G' A1 m1 c1 A2 m2 c2 A3 m3 c3 (runV nilV l).1 ∧ ∀ k ∈ G', w.heap.size ≤ k))
set_option maxRecDepth 100000 in
set_option maxHeartbeats 6400000 in
theorem made_any (w : World) {G : List Nat} {A : Option Addr} {m c : Nat} (l : List RecD) (h : RecArr w G (.slice A m c) l) (hG : ∀ g ∈ G, g < w.heap.size) (hb : ∀ r ∈ l, r.backs.length ≤ 1000) :
    Calls Tryz.prog 36 #[.slice A m c] w fun e w' => MadePost w l e w' := by
  obtain ⟨a1, a2, a3, a4⟩ := h.len
  have H := Lib.hid h
  have HG := Lib.hid hG
  have L1 := Lib.hid a1
  have HBL := Lib.hid hb
  clear h a1 a4 hG hb
  unfold maxLen at a3
  have X0 := Lib.hid (Blk.new w 26 #[.int .i64 0, .slice none 0 0, .slice none 0 0, .slice none 0 0])
  have K0 := Lib.hid ((Kept.refl [] w).alloc (.cells #[.int .i64 0, .slice none 0 0, .slice none 0 0, .slice none 0 0] 26))
  go_enter Tryz.func36, Tryz.ntmps36
  go_upto_region 3 with (first
    | (go_at_call 51
       refine (New_p _).mono ?_
       rintro e w3 ⟨p, bd, bf, rfl, hn⟩
       have hsz := K0.out.size
       have P3 : Hid (StP w w3 p bd bf newS) := Lib.hid (by
         obtain ⟨Ax, mx, cx, hx⟩ := hn
         exact ⟨Ax, mx, cx, hx.blk, hx.md, hx.mf, LV.wide hx.bk K0.out, by have := hx.hp; omega, by have := hx.hd; omega, by have := hx.hf; omega, hx.ne⟩)
       have X3 := Lib.hid (X0.out.kept hn.kept (by simp))
       clear hn))
  clear X0 K0
  go_wp2
  go_loopg [13] m (fun gg i wr => ∃ (j : Nat) (S : StD), j ≤ m ∧ gg = m - j ∧ i = .int .i64 j ∧ OkS S ∧ runS newS l = runS S (l.drop j) ∧ StP w wr p bd bf S ∧ Blk wr w.heap.size 26 #[.int .i64 0, .slice none 0 0, .slice none 0 0, .slice none 0 0])
  case atStart => exact ⟨0, newS, by omega, by omega, rfl, OkS.new, by rw [List.drop_zero], P3.out, X3.out⟩
  case round =>
    clear P3 X3
    obtain ⟨j, S, hj, rfl, rfl, hok, hrun, hst, hbx⟩ := hrel
    have Ok := Lib.hid hok
    have Run := Lib.hid hrun
    have St := Lib.hid hst
    have Bx := Lib.hid hbx
    have hsw : w.heap.size < wr.heap.size := hbx.lt
    clear hok hrun hst hbx
    by_cases hlt : j < m
    · have hkl : j < l.length := by rw [L1.out]; exact hlt
      obtain ⟨g, o, B, n, d, rfl, hg, hgG, hat, hbk⟩ := (RecArr.kept H.out St.out.kept (by simp)).at (k := j) hkl
      have Hbk := Lib.hid hbk
      have hn1 : n ≤ 1000 := by rw [← hbk.len.1]; exact HBL.out _ (List.getElem_mem hkl)
      have Hdr := Lib.hid (drop_cons hkl)
      clear hbk
      generalize l[j]'hkl = r at *
      obtain ⟨c0, c1', c2', c3', c4, c5', c6, c7', c8, c9, c10, c11, c12, c13⟩ := hat
      have i0 : (0 : Int) ≤ (j : Int) := by omega
      have i1 : (j : Int) < (m : Int) := by omega
      have iw : IntKind.i64.wrap ((j : Int) + 1) = (j : Int) + 1 := IntWalk.i64_in _ (by omega)
      have AP := Lib.hid (fun (w' : World) (hk : Kept [] wr w') => apply_p (St.out.go hk) Ok.out r (⟨BkArr.kept Hbk.out hk (by simp), fun q hq => Nat.lt_of_lt_of_le (HG.out q hq) (St.out.kept.trans hk (by simp)).size, by omega⟩ : SmallB w' G B n d r.backs))
      by_cases he : errS S r = 0
      · have HE := Lib.hid he
        clear he
        go_wp2_with (first
          | (((with_reducible show wpList _ _ _ ({ dst := none, op := Op.store 43 (.tmp 7) (.tmp 16), type := _, pos := _, after := _, guard := _ } :: _) _ _); refine wpList_put (t := 43) rfl 43 (.tmp 7) (.tmp 16) rfl _ (by rfl) (by rfl) (by (repeat (first | (apply Blk.new'; simp; done) | apply Blk.alloc | apply Blk.drew))) (by rfl) (by kernel_rfl) (by simp [Value.oneCell']) ?_; intro w5 hb5 hk5; have Hb5 := Lib.hid hb5; have Hk5 := Lib.hid hk5; clear hb5 hk5)
             have K5 := Lib.hid (((Kept.refl [] wr).alloc _).trans Hk5.out (fun i hi => .inr (by simp at hi; omega)))
             have hx5 := Hb5.out.cell)
          | (go_at_call 52
             refine (AP.out _ K5.out).mono ?_
             rintro e w6 ⟨rfl, hs6, hk6, hb6⟩
             rw [HE.out]
             have S6 := Lib.hid hs6
             have X6 := Lib.hid (hb6 _ _ _ (Bx.out.kept K5.out (by simp)) (by decide))
             clear hs6 hk6 hb6))
        go_roundg (m - (j + 1))
        case measure => omega
        case rel => exact ⟨j + 1, applyS S r, by omega, rfl, by go_num, Ok.out.apply r, by rw [Run.out, Hdr.out, run_cons HE.out], S6.out, X6.out⟩
      · obtain ⟨e0, he0⟩ : ∃ e0, errS S r = e0 := ⟨_, rfl⟩
        have hres := Lib.hid (show (runV nilV l).2 ≠ 0 by
          rw [(run_view l OkS.new nil_view).1, Run.out, Hdr.out]
          unfold runS
          rw [if_neg he]
          exact he)
        have HE : Hid (errS S r = e0) := Lib.hid he0
        have i3 : (e0 == 0) = false := by rw [← he0]; simp [he]
        have i4 : (e0 != 0) = true := by rw [← he0]; simp [he]
        clear he he0
        go_wp2_with (first
          | (((with_reducible show wpList _ _ _ ({ dst := none, op := Op.store 43 (.tmp 7) (.tmp 16), type := _, pos := _, after := _, guard := _ } :: _) _ _); refine wpList_put (t := 43) rfl 43 (.tmp 7) (.tmp 16) rfl _ (by rfl) (by rfl) (by (repeat (first | (apply Blk.new'; simp; done) | apply Blk.alloc | apply Blk.drew))) (by rfl) (by kernel_rfl) (by simp [Value.oneCell']) ?_; intro w5 hb5 hk5; have Hb5 := Lib.hid hb5; have Hk5 := Lib.hid hk5; clear hb5 hk5)
             have K5 := Lib.hid (((Kept.refl [] wr).alloc _).trans Hk5.out (fun i hi => .inr (by simp at hi; omega)))
             have hx5 := Hb5.out.cell)
          | (go_at_call 52
             refine (AP.out _ K5.out).mono ?_
             rintro e w6 ⟨rfl, hs6, hk6, hb6⟩
             rw [HE.out]
             have S6 := Lib.hid hs6
             have X6 := Lib.hid (hb6 _ _ _ (Bx.out.kept K5.out (by simp)) (by decide))
             clear hs6 hk6 hb6)
          | (((with_reducible show wpList _ _ _ ({ dst := none, op := Op.store 26 (.tmp 2) (.tmp 21), type := _, pos := _, after := _, guard := _ } :: _) _ _); refine wpList_put (t := 26) rfl 26 (.tmp 2) (.tmp 21) rfl _ (by rfl) (by rfl) (by exact X6.out) (by rfl) (by kernel_rfl) (by simp [Value.oneCell']) ?_; intro w9 hb9 hk9; have Hb9 := Lib.hid hb9; have Hk9 := Lib.hid hk9; clear hb9 hk9)
             have K9 := Lib.hid (S6.out.kept.trans Hk9.out (fun i hi => .inr (by simp at hi; omega)))))
        refine bodyPost_ret (results_cell1 (t := 26) Tryz.results36 (by rfl) Hb9.out _ Tryz.underlying26 rfl (by kernel_rfl)) rfl ?_
        exact ⟨K9.out, .inl ⟨hres.out, rfl⟩⟩
    · obtain rfl : m = j := by omega
      have i1 : ¬ (m : Int) < (m : Int) := by omega
      have hr0 : runS newS l = (S, 0) := by
        rw [Run.out, List.drop_of_length_le (by rw [L1.out]; exact Nat.le_refl _)]; rfl
      obtain ⟨hq1, hq2⟩ := run_view l OkS.new nil_view
      rw [hr0] at hq1 hq2
      obtain ⟨R, hR⟩ : ∃ R, runV nilV l = R := ⟨_, rfl⟩
      rw [hR] at hq1 hq2
      have HR := Lib.hid hR
      have HQ := Lib.hid (And.intro hq1 hq2)
      have LN := Lib.hid (hq2.lens Ok.out)
      have SB := Lib.hid (recs_small (V := R.1) (n := 1000) (by have := (hq2.lens Ok.out).2.2; omega))
      obtain ⟨bb, hbb⟩ : ∃ b, sameRs (recsV R.1) l = b := ⟨_, rfl⟩
      have HBB := Lib.hid hbb
      clear hr0 hq1 hq2 hR hbb
      go_wp2_with (first
        | (go_at_call 55
           refine (view_p St.out Ok.out).mono ?_
           rintro e wv ⟨V, s1, n1, d1, s2, n2, d2, s3, n3, d3, G1, rfl, hv, hva, hgv, hkv⟩
           obtain rfl : V = R.1 := hv.one Ok.out HQ.out.2
           have VA1 := Lib.hid hva
           have HG1 := Lib.hid hgv
           have KV := Lib.hid hkv
           have SV := Lib.hid (St.out.go hkv)
           clear hv hva hgv hkv)
        | (go_at_call 21
           refine (Records_any SV.out.b Ok.out).mono ?_
           rintro e wb ⟨V3, B1, n4, d4, rfl, hv3, hr3⟩
           obtain rfl : V3 = R.1 := hv3.one Ok.out HQ.out.2
           have KB := Lib.hid (KV.out.trans hr3.kept (by simp))
           have R3 := Lib.hid hr3
           have VB := Lib.hid (VA1.out.go hr3.kept)
           clear hv3 hr3)
        | (go_at_call 76
           have hcall := (show Calls Tryz.prog 76 #[.slice B1 n4 d4, .slice A m c, .func (.func 77) #[] #[]] wb (fun e w' => e = .returned (.bool (sameRs (recsV R.1) l)) ∧ Kept [] wb w') from by
             obtain ⟨Gx, h1, h2⟩ := R3.out.arr
             exact EqualR_any wb (recsV R.1) l h1 (RecArr.kept H.out (St.out.kept.trans KB.out (by simp)) (by simp)) (fun k hk => (h2 k hk).2) (fun k hk => Nat.lt_of_lt_of_le (HG.out k hk) (St.out.kept.trans KB.out (by simp)).size) SB.out HBL.out)
           refine hcall.mono ?_
           rintro e wc ⟨rfl, hkc⟩
           rw [HBB.out]
           have KC := Lib.hid (KB.out.trans hkc (by simp))
           have VC := Lib.hid (VB.out.go hkc)
           have XC := Lib.hid (Bx.out.kept KC.out (by simp))
           clear hkc hcall)
        | (((with_reducible show wpList _ _ _ ({ dst := none, op := Op.store 26 (.tmp 2) (.tmp 24), type := _, pos := _, after := _, guard := _ } :: _) _ _); refine wpList_put (t := 26) rfl 26 (.tmp 2) (.tmp 24) rfl _ (by rfl) (by rfl) (by exact XC.out) (by rfl) (by kernel_rfl) (by simp [Value.oneCell']) ?_; intro w9 hb9 hk9; have Hb9 := Lib.hid hb9; have Hk9 := Lib.hid hk9; clear hb9 hk9)
           have K9 := Lib.hid ((St.out.kept.trans KC.out (by simp)).trans Hk9.out (fun i hi => .inr (by simp at hi; omega)))
           have V9 := Lib.hid (VC.out.kept Hk9.out (fun k hk hm => by have := HG1.out k hk; simp at hm; omega))))
      refine bodyPost_ret (results_cell1 (t := 26) Tryz.results36 (by rfl) Hb9.out _ Tryz.underlying26 rfl (by kernel_rfl)) rfl ?_
      refine ⟨K9.out, .inr ⟨by rw [HR.out]; exact HQ.out.1, s1, n1, d1, s2, n2, d2, s3, n3, d3, G1, ?_, by rw [HR.out]; exact V9.out, fun k hk => by have := HG1.out k hk; omega⟩⟩
      rw [HR.out, HBB.out]
      rfl
end
end Go.Proofs.YtkacghjglicjiaaGreat
