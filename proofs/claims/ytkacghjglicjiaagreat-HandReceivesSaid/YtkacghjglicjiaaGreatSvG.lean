/-
  The document's answer on drains: put.
-/
import Derived.Test.YtkacghjglicjiaaGreatSvF
namespace Go.Proofs.YtkacghjglicjiaaGreat
set_option linter.unusedVariables false
section
open Go.RowKit Go.ChangeShapes Go.WideShapes Go.ChangeAt Go.Deep Go.MapKept
def insD (l : List (Int × Int)) (b u : Int) : List (Int × Int) := (l.takeWhile fun x => decide (x.1 < b)) ++ ([(b, u)] ++ l.dropWhile fun x => decide (x.1 < b))
theorem ins_hit {l : List (Int × Int)} {b u : Int} {j : Nat} (hj : j < l.length) (h1 : ∀ x ∈ l.take j, x.1 < b) (h2 : ¬ l[j].1 < b) : insD l b u = (l.take j ++ [(b, u)]) ++ l.drop j := by
  have e1 := tw_hit (p := fun x : Int × Int => decide (x.1 < b)) hj (fun x hx => decide_eq_true (h1 x hx)) (decide_eq_false h2)
  have e2 := dw_hit (p := fun x : Int × Int => decide (x.1 < b)) hj (fun x hx => decide_eq_true (h1 x hx)) (decide_eq_false h2)
  unfold insD
  rw [e1, e2, List.append_assoc]
theorem ins_end {l : List (Int × Int)} {b u : Int} (h1 : ∀ x ∈ l, x.1 < b) : insD l b u = (l ++ [(b, u)]) ++ [] := by
  have e1 := tw_all (p := fun x : Int × Int => decide (x.1 < b)) (fun x hx => decide_eq_true (h1 x hx))
  have e2 := dw_all (p := fun x : Int × Int => decide (x.1 < b)) (fun x hx => decide_eq_true (h1 x hx))
  unfold insD
  rw [e1, e2, List.append_assoc, List.append_nil]
def DrPutPost (w : World) (q : Nat) (l : List (Int × Int)) (b u : Int) (e : Ending) (w' : World) : Prop :=
  e = .returned (.int .i64 0) ∧ Kept [q] w w' ∧ ∃ A' m' c', Blk w' q 105 #[.slice A' m' c'] ∧ ∃ G', DrArr w' G' (.slice A' m' c') (insD (delM l b) b u) ∧ ∀ k ∈ G', w.heap.size ≤ k ∧ k < w'.heap.size
set_option maxRecDepth 100000 in
set_option maxHeartbeats 6400000 in
theorem DrPut_any (w : World) {q : Nat} {G : List Nat} {A : Option Addr} {m c : Nat} {l : List (Int × Int)} (h : Drs w q G A m c l) (b u : Int) (hm : m ≤ 1000) (hb0 : 0 ≤ b) (hb1 : b ≤ 65535) (hu : timeB u = true) :
    Calls Tryz.prog 49 #[.pointer (some ⟨q, 0, none⟩), .int .i64 b, .int .i64 u] w fun e w' => DrPutPost w q l b u e w' := by
  have hl := h.arr.len
  obtain ⟨hl1, hl2, hl3, hl4⟩ := hl
  have H := Lib.hid h
  have A1 := Lib.hid hl1
  have HU := Lib.hid hu
  have hqlt := h.blk.lt
  have hm1 : ¬ (1024 : Int) ≤ (m : Int) := by omega
  have hbn : ¬ b < 0 := by omega
  have hbm : ¬ (65535 : Int) < b := by omega
  obtain ⟨uu, huu⟩ : ∃ x, (getM l b).getD 0 = x := ⟨_, rfl⟩
  obtain ⟨ub, hub⟩ : ∃ x, (getM l b).isSome = x := ⟨_, rfl⟩
  have HUB := Lib.hid (And.intro huu hub)
  clear h hl1 hl4 hu huu hub hl3
  go_enter Tryz.func49, Tryz.ntmps49
  go_upto_region 4 with (first
    | (go_at_call 18
       refine (rTime_any _ u).mono ?_
       rintro e w1 ⟨rfl, rfl⟩
       rw [HU.out])
    | (go_at_call 48
       refine (Until_any _ H.out b).mono ?_
       rintro e w2 ⟨rfl, hk2⟩
       rw [HUB.out.1, HUB.out.2]
       have K2 := Lib.hid hk2
       have B2 := Lib.hid (H.out.blk.kept hk2 (by simp))
       have hq2 := B2.out.cell
       have hl2 : q < w2.heap.size := B2.out.lt
       clear hk2))
  go_cut [36] (fun v wx => v = .bool false ∧ wx = w2)
  case first =>
    cases ub
    all_goals
      go_wp2_with fail
      go_meet
      exact ⟨by first | rfl | (simp; omega), rfl⟩
  case rest =>
    obtain ⟨rfl, hwx⟩ := hcut
    have hwx := hwx.symm
    subst hwx
    go_upto_region 7 with (
      (go_at_call 50
       refine (Clear_any _ (⟨H.out.blk.kept K2.out (by simp), DrArr.kept H.out.arr K2.out (by simp), fun k hk => Nat.lt_of_lt_of_le (H.out.lt k hk) K2.out.size, H.out.nq⟩ : Drs w2 q G A m c l) b hm).mono ?_
       rintro e w3 ⟨⟨tb, rfl⟩, hk3, A3, m3, c3, hb3, G3, ha3, hg3⟩
       have K3 := Lib.hid ((K2.out.mono (T := [q]) (by simp)).trans hk3 (by simp))
       have B3 := Lib.hid hb3
       have R3 := Lib.hid ha3
       have G3h := Lib.hid hg3
       have K23 := Lib.hid K2.out.size
       clear hk3 hb3 ha3 hg3))
    have hm3 : m3 ≤ 1000 := by
      have h1 := R3.out.len.1
      have h2 := del_len_le l b
      have h3 := A1.out
      omega
    have hc3 := R3.out.len.2.1
    have hc4 : c3 ≤ 2 ^ 63 - 1 := R3.out.len.2.2.1
    have A4 := Lib.hid R3.out.len.2.2.2
    have L3 := Lib.hid R3.out.len.1
    have B3l : q < w3.heap.size := B3.out.lt
    have hqw : ∀ k ∈ G3, w.heap.size ≤ k := fun k hk => by have := (G3h.out k hk).1; have := K23.out; omega
    have HQW := Lib.hid hqw
    obtain ⟨L, hL⟩ : ∃ L, delM l b = L := ⟨_, rfl⟩
    simp only [hL] at R3 L3
    have HL := Lib.hid hL
    clear hL hqw hq2 hl2
    go_wp2
    go_loopg [9] m3 (fun gg i wr => ∃ j : Nat, j ≤ m3 ∧ gg = m3 - j ∧ i = .int .i64 j ∧ (∀ x ∈ L.take j, x.1 < b) ∧ Kept [] w3 wr)
    case atStart => exact ⟨0, by omega, by omega, rfl, by simp, Kept.refl _ _⟩
    case round =>
      obtain ⟨j, hj, rfl, rfl, hs, hkw⟩ := hrel
      have Hs := Lib.hid hs
      have KW := Lib.hid hkw
      have BW := Lib.hid (B3.out.kept hkw (by simp))
      have hqr := BW.out.cell
      have hfr := BW.out.frozen
      have hlr : q < wr.heap.size := BW.out.lt
      clear hs hkw
      by_cases hlt : j < m3
      · have hkl : j < L.length := by rw [L3.out]; exact hlt
        obtain ⟨g, o, rfl, hg, hgG, c0, c1⟩ := (DrArr.kept R3.out KW.out (by simp)).at (k := j) hkl
        have Htk := Lib.hid (show L.take (j + 1) = L.take j ++ [L[j]] by rw [List.take_add_one, List.getElem?_eq_getElem hkl]; rfl)
        have HINS := Lib.hid (fun h2 => ins_hit (b := b) (u := u) hkl Hs.out h2)
        generalize L[j]'hkl = x at *
        have i0 : (0 : Int) ≤ (j : Int) := by omega
        have i1 : (j : Int) < (m3 : Int) := by omega
        have i2 : (j : Int) ≤ (m3 : Int) := by omega
        have i3 : (j : Int) ≤ (c3 : Int) := by omega
        have iw : IntKind.i64.wrap ((j : Int) + 1) = (j : Int) + 1 := IntWalk.i64_in _ (by omega)
        by_cases hxb : x.1 < b
        · go_wp2
          go_roundg (m3 - (j + 1))
          case measure => omega
          case rel =>
            refine ⟨j + 1, by omega, rfl, by go_num, fun y hy => ?_, KW.out⟩
            rw [Htk.out, List.mem_append] at hy
            rcases hy with hy | hy
            · exact Hs.out y hy
            · rw [List.mem_singleton] at hy
              rw [hy]
              exact hxb
        · have HX := Lib.hid hxb
          go_wp2
          have TX := Lib.hid (arr_take (k := j) (DrArr.kept R3.out KW.out (by simp)) (by omega))
          have RX := Lib.hid (arr_drop (k := j) (DrArr.kept R3.out KW.out (by simp)) (by omega))
          have jc : ¬ (j = c3) := by omega
          have jc2 : ¬ (c3 = j) := by omega
          clear c0 c1 iw i1
          have KD := Lib.hid ((Kept.refl [] wr).drew)
          have KA := Lib.hid (((Kept.refl [] wr).alloc (.cells #[.int .i64 b, .int .i64 u] 118)).drew)
          have N1 := Lib.hid (LV.nil KD.out : DrV wr wr.drew (.slice none 0 0) [])
          have N2 := Lib.hid (LV.nil KA.out : DrV wr (wr.alloc (.cells #[.int .i64 b, .int .i64 u] 118)).drew (.slice none 0 0) [])
          have T1 := Lib.hid (DrArr.kept TX.out KD.out (by simp))
          have T2 := Lib.hid (DrArr.kept TX.out KA.out (by simp))
          have BN := Lib.hid (show Blk (wr.alloc (.cells #[.int .i64 b, .int .i64 u] 118)).drew wr.heap.size 118 #[.int .i64 b, .int .i64 u] from by (repeat (first | (apply Blk.new'; simp; done) | apply Blk.alloc | apply Blk.drew)))
          have hqa : ∀ obj k, (wr.alloc obj).cell? ⟨q, k, none⟩ = (#[.slice (some ⟨g, o, none⟩) m3 c3] : Array Value)[k]? := fun obj => (BW.out.alloc obj).cell
          have HL1 := Lib.hid (show ([] : List (Int × Int)).length + (L.take j).length ≤ 100000 by have := L3.out; simp; omega)
          have HL2 := Lib.hid (show ([] ++ L.take j : List (Int × Int)).length + [(b, u)].length ≤ 100000 by have := L3.out; simp; omega)
          have HL3 := Lib.hid (show ([] ++ L.take j ++ [(b, u)] : List (Int × Int)).length + (L.drop j : List (Int × Int)).length ≤ 100000 by have := L3.out; simp; omega)
          have HGR := Lib.hid (fun k hk => Nat.lt_of_lt_of_le (G3h.out k hk).2 KW.out.size)
          go_region_law ((first
            | (refine step_lvs (W := wr) (w0 := wr.drew) (sl := .slice none 0 0) (l := []) (l2 := L.take j) DrOk elem_drain (fun h => h) (by omega) rfl (.const (.slice none 0 0)) (.tmp 67) rfl (by first | (simp [Act.eval]; done) | (simp [Act.eval]; rfl) | rfl) N1.out (by first | (simp [Act.eval]; done) | (simp [Act.eval]; rfl) | rfl) T1.out HL1.out ?_
               intro A9 m9 c9 w9 h9 k9 r9
               go_must (have K9 := Lib.hid (Kept.trans (S := []) KD.out (show Kept [] wr.drew w9 from k9) (by simp)))
               go_must (have B9 := Lib.hid (BW.out.kept K9.out (by simp)))
               go_must (have hq9 := B9.out.cell)
               go_must (have hf9 := B9.out.frozen)
               go_must (have hl9 : q < w9.heap.size := B9.out.lt)
               go_must (have hqb : ∀ obj k, (w9.alloc obj).cell? ⟨q, k, none⟩ = (#[.slice (some ⟨g, o, none⟩) m3 c3] : Array Value)[k]? := fun obj => (B9.out.alloc obj).cell)
               have H9 := Lib.hid h9
               clear h9 k9 r9)
            | (refine step_lvs (W := wr) (w0 := (wr.alloc (.cells #[.int .i64 b, .int .i64 u] 118)).drew) (sl := .slice none 0 0) (l := []) (l2 := L.take j) DrOk elem_drain (fun h => h) (by omega) rfl (.const (.slice none 0 0)) (.tmp 67) rfl (by first | (simp [Act.eval]; done) | (simp [Act.eval]; rfl) | rfl) N2.out (by first | (simp [Act.eval]; done) | (simp [Act.eval]; rfl) | rfl) T2.out HL1.out ?_
               intro A9 m9 c9 w9 h9 k9 r9
               go_must (have K9 := Lib.hid (Kept.trans (S := []) KA.out (show Kept [] _ w9 from k9) (by simp)))
               go_must (have BN9 := Lib.hid (BN.out.kept (S := []) (show Kept [] _ w9 from k9) (by simp)))
               go_must (have B9 := Lib.hid (BW.out.kept K9.out (by simp)))
               go_must (have hq9 := B9.out.cell)
               go_must (have hf9 := B9.out.frozen)
               go_must (have hl9 : q < w9.heap.size := B9.out.lt)
               have H9 := Lib.hid h9
               clear h9 k9 r9)
            | (refine step_lvs (W := wr) (w0 := w9) (sl := .slice A9 m9 c9) (l := [] ++ L.take j) (l2 := [(b, u)]) DrOk elem_drain (fun h => h) (by omega) rfl (.tmp 68) (.tmp 72) rfl (by first | (simp [Act.eval]; done) | (simp [Act.eval]; rfl) | rfl) H9.out (by first | (simp [Act.eval]; done) | (simp [Act.eval]; rfl) | rfl) (arr_blk BN9.out rfl rfl) HL2.out ?_
               intro A10 m10 c10 w10 h10 k10 r10
               go_must (have RX10 := Lib.hid (DrArr.kept (DrArr.kept RX.out K9.out (by simp)) k10 (fun k hk hm => by have h1 := HGR.out k hk; have h2 := (r10 k hm).1; omega)))
               go_must (have B10 := Lib.hid (B9.out.kept k10 (fun hm => lv_far H9.out B9.out (by decide) q hm (by simp))))
               go_must (have hq10 := B10.out.cell)
               go_must (have hf10 := B10.out.frozen)
               go_must (have hl10 : q < w10.heap.size := B10.out.lt)
               have H10 := Lib.hid h10
               clear h10 k10 r10)
            | (refine step_lvs (W := wr) (w0 := w9.alloc (.cells #[.int .i64 b, .int .i64 u] 118)) (sl := .slice A9 m9 c9) (l := [] ++ L.take j) (l2 := [(b, u)]) DrOk elem_drain (fun h => h) (by omega) rfl (.tmp 68) (.tmp 72) rfl (by first | (simp [Act.eval]; done) | (simp [Act.eval]; rfl) | rfl) (LV.go DrOk H9.out ((Kept.refl [] w9).alloc _)) (by first | (simp [Act.eval]; done) | (simp [Act.eval]; rfl) | rfl) (arr_blk (Blk.new w9 118 #[.int .i64 b, .int .i64 u]) rfl rfl) HL2.out ?_
               intro A10 m10 c10 w10 h10 k10 r10
               go_must (have RX10 := Lib.hid (DrArr.kept (DrArr.kept RX.out (K9.out.alloc _) (by simp)) k10 (fun k hk hm => by have h1 := HGR.out k hk; have h2 := (r10 k hm).1; omega)))
               go_must (have B10 := Lib.hid ((B9.out.alloc (.cells #[.int .i64 b, .int .i64 u] 118)).kept k10 (fun hm => lv_far H9.out B9.out (by decide) q hm (by simp))))
               go_must (have hq10 := B10.out.cell)
               go_must (have hf10 := B10.out.frozen)
               go_must (have hl10 : q < w10.heap.size := B10.out.lt)
               have H10 := Lib.hid h10
               clear h10 k10 r10)
            | (refine step_lvs (W := wr) (w0 := w10) (sl := .slice A10 m10 c10) (l := [] ++ L.take j ++ [(b, u)]) (l2 := L.drop j) DrOk elem_drain (fun h => h) (by omega) rfl (.tmp 73) (.tmp 79) rfl (by first | (simp [Act.eval]; done) | (simp [Act.eval]; rfl) | rfl) H10.out (by first | (simp [Act.eval]; done) | (simp [Act.eval]; rfl) | rfl) RX10.out HL3.out ?_
               intro A11 m11 c11 w11 h11 k11 r11
               go_must (have B11 := Lib.hid (B10.out.kept k11 (fun hm => lv_far H10.out B10.out (by decide) q hm (by simp))))
               go_must (have hq11 := B11.out.cell)
               go_must (have hf11 := B11.out.frozen)
               go_must (have hl11 : q < w11.heap.size := B11.out.lt)
               have H11 := Lib.hid h11
               clear h11 k11 r11)))
          all_goals
            go_wp2
            go_ret
            obtain ⟨b1, b2⟩ := lv_row DrOk (fun h => h) H11.out
            have hks := (Kept.refl [q] w11).setCell (p := ⟨q, 0, none⟩) (.inl (by simp)) (.slice A11 m11 c11)
            have hk3 := K3.out.trans ((KW.out.trans (LV.kept H11.out) (by simp)).mono (T := [q]) (by simp)) (by simp)
            have hws := hk3.size
            have hwr := (K3.out.trans (KW.out.mono (T := [q]) (by simp)) (by simp)).size
            refine ⟨rfl, hk3.trans hks (by simp), A11, m11, c11, ?_, _, DrArr.kept (by rw [HL.out, HINS.out HX.out]; rw [List.nil_append] at b1; exact b1) hks (fun k hk hm => by have := (b2 k hk).1; simp at hm; omega), fun k hk => ⟨Nat.le_trans hwr (b2 k hk).1, Nat.lt_of_lt_of_le (b2 k hk).2 hks.size⟩⟩
            have := B11.out.set 0 (.slice A11 m11 c11)
            simpa using this
      · obtain rfl : m3 = j := by omega
        have i1 : ¬ (m3 : Int) < (m3 : Int) := by omega
        have i0 : (0 : Int) ≤ (m3 : Int) := by omega
        have i2 : (m3 : Int) ≤ (c3 : Int) := by omega
        have HINS := Lib.hid (show insD L b u = (L.take m3 ++ [(b, u)]) ++ [] by
          have h1 := Hs.out
          rw [List.take_of_length_le (by rw [L3.out]; exact Nat.le_refl _)] at h1 ⊢
          exact ins_end h1)
        by_cases hcm : m3 = c3
        · subst hcm
          go_wp2
          have TX := Lib.hid (arr_take (k := m3) (DrArr.kept R3.out KW.out (by simp)) (Nat.le_refl _))
          have RX := Lib.hid (by
            cases A3 with
            | none => exact arr_none wr G3 2 _ 0 rfl
            | some a => exact arr_zero wr G3 2 _ a 0 (by unfold maxLen; omega) : DrArr wr G3 (.slice A3 0 0) [])
          have KD := Lib.hid ((Kept.refl [] wr).drew)
          have KA := Lib.hid (((Kept.refl [] wr).alloc (.cells #[.int .i64 b, .int .i64 u] 118)).drew)
          have N1 := Lib.hid (LV.nil KD.out : DrV wr wr.drew (.slice none 0 0) [])
          have N2 := Lib.hid (LV.nil KA.out : DrV wr (wr.alloc (.cells #[.int .i64 b, .int .i64 u] 118)).drew (.slice none 0 0) [])
          have T1 := Lib.hid (DrArr.kept TX.out KD.out (by simp))
          have T2 := Lib.hid (DrArr.kept TX.out KA.out (by simp))
          have BN := Lib.hid (show Blk (wr.alloc (.cells #[.int .i64 b, .int .i64 u] 118)).drew wr.heap.size 118 #[.int .i64 b, .int .i64 u] from by (repeat (first | (apply Blk.new'; simp; done) | apply Blk.alloc | apply Blk.drew)))
          have hqa : ∀ obj k, (wr.alloc obj).cell? ⟨q, k, none⟩ = (#[.slice A3 m3 m3] : Array Value)[k]? := fun obj => (BW.out.alloc obj).cell
          have HL1 := Lib.hid (show ([] : List (Int × Int)).length + (L.take m3).length ≤ 100000 by have := L3.out; simp; omega)
          have HL2 := Lib.hid (show ([] ++ L.take m3 : List (Int × Int)).length + [(b, u)].length ≤ 100000 by have := L3.out; simp; omega)
          have HL3 := Lib.hid (show ([] ++ L.take m3 ++ [(b, u)] : List (Int × Int)).length + ([] : List (Int × Int)).length ≤ 100000 by have := L3.out; simp; omega)
          have HGR := Lib.hid (fun k hk => Nat.lt_of_lt_of_le (G3h.out k hk).2 KW.out.size)
          go_region_law ((first
            | (refine step_lvs (W := wr) (w0 := wr.drew) (sl := .slice none 0 0) (l := []) (l2 := L.take m3) DrOk elem_drain (fun h => h) (by omega) rfl (.const (.slice none 0 0)) (.tmp 67) rfl (by first | (simp [Act.eval]; done) | (simp [Act.eval]; rfl) | rfl) N1.out (by first | (simp [Act.eval]; done) | (simp [Act.eval]; rfl) | rfl) T1.out HL1.out ?_
               intro A9 m9 c9 w9 h9 k9 r9
               go_must (have K9 := Lib.hid (Kept.trans (S := []) KD.out (show Kept [] wr.drew w9 from k9) (by simp)))
               go_must (have B9 := Lib.hid (BW.out.kept K9.out (by simp)))
               go_must (have hq9 := B9.out.cell)
               go_must (have hf9 := B9.out.frozen)
               go_must (have hl9 : q < w9.heap.size := B9.out.lt)
               go_must (have hqb : ∀ obj k, (w9.alloc obj).cell? ⟨q, k, none⟩ = (#[.slice A3 m3 m3] : Array Value)[k]? := fun obj => (B9.out.alloc obj).cell)
               have H9 := Lib.hid h9
               clear h9 k9 r9)
            | (refine step_lvs (W := wr) (w0 := (wr.alloc (.cells #[.int .i64 b, .int .i64 u] 118)).drew) (sl := .slice none 0 0) (l := []) (l2 := L.take m3) DrOk elem_drain (fun h => h) (by omega) rfl (.const (.slice none 0 0)) (.tmp 67) rfl (by first | (simp [Act.eval]; done) | (simp [Act.eval]; rfl) | rfl) N2.out (by first | (simp [Act.eval]; done) | (simp [Act.eval]; rfl) | rfl) T2.out HL1.out ?_
               intro A9 m9 c9 w9 h9 k9 r9
               go_must (have K9 := Lib.hid (Kept.trans (S := []) KA.out (show Kept [] _ w9 from k9) (by simp)))
               go_must (have BN9 := Lib.hid (BN.out.kept (S := []) (show Kept [] _ w9 from k9) (by simp)))
               go_must (have B9 := Lib.hid (BW.out.kept K9.out (by simp)))
               go_must (have hq9 := B9.out.cell)
               go_must (have hf9 := B9.out.frozen)
               go_must (have hl9 : q < w9.heap.size := B9.out.lt)
               have H9 := Lib.hid h9
               clear h9 k9 r9)
            | (refine step_lvs (W := wr) (w0 := w9) (sl := .slice A9 m9 c9) (l := [] ++ L.take m3) (l2 := [(b, u)]) DrOk elem_drain (fun h => h) (by omega) rfl (.tmp 68) (.tmp 72) rfl (by first | (simp [Act.eval]; done) | (simp [Act.eval]; rfl) | rfl) H9.out (by first | (simp [Act.eval]; done) | (simp [Act.eval]; rfl) | rfl) (arr_blk BN9.out rfl rfl) HL2.out ?_
               intro A10 m10 c10 w10 h10 k10 r10
               go_must (have RX10 := Lib.hid (DrArr.kept (DrArr.kept RX.out K9.out (by simp)) k10 (fun k hk hm => by have h1 := HGR.out k hk; have h2 := (r10 k hm).1; omega)))
               go_must (have B10 := Lib.hid (B9.out.kept k10 (fun hm => lv_far H9.out B9.out (by decide) q hm (by simp))))
               go_must (have hq10 := B10.out.cell)
               go_must (have hf10 := B10.out.frozen)
               go_must (have hl10 : q < w10.heap.size := B10.out.lt)
               have H10 := Lib.hid h10
               clear h10 k10 r10)
            | (refine step_lvs (W := wr) (w0 := w9.alloc (.cells #[.int .i64 b, .int .i64 u] 118)) (sl := .slice A9 m9 c9) (l := [] ++ L.take m3) (l2 := [(b, u)]) DrOk elem_drain (fun h => h) (by omega) rfl (.tmp 68) (.tmp 72) rfl (by first | (simp [Act.eval]; done) | (simp [Act.eval]; rfl) | rfl) (LV.go DrOk H9.out ((Kept.refl [] w9).alloc _)) (by first | (simp [Act.eval]; done) | (simp [Act.eval]; rfl) | rfl) (arr_blk (Blk.new w9 118 #[.int .i64 b, .int .i64 u]) rfl rfl) HL2.out ?_
               intro A10 m10 c10 w10 h10 k10 r10
               go_must (have RX10 := Lib.hid (DrArr.kept (DrArr.kept RX.out (K9.out.alloc _) (by simp)) k10 (fun k hk hm => by have h1 := HGR.out k hk; have h2 := (r10 k hm).1; omega)))
               go_must (have B10 := Lib.hid ((B9.out.alloc (.cells #[.int .i64 b, .int .i64 u] 118)).kept k10 (fun hm => lv_far H9.out B9.out (by decide) q hm (by simp))))
               go_must (have hq10 := B10.out.cell)
               go_must (have hf10 := B10.out.frozen)
               go_must (have hl10 : q < w10.heap.size := B10.out.lt)
               have H10 := Lib.hid h10
               clear h10 k10 r10)
            | (refine step_lvs (W := wr) (w0 := w10) (sl := .slice A10 m10 c10) (l := [] ++ L.take m3 ++ [(b, u)]) (l2 := []) DrOk elem_drain (fun h => h) (by omega) rfl (.tmp 73) (.tmp 79) rfl (by first | (simp [Act.eval]; done) | (simp [Act.eval]; rfl) | rfl) H10.out (by first | (simp [Act.eval]; done) | (simp [Act.eval]; rfl) | rfl) RX10.out HL3.out ?_
               intro A11 m11 c11 w11 h11 k11 r11
               go_must (have B11 := Lib.hid (B10.out.kept k11 (fun hm => lv_far H10.out B10.out (by decide) q hm (by simp))))
               go_must (have hq11 := B11.out.cell)
               go_must (have hf11 := B11.out.frozen)
               go_must (have hl11 : q < w11.heap.size := B11.out.lt)
               have H11 := Lib.hid h11
               clear h11 k11 r11)))
          all_goals
            go_wp2
            go_ret
            obtain ⟨b1, b2⟩ := lv_row DrOk (fun h => h) H11.out
            have hks := (Kept.refl [q] w11).setCell (p := ⟨q, 0, none⟩) (.inl (by simp)) (.slice A11 m11 c11)
            have hk3 := K3.out.trans ((KW.out.trans (LV.kept H11.out) (by simp)).mono (T := [q]) (by simp)) (by simp)
            have hws := hk3.size
            have hwr := (K3.out.trans (KW.out.mono (T := [q]) (by simp)) (by simp)).size
            refine ⟨rfl, hk3.trans hks (by simp), A11, m11, c11, ?_, _, DrArr.kept (by rw [HL.out, HINS.out]; rw [List.nil_append] at b1; exact b1) hks (fun k hk hm => by have := (b2 k hk).1; simp at hm; omega), fun k hk => ⟨Nat.le_trans hwr (b2 k hk).1, Nat.lt_of_lt_of_le (b2 k hk).2 hks.size⟩⟩
            have := B11.out.set 0 (.slice A11 m11 c11)
            simpa using this
        · obtain ⟨a, rfl⟩ : ∃ a, A3 = some a := by
            cases A3 with
            | none => exact absurd (by have := A4.out rfl; omega) hcm
            | some a => exact ⟨a, rfl⟩
          have hcm2 : ¬ (c3 = m3) := fun e => hcm e.symm
          go_wp2
          have TX := Lib.hid (arr_take (k := m3) (DrArr.kept R3.out KW.out (by simp)) (Nat.le_refl _))
          have RX := Lib.hid (arr_zero wr G3 2 _ (a.add (m3 * 2)) (c3 - m3) (by unfold maxLen; omega) : DrArr wr G3 (.slice (some (a.add (m3 * 2))) 0 (c3 - m3)) [])
          have KD := Lib.hid ((Kept.refl [] wr).drew)
          have KA := Lib.hid (((Kept.refl [] wr).alloc (.cells #[.int .i64 b, .int .i64 u] 118)).drew)
          have N1 := Lib.hid (LV.nil KD.out : DrV wr wr.drew (.slice none 0 0) [])
          have N2 := Lib.hid (LV.nil KA.out : DrV wr (wr.alloc (.cells #[.int .i64 b, .int .i64 u] 118)).drew (.slice none 0 0) [])
          have T1 := Lib.hid (DrArr.kept TX.out KD.out (by simp))
          have T2 := Lib.hid (DrArr.kept TX.out KA.out (by simp))
          have BN := Lib.hid (show Blk (wr.alloc (.cells #[.int .i64 b, .int .i64 u] 118)).drew wr.heap.size 118 #[.int .i64 b, .int .i64 u] from by (repeat (first | (apply Blk.new'; simp; done) | apply Blk.alloc | apply Blk.drew)))
          have hqa : ∀ obj k, (wr.alloc obj).cell? ⟨q, k, none⟩ = (#[.slice (some a) m3 c3] : Array Value)[k]? := fun obj => (BW.out.alloc obj).cell
          have HL1 := Lib.hid (show ([] : List (Int × Int)).length + (L.take m3).length ≤ 100000 by have := L3.out; simp; omega)
          have HL2 := Lib.hid (show ([] ++ L.take m3 : List (Int × Int)).length + [(b, u)].length ≤ 100000 by have := L3.out; simp; omega)
          have HL3 := Lib.hid (show ([] ++ L.take m3 ++ [(b, u)] : List (Int × Int)).length + ([] : List (Int × Int)).length ≤ 100000 by have := L3.out; simp; omega)
          have HGR := Lib.hid (fun k hk => Nat.lt_of_lt_of_le (G3h.out k hk).2 KW.out.size)
          go_region_law ((first
            | (refine step_lvs (W := wr) (w0 := wr.drew) (sl := .slice none 0 0) (l := []) (l2 := L.take m3) DrOk elem_drain (fun h => h) (by omega) rfl (.const (.slice none 0 0)) (.tmp 67) rfl (by first | (simp [Act.eval]; done) | (simp [Act.eval]; rfl) | rfl) N1.out (by first | (simp [Act.eval]; done) | (simp [Act.eval]; rfl) | rfl) T1.out HL1.out ?_
               intro A9 m9 c9 w9 h9 k9 r9
               go_must (have K9 := Lib.hid (Kept.trans (S := []) KD.out (show Kept [] wr.drew w9 from k9) (by simp)))
               go_must (have B9 := Lib.hid (BW.out.kept K9.out (by simp)))
               go_must (have hq9 := B9.out.cell)
               go_must (have hf9 := B9.out.frozen)
               go_must (have hl9 : q < w9.heap.size := B9.out.lt)
               go_must (have hqb : ∀ obj k, (w9.alloc obj).cell? ⟨q, k, none⟩ = (#[.slice (some a) m3 c3] : Array Value)[k]? := fun obj => (B9.out.alloc obj).cell)
               have H9 := Lib.hid h9
               clear h9 k9 r9)
            | (refine step_lvs (W := wr) (w0 := (wr.alloc (.cells #[.int .i64 b, .int .i64 u] 118)).drew) (sl := .slice none 0 0) (l := []) (l2 := L.take m3) DrOk elem_drain (fun h => h) (by omega) rfl (.const (.slice none 0 0)) (.tmp 67) rfl (by first | (simp [Act.eval]; done) | (simp [Act.eval]; rfl) | rfl) N2.out (by first | (simp [Act.eval]; done) | (simp [Act.eval]; rfl) | rfl) T2.out HL1.out ?_
               intro A9 m9 c9 w9 h9 k9 r9
               go_must (have K9 := Lib.hid (Kept.trans (S := []) KA.out (show Kept [] _ w9 from k9) (by simp)))
               go_must (have BN9 := Lib.hid (BN.out.kept (S := []) (show Kept [] _ w9 from k9) (by simp)))
               go_must (have B9 := Lib.hid (BW.out.kept K9.out (by simp)))
               go_must (have hq9 := B9.out.cell)
               go_must (have hf9 := B9.out.frozen)
               go_must (have hl9 : q < w9.heap.size := B9.out.lt)
               have H9 := Lib.hid h9
               clear h9 k9 r9)
            | (refine step_lvs (W := wr) (w0 := w9) (sl := .slice A9 m9 c9) (l := [] ++ L.take m3) (l2 := [(b, u)]) DrOk elem_drain (fun h => h) (by omega) rfl (.tmp 68) (.tmp 72) rfl (by first | (simp [Act.eval]; done) | (simp [Act.eval]; rfl) | rfl) H9.out (by first | (simp [Act.eval]; done) | (simp [Act.eval]; rfl) | rfl) (arr_blk BN9.out rfl rfl) HL2.out ?_
               intro A10 m10 c10 w10 h10 k10 r10
               go_must (have RX10 := Lib.hid (DrArr.kept (DrArr.kept RX.out K9.out (by simp)) k10 (fun k hk hm => by have h1 := HGR.out k hk; have h2 := (r10 k hm).1; omega)))
               go_must (have B10 := Lib.hid (B9.out.kept k10 (fun hm => lv_far H9.out B9.out (by decide) q hm (by simp))))
               go_must (have hq10 := B10.out.cell)
               go_must (have hf10 := B10.out.frozen)
               go_must (have hl10 : q < w10.heap.size := B10.out.lt)
               have H10 := Lib.hid h10
               clear h10 k10 r10)
            | (refine step_lvs (W := wr) (w0 := w9.alloc (.cells #[.int .i64 b, .int .i64 u] 118)) (sl := .slice A9 m9 c9) (l := [] ++ L.take m3) (l2 := [(b, u)]) DrOk elem_drain (fun h => h) (by omega) rfl (.tmp 68) (.tmp 72) rfl (by first | (simp [Act.eval]; done) | (simp [Act.eval]; rfl) | rfl) (LV.go DrOk H9.out ((Kept.refl [] w9).alloc _)) (by first | (simp [Act.eval]; done) | (simp [Act.eval]; rfl) | rfl) (arr_blk (Blk.new w9 118 #[.int .i64 b, .int .i64 u]) rfl rfl) HL2.out ?_
               intro A10 m10 c10 w10 h10 k10 r10
               go_must (have RX10 := Lib.hid (DrArr.kept (DrArr.kept RX.out (K9.out.alloc _) (by simp)) k10 (fun k hk hm => by have h1 := HGR.out k hk; have h2 := (r10 k hm).1; omega)))
               go_must (have B10 := Lib.hid ((B9.out.alloc (.cells #[.int .i64 b, .int .i64 u] 118)).kept k10 (fun hm => lv_far H9.out B9.out (by decide) q hm (by simp))))
               go_must (have hq10 := B10.out.cell)
               go_must (have hf10 := B10.out.frozen)
               go_must (have hl10 : q < w10.heap.size := B10.out.lt)
               have H10 := Lib.hid h10
               clear h10 k10 r10)
            | (refine step_lvs (W := wr) (w0 := w10) (sl := .slice A10 m10 c10) (l := [] ++ L.take m3 ++ [(b, u)]) (l2 := []) DrOk elem_drain (fun h => h) (by omega) rfl (.tmp 73) (.tmp 79) rfl (by first | (simp [Act.eval]; done) | (simp [Act.eval]; rfl) | rfl) H10.out (by first | (simp [Act.eval]; done) | (simp [Act.eval]; rfl) | rfl) RX10.out HL3.out ?_
               intro A11 m11 c11 w11 h11 k11 r11
               go_must (have B11 := Lib.hid (B10.out.kept k11 (fun hm => lv_far H10.out B10.out (by decide) q hm (by simp))))
               go_must (have hq11 := B11.out.cell)
               go_must (have hf11 := B11.out.frozen)
               go_must (have hl11 : q < w11.heap.size := B11.out.lt)
               have H11 := Lib.hid h11
               clear h11 k11 r11)))
          all_goals
            go_wp2
            go_ret
            obtain ⟨b1, b2⟩ := lv_row DrOk (fun h => h) H11.out
            have hks := (Kept.refl [q] w11).setCell (p := ⟨q, 0, none⟩) (.inl (by simp)) (.slice A11 m11 c11)
            have hk3 := K3.out.trans ((KW.out.trans (LV.kept H11.out) (by simp)).mono (T := [q]) (by simp)) (by simp)
            have hws := hk3.size
            have hwr := (K3.out.trans (KW.out.mono (T := [q]) (by simp)) (by simp)).size
            refine ⟨rfl, hk3.trans hks (by simp), A11, m11, c11, ?_, _, DrArr.kept (by rw [HL.out, HINS.out]; rw [List.nil_append] at b1; exact b1) hks (fun k hk hm => by have := (b2 k hk).1; simp at hm; omega), fun k hk => ⟨Nat.le_trans hwr (b2 k hk).1, Nat.lt_of_lt_of_le (b2 k hk).2 hks.size⟩⟩
            have := B11.out.set 0 (.slice A11 m11 c11)
            simpa using this
end
end Go.Proofs.YtkacghjglicjiaaGreat
