
/-
  The walk of GensBack.
-/
import Derived.Test.YtpbebadbnkimeaaDoorGenW
import Derived.Test.YtpbebadbnkimeaaDoorGenY
namespace Go.Proofs.YtpbebadbnkimeaaDoor
open Go.RowKit Go.ChangeShapes Go.WideShapes Go.ChangeAt Go.Deep
set_option linter.unusedVariables false
set_option maxRecDepth 100000

/-- of the first sixteen, up to the kth, each may be -/
def fineK (l : List BackD) (k : Nat) : Bool := ((l.take k).take 16).all mayB
theorem fineK_succ {l : List BackD} {k : Nat} {b : BackD} (h : l[k]? = some b) : fineK l (k + 1) = if k < 16 then (fineK l k && mayB b) else fineK l k := by
  unfold fineK
  rw [List.take_take, List.take_take]
  by_cases hk : k < 16
  · rw [if_pos hk, Nat.min_eq_right (by omega), Nat.min_eq_right (by omega), List.take_add_one, h, List.all_append]
    simp
  · rw [if_neg hk, Nat.min_eq_left (by omega), Nat.min_eq_left (by omega)]
theorem fineK_all {l : List BackD} {k : Nat} (h : fineK l k = true) (hk : l.length ≤ k) : ∀ b ∈ l.take 16, mayB b = true := by
  unfold fineK at h
  rw [List.take_of_length_le hk, List.all_eq_true] at h
  exact h
theorem mayB_four (b : BackD) : mayB b = (decide (0 ≤ b.id) && (decide (b.id ≤ 65535) && (decide (1 ≤ b.weight) && decide (b.weight ≤ 10)))) := by
  simp [mayB, inB, Bool.and_assoc]
theorem mayL_true {W w : World} {v : Value} {l : List BackD} (hv : BkV W w v (mayL l)) (h : mayBs l = true) : BkV W w v l := by
  unfold mayL at hv
  rwa [h, if_pos rfl] at hv
set_option maxHeartbeats 6400000 in
theorem GensBack_at (w : World) {G : List Nat} {A : Option Addr} {m c : Nat} (l : List BackD) (h : BkArr w G (.slice A m c) l) (hG : ∀ k ∈ G, k < w.heap.size) (hnum : ∀ b ∈ l, numB b) (mx : Int) (hm : w.cell? ⟨0, 0, none⟩ = some (.int .i64 mx)) (ht : PowTab w) :
    Calls Tryd.prog 3 #[.slice A m c] w fun e w' => e = .returned (.bool true) ∧ Kept [] w w' := by
  obtain ⟨a1, a2, a3, a4⟩ := h.len
  have H := Lib.hid h
  have A1 := Lib.hid a1
  have HG := Lib.hid hG
  have HT := Lib.hid (fun w' (hk : Kept [] w w') => tab_kept ht (g := 3) (by kernel_rfl) hk (by simp))
  have HM := Lib.hid (fun w' (hk : Kept [] w w') => m_kept hm hk)
  have HA := Lib.hid (fun w' (hk : Kept [] w w') => awake13_any w' mx (HM.out _ hk) (HT.out _ hk))
  have HN := Lib.hid hnum
  clear h a1 a4 hm ht hG hnum
  unfold maxLen at a3
  by_cases h0 : 60 < m
  · have i3 : (60 : Int) < (m : Int) := by omega
    go_enter Tryd.func3, Tryd.ntmps3
    go_wp2_with (go_at_call 6; refine (HA.out _ (Kept.refl _ _)).mono ?_; rintro e w1 ⟨rfl, k1⟩; have K := Lib.hid k1; clear k1)
    go_ret
    exact ⟨rfl, K.out⟩
  · have i3 : ¬ (60 : Int) < (m : Int) := by omega
    have hm60 : m ≤ 60 := by omega
    have HS1 := Lib.hid (fun w' (hk : Kept [] w w') => gSort_any w' l (BkArr.kept H.out hk (by simp)) (fun k hk' => Nat.lt_of_lt_of_le (HG.out k hk') hk.size) (by omega))
    have HX := Lib.hid (fun w' (hk : Kept [] w w') => gText_any w' l (BkArr.kept H.out hk (by simp)) (by omega) HN.out (HT.out _ hk))
    have HP := Lib.hid (fun w' (hk : Kept [] w w') => gParse_good w' l HN.out (by rw [A1.out]; omega) mx (HM.out _ hk) (HT.out _ hk))
    have HMy := Lib.hid (fun w' (hk : Kept [] w w') => gMay_any w' l (BkArr.kept H.out hk (by simp)))
    obtain ⟨tx, htx⟩ : ∃ x, strOf (textB l) = x := ⟨_, rfl⟩
    rw [htx] at HX HP
    obtain ⟨ls, hls⟩ : ∃ x, sortB l = x := ⟨_, rfl⟩
    have HSS := Lib.hid (show sortB ls = ls by rw [← hls]; exact sort_sort l)
    have HSL := Lib.hid (show ls.length ≤ 16 by rw [← hls]; exact sort_len l)
    have HFM := Lib.hid (show fineK l m = true → mayBs ls = true from fun h9 => by rw [← hls]; exact sort_may (fineK_all h9 (by rw [A1.out]; omega)))
    have HSM := Lib.hid (show mayBs l = true → ls = l from fun h9 => by rw [← hls]; exact sort_inc_eq ((Bool.and_eq_true _ _).mp ((Bool.and_eq_true _ _).mp h9).2).2 ((mayBs_iff.1 h9).1))
    rw [hls] at HS1
    clear h0 hls htx
    go_enter Tryd.func3, Tryd.ntmps3
    go_wp2_with (go_at_call 7
                 go_must (refine (HS1.out _ (Kept.refl _ _)).mono ?_)
                 go_must (rintro e w1 ⟨v1, rfl, hv⟩)
                 go_must (have W1 := Lib.hid hv)
                 go_must (obtain ⟨A5, m5, c5, rfl⟩ := BkV.form' hv)
                 go_must (have K := Lib.hid (LV.kept hv))
                 go_must (clear hv))
    go_loopg [4, 17] m (fun gg fv i wr => ∃ (k : Nat) (fb : Bool), k ≤ m ∧ gg = m - k ∧ i = .int .i64 k ∧ fv = .bool fb ∧ fineK l k = fb ∧ BkV w wr (.slice A5 m5 c5) ls ∧ Kept [] w wr)
    case atStart => exact ⟨0, true, by omega, by omega, rfl, rfl, by simp [fineK], W1.out, K.out⟩
    case round =>
      clear W1 K
      obtain ⟨k, fb, hk, rfl, rfl, rfl, hf, hv, hkw⟩ := hrel
      have FK := Lib.hid hf
      have V := Lib.hid hv
      have Hkw := Lib.hid hkw
      clear hf hv hkw
      by_cases hlt : k < m
      · have hkl : k < l.length := by rw [A1.out]; exact hlt
        obtain ⟨g, o, rfl, hg, hgG, c0, c1, c2⟩ := (BkArr.kept H.out Hkw.out (by simp)).at (k := k) hkl
        have FS := Lib.hid (fineK_succ (List.getElem?_eq_getElem hkl))
        generalize l[k]'hkl = b at *
        clear hkl
        have j0 : (0 : Int) ≤ (k : Int) := by omega
        have j1 : (k : Int) < (m : Int) := by omega
        have V2 := Lib.hid (LV.go BkOk V.out ((Kept.refl [] wr).alloc (.cells #[.int .i64 b.id, .int .u32 (b.addr.toNat : Nat), .int .i64 b.weight] 27)))
        have K2 := Lib.hid (Hkw.out.alloc (.cells #[.int .i64 b.id, .int .u32 (b.addr.toNat : Nat), .int .i64 b.weight] 27))
        by_cases h16 : k < 16
        · have j2 : (k : Int) < 16 := by omega
          cases fb
          · have HR := Lib.hid (show fineK l (k + 1) = false by rw [FS.out, if_pos h16, FK.out]; rfl)
            go_wp2
            go_roundg (m - (k + 1))
            case measure => omega
            case rel => exact ⟨k + 1, false, by omega, rfl, by go_num, rfl, HR.out, V2.out, K2.out⟩
          · have HR := Lib.hid (show fineK l (k + 1) = (decide (0 ≤ b.id) && (decide (b.id ≤ 65535) && (decide (1 ≤ b.weight) && decide (b.weight ≤ 10)))) by rw [FS.out, if_pos h16, FK.out, mayB_four]; rfl)
            cases d1 : decide (0 ≤ b.id)
            · have HR2 := Lib.hid (show fineK l (k + 1) = false by rw [HR.out, d1]; rfl)
              go_wp2
              go_roundg (m - (k + 1))
              case measure => omega
              case rel => exact ⟨k + 1, false, by omega, rfl, by go_num, rfl, HR2.out, V2.out, K2.out⟩
            · cases d2 : decide (b.id ≤ 65535)
              · have HR2 := Lib.hid (show fineK l (k + 1) = false by rw [HR.out, d1, d2]; rfl)
                go_wp2
                go_roundg (m - (k + 1))
                case measure => omega
                case rel => exact ⟨k + 1, false, by omega, rfl, by go_num, rfl, HR2.out, V2.out, K2.out⟩
              · cases d3 : decide (1 ≤ b.weight)
                · have HR2 := Lib.hid (show fineK l (k + 1) = false by rw [HR.out, d1, d2, d3]; rfl)
                  go_wp2
                  go_roundg (m - (k + 1))
                  case measure => omega
                  case rel => exact ⟨k + 1, false, by omega, rfl, by go_num, rfl, HR2.out, V2.out, K2.out⟩
                · have HR2 := Lib.hid (show fineK l (k + 1) = decide (b.weight ≤ 10) by rw [HR.out, d1, d2, d3]; rfl)
                  go_wp2
                  go_roundg (m - (k + 1))
                  case measure => omega
                  case rel => exact ⟨k + 1, decide (b.weight ≤ 10), by omega, rfl, by go_num, rfl, HR2.out, V2.out, K2.out⟩
        · have j2 : ¬ (k : Int) < 16 := by omega
          have HR := Lib.hid (show fineK l (k + 1) = fb by rw [FS.out, if_neg h16, FK.out])
          go_wp2
          go_roundg (m - (k + 1))
          case measure => omega
          case rel => exact ⟨k + 1, fb, by omega, rfl, by go_num, rfl, HR.out, V2.out, K2.out⟩
      · obtain rfl : k = m := by omega
        obtain ⟨G5, hG5, hG6⟩ := LV.arr BkOk V.out
        have hl5 := BkArr.len hG5
        have h16 : (m5 : Int) ≤ 16 := by have := HSL.out; omega
        have HA5 := Lib.hid (fun w' (hk : Kept [] wr w') => BkArr.kept hG5 hk (by simp))
        have HL6 := Lib.hid hG6
        have HL5 : Hid (m5 ≤ 1099511627776) := Lib.hid (by omega)
        have E1 := Lib.hid (show sameBs ls ls = true from sameBs_iff.2 rfl)
        have E2 := Lib.hid (show sameBs l l = true from sameBs_iff.2 rfl)
        clear hl5 hG5 hG6 V
        have hmid : fb = true → mayBs ls = true := fun h9 => HFM.out (FK.out.trans h9)
        have HMID := Lib.hid hmid
        have KR := Lib.hid (Kept.refl [] wr)
        clear hmid
        cases hmay : mayBs l
        all_goals
          have HMAY := Lib.hid hmay
          cases fb
          all_goals
            clear hmay
            go_wp2_with (first
              | (go_at_call 8
                 first
                   | (with_reducible refine (gMay_any (A := A5) (m := m5) (c := c5) _ ls (HA5.out _ KR.out)).mono ?_
                      go_must (rintro e w2 ⟨rfl, k1⟩)
                      go_must (rw [HMID.out rfl])
                      go_must (have KR := Lib.hid (KR.out.trans k1 (by simp)))
                      go_must (clear k1))
                   | (refine (HMy.out _ (Hkw.out.trans KR.out (by simp))).mono ?_
                      go_must (rintro e w6 ⟨rfl, k1⟩)
                      go_must (rw [HMAY.out])
                      (try (have V8 := Lib.hid (LV.go BkOk V8.out k1)))
                      go_must (have KR := Lib.hid (KR.out.trans k1 (by simp)))
                      go_must (clear k1)))
              | (go_at_call 7
                 go_must (refine (gSort_any _ ls (HA5.out _ KR.out) (fun k hk' => Nat.lt_of_lt_of_le (HL6.out k hk') KR.out.size) HL5.out).mono ?_)
                 go_must (rintro e w3 ⟨v3, rfl, hv⟩)
                 go_must (rw [HSS.out] at hv)
                 go_must (obtain ⟨A6, m6, c6, rfl⟩ := BkV.form' hv)
                 go_must (have V6 := Lib.hid hv)
                 go_must (have KR := Lib.hid (KR.out.trans (LV.kept hv) (by simp)))
                 go_must (clear hv))
              | (go_at_call 9
                 first
                   | (with_reducible refine (gSame_any (A := A6) (m := m6) (c := c6) (B := A5) (n := m5) (d := c5) _ ls ls (G1 := (LV.arr BkOk V6.out).choose) (LV.arr BkOk V6.out).choose_spec.1 (HA5.out _ KR.out)).mono ?_
                      go_must (rintro e w4 ⟨rfl, k1⟩)
                      go_must (rw [E1.out])
                      go_must (have KR := Lib.hid (KR.out.trans k1 (by simp)))
                      go_must (clear k1))
                   | (with_reducible refine (gSame_any (A := A) (m := k) (c := c) (B := A8) (n := m8) (d := c8) _ l l (BkArr.kept H.out (Hkw.out.trans KR.out (by simp)) (by simp)) (G2 := (LV.arr BkOk V8.out).choose) (LV.arr BkOk V8.out).choose_spec.1).mono ?_
                      go_must (rintro e w8 ⟨rfl, k1⟩)
                      go_must (rw [E2.out])
                      clear V8
                      go_must (have KR := Lib.hid (KR.out.trans k1 (by simp)))
                      go_must (clear k1))
                   | (refine (gSame_any (A := A) (m := k) (c := c) (B := A5) (n := m5) (d := c5) _ l ls (BkArr.kept H.out (Hkw.out.trans KR.out (by simp)) (by simp)) (HA5.out _ KR.out)).mono ?_
                      go_must (rintro e w9 ⟨rfl, k1⟩)
                      go_must (rw [HSM.out HMAY.out, E2.out])
                      go_must (have KR := Lib.hid (KR.out.trans k1 (by simp)))
                      go_must (clear k1)))
              | (go_at_call 11
                 go_must (refine (HX.out _ (Hkw.out.trans KR.out (by simp))).mono ?_)
                 go_must (rintro e w5 ⟨rfl, k1⟩)
                 go_must (have KR := Lib.hid (KR.out.trans k1 (by simp)))
                 go_must (clear k1))
              | (go_at_call 10
                 go_must (refine (HP.out _ (Hkw.out.trans KR.out (by simp))).mono ?_)
                 go_must (rintro e w7 ⟨v8, rfl, hv⟩)
                 go_must (rw [HMAY.out])
                 go_must (obtain ⟨A8, m8, c8, rfl⟩ := BkV.form' hv)
                 go_must (have KR := Lib.hid (KR.out.trans (LV.kept hv) (by simp)))
                 (try (have V8 := Lib.hid (mayL_true hv HMAY.out)))
                 go_must (clear hv))
              | (go_at_call 6
                 go_must (refine (HA.out _ (Hkw.out.trans KR.out (by simp))).mono ?_)
                 go_must (rintro e w10 ⟨rfl, k1⟩)
                 go_must (have KR := Lib.hid (KR.out.trans k1 (by simp)))
                 go_must (clear k1)))
            go_ret
            exact ⟨rfl, Hkw.out.trans KR.out (by simp)⟩
theorem GensBack_walk {H : Type} {enc : TypeId × Value → H} {S : Prop} (W : World) (base : Nat) (v0 : Value) (d0 : DataW H) (p0 : List MemPlace)
    (hv0 : Value.okWide Tryd.prog W .any base 22 v0)
    (h0 : DataW.Trod enc Tryd.prog W 0 (fun _ => true) true 22 v0 d0 p0) (_ : S) (ht : PowTab W) (m : Int) (hm : W.cell? ⟨0, 0, none⟩ = some (.int .i64 m)) :
    Calls Tryd.prog 3 #[v0] W fun e W' => e = .returned (.bool true) ∧ Below W.heap.size W W' := by
  obtain ⟨A, n, c, l, rfl, hl, hn⟩ := open_listN hv0 h0
  exact (GensBack_at W l hl (fun k hk => List.mem_range.1 hk) hn m hm ht).mono fun e W' ⟨h, hk⟩ => ⟨h, hk.below (Nat.le_refl _) (by simp)⟩
end Go.Proofs.YtpbebadbnkimeaaDoor
