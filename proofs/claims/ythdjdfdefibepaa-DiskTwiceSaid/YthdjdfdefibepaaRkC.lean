
/-
  The document's disk: a name put in.
-/
import Derived.Test.YthdjdfdefibepaaRkB
import Derived.Sort.Walk0
namespace Go.Proofs.Ythdjdfdefibepaa
open Go.RowKit Go.ChangeShapes Go.WideShapes Go.ChangeAt Go.Deep Go.MapKept
set_option linter.unusedVariables false

set_option maxHeartbeats 6400000 in
theorem rwith_any (w : World) {G : List Nat} {A : Option Addr} {m c : Nat} {l : List (Bs × Nat)} (h : NmArr w G (.slice A m c) l) (x : Bs) (f : Nat) (hm : m ≤ 1000) :
    Calls Try.prog 73 #[.slice A m c, .string (strOf x), .int .i64 (f : Nat)] w fun e w' => ∃ A' m' c', e = .returned (.slice A' m' c') ∧ NmV w w' (.slice A' m' c') (wiM l x f) := by
  have H := Lib.hid h
  have A1 := Lib.hid (arr_lens h).1
  clear h
  obtain ⟨r, hr⟩ : ∃ r, wiM l x f = r := ⟨_, rfl⟩
  rw [hr]
  have HW := Lib.hid (fun j => wi_at (l := l) (x := x) (f := f) (j := j))
  rw [hr] at HW
  clear hr
  go_enter Try.func73, Try.ntmps73
  go_wp2_with (first
    | (go_at_call 72
       refine (rwithout_any w H.out x hm).mono ?_
       rintro e w1 ⟨A9, m9, c9, rfl, hv⟩
       have HV := Lib.hid hv
       clear hv))
  have HLD := Lib.hid (show (delM l x).length ≤ 1000 by have := delN_len l x; have := A1.out; omega)
  obtain ⟨k, hk⟩ : ∃ k, delM l x = k := ⟨_, rfl⟩
  rw [hk] at HW
  rw [hk] at HV HLD
  clear hk
  have KW := Lib.hid (LV.kept HV.out)
  have VF := Lib.hid (lv_form HV.out)
  have VA := Lib.hid (lv_arr NmOk (fun h => h) HV.out)
  have ml := (arr_lens VA.out.1).1
  have m1 := HLD.out
  have m2 := (arr_lens VA.out.1).2.1
  have m3 := (arr_lens VA.out.1).2.2.1
  unfold maxLen at m3
  have ML := Lib.hid ml
  rw [ml] at m1
  clear ml
  go_loopg [7] m9 (fun gg i wr => ∃ j : Nat, j ≤ m9 ∧ gg = m9 - j ∧ i = .int .i64 (j : Nat) ∧ (∀ q ∈ k.take j, q.1 < x) ∧ wr = w1)
  case atStart => exact ⟨0, by omega, by omega, rfl, by simp, rfl⟩
  case round =>
    obtain ⟨j, hj, rfl, rfl, hs, rfl⟩ := hrel
    have HS := Lib.hid hs
    clear hs
    have ty := strOf_toList x
    have i0 : (0 : Int) ≤ (j : Int) := by omega
    have i2 : (j : Int) ≤ (m9 : Int) := by omega
    have i3 : (j : Int) ≤ (c9 : Int) := by omega
    have i4 : (m9 : Int) ≤ (c9 : Int) := by omega
    rcases VF.out with ⟨hv0, rfl⟩ | ⟨g, cc, hv0, _, _, hg, _⟩
    · injection hv0 with e1 e2 e3
      subst e1 e2 e3
      obtain rfl : j = 0 := by omega
      have FIN := Lib.hid (HW.out 0 (by simp) (by simp) (by simp))
      have i1 : ¬ (0 : Int) < (0 : Int) := by omega
      have i9 : (((0 : Nat) : Int) < ((0 : Nat) : Int)) = False := by simp
      have TX := Lib.hid (arr_none wr (rowOf (.slice none 0 0)) 2 _ 0 rfl : NmArr wr (rowOf (.slice none 0 0)) (.slice none 0 0) [])
      have RX := Lib.hid (arr_none wr (rowOf (.slice none 0 0)) 2 _ 0 rfl : NmArr wr (rowOf (.slice none 0 0)) (.slice none 0 0) [])
      go_upto_region 5 with fail
      have HL1 := Lib.hid (show ([] : List (Bs × Nat)).length + (([] : List (Bs × Nat)).take 0).length ≤ 100000 by have := HLD.out; (first | (simp; done) | (simp; omega)))
      have HL2 := Lib.hid (show ([] ++ ([] : List (Bs × Nat)).take 0 : List (Bs × Nat)).length + [(x, f)].length ≤ 100000 by have := HLD.out; (first | (simp; done) | (simp; omega)))
      have HL3 := Lib.hid (show ([] ++ ([] : List (Bs × Nat)).take 0 ++ [(x, f)] : List (Bs × Nat)).length + (([] : List (Bs × Nat)).drop 0).length ≤ 100000 by have := HLD.out; (first | (simp; done) | (simp; omega)))
      have HG := Lib.hid (fun q hq => (VA.out.2.1 q hq).2)
      have TD := Lib.hid (NmArr.kept TX.out ((Kept.refl [] wr).drew) (by simp))
      have RD := Lib.hid (NmArr.kept RX.out ((Kept.refl [] wr).drew) (by simp))
      refine wp_region_held_drew (S := (fun _ => True)) (by kernel_rfl) (trivial) (fun hHeld => ?_)
      refine wpAnyH_take (i := 0) (oi := ⟨some 26, _, _, _, _, _⟩) (v := ?vh1_1) rfl (by kernel_rfl) (by kernel_rfl) (by kernel_rfl) (fun _ _ _ h => h) (Or.inl ⟨by kernel_rfl, ?hyh1_1⟩) (by assumption) ?resth1_1
      case hyh1_1 => (intro w99 hSw; (try dsimp only at hSw); (try go_simp); (try with_reducible rfl); (try omega))
      simp only [Act.put, List.setIfInBounds_toArray, List.set_cons_zero, List.set_cons_succ]
      refine wpAnyH_take (i := 1) (oi := ⟨some 27, _, _, _, _, _⟩) (v := ?vh1_2) rfl (by kernel_rfl) (by kernel_rfl) (by kernel_rfl) (fun _ _ _ h => h) (Or.inl ⟨by kernel_rfl, ?hyh1_2⟩) (by assumption) ?resth1_2
      case hyh1_2 => (intro w99 hSw; (try dsimp only at hSw); (try go_simp); (try with_reducible rfl); (try omega))
      simp only [Act.put, List.setIfInBounds_toArray, List.set_cons_zero, List.set_cons_succ]
      refine wpAnyH_take (i := 2) (oi := ⟨some 28, _, _, _, _, _⟩) (v := ?vh1_3) rfl (by kernel_rfl) (by kernel_rfl) (by kernel_rfl) (fun _ _ _ h => h) (Or.inl ⟨by kernel_rfl, ?hyh1_3⟩) (by assumption) ?resth1_3
      case hyh1_3 => (intro w99 hSw; (try dsimp only at hSw); (try go_simp); (try with_reducible rfl); (try omega))
      simp only [Act.put, List.setIfInBounds_toArray, List.set_cons_zero, List.set_cons_succ]
      refine wpAnyH_take (i := 4) (oi := ⟨some 30, _, _, _, _, _⟩) (v := ?vh1_4) rfl (by kernel_rfl) (by kernel_rfl) (by kernel_rfl) (fun _ _ _ h => h) (Or.inl ⟨by kernel_rfl, ?hyh1_4⟩) (by assumption) ?resth1_4
      case hyh1_4 => (intro w99 hSw; (try dsimp only at hSw); (try go_simp); (try with_reducible rfl); (try omega))
      simp only [Act.put, List.setIfInBounds_toArray, List.set_cons_zero, List.set_cons_succ]
      refine wpAnyH_take (i := 5) (oi := ⟨some 31, _, _, _, _, _⟩) (v := ?vh1_5) rfl (by kernel_rfl) (by kernel_rfl) (by kernel_rfl) (fun _ _ _ h => h) (Or.inl ⟨by kernel_rfl, ?hyh1_5⟩) (by assumption) ?resth1_5
      case hyh1_5 => (intro w99 hSw; (try dsimp only at hSw); (try go_simp); (try with_reducible rfl); (try omega))
      simp only [Act.put, List.setIfInBounds_toArray, List.set_cons_zero, List.set_cons_succ]
      refine wpAnyH_take (i := 6) (oi := ⟨some 32, _, _, _, _, _⟩) (v := ?vh1_6) rfl (by kernel_rfl) (by kernel_rfl) (by kernel_rfl) (fun _ _ _ h => h) (Or.inl ⟨by kernel_rfl, ?hyh1_6⟩) (by assumption) ?resth1_6
      case hyh1_6 => (intro w99 hSw; (try dsimp only at hSw); (try go_simp); (try with_reducible rfl); (try omega))
      simp only [Act.put, List.setIfInBounds_toArray, List.set_cons_zero, List.set_cons_succ]
      refine wpAnyH_take (i := 9) (oi := ⟨some 35, _, _, _, _, _⟩) (v := ?vh1_7) rfl (by kernel_rfl) (by kernel_rfl) (by kernel_rfl) (fun _ _ _ h => h) (Or.inl ⟨by kernel_rfl, ?hyh1_7⟩) (by assumption) ?resth1_7
      case hyh1_7 => (intro w99 hSw; (try dsimp only at hSw); (try go_simp); (try with_reducible rfl); (try omega))
      simp only [Act.put, List.setIfInBounds_toArray, List.set_cons_zero, List.set_cons_succ]
      refine wpAnyH_take (i := 10) (oi := ⟨some 36, _, _, _, _, _⟩) (v := ?vh1_8) rfl (by kernel_rfl) (by kernel_rfl) (by kernel_rfl) (fun _ _ _ h => h) (Or.inl ⟨by kernel_rfl, ?hyh1_8⟩) (by assumption) ?resth1_8
      case hyh1_8 => (intro w99 hSw; (try dsimp only at hSw); (try go_simp); (try with_reducible rfl); (try omega))
      simp only [Act.put, List.setIfInBounds_toArray, List.set_cons_zero, List.set_cons_succ]
      refine wpAnyH_take (i := 11) (oi := ⟨some 37, _, _, _, _, _⟩) (v := ?vh1_9) rfl (by kernel_rfl) (by kernel_rfl) (by kernel_rfl) (fun _ _ _ h => h) (Or.inl ⟨by kernel_rfl, ?hyh1_9⟩) (by assumption) ?resth1_9
      case hyh1_9 => (intro w99 hSw; (try dsimp only at hSw); (try go_simp); (try with_reducible rfl); (try omega))
      simp only [Act.put, List.setIfInBounds_toArray, List.set_cons_zero, List.set_cons_succ]
      refine wpAnyH_ready (rs := [3, 7]) (by kernel_rfl) (by simp) ?_
      refine AllReadyH.cons (o := ⟨some 29, _, _, _, _, _⟩) rfl (fun KQ hKQ => ?w3h1_10) (AllReadyH.cons (o := ⟨some 33, _, _, _, _, _⟩) rfl (fun KQ hKQ => ?w7h1_10) AllReadyH.nil)
      case w3h1_10 =>
        refine step_lvs (W := wr) (w0 := wr.drew) (sl := .slice none 0 0) (l := []) (l2 := ([] : List (Bs × Nat)).take 0) NmOk elem_nm (fun h => h) (by omega) rfl (.const (.slice none 0 0)) (.tmp 28) rfl (by first | (simp [Act.eval]; done) | (simp [Act.eval]; rfl) | rfl) (LV.nil ((Kept.refl [] wr).drew)) (by first | (simp [Act.eval]; done) | (simp [Act.eval]; rfl) | rfl) TD.out HL1.out ?_
        intro A9 m9 c9 w9 h9 k9 r9
        have K9 := Lib.hid (show Kept [] wr.drew w9 from k9)
        have H9 := Lib.hid h9
        clear h9 k9 r9
        refine hKQ.out _ _ (trivial) (fun hHeld9 => ?_)
        clear hKQ KQ hHeld
        have hHeld := hHeld9
        clear hHeld9
        try simp only [Act.put, List.setIfInBounds_toArray, List.set_cons_zero, List.set_cons_succ]
        refine wpAnyH_ready (rs := [7]) (by kernel_rfl) (by simp) ?_
        refine AllReadyH.cons (o := ⟨some 33, _, _, _, _, _⟩) rfl (fun KQ hKQ => ?w7h1_11) AllReadyH.nil
        case w7h1_11 =>
          go_simp
          refine hKQ.out _ _ (trivial) (fun hHeld9 => ?_)
          clear hKQ KQ hHeld
          have hHeld := hHeld9
          clear hHeld9
          try simp only [Act.put, List.setIfInBounds_toArray, List.set_cons_zero, List.set_cons_succ]
          refine wpAnyH_ready (rs := [8]) (by kernel_rfl) (by simp) ?_
          refine AllReadyH.cons (o := ⟨some 34, _, _, _, _, _⟩) rfl (fun KQ hKQ => ?w8h1_12) AllReadyH.nil
          case w8h1_12 =>
            refine step_lvs (W := wr) (w0 := (w9.alloc (.cells #[.string (strOf x), .int .i64 (f : Nat)] 89))) (sl := .slice A9 m9 c9) (l := [] ++ ([] : List (Bs × Nat)).take 0) (l2 := [(x, f)]) NmOk elem_nm (fun h => h) (by omega) rfl (.tmp 29) (.tmp 33) rfl (by first | (simp [Act.eval]; done) | (simp [Act.eval]; rfl) | rfl) (LV.go NmOk H9.out ((Kept.refl [] w9).alloc _)) (by first | (simp [Act.eval]; done) | (simp [Act.eval]; rfl) | rfl) (arr_blk (Blk.new w9 _ _) rfl rfl) HL2.out ?_
            intro A10 m10 c10 w10 h10 k10 r10
            have RX10 := Lib.hid (NmArr.kept (NmArr.kept RD.out (K9.out.alloc (.cells #[.string (strOf x), .int .i64 (f : Nat)] 89)) (by simp)) k10 (fun k hk hm => by have h1 := HG.out k hk; have h2 := (r10 k hm).1; omega))
            have K10 := Lib.hid (Kept.trans (K9.out.alloc (.cells #[.string (strOf x), .int .i64 (f : Nat)] 89)) k10 (fun k hm => .inr (r10 k hm).1) : Kept [] wr.drew w10)
            have H10 := Lib.hid h10
            clear h10 k10 r10
            refine hKQ.out _ _ (trivial) (fun hHeld9 => ?_)
            clear hKQ KQ hHeld
            have hHeld := hHeld9
            clear hHeld9
            try simp only [Act.put, List.setIfInBounds_toArray, List.set_cons_zero, List.set_cons_succ]
            refine wpAnyH_ready (rs := [12]) (by kernel_rfl) (by simp) ?_
            refine AllReadyH.cons (o := ⟨some 38, _, _, _, _, _⟩) rfl (fun KQ hKQ => ?w12h1_13) AllReadyH.nil
            case w12h1_13 =>
              refine step_lvs (W := wr) (w0 := w10) (sl := .slice A10 m10 c10) (l := [] ++ ([] : List (Bs × Nat)).take 0 ++ [(x, f)]) (l2 := ([] : List (Bs × Nat)).drop 0) NmOk elem_nm (fun h => h) (by omega) rfl (.tmp 34) (.tmp 37) rfl (by first | (simp [Act.eval]; done) | (simp [Act.eval]; rfl) | rfl) H10.out (by first | (simp [Act.eval]; done) | (simp [Act.eval]; rfl) | rfl) RX10.out HL3.out ?_
              intro A11 m11 c11 w11 h11 k11 r11
              have H11 := Lib.hid h11
              have K11 := Lib.hid (Kept.trans K10.out k11 (fun k hm => .inr (r11 k hm).1) : Kept [] wr.drew w11)
              clear h11 k11 r11
              refine hKQ.out _ _ (trivial) (fun hHeld9 => ?_)
              clear hKQ KQ hHeld
              have hHeld := hHeld9
              clear hHeld9
              try simp only [Act.put, List.setIfInBounds_toArray, List.set_cons_zero, List.set_cons_succ]
              refine wpAnyH_take (i := 13) (oi := ⟨some 6, _, _, _, _, _⟩) (v := ?vh1_14) rfl (by kernel_rfl) (by kernel_rfl) (by kernel_rfl) (fun _ _ _ h => h) (Or.inl ⟨by kernel_rfl, ?hyh1_14⟩) (by assumption) ?resth1_14
              case hyh1_14 => (intro w99 hSw; (try dsimp only at hSw); (try go_simp); (try with_reducible rfl); (try omega))
              simp only [Act.put, List.setIfInBounds_toArray, List.set_cons_zero, List.set_cons_succ]
              refine wpAnyH_done (by kernel_rfl) ?_ _
              clear hHeld
              go_wp2
              go_ret
              exact ⟨_, _, _, rfl, by have h1 := H11.out; rw [FIN.out]; simpa using LV.wide h1 KW.out⟩
      case w7h1_10 =>
        go_simp
        refine hKQ.out _ _ (trivial) (fun hHeld9 => ?_)
        clear hKQ KQ hHeld
        have hHeld := hHeld9
        clear hHeld9
        try simp only [Act.put, List.setIfInBounds_toArray, List.set_cons_zero, List.set_cons_succ]
        refine wpAnyH_ready (rs := [3]) (by kernel_rfl) (by simp) ?_
        refine AllReadyH.cons (o := ⟨some 29, _, _, _, _, _⟩) rfl (fun KQ hKQ => ?w3h1_15) AllReadyH.nil
        case w3h1_15 =>
          refine step_lvs (W := wr) (w0 := (wr.drew.alloc (.cells #[.string (strOf x), .int .i64 (f : Nat)] 89))) (sl := .slice none 0 0) (l := []) (l2 := ([] : List (Bs × Nat)).take 0) NmOk elem_nm (fun h => h) (by omega) rfl (.const (.slice none 0 0)) (.tmp 28) rfl (by first | (simp [Act.eval]; done) | (simp [Act.eval]; rfl) | rfl) (LV.nil (((Kept.refl [] wr).drew).alloc _)) (by first | (simp [Act.eval]; done) | (simp [Act.eval]; rfl) | rfl) (NmArr.kept TD.out ((Kept.refl [] _).alloc _) (by simp)) HL1.out ?_
          intro A9 m9 c9 w9 h9 k9 r9
          have K9 := Lib.hid (Kept.trans (S := []) ((Kept.refl [] wr.drew).alloc (.cells #[.string (strOf x), .int .i64 (f : Nat)] 89)) (show Kept [] _ w9 from k9) (by simp))
          have BN9 := Lib.hid ((Blk.new wr.drew _ _).kept (S := []) (show Kept [] (wr.drew.alloc (.cells #[.string (strOf x), .int .i64 (f : Nat)] 89)) w9 from k9) (by simp))
          have H9 := Lib.hid h9
          clear h9 k9 r9
          refine hKQ.out _ _ (trivial) (fun hHeld9 => ?_)
          clear hKQ KQ hHeld
          have hHeld := hHeld9
          clear hHeld9
          try simp only [Act.put, List.setIfInBounds_toArray, List.set_cons_zero, List.set_cons_succ]
          refine wpAnyH_ready (rs := [8]) (by kernel_rfl) (by simp) ?_
          refine AllReadyH.cons (o := ⟨some 34, _, _, _, _, _⟩) rfl (fun KQ hKQ => ?w8h1_16) AllReadyH.nil
          case w8h1_16 =>
            refine step_lvs (W := wr) (w0 := w9) (sl := .slice A9 m9 c9) (l := [] ++ ([] : List (Bs × Nat)).take 0) (l2 := [(x, f)]) NmOk elem_nm (fun h => h) (by omega) rfl (.tmp 29) (.tmp 33) rfl (by first | (simp [Act.eval]; done) | (simp [Act.eval]; rfl) | rfl) H9.out (by first | (simp [Act.eval]; done) | (simp [Act.eval]; rfl) | rfl) (arr_blk BN9.out rfl rfl) HL2.out ?_
            intro A10 m10 c10 w10 h10 k10 r10
            have RX10 := Lib.hid (NmArr.kept (NmArr.kept RD.out K9.out (by simp)) k10 (fun k hk hm => by have h1 := HG.out k hk; have h2 := (r10 k hm).1; omega))
            have K10 := Lib.hid (Kept.trans K9.out k10 (fun k hm => .inr (r10 k hm).1) : Kept [] wr.drew w10)
            have H10 := Lib.hid h10
            clear h10 k10 r10
            refine hKQ.out _ _ (trivial) (fun hHeld9 => ?_)
            clear hKQ KQ hHeld
            have hHeld := hHeld9
            clear hHeld9
            try simp only [Act.put, List.setIfInBounds_toArray, List.set_cons_zero, List.set_cons_succ]
            refine wpAnyH_ready (rs := [12]) (by kernel_rfl) (by simp) ?_
            refine AllReadyH.cons (o := ⟨some 38, _, _, _, _, _⟩) rfl (fun KQ hKQ => ?w12h1_17) AllReadyH.nil
            case w12h1_17 =>
              refine step_lvs (W := wr) (w0 := w10) (sl := .slice A10 m10 c10) (l := [] ++ ([] : List (Bs × Nat)).take 0 ++ [(x, f)]) (l2 := ([] : List (Bs × Nat)).drop 0) NmOk elem_nm (fun h => h) (by omega) rfl (.tmp 34) (.tmp 37) rfl (by first | (simp [Act.eval]; done) | (simp [Act.eval]; rfl) | rfl) H10.out (by first | (simp [Act.eval]; done) | (simp [Act.eval]; rfl) | rfl) RX10.out HL3.out ?_
              intro A11 m11 c11 w11 h11 k11 r11
              have H11 := Lib.hid h11
              have K11 := Lib.hid (Kept.trans K10.out k11 (fun k hm => .inr (r11 k hm).1) : Kept [] wr.drew w11)
              clear h11 k11 r11
              refine hKQ.out _ _ (trivial) (fun hHeld9 => ?_)
              clear hKQ KQ hHeld
              have hHeld := hHeld9
              clear hHeld9
              try simp only [Act.put, List.setIfInBounds_toArray, List.set_cons_zero, List.set_cons_succ]
              refine wpAnyH_take (i := 13) (oi := ⟨some 6, _, _, _, _, _⟩) (v := ?vh1_18) rfl (by kernel_rfl) (by kernel_rfl) (by kernel_rfl) (fun _ _ _ h => h) (Or.inl ⟨by kernel_rfl, ?hyh1_18⟩) (by assumption) ?resth1_18
              case hyh1_18 => (intro w99 hSw; (try dsimp only at hSw); (try go_simp); (try with_reducible rfl); (try omega))
              simp only [Act.put, List.setIfInBounds_toArray, List.set_cons_zero, List.set_cons_succ]
              refine wpAnyH_done (by kernel_rfl) ?_ _
              clear hHeld
              go_wp2
              go_ret
              exact ⟨_, _, _, rfl, by have h1 := H11.out; rw [FIN.out]; simpa using LV.wide h1 KW.out⟩
    · injection hv0 with e1 e2 e3
      subst e1 e3
      clear e2
      have X1 := Lib.hid (show NmArr wr (rowOf (.slice (some ⟨g, 0, none⟩) m9 c9)) (.slice (some ⟨g, j * 2, none⟩) (m9 - j) (c9 - j)) (k.drop j) by have := arr_drop (k := j) VA.out.1 hj; rw [Nat.zero_add] at this; exact this)
      by_cases hlt : j < m9
      · obtain ⟨q, hq⟩ : ∃ q, k[j]? = some q := ⟨_, List.getElem?_eq_getElem (by rw [ML.out]; exact hlt)⟩
        obtain ⟨g', o', hgo, hg', hgG, d0, d1⟩ := NmArr.at VA.out.1 hq
        injection hgo with hgo
        injection hgo with e1 e2
        subst e1 e2
        rw [Nat.zero_add] at d0 d1
        have i1 : (j : Int) < (m9 : Int) := by omega
        have iw : IntKind.i64.wrap ((j : Int) + 1) = (j : Int) + 1 := IntWalk.i64_in _ (by omega)
        have HQ := Lib.hid hq
        have tx := strOf_toList q.1
        have bl := bytesLess_eq q.1 x
        have hcj : ¬ c9 = j := by omega
        clear hq
        by_cases hx : q.1 < x
        · have hx' : Op.bytesLess q.1 x = true := by rw [bl]; exact decide_eq_true hx
          have HX := Lib.hid hx
          clear hx bl
          go_wp2
          go_roundg (m9 - (j + 1))
          case measure => omega
          case rel => exact ⟨j + 1, by omega, rfl, by go_num, by
            intro q' hq'
            rw [List.take_add_one, HQ.out] at hq'
            rcases List.mem_append.1 hq' with h1 | h1
            · exact HS.out q' h1
            · simp at h1; subst h1; exact HX.out, rfl⟩
        · have hx' : Op.bytesLess q.1 x = false := by rw [bl]; exact decide_eq_false hx
          have FIN := Lib.hid (HW.out j HS.out (fun q' hq' => by rw [HQ.out] at hq'; injection hq' with hq'; subst hq'; exact hx) (by rw [ML.out]; exact hj))
          clear hx bl
          go_upto_region 5 with fail
          have TX := Lib.hid (arr_take (k := j) VA.out.1 hj : NmArr wr _ (.slice (some ⟨g, 0, none⟩) j c9) (k.take j))
          have RX := Lib.hid (X1.out : NmArr wr _ (.slice (some ⟨g, j * 2, none⟩) (m9 - j) (c9 - j)) (k.drop j))
          clear X1
          have C1 := Lib.hid VA.out.1
          have HL1 := Lib.hid (show ([] : List (Bs × Nat)).length + (k.take j).length ≤ 100000 by have := HLD.out; (first | (simp; done) | (simp; omega)))
          have HL2 := Lib.hid (show ([] ++ k.take j : List (Bs × Nat)).length + [(x, f)].length ≤ 100000 by have := HLD.out; (first | (simp; done) | (simp; omega)))
          have HL3 := Lib.hid (show ([] ++ k.take j ++ [(x, f)] : List (Bs × Nat)).length + (k.drop j).length ≤ 100000 by have := HLD.out; (first | (simp; done) | (simp; omega)))
          have HG := Lib.hid (fun q hq => (VA.out.2.1 q hq).2)
          have TD := Lib.hid (NmArr.kept TX.out ((Kept.refl [] wr).drew) (by simp))
          have RD := Lib.hid (NmArr.kept RX.out ((Kept.refl [] wr).drew) (by simp))
          refine wp_region_held_drew (S := (fun _ => True)) (by kernel_rfl) (trivial) (fun hHeld => ?_)
          refine wpAnyH_take (i := 0) (oi := ⟨some 26, _, _, _, _, _⟩) (v := ?vh2_1) rfl (by kernel_rfl) (by kernel_rfl) (by kernel_rfl) (fun _ _ _ h => h) (Or.inl ⟨by kernel_rfl, ?hyh2_1⟩) (by assumption) ?resth2_1
          case hyh2_1 => (intro w99 hSw; (try dsimp only at hSw); (try go_simp); (try with_reducible rfl); (try omega))
          simp only [Act.put, List.setIfInBounds_toArray, List.set_cons_zero, List.set_cons_succ]
          refine wpAnyH_take (i := 1) (oi := ⟨some 27, _, _, _, _, _⟩) (v := ?vh2_2) rfl (by kernel_rfl) (by kernel_rfl) (by kernel_rfl) (fun _ _ _ h => h) (Or.inl ⟨by kernel_rfl, ?hyh2_2⟩) (by assumption) ?resth2_2
          case hyh2_2 => (intro w99 hSw; (try dsimp only at hSw); (try go_simp); (try with_reducible rfl); (try omega))
          simp only [Act.put, List.setIfInBounds_toArray, List.set_cons_zero, List.set_cons_succ]
          refine wpAnyH_take (i := 2) (oi := ⟨some 28, _, _, _, _, _⟩) (v := ?vh2_3) rfl (by kernel_rfl) (by kernel_rfl) (by kernel_rfl) (fun _ _ _ h => h) (Or.inl ⟨by kernel_rfl, ?hyh2_3⟩) (by assumption) ?resth2_3
          case hyh2_3 => (intro w99 hSw; (try dsimp only at hSw); (try go_simp); (try with_reducible rfl); (try omega))
          simp only [Act.put, List.setIfInBounds_toArray, List.set_cons_zero, List.set_cons_succ]
          refine wpAnyH_take (i := 4) (oi := ⟨some 30, _, _, _, _, _⟩) (v := ?vh2_4) rfl (by kernel_rfl) (by kernel_rfl) (by kernel_rfl) (fun _ _ _ h => h) (Or.inl ⟨by kernel_rfl, ?hyh2_4⟩) (by assumption) ?resth2_4
          case hyh2_4 => (intro w99 hSw; (try dsimp only at hSw); (try go_simp); (try with_reducible rfl); (try omega))
          simp only [Act.put, List.setIfInBounds_toArray, List.set_cons_zero, List.set_cons_succ]
          refine wpAnyH_take (i := 5) (oi := ⟨some 31, _, _, _, _, _⟩) (v := ?vh2_5) rfl (by kernel_rfl) (by kernel_rfl) (by kernel_rfl) (fun _ _ _ h => h) (Or.inl ⟨by kernel_rfl, ?hyh2_5⟩) (by assumption) ?resth2_5
          case hyh2_5 => (intro w99 hSw; (try dsimp only at hSw); (try go_simp); (try with_reducible rfl); (try omega))
          simp only [Act.put, List.setIfInBounds_toArray, List.set_cons_zero, List.set_cons_succ]
          refine wpAnyH_take (i := 6) (oi := ⟨some 32, _, _, _, _, _⟩) (v := ?vh2_6) rfl (by kernel_rfl) (by kernel_rfl) (by kernel_rfl) (fun _ _ _ h => h) (Or.inl ⟨by kernel_rfl, ?hyh2_6⟩) (by assumption) ?resth2_6
          case hyh2_6 => (intro w99 hSw; (try dsimp only at hSw); (try go_simp); (try with_reducible rfl); (try omega))
          simp only [Act.put, List.setIfInBounds_toArray, List.set_cons_zero, List.set_cons_succ]
          refine wpAnyH_take (i := 9) (oi := ⟨some 35, _, _, _, _, _⟩) (v := ?vh2_7) rfl (by kernel_rfl) (by kernel_rfl) (by kernel_rfl) (fun _ _ _ h => h) (Or.inl ⟨by kernel_rfl, ?hyh2_7⟩) (by assumption) ?resth2_7
          case hyh2_7 => (intro w99 hSw; (try dsimp only at hSw); (try go_simp); (try with_reducible rfl); (try omega))
          simp only [Act.put, List.setIfInBounds_toArray, List.set_cons_zero, List.set_cons_succ]
          refine wpAnyH_take (i := 10) (oi := ⟨some 36, _, _, _, _, _⟩) (v := ?vh2_8) rfl (by kernel_rfl) (by kernel_rfl) (by kernel_rfl) (fun _ _ _ h => h) (Or.inl ⟨by kernel_rfl, ?hyh2_8⟩) (by assumption) ?resth2_8
          case hyh2_8 => (intro w99 hSw; (try dsimp only at hSw); (try go_simp); (try with_reducible rfl); (try omega))
          simp only [Act.put, List.setIfInBounds_toArray, List.set_cons_zero, List.set_cons_succ]
          refine wpAnyH_take (i := 11) (oi := ⟨some 37, _, _, _, _, _⟩) (v := ?vh2_9) rfl (by kernel_rfl) (by kernel_rfl) (by kernel_rfl) (fun _ _ _ h => h) (Or.inl ⟨by kernel_rfl, ?hyh2_9⟩) (by assumption) ?resth2_9
          case hyh2_9 => (intro w99 hSw; (try dsimp only at hSw); (try go_simp); (try with_reducible rfl); (try omega))
          simp only [Act.put, List.setIfInBounds_toArray, List.set_cons_zero, List.set_cons_succ]
          refine wpAnyH_ready (rs := [3, 7]) (by kernel_rfl) (by simp) ?_
          refine AllReadyH.cons (o := ⟨some 29, _, _, _, _, _⟩) rfl (fun KQ hKQ => ?w3h2_10) (AllReadyH.cons (o := ⟨some 33, _, _, _, _, _⟩) rfl (fun KQ hKQ => ?w7h2_10) AllReadyH.nil)
          case w3h2_10 =>
            refine step_lvs (W := wr) (w0 := wr.drew) (sl := .slice none 0 0) (l := []) (l2 := k.take j) NmOk elem_nm (fun h => h) (by omega) rfl (.const (.slice none 0 0)) (.tmp 28) rfl (by first | (simp [Act.eval]; done) | (simp [Act.eval]; rfl) | rfl) (LV.nil ((Kept.refl [] wr).drew)) (by first | (simp [Act.eval]; done) | (simp [Act.eval]; rfl) | rfl) TD.out HL1.out ?_
            intro A9 m9 c9 w9 h9 k9 r9
            have K9 := Lib.hid (show Kept [] wr.drew w9 from k9)
            have H9 := Lib.hid h9
            clear h9 k9 r9
            refine hKQ.out _ _ (trivial) (fun hHeld9 => ?_)
            clear hKQ KQ hHeld
            have hHeld := hHeld9
            clear hHeld9
            try simp only [Act.put, List.setIfInBounds_toArray, List.set_cons_zero, List.set_cons_succ]
            refine wpAnyH_ready (rs := [7]) (by kernel_rfl) (by simp) ?_
            refine AllReadyH.cons (o := ⟨some 33, _, _, _, _, _⟩) rfl (fun KQ hKQ => ?w7h2_11) AllReadyH.nil
            case w7h2_11 =>
              go_simp
              refine hKQ.out _ _ (trivial) (fun hHeld9 => ?_)
              clear hKQ KQ hHeld
              have hHeld := hHeld9
              clear hHeld9
              try simp only [Act.put, List.setIfInBounds_toArray, List.set_cons_zero, List.set_cons_succ]
              refine wpAnyH_ready (rs := [8]) (by kernel_rfl) (by simp) ?_
              refine AllReadyH.cons (o := ⟨some 34, _, _, _, _, _⟩) rfl (fun KQ hKQ => ?w8h2_12) AllReadyH.nil
              case w8h2_12 =>
                refine step_lvs (W := wr) (w0 := (w9.alloc (.cells #[.string (strOf x), .int .i64 (f : Nat)] 89))) (sl := .slice A9 m9 c9) (l := [] ++ k.take j) (l2 := [(x, f)]) NmOk elem_nm (fun h => h) (by omega) rfl (.tmp 29) (.tmp 33) rfl (by first | (simp [Act.eval]; done) | (simp [Act.eval]; rfl) | rfl) (LV.go NmOk H9.out ((Kept.refl [] w9).alloc _)) (by first | (simp [Act.eval]; done) | (simp [Act.eval]; rfl) | rfl) (arr_blk (Blk.new w9 _ _) rfl rfl) HL2.out ?_
                intro A10 m10 c10 w10 h10 k10 r10
                have RX10 := Lib.hid (NmArr.kept (NmArr.kept RD.out (K9.out.alloc (.cells #[.string (strOf x), .int .i64 (f : Nat)] 89)) (by simp)) k10 (fun k hk hm => by have h1 := HG.out k hk; have h2 := (r10 k hm).1; omega))
                have K10 := Lib.hid (Kept.trans (K9.out.alloc (.cells #[.string (strOf x), .int .i64 (f : Nat)] 89)) k10 (fun k hm => .inr (r10 k hm).1) : Kept [] wr.drew w10)
                have H10 := Lib.hid h10
                clear h10 k10 r10
                refine hKQ.out _ _ (trivial) (fun hHeld9 => ?_)
                clear hKQ KQ hHeld
                have hHeld := hHeld9
                clear hHeld9
                try simp only [Act.put, List.setIfInBounds_toArray, List.set_cons_zero, List.set_cons_succ]
                refine wpAnyH_ready (rs := [12]) (by kernel_rfl) (by simp) ?_
                refine AllReadyH.cons (o := ⟨some 38, _, _, _, _, _⟩) rfl (fun KQ hKQ => ?w12h2_13) AllReadyH.nil
                case w12h2_13 =>
                  refine step_lvs (W := wr) (w0 := w10) (sl := .slice A10 m10 c10) (l := [] ++ k.take j ++ [(x, f)]) (l2 := k.drop j) NmOk elem_nm (fun h => h) (by omega) rfl (.tmp 34) (.tmp 37) rfl (by first | (simp [Act.eval]; done) | (simp [Act.eval]; rfl) | rfl) H10.out (by first | (simp [Act.eval]; done) | (simp [Act.eval]; rfl) | rfl) RX10.out HL3.out ?_
                  intro A11 m11 c11 w11 h11 k11 r11
                  have H11 := Lib.hid h11
                  have K11 := Lib.hid (Kept.trans K10.out k11 (fun k hm => .inr (r11 k hm).1) : Kept [] wr.drew w11)
                  clear h11 k11 r11
                  refine hKQ.out _ _ (trivial) (fun hHeld9 => ?_)
                  clear hKQ KQ hHeld
                  have hHeld := hHeld9
                  clear hHeld9
                  try simp only [Act.put, List.setIfInBounds_toArray, List.set_cons_zero, List.set_cons_succ]
                  refine wpAnyH_take (i := 13) (oi := ⟨some 6, _, _, _, _, _⟩) (v := ?vh2_14) rfl (by kernel_rfl) (by kernel_rfl) (by kernel_rfl) (fun _ _ _ h => h) (Or.inl ⟨by kernel_rfl, ?hyh2_14⟩) (by assumption) ?resth2_14
                  case hyh2_14 => (intro w99 hSw; (try dsimp only at hSw); (try go_simp); (try with_reducible rfl); (try omega))
                  simp only [Act.put, List.setIfInBounds_toArray, List.set_cons_zero, List.set_cons_succ]
                  refine wpAnyH_done (by kernel_rfl) ?_ _
                  clear hHeld
                  go_wp2
                  go_ret
                  exact ⟨_, _, _, rfl, by have h1 := H11.out; rw [FIN.out]; simpa using LV.wide h1 KW.out⟩
          case w7h2_10 =>
            go_simp
            refine hKQ.out _ _ (trivial) (fun hHeld9 => ?_)
            clear hKQ KQ hHeld
            have hHeld := hHeld9
            clear hHeld9
            try simp only [Act.put, List.setIfInBounds_toArray, List.set_cons_zero, List.set_cons_succ]
            refine wpAnyH_ready (rs := [3]) (by kernel_rfl) (by simp) ?_
            refine AllReadyH.cons (o := ⟨some 29, _, _, _, _, _⟩) rfl (fun KQ hKQ => ?w3h2_15) AllReadyH.nil
            case w3h2_15 =>
              refine step_lvs (W := wr) (w0 := (wr.drew.alloc (.cells #[.string (strOf x), .int .i64 (f : Nat)] 89))) (sl := .slice none 0 0) (l := []) (l2 := k.take j) NmOk elem_nm (fun h => h) (by omega) rfl (.const (.slice none 0 0)) (.tmp 28) rfl (by first | (simp [Act.eval]; done) | (simp [Act.eval]; rfl) | rfl) (LV.nil (((Kept.refl [] wr).drew).alloc _)) (by first | (simp [Act.eval]; done) | (simp [Act.eval]; rfl) | rfl) (NmArr.kept TD.out ((Kept.refl [] _).alloc _) (by simp)) HL1.out ?_
              intro A9 m9 c9 w9 h9 k9 r9
              have K9 := Lib.hid (Kept.trans (S := []) ((Kept.refl [] wr.drew).alloc (.cells #[.string (strOf x), .int .i64 (f : Nat)] 89)) (show Kept [] _ w9 from k9) (by simp))
              have BN9 := Lib.hid ((Blk.new wr.drew _ _).kept (S := []) (show Kept [] (wr.drew.alloc (.cells #[.string (strOf x), .int .i64 (f : Nat)] 89)) w9 from k9) (by simp))
              have H9 := Lib.hid h9
              clear h9 k9 r9
              refine hKQ.out _ _ (trivial) (fun hHeld9 => ?_)
              clear hKQ KQ hHeld
              have hHeld := hHeld9
              clear hHeld9
              try simp only [Act.put, List.setIfInBounds_toArray, List.set_cons_zero, List.set_cons_succ]
              refine wpAnyH_ready (rs := [8]) (by kernel_rfl) (by simp) ?_
              refine AllReadyH.cons (o := ⟨some 34, _, _, _, _, _⟩) rfl (fun KQ hKQ => ?w8h2_16) AllReadyH.nil
              case w8h2_16 =>
                refine step_lvs (W := wr) (w0 := w9) (sl := .slice A9 m9 c9) (l := [] ++ k.take j) (l2 := [(x, f)]) NmOk elem_nm (fun h => h) (by omega) rfl (.tmp 29) (.tmp 33) rfl (by first | (simp [Act.eval]; done) | (simp [Act.eval]; rfl) | rfl) H9.out (by first | (simp [Act.eval]; done) | (simp [Act.eval]; rfl) | rfl) (arr_blk BN9.out rfl rfl) HL2.out ?_
                intro A10 m10 c10 w10 h10 k10 r10
                have RX10 := Lib.hid (NmArr.kept (NmArr.kept RD.out K9.out (by simp)) k10 (fun k hk hm => by have h1 := HG.out k hk; have h2 := (r10 k hm).1; omega))
                have K10 := Lib.hid (Kept.trans K9.out k10 (fun k hm => .inr (r10 k hm).1) : Kept [] wr.drew w10)
                have H10 := Lib.hid h10
                clear h10 k10 r10
                refine hKQ.out _ _ (trivial) (fun hHeld9 => ?_)
                clear hKQ KQ hHeld
                have hHeld := hHeld9
                clear hHeld9
                try simp only [Act.put, List.setIfInBounds_toArray, List.set_cons_zero, List.set_cons_succ]
                refine wpAnyH_ready (rs := [12]) (by kernel_rfl) (by simp) ?_
                refine AllReadyH.cons (o := ⟨some 38, _, _, _, _, _⟩) rfl (fun KQ hKQ => ?w12h2_17) AllReadyH.nil
                case w12h2_17 =>
                  refine step_lvs (W := wr) (w0 := w10) (sl := .slice A10 m10 c10) (l := [] ++ k.take j ++ [(x, f)]) (l2 := k.drop j) NmOk elem_nm (fun h => h) (by omega) rfl (.tmp 34) (.tmp 37) rfl (by first | (simp [Act.eval]; done) | (simp [Act.eval]; rfl) | rfl) H10.out (by first | (simp [Act.eval]; done) | (simp [Act.eval]; rfl) | rfl) RX10.out HL3.out ?_
                  intro A11 m11 c11 w11 h11 k11 r11
                  have H11 := Lib.hid h11
                  have K11 := Lib.hid (Kept.trans K10.out k11 (fun k hm => .inr (r11 k hm).1) : Kept [] wr.drew w11)
                  clear h11 k11 r11
                  refine hKQ.out _ _ (trivial) (fun hHeld9 => ?_)
                  clear hKQ KQ hHeld
                  have hHeld := hHeld9
                  clear hHeld9
                  try simp only [Act.put, List.setIfInBounds_toArray, List.set_cons_zero, List.set_cons_succ]
                  refine wpAnyH_take (i := 13) (oi := ⟨some 6, _, _, _, _, _⟩) (v := ?vh2_18) rfl (by kernel_rfl) (by kernel_rfl) (by kernel_rfl) (fun _ _ _ h => h) (Or.inl ⟨by kernel_rfl, ?hyh2_18⟩) (by assumption) ?resth2_18
                  case hyh2_18 => (intro w99 hSw; (try dsimp only at hSw); (try go_simp); (try with_reducible rfl); (try omega))
                  simp only [Act.put, List.setIfInBounds_toArray, List.set_cons_zero, List.set_cons_succ]
                  refine wpAnyH_done (by kernel_rfl) ?_ _
                  clear hHeld
                  go_wp2
                  go_ret
                  exact ⟨_, _, _, rfl, by have h1 := H11.out; rw [FIN.out]; simpa using LV.wide h1 KW.out⟩
      · obtain rfl : j = m9 := by omega
        have i1 : ¬ (j : Int) < (j : Int) := by omega
        have FIN := Lib.hid (HW.out j HS.out (fun q' hq' => by rw [List.getElem?_eq_none (by rw [ML.out]; exact Nat.le_refl _)] at hq'; cases hq') (by rw [ML.out]; exact hj))
        go_upto_region 5 with fail
        by_cases hcj : j = c9
        · subst hcj
          have TX := Lib.hid (arr_take (k := j) VA.out.1 hj : NmArr wr _ (.slice (some ⟨g, 0, none⟩) j j) (k.take j))
          have RX := Lib.hid (by rw [List.drop_of_length_le (by rw [ML.out]; exact Nat.le_refl _)]; exact arr_zero wr _ 2 _ _ 0 (by unfold maxLen; omega) : NmArr wr (rowOf (.slice (some ⟨g, 0, none⟩) j j)) (.slice (some ⟨g, 0, none⟩) 0 0) (k.drop j))
          have HL1 := Lib.hid (show ([] : List (Bs × Nat)).length + (k.take j).length ≤ 100000 by have := HLD.out; (first | (simp; done) | (simp; omega)))
          have HL2 := Lib.hid (show ([] ++ k.take j : List (Bs × Nat)).length + [(x, f)].length ≤ 100000 by have := HLD.out; (first | (simp; done) | (simp; omega)))
          have HL3 := Lib.hid (show ([] ++ k.take j ++ [(x, f)] : List (Bs × Nat)).length + (k.drop j).length ≤ 100000 by have := HLD.out; (first | (simp; done) | (simp; omega)))
          have HG := Lib.hid (fun q hq => (VA.out.2.1 q hq).2)
          have TD := Lib.hid (NmArr.kept TX.out ((Kept.refl [] wr).drew) (by simp))
          have RD := Lib.hid (NmArr.kept RX.out ((Kept.refl [] wr).drew) (by simp))
          refine wp_region_held_drew (S := (fun _ => True)) (by kernel_rfl) (trivial) (fun hHeld => ?_)
          refine wpAnyH_take (i := 0) (oi := ⟨some 26, _, _, _, _, _⟩) (v := ?vh3_1) rfl (by kernel_rfl) (by kernel_rfl) (by kernel_rfl) (fun _ _ _ h => h) (Or.inl ⟨by kernel_rfl, ?hyh3_1⟩) (by assumption) ?resth3_1
          case hyh3_1 => (intro w99 hSw; (try dsimp only at hSw); (try go_simp); (try with_reducible rfl); (try omega))
          simp only [Act.put, List.setIfInBounds_toArray, List.set_cons_zero, List.set_cons_succ]
          refine wpAnyH_take (i := 1) (oi := ⟨some 27, _, _, _, _, _⟩) (v := ?vh3_2) rfl (by kernel_rfl) (by kernel_rfl) (by kernel_rfl) (fun _ _ _ h => h) (Or.inl ⟨by kernel_rfl, ?hyh3_2⟩) (by assumption) ?resth3_2
          case hyh3_2 => (intro w99 hSw; (try dsimp only at hSw); (try go_simp); (try with_reducible rfl); (try omega))
          simp only [Act.put, List.setIfInBounds_toArray, List.set_cons_zero, List.set_cons_succ]
          refine wpAnyH_take (i := 2) (oi := ⟨some 28, _, _, _, _, _⟩) (v := ?vh3_3) rfl (by kernel_rfl) (by kernel_rfl) (by kernel_rfl) (fun _ _ _ h => h) (Or.inl ⟨by kernel_rfl, ?hyh3_3⟩) (by assumption) ?resth3_3
          case hyh3_3 => (intro w99 hSw; (try dsimp only at hSw); (try go_simp); (try with_reducible rfl); (try omega))
          simp only [Act.put, List.setIfInBounds_toArray, List.set_cons_zero, List.set_cons_succ]
          refine wpAnyH_take (i := 4) (oi := ⟨some 30, _, _, _, _, _⟩) (v := ?vh3_4) rfl (by kernel_rfl) (by kernel_rfl) (by kernel_rfl) (fun _ _ _ h => h) (Or.inl ⟨by kernel_rfl, ?hyh3_4⟩) (by assumption) ?resth3_4
          case hyh3_4 => (intro w99 hSw; (try dsimp only at hSw); (try go_simp); (try with_reducible rfl); (try omega))
          simp only [Act.put, List.setIfInBounds_toArray, List.set_cons_zero, List.set_cons_succ]
          refine wpAnyH_take (i := 5) (oi := ⟨some 31, _, _, _, _, _⟩) (v := ?vh3_5) rfl (by kernel_rfl) (by kernel_rfl) (by kernel_rfl) (fun _ _ _ h => h) (Or.inl ⟨by kernel_rfl, ?hyh3_5⟩) (by assumption) ?resth3_5
          case hyh3_5 => (intro w99 hSw; (try dsimp only at hSw); (try go_simp); (try with_reducible rfl); (try omega))
          simp only [Act.put, List.setIfInBounds_toArray, List.set_cons_zero, List.set_cons_succ]
          refine wpAnyH_take (i := 6) (oi := ⟨some 32, _, _, _, _, _⟩) (v := ?vh3_6) rfl (by kernel_rfl) (by kernel_rfl) (by kernel_rfl) (fun _ _ _ h => h) (Or.inl ⟨by kernel_rfl, ?hyh3_6⟩) (by assumption) ?resth3_6
          case hyh3_6 => (intro w99 hSw; (try dsimp only at hSw); (try go_simp); (try with_reducible rfl); (try omega))
          simp only [Act.put, List.setIfInBounds_toArray, List.set_cons_zero, List.set_cons_succ]
          refine wpAnyH_take (i := 9) (oi := ⟨some 35, _, _, _, _, _⟩) (v := ?vh3_7) rfl (by kernel_rfl) (by kernel_rfl) (by kernel_rfl) (fun _ _ _ h => h) (Or.inl ⟨by kernel_rfl, ?hyh3_7⟩) (by assumption) ?resth3_7
          case hyh3_7 => (intro w99 hSw; (try dsimp only at hSw); (try go_simp); (try with_reducible rfl); (try omega))
          simp only [Act.put, List.setIfInBounds_toArray, List.set_cons_zero, List.set_cons_succ]
          refine wpAnyH_take (i := 10) (oi := ⟨some 36, _, _, _, _, _⟩) (v := ?vh3_8) rfl (by kernel_rfl) (by kernel_rfl) (by kernel_rfl) (fun _ _ _ h => h) (Or.inl ⟨by kernel_rfl, ?hyh3_8⟩) (by assumption) ?resth3_8
          case hyh3_8 => (intro w99 hSw; (try dsimp only at hSw); (try go_simp); (try with_reducible rfl); (try omega))
          simp only [Act.put, List.setIfInBounds_toArray, List.set_cons_zero, List.set_cons_succ]
          refine wpAnyH_take (i := 11) (oi := ⟨some 37, _, _, _, _, _⟩) (v := ?vh3_9) rfl (by kernel_rfl) (by kernel_rfl) (by kernel_rfl) (fun _ _ _ h => h) (Or.inl ⟨by kernel_rfl, ?hyh3_9⟩) (by assumption) ?resth3_9
          case hyh3_9 => (intro w99 hSw; (try dsimp only at hSw); (try go_simp); (try with_reducible rfl); (try omega))
          simp only [Act.put, List.setIfInBounds_toArray, List.set_cons_zero, List.set_cons_succ]
          refine wpAnyH_ready (rs := [3, 7]) (by kernel_rfl) (by simp) ?_
          refine AllReadyH.cons (o := ⟨some 29, _, _, _, _, _⟩) rfl (fun KQ hKQ => ?w3h3_10) (AllReadyH.cons (o := ⟨some 33, _, _, _, _, _⟩) rfl (fun KQ hKQ => ?w7h3_10) AllReadyH.nil)
          case w3h3_10 =>
            refine step_lvs (W := wr) (w0 := wr.drew) (sl := .slice none 0 0) (l := []) (l2 := k.take j) NmOk elem_nm (fun h => h) (by omega) rfl (.const (.slice none 0 0)) (.tmp 28) rfl (by first | (simp [Act.eval]; done) | (simp [Act.eval]; rfl) | rfl) (LV.nil ((Kept.refl [] wr).drew)) (by first | (simp [Act.eval]; done) | (simp [Act.eval]; rfl) | rfl) TD.out HL1.out ?_
            intro A9 m9 c9 w9 h9 k9 r9
            have K9 := Lib.hid (show Kept [] wr.drew w9 from k9)
            have H9 := Lib.hid h9
            clear h9 k9 r9
            refine hKQ.out _ _ (trivial) (fun hHeld9 => ?_)
            clear hKQ KQ hHeld
            have hHeld := hHeld9
            clear hHeld9
            try simp only [Act.put, List.setIfInBounds_toArray, List.set_cons_zero, List.set_cons_succ]
            refine wpAnyH_ready (rs := [7]) (by kernel_rfl) (by simp) ?_
            refine AllReadyH.cons (o := ⟨some 33, _, _, _, _, _⟩) rfl (fun KQ hKQ => ?w7h3_11) AllReadyH.nil
            case w7h3_11 =>
              go_simp
              refine hKQ.out _ _ (trivial) (fun hHeld9 => ?_)
              clear hKQ KQ hHeld
              have hHeld := hHeld9
              clear hHeld9
              try simp only [Act.put, List.setIfInBounds_toArray, List.set_cons_zero, List.set_cons_succ]
              refine wpAnyH_ready (rs := [8]) (by kernel_rfl) (by simp) ?_
              refine AllReadyH.cons (o := ⟨some 34, _, _, _, _, _⟩) rfl (fun KQ hKQ => ?w8h3_12) AllReadyH.nil
              case w8h3_12 =>
                refine step_lvs (W := wr) (w0 := (w9.alloc (.cells #[.string (strOf x), .int .i64 (f : Nat)] 89))) (sl := .slice A9 m9 c9) (l := [] ++ k.take j) (l2 := [(x, f)]) NmOk elem_nm (fun h => h) (by omega) rfl (.tmp 29) (.tmp 33) rfl (by first | (simp [Act.eval]; done) | (simp [Act.eval]; rfl) | rfl) (LV.go NmOk H9.out ((Kept.refl [] w9).alloc _)) (by first | (simp [Act.eval]; done) | (simp [Act.eval]; rfl) | rfl) (arr_blk (Blk.new w9 _ _) rfl rfl) HL2.out ?_
                intro A10 m10 c10 w10 h10 k10 r10
                have RX10 := Lib.hid (NmArr.kept (NmArr.kept RD.out (K9.out.alloc (.cells #[.string (strOf x), .int .i64 (f : Nat)] 89)) (by simp)) k10 (fun k hk hm => by have h1 := HG.out k hk; have h2 := (r10 k hm).1; omega))
                have K10 := Lib.hid (Kept.trans (K9.out.alloc (.cells #[.string (strOf x), .int .i64 (f : Nat)] 89)) k10 (fun k hm => .inr (r10 k hm).1) : Kept [] wr.drew w10)
                have H10 := Lib.hid h10
                clear h10 k10 r10
                refine hKQ.out _ _ (trivial) (fun hHeld9 => ?_)
                clear hKQ KQ hHeld
                have hHeld := hHeld9
                clear hHeld9
                try simp only [Act.put, List.setIfInBounds_toArray, List.set_cons_zero, List.set_cons_succ]
                refine wpAnyH_ready (rs := [12]) (by kernel_rfl) (by simp) ?_
                refine AllReadyH.cons (o := ⟨some 38, _, _, _, _, _⟩) rfl (fun KQ hKQ => ?w12h3_13) AllReadyH.nil
                case w12h3_13 =>
                  refine step_lvs (W := wr) (w0 := w10) (sl := .slice A10 m10 c10) (l := [] ++ k.take j ++ [(x, f)]) (l2 := k.drop j) NmOk elem_nm (fun h => h) (by omega) rfl (.tmp 34) (.tmp 37) rfl (by first | (simp [Act.eval]; done) | (simp [Act.eval]; rfl) | rfl) H10.out (by first | (simp [Act.eval]; done) | (simp [Act.eval]; rfl) | rfl) RX10.out HL3.out ?_
                  intro A11 m11 c11 w11 h11 k11 r11
                  have H11 := Lib.hid h11
                  have K11 := Lib.hid (Kept.trans K10.out k11 (fun k hm => .inr (r11 k hm).1) : Kept [] wr.drew w11)
                  clear h11 k11 r11
                  refine hKQ.out _ _ (trivial) (fun hHeld9 => ?_)
                  clear hKQ KQ hHeld
                  have hHeld := hHeld9
                  clear hHeld9
                  try simp only [Act.put, List.setIfInBounds_toArray, List.set_cons_zero, List.set_cons_succ]
                  refine wpAnyH_take (i := 13) (oi := ⟨some 6, _, _, _, _, _⟩) (v := ?vh3_14) rfl (by kernel_rfl) (by kernel_rfl) (by kernel_rfl) (fun _ _ _ h => h) (Or.inl ⟨by kernel_rfl, ?hyh3_14⟩) (by assumption) ?resth3_14
                  case hyh3_14 => (intro w99 hSw; (try dsimp only at hSw); (try go_simp); (try with_reducible rfl); (try omega))
                  simp only [Act.put, List.setIfInBounds_toArray, List.set_cons_zero, List.set_cons_succ]
                  refine wpAnyH_done (by kernel_rfl) ?_ _
                  clear hHeld
                  go_wp2
                  go_ret
                  exact ⟨_, _, _, rfl, by have h1 := H11.out; rw [FIN.out]; simpa using LV.wide h1 KW.out⟩
          case w7h3_10 =>
            go_simp
            refine hKQ.out _ _ (trivial) (fun hHeld9 => ?_)
            clear hKQ KQ hHeld
            have hHeld := hHeld9
            clear hHeld9
            try simp only [Act.put, List.setIfInBounds_toArray, List.set_cons_zero, List.set_cons_succ]
            refine wpAnyH_ready (rs := [3]) (by kernel_rfl) (by simp) ?_
            refine AllReadyH.cons (o := ⟨some 29, _, _, _, _, _⟩) rfl (fun KQ hKQ => ?w3h3_15) AllReadyH.nil
            case w3h3_15 =>
              refine step_lvs (W := wr) (w0 := (wr.drew.alloc (.cells #[.string (strOf x), .int .i64 (f : Nat)] 89))) (sl := .slice none 0 0) (l := []) (l2 := k.take j) NmOk elem_nm (fun h => h) (by omega) rfl (.const (.slice none 0 0)) (.tmp 28) rfl (by first | (simp [Act.eval]; done) | (simp [Act.eval]; rfl) | rfl) (LV.nil (((Kept.refl [] wr).drew).alloc _)) (by first | (simp [Act.eval]; done) | (simp [Act.eval]; rfl) | rfl) (NmArr.kept TD.out ((Kept.refl [] _).alloc _) (by simp)) HL1.out ?_
              intro A9 m9 c9 w9 h9 k9 r9
              have K9 := Lib.hid (Kept.trans (S := []) ((Kept.refl [] wr.drew).alloc (.cells #[.string (strOf x), .int .i64 (f : Nat)] 89)) (show Kept [] _ w9 from k9) (by simp))
              have BN9 := Lib.hid ((Blk.new wr.drew _ _).kept (S := []) (show Kept [] (wr.drew.alloc (.cells #[.string (strOf x), .int .i64 (f : Nat)] 89)) w9 from k9) (by simp))
              have H9 := Lib.hid h9
              clear h9 k9 r9
              refine hKQ.out _ _ (trivial) (fun hHeld9 => ?_)
              clear hKQ KQ hHeld
              have hHeld := hHeld9
              clear hHeld9
              try simp only [Act.put, List.setIfInBounds_toArray, List.set_cons_zero, List.set_cons_succ]
              refine wpAnyH_ready (rs := [8]) (by kernel_rfl) (by simp) ?_
              refine AllReadyH.cons (o := ⟨some 34, _, _, _, _, _⟩) rfl (fun KQ hKQ => ?w8h3_16) AllReadyH.nil
              case w8h3_16 =>
                refine step_lvs (W := wr) (w0 := w9) (sl := .slice A9 m9 c9) (l := [] ++ k.take j) (l2 := [(x, f)]) NmOk elem_nm (fun h => h) (by omega) rfl (.tmp 29) (.tmp 33) rfl (by first | (simp [Act.eval]; done) | (simp [Act.eval]; rfl) | rfl) H9.out (by first | (simp [Act.eval]; done) | (simp [Act.eval]; rfl) | rfl) (arr_blk BN9.out rfl rfl) HL2.out ?_
                intro A10 m10 c10 w10 h10 k10 r10
                have RX10 := Lib.hid (NmArr.kept (NmArr.kept RD.out K9.out (by simp)) k10 (fun k hk hm => by have h1 := HG.out k hk; have h2 := (r10 k hm).1; omega))
                have K10 := Lib.hid (Kept.trans K9.out k10 (fun k hm => .inr (r10 k hm).1) : Kept [] wr.drew w10)
                have H10 := Lib.hid h10
                clear h10 k10 r10
                refine hKQ.out _ _ (trivial) (fun hHeld9 => ?_)
                clear hKQ KQ hHeld
                have hHeld := hHeld9
                clear hHeld9
                try simp only [Act.put, List.setIfInBounds_toArray, List.set_cons_zero, List.set_cons_succ]
                refine wpAnyH_ready (rs := [12]) (by kernel_rfl) (by simp) ?_
                refine AllReadyH.cons (o := ⟨some 38, _, _, _, _, _⟩) rfl (fun KQ hKQ => ?w12h3_17) AllReadyH.nil
                case w12h3_17 =>
                  refine step_lvs (W := wr) (w0 := w10) (sl := .slice A10 m10 c10) (l := [] ++ k.take j ++ [(x, f)]) (l2 := k.drop j) NmOk elem_nm (fun h => h) (by omega) rfl (.tmp 34) (.tmp 37) rfl (by first | (simp [Act.eval]; done) | (simp [Act.eval]; rfl) | rfl) H10.out (by first | (simp [Act.eval]; done) | (simp [Act.eval]; rfl) | rfl) RX10.out HL3.out ?_
                  intro A11 m11 c11 w11 h11 k11 r11
                  have H11 := Lib.hid h11
                  have K11 := Lib.hid (Kept.trans K10.out k11 (fun k hm => .inr (r11 k hm).1) : Kept [] wr.drew w11)
                  clear h11 k11 r11
                  refine hKQ.out _ _ (trivial) (fun hHeld9 => ?_)
                  clear hKQ KQ hHeld
                  have hHeld := hHeld9
                  clear hHeld9
                  try simp only [Act.put, List.setIfInBounds_toArray, List.set_cons_zero, List.set_cons_succ]
                  refine wpAnyH_take (i := 13) (oi := ⟨some 6, _, _, _, _, _⟩) (v := ?vh3_18) rfl (by kernel_rfl) (by kernel_rfl) (by kernel_rfl) (fun _ _ _ h => h) (Or.inl ⟨by kernel_rfl, ?hyh3_18⟩) (by assumption) ?resth3_18
                  case hyh3_18 => (intro w99 hSw; (try dsimp only at hSw); (try go_simp); (try with_reducible rfl); (try omega))
                  simp only [Act.put, List.setIfInBounds_toArray, List.set_cons_zero, List.set_cons_succ]
                  refine wpAnyH_done (by kernel_rfl) ?_ _
                  clear hHeld
                  go_wp2
                  go_ret
                  exact ⟨_, _, _, rfl, by have h1 := H11.out; rw [FIN.out]; simpa using LV.wide h1 KW.out⟩
        · have hcj' : ¬ c9 = j := fun e => hcj e.symm
          have TX := Lib.hid (arr_take (k := j) VA.out.1 hj : NmArr wr _ (.slice (some ⟨g, 0, none⟩) j c9) (k.take j))
          have RX := Lib.hid (by have := X1.out; rw [Nat.sub_self] at this; exact this : NmArr wr _ (.slice (some ⟨g, j * 2, none⟩) 0 (c9 - j)) (k.drop j))
          have HL1 := Lib.hid (show ([] : List (Bs × Nat)).length + (k.take j).length ≤ 100000 by have := HLD.out; (first | (simp; done) | (simp; omega)))
          have HL2 := Lib.hid (show ([] ++ k.take j : List (Bs × Nat)).length + [(x, f)].length ≤ 100000 by have := HLD.out; (first | (simp; done) | (simp; omega)))
          have HL3 := Lib.hid (show ([] ++ k.take j ++ [(x, f)] : List (Bs × Nat)).length + (k.drop j).length ≤ 100000 by have := HLD.out; (first | (simp; done) | (simp; omega)))
          have HG := Lib.hid (fun q hq => (VA.out.2.1 q hq).2)
          have TD := Lib.hid (NmArr.kept TX.out ((Kept.refl [] wr).drew) (by simp))
          have RD := Lib.hid (NmArr.kept RX.out ((Kept.refl [] wr).drew) (by simp))
          refine wp_region_held_drew (S := (fun _ => True)) (by kernel_rfl) (trivial) (fun hHeld => ?_)
          refine wpAnyH_take (i := 0) (oi := ⟨some 26, _, _, _, _, _⟩) (v := ?vh4_1) rfl (by kernel_rfl) (by kernel_rfl) (by kernel_rfl) (fun _ _ _ h => h) (Or.inl ⟨by kernel_rfl, ?hyh4_1⟩) (by assumption) ?resth4_1
          case hyh4_1 => (intro w99 hSw; (try dsimp only at hSw); (try go_simp); (try with_reducible rfl); (try omega))
          simp only [Act.put, List.setIfInBounds_toArray, List.set_cons_zero, List.set_cons_succ]
          refine wpAnyH_take (i := 1) (oi := ⟨some 27, _, _, _, _, _⟩) (v := ?vh4_2) rfl (by kernel_rfl) (by kernel_rfl) (by kernel_rfl) (fun _ _ _ h => h) (Or.inl ⟨by kernel_rfl, ?hyh4_2⟩) (by assumption) ?resth4_2
          case hyh4_2 => (intro w99 hSw; (try dsimp only at hSw); (try go_simp); (try with_reducible rfl); (try omega))
          simp only [Act.put, List.setIfInBounds_toArray, List.set_cons_zero, List.set_cons_succ]
          refine wpAnyH_take (i := 2) (oi := ⟨some 28, _, _, _, _, _⟩) (v := ?vh4_3) rfl (by kernel_rfl) (by kernel_rfl) (by kernel_rfl) (fun _ _ _ h => h) (Or.inl ⟨by kernel_rfl, ?hyh4_3⟩) (by assumption) ?resth4_3
          case hyh4_3 => (intro w99 hSw; (try dsimp only at hSw); (try go_simp); (try with_reducible rfl); (try omega))
          simp only [Act.put, List.setIfInBounds_toArray, List.set_cons_zero, List.set_cons_succ]
          refine wpAnyH_take (i := 4) (oi := ⟨some 30, _, _, _, _, _⟩) (v := ?vh4_4) rfl (by kernel_rfl) (by kernel_rfl) (by kernel_rfl) (fun _ _ _ h => h) (Or.inl ⟨by kernel_rfl, ?hyh4_4⟩) (by assumption) ?resth4_4
          case hyh4_4 => (intro w99 hSw; (try dsimp only at hSw); (try go_simp); (try with_reducible rfl); (try omega))
          simp only [Act.put, List.setIfInBounds_toArray, List.set_cons_zero, List.set_cons_succ]
          refine wpAnyH_take (i := 5) (oi := ⟨some 31, _, _, _, _, _⟩) (v := ?vh4_5) rfl (by kernel_rfl) (by kernel_rfl) (by kernel_rfl) (fun _ _ _ h => h) (Or.inl ⟨by kernel_rfl, ?hyh4_5⟩) (by assumption) ?resth4_5
          case hyh4_5 => (intro w99 hSw; (try dsimp only at hSw); (try go_simp); (try with_reducible rfl); (try omega))
          simp only [Act.put, List.setIfInBounds_toArray, List.set_cons_zero, List.set_cons_succ]
          refine wpAnyH_take (i := 6) (oi := ⟨some 32, _, _, _, _, _⟩) (v := ?vh4_6) rfl (by kernel_rfl) (by kernel_rfl) (by kernel_rfl) (fun _ _ _ h => h) (Or.inl ⟨by kernel_rfl, ?hyh4_6⟩) (by assumption) ?resth4_6
          case hyh4_6 => (intro w99 hSw; (try dsimp only at hSw); (try go_simp); (try with_reducible rfl); (try omega))
          simp only [Act.put, List.setIfInBounds_toArray, List.set_cons_zero, List.set_cons_succ]
          refine wpAnyH_take (i := 9) (oi := ⟨some 35, _, _, _, _, _⟩) (v := ?vh4_7) rfl (by kernel_rfl) (by kernel_rfl) (by kernel_rfl) (fun _ _ _ h => h) (Or.inl ⟨by kernel_rfl, ?hyh4_7⟩) (by assumption) ?resth4_7
          case hyh4_7 => (intro w99 hSw; (try dsimp only at hSw); (try go_simp); (try with_reducible rfl); (try omega))
          simp only [Act.put, List.setIfInBounds_toArray, List.set_cons_zero, List.set_cons_succ]
          refine wpAnyH_take (i := 10) (oi := ⟨some 36, _, _, _, _, _⟩) (v := ?vh4_8) rfl (by kernel_rfl) (by kernel_rfl) (by kernel_rfl) (fun _ _ _ h => h) (Or.inl ⟨by kernel_rfl, ?hyh4_8⟩) (by assumption) ?resth4_8
          case hyh4_8 => (intro w99 hSw; (try dsimp only at hSw); (try go_simp); (try with_reducible rfl); (try omega))
          simp only [Act.put, List.setIfInBounds_toArray, List.set_cons_zero, List.set_cons_succ]
          refine wpAnyH_take (i := 11) (oi := ⟨some 37, _, _, _, _, _⟩) (v := ?vh4_9) rfl (by kernel_rfl) (by kernel_rfl) (by kernel_rfl) (fun _ _ _ h => h) (Or.inl ⟨by kernel_rfl, ?hyh4_9⟩) (by assumption) ?resth4_9
          case hyh4_9 => (intro w99 hSw; (try dsimp only at hSw); (try go_simp); (try with_reducible rfl); (try omega))
          simp only [Act.put, List.setIfInBounds_toArray, List.set_cons_zero, List.set_cons_succ]
          refine wpAnyH_ready (rs := [3, 7]) (by kernel_rfl) (by simp) ?_
          refine AllReadyH.cons (o := ⟨some 29, _, _, _, _, _⟩) rfl (fun KQ hKQ => ?w3h4_10) (AllReadyH.cons (o := ⟨some 33, _, _, _, _, _⟩) rfl (fun KQ hKQ => ?w7h4_10) AllReadyH.nil)
          case w3h4_10 =>
            refine step_lvs (W := wr) (w0 := wr.drew) (sl := .slice none 0 0) (l := []) (l2 := k.take j) NmOk elem_nm (fun h => h) (by omega) rfl (.const (.slice none 0 0)) (.tmp 28) rfl (by first | (simp [Act.eval]; done) | (simp [Act.eval]; rfl) | rfl) (LV.nil ((Kept.refl [] wr).drew)) (by first | (simp [Act.eval]; done) | (simp [Act.eval]; rfl) | rfl) TD.out HL1.out ?_
            intro A9 m9 c9 w9 h9 k9 r9
            have K9 := Lib.hid (show Kept [] wr.drew w9 from k9)
            have H9 := Lib.hid h9
            clear h9 k9 r9
            refine hKQ.out _ _ (trivial) (fun hHeld9 => ?_)
            clear hKQ KQ hHeld
            have hHeld := hHeld9
            clear hHeld9
            try simp only [Act.put, List.setIfInBounds_toArray, List.set_cons_zero, List.set_cons_succ]
            refine wpAnyH_ready (rs := [7]) (by kernel_rfl) (by simp) ?_
            refine AllReadyH.cons (o := ⟨some 33, _, _, _, _, _⟩) rfl (fun KQ hKQ => ?w7h4_11) AllReadyH.nil
            case w7h4_11 =>
              go_simp
              refine hKQ.out _ _ (trivial) (fun hHeld9 => ?_)
              clear hKQ KQ hHeld
              have hHeld := hHeld9
              clear hHeld9
              try simp only [Act.put, List.setIfInBounds_toArray, List.set_cons_zero, List.set_cons_succ]
              refine wpAnyH_ready (rs := [8]) (by kernel_rfl) (by simp) ?_
              refine AllReadyH.cons (o := ⟨some 34, _, _, _, _, _⟩) rfl (fun KQ hKQ => ?w8h4_12) AllReadyH.nil
              case w8h4_12 =>
                refine step_lvs (W := wr) (w0 := (w9.alloc (.cells #[.string (strOf x), .int .i64 (f : Nat)] 89))) (sl := .slice A9 m9 c9) (l := [] ++ k.take j) (l2 := [(x, f)]) NmOk elem_nm (fun h => h) (by omega) rfl (.tmp 29) (.tmp 33) rfl (by first | (simp [Act.eval]; done) | (simp [Act.eval]; rfl) | rfl) (LV.go NmOk H9.out ((Kept.refl [] w9).alloc _)) (by first | (simp [Act.eval]; done) | (simp [Act.eval]; rfl) | rfl) (arr_blk (Blk.new w9 _ _) rfl rfl) HL2.out ?_
                intro A10 m10 c10 w10 h10 k10 r10
                have RX10 := Lib.hid (NmArr.kept (NmArr.kept RD.out (K9.out.alloc (.cells #[.string (strOf x), .int .i64 (f : Nat)] 89)) (by simp)) k10 (fun k hk hm => by have h1 := HG.out k hk; have h2 := (r10 k hm).1; omega))
                have K10 := Lib.hid (Kept.trans (K9.out.alloc (.cells #[.string (strOf x), .int .i64 (f : Nat)] 89)) k10 (fun k hm => .inr (r10 k hm).1) : Kept [] wr.drew w10)
                have H10 := Lib.hid h10
                clear h10 k10 r10
                refine hKQ.out _ _ (trivial) (fun hHeld9 => ?_)
                clear hKQ KQ hHeld
                have hHeld := hHeld9
                clear hHeld9
                try simp only [Act.put, List.setIfInBounds_toArray, List.set_cons_zero, List.set_cons_succ]
                refine wpAnyH_ready (rs := [12]) (by kernel_rfl) (by simp) ?_
                refine AllReadyH.cons (o := ⟨some 38, _, _, _, _, _⟩) rfl (fun KQ hKQ => ?w12h4_13) AllReadyH.nil
                case w12h4_13 =>
                  refine step_lvs (W := wr) (w0 := w10) (sl := .slice A10 m10 c10) (l := [] ++ k.take j ++ [(x, f)]) (l2 := k.drop j) NmOk elem_nm (fun h => h) (by omega) rfl (.tmp 34) (.tmp 37) rfl (by first | (simp [Act.eval]; done) | (simp [Act.eval]; rfl) | rfl) H10.out (by first | (simp [Act.eval]; done) | (simp [Act.eval]; rfl) | rfl) RX10.out HL3.out ?_
                  intro A11 m11 c11 w11 h11 k11 r11
                  have H11 := Lib.hid h11
                  have K11 := Lib.hid (Kept.trans K10.out k11 (fun k hm => .inr (r11 k hm).1) : Kept [] wr.drew w11)
                  clear h11 k11 r11
                  refine hKQ.out _ _ (trivial) (fun hHeld9 => ?_)
                  clear hKQ KQ hHeld
                  have hHeld := hHeld9
                  clear hHeld9
                  try simp only [Act.put, List.setIfInBounds_toArray, List.set_cons_zero, List.set_cons_succ]
                  refine wpAnyH_take (i := 13) (oi := ⟨some 6, _, _, _, _, _⟩) (v := ?vh4_14) rfl (by kernel_rfl) (by kernel_rfl) (by kernel_rfl) (fun _ _ _ h => h) (Or.inl ⟨by kernel_rfl, ?hyh4_14⟩) (by assumption) ?resth4_14
                  case hyh4_14 => (intro w99 hSw; (try dsimp only at hSw); (try go_simp); (try with_reducible rfl); (try omega))
                  simp only [Act.put, List.setIfInBounds_toArray, List.set_cons_zero, List.set_cons_succ]
                  refine wpAnyH_done (by kernel_rfl) ?_ _
                  clear hHeld
                  go_wp2
                  go_ret
                  exact ⟨_, _, _, rfl, by have h1 := H11.out; rw [FIN.out]; simpa using LV.wide h1 KW.out⟩
          case w7h4_10 =>
            go_simp
            refine hKQ.out _ _ (trivial) (fun hHeld9 => ?_)
            clear hKQ KQ hHeld
            have hHeld := hHeld9
            clear hHeld9
            try simp only [Act.put, List.setIfInBounds_toArray, List.set_cons_zero, List.set_cons_succ]
            refine wpAnyH_ready (rs := [3]) (by kernel_rfl) (by simp) ?_
            refine AllReadyH.cons (o := ⟨some 29, _, _, _, _, _⟩) rfl (fun KQ hKQ => ?w3h4_15) AllReadyH.nil
            case w3h4_15 =>
              refine step_lvs (W := wr) (w0 := (wr.drew.alloc (.cells #[.string (strOf x), .int .i64 (f : Nat)] 89))) (sl := .slice none 0 0) (l := []) (l2 := k.take j) NmOk elem_nm (fun h => h) (by omega) rfl (.const (.slice none 0 0)) (.tmp 28) rfl (by first | (simp [Act.eval]; done) | (simp [Act.eval]; rfl) | rfl) (LV.nil (((Kept.refl [] wr).drew).alloc _)) (by first | (simp [Act.eval]; done) | (simp [Act.eval]; rfl) | rfl) (NmArr.kept TD.out ((Kept.refl [] _).alloc _) (by simp)) HL1.out ?_
              intro A9 m9 c9 w9 h9 k9 r9
              have K9 := Lib.hid (Kept.trans (S := []) ((Kept.refl [] wr.drew).alloc (.cells #[.string (strOf x), .int .i64 (f : Nat)] 89)) (show Kept [] _ w9 from k9) (by simp))
              have BN9 := Lib.hid ((Blk.new wr.drew _ _).kept (S := []) (show Kept [] (wr.drew.alloc (.cells #[.string (strOf x), .int .i64 (f : Nat)] 89)) w9 from k9) (by simp))
              have H9 := Lib.hid h9
              clear h9 k9 r9
              refine hKQ.out _ _ (trivial) (fun hHeld9 => ?_)
              clear hKQ KQ hHeld
              have hHeld := hHeld9
              clear hHeld9
              try simp only [Act.put, List.setIfInBounds_toArray, List.set_cons_zero, List.set_cons_succ]
              refine wpAnyH_ready (rs := [8]) (by kernel_rfl) (by simp) ?_
              refine AllReadyH.cons (o := ⟨some 34, _, _, _, _, _⟩) rfl (fun KQ hKQ => ?w8h4_16) AllReadyH.nil
              case w8h4_16 =>
                refine step_lvs (W := wr) (w0 := w9) (sl := .slice A9 m9 c9) (l := [] ++ k.take j) (l2 := [(x, f)]) NmOk elem_nm (fun h => h) (by omega) rfl (.tmp 29) (.tmp 33) rfl (by first | (simp [Act.eval]; done) | (simp [Act.eval]; rfl) | rfl) H9.out (by first | (simp [Act.eval]; done) | (simp [Act.eval]; rfl) | rfl) (arr_blk BN9.out rfl rfl) HL2.out ?_
                intro A10 m10 c10 w10 h10 k10 r10
                have RX10 := Lib.hid (NmArr.kept (NmArr.kept RD.out K9.out (by simp)) k10 (fun k hk hm => by have h1 := HG.out k hk; have h2 := (r10 k hm).1; omega))
                have K10 := Lib.hid (Kept.trans K9.out k10 (fun k hm => .inr (r10 k hm).1) : Kept [] wr.drew w10)
                have H10 := Lib.hid h10
                clear h10 k10 r10
                refine hKQ.out _ _ (trivial) (fun hHeld9 => ?_)
                clear hKQ KQ hHeld
                have hHeld := hHeld9
                clear hHeld9
                try simp only [Act.put, List.setIfInBounds_toArray, List.set_cons_zero, List.set_cons_succ]
                refine wpAnyH_ready (rs := [12]) (by kernel_rfl) (by simp) ?_
                refine AllReadyH.cons (o := ⟨some 38, _, _, _, _, _⟩) rfl (fun KQ hKQ => ?w12h4_17) AllReadyH.nil
                case w12h4_17 =>
                  refine step_lvs (W := wr) (w0 := w10) (sl := .slice A10 m10 c10) (l := [] ++ k.take j ++ [(x, f)]) (l2 := k.drop j) NmOk elem_nm (fun h => h) (by omega) rfl (.tmp 34) (.tmp 37) rfl (by first | (simp [Act.eval]; done) | (simp [Act.eval]; rfl) | rfl) H10.out (by first | (simp [Act.eval]; done) | (simp [Act.eval]; rfl) | rfl) RX10.out HL3.out ?_
                  intro A11 m11 c11 w11 h11 k11 r11
                  have H11 := Lib.hid h11
                  have K11 := Lib.hid (Kept.trans K10.out k11 (fun k hm => .inr (r11 k hm).1) : Kept [] wr.drew w11)
                  clear h11 k11 r11
                  refine hKQ.out _ _ (trivial) (fun hHeld9 => ?_)
                  clear hKQ KQ hHeld
                  have hHeld := hHeld9
                  clear hHeld9
                  try simp only [Act.put, List.setIfInBounds_toArray, List.set_cons_zero, List.set_cons_succ]
                  refine wpAnyH_take (i := 13) (oi := ⟨some 6, _, _, _, _, _⟩) (v := ?vh4_18) rfl (by kernel_rfl) (by kernel_rfl) (by kernel_rfl) (fun _ _ _ h => h) (Or.inl ⟨by kernel_rfl, ?hyh4_18⟩) (by assumption) ?resth4_18
                  case hyh4_18 => (intro w99 hSw; (try dsimp only at hSw); (try go_simp); (try with_reducible rfl); (try omega))
                  simp only [Act.put, List.setIfInBounds_toArray, List.set_cons_zero, List.set_cons_succ]
                  refine wpAnyH_done (by kernel_rfl) ?_ _
                  clear hHeld
                  go_wp2
                  go_ret
                  exact ⟨_, _, _, rfl, by have h1 := H11.out; rw [FIN.out]; simpa using LV.wide h1 KW.out⟩
end Go.Proofs.Ythdjdfdefibepaa
