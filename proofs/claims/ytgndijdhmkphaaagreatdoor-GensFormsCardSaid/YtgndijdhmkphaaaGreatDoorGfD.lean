/-
  gens.Parse at any text. (GensForms)
-/
import Derived.Test.YtgndijdhmkphaaaGreatDoorGfC
import Derived.Test.YtgndijdhmkphaaaGreatDoorGenV
namespace Go.Proofs.YtgndijdhmkphaaaGreatDoor
set_option linter.unusedVariables false
section
open Go.RowKit Go.ChangeShapes Go.WideShapes Go.ChangeAt Go.Deep
set_option maxRecDepth 100000
structure BG (w : World) (s sr s1 s2 s3 : ByteArray) (is so m1 m2 ca : Bool) (o1 o2 : Option Int) (av : Nat) : Prop where
  c1 : ∀ w', Kept [] w w' → Calls Tryz.prog 25 #[.string s, .string ⟨#[64]⟩] w' fun e w'' => e = .returned (.tuple #[.string s1, .string sr, .bool is]) ∧ Kept [] w' w''
  c2 : ∀ w', Kept [] w w' → Calls Tryz.prog 25 #[.string sr, .string ⟨#[42]⟩] w' fun e w'' => e = .returned (.tuple #[.string s2, .string s3, .bool so]) ∧ Kept [] w' w''
  n1 : ∀ w', Kept [] w w' → Calls Tryz.prog 26 #[.string s1] w' fun e w'' => ∃ n, e = .returned (.tuple #[.int .i64 n, .bool m1]) ∧ (∀ m, o1 = some m → n = m) ∧ Kept [] w' w''
  n2 : ∀ w', Kept [] w w' → Calls Tryz.prog 26 #[.string s3] w' fun e w'' => ∃ n, e = .returned (.tuple #[.int .i64 n, .bool m2]) ∧ (∀ m, o2 = some m → n = m) ∧ Kept [] w' w''
  a1 : ∀ w', Kept [] w w' → Calls Tryz.prog 27 #[.string s2] w' fun e w'' => e = .returned (.tuple #[.int .u32 av, .bool ca]) ∧ Kept [] w' w''
def PieceOf (x : List UInt8) (is so m1 m2 ca : Bool) (o1 o2 : Option Int) (av : Nat) : Prop :=
  (oneB x = none ∧ (is = false ∨ (is = true ∧ so = false) ∨ (is = true ∧ so = true ∧ m1 = false) ∨ (is = true ∧ so = true ∧ m1 = true ∧ m2 = false) ∨ (is = true ∧ so = true ∧ m1 = true ∧ m2 = true ∧ ca = false))) ∨
  (is = true ∧ so = true ∧ m1 = true ∧ m2 = true ∧ ca = true ∧ ∃ b, oneB x = some b ∧ o1 = some b.id ∧ o2 = some b.weight ∧ av = b.addr.toNat)
theorem cut_len (s : List UInt8) (c : UInt8) : (Lib.cut s [c]).1.length ≤ s.length ∧ (Lib.cut s [c]).2.1.length ≤ s.length := by
  rcases cut_ex c s with h | ⟨x, y, rfl, hx⟩
  · rw [cut_no h]; exact ⟨Nat.le_refl _, Nat.zero_le _⟩
  · rw [cut_at c x y hx]; simp only [List.length_append, List.length_cons]; omega
theorem BG.of (w : World) (x : List UInt8) (hl : x.length ≤ 100000) (E : Env w) : ∃ sr s1 s2 s3 is so m1 m2 ca o1 o2 av, BG w (strOf x) sr s1 s2 s3 is so m1 m2 ca o1 o2 av ∧ PieceOf x is so m1 m2 ca o1 o2 av := by
  have l1 := cut_len x 64
  have l2 := cut_len (Lib.cut x [64]).2.1 42
  refine ⟨_, _, _, _, _, _, _, _, _, _, _, _, ⟨fun w' hk => Cut_any w' 64 x hl (E.kept hk), fun w' hk => Cut_any w' 42 (Lib.cut x [64]).2.1 (by omega) (E.kept hk), fun w' hk => gNumber_any w' (Lib.cut x [64]).1 (by omega) (E.kept hk),
    fun w' hk => gNumber_any w' (Lib.cut (Lib.cut x [64]).2.1 [42]).2.1 (by omega) (E.kept hk), fun w' hk => ParseAddr_any w' (Lib.cut (Lib.cut x [64]).2.1 [42]).1 (by omega) (E.kept hk)⟩, ?_⟩
  unfold PieceOf oneB
  cases (Lib.cut x [64]).2.2 with
  | false => exact .inl ⟨by simp, .inl rfl⟩
  | true =>
    cases (Lib.cut (Lib.cut x [64]).2.1 [42]).2.2 with
    | false => exact .inl ⟨by simp, .inr (.inl ⟨rfl, rfl⟩)⟩
    | true =>
      rw [if_pos ⟨rfl, rfl⟩]
      cases canon (Lib.cut x [64]).1 with
      | none => exact .inl ⟨rfl, .inr (.inr (.inl ⟨rfl, rfl, rfl⟩))⟩
      | some n =>
        cases canon (Lib.cut (Lib.cut x [64]).2.1 [42]).2.1 with
        | none => exact .inl ⟨by cases addrO (Lib.cut (Lib.cut x [64]).2.1 [42]).1 <;> rfl, .inr (.inr (.inr (.inl ⟨rfl, rfl, rfl, rfl⟩)))⟩
        | some k =>
          cases addrO (Lib.cut (Lib.cut x [64]).2.1 [42]).1 with
          | none => exact .inl ⟨rfl, .inr (.inr (.inr (.inr ⟨rfl, rfl, rfl, rfl, rfl⟩)))⟩
          | some a => exact .inr ⟨rfl, rfl, rfl, rfl, rfl, ⟨n, a, k⟩, rfl, rfl, rfl, rfl⟩
theorem parse_bad {s : List UInt8} {k : Nat} {x : List UInt8} (h0 : s ≠ [45]) (hk : (pieces 44 s)[k]? = some x) (h : oneB x = none) : parseB s = none := by
  have h1 : allO (pieces 44 s) = none := allO_none (k := k + 1) (by rw [allO_take hk, h]; cases allO ((pieces 44 s).take k) <;> rfl)
  unfold parseB
  rw [if_neg h0]
  split
  · rfl
  · rw [h1]
theorem parse_end {s : List UInt8} {l : List BackD} (h0 : s ≠ [45]) (hn : ¬ 16 < (pieces 44 s).length) (h : allO (pieces 44 s) = some l) : parseB s = if mayBs l = true then some l else none := by
  unfold parseB
  rw [if_neg h0, if_neg hn, h]
set_option maxHeartbeats 12800000 in
theorem gParse_any (w : World) (s : List UInt8) (hl : s.length ≤ 100000) (E : Env w) :
    Calls Tryz.prog 7 #[.string (strOf s)] w fun e w' => ∃ v, e = .returned (.tuple #[v, .bool (parseB s).isSome]) ∧ BkV w w' v ((parseB s).getD []) := by
  by_cases h0 : s = [45]
  · subst h0
    show Calls Tryz.prog 7 #[.string ⟨#[45]⟩] w fun e w' => ∃ v, e = .returned (.tuple #[v, .bool true]) ∧ BkV w w' v []
    go_enter Tryz.func7, Tryz.ntmps7
    go_wp2
    go_ret2
    exact ⟨_, rfl, LV.nil (Kept.refl _ _)⟩
  · have hd := strOf_ne h0
    have HE := Lib.hid E
    have HS := Lib.hid (Split_any w 44 s hl E)
    have HP := Lib.hid (fun p hp => Nat.le_trans (pieces_mem 44 _ s rfl p hp) hl)
    obtain ⟨P, hP⟩ : ∃ P, pieces 44 s = P := ⟨_, rfl⟩
    obtain ⟨R, hR⟩ : ∃ R, parseB s = R := ⟨_, rfl⟩
    have HBAD := Lib.hid (show ∀ k x, P[k]? = some x → oneB x = none → R = none from fun k x h1 h2 => by rw [← hR]; exact parse_bad h0 (by rw [hP]; exact h1) h2)
    have HMANY := Lib.hid (show 16 < P.length → R = none from fun h => by rw [← hR, parseB, if_neg h0, hP, if_pos h])
    have HEND := Lib.hid (show ¬ 16 < P.length → ∀ l, allO P = some l → R = if mayBs l = true then some l else none from fun h l h1 => by rw [← hR]; exact parse_end h0 (by rw [hP]; exact h) (by rw [hP]; exact h1))
    rw [hP] at HS HP
    rw [hR]
    obtain ⟨u, hu⟩ : ∃ u, strOf s = u := ⟨_, rfl⟩
    rw [hu] at HS hd ⊢
    obtain ⟨n, hn⟩ : ∃ n, P.length = n := ⟨_, rfl⟩
    rw [hn] at HS HMANY HEND
    have HN := Lib.hid hn
    clear hP hR hu hn E hl h0
    by_cases h16 : 16 < n
    · have HRN := Lib.hid (HMANY.out h16)
      have i1 : (16 : Int) < (n : Int) := by omega
      clear h16
      go_enter Tryz.func7, Tryz.ntmps7
      go_wp2_with (go_at_call 24
                   go_must (refine HS.out.mono ?_)
                   go_must (rintro e w1 ⟨rfl, hL, hK⟩)
                   go_must (have K := Lib.hid hK)
                   go_must (clear hL hK))
      go_ret2
      exact ⟨_, by rw [HRN.out]; rfl, by rw [HRN.out]; exact LV.nil K.out⟩
    · have i1 : ¬ (16 : Int) < (n : Int) := by omega
      have HE16 := Lib.hid (HEND.out h16)
      have HN16 := Lib.hid h16
      clear h16
      go_enter Tryz.func7, Tryz.ntmps7
      go_wp2_with (go_at_call 24
                   go_must (refine HS.out.mono ?_)
                   go_must (rintro e w1 ⟨rfl, hL, hK⟩)
                   go_must (have L := Lib.hid hL)
                   go_must (have K := Lib.hid hK)
                   go_must (clear hL hK))
      go_loopg [5, 29] n (fun g v i wr => ∃ (k : Nat) (l : List BackD), k ≤ n ∧ g = n - k ∧ i = .int .i64 k ∧ Hid (allO (P.take k) = some l) ∧ BkO w w1 wr v l ∧ Kept [] w1 wr)
      case atStart => exact ⟨0, [], by omega, by omega, rfl, Lib.hid rfl, BkO.nil K.out, Kept.refl _ _⟩
      case round =>
        obtain ⟨k, l, hk, rfl, rfl, hA, hv, hkw⟩ := hrel
        have V := Lib.hid hv
        have KW := Lib.hid hkw
        obtain ⟨vA, vm, vc, rfl⟩ := hv.form
        clear hv hkw
        by_cases hlt : k < n
        · have hkl : k < P.length := by rw [HN.out]; exact hlt
          obtain ⟨x, hx⟩ : ∃ x, P[k]? = some x := ⟨_, List.getElem?_eq_getElem hkl⟩
          have hc := (L.out.kept KW.out (by simp)).cell k
          rw [strsV_at hx] at hc
          obtain ⟨sr, s1, s2, s3, is, so, m1, m2, ca, o1, o2, av, hbg, hpo⟩ := BG.of w x (HP.out x (List.mem_of_getElem? hx)) HE.out
          have HF := Lib.hid hbg
          have HB := Lib.hid (HBAD.out k x hx)
          have HT := Lib.hid ((allO_take hx).trans (by rw [hA.out]))
          have LL := Lib.hid (show l.length ≤ 16 from by
            have h1 := allO_len hA.out
            rw [List.length_take] at h1
            have h2 := HN16.out
            omega)
          obtain ⟨d, hd⟩ : ∃ d, strOf x = d := ⟨_, rfl⟩
          rw [hd] at HF hc
          have KK := Lib.hid (K.out.trans KW.out (by simp))
          have hsz := KW.out.size
          clear hkl hbg hd hx hA
          have i2 : (k : Int) < (n : Int) := by omega
          unfold PieceOf at hpo
          rcases hpo with ⟨hno, hpo⟩ | ⟨rfl, rfl, rfl, rfl, rfl, b, hb, rfl, rfl, rfl⟩
          · have HRN := Lib.hid (HB.out hno)
            clear hno HB HT
            rcases hpo with rfl | ⟨rfl, rfl⟩ | ⟨rfl, rfl, rfl⟩ | ⟨rfl, rfl, rfl, rfl⟩ | ⟨rfl, rfl, rfl, rfl, rfl⟩
            all_goals
              go_wp2_with (first
                | (go_at_call 25
                   first
                     | (with_reducible refine (HF.out.c1 _ KK.out).mono ?_
                        rintro e w2 ⟨rfl, k1⟩
                        have V := Lib.hid (V.out.go k1)
                        have KK := Lib.hid (KK.out.trans k1 (by simp))
                        have KW := Lib.hid (KW.out.trans k1 (by simp))
                        clear k1 hc)
                     | (with_reducible refine (HF.out.c2 _ KK.out).mono ?_
                        rintro e w3 ⟨rfl, k1⟩
                        have V := Lib.hid (V.out.go k1)
                        have KK := Lib.hid (KK.out.trans k1 (by simp))
                        have KW := Lib.hid (KW.out.trans k1 (by simp))
                        clear k1))
                | (go_at_call 26
                   first
                     | (with_reducible refine (HF.out.n1 _ KK.out).mono ?_
                        rintro e w4 ⟨nn1, rfl, -, k1⟩
                        have V := Lib.hid (V.out.go k1)
                        have KK := Lib.hid (KK.out.trans k1 (by simp))
                        have KW := Lib.hid (KW.out.trans k1 (by simp))
                        clear k1)
                     | (with_reducible refine (HF.out.n2 _ KK.out).mono ?_
                        rintro e w5 ⟨nn2, rfl, -, k1⟩
                        have V := Lib.hid (V.out.go k1)
                        have KK := Lib.hid (KK.out.trans k1 (by simp))
                        have KW := Lib.hid (KW.out.trans k1 (by simp))
                        clear k1))
                | (go_at_call 27
                   with_reducible refine (HF.out.a1 _ KK.out).mono ?_
                   rintro e w6 ⟨rfl, k1⟩
                   have V := Lib.hid (V.out.go k1)
                   have KK := Lib.hid (KK.out.trans k1 (by simp))
                   have KW := Lib.hid (KW.out.trans k1 (by simp))
                   clear k1))
              go_ret2
              exact ⟨_, by rw [HRN.out]; rfl, by rw [HRN.out]; exact LV.nil KK.out⟩
          · have HX := Lib.hid (show allO (P.take (k + 1)) = some (l ++ [b]) from by
              have h1 := HT.out
              rw [hb] at h1
              exact h1)
            clear hb HB HT
            go_wp2_with (first
              | (go_at_call 25
                 first
                   | (with_reducible refine (HF.out.c1 _ KK.out).mono ?_
                      rintro e w2 ⟨rfl, k1⟩
                      have V := Lib.hid (V.out.go k1)
                      have KK := Lib.hid (KK.out.trans k1 (by simp))
                      have KW := Lib.hid (KW.out.trans k1 (by simp))
                      clear k1 hc)
                   | (with_reducible refine (HF.out.c2 _ KK.out).mono ?_
                      rintro e w3 ⟨rfl, k1⟩
                      have V := Lib.hid (V.out.go k1)
                      have KK := Lib.hid (KK.out.trans k1 (by simp))
                      have KW := Lib.hid (KW.out.trans k1 (by simp))
                      clear k1))
              | (go_at_call 26
                 first
                   | (with_reducible refine (HF.out.n1 _ KK.out).mono ?_
                      rintro e w4 ⟨nn, rfl, hnn, k1⟩
                      have V := Lib.hid (V.out.go k1)
                      have KK := Lib.hid (KK.out.trans k1 (by simp))
                      have KW := Lib.hid (KW.out.trans k1 (by simp))
                      obtain rfl := hnn _ rfl
                      clear hnn
                      clear k1)
                   | (with_reducible refine (HF.out.n2 _ KK.out).mono ?_
                      rintro e w5 ⟨nn, rfl, hnn, k1⟩
                      have V := Lib.hid (V.out.go k1)
                      have KK := Lib.hid (KK.out.trans k1 (by simp))
                      have KW := Lib.hid (KW.out.trans k1 (by simp))
                      obtain rfl := hnn _ rfl
                      clear hnn
                      clear k1))
              | (go_at_call 27
                 with_reducible refine (HF.out.a1 _ KK.out).mono ?_
                 rintro e w6 ⟨rfl, k1⟩
                 have V := Lib.hid (V.out.go k1)
                 have KK := Lib.hid (KK.out.trans k1 (by simp))
                 have KW := Lib.hid (KW.out.trans k1 (by simp))
                 have hsz6 := KW.out.size
                 have hrow := V.out.row
                 clear k1)
              | (at_builtin
                 refine wpList_bk (W := w) (W0 := w1) (w0 := w6) (bk := b) (l := l) rfl (.tmp 78) (.tmp 83) rfl rfl hsz6 (by rfl) V.out (by rfl) (Nat.le_trans LL.out (by omega)) ?_
                 intro A9 m9 c9 w9 h1 k9
                 have V9 := Lib.hid h1
                 have KW9 := Lib.hid (KW.out.trans k9 (fun i hi => .inr (hrow i hi)))
                 clear h1 k9))
            go_roundg (n - (k + 1))
            case measure => omega
            case rel => exact ⟨k + 1, l ++ [b], by omega, rfl, by go_num, Lib.hid HX.out, V9.out, KW9.out⟩
        · have HAL := Lib.hid (show allO P = some l from by
            have h1 := hA.out
            rw [List.take_of_length_le (by rw [HN.out]; omega)] at h1
            exact h1)
          obtain ⟨G, hG, _⟩ := LV.arr BkOk V.out.bk
          have HM := Lib.hid (gMay_any wr l hG)
          have HR := Lib.hid (HE16.out l HAL.out)
          clear hG hA
          cases hmay : mayBs l
          · have HMY := Lib.hid hmay
            clear hmay
            go_wp2_with (go_at_call 11
                         go_must (refine HM.out.mono ?_)
                         go_must (rintro e w2 ⟨rfl, k1⟩)
                         go_must (rw [HMY.out])
                         go_must (have KK := Lib.hid ((K.out.trans KW.out (by simp)).trans k1 (by simp)))
                         go_must (clear k1))
            go_ret2
            exact ⟨_, by rw [HR.out, HMY.out]; rfl, by rw [HR.out, HMY.out]; exact LV.nil KK.out⟩
          · have HMY := Lib.hid hmay
            clear hmay
            go_wp2_with (go_at_call 11
                         go_must (refine HM.out.mono ?_)
                         go_must (rintro e w2 ⟨rfl, k1⟩)
                         go_must (rw [HMY.out])
                         go_must (have V2 := Lib.hid (V.out.go k1))
                         go_must (clear k1))
            go_ret2
            exact ⟨_, by rw [HR.out, HMY.out]; rfl, by rw [HR.out, HMY.out]; exact V2.out.bk⟩
end
end Go.Proofs.YtgndijdhmkphaaaGreatDoor
