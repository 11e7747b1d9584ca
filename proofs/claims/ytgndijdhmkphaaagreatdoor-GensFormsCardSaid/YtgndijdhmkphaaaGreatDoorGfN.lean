/-
  The document's ParseBackends at any text. (GensForms)
-/
import Derived.Test.YtgndijdhmkphaaaGreatDoorGfD
import Derived.Test.YtgndijdhmkphaaaGreatDoorGfK
import Derived.Test.YtgndijdhmkphaaaGreatDoorGfM
namespace Go.Proofs.YtgndijdhmkphaaaGreatDoor
set_option linter.unusedVariables false
section
open Go.RowKit Go.ChangeShapes Go.WideShapes Go.ChangeAt Go.Deep
set_option maxRecDepth 100000
structure BR (w : World) (s sr s1 s2 s3 : ByteArray) (is so m1 m2 ca : Bool) (v1 v2 : Int) (av : Nat) : Prop where
  c1 : ∀ w', Kept [] w w' → Calls Tryz.prog 28 #[.string s, .int .u8 64] w' fun e w'' => e = .returned (.tuple #[.string s1, .string sr, .bool is]) ∧ Kept [] w' w''
  c2 : ∀ w', Kept [] w w' → Calls Tryz.prog 28 #[.string sr, .int .u8 42] w' fun e w'' => e = .returned (.tuple #[.string s2, .string s3, .bool so]) ∧ Kept [] w' w''
  n1 : ∀ w', Kept [] w w' → Calls Tryz.prog 29 #[.string s1] w' fun e w'' => e = .returned (.tuple #[.int .i64 v1, .bool m1]) ∧ Kept [] w' w''
  n2 : ∀ w', Kept [] w w' → Calls Tryz.prog 29 #[.string s3] w' fun e w'' => e = .returned (.tuple #[.int .i64 v2, .bool m2]) ∧ Kept [] w' w''
  a1 : ∀ w', Kept [] w w' → Calls Tryz.prog 30 #[.string s2] w' fun e w'' => e = .returned (.tuple #[.int .u32 av, .bool ca]) ∧ Kept [] w' w''
def PieceR (x : List UInt8) (is so m1 m2 ca : Bool) (v1 v2 : Int) (av : Nat) : Prop :=
  (oneB x = none ∧ (is = false ∨ (is = true ∧ so = false) ∨ (is = true ∧ so = true ∧ m1 = false) ∨ (is = true ∧ so = true ∧ m1 = true ∧ ca = false) ∨ (is = true ∧ so = true ∧ m1 = true ∧ ca = true ∧ m2 = false))) ∨
  (is = true ∧ so = true ∧ m1 = true ∧ m2 = true ∧ ca = true ∧ ∃ b, oneB x = some b ∧ v1 = b.id ∧ v2 = b.weight ∧ av = b.addr.toNat)
theorem BR.of (w : World) (x : List UInt8) (hl : x.length ≤ 100000) : ∃ sr s1 s2 s3 is so m1 m2 ca v1 v2 av, BR w (strOf x) sr s1 s2 s3 is so m1 m2 ca v1 v2 av ∧ PieceR x is so m1 m2 ca v1 v2 av := by
  have l1 := cut_len x 64
  have l2 := cut_len (Lib.cut x [64]).2.1 42
  refine ⟨_, _, _, _, _, _, _, _, _, _, _, _, ⟨fun w' hk => rCut_any w' x 64 hl, fun w' hk => rCut_any w' (Lib.cut x [64]).2.1 42 (by omega), fun w' hk => rNum_any w' (Lib.cut x [64]).1 (by omega),
    fun w' hk => rNum_any w' (Lib.cut (Lib.cut x [64]).2.1 [42]).2.1 (by omega), fun w' hk => rParseAddr_any w' (Lib.cut (Lib.cut x [64]).2.1 [42]).1 (by omega)⟩, ?_⟩
  unfold PieceR oneB
  cases (Lib.cut x [64]).2.2 with
  | false => exact .inl ⟨by simp, .inl rfl⟩
  | true =>
    cases (Lib.cut (Lib.cut x [64]).2.1 [42]).2.2 with
    | false => exact .inl ⟨by simp, .inr (.inl ⟨rfl, rfl⟩)⟩
    | true =>
      rw [if_pos ⟨rfl, rfl⟩]
      cases canon (Lib.cut x [64]).1 with
      | none => exact .inl ⟨rfl, .inr (.inr (.inl ⟨rfl, rfl, rfl⟩))⟩
      | some n =>
        cases addrO (Lib.cut (Lib.cut x [64]).2.1 [42]).1 with
        | none => exact .inl ⟨rfl, .inr (.inr (.inr (.inl ⟨rfl, rfl, rfl, rfl⟩)))⟩
        | some a =>
          cases canon (Lib.cut (Lib.cut x [64]).2.1 [42]).2.1 with
          | none => exact .inl ⟨rfl, .inr (.inr (.inr (.inr ⟨rfl, rfl, rfl, rfl, rfl⟩)))⟩
          | some k => exact .inr ⟨rfl, rfl, rfl, rfl, rfl, ⟨n, a, k⟩, rfl, rfl, rfl, rfl⟩
theorem allO_get : ∀ {xs : List (List UInt8)} {l : List BackD}, allO xs = some l → ∀ (k : Nat) (x : List UInt8) (b : BackD), xs[k]? = some x → oneB x = some b → l[k]? = some b
  | [], l, h, k, x, b, hk, hb => by simp at hk
  | y :: r, l, h, k, x, b, hk, hb => by
    rw [allO] at h
    split at h
    · rename_i c l' e1 e2
      injection h with h
      subst h
      cases k with
      | zero => simp at hk; subst hk; rw [e1] at hb; injection hb with hb; subst hb; rfl
      | succ k => simpa using allO_get e2 k x b (by simpa using hk) hb
    · cases h
theorem parse_rng {s : List UInt8} {k : Nat} {x : List UInt8} {b : BackD} (h0 : s ≠ [45]) (hk : (pieces 44 s)[k]? = some x) (h : oneB x = some b) (hb : mayB b = false) : parseB s = none := by
  unfold parseB
  rw [if_neg h0]
  split
  · rfl
  · cases hA : allO (pieces 44 s) with
    | none => rfl
    | some l =>
      have h1 := List.mem_of_getElem? (allO_get hA k x b hk h)
      have h2 : mayBs l = false := by
        cases hm : mayBs l with
        | false => rfl
        | true =>
          have := (List.all_eq_true.1 (by unfold mayBs at hm; simp only [Bool.and_eq_true] at hm; exact hm.2.1)) b h1
          rw [this] at hb; cases hb
      dsimp only
      rw [h2]; rfl
theorem mayB_not {b : BackD} (h : b.id < 0 ∨ 65535 < b.id ∨ b.weight < 1 ∨ 10 < b.weight) : mayB b = false := by
  cases hm : mayB b with
  | false => rfl
  | true =>
    simp [mayB, inB] at hm
    omega
theorem mayBs_len {l : List BackD} (h : 16 < l.length) : mayBs l = false := by
  cases hm : mayBs l with
  | false => rfl
  | true => have := (mayBs_iff.1 hm).1; omega
def RestI (P : List (List UInt8)) (k : Nat) (mb : Bool) (rs : List UInt8) : Prop := (mb = true ∧ pieces 44 rs = P.drop k ∧ rs.length ≤ 100000) ∨ (mb = false ∧ P.length = k)
theorem RestI.next {P : List (List UInt8)} {k : Nat} {rs : List UInt8} (h : RestI P k true rs) : P[k]? = some (Lib.cut rs [44]).1 ∧ RestI P (k + 1) (Lib.cut rs [44]).2.2 (Lib.cut rs [44]).2.1 := by
  rcases h with ⟨_, h1, h2⟩ | ⟨h1, _⟩
  · rcases cut_ex 44 rs with hc | ⟨x, y, rfl, hx⟩
    · rw [cut_no hc]
      rw [pieces_no hc] at h1
      have h3 : P[k]? = some rs := by
        have := congrArg (fun l => l[0]?) h1
        simpa using this.symm
      refine ⟨h3, .inr ⟨rfl, ?_⟩⟩
      have h4 := congrArg List.length h1
      rw [List.length_drop] at h4
      simp at h4
      omega
    · rw [cut_at 44 x y hx]
      rw [pieces_at hx] at h1
      have h3 : P[k]? = some x := by
        have := congrArg (fun l => l[0]?) h1
        simpa using this.symm
      refine ⟨h3, .inl ⟨rfl, ?_, by simp at h2 ⊢; omega⟩⟩
      have h4 := congrArg (List.drop 1) h1
      simpa [List.drop_drop] using h4
  · cases h1
set_option maxHeartbeats 12800000 in
theorem rParse_any (w : World) (s : List UInt8) (hl : s.length ≤ 100000) (ht : PowTab w) :
    Calls Tryz.prog 8 #[.string (strOf s)] w fun e w' => ∃ v, e = .returned (.tuple #[v, .bool (parseB s).isSome]) ∧ BkV w w' v ((parseB s).getD []) := by
  by_cases h0 : s = [45]
  · subst h0
    show Calls Tryz.prog 8 #[.string ⟨#[45]⟩] w fun e w' => ∃ v, e = .returned (.tuple #[v, .bool true]) ∧ BkV w w' v []
    go_enter Tryz.func8, Tryz.ntmps8
    go_wp2
    go_ret2
    exact ⟨_, rfl, LV.nil (Kept.refl _ _)⟩
  · have hd := strOf_ne h0
    have HT := Lib.hid (fun w' (hk : Kept [] w w') => tab_kept ht (g := 3) (by kernel_rfl) hk (by simp))
    obtain ⟨P, hP⟩ : ∃ P, pieces 44 s = P := ⟨_, rfl⟩
    obtain ⟨R, hR⟩ : ∃ R, parseB s = R := ⟨_, rfl⟩
    have HP := Lib.hid (fun p (hp : p ∈ P) => Nat.le_trans (pieces_mem 44 _ s rfl p (by rw [hP]; exact hp)) hl)
    have HBAD := Lib.hid (show ∀ (k : Nat) x, P[k]? = some x → oneB x = none → R = none from fun k x h1 h2 => by rw [← hR]; exact parse_bad h0 (by rw [hP]; exact h1) h2)
    have HRNG := Lib.hid (show ∀ (k : Nat) x b, P[k]? = some x → oneB x = some b → mayB b = false → R = none from fun k x b h1 h2 h3 => by rw [← hR]; exact parse_rng h0 (by rw [hP]; exact h1) h2 h3)
    have HMANY := Lib.hid (show 16 < P.length → R = none from fun h => by rw [← hR, parseB, if_neg h0, hP, if_pos h])
    have HEND := Lib.hid (show ∀ l, allO P = some l → (mayBs l = false → R = none) ∧ (mayBs l = true → R = some l) ∧ textB l = s ∧ ∀ b ∈ l, numB b from fun l h1 => by
      have h2 := allO_textB (s := s) (by rw [hP]; exact h1)
      refine ⟨fun h3 => ?_, fun h3 => ?_, h2⟩
      · by_cases h : 16 < (pieces 44 s).length
        · rw [← hR, parseB, if_neg h0, if_pos h]
        · rw [← hR, parse_end h0 h (by rw [hP]; exact h1), h3]; rfl
      · have h4 := (mayBs_iff.1 h3).1
        have h5 := allO_len h1
        rw [← hR, parse_end h0 (by rw [hP]; omega) (by rw [hP]; exact h1), if_pos h3])
    have HST := Lib.hid (show RestI P 0 true s from .inl ⟨rfl, by rw [List.drop_zero]; exact hP, hl⟩)
    rw [hR]
    obtain ⟨u, hu⟩ : ∃ u, strOf s = u := ⟨_, rfl⟩
    have HU := Lib.hid hu
    rw [hu] at hd ⊢
    clear hP hR hu hl h0 ht
    go_enter Tryz.func8, Tryz.ntmps8
    go_wp2
    go_loopg [4, 5, 6] (20 : Nat) (fun g v mo re wr => ∃ (k : Nat) (l : List BackD) (mb : Bool) (rs : List UInt8) (ru : ByteArray), k ≤ 17 ∧ g = 20 - k ∧ mo = .bool mb ∧ re = .string ru ∧ Hid (strOf rs = ru) ∧ Hid (allO (P.take k) = some l ∧ l.length = k) ∧ Hid (RestI P k mb rs) ∧ BkO w w wr v l)
    case atStart => exact ⟨0, [], true, s, u, by omega, rfl, rfl, rfl, Lib.hid HU.out, Lib.hid ⟨rfl, rfl⟩, Lib.hid HST.out, BkO.nil (Kept.refl _ _)⟩
    case round =>
      obtain ⟨k, l, mb, rs, ru, hk, rfl, rfl, rfl, hS, hA, hI, hv⟩ := hrel
      have V := Lib.hid hv
      obtain ⟨vA, vc, rfl⟩ := hv.len
      clear hv
      have LK := Lib.hid hA.out.2
      have KK := Lib.hid (LV.kept V.out.bk)
      rw [LK.out] at V ⊢
      by_cases hgo : mb = true ∧ k ≤ 16
      · obtain ⟨rfl, hk16⟩ := hgo
        obtain ⟨hx, hI2⟩ := RestI.next hI.out
        have hrl : rs.length ≤ 100000 := by rcases hI.out with ⟨_, _, h⟩ | ⟨h, _⟩; exact h; cases h
        have hcr : ∀ w', Calls Tryz.prog 28 #[.string (strOf rs), .int .u8 44] w' fun e w'' => e = .returned (.tuple #[.string (strOf (Lib.cut rs [44]).1), .string (strOf (Lib.cut rs [44]).2.1), .bool (Lib.cut rs [44]).2.2]) ∧ Kept [] w' w'' := fun w' => rCut_any w' rs 44 hrl
        rw [hS.out] at hcr
        obtain ⟨x, hxe⟩ : ∃ x, (Lib.cut rs [44]).1 = x := ⟨_, rfl⟩
        obtain ⟨y, hye⟩ : ∃ x, (Lib.cut rs [44]).2.1 = x := ⟨_, rfl⟩
        obtain ⟨mb2, hme⟩ : ∃ x, (Lib.cut rs [44]).2.2 = x := ⟨_, rfl⟩
        rw [hxe, hye, hme] at hcr
        rw [hxe] at hx
        rw [hye, hme] at hI2
        have HI2 := Lib.hid hI2
        obtain ⟨sr, s1, s2, s3, is, so, m1, m2, ca, v1, v2, av, hbr, hpo⟩ := BR.of w x (HP.out x (List.mem_of_getElem? hx))
        have HF := Lib.hid hbr
        have HB := Lib.hid (HBAD.out k x hx)
        have HG := Lib.hid (HRNG.out k x)
        have HXK := Lib.hid hx
        have HTK := Lib.hid ((allO_take hx).trans (by rw [hA.out.1]))
        obtain ⟨dx, hdx⟩ : ∃ d, strOf x = d := ⟨_, rfl⟩
        obtain ⟨dy, hdy⟩ : ∃ d, strOf y = d := ⟨_, rfl⟩
        have DY := Lib.hid hdy
        rw [hdx] at HF hcr
        rw [hdy] at hcr
        have CR := Lib.hid hcr
        have i2 : (k : Int) ≤ 16 := by omega
        clear hbr hdx hdy hx hA hxe hye hme hcr hrl hI hI2 hS
        unfold PieceR at hpo
        rcases hpo with ⟨hno, hpo⟩ | ⟨rfl, rfl, rfl, rfl, rfl, b, hb, rfl, rfl, rfl⟩
        · have HRN := Lib.hid (HB.out hno)
          clear hno HB HTK HG HXK
          rcases hpo with rfl | ⟨rfl, rfl⟩ | ⟨rfl, rfl, rfl⟩ | ⟨rfl, rfl, rfl, rfl⟩ | ⟨rfl, rfl, rfl, rfl, rfl⟩
          all_goals
            go_wp2_with (first
              | (go_at_call 28
                 first
                   | (with_reducible refine (CR.out _).mono ?_
                      rintro e w2 ⟨rfl, k1⟩
                      have V := Lib.hid (V.out.go k1)
                      have KK := Lib.hid (KK.out.trans k1 (by simp))
                      clear k1)
                   | (with_reducible refine (HF.out.c1 _ KK.out).mono ?_
                      rintro e w3 ⟨rfl, k1⟩
                      have V := Lib.hid (V.out.go k1)
                      have KK := Lib.hid (KK.out.trans k1 (by simp))
                      clear k1)
                   | (with_reducible refine (HF.out.c2 _ KK.out).mono ?_
                      rintro e w4 ⟨rfl, k1⟩
                      have V := Lib.hid (V.out.go k1)
                      have KK := Lib.hid (KK.out.trans k1 (by simp))
                      clear k1))
              | (go_at_call 29
                 first
                   | (with_reducible refine (HF.out.n1 _ KK.out).mono ?_
                      rintro e w5 ⟨rfl, k1⟩
                      have V := Lib.hid (V.out.go k1)
                      have KK := Lib.hid (KK.out.trans k1 (by simp))
                      clear k1)
                   | (with_reducible refine (HF.out.n2 _ KK.out).mono ?_
                      rintro e w7 ⟨rfl, k1⟩
                      have V := Lib.hid (V.out.go k1)
                      have KK := Lib.hid (KK.out.trans k1 (by simp))
                      clear k1))
              | (go_at_call 30
                 with_reducible refine (HF.out.a1 _ KK.out).mono ?_
                 rintro e w6 ⟨rfl, k1⟩
                 have V := Lib.hid (V.out.go k1)
                 have KK := Lib.hid (KK.out.trans k1 (by simp))
                 clear k1))
            go_ret2
            exact ⟨_, by rw [HRN.out]; rfl, by rw [HRN.out]; exact LV.nil KK.out⟩
        · have HBX := Lib.hid hb
          have hway : (b.id < 0) ∨ (¬ b.id < 0 ∧ 65535 < b.id) ∨ (¬ b.id < 0 ∧ ¬ 65535 < b.id ∧ b.weight < 1) ∨ (¬ b.id < 0 ∧ ¬ 65535 < b.id ∧ ¬ b.weight < 1 ∧ 10 < b.weight) ∨ (¬ b.id < 0 ∧ ¬ 65535 < b.id ∧ ¬ b.weight < 1 ∧ ¬ 10 < b.weight) := by omega
          have HRB := Lib.hid (fun h => HG.out b HXK.out hb (mayB_not h))
          have HX := Lib.hid (show allO (P.take (k + 1)) = some (l ++ [b]) from by
            have h1 := HTK.out
            rw [hb] at h1
            exact h1)
          clear hb HB HTK HG HXK
          rcases hway with r1 | ⟨r1, r2⟩ | ⟨r1, r2, r3⟩ | ⟨r1, r2, r3, r4⟩ | ⟨r1, r2, r3, r4⟩
          iterate 4
            · have HRN := Lib.hid (HRB.out (by omega))
              go_wp2_with (first
                | (go_at_call 28
                   first
                     | (with_reducible refine (CR.out _).mono ?_
                        rintro e w2 ⟨rfl, k1⟩
                        have V := Lib.hid (V.out.go k1)
                        have KK := Lib.hid (KK.out.trans k1 (by simp))
                        clear k1)
                     | (with_reducible refine (HF.out.c1 _ KK.out).mono ?_
                        rintro e w3 ⟨rfl, k1⟩
                        have V := Lib.hid (V.out.go k1)
                        have KK := Lib.hid (KK.out.trans k1 (by simp))
                        clear k1)
                     | (with_reducible refine (HF.out.c2 _ KK.out).mono ?_
                        rintro e w4 ⟨rfl, k1⟩
                        have V := Lib.hid (V.out.go k1)
                        have KK := Lib.hid (KK.out.trans k1 (by simp))
                        clear k1))
                | (go_at_call 29
                   first
                     | (with_reducible refine (HF.out.n1 _ KK.out).mono ?_
                        rintro e w5 ⟨rfl, k1⟩
                        have V := Lib.hid (V.out.go k1)
                        have KK := Lib.hid (KK.out.trans k1 (by simp))
                        clear k1)
                     | (with_reducible refine (HF.out.n2 _ KK.out).mono ?_
                        rintro e w7 ⟨rfl, k1⟩
                        have V := Lib.hid (V.out.go k1)
                        have KK := Lib.hid (KK.out.trans k1 (by simp))
                        clear k1))
                | (go_at_call 30
                   with_reducible refine (HF.out.a1 _ KK.out).mono ?_
                   rintro e w6 ⟨rfl, k1⟩
                   have V := Lib.hid (V.out.go k1)
                   have KK := Lib.hid (KK.out.trans k1 (by simp))
                   clear k1))
              go_ret2
              exact ⟨_, by rw [HRN.out]; rfl, by rw [HRN.out]; exact LV.nil KK.out⟩
          · go_wp2_with (first
              | (go_at_call 28
                 first
                   | (with_reducible refine (CR.out _).mono ?_
                      rintro e w2 ⟨rfl, k1⟩
                      have V := Lib.hid (V.out.go k1)
                      have KK := Lib.hid (KK.out.trans k1 (by simp))
                      clear k1)
                   | (with_reducible refine (HF.out.c1 _ KK.out).mono ?_
                      rintro e w3 ⟨rfl, k1⟩
                      have V := Lib.hid (V.out.go k1)
                      have KK := Lib.hid (KK.out.trans k1 (by simp))
                      clear k1)
                   | (with_reducible refine (HF.out.c2 _ KK.out).mono ?_
                      rintro e w4 ⟨rfl, k1⟩
                      have V := Lib.hid (V.out.go k1)
                      have KK := Lib.hid (KK.out.trans k1 (by simp))
                      clear k1))
              | (go_at_call 29
                 first
                   | (with_reducible refine (HF.out.n1 _ KK.out).mono ?_
                      rintro e w5 ⟨rfl, k1⟩
                      have V := Lib.hid (V.out.go k1)
                      have KK := Lib.hid (KK.out.trans k1 (by simp))
                      clear k1)
                   | (with_reducible refine (HF.out.n2 _ KK.out).mono ?_
                      rintro e w7 ⟨rfl, k1⟩
                      have V := Lib.hid (V.out.go k1)
                      have KK := Lib.hid (KK.out.trans k1 (by simp))
                      have hsz7 := KK.out.size
                      have hrow := V.out.row
                      clear k1))
              | (go_at_call 30
                 with_reducible refine (HF.out.a1 _ KK.out).mono ?_
                 rintro e w6 ⟨rfl, k1⟩
                 have V := Lib.hid (V.out.go k1)
                 have KK := Lib.hid (KK.out.trans k1 (by simp))
                 clear k1)
              | (at_builtin
                 refine wpList_bk (W := w) (W0 := w) (w0 := w7) (bk := b) (l := l) rfl (.tmp 96) (.tmp 101) rfl rfl hsz7 (by rfl) V.out (by rfl) (by rw [LK.out]; omega) ?_
                 intro A9 m9 c9 w9 h1 k9
                 have V9 := Lib.hid h1
                 clear h1 k9))
            go_roundg (20 - (k + 1))
            case measure => omega
            case rel => exact ⟨k + 1, l ++ [b], mb2, y, dy, by omega, rfl, rfl, rfl, Lib.hid DY.out, Lib.hid ⟨HX.out, by rw [List.length_append, LK.out]; rfl⟩, Lib.hid HI2.out, V9.out⟩
      · have HEX := Lib.hid (show (mayBs l = false ∧ R = none) ∨ (mayBs l = true ∧ R = some l ∧ textB l = s ∧ ∀ b ∈ l, numB b) from by
          rcases hI.out with ⟨h1, h2, _⟩ | ⟨h1, h2⟩
          · have hk17 : k = 17 := by
              have : ¬ k ≤ 16 := fun h => hgo ⟨h1, h⟩
              omega
            refine .inl ⟨mayBs_len (by rw [LK.out]; omega), HMANY.out ?_⟩
            have h3 := pieces_ne 44 rs
            rw [h2] at h3
            have h4 := List.length_pos_iff.2 h3
            rw [List.length_drop] at h4
            omega
          · have h3 := hA.out.1
            rw [List.take_of_length_le (by omega)] at h3
            obtain ⟨e1, e2, e3, e4⟩ := HEND.out l h3
            cases hm : mayBs l
            · exact .inl ⟨rfl, e1 hm⟩
            · exact .inr ⟨rfl, e2 hm, e3, e4⟩)
        have hmb : (mb = false) ∨ (mb = true ∧ ¬ (k : Int) ≤ 16) := by
          cases mb
          · exact .inl rfl
          · exact .inr ⟨rfl, fun h => hgo ⟨rfl, by omega⟩⟩
        obtain ⟨G, hG, _⟩ := LV.arr BkOk V.out.bk
        have HM := Lib.hid (rMayBk_any wr l hG)
        have HX := Lib.hid (fun (h4 : ∀ b ∈ l, numB b) w' (hk : Kept [] wr w') => rText_any w' l (BkArr.kept hG hk (by simp)) h4 (by omega) (HT.out _ (KK.out.trans hk (by simp))))
        clear hG hA hI hS hgo
        rcases HEX.out with ⟨e1, e2⟩ | ⟨e1, e2, e3, e4⟩
        · have HMY := Lib.hid e1
          have HRN := Lib.hid e2
          clear e1 e2
          rcases hmb with rfl | ⟨rfl, j1⟩
          all_goals
            go_wp2_with (first
              | (go_at_call 12
                 go_must (refine HM.out.mono ?_)
                 go_must (rintro e w2 ⟨rfl, k1⟩)
                 go_must (rw [HMY.out])
                 go_must (have KK := Lib.hid (KK.out.trans k1 (by simp)))
                 go_must (clear k1)))
            go_ret2
            exact ⟨_, by rw [HRN.out]; rfl, by rw [HRN.out]; exact LV.nil KK.out⟩
        · have HMY := Lib.hid e1
          have HRS := Lib.hid e2
          have HTX := Lib.hid (fun w' (hk : Kept [] wr w') => HX.out e4 w' hk)
          rw [e3, HU.out] at HTX
          clear e1 e2 e3 e4
          rcases hmb with rfl | ⟨rfl, j1⟩
          all_goals
            go_wp2_with (first
              | (go_at_call 12
                 go_must (refine HM.out.mono ?_)
                 go_must (rintro e w2 ⟨rfl, k1⟩)
                 go_must (rw [HMY.out])
                 go_must (have V := Lib.hid (V.out.go k1))
                 go_must (have KR := Lib.hid k1)
                 go_must (clear k1))
              | (go_at_call 21
                 go_must (refine (HTX.out _ KR.out).mono ?_)
                 go_must (rintro e w3 ⟨rfl, k1⟩)
                 go_must (have V := Lib.hid (V.out.go k1))
                 go_must (clear k1)))
            go_ret2
            exact ⟨_, by rw [HRS.out]; rfl, by rw [HRS.out]; exact V.out.bk⟩
end
end Go.Proofs.YtgndijdhmkphaaaGreatDoor
