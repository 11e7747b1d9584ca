/-
  The document's ParseAddr at any text. (GensForms)
-/
import Derived.Test.YtgndijdhmkphaaaGreatDoorGfG
namespace Go.Proofs.YtgndijdhmkphaaaGreatDoor
set_option linter.unusedVariables false
section
open Go.RowKit Go.ChangeShapes Go.WideShapes Go.ChangeAt Go.Deep
set_option maxRecDepth 100000
theorem New.cells1 {w w' : World} {e : TypeId} {v : Value} {n : Nat} {xs : List Value} (h : New w e 1 v n xs w') (h0 : xs ≠ []) : ∃ g cap, v = .slice (some ⟨g, 0, none⟩) n cap ∧ ∀ w2, Kept [] w' w2 → ∀ j u, xs[j]? = some u → w2.cell? ⟨g, j, none⟩ = some u := by
  have hlen := h.1.1
  rcases h.1.2 with ⟨h1, h2⟩ | ⟨g, cap, cur, hv, h3, hg, h5⟩
  · refine absurd (List.length_eq_zero_iff.1 ?_) h0
    first | (rw [hlen, h2]; done) | (rw [hlen]; omega) | (simp_all; done)
  · refine ⟨g, cap, hv, fun w2 hk j u hj => ?_⟩
    have hx : (Value.slice (some ⟨g, 0, none⟩) n cap).ownBlock = some g := by simp [Value.ownBlock]
    have hc := World.ownsRow.cells (g := g) h.1 (by rw [hv]; exact hx) j u hj
    rw [Addr.add_lit, Nat.zero_add] at hc
    exact (hk.cell (p := ⟨g, j, none⟩) (World.block_lt_of_cell? w' ⟨g, j, none⟩ hc) (by simp)).trans hc
theorem pieces_le (c : UInt8) : ∀ s : List UInt8, (pieces c s).length ≤ s.length + 1
  | [] => by simp [pieces]
  | a :: r => by
    have ih := pieces_le c r
    rw [pieces]
    split
    · simp only [List.length_cons]; omega
    · split
      · rename_i hp; rw [hp] at ih; simp only [List.length_cons] at ih ⊢; omega
      · simp
theorem byteO_none {y : List UInt8} (h : canon y = none) : byteO y = none := by unfold byteO; rw [h]
theorem byteO_out {y : List UInt8} {n : Int} (h : canon y = some n) (hn : ¬ (0 ≤ n ∧ n ≤ 255)) : byteO y = none := by unfold byteO; rw [h]; exact if_neg hn
theorem byteO_in {y : List UInt8} {b : Nat} (h : canon y = some (b : Int)) (hn : b ≤ 255) : byteO y = some b := by unfold byteO; rw [h]; dsimp only; rw [if_pos (by omega)]; simp
theorem addrO_long {s : List UInt8} (h : 20 < s.length) : addrO s = none := by
  cases hr : addrO s with
  | none => rfl
  | some a => have h1 := addrO_text hr; have h2 := addrF_len a; rw [h1] at h2; omega
set_option maxHeartbeats 3200000 in
theorem rParseAddr_any (w : World) (s : List UInt8) (hl : s.length ≤ 100000) :
    Calls Tryz.prog 30 #[.string (strOf s)] w fun e w' => e = .returned (.tuple #[.int .u32 (((addrO s).getD 0).toNat : Nat), .bool (addrO s).isSome]) ∧ Kept [] w w' := by
  have hz := strOf_size s
  by_cases h20 : 20 < s.length
  · have HR := Lib.hid (addrO_long h20)
    obtain ⟨u, hu⟩ : ∃ u, strOf s = u := ⟨_, rfl⟩
    rw [hu] at hz ⊢
    have i1 : (20 : Int) < (u.size : Int) := by omega
    clear h20 hl hu hz
    go_enter Tryz.func30, Tryz.ntmps30
    go_wp2
    go_ret2
    exact ⟨by rw [HR.out]; rfl, Kept.refl _ _⟩
  have HS := Lib.hid (rSplit_any w s 46 hl)
  have HP := Lib.hid (fun p hp => Nat.le_trans (pieces_mem 46 _ s rfl p hp) hl)
  have hpn := pieces_ne 46 s
  have hpl := pieces_le 46 s
  obtain ⟨P, hP⟩ : ∃ P, pieces 46 s = P := ⟨_, rfl⟩
  obtain ⟨R, hR⟩ : ∃ R, addrO s = R := ⟨_, rfl⟩
  have HR := Lib.hid (show R = if P.length = 4 then (accO P 0).map UInt32.ofNat else none from by rw [← hR, ← hP]; rfl)
  rw [hP] at HS HP hpn hpl
  rw [hR]
  obtain ⟨u, hu⟩ : ∃ u, strOf s = u := ⟨_, rfl⟩
  rw [hu] at HS hz ⊢
  have i0 : ¬ (20 : Int) < (u.size : Int) := by omega
  obtain ⟨n, hn⟩ : ∃ n, P.length = n := ⟨_, rfl⟩
  rw [hn] at HS HR
  have HN := Lib.hid hn
  have hn100 : n ≤ 100 := by omega
  have HPN := Lib.hid (show strs P ≠ [] from by simpa [strs] using hpn)
  clear hP hR hu hn hl hz h20 hpn hpl
  go_enter Tryz.func30, Tryz.ntmps30
  go_wp2_with (go_at_call 51
               go_must (refine HS.out.mono ?_)
               go_must (rintro e w1 ⟨v, rfl, hv⟩)
               go_must (have K := Lib.hid hv.2.1)
               go_must (obtain ⟨g, cap, rfl, hcs⟩ := New.cells1 hv HPN.out)
               go_must (have HC := Lib.hid hcs)
               go_must (clear hv hcs))
  go_loopg [5, 17] n (fun gg v i wr => ∃ (k x : Nat) (y : Int), k ≤ n ∧ gg = n - k ∧ i = .int .i64 k ∧ v = .int .u32 y ∧ Hid (accO (P.take k) 0 = some x) ∧ Hid (k ≤ 4 → y = (x : Int)) ∧ Kept [] w1 wr)
  case atStart => exact ⟨0, 0, 0, by omega, by omega, rfl, rfl, Lib.hid rfl, Lib.hid (fun _ => rfl), Kept.refl _ _⟩
  case round =>
    obtain ⟨k, x, y, hk, rfl, rfl, rfl, hA, hY, hkw⟩ := hrel
    have KW := Lib.hid hkw
    clear hkw
    by_cases hlt : k < n
    · have hkl : k < P.length := by rw [HN.out]; exact hlt
      obtain ⟨p, hp⟩ : ∃ p, P[k]? = some p := ⟨_, List.getElem?_eq_getElem hkl⟩
      have hc := HC.out wr KW.out k (.string (strOf p)) (by simp [strs, hp])
      have HQ := Lib.hid (rNum_any wr p (HP.out p (List.mem_of_getElem? hp)))
      have HT := Lib.hid ((accO_take hp).trans (by rw [hA.out]))
      obtain ⟨d, hd⟩ : ∃ d, strOf p = d := ⟨_, rfl⟩
      rw [hd] at hc HQ
      have i1 : (k : Int) < (n : Int) := by omega
      have HNO := Lib.hid (show byteO p = none → R = none from fun h => by
        have h1 := HT.out
        rw [h] at h1
        rw [HR.out, accO_none (k := k + 1) h1]; split <;> rfl)
      cases hup : canon p with
      | none =>
        rw [hup] at HQ
        have HRN := Lib.hid (HNO.out (byteO_none hup))
        clear hup hd hp hkl hA HT HNO hY
        go_wp2_with (go_at_call 29
                     go_must (refine HQ.out.mono ?_)
                     go_must (rintro e w2 ⟨rfl, k1⟩)
                     go_must (have KW := Lib.hid (KW.out.trans k1 (by simp)))
                     go_must (clear k1))
        go_ret2
        exact ⟨by rw [HRN.out]; rfl, K.out.trans KW.out (by simp)⟩
      | some b0 =>
        rw [hup] at HQ
        by_cases hlow : b0 < 0
        · have HRN := Lib.hid (HNO.out (byteO_out hup (by omega)))
          clear hup hd hp hkl hA HT HNO hY
          go_wp2_with (go_at_call 29
                       go_must (refine HQ.out.mono ?_)
                       go_must (rintro e w2 ⟨rfl, k1⟩)
                       go_must (have KW := Lib.hid (KW.out.trans k1 (by simp)))
                       go_must (clear k1))
          go_ret2
          exact ⟨by rw [HRN.out]; rfl, K.out.trans KW.out (by simp)⟩
        · by_cases hhi : 255 < b0
          · have HRN := Lib.hid (HNO.out (byteO_out hup (by omega)))
            clear hup hd hp hkl hA HT HNO hY
            go_wp2_with (go_at_call 29
                         go_must (refine HQ.out.mono ?_)
                         go_must (rintro e w2 ⟨rfl, k1⟩)
                         go_must (have KW := Lib.hid (KW.out.trans k1 (by simp)))
                         go_must (clear k1))
            go_ret2
            exact ⟨by rw [HRN.out]; rfl, K.out.trans KW.out (by simp)⟩
          · obtain ⟨b, rfl⟩ : ∃ b : Nat, b0 = (b : Int) := ⟨b0.toNat, by omega⟩
            have HX := Lib.hid (show accO (P.take (k + 1)) 0 = some (x * 256 + b) from by
              have h1 := HT.out
              rw [byteO_in hup (by omega)] at h1
              exact h1)
            have hb : b < 256 := by omega
            by_cases h4 : k < 4
            · have hx : x < 16777216 := by
                have h1 := accO_lt hA.out
                rw [List.length_take] at h1
                have h2 : 256 ^ min k P.length ≤ 256 ^ 3 := Nat.pow_le_pow_right (by omega) (by omega)
                have h3 : (256 : Nat) ^ 3 = 16777216 := rfl
                omega
              have HOR := Lib.hid (or32 x b hx hb)
              obtain rfl := hY.out (by omega)
              clear hup hd hp hkl hA HT HNO hY
              go_wp2_with (go_at_call 29
                           go_must (refine HQ.out.mono ?_)
                           go_must (rintro e w2 ⟨rfl, k1⟩)
                           go_must (have KW := Lib.hid (KW.out.trans k1 (by simp)))
                           go_must (clear k1))
              go_roundg (n - (k + 1))
              case measure => omega
              case rel => exact ⟨k + 1, x * 256 + b, _, by omega, rfl, by go_num, rfl, Lib.hid HX.out, Lib.hid (fun _ => HOR.out), KW.out⟩
            · clear hup hd hp hkl hA HT HNO hY
              go_wp2_with (go_at_call 29
                           go_must (refine HQ.out.mono ?_)
                           go_must (rintro e w2 ⟨rfl, k1⟩)
                           go_must (have KW := Lib.hid (KW.out.trans k1 (by simp)))
                           go_must (clear k1))
              go_roundg (n - (k + 1))
              case measure => omega
              case rel => exact ⟨k + 1, x * 256 + b, _, by omega, rfl, by go_num, rfl, Lib.hid HX.out, Lib.hid (fun h => absurd h (by omega)), KW.out⟩
    · obtain rfl : k = n := by omega
      have HAL := Lib.hid (show accO P 0 = some x from by
        have h1 := hA.out
        rw [List.take_of_length_le (by rw [HN.out]; exact Nat.le_refl _)] at h1
        exact h1)
      by_cases h4 : k = 4
      · subst h4
        have HRS := Lib.hid (show R = some (UInt32.ofNat x) ∧ (UInt32.ofNat x).toNat = x from by
          have h2 := accO_lt HAL.out
          rw [HN.out] at h2
          exact ⟨by rw [HR.out, if_pos rfl, HAL.out]; rfl, by rw [UInt32.toNat_ofNat', Nat.mod_eq_of_lt (by omega)]⟩)
        obtain rfl := hY.out (by omega)
        clear hA hY
        go_wp2
        go_ret2
        exact ⟨by rw [HRS.out.1]; show _ = Ending.returned (.tuple #[.int .u32 ((UInt32.ofNat x).toNat : Nat), .bool true]); rw [HRS.out.2]; rfl, K.out.trans KW.out (by simp)⟩
      · have HRN := Lib.hid (show R = none from by rw [HR.out, if_neg h4])
        have i4 : ((k : Int) != 4) = true := by rw [bne_iff_ne]; omega
        have i5 : ((k : Int) == 4) = false := by rw [beq_eq_false_iff_ne]; omega
        clear hA hY h4
        go_wp2
        go_ret2
        exact ⟨by rw [HRN.out]; rfl, K.out.trans KW.out (by simp)⟩
end
end Go.Proofs.YtgndijdhmkphaaaGreatDoor
