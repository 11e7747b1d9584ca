/-
  The document's Number at any text. (GensForms)
-/
import Derived.Test.YtgndijdhmkphaaaGreatDoorGfE
namespace Go.Proofs.YtgndijdhmkphaaaGreatDoor
set_option linter.unusedVariables false
section
open Go.RowKit Go.ChangeShapes Go.WideShapes Go.ChangeAt Go.Deep
set_option maxRecDepth 100000
theorem numR_neg (r : List UInt8) : numR (45 :: r) = if r = [] ∨ 19 < r.length ∨ r.head? = some 48 then none else if okD r = false then none else if numV r ≤ 9223372036854775808 then some (-(numV r : Int)) else none := by
  unfold numR
  simp
theorem numR_pos {s : List UInt8} (h : ¬ s.head? = some 45) : numR s = if s = [] ∨ 19 < s.length ∨ (s.head? = some 48 ∧ s ≠ [48]) then none else if okD s = false then none else if numV s < 9223372036854775808 then some (numV s : Int) else none := by
  unfold numR
  simp only [h, if_false]
theorem okD_at {l : List UInt8} {k : Nat} {c : UInt8} (h : l[k]? = some c) (hc : isD c = false) : okD l = false := by
  cases ho : okD l with
  | false => rfl
  | true =>
    have := List.all_eq_true.1 ho c (List.mem_of_getElem? h)
    rw [this] at hc; cases hc
set_option maxHeartbeats 3200000 in
theorem rNum_pos (w : World) (T : List UInt8) (hl : T.length ≤ 100000) (hn : ¬ T.head? = some 45) :
    Calls Tryz.prog 29 #[.string (strOf T)] w fun e w' => e = .returned (.tuple #[.int .i64 ((numR T).getD 0), .bool (numR T).isSome]) ∧ Kept [] w w' := by
  have HG := Lib.hid (strOf_at T)
  have hz := strOf_size T
  have hN := numR_pos hn
  obtain ⟨R, hR⟩ : ∃ R, numR T = R := ⟨_, rfl⟩
  rw [hR] at hN ⊢
  have hq : ∀ l, ((strOf T).toList == l) = decide (T = l) := fun l => by rw [strOf_toList, Bool.eq_iff_iff]; simp
  obtain ⟨tu, hu⟩ : ∃ u, strOf T = u := ⟨_, rfl⟩
  rw [hu] at HG hz hq ⊢
  have HZ := Lib.hid hz
  have hm : tu.size ≤ 100000 := by omega
  by_cases h0 : T = []
  · have HR := Lib.hid (hN.trans (by rw [if_pos (.inl h0)]))
    have hz0 : tu.size = 0 := by rw [hz, h0]; rfl
    have q1 := (hq []).trans (decide_eq_true h0)
    have k1 : ¬ (0 : Int) < (tu.size : Int) := by omega
    clear hN hR hu hz hq h0 hn hl
    go_enter Tryz.func29, Tryz.ntmps29
    go_wp2
    go_ret2
    exact ⟨by rw [HR.out]; rfl, Kept.refl _ _⟩
  · have hp : 0 < tu.size := by rw [hz]; exact List.length_pos_iff.2 h0
    have hg0 := HG.out 0 hp
    have e0 : (((tu[0].toNat : Nat) : Int) == 45) = false := by
      rw [beq_eq_false_iff_ne]; intro h
      exact hn (by rw [List.head?_eq_getElem?, hg0]; exact congrArg some (UInt8.toNat_inj.1 (by show _ = 45; omega)))
    have k1 : (0 : Int) < (tu.size : Int) := by omega
    have q1 := (hq []).trans (decide_eq_false h0)
    by_cases h19 : 19 < T.length
    · have HR := Lib.hid (hN.trans (by rw [if_pos (.inr (.inl h19))]))
      have k2 : (19 : Int) < (tu.size : Int) := by omega
      clear hN hR hu hz hq h0 hn hl h19 hg0
      go_enter Tryz.func29, Tryz.ntmps29
      go_wp2
      go_ret2
      exact ⟨by rw [HR.out]; rfl, Kept.refl _ _⟩
    · have k2 : ¬ (19 : Int) < (tu.size : Int) := by omega
      have H19 := Lib.hid (show T.length ≤ 19 from by omega)
      by_cases h48 : T.head? = some 48
      · have e1 : (((tu[0].toNat : Nat) : Int) == 48) = true := by
          rw [List.head?_eq_getElem?, hg0] at h48
          injection h48 with h48
          rw [h48]; rfl
        by_cases hone : T = [48]
        · have q2 := (hq [48]).trans (decide_eq_true hone)
          have q3 : (tu.toList != [48]) = false := by rw [bne, q2]; rfl
          have HN := Lib.hid (show R = if okD T = false then none else if numV T < 9223372036854775808 then some (numV T : Int) else none from by rw [hN, if_neg (by simp only [not_or]; exact ⟨h0, h19, fun h => h.2 hone⟩)])
          have HBAD := Lib.hid (show okD T = false → R = none from fun h => by rw [HN.out, if_pos h])
          have HGOOD := Lib.hid (show okD T = true → ∀ nv, numV T = nv → R = if nv < 9223372036854775808 then some (nv : Int) else none from fun h nv h1 => by rw [HN.out, if_neg (by rw [h]; simp), h1])
          clear hN hR hu hz hq h0 hn hl h19 hg0 h48 hone
          go_enter Tryz.func29, Tryz.ntmps29
          go_wp2
          go_loopg [6, 38] tu.size (fun g v i wr => ∃ k nv : Nat, k ≤ tu.size ∧ g = tu.size - k ∧ i = .int .i64 k ∧ v = .int .u64 (nv : Nat) ∧ Hid (numV (T.take k) = nv ∧ okD (T.take k) = true) ∧ wr = w)
          case atStart => exact ⟨0, 0, by omega, by omega, rfl, rfl, Lib.hid ⟨by simp [numV], by simp [okD]⟩, rfl⟩
          case round =>
            obtain ⟨k, nv, hk, rfl, rfl, rfl, hA, rfl⟩ := hrel
            by_cases hlt : k < tu.size
            · have hg := HG.out k hlt
              have i1 : (k : Int) < (tu.size : Int) := by omega
              obtain ⟨d, hd⟩ : ∃ d, tu[k] = d := ⟨_, rfl⟩
              rw [hd] at hg
              have HGK := Lib.hid hg
              have hb8 : d.toNat < 256 := d.toNat_lt
              have hnv : nv < 1000000000000000000 := by
                have h1 := numV_lt _ hA.out.2
                rw [hA.out.1, List.length_take] at h1
                have h3 := HZ.out
                have h4 := H19.out
                have h2 : 10 ^ min k T.length ≤ 10 ^ 18 := Nat.pow_le_pow_right (by omega) (by omega)
                have h5 : (10 : Nat) ^ 18 = 1000000000000000000 := rfl
                omega
              have HS := Lib.hid (show T.take (k + 1) = T.take k ++ [d] from by rw [List.take_add_one, HGK.out]; rfl)
              clear hg
              have hway : (d.toNat < 48) ∨ (48 ≤ d.toNat ∧ 57 < d.toNat) ∨ (48 ≤ d.toNat ∧ d.toNat ≤ 57) := by omega
              rcases hway with hw | ⟨hw, hw2⟩ | ⟨hw, hw2⟩
              · have HR := Lib.hid (HBAD.out (okD_at HGK.out (by simp [isD]; omega)))
                have j1 : ((d.toNat : Nat) : Int) < 48 := by omega
                go_wp2
                go_ret2
                exact ⟨by rw [HR.out]; rfl, Kept.refl _ _⟩
              · have HR := Lib.hid (HBAD.out (okD_at HGK.out (by simp [isD]; omega)))
                have j1 : ¬ ((d.toNat : Nat) : Int) < 48 := by omega
                have j2 : (57 : Int) < ((d.toNat : Nat) : Int) := by omega
                go_wp2
                go_ret2
                exact ⟨by rw [HR.out]; rfl, Kept.refl _ _⟩
              · have j1 : ¬ ((d.toNat : Nat) : Int) < 48 := by omega
                have j2 : ¬ (57 : Int) < ((d.toNat : Nat) : Int) := by omega
                have w1 : IntKind.u8.wrap (((d.toNat : Nat) : Int) - 48) = ((d.toNat : Nat) : Int) - 48 := IntWalk.u8_in _ (by omega)
                have w2 : IntKind.u64.wrap (10 * (nv : Int)) = 10 * (nv : Int) := IntWalk.u64_in _ (by omega)
                have w3 : IntKind.u64.wrap (((d.toNat : Nat) : Int) - 48) = ((d.toNat : Nat) : Int) - 48 := IntWalk.u64_in _ (by omega)
                have w4 : IntKind.u64.wrap (10 * (nv : Int) + (((d.toNat : Nat) : Int) - 48)) = 10 * (nv : Int) + (((d.toNat : Nat) : Int) - 48) := IntWalk.u64_in _ (by omega)
                have HNV := Lib.hid (show numV (T.take (k + 1)) = 10 * nv + (d.toNat - 48) ∧ okD (T.take (k + 1)) = true from by
                  rw [HS.out, numV_snoc, okD_snoc, hA.out.1, hA.out.2]
                  exact ⟨by omega, by simp [isD, hw, hw2]⟩)
                go_wp2
                go_roundg (tu.size - (k + 1))
                case measure => omega
                case rel => exact ⟨k + 1, 10 * nv + (d.toNat - 48), by omega, rfl, by go_num, by congr 1; omega, Lib.hid HNV.out, rfl⟩
            · obtain rfl : k = tu.size := by omega
              have hall : T.take tu.size = T := List.take_of_length_le (by rw [HZ.out]; exact Nat.le_refl _)
              have HFIN := Lib.hid (HGOOD.out (by rw [← hall]; exact hA.out.2) nv (by rw [← hall]; exact hA.out.1))
              clear hall
              by_cases hb : nv < 9223372036854775808
              · have HR := Lib.hid (HFIN.out.trans (by rw [if_pos hb]))
                have i1 : (nv : Int) < 9223372036854775808 := by omega
                have x1 : IntKind.i64.wrap (nv : Int) = (nv : Int) := by rw [IntKind.wrap_i64]; omega
                clear hb
                go_wp2
                go_ret2
                exact ⟨by rw [HR.out]; rfl, Kept.refl _ _⟩
              · have HR := Lib.hid (HFIN.out.trans (by rw [if_neg hb]))
                have i1 : ¬ (nv : Int) < 9223372036854775808 := by omega
                clear hb
                go_wp2
                go_ret2
                exact ⟨by rw [HR.out]; rfl, Kept.refl _ _⟩
        · have HR := Lib.hid (hN.trans (by rw [if_pos (.inr (.inr ⟨h48, hone⟩))]))
          have q2 := (hq [48]).trans (decide_eq_false hone)
          have q3 : (tu.toList != [48]) = true := by rw [bne, q2]; rfl
          clear hN hR hu hz hq h0 hn hl h19 hg0 h48 hone
          go_enter Tryz.func29, Tryz.ntmps29
          go_wp2
          go_ret2
          exact ⟨by rw [HR.out]; rfl, Kept.refl _ _⟩
      · have e1 : (((tu[0].toNat : Nat) : Int) == 48) = false := by
          rw [beq_eq_false_iff_ne]; intro h
          exact h48 (by rw [List.head?_eq_getElem?, hg0]; exact congrArg some (UInt8.toNat_inj.1 (by show _ = 48; omega)))
        have HN := Lib.hid (show R = if okD T = false then none else if numV T < 9223372036854775808 then some (numV T : Int) else none from by rw [hN, if_neg (by simp only [not_or]; exact ⟨h0, h19, fun h => h48 h.1⟩)])
        have HBAD := Lib.hid (show okD T = false → R = none from fun h => by rw [HN.out, if_pos h])
        have HGOOD := Lib.hid (show okD T = true → ∀ nv, numV T = nv → R = if nv < 9223372036854775808 then some (nv : Int) else none from fun h nv h1 => by rw [HN.out, if_neg (by rw [h]; simp), h1])
        clear hN hR hu hz hq h0 hn hl h19 hg0 h48
        go_enter Tryz.func29, Tryz.ntmps29
        go_wp2
        go_loopg [6, 38] tu.size (fun g v i wr => ∃ k nv : Nat, k ≤ tu.size ∧ g = tu.size - k ∧ i = .int .i64 k ∧ v = .int .u64 (nv : Nat) ∧ Hid (numV (T.take k) = nv ∧ okD (T.take k) = true) ∧ wr = w)
        case atStart => exact ⟨0, 0, by omega, by omega, rfl, rfl, Lib.hid ⟨by simp [numV], by simp [okD]⟩, rfl⟩
        case round =>
          obtain ⟨k, nv, hk, rfl, rfl, rfl, hA, rfl⟩ := hrel
          by_cases hlt : k < tu.size
          · have hg := HG.out k hlt
            have i1 : (k : Int) < (tu.size : Int) := by omega
            obtain ⟨d, hd⟩ : ∃ d, tu[k] = d := ⟨_, rfl⟩
            rw [hd] at hg
            have HGK := Lib.hid hg
            have hb8 : d.toNat < 256 := d.toNat_lt
            have hnv : nv < 1000000000000000000 := by
              have h1 := numV_lt _ hA.out.2
              rw [hA.out.1, List.length_take] at h1
              have h3 := HZ.out
              have h4 := H19.out
              have h2 : 10 ^ min k T.length ≤ 10 ^ 18 := Nat.pow_le_pow_right (by omega) (by omega)
              have h5 : (10 : Nat) ^ 18 = 1000000000000000000 := rfl
              omega
            have HS := Lib.hid (show T.take (k + 1) = T.take k ++ [d] from by rw [List.take_add_one, HGK.out]; rfl)
            clear hg
            have hway : (d.toNat < 48) ∨ (48 ≤ d.toNat ∧ 57 < d.toNat) ∨ (48 ≤ d.toNat ∧ d.toNat ≤ 57) := by omega
            rcases hway with hw | ⟨hw, hw2⟩ | ⟨hw, hw2⟩
            · have HR := Lib.hid (HBAD.out (okD_at HGK.out (by simp [isD]; omega)))
              have j1 : ((d.toNat : Nat) : Int) < 48 := by omega
              go_wp2
              go_ret2
              exact ⟨by rw [HR.out]; rfl, Kept.refl _ _⟩
            · have HR := Lib.hid (HBAD.out (okD_at HGK.out (by simp [isD]; omega)))
              have j1 : ¬ ((d.toNat : Nat) : Int) < 48 := by omega
              have j2 : (57 : Int) < ((d.toNat : Nat) : Int) := by omega
              go_wp2
              go_ret2
              exact ⟨by rw [HR.out]; rfl, Kept.refl _ _⟩
            · have j1 : ¬ ((d.toNat : Nat) : Int) < 48 := by omega
              have j2 : ¬ (57 : Int) < ((d.toNat : Nat) : Int) := by omega
              have w1 : IntKind.u8.wrap (((d.toNat : Nat) : Int) - 48) = ((d.toNat : Nat) : Int) - 48 := IntWalk.u8_in _ (by omega)
              have w2 : IntKind.u64.wrap (10 * (nv : Int)) = 10 * (nv : Int) := IntWalk.u64_in _ (by omega)
              have w3 : IntKind.u64.wrap (((d.toNat : Nat) : Int) - 48) = ((d.toNat : Nat) : Int) - 48 := IntWalk.u64_in _ (by omega)
              have w4 : IntKind.u64.wrap (10 * (nv : Int) + (((d.toNat : Nat) : Int) - 48)) = 10 * (nv : Int) + (((d.toNat : Nat) : Int) - 48) := IntWalk.u64_in _ (by omega)
              have HNV := Lib.hid (show numV (T.take (k + 1)) = 10 * nv + (d.toNat - 48) ∧ okD (T.take (k + 1)) = true from by
                rw [HS.out, numV_snoc, okD_snoc, hA.out.1, hA.out.2]
                exact ⟨by omega, by simp [isD, hw, hw2]⟩)
              go_wp2
              go_roundg (tu.size - (k + 1))
              case measure => omega
              case rel => exact ⟨k + 1, 10 * nv + (d.toNat - 48), by omega, rfl, by go_num, by congr 1; omega, Lib.hid HNV.out, rfl⟩
          · obtain rfl : k = tu.size := by omega
            have hall : T.take tu.size = T := List.take_of_length_le (by rw [HZ.out]; exact Nat.le_refl _)
            have HFIN := Lib.hid (HGOOD.out (by rw [← hall]; exact hA.out.2) nv (by rw [← hall]; exact hA.out.1))
            clear hall
            by_cases hb : nv < 9223372036854775808
            · have HR := Lib.hid (HFIN.out.trans (by rw [if_pos hb]))
              have i1 : (nv : Int) < 9223372036854775808 := by omega
              have x1 : IntKind.i64.wrap (nv : Int) = (nv : Int) := by rw [IntKind.wrap_i64]; omega
              clear hb
              go_wp2
              go_ret2
              exact ⟨by rw [HR.out]; rfl, Kept.refl _ _⟩
            · have HR := Lib.hid (HFIN.out.trans (by rw [if_neg hb]))
              have i1 : ¬ (nv : Int) < 9223372036854775808 := by omega
              clear hb
              go_wp2
              go_ret2
              exact ⟨by rw [HR.out]; rfl, Kept.refl _ _⟩
set_option maxHeartbeats 3200000 in
theorem rNum_neg (w : World) (T : List UInt8) (hl : T.length ≤ 100000) :
    Calls Tryz.prog 29 #[.string (strOf (45 :: T))] w fun e w' => e = .returned (.tuple #[.int .i64 ((numR (45 :: T)).getD 0), .bool (numR (45 :: T)).isSome]) ∧ Kept [] w w' := by
  have HG := Lib.hid (strOf_at T)
  have HG2 := strOf_at (45 :: T)
  have hz := strOf_size T
  have hz2 := strOf_size (45 :: T)
  have hN := numR_neg T
  obtain ⟨R, hR⟩ : ∃ R, numR (45 :: T) = R := ⟨_, rfl⟩
  rw [hR] at hN ⊢
  have hq : ∀ l, ((strOf T).toList == l) = decide (T = l) := fun l => by rw [strOf_toList, Bool.eq_iff_iff]; simp
  have hex : (strOf (45 :: T)).extract 1 (strOf (45 :: T)).size = strOf T := by
    rw [strOf_extract, strOf_size]; simp
  have q3 : ((strOf (45 :: T)).toList != [48]) = true := by rw [strOf_toList]; simp
  have q2 : ((strOf (45 :: T)).toList == [48]) = false := by rw [strOf_toList]; simp
  obtain ⟨su, hs⟩ : ∃ u, strOf (45 :: T) = u := ⟨_, rfl⟩
  obtain ⟨tu, hu⟩ : ∃ u, strOf T = u := ⟨_, rfl⟩
  rw [hs, hu] at hex
  rw [hs] at q2 q3 HG2 hz2 ⊢
  rw [hu] at HG hz hq
  have HZ := Lib.hid hz
  have hm : tu.size ≤ 100000 := by omega
  rw [List.length_cons] at hz2
  have hp2 : 0 < su.size := by omega
  have k0 : (0 : Int) < (su.size : Int) := by omega
  have k00 : (1 : Int) ≤ (su.size : Int) := by omega
  have hm2 : su.size ≤ 100001 := by omega
  have e00 : ((su[0].toNat : Nat) : Int) = 45 := by
    have h := HG2 0 hp2
    simp at h
    rw [← h]; rfl
  by_cases h0 : T = []
  · have HR := Lib.hid (hN.trans (by rw [if_pos (.inl h0)]))
    have q1 := (hq []).trans (decide_eq_true h0)
    have hz0 : tu.size = 0 := by rw [hz, h0]; rfl
    clear hN hR hu hs hz hz2 hq h0 hl HG2
    go_enter Tryz.func29, Tryz.ntmps29
    go_wp2
    go_ret2
    exact ⟨by rw [HR.out]; rfl, Kept.refl _ _⟩
  · have hp : 0 < tu.size := by rw [hz]; exact List.length_pos_iff.2 h0
    have hg0 := HG.out 0 hp
    have k1 : (0 : Int) < (tu.size : Int) := by omega
    have q1 := (hq []).trans (decide_eq_false h0)
    by_cases h19 : 19 < T.length
    · have HR := Lib.hid (hN.trans (by rw [if_pos (.inr (.inl h19))]))
      have k2 : (19 : Int) < (tu.size : Int) := by omega
      clear hN hR hu hs hz hz2 hq h0 hl h19 hg0 HG2
      go_enter Tryz.func29, Tryz.ntmps29
      go_wp2
      go_ret2
      exact ⟨by rw [HR.out]; rfl, Kept.refl _ _⟩
    · have k2 : ¬ (19 : Int) < (tu.size : Int) := by omega
      have H19 := Lib.hid (show T.length ≤ 19 from by omega)
      by_cases h48 : T.head? = some 48
      · have e1 : (((tu[0].toNat : Nat) : Int) == 48) = true := by
          have h49 := h48
          rw [List.head?_eq_getElem?, hg0] at h49
          injection h49 with h49
          rw [h49]; rfl
        have HR := Lib.hid (hN.trans (by rw [if_pos (.inr (.inr h48))]))
        clear hN hR hu hs hz hz2 hq h0 hl h19 hg0 h48 HG2
        go_enter Tryz.func29, Tryz.ntmps29
        go_wp2
        go_ret2
        exact ⟨by rw [HR.out]; rfl, Kept.refl _ _⟩
      · have e1 : (((tu[0].toNat : Nat) : Int) == 48) = false := by
          rw [beq_eq_false_iff_ne]; intro h
          exact h48 (by rw [List.head?_eq_getElem?, hg0]; exact congrArg some (UInt8.toNat_inj.1 (by show _ = 48; omega)))
        have HN := Lib.hid (show R = if okD T = false then none else if numV T ≤ 9223372036854775808 then some (-(numV T : Int)) else none from by rw [hN, if_neg (by simp only [not_or]; exact ⟨h0, h19, h48⟩)])
        have HBAD := Lib.hid (show okD T = false → R = none from fun h => by rw [HN.out, if_pos h])
        have HGOOD := Lib.hid (show okD T = true → ∀ nv, numV T = nv → R = if nv ≤ 9223372036854775808 then some (-(nv : Int)) else none from fun h nv h1 => by rw [HN.out, if_neg (by rw [h]; simp), h1])
        clear hN hR hu hs hz hz2 hq h0 hl h19 hg0 h48 HG2
        go_enter Tryz.func29, Tryz.ntmps29
        go_wp2
        go_loopg [6, 38] tu.size (fun g v i wr => ∃ k nv : Nat, k ≤ tu.size ∧ g = tu.size - k ∧ i = .int .i64 k ∧ v = .int .u64 (nv : Nat) ∧ Hid (numV (T.take k) = nv ∧ okD (T.take k) = true) ∧ wr = w)
        case atStart => exact ⟨0, 0, by omega, by omega, rfl, rfl, Lib.hid ⟨by simp [numV], by simp [okD]⟩, rfl⟩
        case round =>
          obtain ⟨k, nv, hk, rfl, rfl, rfl, hA, rfl⟩ := hrel
          by_cases hlt : k < tu.size
          · have hg := HG.out k hlt
            have i1 : (k : Int) < (tu.size : Int) := by omega
            obtain ⟨d, hd⟩ : ∃ d, tu[k] = d := ⟨_, rfl⟩
            rw [hd] at hg
            have HGK := Lib.hid hg
            have hb8 : d.toNat < 256 := d.toNat_lt
            have hnv : nv < 1000000000000000000 := by
              have h1 := numV_lt _ hA.out.2
              rw [hA.out.1, List.length_take] at h1
              have h3 := HZ.out
              have h4 := H19.out
              have h2 : 10 ^ min k T.length ≤ 10 ^ 18 := Nat.pow_le_pow_right (by omega) (by omega)
              have h5 : (10 : Nat) ^ 18 = 1000000000000000000 := rfl
              omega
            have HS := Lib.hid (show T.take (k + 1) = T.take k ++ [d] from by rw [List.take_add_one, HGK.out]; rfl)
            clear hg
            have hway : (d.toNat < 48) ∨ (48 ≤ d.toNat ∧ 57 < d.toNat) ∨ (48 ≤ d.toNat ∧ d.toNat ≤ 57) := by omega
            rcases hway with hw | ⟨hw, hw2⟩ | ⟨hw, hw2⟩
            · have HR := Lib.hid (HBAD.out (okD_at HGK.out (by simp [isD]; omega)))
              have j1 : ((d.toNat : Nat) : Int) < 48 := by omega
              go_wp2
              go_ret2
              exact ⟨by rw [HR.out]; rfl, Kept.refl _ _⟩
            · have HR := Lib.hid (HBAD.out (okD_at HGK.out (by simp [isD]; omega)))
              have j1 : ¬ ((d.toNat : Nat) : Int) < 48 := by omega
              have j2 : (57 : Int) < ((d.toNat : Nat) : Int) := by omega
              go_wp2
              go_ret2
              exact ⟨by rw [HR.out]; rfl, Kept.refl _ _⟩
            · have j1 : ¬ ((d.toNat : Nat) : Int) < 48 := by omega
              have j2 : ¬ (57 : Int) < ((d.toNat : Nat) : Int) := by omega
              have w1 : IntKind.u8.wrap (((d.toNat : Nat) : Int) - 48) = ((d.toNat : Nat) : Int) - 48 := IntWalk.u8_in _ (by omega)
              have w2 : IntKind.u64.wrap (10 * (nv : Int)) = 10 * (nv : Int) := IntWalk.u64_in _ (by omega)
              have w3 : IntKind.u64.wrap (((d.toNat : Nat) : Int) - 48) = ((d.toNat : Nat) : Int) - 48 := IntWalk.u64_in _ (by omega)
              have w4 : IntKind.u64.wrap (10 * (nv : Int) + (((d.toNat : Nat) : Int) - 48)) = 10 * (nv : Int) + (((d.toNat : Nat) : Int) - 48) := IntWalk.u64_in _ (by omega)
              have HNV := Lib.hid (show numV (T.take (k + 1)) = 10 * nv + (d.toNat - 48) ∧ okD (T.take (k + 1)) = true from by
                rw [HS.out, numV_snoc, okD_snoc, hA.out.1, hA.out.2]
                exact ⟨by omega, by simp [isD, hw, hw2]⟩)
              go_wp2
              go_roundg (tu.size - (k + 1))
              case measure => omega
              case rel => exact ⟨k + 1, 10 * nv + (d.toNat - 48), by omega, rfl, by go_num, by congr 1; omega, Lib.hid HNV.out, rfl⟩
          · obtain rfl : k = tu.size := by omega
            have hall : T.take tu.size = T := List.take_of_length_le (by rw [HZ.out]; exact Nat.le_refl _)
            have HFIN := Lib.hid (HGOOD.out (by rw [← hall]; exact hA.out.2) nv (by rw [← hall]; exact hA.out.1))
            clear hall
            by_cases hb : nv ≤ 9223372036854775808
            · have HR := Lib.hid (HFIN.out.trans (by rw [if_pos hb]))
              have i1 : (nv : Int) ≤ 9223372036854775808 := by omega
              have x1 : IntKind.i64.wrap (IntKind.u64.wrap (-(nv : Int))) = -(nv : Int) := by
                rw [IntKind.wrap_u64, IntKind.wrap_i64]; omega
              have x2 : IntKind.i64.wrap (-(nv : Int)) = -(nv : Int) := by
                rw [IntKind.wrap_i64]; omega
              clear hb
              go_wp2
              go_ret2
              exact ⟨by rw [HR.out]; first | rfl | (simp only [Option.getD_some, Option.isSome_some]; rfl), Kept.refl _ _⟩
            · have HR := Lib.hid (HFIN.out.trans (by rw [if_neg hb]))
              have i1 : ¬ (nv : Int) ≤ 9223372036854775808 := by omega
              clear hb
              go_wp2
              go_ret2
              exact ⟨by rw [HR.out]; rfl, Kept.refl _ _⟩
theorem rNum_any (w : World) (s : List UInt8) (hl : s.length ≤ 100000) :
    Calls Tryz.prog 29 #[.string (strOf s)] w fun e w' => e = .returned (.tuple #[.int .i64 ((canon s).getD 0), .bool (canon s).isSome]) ∧ Kept [] w w' := by
  rw [← numR_eq]
  by_cases h : s.head? = some 45
  · obtain ⟨r, rfl⟩ : ∃ r, s = 45 :: r := by cases s with | nil => simp at h | cons a r => simp at h; exact ⟨r, by rw [h]⟩
    exact rNum_neg w r (by simp at hl; omega)
  · exact rNum_pos w s hl h
end
end Go.Proofs.YtgndijdhmkphaaaGreatDoor
