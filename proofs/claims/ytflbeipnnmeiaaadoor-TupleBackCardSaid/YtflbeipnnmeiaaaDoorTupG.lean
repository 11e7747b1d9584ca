
/-
  The contracts of tuple.number and tuple.ParseAddr at texts that a program wrote.
-/
import Derived.Test.YtflbeipnnmeiaaaDoorTupF
import Derived.Test.YtflbeipnnmeiaaaDoorShelfB
namespace Go.Proofs.YtflbeipnnmeiaaaDoor
open Go.RowKit Go.ChangeShapes Go.WideShapes Go.ChangeAt Go.Deep
set_option linter.unusedVariables false
set_option maxRecDepth 100000

theorem kept_bytes (w : World) (t : TypeId) (s : ByteArray) : Kept [] w (Lib.bytesWorld w t s) := by
  unfold Lib.bytesWorld
  have k := ((Kept.refl [] w).drew).alloc (.cells (Lib.bytesCells w t s) t)
  refine ⟨k.os, k.tape, k.output, ?_, fun i hi hs => ?_⟩
  · simp [World.freeze]
  · rw [← k.block i hi hs]
    show (Array.modify _ _ _)[i]? = _
    rw [Array.getElem?_modify, if_neg (by show ¬ w.heap.size = i; omega)]
theorem Atoi_any (w : World) (n : Int) (h : inI n) : Calls Tryd.prog 57 #[.string (strOf (Lib.itoa n))] w fun e w' => e = .returned (.tuple #[.int .i64 n, .nilIface]) ∧ Kept [] w w' := by
  have hl := itoa_len h
  refine (Tryd.strconv_Atoi_ok (strOf (Lib.itoa n)) (by rw [strOf_size]; omega) n (by rw [strOf_list]; exact atoi_itoa n h.1 h.2) w).mono ?_
  rintro e w' ⟨he, hw⟩
  refine ⟨he, ?_⟩
  rcases hw with rfl | ⟨t, rfl⟩
  · exact Kept.refl _ _
  · exact kept_bytes _ _ _
theorem Atoi_at (w : World) (n : Int) (s : ByteArray) (hs : Hid (strOf (Lib.itoa n) = s)) (h : inI n) : Calls Tryd.prog 57 #[.string s] w fun e w' => e = .returned (.tuple #[.int .i64 n, .nilIface]) ∧ Kept [] w w' := by
  rw [← hs.out]; exact Atoi_any w n h
set_option maxHeartbeats 3200000 in
theorem number_good (w : World) (n most : Int) (hn : inI n) (ht : PowTab w) :
    Calls Tryd.prog 43 #[.string (strOf (Lib.itoa n)), .int .i64 most] w fun e w' => e = .returned (.tuple #[.int .i64 n, .bool (decide (0 ≤ n ∧ n ≤ most))]) ∧ Kept [] w w' := by
  have HT := Lib.hid (fun w' (hk : Kept [] w w') => tab_kept ht (g := 1) (by kernel_rfl) hk (by simp))
  obtain ⟨s, hs⟩ : ∃ s, strOf (Lib.itoa n) = s := ⟨_, rfl⟩
  have HS := Lib.hid hs
  rw [hs]
  have HN := Lib.hid hn
  clear hs ht hn
  have hw : (n < 0) ∨ (0 ≤ n ∧ ¬ n ≤ most) ∨ (0 ≤ n ∧ n ≤ most) := by omega
  rcases hw with h0 | ⟨h0, h1⟩ | ⟨h0, h1⟩
  · have d0 : decide (0 ≤ n) = false := decide_eq_false (by omega)
    have d1 : decide (0 ≤ n ∧ n ≤ most) = false := decide_eq_false (by omega)
    rw [d1]
    clear d1 h0
    go_enter Tryd.func43, Tryd.ntmps43
    go_wp2_with (first
      | (go_at_call 57
         go_must (refine (Atoi_at _ n s HS HN.out).mono ?_)
         go_must (rintro e w1 ⟨rfl, k1⟩)
         go_must (have K := Lib.hid k1)
         go_must (clear k1))
      | (go_at_call 30
         go_must (refine (Itoa_any _ _ HN.out.1 HN.out.2 (HT.out _ K.out)).mono ?_)
         go_must (rintro e w2 ⟨rfl, k1⟩)
         go_must (rw [HS.out])
         go_must (have K := Lib.hid (K.out.trans k1 (by simp)))
         go_must (clear k1)))
    go_ret2
    exact ⟨rfl, K.out⟩
  · have d0 : decide (0 ≤ n) = true := decide_eq_true h0
    have d2 : decide (n ≤ most) = false := decide_eq_false h1
    have d1 : decide (0 ≤ n ∧ n ≤ most) = false := decide_eq_false (by omega)
    rw [d1]
    clear d1 h0 h1
    go_enter Tryd.func43, Tryd.ntmps43
    go_wp2_with (first
      | (go_at_call 57
         go_must (refine (Atoi_at _ n s HS HN.out).mono ?_)
         go_must (rintro e w1 ⟨rfl, k1⟩)
         go_must (have K := Lib.hid k1)
         go_must (clear k1))
      | (go_at_call 30
         go_must (refine (Itoa_any _ _ HN.out.1 HN.out.2 (HT.out _ K.out)).mono ?_)
         go_must (rintro e w2 ⟨rfl, k1⟩)
         go_must (rw [HS.out])
         go_must (have K := Lib.hid (K.out.trans k1 (by simp)))
         go_must (clear k1)))
    go_ret2
    exact ⟨rfl, K.out⟩
  · have d0 : decide (0 ≤ n) = true := decide_eq_true h0
    have d2 : decide (n ≤ most) = true := decide_eq_true h1
    have d1 : decide (0 ≤ n ∧ n ≤ most) = true := decide_eq_true (by omega)
    rw [d1]
    clear d1 h0 h1
    go_enter Tryd.func43, Tryd.ntmps43
    go_wp2_with (first
      | (go_at_call 57
         go_must (refine (Atoi_at _ n s HS HN.out).mono ?_)
         go_must (rintro e w1 ⟨rfl, k1⟩)
         go_must (have K := Lib.hid k1)
         go_must (clear k1))
      | (go_at_call 30
         go_must (refine (Itoa_any _ _ HN.out.1 HN.out.2 (HT.out _ K.out)).mono ?_)
         go_must (rintro e w2 ⟨rfl, k1⟩)
         go_must (rw [HS.out])
         go_must (have K := Lib.hid (K.out.trans k1 (by simp)))
         go_must (clear k1)))
    go_ret2
    exact ⟨rfl, K.out⟩
/-- an address, as far as its first k bytes -/
def accA (a : UInt32) (k : Nat) : Nat := a.toNat / 2 ^ (8 * (4 - k))
theorem accA_zero (a : UInt32) : accA a 0 = 0 := by
  unfold accA
  have := a.toNat_lt
  exact Nat.div_eq_of_lt this
theorem accA_four (a : UInt32) : accA a 4 = a.toNat := by unfold accA; simp
theorem accA_lt (a : UInt32) {k : Nat} (h : k < 4) : accA a k < 16777216 := by
  unfold accA
  have := a.toNat_lt
  have hk : k = 0 ∨ k = 1 ∨ k = 2 ∨ k = 3 := by omega
  rcases hk with rfl | rfl | rfl | rfl
  all_goals simp only [Nat.reduceSub, Nat.reduceMul, Nat.reducePow]; omega
theorem accA_step (a : UInt32) {k : Nat} (h : k < 4) : accA a (k + 1) = accA a k * 256 + byteN a (3 - k) := by
  unfold accA byteN
  have hk : k = 0 ∨ k = 1 ∨ k = 2 ∨ k = 3 := by omega
  rcases hk with rfl | rfl | rfl | rfl
  all_goals simp only [Nat.reduceSub, Nat.reduceMul, Nat.reducePow, Nat.reduceAdd]; omega
theorem or32 (x y : Nat) (hx : x < 16777216) (hy : y < 256) : bits .or .u32 ((x : Int) * 256) (y : Int) = ((x * 256 + y : Nat) : Int) := by
  rw [show ((x : Int) * 256) = ((x * 256 : Nat) : Int) by omega, u32_or_nat _ _ (by omega) (by omega), nat_join 8 _ _ (by omega) (by omega)]
theorem dec_itoa (n : Nat) : Lib.decDigits n = Lib.itoa (n : Int) := (Lib.itoa_nonneg n).symm
set_option maxHeartbeats 3200000 in
theorem ParseAddr_good (w : World) (a : UInt32) (m : Int) (hm : w.cell? ⟨0, 0, none⟩ = some (.int .i64 m)) (ht : PowTab w) :
    Calls Tryd.prog 21 #[.string (strOf (addrF a))] w fun e w' => e = .returned (.tuple #[.int .u32 (a.toNat : Nat), .bool true]) ∧ Kept [] w w' := by
  have HT := Lib.hid (fun w' (hk : Kept [] w w') => tab_kept ht (g := 1) (by kernel_rfl) hk (by simp))
  have HM := Lib.hid hm
  have hl := addrF_len a
  have HS := Lib.hid (Tryd.strings_Split (strOf (addrF a)) ⟨#[46]⟩ m w (by rw [strOf_size]; omega) hm (by decide))
  have e1 := addr_count a
  have e2 := addr_split a
  have HS := Lib.hid (show Calls Tryd.prog 42 #[.string (strOf (addrF a)), .string ⟨#[46]⟩] w fun e w' => e = .returned (.slice (some ⟨w.heap.size, 0, none⟩) 4 4) ∧ w' = w.alloc (.cells (((addrL a).map strOf).map Value.string).toArray 9) from by
    refine HS.out.mono ?_
    rintro e w' ⟨rfl, rfl⟩
    rw [e1, e2]
    exact ⟨rfl, rfl⟩)
  clear e1 e2 hl hm ht
  obtain ⟨s, hs⟩ : ∃ s, strOf (addrF a) = s := ⟨_, rfl⟩
  rw [hs] at HS ⊢
  clear hs
  go_enter Tryd.func21, Tryd.ntmps21
  go_wp2_with (go_at_call 42
               go_must (refine HS.out.mono ?_)
               go_must (rintro e w1 ⟨rfl, hw1⟩)
               go_must (have L := Lib.hid (show Blk w1 w.heap.size 9 (((addrL a).map strOf).map Value.string).toArray by rw [hw1]; exact Blk.new _ _ _))
               go_must (have K := Lib.hid (show Kept [] w w1 by rw [hw1]; exact (Kept.refl [] w).alloc _))
               go_must (clear hw1))
  go_loopg [5, 17] (4 : Nat) (fun g v i wr => ∃ k : Nat, k ≤ 4 ∧ g = 4 - k ∧ i = .int .i64 k ∧ v = .int .u32 (accA a k : Nat) ∧ Blk wr w.heap.size 9 (((addrL a).map strOf).map Value.string).toArray ∧ Kept [] w wr)
  case atStart => exact ⟨0, by omega, rfl, rfl, by rw [accA_zero]; rfl, L.out, K.out⟩
  case round =>
    obtain ⟨k, hk, rfl, rfl, rfl, hL, hK⟩ := hrel
    clear L K
    have L := Lib.hid hL
    have K := Lib.hid hK
    clear hL hK
    by_cases hlt : k < 4
    · have hc : wr.cell? ⟨w.heap.size, k, none⟩ = some (.string (strOf (Lib.itoa (byteN a (3 - k) : Nat)))) := by
        rw [L.out.cell]
        have hk4 : k = 0 ∨ k = 1 ∨ k = 2 ∨ k = 3 := by omega
        rcases hk4 with rfl | rfl | rfl | rfl
        all_goals simp [addrL, Lib.itoa_nonneg]
      have hx := accA_lt a hlt
      have hb := byteN_lt a (3 - k)
      have hst := accA_step a hlt
      obtain ⟨x, hxe⟩ : ∃ x, accA a k = x := ⟨_, rfl⟩
      obtain ⟨b, hbe⟩ : ∃ b, byteN a (3 - k) = b := ⟨_, rfl⟩
      rw [hbe] at hc hb hst
      rw [hxe] at hx hst ⊢
      obtain ⟨d, hd⟩ : ∃ d, strOf (Lib.itoa (b : Nat)) = d := ⟨_, rfl⟩
      rw [hd] at hc
      have HD := Lib.hid hd
      have HST := Lib.hid hst
      have HOR := Lib.hid (or32 x b hx (by omega))
      have hdec : decide ((0 : Int) ≤ (b : Int) ∧ (b : Int) ≤ 255) = true := decide_eq_true (by omega)
      have HDEC := Lib.hid hdec
      have i1 : (k : Int) < 4 := by omega
      clear hxe hbe hd hst hdec
      go_wp2_with (go_at_call 43
                   go_must (rw [← HD.out])
                   go_must (refine (number_good _ (b : Int) 255 (by unfold inI; omega) (HT.out _ K.out)).mono ?_)
                   go_must (rintro e w2 ⟨rfl, k1⟩)
                   go_must (rw [HDEC.out])
                   go_must (have L := Lib.hid (L.out.kept k1 (by simp)))
                   go_must (have K := Lib.hid (K.out.trans k1 (by simp)))
                   go_must (clear k1))
      go_roundg (4 - (k + 1))
      case measure => omega
      case rel => exact ⟨k + 1, by omega, rfl, by go_num, by rw [HST.out, ← HOR.out], L.out, K.out⟩
    · obtain rfl : k = 4 := by omega
      have HA := Lib.hid (accA_four a)
      go_wp2
      go_ret2
      exact ⟨by rw [HA.out]; rfl, K.out⟩
end Go.Proofs.YtflbeipnnmeiaaaDoor
