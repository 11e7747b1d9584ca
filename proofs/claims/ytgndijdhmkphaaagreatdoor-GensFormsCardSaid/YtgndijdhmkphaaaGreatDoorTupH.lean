/-
  The contracts of tuple.end and tuple.Parse at texts that a program wrote.
-/
import Derived.Lib.IndexMore
import Derived.Lib.Split
import Derived.Lib.CountLaws
import Derived.Lib.AtoiAll
import Derived.Lib.ItoaMem
import Derived.Test.YtgndijdhmkphaaaGreatDoorTupD
import Derived.Test.YtgndijdhmkphaaaGreatDoorShelfB
namespace Go.Proofs.YtgndijdhmkphaaaGreatDoor
set_option linter.unusedVariables false
section
open Go.RowKit
theorem index_at (c : UInt8) : ∀ (x y : List UInt8), c ∉ x → Lib.index (x ++ c :: y) [c] = x.length
  | [], y, _ => by
    show Lib.index (c :: y) [c] = 0
    unfold Lib.index
    rw [if_pos (by simp [List.isPrefixOf])]
  | a :: x, y, h => by
    have h1 : c ≠ a := fun e => h (by rw [e]; exact List.mem_cons_self ..)
    have h2 : c ∉ x := fun e => h (List.mem_cons_of_mem _ e)
    show Lib.index (a :: (x ++ c :: y)) [c] = _
    unfold Lib.index
    rw [if_neg (by simp [List.isPrefixOf, h1]), index_at c x y h2]
    have : ((x.length : Int) == -1) = false := by rw [beq_eq_false_iff_ne]; omega
    simp [this]
theorem index_no (c : UInt8) : ∀ (x : List UInt8), c ∉ x → Lib.index x [c] = -1
  | [], _ => rfl
  | a :: x, h => by
    have h1 : c ≠ a := fun e => h (by rw [e]; exact List.mem_cons_self ..)
    have h2 : c ∉ x := fun e => h (List.mem_cons_of_mem _ e)
    unfold Lib.index
    rw [if_neg (by simp [List.isPrefixOf, h1]), index_no c x h2]
    rfl
theorem cut_at (c : UInt8) (x y : List UInt8) (h : c ∉ x) : Lib.cut (x ++ c :: y) [c] = (x, y, true) := by
  unfold Lib.cut
  rw [index_at c x y h, if_pos (by omega)]
  simp [List.drop_append]
theorem splitK_hit (c : UInt8) (x y : List UInt8) (k : Nat) (h : c ∉ x) : Lib.splitK [c] 0 (k + 1) (x ++ c :: y) = x :: Lib.splitK [c] 0 k y := by
  rw [Lib.splitK, index_at c x y h, if_neg (by rw [beq_iff_eq]; omega)]
  have e : x.drop (x.length + 1) = [] := List.drop_eq_nil_of_le (by omega)
  simp [List.drop_append, e]
theorem splitK_no (c : UInt8) (x : List UInt8) (k : Nat) (h : c ∉ x) : Lib.splitK [c] 0 k x = [x] := by
  cases k with
  | zero => rfl
  | succ k => rw [Lib.splitK, index_no c x h, if_pos (by rfl)]
theorem parse_snoc : ∀ (l : List UInt8) (acc n d : Nat), Lib.parseUint10 acc l = .ok n → d < 10 → n * 10 + d < 18446744073709551616 → n < 1844674407370955162 → Lib.parseUint10 acc (l ++ [UInt8.ofNat (48 + d)]) = .ok (n * 10 + d)
  | [], acc, n, d, h, hd, hn, h2 => by
    have e : acc = n := by simpa [Lib.parseUint10] using h
    subst e
    have hc : (UInt8.ofNat (48 + d)).toNat = 48 + d := by rw [UInt8.toNat_ofNat']; omega
    simp only [List.nil_append, Lib.parseUint10, hc]
    rw [if_pos (by omega), if_neg (by omega), if_neg (by omega), show 48 + d - 48 = d by omega]
  | c :: r, acc, n, d, h, hd, hn, h2 => by
    simp only [List.cons_append, Lib.parseUint10] at h ⊢
    split at h
    · rename_i h1
      rw [if_pos h1]
      split at h
      · cases h
      · rename_i h3
        rw [if_neg h3]
        split at h
        · cases h
        · rename_i h4
          rw [if_neg h4]
          exact parse_snoc r _ n d h hd hn h2
    · cases h
theorem parse_dec : ∀ (n : Nat), n < 9223372036854775809 → Lib.parseUint10 0 (Lib.decDigits n) = .ok n := by
  intro n
  induction n using Nat.strongRecOn with
  | ind n ih =>
    intro hn
    by_cases h : n < 10
    · rw [Lib.decDigits_one h]
      exact (parse_snoc [] 0 0 n rfl h (by omega) (by omega)).trans (by rw [Nat.zero_mul, Nat.zero_add])
    · have hs : Lib.decDigits n = Lib.decDigits (n / 10) ++ [UInt8.ofNat (48 + n % 10)] := by
        conv => lhs; rw [Lib.decDigits]
        rw [dif_neg h]
      rw [hs, parse_snoc _ 0 (n / 10) (n % 10) (ih (n / 10) (by omega) (by omega)) (by omega) (by omega) (by omega), show n / 10 * 10 + n % 10 = n by omega]
theorem atoi_itoa (n : Int) (h0 : -9223372036854775808 ≤ n) (h1 : n ≤ 9223372036854775807) : Lib.atoiAll (Lib.itoa n) = .ok n := by
  by_cases hn : n < 0
  · obtain ⟨u, rfl⟩ : ∃ u : Nat, n = -(u : Int) := ⟨n.natAbs, by omega⟩
    rw [Lib.itoa_neg u (by omega)]
    have hp := parse_dec u (by omega)
    have hne : Lib.decDigits u ≠ [] := fun e => by
      have := Lib.decDigits_length u; rw [e] at this; rw [Lib.nDigits] at this; split at this <;> simp at this
    have hm : Lib.parseMag (Lib.decDigits u) = .ok u := by unfold Lib.parseMag; rw [if_neg hne, hp]
    simp only [Lib.atoiAll]
    rw [if_pos (by decide), hm]
    simp only [show (45 : UInt8).toNat = 45 from rfl, not_true_eq_false, false_and, true_and, if_false, if_true]
    rw [if_neg (by omega)]
  · obtain ⟨u, rfl⟩ : ∃ u : Nat, n = (u : Int) := ⟨n.toNat, by omega⟩
    rw [Lib.itoa_nonneg]
    have hp := parse_dec u (by omega)
    cases hl : Lib.decDigits u with
    | nil => exact absurd (congrArg List.length hl) (by rw [Lib.decDigits_length, Lib.nDigits]; split <;> simp)
    | cons c r =>
      have hc : 48 ≤ c.toNat ∧ c.toNat ≤ 57 := by
        rw [hl, Lib.parseUint10] at hp
        split at hp
        · assumption
        · cases hp
      have hm : Lib.parseMag (c :: r) = .ok u := by rw [← hl]; unfold Lib.parseMag; rw [if_neg (by rw [hl]; simp), hp]
      simp only [Lib.atoiAll]
      rw [if_neg (by omega), hm]
      simp only
      rw [if_neg (by omega), if_neg (by omega), if_neg (by omega)]
theorem count_at (c : UInt8) (x y : List UInt8) (h : c ∉ x) : Lib.count (x ++ c :: y) [c] = 1 + Lib.count y [c] := by
  have e : x.drop (x.length + 1) = [] := List.drop_eq_nil_of_le (by omega)
  rw [Lib.count_hit (by simp) (index_at c x y h)]
  simp [List.drop_append, e]
theorem count_no (c : UInt8) (x : List UInt8) (h : c ∉ x) : Lib.count x [c] = 0 := Lib.count_miss (index_no c x h)
theorem strOf_list (l : List UInt8) : (strOf l).data.toList = l := by simp [strOf]
theorem addr_count (a : UInt32) : Lib.countB (strOf (addrF a)) ⟨#[46]⟩ = 3 := by
  have hn : ∀ n, (46 : UInt8) ∉ Lib.decDigits n := fun n => dec_no (by decide)
  show Lib.count (strOf (addrF a)).data.toList [46] = 3
  rw [strOf_list, addrF_eq, count_at _ _ _ (hn _), count_at _ _ _ (hn _), count_at _ _ _ (hn _), count_no _ _ (hn _)]
theorem addr_split (a : UInt32) : Lib.splitB ⟨#[46]⟩ 0 3 (strOf (addrF a)) = (addrL a).map strOf := by
  have hn : ∀ n, (46 : UInt8) ∉ Lib.decDigits n := fun n => dec_no (by decide)
  have h := Lib.splitB_data ⟨#[46]⟩ 0 3 (strOf (addrF a))
  rw [strOf_list, addrF_eq] at h
  rw [splitK_hit _ _ _ _ (hn _), splitK_hit _ _ _ _ (hn _), splitK_hit _ _ _ _ (hn _), splitK_no _ _ _ (hn _)] at h
  have hi : ∀ l m : List ByteArray, l.map (·.data.toList) = m.map (·.data.toList) → l = m := by
    intro l
    induction l with
    | nil => intro m e; cases m with
      | nil => rfl
      | cons y m => cases e
    | cons x l ih => intro m e; cases m with
      | nil => cases e
      | cons y m =>
        rw [List.map_cons, List.map_cons, List.cons.injEq] at e
        have hx : x = y := by
          cases x; cases y
          exact congrArg ByteArray.mk (Array.toList_inj.1 e.1)
        rw [hx, ih m e.2]
  refine hi _ _ ?_
  rw [addrF_eq, h]
  simp [addrL, strOf]
theorem itoa_no (n : Int) {s : UInt8} (h : ¬ (48 ≤ s.toNat ∧ s.toNat ≤ 57)) (h2 : s ≠ 45) : s ∉ Lib.itoa n := by
  unfold Lib.itoa
  split
  · intro hm
    rcases List.mem_cons.1 hm with e | e
    · exact h2 e
    · exact dec_no h e
  · exact dec_no h
end
section
open Go.RowKit Go.ChangeShapes Go.WideShapes Go.ChangeAt Go.Deep
set_option maxRecDepth 100000
theorem kept_bytes (w : World) (t : TypeId) (s : ByteArray) : Kept [] w (Lib.bytesWorld w t s) := by
  unfold Lib.bytesWorld
  have k := ((Kept.refl [] w).drew).alloc (.cells (Lib.bytesCells w t s) t)
  refine ⟨k.os, k.tape, k.output, ?_, fun i hi hs => ?_⟩
  · simp [World.freeze]
  · rw [← k.block i hi hs]
    show (Array.modify _ _ _)[i]? = _
    rw [Array.getElem?_modify, if_neg (by show ¬ w.heap.size = i; omega)]
theorem Atoi_any (w : World) (n : Int) (h : inI n) : Calls Tryz.prog 49 #[.string (strOf (Lib.itoa n))] w fun e w' => e = .returned (.tuple #[.int .i64 n, .nilIface]) ∧ Kept [] w w' := by
  have hl := itoa_len h
  refine (Tryz.strconv_Atoi_ok (strOf (Lib.itoa n)) (by rw [strOf_size]; omega) n (by rw [strOf_list]; exact atoi_itoa n h.1 h.2) w).mono ?_
  rintro e w' ⟨he, hw⟩
  refine ⟨he, ?_⟩
  rcases hw with rfl | ⟨t, rfl⟩
  · exact Kept.refl _ _
  · exact kept_bytes _ _ _
theorem Atoi_at (w : World) (n : Int) (s : ByteArray) (hs : Hid (strOf (Lib.itoa n) = s)) (h : inI n) : Calls Tryz.prog 49 #[.string s] w fun e w' => e = .returned (.tuple #[.int .i64 n, .nilIface]) ∧ Kept [] w w' := by
  rw [← hs.out]; exact Atoi_any w n h
set_option maxHeartbeats 3200000 in
theorem number_good (w : World) (n most : Int) (hn : inI n) (ht : PowTab w) :
    Calls Tryz.prog 50 #[.string (strOf (Lib.itoa n)), .int .i64 most] w fun e w' => e = .returned (.tuple #[.int .i64 n, .bool (decide (0 ≤ n ∧ n ≤ most))]) ∧ Kept [] w w' := by
  have HT := Lib.hid (fun w' (hk : Kept [] w w') => tab_kept ht (g := 3) (by kernel_rfl) hk (by simp))
  obtain ⟨s, hs⟩ : ∃ s, strOf (Lib.itoa n) = s := ⟨_, rfl⟩
  have HS := Lib.hid hs
  rw [hs]
  have HN := Lib.hid hn
  clear hs ht hn
  have hw : (n < 0) ∨ (0 ≤ n ∧ ¬ n ≤ most) ∨ (0 ≤ n ∧ n ≤ most) := by omega
  rcases hw with h0 | ⟨h0, h1⟩ | ⟨h0, h1⟩
  · have d0 : decide (0 ≤ n) = false := decide_eq_false (by omega)
    have d1 : decide (0 ≤ n ∧ n ≤ most) = false := decide_eq_false (by omega)
    rw [d1]
    clear d1 h0
    go_enter Tryz.func50, Tryz.ntmps50
    go_wp2_with (first
      | (go_at_call 49
         go_must (refine (Atoi_at _ n s HS HN.out).mono ?_)
         go_must (rintro e w1 ⟨rfl, k1⟩)
         go_must (have K := Lib.hid k1)
         go_must (clear k1))
      | (go_at_call 43
         go_must (refine (Itoa_any _ _ HN.out.1 HN.out.2 (HT.out _ K.out)).mono ?_)
         go_must (rintro e w2 ⟨rfl, k1⟩)
         go_must (rw [HS.out])
         go_must (have K := Lib.hid (K.out.trans k1 (by simp)))
         go_must (clear k1)))
    go_ret2
    exact ⟨rfl, K.out⟩
  · have d0 : decide (0 ≤ n) = true := decide_eq_true h0
    have d2 : decide (n ≤ most) = false := decide_eq_false h1
    have d1 : decide (0 ≤ n ∧ n ≤ most) = false := decide_eq_false (by omega)
    rw [d1]
    clear d1 h0 h1
    go_enter Tryz.func50, Tryz.ntmps50
    go_wp2_with (first
      | (go_at_call 49
         go_must (refine (Atoi_at _ n s HS HN.out).mono ?_)
         go_must (rintro e w1 ⟨rfl, k1⟩)
         go_must (have K := Lib.hid k1)
         go_must (clear k1))
      | (go_at_call 43
         go_must (refine (Itoa_any _ _ HN.out.1 HN.out.2 (HT.out _ K.out)).mono ?_)
         go_must (rintro e w2 ⟨rfl, k1⟩)
         go_must (rw [HS.out])
         go_must (have K := Lib.hid (K.out.trans k1 (by simp)))
         go_must (clear k1)))
    go_ret2
    exact ⟨rfl, K.out⟩
  · have d0 : decide (0 ≤ n) = true := decide_eq_true h0
    have d2 : decide (n ≤ most) = true := decide_eq_true h1
    have d1 : decide (0 ≤ n ∧ n ≤ most) = true := decide_eq_true (by omega)
    rw [d1]
    clear d1 h0 h1
    go_enter Tryz.func50, Tryz.ntmps50
    go_wp2_with (first
      | (go_at_call 49
         go_must (refine (Atoi_at _ n s HS HN.out).mono ?_)
         go_must (rintro e w1 ⟨rfl, k1⟩)
         go_must (have K := Lib.hid k1)
         go_must (clear k1))
      | (go_at_call 43
         go_must (refine (Itoa_any _ _ HN.out.1 HN.out.2 (HT.out _ K.out)).mono ?_)
         go_must (rintro e w2 ⟨rfl, k1⟩)
         go_must (rw [HS.out])
         go_must (have K := Lib.hid (K.out.trans k1 (by simp)))
         go_must (clear k1)))
    go_ret2
    exact ⟨rfl, K.out⟩
def accA (a : UInt32) (k : Nat) : Nat := a.toNat / 2 ^ (8 * (4 - k))
theorem accA_zero (a : UInt32) : accA a 0 = 0 := by
  unfold accA
  have := a.toNat_lt
  exact Nat.div_eq_of_lt this
theorem accA_four (a : UInt32) : accA a 4 = a.toNat := by unfold accA; simp
theorem accA_lt (a : UInt32) {k : Nat} (h : k < 4) : accA a k < 16777216 := by
  unfold accA
  have := a.toNat_lt
  have hk : k = 0 ∨ k = 1 ∨ k = 2 ∨ k = 3 := by omega
  rcases hk with rfl | rfl | rfl | rfl
  all_goals simp only [Nat.reduceSub, Nat.reduceMul, Nat.reducePow]; omega
theorem accA_step (a : UInt32) {k : Nat} (h : k < 4) : accA a (k + 1) = accA a k * 256 + byteN a (3 - k) := by
  unfold accA byteN
  have hk : k = 0 ∨ k = 1 ∨ k = 2 ∨ k = 3 := by omega
  rcases hk with rfl | rfl | rfl | rfl
  all_goals simp only [Nat.reduceSub, Nat.reduceMul, Nat.reducePow, Nat.reduceAdd]; omega
theorem or32 (x y : Nat) (hx : x < 16777216) (hy : y < 256) : bits .or .u32 ((x : Int) * 256) (y : Int) = ((x * 256 + y : Nat) : Int) := by
  rw [show ((x : Int) * 256) = ((x * 256 : Nat) : Int) by omega, u32_or_nat _ _ (by omega) (by omega), nat_join 8 _ _ (by omega) (by omega)]
set_option maxHeartbeats 3200000 in
theorem ParseAddr_good (w : World) (a : UInt32) (m : Int) (hm : w.cell? ⟨0, 0, none⟩ = some (.int .i64 m)) (ht : PowTab w) :
    Calls Tryz.prog 27 #[.string (strOf (addrF a))] w fun e w' => e = .returned (.tuple #[.int .u32 (a.toNat : Nat), .bool true]) ∧ Kept [] w w' := by
  have HT := Lib.hid (fun w' (hk : Kept [] w w') => tab_kept ht (g := 3) (by kernel_rfl) hk (by simp))
  have HM := Lib.hid hm
  have hl := addrF_len a
  have HS := Lib.hid (Tryz.strings_Split (strOf (addrF a)) ⟨#[46]⟩ m w (by rw [strOf_size]; omega) hm (by decide))
  have e1 := addr_count a
  have e2 := addr_split a
  have HS := Lib.hid (show Calls Tryz.prog 24 #[.string (strOf (addrF a)), .string ⟨#[46]⟩] w fun e w' => e = .returned (.slice (some ⟨w.heap.size, 0, none⟩) 4 4) ∧ w' = w.alloc (.cells (((addrL a).map strOf).map Value.string).toArray 9) from by
    refine HS.out.mono ?_
    rintro e w' ⟨rfl, rfl⟩
    rw [e1, e2]
    exact ⟨rfl, rfl⟩)
  clear e1 e2 hl hm ht
  obtain ⟨s, hs⟩ : ∃ s, strOf (addrF a) = s := ⟨_, rfl⟩
  rw [hs] at HS ⊢
  clear hs
  go_enter Tryz.func27, Tryz.ntmps27
  go_wp2_with (go_at_call 24
               go_must (refine HS.out.mono ?_)
               go_must (rintro e w1 ⟨rfl, hw1⟩)
               go_must (have L := Lib.hid (show Blk w1 w.heap.size 9 (((addrL a).map strOf).map Value.string).toArray by rw [hw1]; exact Blk.new _ _ _))
               go_must (have K := Lib.hid (show Kept [] w w1 by rw [hw1]; exact (Kept.refl [] w).alloc _))
               go_must (clear hw1))
  go_loopg [5, 17] (4 : Nat) (fun g v i wr => ∃ k : Nat, k ≤ 4 ∧ g = 4 - k ∧ i = .int .i64 k ∧ v = .int .u32 (accA a k : Nat) ∧ Blk wr w.heap.size 9 (((addrL a).map strOf).map Value.string).toArray ∧ Kept [] w wr)
  case atStart => exact ⟨0, by omega, rfl, rfl, by rw [accA_zero]; rfl, L.out, K.out⟩
  case round =>
    obtain ⟨k, hk, rfl, rfl, rfl, hL, hK⟩ := hrel
    clear L K
    have L := Lib.hid hL
    have K := Lib.hid hK
    clear hL hK
    by_cases hlt : k < 4
    · have hc : wr.cell? ⟨w.heap.size, k, none⟩ = some (.string (strOf (Lib.itoa (byteN a (3 - k) : Nat)))) := by
        rw [L.out.cell]
        have hk4 : k = 0 ∨ k = 1 ∨ k = 2 ∨ k = 3 := by omega
        rcases hk4 with rfl | rfl | rfl | rfl
        all_goals simp [addrL, Lib.itoa_nonneg]
      have hx := accA_lt a hlt
      have hb := byteN_lt a (3 - k)
      have hst := accA_step a hlt
      obtain ⟨x, hxe⟩ : ∃ x, accA a k = x := ⟨_, rfl⟩
      obtain ⟨b, hbe⟩ : ∃ b, byteN a (3 - k) = b := ⟨_, rfl⟩
      rw [hbe] at hc hb hst
      rw [hxe] at hx hst ⊢
      obtain ⟨d, hd⟩ : ∃ d, strOf (Lib.itoa (b : Nat)) = d := ⟨_, rfl⟩
      rw [hd] at hc
      have HD := Lib.hid hd
      have HST := Lib.hid hst
      have HOR := Lib.hid (or32 x b hx (by omega))
      have hdec : decide ((0 : Int) ≤ (b : Int) ∧ (b : Int) ≤ 255) = true := decide_eq_true (by omega)
      have HDEC := Lib.hid hdec
      have i1 : (k : Int) < 4 := by omega
      clear hxe hbe hd hst hdec
      go_wp2_with (go_at_call 50
                   go_must (rw [← HD.out])
                   go_must (refine (number_good _ (b : Int) 255 (by unfold inI; omega) (HT.out _ K.out)).mono ?_)
                   go_must (rintro e w2 ⟨rfl, k1⟩)
                   go_must (rw [HDEC.out])
                   go_must (have L := Lib.hid (L.out.kept k1 (by simp)))
                   go_must (have K := Lib.hid (K.out.trans k1 (by simp)))
                   go_must (clear k1))
      go_roundg (4 - (k + 1))
      case measure => omega
      case rel => exact ⟨k + 1, by omega, rfl, by go_num, by rw [HST.out, ← HOR.out], L.out, K.out⟩
    · obtain rfl : k = 4 := by omega
      have HA := Lib.hid (accA_four a)
      go_wp2
      go_ret2
      exact ⟨by rw [HA.out]; rfl, K.out⟩
end
section
open Go.RowKit Go.ChangeShapes Go.WideShapes Go.ChangeAt Go.Deep
set_option maxRecDepth 100000
theorem Cut_at (w : World) (m : Int) (l x y : List UInt8) (c : UInt8) (hl : l.length ≤ 1000) (hm : w.cell? ⟨0, 0, none⟩ = some (.int .i64 m)) (hc : Lib.cut l [c] = (x, y, true)) :
    Calls Tryz.prog 25 #[.string (strOf l), .string ⟨#[c]⟩] w fun e w' => e = .returned (.tuple #[.string (strOf x), .string (strOf y), .bool true]) ∧ Kept [] w w' := by
  refine (Tryz.strings_Cut (strOf l) ⟨#[c]⟩ m w (by rw [strOf_size]; omega) hm).mono ?_
  rintro e w' ⟨rfl, n, rfl⟩
  refine ⟨?_, (Kept.refl [] w).drewN n⟩
  rw [strOf_list, show (⟨#[c]⟩ : ByteArray).data.toList = [c] from rfl, hc]
  rfl
theorem m_kept {w w' : World} {m : Int} (hm : w.cell? ⟨0, 0, none⟩ = some (.int .i64 m)) (hk : Kept [] w w') : w'.cell? ⟨0, 0, none⟩ = some (.int .i64 m) :=
  (hk.cell (p := ⟨0, 0, none⟩) (World.block_lt_of_cell? w ⟨0, 0, none⟩ hm) (by simp)).trans hm
end
end Go.Proofs.YtgndijdhmkphaaaGreatDoor
