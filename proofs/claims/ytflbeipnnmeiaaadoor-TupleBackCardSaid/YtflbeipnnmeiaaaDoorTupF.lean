
/-
  Plain laws: the cut and the split at one byte, and the number that a decimal text spells.
-/
import Derived.Test.YtflbeipnnmeiaaaDoorTupD
import Derived.Lib.IndexMore
import Derived.Lib.Split
import Derived.Lib.CountLaws
import Derived.Lib.AtoiAll
import Derived.Lib.ItoaMem
namespace Go.Proofs.YtflbeipnnmeiaaaDoor
open Go.RowKit
theorem index_at (c : UInt8) : ∀ (x y : List UInt8), c ∉ x → Lib.index (x ++ c :: y) [c] = x.length
  | [], y, _ => by
    show Lib.index (c :: y) [c] = 0
    unfold Lib.index
    rw [if_pos (by simp [List.isPrefixOf])]
  | a :: x, y, h => by
    have h1 : c ≠ a := fun e => h (by rw [e]; exact List.mem_cons_self ..)
    have h2 : c ∉ x := fun e => h (List.mem_cons_of_mem _ e)
    show Lib.index (a :: (x ++ c :: y)) [c] = _
    unfold Lib.index
    rw [if_neg (by simp [List.isPrefixOf, h1]), index_at c x y h2]
    have : ((x.length : Int) == -1) = false := by rw [beq_eq_false_iff_ne]; omega
    simp [this]
theorem index_no (c : UInt8) : ∀ (x : List UInt8), c ∉ x → Lib.index x [c] = -1
  | [], _ => rfl
  | a :: x, h => by
    have h1 : c ≠ a := fun e => h (by rw [e]; exact List.mem_cons_self ..)
    have h2 : c ∉ x := fun e => h (List.mem_cons_of_mem _ e)
    unfold Lib.index
    rw [if_neg (by simp [List.isPrefixOf, h1]), index_no c x h2]
    rfl
theorem cut_at (c : UInt8) (x y : List UInt8) (h : c ∉ x) : Lib.cut (x ++ c :: y) [c] = (x, y, true) := by
  unfold Lib.cut
  rw [index_at c x y h, if_pos (by omega)]
  simp [List.drop_append]
theorem splitK_hit (c : UInt8) (x y : List UInt8) (k : Nat) (h : c ∉ x) : Lib.splitK [c] 0 (k + 1) (x ++ c :: y) = x :: Lib.splitK [c] 0 k y := by
  rw [Lib.splitK, index_at c x y h, if_neg (by rw [beq_iff_eq]; omega)]
  have e : x.drop (x.length + 1) = [] := List.drop_eq_nil_of_le (by omega)
  simp [List.drop_append, e]
theorem splitK_no (c : UInt8) (x : List UInt8) (k : Nat) (h : c ∉ x) : Lib.splitK [c] 0 k x = [x] := by
  cases k with
  | zero => rfl
  | succ k => rw [Lib.splitK, index_no c x h, if_pos (by rfl)]
theorem parse_snoc : ∀ (l : List UInt8) (acc n d : Nat), Lib.parseUint10 acc l = .ok n → d < 10 → n * 10 + d < 18446744073709551616 → n < 1844674407370955162 → Lib.parseUint10 acc (l ++ [UInt8.ofNat (48 + d)]) = .ok (n * 10 + d)
  | [], acc, n, d, h, hd, hn, h2 => by
    have e : acc = n := by simpa [Lib.parseUint10] using h
    subst e
    have hc : (UInt8.ofNat (48 + d)).toNat = 48 + d := by rw [UInt8.toNat_ofNat']; omega
    simp only [List.nil_append, Lib.parseUint10, hc]
    rw [if_pos (by omega), if_neg (by omega), if_neg (by omega), show 48 + d - 48 = d by omega]
  | c :: r, acc, n, d, h, hd, hn, h2 => by
    simp only [List.cons_append, Lib.parseUint10] at h ⊢
    split at h
    · rename_i h1
      rw [if_pos h1]
      split at h
      · cases h
      · rename_i h3
        rw [if_neg h3]
        split at h
        · cases h
        · rename_i h4
          rw [if_neg h4]
          exact parse_snoc r _ n d h hd hn h2
    · cases h
theorem parse_dec : ∀ (n : Nat), n < 9223372036854775809 → Lib.parseUint10 0 (Lib.decDigits n) = .ok n := by
  intro n
  induction n using Nat.strongRecOn with
  | ind n ih =>
    intro hn
    by_cases h : n < 10
    · rw [Lib.decDigits_one h]
      exact (parse_snoc [] 0 0 n rfl h (by omega) (by omega)).trans (by rw [Nat.zero_mul, Nat.zero_add])
    · have hs : Lib.decDigits n = Lib.decDigits (n / 10) ++ [UInt8.ofNat (48 + n % 10)] := by
        conv => lhs; rw [Lib.decDigits]
        rw [dif_neg h]
      rw [hs, parse_snoc _ 0 (n / 10) (n % 10) (ih (n / 10) (by omega) (by omega)) (by omega) (by omega) (by omega), show n / 10 * 10 + n % 10 = n by omega]
theorem atoi_itoa (n : Int) (h0 : -9223372036854775808 ≤ n) (h1 : n ≤ 9223372036854775807) : Lib.atoiAll (Lib.itoa n) = .ok n := by
  by_cases hn : n < 0
  · obtain ⟨u, rfl⟩ : ∃ u : Nat, n = -(u : Int) := ⟨n.natAbs, by omega⟩
    rw [Lib.itoa_neg u (by omega)]
    have hp := parse_dec u (by omega)
    have hne : Lib.decDigits u ≠ [] := fun e => by
      have := Lib.decDigits_length u; rw [e] at this; rw [Lib.nDigits] at this; split at this <;> simp at this
    have hm : Lib.parseMag (Lib.decDigits u) = .ok u := by unfold Lib.parseMag; rw [if_neg hne, hp]
    simp only [Lib.atoiAll]
    rw [if_pos (by decide), hm]
    simp only [show (45 : UInt8).toNat = 45 from rfl, not_true_eq_false, false_and, true_and, if_false, if_true]
    rw [if_neg (by omega)]
  · obtain ⟨u, rfl⟩ : ∃ u : Nat, n = (u : Int) := ⟨n.toNat, by omega⟩
    rw [Lib.itoa_nonneg]
    have hp := parse_dec u (by omega)
    cases hl : Lib.decDigits u with
    | nil => exact absurd (congrArg List.length hl) (by rw [Lib.decDigits_length, Lib.nDigits]; split <;> simp)
    | cons c r =>
      have hc : 48 ≤ c.toNat ∧ c.toNat ≤ 57 := by
        rw [hl, Lib.parseUint10] at hp
        split at hp
        · assumption
        · cases hp
      have hm : Lib.parseMag (c :: r) = .ok u := by rw [← hl]; unfold Lib.parseMag; rw [if_neg (by rw [hl]; simp), hp]
      simp only [Lib.atoiAll]
      rw [if_neg (by omega), hm]
      simp only
      rw [if_neg (by omega), if_neg (by omega), if_neg (by omega)]
theorem count_at (c : UInt8) (x y : List UInt8) (h : c ∉ x) : Lib.count (x ++ c :: y) [c] = 1 + Lib.count y [c] := by
  have e : x.drop (x.length + 1) = [] := List.drop_eq_nil_of_le (by omega)
  rw [Lib.count_hit (by simp) (index_at c x y h)]
  simp [List.drop_append, e]
theorem count_no (c : UInt8) (x : List UInt8) (h : c ∉ x) : Lib.count x [c] = 0 := Lib.count_miss (index_no c x h)
theorem strOf_list (l : List UInt8) : (strOf l).data.toList = l := by simp [strOf]
theorem addr_count (a : UInt32) : Lib.countB (strOf (addrF a)) ⟨#[46]⟩ = 3 := by
  have hn : ∀ n, (46 : UInt8) ∉ Lib.decDigits n := fun n => dec_no (by decide)
  show Lib.count (strOf (addrF a)).data.toList [46] = 3
  rw [strOf_list, addrF_eq, count_at _ _ _ (hn _), count_at _ _ _ (hn _), count_at _ _ _ (hn _), count_no _ _ (hn _)]
theorem addr_split (a : UInt32) : Lib.splitB ⟨#[46]⟩ 0 3 (strOf (addrF a)) = (addrL a).map strOf := by
  have hn : ∀ n, (46 : UInt8) ∉ Lib.decDigits n := fun n => dec_no (by decide)
  have h := Lib.splitB_data ⟨#[46]⟩ 0 3 (strOf (addrF a))
  rw [strOf_list, addrF_eq] at h
  rw [splitK_hit _ _ _ _ (hn _), splitK_hit _ _ _ _ (hn _), splitK_hit _ _ _ _ (hn _), splitK_no _ _ _ (hn _)] at h
  have hi : ∀ l m : List ByteArray, l.map (·.data.toList) = m.map (·.data.toList) → l = m := by
    intro l
    induction l with
    | nil => intro m e; cases m with
      | nil => rfl
      | cons y m => cases e
    | cons x l ih => intro m e; cases m with
      | nil => cases e
      | cons y m =>
        rw [List.map_cons, List.map_cons, List.cons.injEq] at e
        have hx : x = y := by
          cases x; cases y
          exact congrArg ByteArray.mk (Array.toList_inj.1 e.1)
        rw [hx, ih m e.2]
  refine hi _ _ ?_
  rw [addrF_eq, h]
  simp [addrL, strOf]

theorem byte_back (a : UInt32) : ((byteN a 3 * 256 + byteN a 2) * 256 + byteN a 1) * 256 + byteN a 0 = a.toNat := by
  have h := a.toNat_lt
  unfold byteN
  have e0 : (2 : Nat) ^ (8 * 0) = 1 := rfl
  have e1 : (2 : Nat) ^ (8 * 1) = 256 := rfl
  have e2 : (2 : Nat) ^ (8 * 2) = 65536 := rfl
  have e3 : (2 : Nat) ^ (8 * 3) = 16777216 := rfl
  rw [e0, e1, e2, e3]
  omega
theorem text_cut1 (t : TupD) : Lib.cut (textF t) [32] = (protoF t.proto, addrF t.src ++ (58 :: (Lib.itoa t.sport ++ (62 :: (addrF t.dst ++ (58 :: Lib.itoa t.dport))))), true) :=
  cut_at _ _ _ (by unfold protoF; split <;> (try split) <;> decide)
theorem itoa_no (n : Int) {s : UInt8} (h : ¬ (48 ≤ s.toNat ∧ s.toNat ≤ 57)) (h2 : s ≠ 45) : s ∉ Lib.itoa n := by
  unfold Lib.itoa
  split
  · intro hm
    rcases List.mem_cons.1 hm with e | e
    · exact h2 e
    · exact dec_no h e
  · exact dec_no h
theorem text_cut2 (a b : UInt32) (p q : Int) : Lib.cut (addrF a ++ (58 :: (Lib.itoa p ++ (62 :: (addrF b ++ (58 :: Lib.itoa q)))))) [62] = (addrF a ++ (58 :: Lib.itoa p), addrF b ++ (58 :: Lib.itoa q), true) := by
  have h := cut_at 62 (addrF a ++ (58 :: Lib.itoa p)) (addrF b ++ (58 :: Lib.itoa q)) (by
    intro hm
    rcases List.mem_append.1 hm with e | e
    · exact addr_no a (by decide) (by decide) e
    · rcases List.mem_cons.1 e with e | e
      · exact absurd e (by decide)
      · exact itoa_no p (by decide) (by decide) e)
  rw [List.append_assoc, List.cons_append] at h
  exact h
theorem end_cut (a : UInt32) (p : Int) : Lib.cut (addrF a ++ (58 :: Lib.itoa p)) [58] = (addrF a, Lib.itoa p, true) := cut_at _ _ _ (addr_no a (by decide) (by decide))
end Go.Proofs.YtflbeipnnmeiaaaDoor
