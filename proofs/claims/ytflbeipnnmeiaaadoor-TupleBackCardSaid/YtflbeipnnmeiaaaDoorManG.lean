
/-
  The contracts of the reference's SegNumber and SegName.
-/
import Derived.Test.YtflbeipnnmeiaaaDoorManF
import Derived.Test.YtflbeipnnmeiaaaDoorShelf
import Derived.Lib.LaidTab
namespace Go.Proofs.YtflbeipnnmeiaaaDoor
open Go.RowKit Go.ChangeShapes Go.WideShapes Go.Deep
set_option linter.unusedVariables false
set_option maxRecDepth 100000

set_option maxHeartbeats 1600000 in
theorem rNumber_any (w : World) (s : ByteArray) (hs : s.size ≤ maxLen) :
    Calls Tryd.prog 17 #[.string s] w fun e w' => e = .returned (.tuple #[.int .i64 (numberF s.data.toList).1, .bool (numberF s.data.toList).2]) ∧ w = w' := by
  unfold maxLen at hs
  have hsz : s.data.toList.length = s.size := by simp
  by_cases h7 : s.size = 7
  · have hs0 : 0 < s.size := by omega
    have hg : ∀ (i : Nat) (h : i < s.size), s.data.toList[i]? = some s[i] := fun i h => by
      rw [List.getElem?_eq_getElem (by simpa using h)]; rfl
    have h0 := hg 0 hs0
    by_cases hc : s[0] = 115
    · have e0 : ((s[0].toNat : Nat) : Int) = 115 := by rw [hc]; rfl
      have hhd : s.data.toList.head? = some 115 := by rw [List.head?_eq_getElem?, h0, hc]
      obtain ⟨l, hl⟩ : ∃ l, s.data.toList.drop 1 = l := ⟨_, rfl⟩
      have hll : l.length = 6 := by rw [← hl, List.length_drop]; omega
      have hget : ∀ (i : Nat) (h : i + 1 < s.size), l[i]? = some s[i + 1] := fun i h => by
        rw [← hl, List.getElem?_drop, Nat.add_comm 1 i, hg _ h]
      have HN : Hid ((okD l = true → numberF s.data.toList = (((numV l : Nat) : Int), decide (0 < numV l))) ∧ (okD l = false → numberF s.data.toList = (0, false))) := Lib.hid (by
        unfold numberF
        rw [hl]
        constructor
        · intro h; rw [if_pos ⟨by omega, hhd, h⟩]
        · intro h; rw [if_neg (by rw [h]; simp)])
      have HG := Lib.hid hget
      have HL := Lib.hid hll
      have H7 := Lib.hid h7
      clear hg h0 hhd hl hget hll hc hsz hs
      go_enter Tryd.func17, Tryd.ntmps17
      go_wp2
      go_loop [4, 5] (fun n i => ∃ k : Nat, k ≤ 6 ∧ i = .int .i64 ((k : Int) + 1) ∧ n = .int .i64 ((numV (l.take k) : Nat) : Int) ∧ okD (l.take k) = true) (fun _ i => 7 - (intOf i).toNat)
      case atStart => exact ⟨0, by omega, by go_num, by simp [numV], by simp [okD]⟩
      case round =>
        obtain ⟨k, hk, rfl, rfl, hok⟩ := hrel
        have hv := numV_le6 hok (by have := HL.out; rw [List.length_take]; omega)
        obtain ⟨nv, hnv⟩ : ∃ nv, numV (l.take k) = nv := ⟨_, rfl⟩
        rw [hnv] at hv ⊢
        have HNV := Lib.hid hnv
        have HOK := Lib.hid hok
        clear hnv hok
        by_cases hlt : k < 6
        · have hk1 : k + 1 < s.size := by have := H7.out; omega
          have hgk := Lib.hid (HG.out k hk1)
          obtain ⟨c, hc⟩ : ∃ c, s[k + 1] = c := ⟨_, rfl⟩
          have HC := Lib.hid hc
          have hsn := Lib.hid (show l.take (k + 1) = l.take k ++ [c] by
            rw [List.take_add_one, hgk.out, HC.out]; rfl)
          have hcb : c.toNat < 256 := c.toNat_lt
          have hway : (c.toNat < 48) ∨ (48 ≤ c.toNat ∧ 57 < c.toNat) ∨ (48 ≤ c.toNat ∧ c.toNat ≤ 57) := by omega
          rcases hway with hw | ⟨hw, hw2⟩ | ⟨hw, hw2⟩
          · have hb : okD l = false := by
              cases h : okD l with
              | false => rfl
              | true =>
                have := List.all_eq_true.1 h c (List.mem_of_getElem? (hgk.out.trans (by rw [HC.out])))
                simp [isD] at this; omega
            have HZ := Lib.hid (HN.out.2 hb)
            have i1 : ((c.toNat : Nat) : Int) < 48 := by omega
            clear hb
            go_wp2
            go_ret2
            exact ⟨by rw [HZ.out]; rfl, rfl⟩
          · have hb : okD l = false := by
              cases h : okD l with
              | false => rfl
              | true =>
                have := List.all_eq_true.1 h c (List.mem_of_getElem? (hgk.out.trans (by rw [HC.out])))
                simp [isD] at this; omega
            have HZ := Lib.hid (HN.out.2 hb)
            have i1 : ¬ ((c.toNat : Nat) : Int) < 48 := by omega
            have i2 : (57 : Int) < ((c.toNat : Nat) : Int) := by omega
            clear hb
            go_wp2
            go_ret2
            exact ⟨by rw [HZ.out]; rfl, rfl⟩
          · have i1 : ¬ ((c.toNat : Nat) : Int) < 48 := by omega
            have i2 : ¬ (57 : Int) < ((c.toNat : Nat) : Int) := by omega
            have w1 : IntKind.u8.wrap (((c.toNat : Nat) : Int) - 48) = ((c.toNat : Nat) : Int) - 48 := IntWalk.u8_in _ (by omega)
            go_wp2
            go_round
            case rel =>
              refine ⟨k + 1, by omega, by go_num, ?_, ?_⟩
              · rw [hsn.out, numV_snoc, HNV.out]; congr 1; omega
              · rw [hsn.out, okD_snoc, HOK.out]; simp [isD, hw, hw2]
            case measure => simp [intOf]; omega
        · obtain rfl : k = 6 := by omega
          have ht : l.take 6 = l := List.take_of_length_le (by have := HL.out; omega)
          have HZ := Lib.hid (HN.out.1 (ht ▸ HOK.out))
          have HNV := Lib.hid (show numV l = nv from ht ▸ HNV.out)
          clear ht
          go_wp2
          go_ret2
          refine ⟨?_, rfl⟩
          rw [HZ.out, HNV.out]
          rfl
    · have e0 : ((s[0].toNat : Nat) == (115 : Nat)) = false := by
        rw [beq_eq_false_iff_ne]; intro h; exact hc (UInt8.toNat_inj.1 h)
      have HZ := Lib.hid (show numberF s.data.toList = (0, false) by
        unfold numberF; rw [if_neg]; rintro ⟨-, h, -⟩; rw [List.head?_eq_getElem?, h0] at h; exact hc (Option.some.inj h))
      have e3 : ¬ s[0].toNat = 115 := by simpa using e0
      have e1 : (((s[0].toNat : Nat) : Int) == 115) = false := beq_eq_false_iff_ne.2 (fun h => e3 (by omega))
      have e2 : (((s[0].toNat : Nat) : Int) != 115) = true := by rw [bne, e1]; rfl
      clear hg h0 hsz hs e0 e3
      go_enter Tryd.func17, Tryd.ntmps17
      go_wp2
      go_ret2
      exact ⟨by rw [HZ.out]; rfl, rfl⟩
  · have b7 : ((s.size : Int) == 7) = false := by rw [beq_eq_false_iff_ne]; omega
    have c7 : ((s.size : Int) != 7) = true := by rw [bne_iff_ne]; omega
    have HZ := Lib.hid (show numberF s.data.toList = (0, false) by unfold numberF; rw [if_neg (by omega)])
    clear hsz
    go_enter Tryd.func17, Tryd.ntmps17
    go_wp2
    go_ret2
    exact ⟨by rw [HZ.out]; rfl, rfl⟩

/-- a listed table stands as it stood -/
theorem tab_kept {w w' : World} {S : List Nat} {name : String} {k : IntKind} {zs : List Int} {g : Nat} (h : Lib.TabIs Tryd.prog w name k zs) (hg : Tryd.prog.globalNamed name = some g) (hk : Kept S w w') (hs : g ∉ S) : Lib.TabIs Tryd.prog w' name k zs := by
  unfold Lib.TabIs World.var? at h ⊢
  rw [hg] at h ⊢
  simp only [Option.bind_some] at h ⊢
  have hlt : g < w.heap.size := by
    cases hh : w.heap[g]? with
    | none => rw [hh] at h; cases h
    | some o => exact (Array.getElem?_eq_some_iff.1 hh).1
  rw [hk.block g hlt hs]
  exact h
theorem kept_grow (w : World) (k : Nat) (os : Array Obj) : Kept [] w (Go.Sort.grow (w.drewN k) os) :=
  ⟨rfl, rfl, rfl, by simp [Go.Sort.grow], fun i hi _ => by simp only [Go.Sort.grow]; exact Array.getElem?_append_left hi⟩
abbrev PowTab (w : World) : Prop := Lib.TabIs Tryd.prog w "internal/strconv.uint64pow10" .u64 Lib.pow10Tab
theorem Itoa_any (w : World) (n : Int) (h0 : -9223372036854775808 ≤ n) (h1 : n ≤ 9223372036854775807) (ht : PowTab w) :
    Calls Tryd.prog 30 #[.int .i64 n] w fun e w' => e = .returned (.string (strOf (Lib.itoa n))) ∧ Kept [] w w' :=
  (Tryd.strconv_Itoa n h0 h1 w ht).mono fun e w' ⟨he, k, os, hw⟩ => ⟨he, by rw [hw]; exact kept_grow w k os⟩
def padR : Nat → Nat → List UInt8
  | _, 0 => []
  | n, k + 1 => padR (n / 10) k ++ [UInt8.ofNat (48 + n % 10)]
theorem padR_len : ∀ (k n : Nat), (padR n k).length = k
  | 0, n => rfl
  | k + 1, n => by rw [padR, List.length_append, padR_len k]; rfl
theorem padR_zero : ∀ k, padR 0 k = List.replicate k 48
  | 0 => rfl
  | k + 1 => by rw [padR, Nat.zero_div, padR_zero k, List.replicate_succ']; rfl
theorem dec_step {n : Nat} (h : ¬ n < 10) : Lib.decDigits n = Lib.decDigits (n / 10) ++ [UInt8.ofNat (48 + n % 10)] := by
  conv => lhs; rw [Lib.decDigits]
  rw [dif_neg h]
theorem dec_pad : ∀ (k n : Nat), n < 10 ^ (k + 1) → (Lib.decDigits n).length ≤ k + 1 ∧ List.replicate (k + 1 - (Lib.decDigits n).length) 48 ++ Lib.decDigits n = padR n (k + 1)
  | k, n, h => by
    by_cases h1 : n < 10
    · rw [Lib.decDigits_one h1]
      refine ⟨by simp, ?_⟩
      rw [padR, Nat.div_eq_of_lt h1, padR_zero, Nat.mod_eq_of_lt h1]
      simp
    · match k, h with
      | 0, h => simp at h; omega
      | k + 1, h =>
        have hn : n / 10 < 10 ^ (k + 1) := by rw [Nat.pow_succ] at h; omega
        obtain ⟨h2, h3⟩ := dec_pad k (n / 10) hn
        rw [dec_step h1, padR]
        refine ⟨by simp; omega, ?_⟩
        rw [← h3, List.length_append, List.length_cons, List.length_nil, ← List.append_assoc]
        congr 3
        omega
theorem nameL_pad (n : Nat) : nameL n = 115 :: padR n 6 := by
  simp only [nameL, padR, digB, Nat.div_div_eq_div_mul]
  simp
theorem strOf_size (l : List UInt8) : (strOf l).size = l.length := by simp [strOf, ByteArray.size]
theorem strOf_cons (b : UInt8) (l : List UInt8) : (⟨#[b]⟩ : ByteArray) ++ strOf l = strOf (b :: l) := by
  apply ByteArray.ext
  simp [strOf]
set_option maxHeartbeats 1600000 in
theorem rName_any (w : World) (n : Int) (ht : PowTab w) : Calls Tryd.prog 19 #[.int .i64 n] w fun e w' => e = .returned (.string (strOf (nameF n))) ∧ Kept [] w w' := by
  by_cases h : 1 ≤ n ∧ n < 1000000
  · obtain ⟨m, rfl⟩ : ∃ m : Nat, n = m := ⟨n.toNat, by omega⟩
    have hd := dec_pad 5 m (by have : (10 : Nat) ^ (5 + 1) = 1000000 := rfl; omega)
    have hi : Lib.itoa (m : Int) = Lib.decDigits m := Lib.itoa_nonneg m
    obtain ⟨D, hD⟩ : ∃ D, Lib.decDigits m = D := ⟨_, rfl⟩
    rw [hD] at hd hi
    have HN := Lib.hid (show nameF (m : Int) = 115 :: (List.replicate (6 - D.length) 48 ++ D) by
      unfold nameF
      rw [if_pos h, show (m : Int).toNat = m from rfl, nameL_pad, hd.2])
    have hl := hd.1
    have HI := Lib.hid hi
    have HT := Lib.hid ht
    have e1 : ¬ (m : Int) < 1 := by omega
    have e2 : ¬ (999999 : Int) < (m : Int) := by omega
    clear hd hi ht hD
    go_enter Tryd.func19, Tryd.ntmps19
    go_wp2_with (go_at_call 30
                 go_must (refine (Itoa_any _ _ (by omega) (by omega) HT.out).mono ?_)
                 go_must (rintro e w1 ⟨rfl, k1⟩)
                 go_must (rw [HI.out])
                 go_must (have K := Lib.hid k1)
                 go_must (clear k1))
    go_loopg [3] (6 : Nat) (fun g s wr => ∃ j : Nat, j ≤ 6 - D.length ∧ g = 6 - j ∧ s = .string (strOf (List.replicate j 48 ++ D)) ∧ Kept [] w wr)
    case atStart => exact ⟨0, by omega, by omega, rfl, K.out⟩
    case round =>
      obtain ⟨j, hj, rfl, rfl, hK⟩ := hrel
      clear K
      have K := Lib.hid hK
      clear hK
      obtain ⟨l, hll⟩ : ∃ l, List.replicate j 48 ++ D = l := ⟨_, rfl⟩
      have hlen : l.length = j + D.length := by rw [← hll]; simp
      have hsz := strOf_size l
      rw [hlen] at hsz
      have hc := Lib.hid (strOf_cons 48 l)
      have hll' := Lib.hid hll
      rw [hll]
      obtain ⟨s, hs⟩ : ∃ s, strOf l = s := ⟨_, rfl⟩
      rw [hs] at hsz ⊢
      have hs' := Lib.hid hs
      clear hll hs
      by_cases hlt : j + D.length < 6
      · have i1 : (s.size : Int) < 6 := by omega
        go_wp2
        go_roundg (6 - (j + 1))
        case measure => omega
        case rel => exact ⟨j + 1, by omega, rfl, by rw [← hs'.out, hc.out, ← hll'.out]; rfl, K.out⟩
      · have i1 : ¬ (s.size : Int) < 6 := by omega
        have hc2 := Lib.hid (strOf_cons 115 l)
        obtain rfl : j = 6 - D.length := by omega
        go_wp2
        go_ret
        refine ⟨?_, K.out⟩
        rw [HN.out, ← hs'.out, hll'.out, ← hc2.out]
        rfl
  · have hb : nameF n = [] := by unfold nameF; rw [if_neg h]
    rw [hb]
    have h' : n < 1 ∨ (1 ≤ n ∧ 999999 < n) := by omega
    clear h hb ht
    rcases h' with h | ⟨h, h'⟩
    all_goals
      go_enter Tryd.func19, Tryd.ntmps19
      go_wp2
      go_ret
      exact ⟨rfl, Kept.refl _ _⟩
end Go.Proofs.YtflbeipnnmeiaaaDoor
