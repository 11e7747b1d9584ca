/-
  The document's Addr. (GensForms)
-/
import Derived.Test.YtgndijdhmkphaaaGreatDoorRef1
import Derived.Test.YtgndijdhmkphaaaGreatDoorGfH
namespace Go.Proofs.YtgndijdhmkphaaaGreatDoor
set_option linter.unusedVariables false
section
open Go.RowKit Go.ChangeShapes Go.WideShapes Go.ChangeAt Go.Deep
set_option maxRecDepth 100000
def addrK (a : UInt32) (k : Nat) : List UInt8 := Lib.join ((addrL a).take k) [46]
theorem addrL_at (a : UInt32) {k : Nat} (h : k < 4) : (addrL a)[k]? = some (Lib.decDigits (byteN a (3 - k))) := by
  have hk : k = 0 ∨ k = 1 ∨ k = 2 ∨ k = 3 := by omega
  rcases hk with rfl | rfl | rfl | rfl <;> rfl
theorem join_snoc (x y : List UInt8) (l : List (List UInt8)) (sep : List UInt8) : Lib.join ((x :: l) ++ [y]) sep = Lib.join (x :: l) sep ++ (sep ++ y) := by
  rw [List.cons_append, Lib.join_cons, Lib.join_cons]; simp [Lib.joinTail]
theorem addrK_one (a : UInt32) : addrK a 1 = Lib.decDigits (byteN a 3) := by unfold addrK addrL; simp [Lib.join]
theorem addrK_succ (a : UInt32) {k : Nat} (h : k < 4) (h0 : 0 < k) : addrK a (k + 1) = addrK a k ++ (46 :: Lib.decDigits (byteN a (3 - k))) := by
  unfold addrK
  rw [List.take_add_one, addrL_at a h]
  obtain ⟨x, l, hx⟩ : ∃ x l, (addrL a).take k = x :: l := by
    obtain ⟨j, rfl⟩ : ∃ j, k = j + 1 := ⟨k - 1, by omega⟩
    exact ⟨_, _, rfl⟩
  rw [hx]
  exact join_snoc _ _ _ _
theorem addrK_four (a : UInt32) : addrK a 4 = addrF a := rfl
theorem addrK_len (a : UInt32) : ∀ k, k ≤ 4 → (addrK a k).length ≤ 4 * k
  | 0, _ => by simp [addrK, Lib.join]
  | 1, _ => by rw [addrK_one]; have := dec3 (byteN_lt a 3); omega
  | k + 2, h => by
    rw [addrK_succ a (k := k + 1) (by omega) (by omega), List.length_append, List.length_cons]
    have := addrK_len a (k + 1) (by omega)
    have := dec3 (byteN_lt a (3 - (k + 1)))
    omega
theorem be_byteN (a : UInt32) {k : Nat} (h : k < 4) : (u8s (beK a.toNat 4 4))[k]? = some (.int .u8 (byteN a (3 - k) : Nat)) := by
  rw [be4 _ a.toNat_lt]
  have ha := a.toNat_lt
  have hk : k = 0 ∨ k = 1 ∨ k = 2 ∨ k = 3 := by omega
  have e0 : (2 : Nat) ^ (8 * 0) = 1 := rfl
  have e1 : (2 : Nat) ^ (8 * 1) = 256 := rfl
  have e2 : (2 : Nat) ^ (8 * 2) = 65536 := rfl
  have e3 : (2 : Nat) ^ (8 * 3) = 16777216 := rfl
  rcases hk with rfl | rfl | rfl | rfl
  · simp only [List.getElem?_cons_zero, byteN, Nat.sub_zero, e3]; congr 2 <;> omega
  · simp only [List.getElem?_cons_succ, List.getElem?_cons_zero, byteN, show 3 - 1 = 2 from rfl, e2]; congr 2 <;> omega
  · simp only [List.getElem?_cons_succ, List.getElem?_cons_zero, byteN, show 3 - 2 = 1 from rfl, e1]; congr 2 <;> omega
  · simp only [List.getElem?_cons_succ, List.getElem?_cons_zero, byteN, show 3 - 3 = 0 from rfl, e0]; congr 2 <;> omega
theorem strOf_app (a b : List UInt8) : (strOf a ++ strOf b : ByteArray) = strOf (a ++ b) := by
  unfold strOf; apply ByteArray.ext; simp
set_option maxHeartbeats 1600000 in
theorem rAddr_any (w : World) (a : UInt32) (ht : PowTab w) : Calls Tryz.prog 46 #[.int .u32 (a.toNat : Nat)] w fun e w' => e = .returned (.string (strOf (addrF a))) ∧ Kept [] w w' := by
  have HT := Lib.hid (fun w' (hk : Kept [] w w') => tab_kept ht (g := 3) (by kernel_rfl) hk (by simp))
  have HU := Lib.hid (rU32_any w (a.toNat : Nat) a.toNat rfl a.toNat_lt)
  have HF := Lib.hid (addrK_four a)
  have HL := Lib.hid (addrK_len a)
  clear ht
  go_enter Tryz.func46, Tryz.ntmps46
  go_wp2_with (go_at_call 59
               go_must (refine HU.out.mono ?_)
               go_must (rintro e w1 ⟨v, rfl, hv⟩)
               go_must (have K := Lib.hid hv.2.1)
               go_must (obtain ⟨g, cap, rfl, hcs⟩ := New.cells1 hv (by rw [be4 _ a.toNat_lt]; simp))
               go_must (have HC := Lib.hid hcs)
               go_must (clear hv hcs))
  go_loopg [3, 9] (4 : Nat) (fun gg v i wr => ∃ (k : Nat) (sk : ByteArray), k ≤ 4 ∧ gg = 4 - k ∧ i = .int .i64 k ∧ v = .string sk ∧ Hid (strOf (addrK a k) = sk) ∧ Kept [] w1 wr)
  case atStart => exact ⟨0, _, by omega, rfl, rfl, rfl, Lib.hid rfl, Kept.refl _ _⟩
  case round =>
    obtain ⟨k, sk, hk, rfl, rfl, rfl, hS, hkw⟩ := hrel
    have KW := Lib.hid hkw
    clear hkw
    have zk : sk.size ≤ 16 := by rw [← hS.out, strOf_size]; have := HL.out k hk; omega
    by_cases hlt : k < 4
    · have hc := HC.out wr KW.out k _ (be_byteN a hlt)
      have i1 : (k : Int) < 4 := by omega
      have hb := byteN_lt a (3 - k)
      have hd3 := dec3 hb
      have hst := addrK_succ a hlt
      have hone := addrK_one a
      have h30 : k = 0 → byteN a (3 - k) = byteN a 3 := fun h => by rw [h]
      obtain ⟨b, hbe⟩ : ∃ b, byteN a (3 - k) = b := ⟨_, rfl⟩
      rw [hbe] at hc hb hst hd3 h30
      have HI := Lib.hid (Lib.itoa_nonneg b)
      obtain ⟨d, hd⟩ : ∃ d, strOf (Lib.decDigits b) = d := ⟨_, rfl⟩
      have HD := Lib.hid hd
      have zd : d.size ≤ 3 := by rw [← hd, strOf_size]; exact hd3
      by_cases h0 : k = 0
      · have HN := Lib.hid (show strOf (addrK a (k + 1)) = sk ++ d from by
          rw [h0, hone, ← h30 h0, ← hS.out, ← hd, strOf_app, h0]; rfl)
        have z1 : (9223372036854775807 < sk.size + d.size) = False := eq_false (by omega)
        have i2 : ¬ (0 : Int) < (k : Int) := by omega
        clear hbe hd hst hone h30 h0 hd3
        go_wp2_with (first
          | (go_at_call 43
             go_must (refine (Itoa_any _ _ (by omega) (by omega) (HT.out _ (K.out.trans KW.out (by simp)))).mono ?_)
             go_must (rintro e w2 ⟨rfl, k1⟩)
             go_must (rw [HI.out, HD.out])
             go_must (have KW := Lib.hid (KW.out.trans k1 (by simp)))
             go_must (clear k1)))
        go_roundg (4 - (k + 1))
        case measure => omega
        case rel => exact ⟨k + 1, _, by omega, rfl, by go_num, rfl, Lib.hid HN.out, KW.out⟩
      · have HN := Lib.hid (show strOf (addrK a (k + 1)) = (sk ++ ⟨#[46]⟩) ++ d from by
          rw [hst (by omega), ← hS.out, ← hd, show (⟨#[46]⟩ : ByteArray) = strOf [46] from rfl, strOf_app, strOf_app]; simp)
        have z1 : (9223372036854775807 < sk.size + 1) = False := eq_false (by omega)
        have z2 : (9223372036854775807 < sk.size + 1 + d.size) = False := eq_false (by omega)
        have i2 : (0 : Int) < (k : Int) := by omega
        clear hbe hd hst hone h30 h0 hd3
        go_wp2_with (first
          | (go_at_call 43
             go_must (refine (Itoa_any _ _ (by omega) (by omega) (HT.out _ (K.out.trans KW.out (by simp)))).mono ?_)
             go_must (rintro e w2 ⟨rfl, k1⟩)
             go_must (rw [HI.out, HD.out])
             go_must (have KW := Lib.hid (KW.out.trans k1 (by simp)))
             go_must (clear k1)))
        go_roundg (4 - (k + 1))
        case measure => omega
        case rel => exact ⟨k + 1, _, by omega, rfl, by go_num, rfl, Lib.hid HN.out, KW.out⟩
    · obtain rfl : k = 4 := by omega
      go_wp2
      go_ret
      exact ⟨by rw [← HF.out, hS.out]; rfl, K.out.trans KW.out (by simp)⟩
end
end Go.Proofs.YtgndijdhmkphaaaGreatDoor
