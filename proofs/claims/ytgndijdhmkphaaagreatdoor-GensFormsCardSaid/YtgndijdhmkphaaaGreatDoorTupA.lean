/-
  The contracts of tuple.Addr, Text; a text that every program must know.
-/
import Derived.WalkLawsBesides
import Derived.Deep.RegionHeld3
import Derived.Laws.BitsLemmas
import Derived.Outline
import Derived.Test.YtgndijdhmkphaaaGreatDoorRecM
import Derived.Test.YtgndijdhmkphaaaGreatDoorBlk
import Derived.Test.YtgndijdhmkphaaaGreatDoorFrameM
import Derived.Test.YtgndijdhmkphaaaGreatDoorManF
import Derived.Test.YtgndijdhmkphaaaGreatDoorFrameR
namespace Go.Proofs.YtgndijdhmkphaaaGreatDoor
set_option linter.unusedVariables false
section
open Go.RowKit Go.ChangeShapes Go.WideShapes Go.Deep
set_option maxRecDepth 100000
theorem info_str : (Tryz.prog.info? 9).map (fun i => (i.zero, i.size, i.bytes)) = some (some (.string ⟨#[]⟩), 1, 16) := by kernel_rfl
theorem elem_str : Elem Tryz.prog 43 9 1 16 := Elem.mk' Tryz.underlying43 info_str rfl (by omega)
def byteN (a : UInt32) (j : Nat) : Nat := a.toNat / 2 ^ (8 * j) % 256
def addrL (a : UInt32) : List (List UInt8) := [Lib.decDigits (byteN a 3), Lib.decDigits (byteN a 2), Lib.decDigits (byteN a 1), Lib.decDigits (byteN a 0)]
def addrF (a : UInt32) : List UInt8 := Lib.join (addrL a) [46]
theorem byteN_lt (a : UInt32) (j : Nat) : byteN a j < 256 := Nat.mod_lt _ (by omega)
theorem and255 {x : Int} (h0 : 0 ≤ x) (h1 : x < 4294967296) : bits .and .u32 x 255 = x % 256 := bits_mask .u32 32 (by decide) (fun n h h2 => IntWalk.u32_in n ⟨h, by have : (2 : Int) ^ 32 = 4294967296 := rfl; omega⟩) 8 (by decide) x h0 (by have : (2 : Int) ^ 32 = 4294967296 := rfl; omega)
theorem dec3 {n : Nat} (h : n < 256) : (Lib.decDigits n).length ≤ 3 := (dec_pad 2 n (by have : (10 : Nat) ^ (2 + 1) = 1000 := rfl; omega)).1
theorem addrF_eq (a : UInt32) : addrF a = Lib.decDigits (byteN a 3) ++ (46 :: (Lib.decDigits (byteN a 2) ++ (46 :: (Lib.decDigits (byteN a 1) ++ (46 :: Lib.decDigits (byteN a 0)))))) := by
  unfold addrF addrL
  rw [Lib.join_cons]
  simp [Lib.joinTail]
theorem addrF_len (a : UInt32) : (addrF a).length ≤ 15 := by
  have h3 := dec3 (byteN_lt a 3)
  have h2 := dec3 (byteN_lt a 2)
  have h1 := dec3 (byteN_lt a 1)
  have h0 := dec3 (byteN_lt a 0)
  rw [addrF_eq]
  simp only [List.length_append, List.length_cons]
  omega
theorem Kept.of_below {w w' : World} (h : Below w.heap.size w w') : Kept [] w w' := ⟨h.os, h.tape, h.output, h.size, fun k hk _ => h.block k hk⟩
set_option maxHeartbeats 6400000 in
theorem Addr_any (w : World) (a : UInt32) (ht : PowTab w) : Calls Tryz.prog 44 #[.int .u32 a.toNat] w fun e w' => e = .returned (.string (strOf (addrF a))) ∧ Kept [] w w' := by
  have HT := Lib.hid (fun w' (hk : Kept [] w w') => tab_kept ht (g := 3) (by kernel_rfl) hk (by simp))
  have ha := a.toNat_lt
  clear ht
  go_enter Tryz.func44, Tryz.ntmps44
  go_wp2
  go_loopg [3, 4] (5 : Nat) (fun g v i wr => ∃ k : Nat, k ≤ 4 ∧ g = 5 - k ∧ i = .int .i64 (3 - (k : Int)) ∧ New w 9 1 v k (((addrL a).take k).map fun s => .string (strOf s)) wr)
  case atStart => exact ⟨0, by omega, by omega, rfl, New.nil _ _ _⟩
  case round =>
    obtain ⟨k, hk, rfl, rfl, hN⟩ := hrel
    have N := Lib.hid hN
    have K := Lib.hid hN.2.1
    clear hN
    have hk5 : k = 0 ∨ k = 1 ∨ k = 2 ∨ k = 3 ∨ k = 4 := by omega
    rcases hk5 with rfl | rfl | rfl | rfl | rfl
    · have hb : bits .and .u32 (((a.toNat : Nat) : Int) / 16777216) 255 = ((byteN a 3 : Nat) : Int) := by
        rw [and255 (by omega) (by omega)]
        unfold byteN
        simp only [Nat.reduceMul, Nat.reducePow]
        omega
      have hbl := byteN_lt a 3
      obtain ⟨b, hbb⟩ : ∃ b, byteN a 3 = b := ⟨_, rfl⟩
      rw [hbb] at hb hbl
      have HBB := Lib.hid hbb
      have HI := Lib.hid (Lib.itoa_nonneg b)
      clear hbb
      go_wp2_with (first
        | (go_at_call 43
           go_must (refine (Itoa_any _ _ (by omega) (by omega) (HT.out _ K.out)).mono ?_)
           go_must (rintro e w1 ⟨rfl, k1⟩)
           go_must (rw [HI.out])
           go_must (have N := Lib.hid (N.out.go k1))
           go_must (clear k1))
        | (at_builtin
           go_must (refine wpList_app _ rfl (.tmp 9) (.tmp 17) 43 rfl elem_str (by rfl) (N.out.1.alloc _) (by rfl) (Rd.one _ _ _) rfl (by simp [Value.oneCell']) (by unfold maxLen; omega) (by omega) ?_)
           go_must (intro v2 w2 ho hk2 hr)
           go_must (have N := Lib.hid (show New w 9 1 v2 1 (((addrL a).take 1).map fun s => .string (strOf s)) w2 from ⟨by
              have h9 := ho
              rw [show Lib.decDigits b = Lib.decDigits (byteN a 3) by rw [HBB.out]] at h9
              exact h9, (N.out.2.1.alloc _).trans hk2 (fun i hi => .inr (N.out.2.2 i hi)), fun i hi => (hr i hi).elim (fun h => N.out.2.2 i h) (fun h => by have := N.out.2.1.size; simp at h; omega)⟩))
           go_must (clear ho hk2 hr)))
      go_roundg (5 - (0 + 1))
      case measure => omega
      case rel => exact ⟨0 + 1, by omega, rfl, by go_num, N.out⟩
    · have hb : bits .and .u32 (((a.toNat : Nat) : Int) / 65536) 255 = ((byteN a 2 : Nat) : Int) := by
        rw [and255 (by omega) (by omega)]
        unfold byteN
        simp only [Nat.reduceMul, Nat.reducePow]
        omega
      have hbl := byteN_lt a 2
      obtain ⟨b, hbb⟩ : ∃ b, byteN a 2 = b := ⟨_, rfl⟩
      rw [hbb] at hb hbl
      have HBB := Lib.hid hbb
      have HI := Lib.hid (Lib.itoa_nonneg b)
      clear hbb
      go_wp2_with (first
        | (go_at_call 43
           go_must (refine (Itoa_any _ _ (by omega) (by omega) (HT.out _ K.out)).mono ?_)
           go_must (rintro e w1 ⟨rfl, k1⟩)
           go_must (rw [HI.out])
           go_must (have N := Lib.hid (N.out.go k1))
           go_must (clear k1))
        | (at_builtin
           go_must (refine wpList_app _ rfl (.tmp 9) (.tmp 17) 43 rfl elem_str (by rfl) (N.out.1.alloc _) (by rfl) (Rd.one _ _ _) rfl (by simp [Value.oneCell']) (by unfold maxLen; omega) (by omega) ?_)
           go_must (intro v2 w2 ho hk2 hr)
           go_must (have N := Lib.hid (show New w 9 1 v2 2 (((addrL a).take 2).map fun s => .string (strOf s)) w2 from ⟨by
              have h9 := ho
              rw [show Lib.decDigits b = Lib.decDigits (byteN a 2) by rw [HBB.out]] at h9
              exact h9, (N.out.2.1.alloc _).trans hk2 (fun i hi => .inr (N.out.2.2 i hi)), fun i hi => (hr i hi).elim (fun h => N.out.2.2 i h) (fun h => by have := N.out.2.1.size; simp at h; omega)⟩))
           go_must (clear ho hk2 hr)))
      go_roundg (5 - (1 + 1))
      case measure => omega
      case rel => exact ⟨1 + 1, by omega, rfl, by go_num, N.out⟩
    · have hb : bits .and .u32 (((a.toNat : Nat) : Int) / 256) 255 = ((byteN a 1 : Nat) : Int) := by
        rw [and255 (by omega) (by omega)]
        unfold byteN
        simp only [Nat.reduceMul, Nat.reducePow]
        omega
      have hbl := byteN_lt a 1
      obtain ⟨b, hbb⟩ : ∃ b, byteN a 1 = b := ⟨_, rfl⟩
      rw [hbb] at hb hbl
      have HBB := Lib.hid hbb
      have HI := Lib.hid (Lib.itoa_nonneg b)
      clear hbb
      go_wp2_with (first
        | (go_at_call 43
           go_must (refine (Itoa_any _ _ (by omega) (by omega) (HT.out _ K.out)).mono ?_)
           go_must (rintro e w1 ⟨rfl, k1⟩)
           go_must (rw [HI.out])
           go_must (have N := Lib.hid (N.out.go k1))
           go_must (clear k1))
        | (at_builtin
           go_must (refine wpList_app _ rfl (.tmp 9) (.tmp 17) 43 rfl elem_str (by rfl) (N.out.1.alloc _) (by rfl) (Rd.one _ _ _) rfl (by simp [Value.oneCell']) (by unfold maxLen; omega) (by omega) ?_)
           go_must (intro v2 w2 ho hk2 hr)
           go_must (have N := Lib.hid (show New w 9 1 v2 3 (((addrL a).take 3).map fun s => .string (strOf s)) w2 from ⟨by
              have h9 := ho
              rw [show Lib.decDigits b = Lib.decDigits (byteN a 1) by rw [HBB.out]] at h9
              exact h9, (N.out.2.1.alloc _).trans hk2 (fun i hi => .inr (N.out.2.2 i hi)), fun i hi => (hr i hi).elim (fun h => N.out.2.2 i h) (fun h => by have := N.out.2.1.size; simp at h; omega)⟩))
           go_must (clear ho hk2 hr)))
      go_roundg (5 - (2 + 1))
      case measure => omega
      case rel => exact ⟨2 + 1, by omega, rfl, by go_num, N.out⟩
    · have hb : bits .and .u32 (((a.toNat : Nat) : Int)) 255 = ((byteN a 0 : Nat) : Int) := by
        rw [and255 (by omega) (by omega)]
        unfold byteN
        simp only [Nat.reduceMul, Nat.reducePow]
        omega
      have hbl := byteN_lt a 0
      obtain ⟨b, hbb⟩ : ∃ b, byteN a 0 = b := ⟨_, rfl⟩
      rw [hbb] at hb hbl
      have HBB := Lib.hid hbb
      have HI := Lib.hid (Lib.itoa_nonneg b)
      clear hbb
      go_wp2_with (first
        | (go_at_call 43
           go_must (refine (Itoa_any _ _ (by omega) (by omega) (HT.out _ K.out)).mono ?_)
           go_must (rintro e w1 ⟨rfl, k1⟩)
           go_must (rw [HI.out])
           go_must (have N := Lib.hid (N.out.go k1))
           go_must (clear k1))
        | (at_builtin
           go_must (refine wpList_app _ rfl (.tmp 9) (.tmp 17) 43 rfl elem_str (by rfl) (N.out.1.alloc _) (by rfl) (Rd.one _ _ _) rfl (by simp [Value.oneCell']) (by unfold maxLen; omega) (by omega) ?_)
           go_must (intro v2 w2 ho hk2 hr)
           go_must (have N := Lib.hid (show New w 9 1 v2 4 (((addrL a).take 4).map fun s => .string (strOf s)) w2 from ⟨by
              have h9 := ho
              rw [show Lib.decDigits b = Lib.decDigits (byteN a 0) by rw [HBB.out]] at h9
              exact h9, (N.out.2.1.alloc _).trans hk2 (fun i hi => .inr (N.out.2.2 i hi)), fun i hi => (hr i hi).elim (fun h => N.out.2.2 i h) (fun h => by have := N.out.2.1.size; simp at h; omega)⟩))
           go_must (clear ho hk2 hr)))
      go_roundg (5 - (3 + 1))
      case measure => omega
      case rel => exact ⟨3 + 1, by omega, rfl, by go_num, N.out⟩
    · obtain ⟨A, c, rfl, h1, h2, hrd, -⟩ := Rd.of_own N.out.1
      obtain ⟨g, o, rfl, hc⟩ := hrd (by simp [addrL])
      have hg := N.out.1.lt g (by
        rcases N.out.1.2 with ⟨h, _⟩ | ⟨g', cap', cur, h, _⟩
        · cases h
        · injection h with e1 e2 e3; injection e1 with e1; injection e1 with e1 e4; subst e1; simp [rowOf, Value.ownBlock])
      have hl := addrF_len a
      have HJ := Tryz.strings_Join g o c ((addrL a).map strOf) ⟨#[46]⟩ wr (fun j x hx => hc j _ (by
          rw [List.getElem?_map] at hx ⊢
          rw [List.take_of_length_le (by simp [addrL])]
          cases hh : (addrL a)[j]? with
          | none => rw [hh] at hx; cases hx
          | some y => rw [hh] at hx; simp at hx ⊢; exact hx)) hg (by simp [addrL]) (by simpa [addrL] using h1) (by
          have e : (((addrL a).map strOf).map (·.data.toList)) = addrL a := by simp [addrL, strOf]
          rw [e]; show (addrF a).length ≤ _; omega)
      have e : (((addrL a).map strOf).map (·.data.toList)) = addrL a := by simp [addrL, strOf]
      rw [e] at HJ
      have HJ := Lib.hid HJ
      clear hc e h1 h2 hrd hl
      go_wp2_with (go_at_call 45
                   go_must (refine HJ.out.mono ?_)
                   go_must (rintro e w3 ⟨rfl, hb⟩)
                   go_must (have K := Lib.hid (K.out.trans (Kept.of_below hb) (by simp)))
                   go_must (clear hb))
      go_ret
      exact ⟨rfl, K.out⟩
def inI (n : Int) : Prop := -9223372036854775808 ≤ n ∧ n ≤ 9223372036854775807
theorem itoa_len {n : Int} (h : inI n) : (Lib.itoa n).length ≤ 20 := by
  unfold inI at h
  unfold Lib.itoa
  have hp : (10 : Nat) ^ (18 + 1) = 10000000000000000000 := rfl
  by_cases h0 : n < 0
  · rw [if_pos h0]
    have := (dec_pad 18 n.natAbs (by rw [hp]; omega)).1
    simp only [List.length_cons]; omega
  · rw [if_neg h0]
    have := (dec_pad 18 n.toNat (by rw [hp]; omega)).1
    omega
end
end Go.Proofs.YtgndijdhmkphaaaGreatDoor
