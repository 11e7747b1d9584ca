
/-
  StateMany: the walk.
-/
import Derived.Test.YtdabbkkjmmbigaaStQ
namespace Go.Proofs.Ytdabbkkjmmbigaa
open Go.RowKit Go.ChangeShapes Go.WideShapes Go.ChangeAt Go.Deep Go.MapKept
set_option linter.unusedVariables false

set_option maxRecDepth 100000 in
set_option maxHeartbeats 3200000 in
theorem StateMany_walk0 (w : World) (n k : Int) : Calls Try.prog 3 #[.int .i64 n, .int .i64 k] w fun e w' => e = .returned (.bool true) ∧ Kept [] w w' := by
  obtain ⟨t1, ht1⟩ : ∃ t, nat64 n % 12 = t := ⟨_, rfl⟩
  obtain ⟨t2, ht2⟩ : ∃ t, nat64 k % 8 = t := ⟨_, rfl⟩
  have b1 : t1 < 12 := by omega
  have b2 : t2 < 8 := by omega
  have hw1 := wrap_u64 n
  have hw2 := wrap_u64 k
  have hw3 : ((nat64 n : Nat) : Int) % 12 = (t1 : Int) := by omega
  have hw4 : ((nat64 n : Nat) : Int).tmod 12 = (t1 : Int) := by rw [Int.tmod_eq_emod_of_nonneg (by omega)]; omega
  have hw5 : ((nat64 k : Nat) : Int) % 8 = (t2 : Int) := by omega
  have hw6 : ((nat64 k : Nat) : Int).tmod 8 = (t2 : Int) := by rw [Int.tmod_eq_emod_of_nonneg (by omega)]; omega
  have hw7 : IntKind.i64.wrap (t1 : Int) = (t1 : Int) := IntWalk.i64_in _ (by omega)
  have hw8 : IntKind.i64.wrap (t2 : Int) = (t2 : Int) := IntWalk.i64_in _ (by omega)
  have hwa : IntKind.u64.wrap (t1 : Int) = (t1 : Int) := IntWalk.u64_in _ (by omega)
  have hwb : IntKind.u64.wrap (t2 : Int) = (t2 : Int) := IntWalk.u64_in _ (by omega)
  have hw9 : IntKind.i64.wrap (250 + (t1 : Int)) = ((250 + t1 : Nat) : Int) := (IntWalk.i64_in _ (by omega)).trans (by omega)
  have hwc : IntKind.i64.wrap (12 + (t2 : Int)) = ((12 + t2 : Nat) : Int) := (IntWalk.i64_in _ (by omega)).trans (by omega)
  clear ht1 ht2
  obtain ⟨N, hN⟩ : ∃ N, 250 + t1 = N := ⟨_, rfl⟩
  obtain ⟨K, hK⟩ : ∃ K, 12 + t2 = K := ⟨_, rfl⟩
  rw [hN] at hw9
  rw [hK] at hwc
  have hN1 : 250 ≤ N ∧ N < 262 := by omega
  have hK1 : 12 ≤ K ∧ K < 20 := by omega
  clear hN hK
  go_enter Try.func3, Try.ntmps3
  go_wp2_with (go_at_call 9
               refine (New_any _).mono ?_
               rintro e w1 ⟨p, rfl, hs⟩
               have H1 := Lib.hid (show StB w w1 p (stM 0 0) from hs)
               clear hs)
  go_loopg [24] N (fun gg i wr => ∃ j : Nat, j ≤ N ∧ gg = N - j ∧ i = .int .i64 j ∧ StB w wr p (stM j 0))
  case atStart => exact ⟨0, by omega, by omega, rfl, H1.out⟩
  case round =>
    obtain ⟨j, hj, rfl, rfl, hs⟩ := hrel
    have HJ := Lib.hid hs
    clear hs
    by_cases hlt : j < N
    · have i1 : (j : Int) < (N : Int) := by omega
      have hu : IntKind.u32.wrap (j : Int) = (j : Int) := IntWalk.u32_in _ (by omega)
      have iw : IntKind.i64.wrap ((j : Int) + 1) = (j : Int) + 1 := IntWalk.i64_in _ (by omega)
      have AF := ap_flow (i := j) (by omega) HJ.out
      by_cases h6 : j < 256
      all_goals
        first
          | rw [if_pos h6] at AF
          | rw [if_neg h6] at AF
        first
          | (have i2 : (j : Int) < 256 := by omega)
          | (have i2 : ¬ (j : Int) < 256 := by omega)
        have AP := Lib.hid AF
        clear AF h6
        go_wp2_with (go_at_call 10
                     refine AP.out.mono ?_
                     rintro e w2 ⟨rfl, h2⟩
                     have H2 := Lib.hid h2
                     clear h2)
        go_roundg (N - (j + 1))
        case measure => omega
        case rel => exact ⟨j + 1, by omega, rfl, by go_num, H2.out⟩
    · obtain rfl : j = N := by omega
      have i1 : ¬ (j : Int) < (j : Int) := by omega
      go_wp2
      go_loopg [49] K (fun gg i wr => ∃ l : Nat, l ≤ K ∧ gg = K - l ∧ i = .int .i64 l ∧ StB w wr p (stM j l))
      case atStart => exact ⟨0, by omega, by omega, rfl, HJ.out⟩
      case round =>
        obtain ⟨l, hl, rfl, rfl, hs⟩ := hrel
        have HL := Lib.hid hs
        clear hs
        by_cases hlt2 : l < K
        · have i1 : (l : Int) < (K : Int) := by omega
          have iw : IntKind.i64.wrap ((l : Int) + 1) = (l : Int) + 1 := IntWalk.i64_in _ (by omega)
          have AF := ap_drain (n := j) (i := l) (by omega) (by omega) HL.out
          by_cases h6 : l < 16
          all_goals
            first
              | rw [if_pos h6] at AF
              | rw [if_neg h6] at AF
            first
              | (have i2 : (l : Int) < 16 := by omega)
              | (have i2 : ¬ (l : Int) < 16 := by omega)
            have AP := Lib.hid AF
            clear AF h6
            go_wp2_with (go_at_call 10
                         refine AP.out.mono ?_
                         rintro e w2 ⟨rfl, h2⟩
                         have H2 := Lib.hid h2
                         clear h2)
            go_roundg (K - (l + 1))
            case measure => omega
            case rel => exact ⟨l + 1, by omega, rfl, by go_num, H2.out⟩
        · obtain rfl : l = K := by omega
          have i2 : ¬ (l : Int) < (l : Int) := by omega
          obtain ⟨S1, S2, ok2, hl2, c1, c2⟩ := ap_last (n := j) (k := l) (by omega) (by omega) (by omega) (by omega) HL.out
          have C1 := Lib.hid c1
          have C2 := Lib.hid c2
          have O2 := Lib.hid ok2
          have HLN : Hid (lenS S2 = 1 + min (j : Int) 256 + min (l : Int) 16) := Lib.hid (by rw [hl2]; omega)
          clear c1 c2 ok2 hl2
          go_wp2_with (first
            | (go_at_call 10
               with_reducible refine C1.out.mono ?_
               rintro e w2 ⟨rfl, h2⟩
               have H2 := Lib.hid h2
               clear h2)
            | (go_at_call 10
               with_reducible refine (C2.out _ H2.out).mono ?_
               rintro e w3 ⟨rfl, h3⟩
               have H3 := Lib.hid h3
               clear h3)
            | (go_at_call 11
               refine (StLen_any H3.out O2.out).mono ?_
               rintro e w4 ⟨rfl, n4, rfl⟩
               rw [HLN.out]
               have H4 := Lib.hid (H3.out.go ((Kept.refl [] w3).drewN n4)))
            | (go_at_call 12
               refine (awake14_any _).mono ?_
               rintro e w5 ⟨rfl, hk5⟩
               have K5 := Lib.hid (H4.out.kept.trans hk5 (by simp))
               clear hk5))
          go_ret
          exact ⟨rfl, K5.out⟩
end Go.Proofs.Ytdabbkkjmmbigaa
