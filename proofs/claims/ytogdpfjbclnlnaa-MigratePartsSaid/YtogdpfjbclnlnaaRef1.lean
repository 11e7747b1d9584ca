
/-
  Contracts of the reference's functions on bytes.
-/
import Derived.Test.YtogdpfjbclnlnaaOctS
namespace Go.Proofs.Ytogdpfjbclnlnaa
open Go.RowKit
set_option linter.unusedVariables false

theorem New.made (w : World) (xs : Array Value) (n : Nat) (h : xs.size = n) (hn : n ≤ maxLen) : New w 5 1 (.slice (some ⟨w.heap.size, 0, none⟩) n n) n xs.toList (w.alloc (.cells xs 5)) := by
  refine ⟨?_, (Kept.refl _ _).alloc _, fun k hk => by simp [rowOf, Value.ownBlock] at hk; omega⟩
  exact ⟨by simp [h], .inr ⟨_, _, xs, rfl, Nat.zero_le _, heap_alloc_new w _, Nat.le_refl _, hn, by simp [h], by simp [← h, List.take_of_length_le]⟩⟩
theorem be1 (n : Int) : u8s (beK (nat64 n) 1 1) = [.int .u8 (n % 256)] := by
  have := nat64_cast n
  simp [u8s, beK, List.range_succ, u8v]
  omega
theorem be2 (n : Int) : u8s (beK (nat64 n) 2 2) = [.int .u8 (n / 256 % 256), .int .u8 (n % 256)] := by
  have := nat64_cast n
  simp [u8s, beK, List.range_succ, u8v]
  omega
theorem be4 (n : Nat) (hn : n < 4294967296) : u8s (beK n 4 4) = [.int .u8 ((n : Int) / 16777216), .int .u8 ((n : Int) / 65536 % 256), .int .u8 ((n : Int) / 256 % 256), .int .u8 ((n : Int) % 256)] := by
  simp [u8s, beK, List.range_succ, u8v]
  omega
theorem be8 (n : Nat) : beK n 8 8 = beK (n / 4294967296) 4 4 ++ beK (n % 4294967296) 4 4 := by
  simp [beK, List.range_succ]
  refine ⟨?_, ?_, ?_, ?_, ?_, ?_, ?_⟩ <;> (apply UInt8.toNat_inj.1; (try simp); (try omega))
theorem New.cast {w w' : World} {e : TypeId} {s n n' : Nat} {v : Value} {xs xs' : List Value} (h : New w e s v n xs w') (hn : n = n') (hx : xs = xs') : New w e s v n' xs' w' := by subst hn hx; exact h

set_option maxHeartbeats 400000 in
theorem rU16_any (w : World) (n : Int) : Calls Try.prog 42 #[.int .i64 n] w fun e w' => ∃ v, e = .returned v ∧ New w 5 1 v 2 (u8s (beK (nat64 n) 2 2)) w' := by
  go_enter Try.func42, Try.ntmps42
  go_wp2
  go_ret
  exact ⟨_, rfl, (New.made w _ 2 rfl (by unfold maxLen; omega)).cast rfl (be2 n).symm⟩
set_option maxHeartbeats 400000 in
theorem rU32_any (w : World) (x : Int) (n : Nat) (hx : x = n) (hn : n < 4294967296) : Calls Try.prog 43 #[.int .u32 x] w fun e w' => ∃ v, e = .returned v ∧ New w 5 1 v 4 (u8s (beK n 4 4)) w' := by
  subst hx
  go_enter Try.func43, Try.ntmps43
  go_wp2
  go_ret
  exact ⟨_, rfl, (New.made w _ 4 rfl (by unfold maxLen; omega)).cast rfl (be4 n hn).symm⟩
set_option maxHeartbeats 400000 in
theorem rI64_any (w : World) (n : Int) : Calls Try.prog 44 #[.int .i64 n] w fun e w' => ∃ v, e = .returned v ∧ New w 5 1 v 8 (u8s (beK (nat64 n) 8 8)) w' := by
  have hw := wrap_u64 n
  have hu : nat64 n < 18446744073709551616 := by unfold nat64; omega
  go_enter Try.func44, Try.ntmps44
  go_wp2_with fail
  refine (rU32_any w _ (nat64 n / 4294967296) (by omega) (by omega)).mono ?_
  rintro e w1 ⟨v1, rfl, h1⟩
  have H1 := Lib.hid h1
  clear h1
  go_wp2_with fail
  refine (rU32_any w1 _ (nat64 n % 4294967296) (by omega) (by omega)).mono ?_
  rintro e w2 ⟨v2, rfl, h2⟩
  have H2 := Lib.hid h2
  clear h2
  obtain ⟨A2, c2, rfl, _, _, hr2, hro2, _⟩ := H2.out.1.slice
  have Hr2 := Lib.hid hr2
  clear hr2 hro2
  go_wp2_with (at_builtin
               refine wpList_app _ rfl (.tmp 7) (.tmp 11) 32 rfl elem_u8 (by rfl) (H1.out.1.kept H2.out.2.1 (by simp)) (by rfl) Hr2.out (by simp [u8s, beK_len]) (u8s_one _) (by unfold maxLen; omega) (by omega) ?_
               intro v3 w3 ho3 hk3 hr3)
  go_ret
  refine ⟨v3, rfl, (by rw [be8, u8s_app]; exact ho3), (H1.out.2.1.trans H2.out.2.1 (by simp)).trans hk3 (fun i hi => .inr (H1.out.2.2 i hi)), fun k hk => ?_⟩
  rcases hr3 k hk with h | h
  · exact H1.out.2.2 k h
  · have := H1.out.2.1.size; have := H2.out.2.1.size; omega
end Go.Proofs.Ytogdpfjbclnlnaa
