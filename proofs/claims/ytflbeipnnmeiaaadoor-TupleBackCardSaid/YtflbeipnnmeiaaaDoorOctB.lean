
/-
  Contracts of octet.Writer's other functions.
-/
import Derived.Test.YtflbeipnnmeiaaaDoorOct
namespace Go.Proofs.YtflbeipnnmeiaaaDoor
open Go.RowKit
set_option linter.unusedVariables false
set_option maxRecDepth 100000

/-- a number as 64 bits -/
def nat64 (n : Int) : Nat := (n % 18446744073709551616).toNat
theorem nat64_cast (n : Int) : ((nat64 n : Nat) : Int) = n % 18446744073709551616 := by unfold nat64; omega
theorem wrap_u64 (n : Int) : IntKind.u64.wrap n = (nat64 n : Int) := by rw [IntKind.wrap_u64, nat64_cast]
theorem nat64_small (n : Nat) (h : n < 18446744073709551616) : nat64 n = n := by unfold nat64; omega

set_option maxHeartbeats 400000 in
theorem put_nil (w : World) (x width : Int) : Calls Tryd.prog 50 #[.pointer none, .int .u64 x, .int .i64 width] w fun e w' => e = .returned (.tuple #[]) ∧ w = w' := by
  go_enter Tryd.func50, Tryd.ntmps50
  go_wp2
  refine bodyPost_ret (results_none rfl _ _ _) rfl ?_
  exact ⟨rfl, rfl⟩

set_option maxHeartbeats 400000 in
theorem WU8_any (w : World) (b : Nat) (v : Value) (bs : List UInt8) (h : Wr w b v bs) (n : Int) (hl : bs.length ≤ 1099511627776) :
    Calls Tryd.prog 32 #[.pointer (some ⟨b, 0, none⟩), .int .i64 n] w fun e w' => e = .returned (.tuple #[]) ∧ WrTo w b v (bs ++ beK (nat64 n) 1 1) w' := by
  have hn := wrap_u64 n
  have H := Lib.hid h
  clear h
  go_enter Tryd.func32, Tryd.ntmps32
  go_wp2_with fail
  refine (put_any w b v bs H.out (nat64 n) 1 (by omega) hl).mono ?_
  rintro e w' ⟨rfl, h2⟩
  go_wp2
  go_end0
  exact ⟨rfl, h2⟩

set_option maxHeartbeats 400000 in
theorem WU16_any (w : World) (b : Nat) (v : Value) (bs : List UInt8) (h : Wr w b v bs) (n : Int) (hl : bs.length ≤ 1099511627776) :
    Calls Tryd.prog 33 #[.pointer (some ⟨b, 0, none⟩), .int .i64 n] w fun e w' => e = .returned (.tuple #[]) ∧ WrTo w b v (bs ++ beK (nat64 n) 2 2) w' := by
  have hn := wrap_u64 n
  have H := Lib.hid h
  clear h
  go_enter Tryd.func33, Tryd.ntmps33
  go_wp2_with fail
  skip
  refine (put_any w b v bs H.out (nat64 n) 2 (by omega) hl).mono ?_
  rintro e w' ⟨rfl, h2⟩
  go_wp2
  go_end0
  exact ⟨rfl, h2⟩

set_option maxHeartbeats 400000 in
theorem WU32_any (w : World) (b : Nat) (v : Value) (bs : List UInt8) (h : Wr w b v bs) (n : Nat) (h1 : n < 4294967296) (hl : bs.length ≤ 1099511627776) :
    Calls Tryd.prog 31 #[.pointer (some ⟨b, 0, none⟩), .int .u32 n] w fun e w' => e = .returned (.tuple #[]) ∧ WrTo w b v (bs ++ beK n 4 4) w' := by
  have hn : IntKind.u64.wrap (n : Int) = (n : Int) := by rw [IntKind.wrap_u64]; omega
  have H := Lib.hid h
  clear h
  go_enter Tryd.func31, Tryd.ntmps31
  go_wp2_with fail
  refine (put_any w b v bs H.out n 4 (by omega) hl).mono ?_
  rintro e w' ⟨rfl, h2⟩
  go_wp2
  go_end0
  exact ⟨rfl, h2⟩

set_option maxHeartbeats 400000 in
theorem WU8_nil (w : World) (n : Int) : Calls Tryd.prog 32 #[.pointer none, .int .i64 n] w fun e w' => e = .returned (.tuple #[]) ∧ w = w' := by
  go_enter Tryd.func32, Tryd.ntmps32
  go_wp2_with (go_at_call 50; refine (put_nil _ _ _).mono ?_; rintro e w' ⟨rfl, rfl⟩)
  go_end0
  exact ⟨rfl, rfl⟩

set_option maxHeartbeats 400000 in
theorem WU16_nil (w : World) (n : Int) : Calls Tryd.prog 33 #[.pointer none, .int .i64 n] w fun e w' => e = .returned (.tuple #[]) ∧ w = w' := by
  go_enter Tryd.func33, Tryd.ntmps33
  go_wp2_with (go_at_call 50; refine (put_nil _ _ _).mono ?_; rintro e w' ⟨rfl, rfl⟩)
  go_end0
  exact ⟨rfl, rfl⟩

set_option maxHeartbeats 400000 in
theorem WU32_nil (w : World) (n : Int) : Calls Tryd.prog 31 #[.pointer none, .int .u32 n] w fun e w' => e = .returned (.tuple #[]) ∧ w = w' := by
  go_enter Tryd.func31, Tryd.ntmps31
  go_wp2_with (go_at_call 50; refine (put_nil _ _ _).mono ?_; rintro e w' ⟨rfl, rfl⟩)
  go_end0
  exact ⟨rfl, rfl⟩

set_option maxHeartbeats 400000 in
theorem WRaw_nil (w : World) (x : Value) : Calls Tryd.prog 63 #[.pointer none, x] w fun e w' => e = .returned (.tuple #[]) ∧ w = w' := by
  go_enter Tryd.func63, Tryd.ntmps63
  go_wp2
  go_end0
  exact ⟨rfl, rfl⟩

set_option maxHeartbeats 400000 in
theorem WRaw_any (w : World) (b : Nat) (v : Value) (bs cs : List UInt8) (h : Wr w b v bs) (A : Option Addr) (m c : Nat) (hr : Rd w A (u8s cs)) (hm : cs.length = m) (hl : bs.length + m ≤ 17592186044416) :
    Calls Tryd.prog 63 #[.pointer (some ⟨b, 0, none⟩), .slice A m c] w fun e w' => e = .returned (.tuple #[]) ∧ WrTo w b v (bs ++ cs) w' := by
  have Hw := Lib.hid h
  have hc := h.blk.cell 0
  have hf := h.blk.frozen 0
  simp only [List.getElem?_toArray, List.getElem?_cons_zero] at hc
  have Hr := Lib.hid hr
  have Hm := Lib.hid hm
  clear h hr hm
  go_enter Tryd.func63, Tryd.ntmps63
  go_wp2_with (at_builtin
               refine wpList_app _ rfl (.tmp 10) (.tmp 11) 32 rfl elem_u8 (by rfl) Hw.out.own (by rfl) Hr.out (by rw [u8s_len, Hm.out]; omega) (u8s_one _) (by unfold maxLen; omega) (by omega) ?_
               intro v2 w2 ho2 hk2 hr2
               have hb2 := Hw.out.blk.kept hk2 Hw.out.ne
               have hc2 := hb2.cell 0
               have hf2 := hb2.frozen 0
               simp only [List.getElem?_toArray, List.getElem?_cons_zero] at hc2
               have Ho2 := Lib.hid ho2
               have Hk2 := Lib.hid hk2
               have Hr2 := Lib.hid hr2
               clear hb2 ho2 hk2 hr2
               obtain ⟨A2, n2, c2, rfl⟩ := Ho2.out.form')
  go_end0
  exact ⟨rfl, WrTo.app Hw.out (Kept.refl _ _) Ho2.out rfl Hk2.out Hr2.out⟩

theorem eql_nil8 : ∀ (w : World) (a : Option Addr) (n c n' c' : Nat), (binOp .eql 32 (.slice a n c) (.slice none n' c')).run Tryd.prog w = .ok (.bool a.isNone) w :=
  fun w a n c n' c' => Lib.run_eql_slice_nil w _ _ a n c n' c' Tryd.underlying32

/-- a slice of the call's own that was not there before w -/
def New (w : World) (e : TypeId) (s : Nat) (v : Value) (n : Nat) (xs : List Value) (w' : World) : Prop := Own w' e s v n xs ∧ Kept [] w w' ∧ ∀ k ∈ rowOf v, w.heap.size ≤ k
theorem New.nil (w : World) (e : TypeId) (s : Nat) : New w e s (.slice none 0 0) 0 [] w := ⟨Own.nil _ _ _, Kept.refl _ _, fun k hk => by simp [rowOf, Value.ownBlock] at hk⟩

set_option maxHeartbeats 400000 in
theorem Clone8_any (w : World) (A : Option Addr) (m c : Nat) (cs : List UInt8) (hr : Rd w A (u8s cs)) (hm : cs.length = m) (hA : A = none → m = 0 ∧ c = 0) (hl : m ≤ 140737488355328) :
    Calls Tryd.prog 34 #[.slice A m c] w fun e w' => ∃ v, e = .returned v ∧ New w 5 1 v m (u8s cs) w' := by
  cases A with
  | none =>
    obtain ⟨rfl, rfl⟩ := hA rfl
    obtain rfl : cs = [] := List.eq_nil_of_length_eq_zero hm
    have hq := eql_nil8
    go_enter Tryd.func34, Tryd.ntmps34
    go_wp2
    go_ret
    exact ⟨_, rfl, New.nil _ _ _⟩
  | some a =>
    have Hr := Lib.hid hr
    have Hm := Lib.hid hm
    clear hr hm hA
    have hq := eql_nil8
    go_enter Tryd.func34, Tryd.ntmps34
    go_wp2_with (at_builtin; refine wpList_app _ rfl (.tmp 5) (.tmp 6) 32 rfl elem_u8 (by rfl) (World.ownsRow_made w #[] 0 (Nat.zero_le _) (by unfold maxLen; omega) rfl) (by rfl) (Hr.out.alloc _) (by rw [u8s_len, Hm.out]; omega) (u8s_one _) (by unfold maxLen; omega) (by omega) ?_; intro v2 w2 ho2 hk2 hr2)
    go_ret
    refine ⟨v2, rfl, by simpa using ho2, ?_, fun k hk => ?_⟩
    · exact ((Kept.refl [] w).alloc _).trans hk2 (fun i hi => .inr (by simp [rowOf, Value.ownBlock] at hi; omega))
    · rcases hr2 k hk with h1 | h1
      · simp [rowOf, Value.ownBlock] at h1; omega
      · simp at h1; omega

set_option maxHeartbeats 400000 in
theorem Bytes_nil (w : World) : Calls Tryd.prog 13 #[.pointer none] w fun e w' => e = .returned (.slice none 0 0) ∧ w = w' := by
  go_enter Tryd.func13, Tryd.ntmps13
  go_wp2
  go_ret
  exact ⟨rfl, rfl⟩

theorem Own.slice {w : World} {e : TypeId} {s n : Nat} {v : Value} {xs : List Value} (h : Own w e s v n xs) : ∃ A cap, v = .slice A n cap ∧ n ≤ cap ∧ cap ≤ maxLen ∧ Rd w A xs ∧ addrOf A = rowOf v ∧ (A = none → n = 0 ∧ cap = 0) := by
  rcases h.2 with ⟨rfl, h0⟩ | ⟨g, cap, cur, rfl, hb, hg, hn, hm, hs, ht⟩
  · obtain ⟨A, cap, h1, h2, h3, h4, h5⟩ := Rd.of_own h
    injection h1 with e1 e2 e3
    subst e1 e3
    exact ⟨none, 0, by rw [← e2], h2, h3, h4, h5, fun _ => ⟨e2.symm, rfl⟩⟩
  · obtain ⟨A, cap, h1, h2, h3, h4, h5⟩ := Rd.of_own h
    injection h1 with e1 e2 e3
    subst e1 e3
    exact ⟨_, _, rfl, h2, h3, h4, h5, fun h => by cases h⟩

set_option maxHeartbeats 400000 in
theorem Bytes_any (w : World) (b : Nat) (v : Value) (bs : List UInt8) (h : Wr w b v bs) (hl : bs.length ≤ 140737488355328) :
    Calls Tryd.prog 13 #[.pointer (some ⟨b, 0, none⟩)] w fun e w' => ∃ v, e = .returned v ∧ New w 5 1 v bs.length (u8s bs) w' := by
  obtain ⟨A, cap, rfl, h1, h2, h3, h4, h5⟩ := h.own.slice
  have hc := h.blk.cell 0
  simp only [List.getElem?_toArray, List.getElem?_cons_zero] at hc
  have H3 := Lib.hid h3
  have H5 := Lib.hid h5
  clear h h3 h4 h5
  go_enter Tryd.func13, Tryd.ntmps13
  go_wp2_with fail
  refine (Clone8_any w A bs.length cap bs H3.out rfl H5.out hl).mono ?_
  rintro e w' ⟨v', rfl, h6⟩
  have H6 := Lib.hid h6
  clear h6
  go_wp2
  go_ret
  exact ⟨v', rfl, H6.out⟩
end Go.Proofs.YtflbeipnnmeiaaaDoor
