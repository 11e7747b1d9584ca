
/-
  DiskRenames: its walk.
-/
import Derived.Test.YthdjdfdefibepaaDkP
namespace Go.Proofs.Ythdjdfdefibepaa
open Go.RowKit Go.ChangeShapes Go.WideShapes Go.ChangeAt Go.Deep Go.MapKept
set_option linter.unusedVariables false

theorem rnA_ops (a : Bs) (n : Int) (s : Nat) (h : n ≤ 9) : (rnA a n s).ops ≤ 400000 := by show n ≤ 400000; omega
theorem rnC_ops (a b : Bs) (n : Int) (s : Nat) (h : n ≤ 9) : (rnC a b n s).ops ≤ 400000 := by show n ≤ 400000; omega
set_option maxHeartbeats 6400000 in
set_option maxRecDepth 100000 in
theorem DiskRenames_walk0 (w : World) (q : UInt8) {A B : Option Addr} {m c n d : Nat} {a b : Bs} (ra : RdB w (old w) (.slice A m c) a) (rb : RdB w (old w) (.slice B n d) b) :
    Calls Try.prog 5 #[.slice A m c, .slice B n d, .int .u8 q.toNat] w fun e w' => e = .returned (.bool true) ∧ Kept [] w w' := by
  have AW := Lib.hid awake3_any
  have la := ra.len
  have lb := rb.len
  have La := Lib.hid la.1
  have Lb := Lib.hid lb.1
  have RA := Lib.hid ra
  have RB := Lib.hid rb
  clear ra rb la lb
  by_cases h1 : 2000 < m
  · have i1 : (2000 : Int) < (m : Int) := by omega
    clear h1
    go_enter Try.func5, Try.ntmps5
    go_wp2_with (first
      | (go_at_call 13
         with_reducible refine (AW.out _).mono ?_
         rintro e wz ⟨rfl, hkz⟩
         have KZ := Lib.hid (Kept.trans (Kept.refl [] w) hkz (by simp))
         clear hkz))
    go_ret
    exact ⟨rfl, KZ.out⟩
  by_cases h2 : 2000 < n
  · have i1 : ¬ (2000 : Int) < (m : Int) := by omega
    have i2 : (2000 : Int) < (n : Int) := by omega
    clear h1 h2
    go_enter Try.func5, Try.ntmps5
    go_wp2_with (first
      | (go_at_call 13
         with_reducible refine (AW.out _).mono ?_
         rintro e wz ⟨rfl, hkz⟩
         have KZ := Lib.hid (Kept.trans (Kept.refl [] w) hkz (by simp))
         clear hkz))
    go_ret
    exact ⟨rfl, KZ.out⟩
  have i1 : ¬ (2000 : Int) < (m : Int) := by omega
  have i2 : ¬ (2000 : Int) < (n : Int) := by omega
  have HA := Lib.hid (show a.length ≤ 2000 by rw [La.out]; omega)
  have HB := Lib.hid (show b.length ≤ 2000 by rw [Lb.out]; omega)
  clear h1 h2
  obtain ⟨k, hk⟩ : ∃ k, q.toNat % 3 = k := ⟨_, rfl⟩
  have k3 : k < 3 := by omega
  have HK := Lib.hid hk
  have K3 := Lib.hid k3
  obtain ⟨x, hx⟩ : ∃ x, (if k = 2 then b else a) = x := ⟨_, rfl⟩
  have HX := Lib.hid hx
  clear hk k3 hx
  go_enter Try.func5, Try.ntmps5
  go_upto_region 13 with (first
    | (go_at_call 14
       have hz := NewG w 100000
       with_reducible refine hz.mono ?_
       clear hz
       rintro e w1 ⟨p, rfl, hs⟩
       have S1 := Lib.hid hs
       clear hs)
    | (go_at_call 17
       have hz := AppendG S1.out (rn1 HA.out) (s := ⟨#[109]⟩) rfl (by decide) (by decide) RA.out (by have := HA.out; omega)
       with_reducible refine hz.mono ?_
       clear hz
       rintro e w2 ⟨rfl, hs⟩
       have S2 := Lib.hid hs
       clear hs)
    | (go_at_call 21
       have hz := SyncG S2.out (rn2 a) (s := ⟨#[109]⟩) rfl (rnA_ops _ _ _ (by decide))
       with_reducible refine hz.mono ?_
       clear hz
       rintro e w3 ⟨rfl, hs⟩
       have S3 := Lib.hid hs
       clear hs)
    | (go_at_call 22
       have hz := SyncDirG S3.out (rn3 a) (rnA_ops _ _ _ (by decide))
       with_reducible refine hz.mono ?_
       clear hz
       rintro e w4 ⟨rfl, hs⟩
       have S4 := Lib.hid hs
       clear hs)
    | (go_at_call 17
       have hz := AppendG S4.out (rn4 HA.out HB.out) (s := ⟨#[109, 46, 110, 101, 119]⟩) rfl (by show (3 : Int) ≤ 400000; decide) (by decide) RB.out (by have := HB.out; omega)
       with_reducible refine hz.mono ?_
       clear hz
       rintro e w5 ⟨rfl, hs⟩
       have S5 := Lib.hid hs
       clear hs)
    | (go_at_call 21
       have hz := SyncG S5.out (rn5 a b) (s := ⟨#[109, 46, 110, 101, 119]⟩) rfl (rnC_ops _ _ _ _ (by decide))
       with_reducible refine hz.mono ?_
       clear hz
       rintro e w6 ⟨rfl, hs⟩
       have S6 := Lib.hid hs
       clear hs)
    | (go_at_call 23
       have hz := RenameG S6.out (rn6 a b) (s := ⟨#[109, 46, 110, 101, 119]⟩) (t := ⟨#[109]⟩) rfl rfl (rnC_ops _ _ _ _ (by decide)) (by decide)
       with_reducible refine hz.mono ?_
       clear hz
       rintro e w7 ⟨rfl, hs⟩
       have S7 := Lib.hid hs
       clear hs)
    | (go_at_call 24
       have hz := show Calls Try.prog 24 #[.pointer (some ⟨p, 0, none⟩), .slice (some ⟨w7.heap.size, 0, none⟩) 1 1] (w7.alloc (.cells #[.int .u8 q.toNat] 5)) _ from CrashL S7.out (b := [q]) (by show (6 : Int) ≤ 400000; decide) (n := 1) rfl (by decide)
       with_reducible refine hz.mono ?_
       clear hz
       rintro e w8 ⟨rfl, hs⟩
       rw [rn8, HK.out] at hs
       have S8 := Lib.hid hs
       clear hs)
    | (go_at_call 25
       have hz := ReadG S8.out (rn9 a b k) (s := ⟨#[109]⟩) rfl
       with_reducible refine hz.mono ?_
       clear hz
       rintro e w9 ⟨A9, m9, c9, rfl, hr, _, hs⟩
       rw [HX.out] at hr
       have S9 := Lib.hid hs
       have q1 := run_str hr
       have q2 := run_str (RA.out.kept S9.out.kept (by simp))
       have q3 := run_str (RB.out.kept S9.out.kept (by simp))
       clear hs hr))
  have tq : q.toNat < 256 := q.toNat_lt
  have ta := strOf_toList a
  have tb := strOf_toList b
  have hkk := HK.out
  by_cases hk2 : k = 2
  · have hx := HX.out
    rw [if_pos hk2] at hx
    subst hx
    have ebb : (b == b) = true := by simp
    have nbb : (b != b) = false := by simp
    have HK2 := Lib.hid hk2
    have r2 : (q.toNat : Int) % 3 = 2 := by omega
    clear hk2 hkk
    by_cases hab : b = a
    · subst hab
      go_wp2_with (first
      | (go_at_call 15
         have hz := NamesG S9.out (by show (6 : Int) ≤ 400000; decide) (n := 1) (by rw [rn10 _ _ k K3.out]; rw [if_pos HK2.out])
         with_reducible refine hz.mono ?_
         clear hz
         rintro e w10 ⟨A10, c10, rfl, hs⟩
         have S10 := Lib.hid hs
         clear hs)
      | (go_at_call 13
         with_reducible refine (AW.out _).mono ?_
         rintro e wz ⟨rfl, hkz⟩
         have KZ := Lib.hid (Kept.trans S10.out.kept hkz (by simp))
         clear hkz))
      go_ret
      exact ⟨rfl, KZ.out⟩
    · skip
      go_wp2_with (first
      | (go_at_call 15
         have hz := NamesG S9.out (by show (6 : Int) ≤ 400000; decide) (n := 1) (by rw [rn10 _ _ k K3.out]; rw [if_pos HK2.out])
         with_reducible refine hz.mono ?_
         clear hz
         rintro e w10 ⟨A10, c10, rfl, hs⟩
         have S10 := Lib.hid hs
         clear hs)
      | (go_at_call 13
         with_reducible refine (AW.out _).mono ?_
         rintro e wz ⟨rfl, hkz⟩
         have KZ := Lib.hid (Kept.trans S10.out.kept hkz (by simp))
         clear hkz))
      go_ret
      exact ⟨rfl, KZ.out⟩
  · have hx := HX.out
    rw [if_neg hk2] at hx
    subst hx
    have eaa : (a == a) = true := by simp
    have naa : (a != a) = false := by simp
    have HK2 := Lib.hid hk2
    have r2 : ((q.toNat : Int) % 3 == 2) = false := by simp; omega
    have r3 : (q.toNat : Int) % 3 = (k : Int) := by omega
    have r4 : ((1 + k : Nat) : Int) = 1 + (k : Int) := by omega
    clear hk2 hkk
    go_wp2_with (first
      | (go_at_call 15
         have hz := NamesG S9.out (by show (6 : Int) ≤ 400000; decide) (n := 1 + k) (by rw [rn10 _ _ k K3.out]; rw [if_neg HK2.out])
         with_reducible refine hz.mono ?_
         clear hz
         rintro e w10 ⟨A10, c10, rfl, hs⟩
         have S10 := Lib.hid hs
         clear hs)
      | (go_at_call 13
         with_reducible refine (AW.out _).mono ?_
         rintro e wz ⟨rfl, hkz⟩
         have KZ := Lib.hid (Kept.trans S10.out.kept hkz (by simp))
         clear hkz))
    go_ret
    exact ⟨rfl, KZ.out⟩
set_option maxRecDepth 100000 in
theorem DiskRenames_walk {H : Type} {enc : TypeId × Value → H} {S : Prop} (W : World) (base : Nat) (v0 : Value) (d0 : DataW H) (p0 : List MemPlace) (v1 : Value) (d1 : DataW H) (p1 : List MemPlace) (v2 : Value) (d2 : DataW H) (p2 : List MemPlace)
    (hv0 : Value.okWide Try.prog W .any base 28 v0) (hv1 : Value.okWide Try.prog W .any base 28 v1) (hv2 : Value.okWide Try.prog W .any base 5 v2)
    (h0 : DataW.Trod enc Try.prog W 0 (fun _ => true) true 28 v0 d0 p0) (h1 : DataW.Trod enc Try.prog W 0 (fun _ => true) true 28 v1 d1 p1) (h2 : DataW.Trod enc Try.prog W 0 (fun _ => true) true 5 v2 d2 p2) (_ : S) :
    Calls Try.prog 5 #[v0, v1, v2] W fun e W' => e = .returned (.bool true) ∧ Below W.heap.size W W' := by
  obtain ⟨A, m, c, a, rfl, ra⟩ := open_bytesD hv0 h0
  obtain ⟨B, n, d, b, rfl, rb⟩ := open_bytesD hv1 h1
  obtain ⟨q, rfl⟩ := open_u8D hv2 h2
  exact (DiskRenames_walk0 W q ra rb).mono fun e W' ⟨h, hk⟩ => ⟨h, hk.below (Nat.le_refl _) (by simp)⟩
end Go.Proofs.Ythdjdfdefibepaa
