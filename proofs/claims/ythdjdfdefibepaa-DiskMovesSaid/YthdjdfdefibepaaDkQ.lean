
/-
  DiskMoves: its walk.
-/
import Derived.Test.YthdjdfdefibepaaDkP
import Derived.Deep.RegionWith
namespace Go.Proofs.Ythdjdfdefibepaa
open Go.RowKit Go.ChangeShapes Go.WideShapes Go.ChangeAt Go.Deep Go.MapKept
set_option linter.unusedVariables false

set_option maxHeartbeats 6400000 in
set_option maxRecDepth 100000 in
theorem DiskMoves_walk0 (w : World) (z : Int) {A B : Option Addr} {m c n d : Nat} {a b : Bs} (ra : RdB w (old w) (.slice A m c) a) (rb : RdB w (old w) (.slice B n d) b) :
    Calls Try.prog 7 #[.slice A m c, .slice B n d, .int .i64 z] w fun e w' => e = .returned (.bool true) ∧ Kept [] w w' := by
  have AW := Lib.hid awake3_any
  have la := ra.len
  have lb := rb.len
  have La := Lib.hid la.1
  have Lb := Lib.hid lb.1
  have RA := Lib.hid ra
  have RB := Lib.hid rb
  clear ra rb la lb
  by_cases h1 : 2000 < m
  · have i1 : (2000 : Int) < (m : Int) := by omega
    clear h1
    go_enter Try.func7, Try.ntmps7
    go_wp2_with (first
      | (go_at_call 13
         with_reducible refine (AW.out _).mono ?_
         rintro e wz ⟨rfl, hkz⟩
         have KZ := Lib.hid (Kept.trans (Kept.refl [] w) hkz (by simp))
         clear hkz))
    go_ret
    exact ⟨rfl, KZ.out⟩
  by_cases h2 : 2000 < n
  · have i1 : ¬ (2000 : Int) < (m : Int) := by omega
    have i2 : (2000 : Int) < (n : Int) := by omega
    clear h1 h2
    go_enter Try.func7, Try.ntmps7
    go_wp2_with (first
      | (go_at_call 13
         with_reducible refine (AW.out _).mono ?_
         rintro e wz ⟨rfl, hkz⟩
         have KZ := Lib.hid (Kept.trans (Kept.refl [] w) hkz (by simp))
         clear hkz))
    go_ret
    exact ⟨rfl, KZ.out⟩
  have i1 : ¬ (2000 : Int) < (m : Int) := by omega
  have i2 : ¬ (2000 : Int) < (n : Int) := by omega
  have HA := Lib.hid (show a.length ≤ 2000 by rw [La.out]; omega)
  have HB := Lib.hid (show b.length ≤ 2000 by rw [Lb.out]; omega)
  clear h1 h2
  go_enter Try.func7, Try.ntmps7
  go_upto_region 10 with (first
    | (go_at_call 14
       have hz := NewG w 100000
       with_reducible refine hz.mono ?_
       clear hz
       rintro e w1 ⟨p, rfl, hs⟩
       have S1 := Lib.hid hs
       clear hs)
    | (go_at_call 17
       have hz := AppendG S1.out (mv1 HA.out) (s := ⟨#[120]⟩) rfl (by decide) (by decide) RA.out (by have := HA.out; omega)
       with_reducible refine hz.mono ?_
       clear hz
       rintro e w2 ⟨rfl, hs⟩
       have S2 := Lib.hid hs
       clear hs)
    | (go_at_call 17
       have hz := AppendG S2.out (mv2 HA.out HB.out) (s := ⟨#[121]⟩) rfl (by show (1 : Int) ≤ 400000; decide) (by decide) RB.out (by have := HB.out; omega)
       with_reducible refine hz.mono ?_
       clear hz
       rintro e w3 ⟨rfl, hs⟩
       have S3 := Lib.hid hs
       clear hs)
    | (go_at_call 23
       have hz := RenameG S3.out (mv3 a b) (s := ⟨#[120]⟩) (t := ⟨#[121]⟩) rfl rfl (by show (2 : Int) ≤ 400000; decide) (by decide)
       with_reducible refine hz.mono ?_
       clear hz
       rintro e w4 ⟨rfl, hs⟩
       have S4 := Lib.hid hs
       clear hs)
    | (go_at_call 23
       have hz := RenameG S4.out (mv4 a b) (s := ⟨#[120]⟩) (t := ⟨#[122]⟩) rfl rfl (by show (3 : Int) ≤ 400000; decide) (by decide)
       with_reducible refine hz.mono ?_
       clear hz
       rintro e w5 ⟨rfl, hs⟩
       have S5 := Lib.hid hs
       clear hs)
    | (go_at_call 23
       have hz := RenameG S5.out (mv5 a b) (s := ⟨#[121]⟩) (t := ⟨#[121]⟩) rfl rfl (by show (4 : Int) ≤ 400000; decide) (by decide)
       with_reducible refine hz.mono ?_
       clear hz
       rintro e w6 ⟨rfl, hs⟩
       have S6 := Lib.hid hs
       clear hs)
    | (go_at_call 25
       have hz := ReadG S6.out (mv6 a b) (s := ⟨#[121]⟩) rfl
       with_reducible refine hz.mono ?_
       clear hz
       rintro e w7 ⟨A7, m7, c7, rfl, hr, hl, hs⟩
       have R7 := Lib.hid hr
       have S7 := Lib.hid hs
       clear hs
       clear hr hl)
    | (go_at_call 25
       have hz := ReadNK S7.out (mv7 a b) (s := ⟨#[120]⟩) rfl
       with_reducible refine hz.mono ?_
       clear hz
       rintro e w8 ⟨rfl, hk, hs⟩
       have R8 := Lib.hid (R7.out.kept hk (by simp))
       have S8 := Lib.hid hs
       clear hs
       clear hk))
  obtain ⟨k, hk⟩ : ∃ k, nat64 z % (m + 1) = k := ⟨_, rfl⟩
  have hkm : k ≤ m := by have := Nat.mod_lt (nat64 z) (show 0 < m + 1 by omega); omega
  have hw1 := wrap_u64 z
  have hw2 : IntKind.u64.wrap ((m : Int) + 1) = (m : Int) + 1 := by rw [wrap_u64, show (m : Int) + 1 = ((m + 1 : Nat) : Int) by omega, nat64_small _ (by omega)]
  have hw3 : ((nat64 z : Nat) : Int) % ((m : Int) + 1) = (k : Int) := by rw [← hk]; simp
  have hN0 : (((m : Int) + 1) == 0) = false := by simp; omega
  have ii0 : (0 : Int) ≤ (k : Int) := by omega
  have ii1 : (k : Int) ≤ 2000 := by omega
  have KM := Lib.hid hkm
  have c9 := mv9 (a := a) (b := b) (k := k) (by rw [La.out]; exact hkm)
  rw [La.out] at c9
  have C9 := Lib.hid c9
  have q1 := run_str R8.out
  have q2 := run_str (RA.out.kept S8.out.kept (by simp))
  clear hk hkm c9
  go_upto_region 11 with fail
  clear hw1 hw2 hw3 hN0
  go_upto_region 14 with (first
    | (go_at_call 15
       have hz := NamesG S8.out (by show (5 : Int) ≤ 400000; decide) (n := 1) rfl
       with_reducible refine hz.mono ?_
       clear hz
       rintro e w9 ⟨A9, c9, rfl, hs⟩
       have S9 := Lib.hid hs
       clear hs)
    | (go_at_call 27
       have hz := CutG S9.out (mv8 (a := a) (b := b) (k := k) (by rw [La.out]; exact KM.out)) (s := ⟨#[121]⟩) rfl (by show (5 : Int) ≤ 400000; decide)
       with_reducible refine hz.mono ?_
       clear hz
       rintro e w10 ⟨rfl, hs⟩
       have S10 := Lib.hid hs
       clear hs)
    | (go_at_call 27
       have hz := CutG S10.out C9.out (s := ⟨#[121]⟩) rfl (by show (6 : Int) ≤ 400000; decide)
       with_reducible refine hz.mono ?_
       clear hz
       rintro e w11 ⟨rfl, hs⟩
       have S11 := Lib.hid hs
       clear hs)
    | (go_at_call 25
       have hz := ReadG S11.out (mv10 a b k) (s := ⟨#[121]⟩) rfl
       with_reducible refine hz.mono ?_
       clear hz
       rintro e w12 ⟨A12, m12, c12, rfl, hr, hl, hs⟩
       have R12 := Lib.hid hr
       have S12 := Lib.hid hs
       clear hs
       clear hr hl))
  clear q1 q2
  have SD := Lib.hid (S12.out.go ((Kept.refl [] w12).drew))
  have q1 := run_str (R12.out.kept ((Kept.refl [] w12).drew) (by simp))
  have lc := RA.out.len
  have ik : (k : Int) ≤ (c : Int) := by have := KM.out; omega
  have ic : (c : Int) ≤ 9223372036854775807 := by have := lc.2.2.1; unfold maxLen at this; omega
  have q2 := run_str ((RA.out.kept SD.out.kept (by simp)).upto k KM.out)
  have tk := strOf_toList (a.take k)
  clear lc
  go_region_with (first
    | (go_at_call 26
       have hz := RemoveG SD.out (mv11 a b k) (s := ⟨#[121]⟩) rfl (by show (7 : Int) ≤ 400000; decide)
       with_reducible refine hz.mono ?_
       clear hz
       rintro e w13 ⟨rfl, hs⟩
       have S13 := Lib.hid hs
       clear hs)
    | (go_at_call 26
       have hz := RemoveG S13.out (mv12 a b k) (s := ⟨#[121]⟩) rfl (by show (8 : Int) ≤ 400000; decide)
       with_reducible refine hz.mono ?_
       clear hz
       rintro e w14 ⟨rfl, hs⟩
       have S14 := Lib.hid hs
       clear hs)
    | (go_at_call 16
       have hz := SizeG S14.out (by show (9 : Int) ≤ 400000; decide) (mv13 a b k)
       with_reducible refine hz.mono ?_
       clear hz
       rintro e w15 ⟨rfl, hs⟩
       have S15 := Lib.hid hs
       clear hs)
    | (go_at_call 13
       with_reducible refine (AW.out _).mono ?_
       rintro e wz ⟨rfl, hkz⟩
       have KZ := Lib.hid (Kept.trans S15.out.kept hkz (by simp))
       clear hkz))
  all_goals
    go_wp2
    go_ret
    exact ⟨rfl, KZ.out⟩
set_option maxRecDepth 100000 in
theorem DiskMoves_walk {H : Type} {enc : TypeId × Value → H} {S : Prop} (W : World) (base : Nat) (v0 : Value) (d0 : DataW H) (p0 : List MemPlace) (v1 : Value) (d1 : DataW H) (p1 : List MemPlace) (v2 : Value) (d2 : DataW H) (p2 : List MemPlace)
    (hv0 : Value.okWide Try.prog W .any base 28 v0) (hv1 : Value.okWide Try.prog W .any base 28 v1) (hv2 : Value.okWide Try.prog W .any base 3 v2)
    (h0 : DataW.Trod enc Try.prog W 0 (fun _ => true) true 28 v0 d0 p0) (h1 : DataW.Trod enc Try.prog W 0 (fun _ => true) true 28 v1 d1 p1) (h2 : DataW.Trod enc Try.prog W 0 (fun _ => true) true 3 v2 d2 p2) (_ : S) :
    Calls Try.prog 7 #[v0, v1, v2] W fun e W' => e = .returned (.bool true) ∧ Below W.heap.size W W' := by
  obtain ⟨A, m, c, a, rfl, ra⟩ := open_bytesD hv0 h0
  obtain ⟨B, n, d, b, rfl, rb⟩ := open_bytesD hv1 h1
  obtain ⟨z, rfl, _⟩ := open_i64D hv2 h2
  exact (DiskMoves_walk0 W z ra rb).mono fun e W' ⟨h, hk⟩ => ⟨h, hk.below (Nat.le_refl _) (by simp)⟩
end Go.Proofs.Ythdjdfdefibepaa
