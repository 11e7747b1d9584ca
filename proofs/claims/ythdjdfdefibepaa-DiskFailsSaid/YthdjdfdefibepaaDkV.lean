
/-
  DiskFails: its walk.
-/
import Derived.Test.YthdjdfdefibepaaDkU
namespace Go.Proofs.Ythdjdfdefibepaa
open Go.RowKit Go.ChangeShapes Go.WideShapes Go.ChangeAt Go.Deep Go.MapKept
set_option linter.unusedVariables false

set_option maxHeartbeats 6400000 in
set_option maxRecDepth 100000 in
theorem DiskFails_walk0 (w : World) (y z : Int) : Calls Try.prog 4 #[.int .i64 y, .int .i64 z] w fun e w' => e = .returned (.bool true) ∧ Kept [] w w' := by
  have AW := Lib.hid awake3_any
  obtain ⟨n, hn⟩ : ∃ n, nat64 y % 12 + 1 = n := ⟨_, rfl⟩
  obtain ⟨k, hk⟩ : ∃ k, nat64 z % 15 = k := ⟨_, rfl⟩
  have n1 : 1 ≤ n := by omega
  have n2 : n ≤ 12 := by omega
  have k1 : k ≤ 14 := by omega
  have hw1 := wrap_u64 y
  have hw2 := wrap_u64 z
  have hw3 : ((nat64 y : Nat) : Int) % 12 + 1 = (n : Int) := by rw [← hn]; simp
  have hw4 : ((nat64 z : Nat) : Int) % 15 = (k : Int) := by rw [← hk]; simp
  have hm1 : ((nat64 y : Nat) : Int) % 12 ≤ 11 := by omega
  have hm0 : 0 ≤ ((nat64 y : Nat) : Int) % 12 := by omega
  have K1 := Lib.hid k1
  have N1 := Lib.hid n1
  have N2 := Lib.hid n2
  have FS := Lib.hid (FI.start n1 n2)
  have ik : (0 : Int) ≤ (k : Int) := by omega
  have ik2 : (k : Int) ≤ 14 := by omega
  clear hn hk n1 n2 k1
  go_enter Try.func4, Try.ntmps4
  go_wp2_with (first
    | (go_at_call 14
       have hz := NewG w 1000
       with_reducible refine hz.mono ?_
       clear hz
       rintro e w1 ⟨p, rfl, hs⟩
       have S1 := Lib.hid hs
       clear hs)
    | (go_at_call 19
       have hz := FailG S1.out (n : Int) (by decide)
       with_reducible refine hz.mono ?_
       clear hz
       rintro e w2 ⟨rfl, hs⟩
       have S2 := Lib.hid hs
       clear hs))
  clear hw1 hw2 hw3 hw4 hm1 hm0
  go_loopg [6, 23] k (fun gg wt i wr => ∃ (j s : Nat) (D : DkD), j ≤ k ∧ gg = k - j ∧ wt = .int .i64 (s : Nat) ∧ i = .int .i64 (j : Nat) ∧ s ≤ j ∧ FI n j s D ∧ DkG w wr p D)
  case atStart => exact ⟨0, 0, _, by omega, by omega, rfl, rfl, by omega, FS.out, S2.out⟩
  case round =>
    obtain ⟨j, s, D, hj, rfl, rfl, rfl, hsj, hfi, hs⟩ := hrel
    have SJ := Lib.hid hsj
    have FJ := Lib.hid hfi
    have SD := Lib.hid hs
    have SZ := Lib.hid hfi.size
    have OP := Lib.hid hfi.ops
    have OPB := Lib.hid (show D.ops ≤ 400000 by rw [hfi.ops]; have := K1.out; omega)
    clear hsj hfi hs
    by_cases hlt : j < k
    · obtain ⟨q, hq⟩ : ∃ q : UInt8, q.toNat = j := ⟨UInt8.ofNat j, by have := K1.out; simp only [UInt8.toNat_ofNat']; omega⟩
      have Q := Lib.hid hq
      have i0 : (0 : Int) ≤ (j : Int) := by omega
      have i1 : (j : Int) < (k : Int) := by omega
      have i2 : IntKind.u8.wrap (j : Int) = (j : Int) := by rw [IntKind.wrap_u8]; omega
      have iw : IntKind.i64.wrap ((j : Int) + 1) = (j : Int) + 1 := IntWalk.i64_in _ (by omega)
      have iw2 : IntKind.i64.wrap ((s : Int) + 1) = (s : Int) + 1 := IntWalk.i64_in _ (by have := SJ.out; omega)
      have iw3 : IntKind.i64.wrap ((n : Int) - 1) = (n : Int) - 1 := IntWalk.i64_in _ (by have := N1.out; have := N2.out; omega)
      clear hq
      by_cases hit : j + 1 = n
      · obtain ⟨D1, he, hf1⟩ := FJ.out.hit hit q
        have HE := Lib.hid he
        have F1 := Lib.hid hf1
        have e1 : (n : Int) - 1 = (j : Int) := by omega
        clear he hf1 hit
        go_wp2_with (first
          | (go_at_call 17
             have hz := (Append1 SD.out HE.out (s := ⟨#[102]⟩) rfl OPB.out (by decide) : _)
             rw [Q.out] at hz
             with_reducible refine hz.mono ?_
             clear hz
             rintro e w3 ⟨rfl, hs⟩
             have S3 := Lib.hid hs
             clear hs))
        go_roundg (k - (j + 1))
        case measure => omega
        case rel => exact ⟨j + 1, s, D1, by omega, rfl, rfl, by go_num, by have := SJ.out; omega, F1.out, S3.out⟩
      · obtain ⟨D1, he, hf1⟩ := FJ.out.done hit (by have := SJ.out; have := K1.out; omega) q
        have HE := Lib.hid he
        have F1 := Lib.hid hf1
        have e1 : ¬ (j : Int) = (n : Int) - 1 := by omega
        clear he hf1 hit
        go_wp2_with (first
          | (go_at_call 17
             have hz := (Append1 SD.out HE.out (s := ⟨#[102]⟩) rfl OPB.out (by decide) : _)
             rw [Q.out] at hz
             with_reducible refine hz.mono ?_
             clear hz
             rintro e w3 ⟨rfl, hs⟩
             have S3 := Lib.hid hs
             clear hs))
        go_roundg (k - (j + 1))
        case measure => omega
        case rel => exact ⟨j + 1, s + 1, D1, by omega, rfl, by go_num, by go_num, by have := SJ.out; omega, F1.out, S3.out⟩
    · obtain rfl : j = k := by omega
      have i1 : ¬ (j : Int) < (j : Int) := by omega
      go_wp2_with (first
        | (go_at_call 16
           have hz := SizeG SD.out OPB.out SZ.out
           with_reducible refine hz.mono ?_
           clear hz
           rintro e w4 ⟨rfl, hs⟩
           have S4 := Lib.hid hs
           clear hs)
        | (go_at_call 20
           have hz := OpsG S4.out
           with_reducible refine hz.mono ?_
           clear hz
           rintro e w5 ⟨rfl, rfl⟩
           rw [OP.out])
        | (go_at_call 13
           with_reducible refine (AW.out _).mono ?_
           rintro e wz ⟨rfl, hkz⟩
           have KZ := Lib.hid (Kept.trans S4.out.kept hkz (by simp))
           clear hkz))
      go_ret
      exact ⟨rfl, KZ.out⟩
set_option maxRecDepth 100000 in
theorem DiskFails_walk {H : Type} {enc : TypeId × Value → H} {S : Prop} (W : World) (base : Nat) (v0 : Value) (d0 : DataW H) (p0 : List MemPlace) (v1 : Value) (d1 : DataW H) (p1 : List MemPlace)
    (hv0 : Value.okWide Try.prog W .any base 3 v0) (hv1 : Value.okWide Try.prog W .any base 3 v1)
    (h0 : DataW.Trod enc Try.prog W 0 (fun _ => true) true 3 v0 d0 p0) (h1 : DataW.Trod enc Try.prog W 0 (fun _ => true) true 3 v1 d1 p1) (_ : S) :
    Calls Try.prog 4 #[v0, v1] W fun e W' => e = .returned (.bool true) ∧ Below W.heap.size W W' := by
  obtain ⟨y, rfl, _⟩ := open_i64D hv0 h0
  obtain ⟨z, rfl, _⟩ := open_i64D hv1 h1
  exact (DiskFails_walk0 W y z).mono fun e W' ⟨h, hk⟩ => ⟨h, hk.below (Nat.le_refl _) (by simp)⟩
end Go.Proofs.Ythdjdfdefibepaa
