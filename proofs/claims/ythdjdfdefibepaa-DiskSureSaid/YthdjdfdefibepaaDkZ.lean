
/-
  DiskSure: its walk.
-/
import Derived.Test.YthdjdfdefibepaaDkY
import Derived.Deep.RegionWith
import Derived.BigRegion
namespace Go.Proofs.Ythdjdfdefibepaa
open Go.RowKit Go.ChangeShapes Go.WideShapes Go.ChangeAt Go.Deep Go.MapKept
set_option linter.unusedVariables false

set_option maxHeartbeats 6400000 in
set_option maxRecDepth 100000 in
theorem DiskSure_walk0 (w : World) {A B C P : Option Addr} {m c n d r f pm pc : Nat} {a b x : Bs} {l : List Bs} (ra : RdB w (old w) (.slice A m c) a) (rb : RdB w (old w) (.slice B n d) b) (rc : RdB w (old w) (.slice C r f) x) (rp : PkAt w w P pm pc l) :
    Calls Try.prog 6 #[.slice A m c, .slice B n d, .slice C r f, .slice P pm pc] w fun e w' => e = .returned (.bool true) ∧ Kept [] w w' := by
  have AW := Lib.hid awake3_any
  have la := ra.len
  have lb := rb.len
  have lx := rc.len
  have La := Lib.hid la.1
  have Lb := Lib.hid lb.1
  have Lx := Lib.hid lx.1
  have BC := Lib.hid lb.2
  have RA := Lib.hid ra
  have RB := Lib.hid rb
  have RC := Lib.hid rc
  have RP := Lib.hid rp
  have LP := Lib.hid rp.1
  have pl3 := rp.2.2.1
  have pl2 := rp.2.1
  unfold maxLen at pl3
  clear ra rb rc rp la lb lx
  by_cases h1 : 2000 < m
  · have i1 : (2000 : Int) < (m : Int) := by omega
    clear h1
    go_enter Try.func6, Try.ntmps6
    go_wp2_with (first
      | (go_at_call 13
         with_reducible refine (AW.out _).mono ?_
         rintro e wz ⟨rfl, hkz⟩
         have KZ := Lib.hid (Kept.trans (Kept.refl [] w) hkz (by simp))
         clear hkz))
    go_ret
    exact ⟨rfl, KZ.out⟩
  by_cases h2 : 2000 < n
  · have i1 : ¬ (2000 : Int) < (m : Int) := by omega
    have i2 : (2000 : Int) < (n : Int) := by omega
    clear h1 h2
    go_enter Try.func6, Try.ntmps6
    go_wp2_with (first
      | (go_at_call 13
         with_reducible refine (AW.out _).mono ?_
         rintro e wz ⟨rfl, hkz⟩
         have KZ := Lib.hid (Kept.trans (Kept.refl [] w) hkz (by simp))
         clear hkz))
    go_ret
    exact ⟨rfl, KZ.out⟩
  by_cases h3 : 2000 < r
  · have i1 : ¬ (2000 : Int) < (m : Int) := by omega
    have i2 : ¬ (2000 : Int) < (n : Int) := by omega
    have i3 : (2000 : Int) < (r : Int) := by omega
    clear h1 h2 h3
    go_enter Try.func6, Try.ntmps6
    go_wp2_with (first
      | (go_at_call 13
         with_reducible refine (AW.out _).mono ?_
         rintro e wz ⟨rfl, hkz⟩
         have KZ := Lib.hid (Kept.trans (Kept.refl [] w) hkz (by simp))
         clear hkz))
    go_ret
    exact ⟨rfl, KZ.out⟩
  by_cases h4 : 6 < pm
  · have i1 : ¬ (2000 : Int) < (m : Int) := by omega
    have i2 : ¬ (2000 : Int) < (n : Int) := by omega
    have i3 : ¬ (2000 : Int) < (r : Int) := by omega
    have i4 : (6 : Int) < (pm : Int) := by omega
    clear h1 h2 h3 h4
    go_enter Try.func6, Try.ntmps6
    go_wp2_with (first
      | (go_at_call 13
         with_reducible refine (AW.out _).mono ?_
         rintro e wz ⟨rfl, hkz⟩
         have KZ := Lib.hid (Kept.trans (Kept.refl [] w) hkz (by simp))
         clear hkz))
    go_ret
    exact ⟨rfl, KZ.out⟩
  have i1 : ¬ (2000 : Int) < (m : Int) := by omega
  have i2 : ¬ (2000 : Int) < (n : Int) := by omega
  have i3 : ¬ (2000 : Int) < (r : Int) := by omega
  have i4 : ¬ (6 : Int) < (pm : Int) := by omega
  have HA := Lib.hid (show a.length ≤ 2000 by rw [La.out]; omega)
  have HB := Lib.hid (show b.length ≤ 2000 by rw [Lb.out]; omega)
  have HX := Lib.hid (show x.length ≤ 2000 by rw [Lx.out]; omega)
  clear h1 h2 h3 h4
  go_enter Try.func6, Try.ntmps6
  go_upto_region 7 with (first
    | (go_at_call 14
       have hz := NewG w 100000
       with_reducible refine hz.mono ?_
       clear hz
       rintro e w1 ⟨p, rfl, hs⟩
       have S1 := Lib.hid hs
       clear hs)
    | (go_at_call 17
       have hz := AppendG S1.out (mv1 HA.out) (s := ⟨#[120]⟩) rfl (by decide) (by decide) RA.out (by have := HA.out; omega)
       with_reducible refine hz.mono ?_
       clear hz
       rintro e w2 ⟨rfl, hs⟩
       have S2 := Lib.hid hs
       clear hs)
    | (go_at_call 17
       have hz := AppendG S2.out (mv2 HA.out HB.out) (s := ⟨#[121]⟩) rfl (by show (1 : Int) ≤ 400000; decide) (by decide) RB.out (by have := HB.out; omega)
       with_reducible refine hz.mono ?_
       clear hz
       rintro e w3 ⟨rfl, hs⟩
       have S3 := Lib.hid hs
       clear hs)
    | (go_at_call 21
       have hz := SyncG S3.out (su3 a b) (s := ⟨#[120]⟩) rfl (by show (2 : Int) ≤ 400000; decide)
       with_reducible refine hz.mono ?_
       clear hz
       rintro e w4 ⟨rfl, hs⟩
       have S4 := Lib.hid hs
       clear hs)
    | (go_at_call 23
       have hz := RenameG S4.out (su4 a b) (s := ⟨#[120]⟩) (t := ⟨#[122]⟩) rfl rfl (by show (3 : Int) ≤ 400000; decide) (by decide)
       with_reducible refine hz.mono ?_
       clear hz
       rintro e w5 ⟨rfl, hs⟩
       have S5 := Lib.hid hs
       clear hs)
    | (go_at_call 22
       have hz := SyncDirG S5.out (su5 a b) (by show (4 : Int) ≤ 400000; decide)
       with_reducible refine hz.mono ?_
       clear hz
       rintro e w6 ⟨rfl, hs⟩
       have S6 := Lib.hid hs
       clear hs)
    | (go_at_call 17
       have hz := AppendG S6.out (su6 HA.out HB.out HX.out) (s := ⟨#[122]⟩) rfl (by show (5 : Int) ≤ 400000; decide) (by decide) RC.out (by have := HX.out; omega)
       with_reducible refine hz.mono ?_
       clear hz
       rintro e w7 ⟨rfl, hs⟩
       have S7 := Lib.hid hs
       clear hs)
    | (go_at_call 26
       have hz := RemoveG S7.out (su7 a b x) (s := ⟨#[121]⟩) rfl (by show (6 : Int) ≤ 400000; decide)
       with_reducible refine hz.mono ?_
       clear hz
       rintro e w8 ⟨rfl, hs⟩
       have S8 := Lib.hid hs
       clear hs))
  go_wp2
  go_loopg [79] pm (fun gg i wr => ∃ (j : Nat) (D : DkD), j ≤ pm ∧ gg = pm - j ∧ i = .int .i64 (j : Nat) ∧ SU a b x D ∧ DkG w wr p D)
  case atStart => exact ⟨0, _, by omega, by omega, rfl, SU.start a b x, S8.out⟩
  case round =>
    obtain ⟨j, D, hj, rfl, rfl, hsu, hs⟩ := hrel
    have SV := Lib.hid hsu
    have SD := Lib.hid hs
    have OPB := Lib.hid (show D.ops ≤ 400000 by rw [hsu.ops]; omega)
    have RPW := Lib.hid (RP.out.kept (Kept.refl _ _) hs.kept)
    clear hsu hs
    by_cases hlt : j < pm
    · obtain ⟨ps, hps⟩ : ∃ ps, l[j]? = some ps := ⟨_, List.getElem?_eq_getElem (by rw [LP.out]; exact hlt)⟩
      obtain ⟨gp, op, E, en, ed, rfl, hgl, hce, hre⟩ := RPW.out.2.2.2 j ps hps
      obtain ⟨hsv, ⟨t, hrz, ht1, ht2⟩, hry, hrx⟩ := SV.out.cra ps
      have RE := Lib.hid hre
      have SV1 := Lib.hid hsv
      have RZ := Lib.hid hrz
      have RY := Lib.hid hry
      have RX := Lib.hid hrx
      have T1 := Lib.hid ht1
      have T2 := Lib.hid ht2
      have OPC := Lib.hid (show (craD D ps).ops ≤ 400000 by rw [hsv.ops]; omega)
      have i0 : (0 : Int) ≤ (j : Int) := by omega
      have i1 : (j : Int) < (pm : Int) := by omega
      have iw : IntKind.i64.wrap ((j : Int) + 1) = (j : Int) + 1 := IntWalk.i64_in _ (by omega)
      have hgw : gp < wr.heap.size := Nat.lt_of_lt_of_le hgl SD.out.kept.size
      clear hps hre hsv hrz hry hrx ht1 ht2
      go_upto_region 12 with (first
        | (go_at_call 24
           have hz := CrashG SD.out OPB.out RE.out (fun k hk => List.mem_range.1 hk)
           with_reducible refine hz.mono ?_
           clear hz
           rintro e w9 ⟨rfl, hs⟩
           have S9 := Lib.hid hs
           clear hs)
        | (go_at_call 25
           have hz := ReadG S9.out RZ.out (s := ⟨#[122]⟩) rfl
           with_reducible refine hz.mono ?_
           clear hz
           rintro e w10 ⟨A10, m10, c10, rfl, hr, hl, hs⟩
           have R10 := Lib.hid hr
           have S10 := Lib.hid hs
           clear hs
           clear hr hl))
      have hln := R10.out.len
      rw [List.length_take, List.length_append, Nat.min_eq_left (by have := T2.out; omega)] at hln
      obtain ⟨rfl, hm2, hm3, _⟩ := hln
      unfold maxLen at hm3
      have j1 : (m : Int) ≤ (t : Int) := by have := T1.out; have := La.out; omega
      have j2 : (t : Int) ≤ (m : Int) + (r : Int) := by have := T2.out; have := La.out; have := Lx.out; omega
      have j3 : IntKind.i64.wrap ((m : Int) + (r : Int)) = (m : Int) + (r : Int) := IntWalk.i64_in _ (by omega)
      have SDr := Lib.hid (S10.out.go ((Kept.refl [] w10).drew))
      have q1 := run_str (R10.out.kept ((Kept.refl [] w10).drew) (by simp))
      have q2 := run_str (RA.out.kept SDr.out.kept (by simp))
      have q3 := run_str (RC.out.kept SDr.out.kept (by simp))
      have hcat : strOf a ++ strOf x = strOf (a ++ x) := by unfold strOf; apply ByteArray.ext; simp
      have j4 : ¬ 9223372036854775807 < (strOf a).size + (strOf x).size := by rw [strOf_size, strOf_size]; have := HA.out; have := HX.out; omega
      have j5 : t ≤ (strOf (a ++ x)).size := by rw [strOf_size, List.length_append]; exact T2.out
      have j6 : (strOf (a ++ x)).extract 0 t = strOf ((a ++ x).take t) := by unfold strOf; apply ByteArray.ext; rw [ByteArray.data_extract]; simp
      have tz := strOf_toList ((a ++ x).take t)
      have d1 : decide ((t : Int) < (m : Int)) = false := decide_eq_false (by omega)
      have d2 : decide ((m : Int) + (r : Int) < (t : Int)) = false := decide_eq_false (by omega)
      refine wp_region_held_drew (S := (fun w' => w' = w10.drew)) (by kernel_rfl) rfl (fun hHeld => ?_)
      refine wpAnyH_take (i := 0) (oi := ⟨some 91, _, _, _, _, _⟩) (v := ?v0) rfl (by kernel_rfl) (by kernel_rfl) (by kernel_rfl) (fun _ _ _ h => h) (Or.inl ⟨by kernel_rfl, ?hy0⟩) (by assumption) ?rest0
      case hy0 => (intro w9 hSw; (try dsimp only at hSw); subst hSw; (try go_simp); (try with_reducible rfl); (try omega); (try simpa using d1); (try simpa using d2))
      simp only [Act.put, List.setIfInBounds_toArray, List.set_cons_zero, List.set_cons_succ]
      refine wpAnyH_take (i := 1) (oi := ⟨some 92, _, _, _, _, _⟩) (v := ?v1) rfl (by kernel_rfl) (by kernel_rfl) (by kernel_rfl) (fun _ _ _ h => h) (Or.inl ⟨by kernel_rfl, ?hy1⟩) (by assumption) ?rest1
      case hy1 => (intro w9 hSw; (try dsimp only at hSw); subst hSw; (try go_simp); (try with_reducible rfl); (try omega); (try simpa using d1); (try simpa using d2))
      simp only [Act.put, List.setIfInBounds_toArray, List.set_cons_zero, List.set_cons_succ]
      refine wpAnyH_take (i := 2) (oi := ⟨some 93, _, _, _, _, _⟩) (v := ?v2) rfl (by kernel_rfl) (by kernel_rfl) (by kernel_rfl) (fun _ _ _ h => h) (Or.inl ⟨by kernel_rfl, ?hy2⟩) (by assumption) ?rest2
      case hy2 => (intro w9 hSw; (try dsimp only at hSw); subst hSw; (try go_simp); (try with_reducible rfl); (try omega); (try simpa using d1); (try simpa using d2))
      simp only [Act.put, List.setIfInBounds_toArray, List.set_cons_zero, List.set_cons_succ]
      refine wpAnyH_take (i := 3) (oi := ⟨some 94, _, _, _, _, _⟩) (v := ?v3) rfl (by kernel_rfl) (by kernel_rfl) (by kernel_rfl) (fun _ _ _ h => h) (Or.inl ⟨by kernel_rfl, ?hy3⟩) (by assumption) ?rest3
      case hy3 => (intro w9 hSw; (try dsimp only at hSw); subst hSw; (try go_simp); (try with_reducible rfl); (try omega); (try simpa using d1); (try simpa using d2))
      simp only [Act.put, List.setIfInBounds_toArray, List.set_cons_zero, List.set_cons_succ]
      refine wpAnyH_take (i := 4) (oi := ⟨some 95, _, _, _, _, _⟩) (v := ?v4) rfl (by kernel_rfl) (by kernel_rfl) (by kernel_rfl) (fun _ _ _ h => h) (Or.inl ⟨by kernel_rfl, ?hy4⟩) (by assumption) ?rest4
      case hy4 => (intro w9 hSw; (try dsimp only at hSw); subst hSw; (try go_simp); (try with_reducible rfl); (try omega); (try simpa using d1); (try simpa using d2))
      simp only [Act.put, List.setIfInBounds_toArray, List.set_cons_zero, List.set_cons_succ]
      refine wpAnyH_take (i := 5) (oi := ⟨some 96, _, _, _, _, _⟩) (v := ?v5) rfl (by kernel_rfl) (by kernel_rfl) (by kernel_rfl) (fun _ _ _ h => h) (Or.inl ⟨by kernel_rfl, ?hy5⟩) (by assumption) ?rest5
      case hy5 => (intro w9 hSw; (try dsimp only at hSw); subst hSw; (try go_simp); (try with_reducible rfl); (try omega); (try simpa using d1); (try simpa using d2))
      simp only [Act.put, List.setIfInBounds_toArray, List.set_cons_zero, List.set_cons_succ]
      refine wpAnyH_take (i := 6) (oi := ⟨some 97, _, _, _, _, _⟩) (v := ?v6) rfl (by kernel_rfl) (by kernel_rfl) (by kernel_rfl) (fun _ _ _ h => h) (Or.inl ⟨by kernel_rfl, ?hy6⟩) (by assumption) ?rest6
      case hy6 => (intro w9 hSw; (try dsimp only at hSw); subst hSw; (try go_simp); (try with_reducible rfl); (try omega); (try simpa using d1); (try simpa using d2))
      simp only [Act.put, List.setIfInBounds_toArray, List.set_cons_zero, List.set_cons_succ]
      refine wpAnyH_take (i := 7) (oi := ⟨some 98, _, _, _, _, _⟩) (v := .bool false) rfl (by kernel_rfl) (by kernel_rfl) (by kernel_rfl) (fun _ _ _ h => h) (Or.inl ⟨by kernel_rfl, ?hy7⟩) (by assumption) ?rest7
      case hy7 => (intro w9 hSw; (try dsimp only at hSw); subst hSw; (try go_simp); (try with_reducible rfl); (try omega); (try simpa using d1); (try simpa using d2))
      simp only [Act.put, List.setIfInBounds_toArray, List.set_cons_zero, List.set_cons_succ]
      refine wpAnyH_take (i := 8) (oi := ⟨some 99, _, _, _, _, _⟩) (v := .bool false) rfl (by kernel_rfl) (by kernel_rfl) (by kernel_rfl) (fun _ _ _ h => h) (Or.inl ⟨by kernel_rfl, ?hy8⟩) (by assumption) ?rest8
      case hy8 => (intro w9 hSw; (try dsimp only at hSw); subst hSw; (try go_simp); (try with_reducible rfl); (try omega); (try simpa using d1); (try simpa using d2))
      simp only [Act.put, List.setIfInBounds_toArray, List.set_cons_zero, List.set_cons_succ]
      refine wpAnyH_take (i := 9) (oi := ⟨some 100, _, _, _, _, _⟩) (v := .bool false) rfl (by kernel_rfl) (by kernel_rfl) (by kernel_rfl) (fun _ _ _ h => h) (Or.inl ⟨by kernel_rfl, ?hy9⟩) (by assumption) ?rest9
      case hy9 => (intro w9 hSw; (try dsimp only at hSw); subst hSw; (try go_simp); (try with_reducible rfl); (try omega); (try simpa using d1); (try simpa using d2))
      simp only [Act.put, List.setIfInBounds_toArray, List.set_cons_zero, List.set_cons_succ]
      refine wpAnyH_take (i := 10) (oi := ⟨some 101, _, _, _, _, _⟩) (v := ?v10) rfl (by kernel_rfl) (by kernel_rfl) (by kernel_rfl) (fun _ _ _ h => h) (Or.inl ⟨by kernel_rfl, ?hy10⟩) (by assumption) ?rest10
      case hy10 => (intro w9 hSw; (try dsimp only at hSw); subst hSw; (try go_simp); (try with_reducible rfl); (try omega); (try simpa using d1); (try simpa using d2))
      simp only [Act.put, List.setIfInBounds_toArray, List.set_cons_zero, List.set_cons_succ]
      refine wpAnyH_take (i := 11) (oi := ⟨some 102, _, _, _, _, _⟩) (v := ?v11) rfl (by kernel_rfl) (by kernel_rfl) (by kernel_rfl) (fun _ _ _ h => h) (Or.inl ⟨by kernel_rfl, ?hy11⟩) (by assumption) ?rest11
      case hy11 => (intro w9 hSw; (try dsimp only at hSw); subst hSw; (try go_simp); (try with_reducible rfl); (try omega); (try simpa using d1); (try simpa using d2))
      simp only [Act.put, List.setIfInBounds_toArray, List.set_cons_zero, List.set_cons_succ]
      refine wpAnyH_take (i := 12) (oi := ⟨some 103, _, _, _, _, _⟩) (v := ?v12) rfl (by kernel_rfl) (by kernel_rfl) (by kernel_rfl) (fun _ _ _ h => h) (Or.inl ⟨by kernel_rfl, ?hy12⟩) (by assumption) ?rest12
      case hy12 => (intro w9 hSw; (try dsimp only at hSw); subst hSw; (try go_simp); (try with_reducible rfl); (try omega); (try simpa using d1); (try simpa using d2))
      simp only [Act.put, List.setIfInBounds_toArray, List.set_cons_zero, List.set_cons_succ]
      refine wpAnyH_take (i := 13) (oi := ⟨some 104, _, _, _, _, _⟩) (v := ?v13) rfl (by kernel_rfl) (by kernel_rfl) (by kernel_rfl) (fun _ _ _ h => h) (Or.inl ⟨by kernel_rfl, ?hy13⟩) (by assumption) ?rest13
      case hy13 => (intro w9 hSw; (try dsimp only at hSw); subst hSw; (try go_simp); (try with_reducible rfl); (try omega); (try simpa using d1); (try simpa using d2))
      simp only [Act.put, List.setIfInBounds_toArray, List.set_cons_zero, List.set_cons_succ]
      refine wpAnyH_take (i := 14) (oi := ⟨some 105, _, _, _, _, _⟩) (v := ?v14) rfl (by kernel_rfl) (by kernel_rfl) (by kernel_rfl) (fun _ _ _ h => h) (Or.inl ⟨by kernel_rfl, ?hy14⟩) (by assumption) ?rest14
      case hy14 => (intro w9 hSw; (try dsimp only at hSw); subst hSw; (try go_simp); (try with_reducible rfl); (try omega); (try simpa using d1); (try simpa using d2))
      simp only [Act.put, List.setIfInBounds_toArray, List.set_cons_zero, List.set_cons_succ]
      refine wpAnyH_take (i := 15) (oi := ⟨some 106, _, _, _, _, _⟩) (v := ?v15) rfl (by kernel_rfl) (by kernel_rfl) (by kernel_rfl) (fun _ _ _ h => h) (Or.inl ⟨by kernel_rfl, ?hy15⟩) (by assumption) ?rest15
      case hy15 => (intro w9 hSw; (try dsimp only at hSw); subst hSw; (try go_simp); (try with_reducible rfl); (try omega); (try simpa using d1); (try simpa using d2))
      simp only [Act.put, List.setIfInBounds_toArray, List.set_cons_zero, List.set_cons_succ]
      refine wpAnyH_take (i := 16) (oi := ⟨some 107, _, _, _, _, _⟩) (v := ?v16) rfl (by kernel_rfl) (by kernel_rfl) (by kernel_rfl) (fun _ _ _ h => h) (Or.inl ⟨by kernel_rfl, ?hy16⟩) (by assumption) ?rest16
      case hy16 => (intro w9 hSw; (try dsimp only at hSw); subst hSw; (try go_simp); (try with_reducible rfl); (try omega); (try simpa using d1); (try simpa using d2))
      simp only [Act.put, List.setIfInBounds_toArray, List.set_cons_zero, List.set_cons_succ]
      refine wpAnyH_take (i := 17) (oi := ⟨some 108, _, _, _, _, _⟩) (v := .bool false) rfl (by kernel_rfl) (by kernel_rfl) (by kernel_rfl) (fun _ _ _ h => h) (Or.inl ⟨by kernel_rfl, ?hy17⟩) (by assumption) ?rest17
      case hy17 => (intro w9 hSw; (try dsimp only at hSw); subst hSw; (try go_simp); (try with_reducible rfl); (try omega); (try simpa using d1); (try simpa using d2))
      simp only [Act.put, List.setIfInBounds_toArray, List.set_cons_zero, List.set_cons_succ]
      refine wpAnyH_take (i := 18) (oi := ⟨some 109, _, _, _, _, _⟩) (v := .bool false) rfl (by kernel_rfl) (by kernel_rfl) (by kernel_rfl) (fun _ _ _ h => h) (Or.inl ⟨by kernel_rfl, ?hy18⟩) (by assumption) ?rest18
      case hy18 => (intro w9 hSw; (try dsimp only at hSw); subst hSw; (try go_simp); (try with_reducible rfl); (try omega); (try simpa using d1); (try simpa using d2))
      simp only [Act.put, List.setIfInBounds_toArray, List.set_cons_zero, List.set_cons_succ]
      refine wpAnyH_take (i := 19) (oi := ⟨some 110, _, _, _, _, _⟩) (v := .bool false) rfl (by kernel_rfl) (by kernel_rfl) (by kernel_rfl) (fun _ _ _ h => h) (Or.inl ⟨by kernel_rfl, ?hy19⟩) (by assumption) ?rest19
      case hy19 => (intro w9 hSw; (try dsimp only at hSw); subst hSw; (try go_simp); (try with_reducible rfl); (try omega); (try simpa using d1); (try simpa using d2))
      simp only [Act.put, List.setIfInBounds_toArray, List.set_cons_zero, List.set_cons_succ]
      refine wpAnyH_take (i := 20) (oi := ⟨some 111, _, _, _, _, _⟩) (v := ?v20) rfl (by kernel_rfl) (by kernel_rfl) (by kernel_rfl) (fun _ _ _ h => h) (Or.inl ⟨by kernel_rfl, ?hy20⟩) (by assumption) ?rest20
      case hy20 => (intro w9 hSw; (try dsimp only at hSw); subst hSw; (try go_simp); (try with_reducible rfl); (try omega); (try simpa using d1); (try simpa using d2))
      simp only [Act.put, List.setIfInBounds_toArray, List.set_cons_zero, List.set_cons_succ]
      refine wpAnyH_take (i := 21) (oi := ⟨some 112, _, _, _, _, _⟩) (v := ?v21) rfl (by kernel_rfl) (by kernel_rfl) (by kernel_rfl) (fun _ _ _ h => h) (Or.inl ⟨by kernel_rfl, ?hy21⟩) (by assumption) ?rest21
      case hy21 => (intro w9 hSw; (try dsimp only at hSw); subst hSw; (try go_simp); (try with_reducible rfl); (try omega); (try simpa using d1); (try simpa using d2))
      simp only [Act.put, List.setIfInBounds_toArray, List.set_cons_zero, List.set_cons_succ]
      refine wpAnyH_take (i := 22) (oi := ⟨some 113, _, _, _, _, _⟩) (v := ?v22) rfl (by kernel_rfl) (by kernel_rfl) (by kernel_rfl) (fun _ _ _ h => h) (Or.inl ⟨by kernel_rfl, ?hy22⟩) (by assumption) ?rest22
      case hy22 => (intro w9 hSw; (try dsimp only at hSw); subst hSw; (try go_simp); (try with_reducible rfl); (try omega); (try simpa using d1); (try simpa using d2))
      simp only [Act.put, List.setIfInBounds_toArray, List.set_cons_zero, List.set_cons_succ]
      refine wpAnyH_take (i := 23) (oi := ⟨some 114, _, _, _, _, _⟩) (v := ?v23) rfl (by kernel_rfl) (by kernel_rfl) (by kernel_rfl) (fun _ _ _ h => h) (Or.inl ⟨by kernel_rfl, ?hy23⟩) (by assumption) ?rest23
      case hy23 => (intro w9 hSw; (try dsimp only at hSw); subst hSw; (try go_simp); (try with_reducible rfl); (try omega); (try simpa using d1); (try simpa using d2))
      simp only [Act.put, List.setIfInBounds_toArray, List.set_cons_zero, List.set_cons_succ]
      refine wpAnyH_take (i := 24) (oi := ⟨some 115, _, _, _, _, _⟩) (v := ?v24) rfl (by kernel_rfl) (by kernel_rfl) (by kernel_rfl) (fun _ _ _ h => h) (Or.inl ⟨by kernel_rfl, ?hy24⟩) (by assumption) ?rest24
      case hy24 => (intro w9 hSw; (try dsimp only at hSw); subst hSw; (try go_simp); (try with_reducible rfl); (try omega); (try simpa using d1); (try simpa using d2))
      simp only [Act.put, List.setIfInBounds_toArray, List.set_cons_zero, List.set_cons_succ]
      refine wpAnyH_take (i := 25) (oi := ⟨some 116, _, _, _, _, _⟩) (v := ?v25) rfl (by kernel_rfl) (by kernel_rfl) (by kernel_rfl) (fun _ _ _ h => h) (Or.inl ⟨by kernel_rfl, ?hy25⟩) (by assumption) ?rest25
      case hy25 => (intro w9 hSw; (try dsimp only at hSw); subst hSw; (try go_simp); (try with_reducible rfl); (try omega); (try simpa using d1); (try simpa using d2))
      simp only [Act.put, List.setIfInBounds_toArray, List.set_cons_zero, List.set_cons_succ]
      refine wpAnyH_take (i := 26) (oi := ⟨some 117, _, _, _, _, _⟩) (v := ?v26) rfl (by kernel_rfl) (by kernel_rfl) (by kernel_rfl) (fun _ _ _ h => h) (Or.inl ⟨by kernel_rfl, ?hy26⟩) (by assumption) ?rest26
      case hy26 => (intro w9 hSw; (try dsimp only at hSw); subst hSw; (try go_simp); (try with_reducible rfl); (try omega); (try simpa using d1); (try simpa using d2))
      simp only [Act.put, List.setIfInBounds_toArray, List.set_cons_zero, List.set_cons_succ]
      refine wpAnyH_take (i := 27) (oi := ⟨some 118, _, _, _, _, _⟩) (v := ?v27) rfl (by kernel_rfl) (by kernel_rfl) (by kernel_rfl) (fun _ _ _ h => h) (Or.inl ⟨by kernel_rfl, ?hy27⟩) (by assumption) ?rest27
      case hy27 => (intro w9 hSw; (try dsimp only at hSw); subst hSw; (try go_simp); (try with_reducible rfl); (try omega); (try simpa using d1); (try simpa using d2))
      simp only [Act.put, List.setIfInBounds_toArray, List.set_cons_zero, List.set_cons_succ]
      refine wpAnyH_take (i := 28) (oi := ⟨some 119, _, _, _, _, _⟩) (v := ?v28) rfl (by kernel_rfl) (by kernel_rfl) (by kernel_rfl) (fun _ _ _ h => h) (Or.inl ⟨by kernel_rfl, ?hy28⟩) (by assumption) ?rest28
      case hy28 => (intro w9 hSw; (try dsimp only at hSw); subst hSw; (try go_simp); (try with_reducible rfl); (try omega); (try simpa using d1); (try simpa using d2))
      simp only [Act.put, List.setIfInBounds_toArray, List.set_cons_zero, List.set_cons_succ]
      refine wpAnyH_take (i := 29) (oi := ⟨some 120, _, _, _, _, _⟩) (v := ?v29) rfl (by kernel_rfl) (by kernel_rfl) (by kernel_rfl) (fun _ _ _ h => h) (Or.inl ⟨by kernel_rfl, ?hy29⟩) (by assumption) ?rest29
      case hy29 => (intro w9 hSw; (try dsimp only at hSw); subst hSw; (try go_simp); (try with_reducible rfl); (try omega); (try simpa using d1); (try simpa using d2))
      simp only [Act.put, List.setIfInBounds_toArray, List.set_cons_zero, List.set_cons_succ]
      refine wpAnyH_take (i := 30) (oi := ⟨some 121, _, _, _, _, _⟩) (v := .bool false) rfl (by kernel_rfl) (by kernel_rfl) (by kernel_rfl) (fun _ _ _ h => h) (Or.inl ⟨by kernel_rfl, ?hy30⟩) (by assumption) ?rest30
      case hy30 => (intro w9 hSw; (try dsimp only at hSw); subst hSw; (try go_simp); (try with_reducible rfl); (try omega); (try simpa using d1); (try simpa using d2))
      simp only [Act.put, List.setIfInBounds_toArray, List.set_cons_zero, List.set_cons_succ]
      refine wpAnyH_take (i := 31) (oi := ⟨some 122, _, _, _, _, _⟩) (v := .bool false) rfl (by kernel_rfl) (by kernel_rfl) (by kernel_rfl) (fun _ _ _ h => h) (Or.inl ⟨by kernel_rfl, ?hy31⟩) (by assumption) ?rest31
      case hy31 => (intro w9 hSw; (try dsimp only at hSw); subst hSw; (try go_simp); (try with_reducible rfl); (try omega); (try simpa using d1); (try simpa using d2))
      simp only [Act.put, List.setIfInBounds_toArray, List.set_cons_zero, List.set_cons_succ]
      refine wpAnyH_done (by kernel_rfl) ?_ _
      clear q1 q2 q3 j4 j5 j6 hcat tz hHeld d1 d2
      rcases RY.out with hry | ⟨u, hu, hry⟩
      · go_upto_region 15 with (first
          | (go_at_call 25
             have hz := ReadNK SDr.out hry (s := ⟨#[121]⟩) rfl
             with_reducible refine hz.mono ?_
             clear hz
             rintro e w11 ⟨rfl, hk, hs⟩
             have S11 := Lib.hid hs
             clear hs
             clear hk))
        have SD1 := Lib.hid (S11.out.go ((Kept.refl [] w11).drew))
        refine wp_region_held_drew (S := (fun w' => w' = w11.drew)) (by kernel_rfl) rfl (fun hHeld => ?_)
        refine wpAnyH_take (i := 0) (oi := ⟨some 128, _, _, _, _, _⟩) (v := ?x0) rfl (by kernel_rfl) (by kernel_rfl) (by kernel_rfl) (fun _ _ _ h => h) (Or.inl ⟨by kernel_rfl, ?hx0⟩) (by assumption) ?test0
        case hx0 => (intro w9 hSw; (try dsimp only at hSw); subst hSw; go_simp; (try with_reducible rfl))
        simp only [Act.put, List.setIfInBounds_toArray, List.set_cons_zero, List.set_cons_succ]
        refine wpAnyH_take (i := 1) (oi := ⟨some 129, _, _, _, _, _⟩) (v := ?x1) rfl (by kernel_rfl) (by kernel_rfl) (by kernel_rfl) (fun _ _ _ h => h) (Or.inl ⟨by kernel_rfl, ?hx1⟩) (by assumption) ?test1
        case hx1 => (intro w9 hSw; (try dsimp only at hSw); subst hSw; go_simp; (try with_reducible rfl))
        simp only [Act.put, List.setIfInBounds_toArray, List.set_cons_zero, List.set_cons_succ]
        refine wpAnyH_take (i := 2) (oi := ⟨some 130, _, _, _, _, _⟩) (v := undef) rfl (by kernel_rfl) (by kernel_rfl) (by kernel_rfl) (fun _ _ _ h => h) (Or.inr ⟨by kernel_rfl, rfl⟩) (by assumption) ?test2
        simp only [Act.put, List.setIfInBounds_toArray, List.set_cons_zero, List.set_cons_succ]
        refine wpAnyH_take (i := 3) (oi := ⟨some 131, _, _, _, _, _⟩) (v := undef) rfl (by kernel_rfl) (by kernel_rfl) (by kernel_rfl) (fun _ _ _ h => h) (Or.inr ⟨by kernel_rfl, rfl⟩) (by assumption) ?test3
        simp only [Act.put, List.setIfInBounds_toArray, List.set_cons_zero, List.set_cons_succ]
        refine wpAnyH_take (i := 4) (oi := ⟨some 132, _, _, _, _, _⟩) (v := undef) rfl (by kernel_rfl) (by kernel_rfl) (by kernel_rfl) (fun _ _ _ h => h) (Or.inr ⟨by kernel_rfl, rfl⟩) (by assumption) ?test4
        simp only [Act.put, List.setIfInBounds_toArray, List.set_cons_zero, List.set_cons_succ]
        refine wpAnyH_take (i := 5) (oi := ⟨some 133, _, _, _, _, _⟩) (v := undef) rfl (by kernel_rfl) (by kernel_rfl) (by kernel_rfl) (fun _ _ _ h => h) (Or.inr ⟨by kernel_rfl, rfl⟩) (by assumption) ?test5
        simp only [Act.put, List.setIfInBounds_toArray, List.set_cons_zero, List.set_cons_succ]
        refine wpAnyH_take (i := 6) (oi := ⟨some 134, _, _, _, _, _⟩) (v := undef) rfl (by kernel_rfl) (by kernel_rfl) (by kernel_rfl) (fun _ _ _ h => h) (Or.inr ⟨by kernel_rfl, rfl⟩) (by assumption) ?test6
        simp only [Act.put, List.setIfInBounds_toArray, List.set_cons_zero, List.set_cons_succ]
        refine wpAnyH_take (i := 7) (oi := ⟨some 135, _, _, _, _, _⟩) (v := undef) rfl (by kernel_rfl) (by kernel_rfl) (by kernel_rfl) (fun _ _ _ h => h) (Or.inr ⟨by kernel_rfl, rfl⟩) (by assumption) ?test7
        simp only [Act.put, List.setIfInBounds_toArray, List.set_cons_zero, List.set_cons_succ]
        refine wpAnyH_take (i := 8) (oi := ⟨some 136, _, _, _, _, _⟩) (v := undef) rfl (by kernel_rfl) (by kernel_rfl) (by kernel_rfl) (fun _ _ _ h => h) (Or.inr ⟨by kernel_rfl, rfl⟩) (by assumption) ?test8
        simp only [Act.put, List.setIfInBounds_toArray, List.set_cons_zero, List.set_cons_succ]
        refine wpAnyH_take (i := 9) (oi := ⟨some 137, _, _, _, _, _⟩) (v := undef) rfl (by kernel_rfl) (by kernel_rfl) (by kernel_rfl) (fun _ _ _ h => h) (Or.inr ⟨by kernel_rfl, rfl⟩) (by assumption) ?test9
        simp only [Act.put, List.setIfInBounds_toArray, List.set_cons_zero, List.set_cons_succ]
        refine wpAnyH_take (i := 10) (oi := ⟨some 138, _, _, _, _, _⟩) (v := undef) rfl (by kernel_rfl) (by kernel_rfl) (by kernel_rfl) (fun _ _ _ h => h) (Or.inr ⟨by kernel_rfl, rfl⟩) (by assumption) ?test10
        simp only [Act.put, List.setIfInBounds_toArray, List.set_cons_zero, List.set_cons_succ]
        refine wpAnyH_take (i := 11) (oi := ⟨some 139, _, _, _, _, _⟩) (v := undef) rfl (by kernel_rfl) (by kernel_rfl) (by kernel_rfl) (fun _ _ _ h => h) (Or.inr ⟨by kernel_rfl, rfl⟩) (by assumption) ?test11
        simp only [Act.put, List.setIfInBounds_toArray, List.set_cons_zero, List.set_cons_succ]
        refine wpAnyH_take (i := 12) (oi := ⟨some 140, _, _, _, _, _⟩) (v := undef) rfl (by kernel_rfl) (by kernel_rfl) (by kernel_rfl) (fun _ _ _ h => h) (Or.inr ⟨by kernel_rfl, rfl⟩) (by assumption) ?test12
        simp only [Act.put, List.setIfInBounds_toArray, List.set_cons_zero, List.set_cons_succ]
        refine wpAnyH_take (i := 13) (oi := ⟨some 141, _, _, _, _, _⟩) (v := undef) rfl (by kernel_rfl) (by kernel_rfl) (by kernel_rfl) (fun _ _ _ h => h) (Or.inr ⟨by kernel_rfl, rfl⟩) (by assumption) ?test13
        simp only [Act.put, List.setIfInBounds_toArray, List.set_cons_zero, List.set_cons_succ]
        refine wpAnyH_take (i := 14) (oi := ⟨some 142, _, _, _, _, _⟩) (v := undef) rfl (by kernel_rfl) (by kernel_rfl) (by kernel_rfl) (fun _ _ _ h => h) (Or.inr ⟨by kernel_rfl, rfl⟩) (by assumption) ?test14
        simp only [Act.put, List.setIfInBounds_toArray, List.set_cons_zero, List.set_cons_succ]
        refine wpAnyH_take (i := 15) (oi := ⟨some 143, _, _, _, _, _⟩) (v := undef) rfl (by kernel_rfl) (by kernel_rfl) (by kernel_rfl) (fun _ _ _ h => h) (Or.inr ⟨by kernel_rfl, rfl⟩) (by assumption) ?test15
        simp only [Act.put, List.setIfInBounds_toArray, List.set_cons_zero, List.set_cons_succ]
        refine wpAnyH_take (i := 16) (oi := ⟨some 144, _, _, _, _, _⟩) (v := undef) rfl (by kernel_rfl) (by kernel_rfl) (by kernel_rfl) (fun _ _ _ h => h) (Or.inr ⟨by kernel_rfl, rfl⟩) (by assumption) ?test16
        simp only [Act.put, List.setIfInBounds_toArray, List.set_cons_zero, List.set_cons_succ]
        refine wpAnyH_take (i := 17) (oi := ⟨some 145, _, _, _, _, _⟩) (v := ?x17) rfl (by kernel_rfl) (by kernel_rfl) (by kernel_rfl) (fun _ _ _ h => h) (Or.inl ⟨by kernel_rfl, ?hx17⟩) (by assumption) ?test17
        case hx17 => (intro w9 hSw; (try dsimp only at hSw); subst hSw; go_simp; (try with_reducible rfl))
        simp only [Act.put, List.setIfInBounds_toArray, List.set_cons_zero, List.set_cons_succ]
        refine wpAnyH_done (by kernel_rfl) ?_ _
        clear hHeld
        go_wp2_with (first
          | (go_at_call 25
             have hz := ReadNK SD1.out RX.out (s := ⟨#[120]⟩) rfl
             with_reducible refine hz.mono ?_
             clear hz
             rintro e w12 ⟨rfl, hk, hs⟩
             have S12 := Lib.hid hs
             clear hs
             clear hk))
        go_roundg (pm - (j + 1))
        case measure => omega
        case rel => exact ⟨j + 1, _, by omega, rfl, by go_num, SV1.out, S12.out⟩
      · go_upto_region 15 with (first
          | (go_at_call 25
             have hz := ReadG SDr.out hry (s := ⟨#[121]⟩) rfl
             with_reducible refine hz.mono ?_
             clear hz
             rintro e w11 ⟨A11, m11, c11, rfl, hr, hl, hs⟩
             have R11 := Lib.hid hr
             have S11 := Lib.hid hs
             clear hs
             clear hr hl))
        have hln := R11.out.len
        rw [List.length_take, Nat.min_eq_left hu] at hln
        obtain ⟨rfl, hm4, hm5, _⟩ := hln
        unfold maxLen at hm5
        have SD1 := Lib.hid (S11.out.go ((Kept.refl [] w11).drew))
        have un : u ≤ n := by rw [← Lb.out]; exact hu
        have j7 : (u : Int) ≤ (n : Int) := by omega
        have dn := BC.out
        have dn2 := dn.2.1
        unfold maxLen at dn2
        have j8 : (u : Int) ≤ (d : Int) := by omega
        have q1 := run_str (R11.out.kept ((Kept.refl [] w11).drew) (by simp))
        have q2 := run_str ((RB.out.kept SD1.out.kept (by simp)).upto u un)
        have tz := strOf_toList (b.take u)
        have d3 : decide ((n : Int) < (u : Int)) = false := decide_eq_false (by omega)
        clear dn un
        refine wp_region_held_drew (S := (fun w' => w' = w11.drew)) (by kernel_rfl) rfl (fun hHeld => ?_)
        refine wpAnyH_take (i := 0) (oi := ⟨some 128, _, _, _, _, _⟩) (v := ?y0) rfl (by kernel_rfl) (by kernel_rfl) (by kernel_rfl) (fun _ _ _ h => h) (Or.inl ⟨by kernel_rfl, ?hz0⟩) (by assumption) ?sest0
        case hz0 => (intro w9 hSw; (try dsimp only at hSw); subst hSw; (try go_simp); (try with_reducible rfl); (try omega); (try simpa using d3))
        simp only [Act.put, List.setIfInBounds_toArray, List.set_cons_zero, List.set_cons_succ]
        refine wpAnyH_take (i := 1) (oi := ⟨some 129, _, _, _, _, _⟩) (v := ?y1) rfl (by kernel_rfl) (by kernel_rfl) (by kernel_rfl) (fun _ _ _ h => h) (Or.inl ⟨by kernel_rfl, ?hz1⟩) (by assumption) ?sest1
        case hz1 => (intro w9 hSw; (try dsimp only at hSw); subst hSw; (try go_simp); (try with_reducible rfl); (try omega); (try simpa using d3))
        simp only [Act.put, List.setIfInBounds_toArray, List.set_cons_zero, List.set_cons_succ]
        refine wpAnyH_take (i := 2) (oi := ⟨some 130, _, _, _, _, _⟩) (v := ?y2) rfl (by kernel_rfl) (by kernel_rfl) (by kernel_rfl) (fun _ _ _ h => h) (Or.inl ⟨by kernel_rfl, ?hz2⟩) (by assumption) ?sest2
        case hz2 => (intro w9 hSw; (try dsimp only at hSw); subst hSw; (try go_simp); (try with_reducible rfl); (try omega); (try simpa using d3))
        simp only [Act.put, List.setIfInBounds_toArray, List.set_cons_zero, List.set_cons_succ]
        refine wpAnyH_take (i := 3) (oi := ⟨some 131, _, _, _, _, _⟩) (v := ?y3) rfl (by kernel_rfl) (by kernel_rfl) (by kernel_rfl) (fun _ _ _ h => h) (Or.inl ⟨by kernel_rfl, ?hz3⟩) (by assumption) ?sest3
        case hz3 => (intro w9 hSw; (try dsimp only at hSw); subst hSw; (try go_simp); (try with_reducible rfl); (try omega); (try simpa using d3))
        simp only [Act.put, List.setIfInBounds_toArray, List.set_cons_zero, List.set_cons_succ]
        refine wpAnyH_take (i := 4) (oi := ⟨some 132, _, _, _, _, _⟩) (v := ?y4) rfl (by kernel_rfl) (by kernel_rfl) (by kernel_rfl) (fun _ _ _ h => h) (Or.inl ⟨by kernel_rfl, ?hz4⟩) (by assumption) ?sest4
        case hz4 => (intro w9 hSw; (try dsimp only at hSw); subst hSw; (try go_simp); (try with_reducible rfl); (try omega); (try simpa using d3))
        simp only [Act.put, List.setIfInBounds_toArray, List.set_cons_zero, List.set_cons_succ]
        refine wpAnyH_take (i := 5) (oi := ⟨some 133, _, _, _, _, _⟩) (v := ?y5) rfl (by kernel_rfl) (by kernel_rfl) (by kernel_rfl) (fun _ _ _ h => h) (Or.inl ⟨by kernel_rfl, ?hz5⟩) (by assumption) ?sest5
        case hz5 => (intro w9 hSw; (try dsimp only at hSw); subst hSw; (try go_simp); (try with_reducible rfl); (try omega); (try simpa using d3))
        simp only [Act.put, List.setIfInBounds_toArray, List.set_cons_zero, List.set_cons_succ]
        refine wpAnyH_take (i := 6) (oi := ⟨some 134, _, _, _, _, _⟩) (v := .bool false) rfl (by kernel_rfl) (by kernel_rfl) (by kernel_rfl) (fun _ _ _ h => h) (Or.inl ⟨by kernel_rfl, ?hz6⟩) (by assumption) ?sest6
        case hz6 => (intro w9 hSw; (try dsimp only at hSw); subst hSw; (try go_simp); (try with_reducible rfl); (try omega); (try simpa using d3))
        simp only [Act.put, List.setIfInBounds_toArray, List.set_cons_zero, List.set_cons_succ]
        refine wpAnyH_take (i := 7) (oi := ⟨some 135, _, _, _, _, _⟩) (v := .bool false) rfl (by kernel_rfl) (by kernel_rfl) (by kernel_rfl) (fun _ _ _ h => h) (Or.inl ⟨by kernel_rfl, ?hz7⟩) (by assumption) ?sest7
        case hz7 => (intro w9 hSw; (try dsimp only at hSw); subst hSw; (try go_simp); (try with_reducible rfl); (try omega); (try simpa using d3))
        simp only [Act.put, List.setIfInBounds_toArray, List.set_cons_zero, List.set_cons_succ]
        refine wpAnyH_take (i := 8) (oi := ⟨some 136, _, _, _, _, _⟩) (v := ?y8) rfl (by kernel_rfl) (by kernel_rfl) (by kernel_rfl) (fun _ _ _ h => h) (Or.inl ⟨by kernel_rfl, ?hz8⟩) (by assumption) ?sest8
        case hz8 => (intro w9 hSw; (try dsimp only at hSw); subst hSw; (try go_simp); (try with_reducible rfl); (try omega); (try simpa using d3))
        simp only [Act.put, List.setIfInBounds_toArray, List.set_cons_zero, List.set_cons_succ]
        refine wpAnyH_take (i := 9) (oi := ⟨some 137, _, _, _, _, _⟩) (v := ?y9) rfl (by kernel_rfl) (by kernel_rfl) (by kernel_rfl) (fun _ _ _ h => h) (Or.inl ⟨by kernel_rfl, ?hz9⟩) (by assumption) ?sest9
        case hz9 => (intro w9 hSw; (try dsimp only at hSw); subst hSw; (try go_simp); (try with_reducible rfl); (try omega); (try simpa using d3))
        simp only [Act.put, List.setIfInBounds_toArray, List.set_cons_zero, List.set_cons_succ]
        refine wpAnyH_take (i := 10) (oi := ⟨some 138, _, _, _, _, _⟩) (v := ?y10) rfl (by kernel_rfl) (by kernel_rfl) (by kernel_rfl) (fun _ _ _ h => h) (Or.inl ⟨by kernel_rfl, ?hz10⟩) (by assumption) ?sest10
        case hz10 => (intro w9 hSw; (try dsimp only at hSw); subst hSw; (try go_simp); (try with_reducible rfl); (try omega); (try simpa using d3))
        simp only [Act.put, List.setIfInBounds_toArray, List.set_cons_zero, List.set_cons_succ]
        refine wpAnyH_take (i := 11) (oi := ⟨some 139, _, _, _, _, _⟩) (v := ?y11) rfl (by kernel_rfl) (by kernel_rfl) (by kernel_rfl) (fun _ _ _ h => h) (Or.inl ⟨by kernel_rfl, ?hz11⟩) (by assumption) ?sest11
        case hz11 => (intro w9 hSw; (try dsimp only at hSw); subst hSw; (try go_simp); (try with_reducible rfl); (try omega); (try simpa using d3))
        simp only [Act.put, List.setIfInBounds_toArray, List.set_cons_zero, List.set_cons_succ]
        refine wpAnyH_take (i := 12) (oi := ⟨some 140, _, _, _, _, _⟩) (v := ?y12) rfl (by kernel_rfl) (by kernel_rfl) (by kernel_rfl) (fun _ _ _ h => h) (Or.inl ⟨by kernel_rfl, ?hz12⟩) (by assumption) ?sest12
        case hz12 => (intro w9 hSw; (try dsimp only at hSw); subst hSw; (try go_simp); (try with_reducible rfl); (try omega); (try simpa using d3))
        simp only [Act.put, List.setIfInBounds_toArray, List.set_cons_zero, List.set_cons_succ]
        refine wpAnyH_take (i := 13) (oi := ⟨some 141, _, _, _, _, _⟩) (v := ?y13) rfl (by kernel_rfl) (by kernel_rfl) (by kernel_rfl) (fun _ _ _ h => h) (Or.inl ⟨by kernel_rfl, ?hz13⟩) (by assumption) ?sest13
        case hz13 => (intro w9 hSw; (try dsimp only at hSw); subst hSw; (try go_simp); (try with_reducible rfl); (try omega); (try simpa using d3))
        simp only [Act.put, List.setIfInBounds_toArray, List.set_cons_zero, List.set_cons_succ]
        refine wpAnyH_take (i := 14) (oi := ⟨some 142, _, _, _, _, _⟩) (v := ?y14) rfl (by kernel_rfl) (by kernel_rfl) (by kernel_rfl) (fun _ _ _ h => h) (Or.inl ⟨by kernel_rfl, ?hz14⟩) (by assumption) ?sest14
        case hz14 => (intro w9 hSw; (try dsimp only at hSw); subst hSw; (try go_simp); (try with_reducible rfl); (try omega); (try simpa using d3))
        simp only [Act.put, List.setIfInBounds_toArray, List.set_cons_zero, List.set_cons_succ]
        refine wpAnyH_take (i := 15) (oi := ⟨some 143, _, _, _, _, _⟩) (v := .bool false) rfl (by kernel_rfl) (by kernel_rfl) (by kernel_rfl) (fun _ _ _ h => h) (Or.inl ⟨by kernel_rfl, ?hz15⟩) (by assumption) ?sest15
        case hz15 => (intro w9 hSw; (try dsimp only at hSw); subst hSw; (try go_simp); (try with_reducible rfl); (try omega); (try simpa using d3))
        simp only [Act.put, List.setIfInBounds_toArray, List.set_cons_zero, List.set_cons_succ]
        refine wpAnyH_take (i := 16) (oi := ⟨some 144, _, _, _, _, _⟩) (v := .bool false) rfl (by kernel_rfl) (by kernel_rfl) (by kernel_rfl) (fun _ _ _ h => h) (Or.inl ⟨by kernel_rfl, ?hz16⟩) (by assumption) ?sest16
        case hz16 => (intro w9 hSw; (try dsimp only at hSw); subst hSw; (try go_simp); (try with_reducible rfl); (try omega); (try simpa using d3))
        simp only [Act.put, List.setIfInBounds_toArray, List.set_cons_zero, List.set_cons_succ]
        refine wpAnyH_take (i := 17) (oi := ⟨some 145, _, _, _, _, _⟩) (v := .bool false) rfl (by kernel_rfl) (by kernel_rfl) (by kernel_rfl) (fun _ _ _ h => h) (Or.inl ⟨by kernel_rfl, ?hz17⟩) (by assumption) ?sest17
        case hz17 => (intro w9 hSw; (try dsimp only at hSw); subst hSw; (try go_simp); (try with_reducible rfl); (try omega); (try simpa using d3))
        simp only [Act.put, List.setIfInBounds_toArray, List.set_cons_zero, List.set_cons_succ]
        refine wpAnyH_done (by kernel_rfl) ?_ _
        clear q1 q2 tz hHeld d3
        go_wp2_with (first
          | (go_at_call 25
             have hz := ReadNK SD1.out RX.out (s := ⟨#[120]⟩) rfl
             with_reducible refine hz.mono ?_
             clear hz
             rintro e w12 ⟨rfl, hk, hs⟩
             have S12 := Lib.hid hs
             clear hs
             clear hk))
        go_roundg (pm - (j + 1))
        case measure => omega
        case rel => exact ⟨j + 1, _, by omega, rfl, by go_num, SV1.out, S12.out⟩
    · obtain rfl : j = pm := by omega
      have i1 : ¬ (j : Int) < (j : Int) := by omega
      go_wp2_with (first
        | (go_at_call 13
           with_reducible refine (AW.out _).mono ?_
           rintro e wz ⟨rfl, hkz⟩
           have KZ := Lib.hid (Kept.trans SD.out.kept hkz (by simp))
           clear hkz))
      go_ret
      exact ⟨rfl, KZ.out⟩
set_option maxRecDepth 100000 in
theorem DiskSure_walk {H : Type} {enc : TypeId × Value → H} {S : Prop} (W : World) (base : Nat) (v0 : Value) (d0 : DataW H) (p0 : List MemPlace) (v1 : Value) (d1 : DataW H) (p1 : List MemPlace) (v2 : Value) (d2 : DataW H) (p2 : List MemPlace) (v3 : Value) (d3 : DataW H) (p3 : List MemPlace)
    (hv0 : Value.okWide Try.prog W .any base 28 v0) (hv1 : Value.okWide Try.prog W .any base 28 v1) (hv2 : Value.okWide Try.prog W .any base 28 v2) (hv3 : Value.okWide Try.prog W .any base 47 v3)
    (h0 : DataW.Trod enc Try.prog W 0 (fun _ => true) true 28 v0 d0 p0) (h1 : DataW.Trod enc Try.prog W 0 (fun _ => true) true 28 v1 d1 p1) (h2 : DataW.Trod enc Try.prog W 0 (fun _ => true) true 28 v2 d2 p2) (h3 : DataW.Trod enc Try.prog W 0 (fun _ => true) true 47 v3 d3 p3) (_ : S) :
    Calls Try.prog 6 #[v0, v1, v2, v3] W fun e W' => e = .returned (.bool true) ∧ Below W.heap.size W W' := by
  obtain ⟨A, m, c, a, rfl, ra⟩ := open_bytesD hv0 h0
  obtain ⟨B, n, d, b, rfl, rb⟩ := open_bytesD hv1 h1
  obtain ⟨C, r, f, x, rfl, rc⟩ := open_bytesD hv2 h2
  obtain ⟨P, pm, pc, l, rfl, rp⟩ := open_picks hv3 h3
  exact (DiskSure_walk0 W ra rb rc rp).mono fun e W' ⟨h, hk⟩ => ⟨h, hk.below (Nat.le_refl _) (by simp)⟩
end Go.Proofs.Ythdjdfdefibepaa
