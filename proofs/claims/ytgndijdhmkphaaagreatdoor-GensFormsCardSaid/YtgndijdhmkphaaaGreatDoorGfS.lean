/-
  GensForms: any backends, any text.
-/
import Derived.Test.YtgndijdhmkphaaaGreatDoorGfD
import Derived.Test.YtgndijdhmkphaaaGreatDoorGfI
import Derived.Test.YtgndijdhmkphaaaGreatDoorGfK
import Derived.Test.YtgndijdhmkphaaaGreatDoorGfM
import Derived.Test.YtgndijdhmkphaaaGreatDoorGfN
import Derived.Test.YtgndijdhmkphaaaGreatDoorGfP
import Derived.Test.YtgndijdhmkphaaaGreatDoorGfR
import Derived.Test.YtgndijdhmkphaaaGreatDoorGenW
import Derived.Test.YtgndijdhmkphaaaGreatDoorGenY
namespace Go.Proofs.YtgndijdhmkphaaaGreatDoor
set_option linter.unusedVariables false
section
open Go.RowKit Go.ChangeShapes Go.WideShapes Go.ChangeAt Go.Deep
set_option maxRecDepth 100000
set_option maxRecDepth 100000
theorem sameB9 (l : List BackD) : sameBs l l = true := sameBs_iff.2 rfl
theorem neqB_run9 (f g : BackD) (w : World) : (binOp .neq 27 (.agg #[.int .i64 f.id, .int .u32 (f.addr.toNat : Nat), .int .i64 f.weight]) (.agg #[.int .i64 g.id, .int .u32 (g.addr.toNat : Nat), .int .i64 g.weight])).run Tryz.prog w = .ok (.bool (!sameB f g)) w := by
  rw [run_neq_struct, eqB_run]; rfl
set_option maxHeartbeats 6400000 in
theorem GensForms_at (W : World) {G1 G2 G3 : List Nat} {A1 A2 A3 : Option Addr} {n1 c1 n2 c2 n3 c3 : Nat} (l m : List BackD) (id : Int) (outs : List Int) (s : List UInt8) (h1 : BkArr W G1 (.slice A1 n1 c1) l) (h2 : BkArr W G2 (.slice A2 n2 c2) m) (h3 : IntArr W G3 (.slice A3 n3 c3) outs)
    (hg1 : ∀ k ∈ G1, k < W.heap.size) (hg3 : ∀ k ∈ G3, k < W.heap.size) (hs : s.length < 9223372036854775808) (hnb : ∀ b ∈ l, numB b) (E : Env W) (mx : Int) (hmx : W.cell? ⟨0, 0, none⟩ = some (.int .i64 mx)) :
    Calls Tryz.prog 3 #[.slice A1 n1 c1, .slice A2 n2 c2, .int .i64 id, .slice A3 n3 c3, .string (strOf s)] W fun e W' => e = .returned (.bool true) ∧ Kept [] W W' := by
  obtain ⟨a1, a2, a3, a4⟩ := h1.len
  obtain ⟨b1, b2, b3, b4⟩ := h2.len
  obtain ⟨e1, e2, e3, e4⟩ := h3.lens
  unfold maxLen at a3 b3 e3
  have HL := Lib.hid (fun w' (hk : Kept [] W w') => BkArr.kept h1 hk (by simp))
  have HM := Lib.hid (fun w' (hk : Kept [] W w') => BkArr.kept h2 hk (by simp))
  have HO := Lib.hid (fun w' (hk : Kept [] W w') => IntArr.kept h3 hk (by simp))
  have HG := Lib.hid (fun w' (hk : Kept [] W w') k (hm : k ∈ G1) => Nat.lt_of_lt_of_le (hg1 k hm) hk.size)
  have HGO := Lib.hid (fun w' (hk : Kept [] W w') k (hm : k ∈ G3) => Nat.lt_of_lt_of_le (hg3 k hm) hk.size)
  have HE := Lib.hid E
  have HNB := Lib.hid hnb
  have HAW := Lib.hid (fun w' (hk : Kept [] W w') => awake13_any w' mx (m_kept hmx hk) (E.kept hk).pow)
  have HSZ := Lib.hid (strOf_size s)
  obtain ⟨ss, hss⟩ : ∃ t, strOf s = t := ⟨_, rfl⟩
  have HSS := Lib.hid hss
  obtain ⟨sl, hsl⟩ : ∃ n, ss.size = n := ⟨_, rfl⟩
  have HSL := Lib.hid (show s.length = sl by rw [← hsl, ← hss, HSZ.out])
  have hsb : sl < 9223372036854775808 := by rw [← HSL.out]; exact hs
  rw [hss]
  have O0 := Lib.hid (Blk.new W 23 #[.slice A3 n3 c3])
  have K0 := Lib.hid ((Kept.refl [] W).alloc (.cells #[.slice A3 n3 c3] 23))
  obtain ⟨ox, hox⟩ : ∃ ox, W.heap.size = ox := ⟨_, rfl⟩
  rw [hox] at O0
  clear h1 h2 h3 a1 b1 e1 a4 b4 e4 hg1 hg3 hnb E hmx hss hs
  by_cases hb1 : 60 < n1
  · have i1 : (60 : Int) < (n1 : Int) := by omega
    go_enter Tryz.func3, Tryz.ntmps3
    go_wp2_with (go_at_call 4; refine (HAW.out _ K0.out).mono ?_; rintro e w1 ⟨rfl, k1⟩; have K := Lib.hid (K0.out.trans k1 (by simp)); clear k1)
    go_ret
    exact ⟨rfl, K.out⟩
  have i1 : ¬ (60 : Int) < (n1 : Int) := by omega
  by_cases hb2 : 60 < n2
  · have i2 : (60 : Int) < (n2 : Int) := by omega
    go_enter Tryz.func3, Tryz.ntmps3
    go_wp2_with (go_at_call 4; refine (HAW.out _ K0.out).mono ?_; rintro e w1 ⟨rfl, k1⟩; have K := Lib.hid (K0.out.trans k1 (by simp)); clear k1)
    go_ret
    exact ⟨rfl, K.out⟩
  have i2 : ¬ (60 : Int) < (n2 : Int) := by omega
  by_cases hb3 : 20 < n3
  · have i3 : (20 : Int) < (n3 : Int) := by omega
    go_enter Tryz.func3, Tryz.ntmps3
    go_wp2_with (go_at_call 4; refine (HAW.out _ K0.out).mono ?_; rintro e w1 ⟨rfl, k1⟩; have K := Lib.hid (K0.out.trans k1 (by simp)); clear k1)
    go_ret
    exact ⟨rfl, K.out⟩
  have i3 : ¬ (20 : Int) < (n3 : Int) := by omega
  by_cases hb4 : 2000 < sl
  · have i4 : (2000 : Int) < (sl : Int) := by omega
    go_enter Tryz.func3, Tryz.ntmps3
    go_wp2_with (go_at_call 4; refine (HAW.out _ K0.out).mono ?_; rintro e w1 ⟨rfl, k1⟩; have K := Lib.hid (K0.out.trans k1 (by simp)); clear k1)
    go_ret
    exact ⟨rfl, K.out⟩
  have i4 : ¬ (2000 : Int) < (sl : Int) := by omega
  have HN := Lib.hid (show n1 ≤ 1099511627776 by omega)
  have HN2 := Lib.hid (show n1 ≤ 1000000 by omega)
  have HN3 := Lib.hid (show n1 ≤ 100000 by omega)
  have HN4 := Lib.hid (show n1 ≤ 1000 by omega)
  have HLS := Lib.hid (show s.length ≤ 100000 by rw [HSL.out]; omega)
  obtain ⟨tx, htx⟩ : ∃ t, strOf (textB l) = t := ⟨_, rfl⟩
  have HTX := Lib.hid htx
  have HF1 := Lib.hid (fun w' (hk : Kept [] W w') => gFind_any w' l id (HL.out _ hk))
  have HF2 := Lib.hid (fun w' (hk : Kept [] W w') => rFind_any w' l id (HL.out _ hk))
  have HP1 := Lib.hid (fun w' (hk : Kept [] W w') => gParse_any w' s HLS.out (HE.out.kept hk))
  have HP2 := Lib.hid (fun w' (hk : Kept [] W w') => rParse_any w' s HLS.out (HE.out.kept hk).pow)
  obtain ⟨fb, hfb⟩ : ∃ b, (findB l id).getD default = b := ⟨_, rfl⟩
  obtain ⟨fo, hfo⟩ : ∃ b, (findB l id).isSome = b := ⟨_, rfl⟩
  obtain ⟨po, hpo⟩ : ∃ b, (parseB s).isSome = b := ⟨_, rfl⟩
  obtain ⟨pl, hpl⟩ : ∃ b, (parseB s).getD [] = b := ⟨_, rfl⟩
  rw [hfb, hfo] at HF1 HF2
  rw [hpo, hpl, HSS.out] at HP1 HP2
  have HF1 := Lib.hid (show ∀ w', Kept [] W w' → Calls Tryz.prog 5 #[.slice A1 n1 c1, .int .i64 id] w' fun e w'' => e = .returned (.tuple #[.agg #[.int .i64 fb.id, .int .u32 (fb.addr.toNat : Nat), .int .i64 fb.weight], .bool fo]) ∧ Kept [] w' w'' from fun w' hk => (HF1.out w' hk).mono fun e w'' h9 => by
    obtain ⟨⟨b9, h1, h2⟩, h3⟩ := h9
    subst h2
    exact ⟨h1, h3⟩)
  have HF2 := Lib.hid (show ∀ w', Kept [] W w' → Calls Tryz.prog 6 #[.slice A1 n1 c1, .int .i64 id] w' fun e w'' => e = .returned (.tuple #[.agg #[.int .i64 fb.id, .int .u32 (fb.addr.toNat : Nat), .int .i64 fb.weight], .bool fo]) ∧ Kept [] w' w'' from fun w' hk => (HF2.out w' hk).mono fun e w'' h9 => by
    obtain ⟨⟨b9, h1, h2⟩, h3⟩ := h9
    subst h2
    exact ⟨h1, h3⟩)
  clear htx hfb hfo hpo hpl hb1 hb2 hb3 hb4 hsb
  go_enter Tryz.func3, Tryz.ntmps3
  go_upto_region 4 with (first
    | (go_at_call 5
       go_must (refine (HF1.out _ K0.out).mono ?_)
       go_must (rintro e w1 ⟨rfl, k1⟩)
       go_must (have K1 := Lib.hid (K0.out.trans k1 (by simp)))
       go_must (have O1 := Lib.hid (O0.out.kept k1 (by simp)))
       go_must (clear k1)))
  have P2 := Lib.hid (Blk.new w1 27 #[.int .i64 fb.id, .int .u32 (fb.addr.toNat : Nat), .int .i64 fb.weight])
  have K2 := Lib.hid (K1.out.alloc (.cells #[.int .i64 fb.id, .int .u32 (fb.addr.toNat : Nat), .int .i64 fb.weight] 27))
  have O2 := Lib.hid (O1.out.alloc (.cells #[.int .i64 fb.id, .int .u32 (fb.addr.toNat : Nat), .int .i64 fb.weight] 27))
  obtain ⟨p1, hp1⟩ : ∃ p, w1.heap.size = p := ⟨_, rfl⟩
  rw [hp1] at P2 ⊢
  generalize w1.alloc (.cells #[.int .i64 fb.id, .int .u32 (fb.addr.toNat : Nat), .int .i64 fb.weight] 27) = w2 at P2 K2 O2 ⊢
  clear hp1 K1 O1 O0
  go_upto_region 5 with (first
    | (go_at_call 6
       go_must (refine (HF2.out _ K2.out).mono ?_)
       go_must (rintro e w3 ⟨rfl, k1⟩)
       go_must (have K3 := Lib.hid (K2.out.trans k1 (by simp)))
       go_must (have O3 := Lib.hid (O2.out.kept k1 (by simp)))
       go_must (have P3 := Lib.hid (P2.out.kept k1 (by simp)))
       go_must (clear k1)))
  have Q4 := Lib.hid (Blk.new w3 27 #[.int .i64 fb.id, .int .u32 (fb.addr.toNat : Nat), .int .i64 fb.weight])
  have K4 := Lib.hid (K3.out.alloc (.cells #[.int .i64 fb.id, .int .u32 (fb.addr.toNat : Nat), .int .i64 fb.weight] 27))
  have O4 := Lib.hid (O3.out.alloc (.cells #[.int .i64 fb.id, .int .u32 (fb.addr.toNat : Nat), .int .i64 fb.weight] 27))
  have P4 := Lib.hid (P3.out.alloc (.cells #[.int .i64 fb.id, .int .u32 (fb.addr.toNat : Nat), .int .i64 fb.weight] 27))
  obtain ⟨p2, hp2⟩ : ∃ p, w3.heap.size = p := ⟨_, rfl⟩
  rw [hp2] at Q4 ⊢
  generalize w3.alloc (.cells #[.int .i64 fb.id, .int .u32 (fb.addr.toNat : Nat), .int .i64 fb.weight] 27) = w4 at P4 Q4 K4 O4 ⊢
  clear hp2 K2 O2 P2 K3 O3 P3
  go_upto_region 7 with (first
    | (go_at_call 7
       go_must (refine (HP1.out _ K4.out).mono ?_)
       go_must (rintro e w5 ⟨v5, rfl, hv⟩)
       go_must (have V5 := Lib.hid hv)
       go_must (obtain ⟨B5, m5, d5, rfl⟩ := BkV.form hv)
       go_must (have k1 := LV.kept hv)
       go_must (have K5 := Lib.hid (K4.out.trans k1 (by simp)))
       go_must (have KA5 := Lib.hid k1)
       go_must (clear hv k1))
    | (go_at_call 8
       go_must (refine (HP2.out _ K5.out).mono ?_)
       go_must (rintro e w6 ⟨v6, rfl, hv⟩)
       go_must (have V6 := Lib.hid hv)
       go_must (obtain ⟨B6, m6, d6, rfl⟩ := BkV.form hv)
       go_must (have k1 := LV.kept hv)
       go_must (have K6 := Lib.hid (K5.out.trans k1 (by simp)))
       go_must (have KA6 := Lib.hid (KA5.out.trans k1 (by simp)))
       go_must (have V5 := Lib.hid (LV.go BkOk V5.out k1))
       go_must (clear hv k1)))
  have O6 := Lib.hid (O4.out.kept KA6.out (by simp))
  have P6 := Lib.hid (P4.out.kept KA6.out (by simp))
  have Q6 := Lib.hid (Q4.out.kept KA6.out (by simp))
  clear O4 P4 Q4 K4 K5 KA5 KA6
  have hq9 := neqB_run9 fb fb
  rw [show sameB fb fb = true from sameB_iff.2 rfl] at hq9
  have hg : Tryz.prog.eqGuardType Tryz.prog.depth 27 = false := by kernel_rfl
  have hpc := P6.out.cell
  have hqc := Q6.out.cell
  have ebo : ∀ b : Bool, (b != b) = false := fun b => by simp
  go_upto_region 10 with (first
    | (go_at_call 9
       go_must (refine (rSameBs_any w6 pl pl (LV.arr BkOk V5.out).choose_spec.1 (LV.arr BkOk V6.out).choose_spec.1).mono ?_)
       go_must (rintro e wz ⟨rfl, k1⟩)
       go_must (rw [sameB9])
       go_must (have K9 := Lib.hid (K6.out.trans k1 (by simp)))
       go_must (have BO := Lib.hid (O6.out.kept k1 (by simp)))
       go_must (clear k1)))
  clear hq9 hg hpc hqc ebo HF1 HF2 HP1 HP2 V5 V6 O6 P6 Q6 K6 HLS HSZ HSL HSS
  have KD9 := Lib.hid ((Kept.refl [] wz).drew)
  refine wp_region_held_drew (S := (fun w' => w'.cell? ⟨ox, 0, none⟩ = some (.slice A3 n3 c3))) (by kernel_rfl) (BO.out.cell 0) (fun hHeld => ?_)
  refine wpAnyH_take (i := 0) (oi := ⟨some 81, _, _, _, _, _⟩) (v := ?vh1_1) rfl (by kernel_rfl) (by kernel_rfl) (by kernel_rfl) (fun _ _ _ h => h) (Or.inl ⟨by kernel_rfl, ?hyh1_1⟩) (by assumption) ?resth1_1
  case hyh1_1 => (intro w99 hSw; (try dsimp only at hSw); (try go_simp); (try with_reducible rfl); (try omega))
  simp only [Act.put, List.setIfInBounds_toArray, List.set_cons_zero, List.set_cons_succ]
  refine wpAnyH_take (i := 2) (oi := ⟨some 83, _, _, _, _, _⟩) (v := ?vh1_2) rfl (by kernel_rfl) (by kernel_rfl) (by kernel_rfl) (fun _ _ _ h => h) (Or.inl ⟨by kernel_rfl, ?hyh1_2⟩) (by assumption) ?resth1_2
  case hyh1_2 => (intro w99 hSw; (try dsimp only at hSw); (try go_simp); (try with_reducible rfl); (try omega))
  simp only [Act.put, List.setIfInBounds_toArray, List.set_cons_zero, List.set_cons_succ]
  refine wpAnyH_ready (rs := [1]) (by kernel_rfl) (by simp) ?_
  refine AllReadyH.cons (o := ⟨some 82, _, _, _, _, _⟩) rfl (fun KQ hKQ => ?w1h1_3) AllReadyH.nil
  case w1h1_3 =>
    go_simp
    go_at_call 11
    have hz := gMay_any _ l (HL.out _ (K9.out.trans KD9.out (by simp)))
    with_reducible refine hz.mono ?_
    clear hz
    rintro e w10 ⟨rfl, k1⟩
    have K10 := Lib.hid (KD9.out.trans k1 (by simp))
    clear k1
    go_wp2_with fail
    refine hKQ.out _ _ ((BO.out.kept K10.out (by simp)).cell 0) (fun hHeld9 => ?_)
    clear hKQ KQ hHeld
    have hHeld := hHeld9
    clear hHeld9
    try simp only [Act.put, List.setIfInBounds_toArray, List.set_cons_zero, List.set_cons_succ]
    refine wpAnyH_ready (rs := [3]) (by kernel_rfl) (by simp) ?_
    refine AllReadyH.cons (o := ⟨some 84, _, _, _, _, _⟩) rfl (fun KQ hKQ => ?w3h1_4) AllReadyH.nil
    case w3h1_4 =>
      go_simp
      go_at_call 12
      have hz := rMayBk_any _ l (HL.out _ (K9.out.trans K10.out (by simp)))
      with_reducible refine hz.mono ?_
      clear hz
      rintro e w11 ⟨rfl, k1⟩
      have K11 := Lib.hid (K10.out.trans k1 (by simp))
      clear k1
      go_wp2_with fail
      refine hKQ.out _ _ ((BO.out.kept K11.out (by simp)).cell 0) (fun hHeld9 => ?_)
      clear hKQ KQ hHeld
      have hHeld := hHeld9
      clear hHeld9
      try simp only [Act.put, List.setIfInBounds_toArray, List.set_cons_zero, List.set_cons_succ]
      refine wpAnyH_take (i := 4) (oi := ⟨some 85, _, _, _, _, _⟩) (v := (.bool true)) rfl (by kernel_rfl) (by kernel_rfl) (by kernel_rfl) (fun _ _ _ h => h) (Or.inl ⟨by kernel_rfl, ?hyh1_5⟩) (by assumption) ?resth1_5
      case hyh1_5 => (intro w99 hSw; (try dsimp only at hSw); (try go_simp); (try with_reducible rfl); (try omega); (try simp))
      simp only [Act.put, List.setIfInBounds_toArray, List.set_cons_zero, List.set_cons_succ]
      refine wpAnyH_take (i := 5) (oi := ⟨some 86, _, _, _, _, _⟩) (v := ?vh1_6) rfl (by kernel_rfl) (by kernel_rfl) (by kernel_rfl) (fun _ _ _ h => h) (Or.inl ⟨by kernel_rfl, ?hyh1_6⟩) (by assumption) ?resth1_6
      case hyh1_6 => (intro w99 hSw; (try dsimp only at hSw); (try go_simp); (try with_reducible rfl); (try omega))
      simp only [Act.put, List.setIfInBounds_toArray, List.set_cons_zero, List.set_cons_succ]
      refine wpAnyH_take (i := 6) (oi := ⟨some 87, _, _, _, _, _⟩) (v := ?vh1_7) rfl (by kernel_rfl) (by kernel_rfl) (by kernel_rfl) (fun _ _ _ h => h) (Or.inl ⟨by kernel_rfl, ?hyh1_7⟩) (by assumption) ?resth1_7
      case hyh1_7 => (intro w99 hSw; (try dsimp only at hSw); (try go_simp); (try with_reducible rfl); (try omega))
      simp only [Act.put, List.setIfInBounds_toArray, List.set_cons_zero, List.set_cons_succ]
      refine wpAnyH_take (i := 8) (oi := ⟨some 89, _, _, _, _, _⟩) (v := ?vh1_8) rfl (by kernel_rfl) (by kernel_rfl) (by kernel_rfl) (fun _ _ _ h => h) (Or.inl ⟨by kernel_rfl, ?hyh1_8⟩) (by assumption) ?resth1_8
      case hyh1_8 => (intro w99 hSw; (try dsimp only at hSw); (try go_simp); (try with_reducible rfl); (try omega))
      simp only [Act.put, List.setIfInBounds_toArray, List.set_cons_zero, List.set_cons_succ]
      refine wpAnyH_ready (rs := [7]) (by kernel_rfl) (by simp) ?_
      refine AllReadyH.cons (o := ⟨some 88, _, _, _, _, _⟩) rfl (fun KQ hKQ => ?w7h1_9) AllReadyH.nil
      case w7h1_9 =>
        go_simp
        go_at_call 13
        have hz := gSort_any _ l (HL.out _ (K9.out.trans K11.out (by simp))) (HG.out _ (K9.out.trans K11.out (by simp))) HN.out
        with_reducible refine hz.mono ?_
        clear hz
        rintro e w12 ⟨v, rfl, hv⟩
        have k1 := LV.kept hv
        have K12 := Lib.hid (K11.out.trans k1 (by simp))
        have V12 := Lib.hid hv
        obtain ⟨B12, m12, d12, rfl⟩ := BkV.form hv
        clear k1 hv
        go_wp2_with fail
        refine hKQ.out _ _ ((BO.out.kept K12.out (by simp)).cell 0) (fun hHeld9 => ?_)
        clear hKQ KQ hHeld
        have hHeld := hHeld9
        clear hHeld9
        try simp only [Act.put, List.setIfInBounds_toArray, List.set_cons_zero, List.set_cons_succ]
        refine wpAnyH_ready (rs := [9]) (by kernel_rfl) (by simp) ?_
        refine AllReadyH.cons (o := ⟨some 90, _, _, _, _, _⟩) rfl (fun KQ hKQ => ?w9h1_10) AllReadyH.nil
        case w9h1_10 =>
          go_simp
          go_at_call 14
          have hz := rSort_any _ l (HL.out _ (K9.out.trans K12.out (by simp))) HN2.out
          with_reducible refine hz.mono ?_
          clear hz
          rintro e w13 ⟨v, rfl, hv⟩
          have k1 := LV.kept hv
          have K13 := Lib.hid (K12.out.trans k1 (by simp))
          rw [rsort_eq] at hv
          have V13 := Lib.hid hv
          obtain ⟨B13, m13, d13, rfl⟩ := BkV.form hv
          have V12 := Lib.hid (LV.go BkOk V12.out k1)
          clear k1 hv
          go_wp2_with fail
          refine hKQ.out _ _ ((BO.out.kept K13.out (by simp)).cell 0) (fun hHeld9 => ?_)
          clear hKQ KQ hHeld
          have hHeld := hHeld9
          clear hHeld9
          try simp only [Act.put, List.setIfInBounds_toArray, List.set_cons_zero, List.set_cons_succ]
          refine wpAnyH_ready (rs := [10]) (by kernel_rfl) (by simp) ?_
          refine AllReadyH.cons (o := ⟨some 91, _, _, _, _, _⟩) rfl (fun KQ hKQ => ?w10h1_11) AllReadyH.nil
          case w10h1_11 =>
            go_simp
            go_at_call 9
            have hz := rSameBs_any w13 _ _ (LV.arr BkOk V12.out).choose_spec.1 (LV.arr BkOk V13.out).choose_spec.1
            with_reducible refine hz.mono ?_
            clear hz
            rintro e w14 ⟨rfl, k1⟩
            have K14 := Lib.hid (K13.out.trans k1 (by simp))
            rw [sameB9]
            clear k1
            go_wp2_with fail
            refine hKQ.out _ _ ((BO.out.kept K14.out (by simp)).cell 0) (fun hHeld9 => ?_)
            clear hKQ KQ hHeld
            have hHeld := hHeld9
            clear hHeld9
            try simp only [Act.put, List.setIfInBounds_toArray, List.set_cons_zero, List.set_cons_succ]
            refine wpAnyH_take (i := 11) (oi := ⟨some 92, _, _, _, _, _⟩) (v := (.bool true)) rfl (by kernel_rfl) (by kernel_rfl) (by kernel_rfl) (fun _ _ _ h => h) (Or.inl ⟨by kernel_rfl, ?hyh1_12⟩) (by assumption) ?resth1_12
            case hyh1_12 => (intro w99 hSw; (try dsimp only at hSw); (try go_simp); (try with_reducible rfl); (try omega))
            simp only [Act.put, List.setIfInBounds_toArray, List.set_cons_zero, List.set_cons_succ]
            refine wpAnyH_take (i := 12) (oi := ⟨some 93, _, _, _, _, _⟩) (v := (.bool true)) rfl (by kernel_rfl) (by kernel_rfl) (by kernel_rfl) (fun _ _ _ h => h) (Or.inl ⟨by kernel_rfl, ?hyh1_13⟩) (by assumption) ?resth1_13
            case hyh1_13 => (intro w99 hSw; (try dsimp only at hSw); (try go_simp); (try with_reducible rfl); (try omega))
            simp only [Act.put, List.setIfInBounds_toArray, List.set_cons_zero, List.set_cons_succ]
            refine wpAnyH_take (i := 13) (oi := ⟨some 94, _, _, _, _, _⟩) (v := ?vh1_14) rfl (by kernel_rfl) (by kernel_rfl) (by kernel_rfl) (fun _ _ _ h => h) (Or.inl ⟨by kernel_rfl, ?hyh1_14⟩) (by assumption) ?resth1_14
            case hyh1_14 => (intro w99 hSw; (try dsimp only at hSw); (try go_simp); (try with_reducible rfl); (try omega))
            simp only [Act.put, List.setIfInBounds_toArray, List.set_cons_zero, List.set_cons_succ]
            refine wpAnyH_take (i := 14) (oi := ⟨some 95, _, _, _, _, _⟩) (v := ?vh1_15) rfl (by kernel_rfl) (by kernel_rfl) (by kernel_rfl) (fun _ _ _ h => h) (Or.inl ⟨by kernel_rfl, ?hyh1_15⟩) (by assumption) ?resth1_15
            case hyh1_15 => (intro w99 hSw; (try dsimp only at hSw); (try go_simp); (try with_reducible rfl); (try omega))
            simp only [Act.put, List.setIfInBounds_toArray, List.set_cons_zero, List.set_cons_succ]
            refine wpAnyH_take (i := 16) (oi := ⟨some 97, _, _, _, _, _⟩) (v := ?vh1_16) rfl (by kernel_rfl) (by kernel_rfl) (by kernel_rfl) (fun _ _ _ h => h) (Or.inl ⟨by kernel_rfl, ?hyh1_16⟩) (by assumption) ?resth1_16
            case hyh1_16 => (intro w99 hSw; (try dsimp only at hSw); (try go_simp); (try with_reducible rfl); (try omega))
            simp only [Act.put, List.setIfInBounds_toArray, List.set_cons_zero, List.set_cons_succ]
            refine wpAnyH_take (i := 17) (oi := ⟨some 98, _, _, _, _, _⟩) (v := ?vh1_17) rfl (by kernel_rfl) (by kernel_rfl) (by kernel_rfl) (fun _ _ _ h => h) (Or.inl ⟨by kernel_rfl, ?hyh1_17⟩) (by assumption) ?resth1_17
            case hyh1_17 => (intro w99 hSw; (try dsimp only at hSw); (try go_simp); (try with_reducible rfl); (try omega))
            simp only [Act.put, List.setIfInBounds_toArray, List.set_cons_zero, List.set_cons_succ]
            refine wpAnyH_ready (rs := [15]) (by kernel_rfl) (by simp) ?_
            refine AllReadyH.cons (o := ⟨some 96, _, _, _, _, _⟩) rfl (fun KQ hKQ => ?w15h1_18) AllReadyH.nil
            case w15h1_18 =>
              go_simp
              go_at_call 15
              have hz := gWithoutG_any w14 l (HL.out _ (K9.out.trans K14.out (by simp))) (HG.out _ (K9.out.trans K14.out (by simp))) HN3.out outs ox ((BO.out.kept K14.out (by simp)).cell 0) (HO.out _ (K9.out.trans K14.out (by simp))) (HGO.out _ (K9.out.trans K14.out (by simp)))
              with_reducible refine hz.mono ?_
              clear hz
              rintro e w15 ⟨v, rfl, hv⟩
              have k1 := LV.kept hv
              have K15 := Lib.hid (K14.out.trans k1 (by simp))
              have V15 := Lib.hid hv
              obtain ⟨B15, m15, d15, rfl⟩ := BkV.form hv
              clear k1 hv
              go_wp2_with fail
              refine hKQ.out _ _ ((BO.out.kept K15.out (by simp)).cell 0) (fun hHeld9 => ?_)
              clear hKQ KQ hHeld
              have hHeld := hHeld9
              clear hHeld9
              try simp only [Act.put, List.setIfInBounds_toArray, List.set_cons_zero, List.set_cons_succ]
              refine wpAnyH_ready (rs := [18]) (by kernel_rfl) (by simp) ?_
              refine AllReadyH.cons (o := ⟨some 99, _, _, _, _, _⟩) rfl (fun KQ hKQ => ?w18h1_19) AllReadyH.nil
              case w18h1_19 =>
                go_simp
                go_at_call 16
                have hz := rWithout_any w15 l (HL.out _ (K9.out.trans K15.out (by simp))) HN4.out outs (HO.out _ (K9.out.trans K15.out (by simp)))
                with_reducible refine hz.mono ?_
                clear hz
                rintro e w16 ⟨v, rfl, hv⟩
                have k1 := LV.kept hv
                have K16 := Lib.hid (K15.out.trans k1 (by simp))
                have V16 := Lib.hid hv
                obtain ⟨B16, m16, d16, rfl⟩ := BkV.form hv
                have V15 := Lib.hid (LV.go BkOk V15.out k1)
                clear k1 hv
                go_wp2_with fail
                refine hKQ.out _ _ ((BO.out.kept K16.out (by simp)).cell 0) (fun hHeld9 => ?_)
                clear hKQ KQ hHeld
                have hHeld := hHeld9
                clear hHeld9
                try simp only [Act.put, List.setIfInBounds_toArray, List.set_cons_zero, List.set_cons_succ]
                refine wpAnyH_ready (rs := [19]) (by kernel_rfl) (by simp) ?_
                refine AllReadyH.cons (o := ⟨some 100, _, _, _, _, _⟩) rfl (fun KQ hKQ => ?w19h1_20) AllReadyH.nil
                case w19h1_20 =>
                  go_simp
                  go_at_call 9
                  have hz := rSameBs_any w16 _ _ (LV.arr BkOk V15.out).choose_spec.1 (LV.arr BkOk V16.out).choose_spec.1
                  with_reducible refine hz.mono ?_
                  clear hz
                  rintro e w17 ⟨rfl, k1⟩
                  have K17 := Lib.hid (K16.out.trans k1 (by simp))
                  rw [sameB9]
                  clear k1
                  go_wp2_with fail
                  refine hKQ.out _ _ ((BO.out.kept K17.out (by simp)).cell 0) (fun hHeld9 => ?_)
                  clear hKQ KQ hHeld
                  have hHeld := hHeld9
                  clear hHeld9
                  try simp only [Act.put, List.setIfInBounds_toArray, List.set_cons_zero, List.set_cons_succ]
                  refine wpAnyH_take (i := 20) (oi := ⟨some 101, _, _, _, _, _⟩) (v := (.bool true)) rfl (by kernel_rfl) (by kernel_rfl) (by kernel_rfl) (fun _ _ _ h => h) (Or.inl ⟨by kernel_rfl, ?hyh1_21⟩) (by assumption) ?resth1_21
                  case hyh1_21 => (intro w99 hSw; (try dsimp only at hSw); (try go_simp); (try with_reducible rfl); (try omega))
                  simp only [Act.put, List.setIfInBounds_toArray, List.set_cons_zero, List.set_cons_succ]
                  refine wpAnyH_take (i := 21) (oi := ⟨some 102, _, _, _, _, _⟩) (v := (.bool true)) rfl (by kernel_rfl) (by kernel_rfl) (by kernel_rfl) (fun _ _ _ h => h) (Or.inl ⟨by kernel_rfl, ?hyh1_22⟩) (by assumption) ?resth1_22
                  case hyh1_22 => (intro w99 hSw; (try dsimp only at hSw); (try go_simp); (try with_reducible rfl); (try omega))
                  simp only [Act.put, List.setIfInBounds_toArray, List.set_cons_zero, List.set_cons_succ]
                  refine wpAnyH_take (i := 22) (oi := ⟨some 103, _, _, _, _, _⟩) (v := ?vh1_23) rfl (by kernel_rfl) (by kernel_rfl) (by kernel_rfl) (fun _ _ _ h => h) (Or.inl ⟨by kernel_rfl, ?hyh1_23⟩) (by assumption) ?resth1_23
                  case hyh1_23 => (intro w99 hSw; (try dsimp only at hSw); (try go_simp); (try with_reducible rfl); (try omega))
                  simp only [Act.put, List.setIfInBounds_toArray, List.set_cons_zero, List.set_cons_succ]
                  refine wpAnyH_take (i := 24) (oi := ⟨some 105, _, _, _, _, _⟩) (v := ?vh1_24) rfl (by kernel_rfl) (by kernel_rfl) (by kernel_rfl) (fun _ _ _ h => h) (Or.inl ⟨by kernel_rfl, ?hyh1_24⟩) (by assumption) ?resth1_24
                  case hyh1_24 => (intro w99 hSw; (try dsimp only at hSw); (try go_simp); (try with_reducible rfl); (try omega))
                  simp only [Act.put, List.setIfInBounds_toArray, List.set_cons_zero, List.set_cons_succ]
                  refine wpAnyH_ready (rs := [23]) (by kernel_rfl) (by simp) ?_
                  refine AllReadyH.cons (o := ⟨some 104, _, _, _, _, _⟩) rfl (fun KQ hKQ => ?w23h1_25) AllReadyH.nil
                  case w23h1_25 =>
                    go_simp
                    go_at_call 15
                    have hz := gWithoutN_any w17 l (HL.out _ (K9.out.trans K17.out (by simp))) (HG.out _ (K9.out.trans K17.out (by simp))) HN3.out
                    with_reducible refine hz.mono ?_
                    clear hz
                    rintro e w18 ⟨v, rfl, hv⟩
                    have k1 := LV.kept hv
                    have K18 := Lib.hid (K17.out.trans k1 (by simp))
                    have V18 := Lib.hid hv
                    obtain ⟨B18, m18, d18, rfl⟩ := BkV.form hv
                    clear k1 hv
                    go_wp2_with fail
                    refine hKQ.out _ _ ((BO.out.kept K18.out (by simp)).cell 0) (fun hHeld9 => ?_)
                    clear hKQ KQ hHeld
                    have hHeld := hHeld9
                    clear hHeld9
                    try simp only [Act.put, List.setIfInBounds_toArray, List.set_cons_zero, List.set_cons_succ]
                    refine wpAnyH_ready (rs := [25]) (by kernel_rfl) (by simp) ?_
                    refine AllReadyH.cons (o := ⟨some 106, _, _, _, _, _⟩) rfl (fun KQ hKQ => ?w25h1_26) AllReadyH.nil
                    case w25h1_26 =>
                      go_simp
                      go_at_call 9
                      have hz := rSameBs_any w18 _ _ (LV.arr BkOk V18.out).choose_spec.1 (HL.out _ (K9.out.trans K18.out (by simp)))
                      with_reducible refine hz.mono ?_
                      clear hz
                      rintro e w19 ⟨rfl, k1⟩
                      have K19 := Lib.hid (K18.out.trans k1 (by simp))
                      rw [sameB9]
                      clear k1
                      go_wp2_with fail
                      refine hKQ.out _ _ ((BO.out.kept K19.out (by simp)).cell 0) (fun hHeld9 => ?_)
                      clear hKQ KQ hHeld
                      have hHeld := hHeld9
                      clear hHeld9
                      try simp only [Act.put, List.setIfInBounds_toArray, List.set_cons_zero, List.set_cons_succ]
                      refine wpAnyH_take (i := 26) (oi := ⟨some 107, _, _, _, _, _⟩) (v := (.bool true)) rfl (by kernel_rfl) (by kernel_rfl) (by kernel_rfl) (fun _ _ _ h => h) (Or.inl ⟨by kernel_rfl, ?hyh1_27⟩) (by assumption) ?resth1_27
                      case hyh1_27 => (intro w99 hSw; (try dsimp only at hSw); (try go_simp); (try with_reducible rfl); (try omega))
                      simp only [Act.put, List.setIfInBounds_toArray, List.set_cons_zero, List.set_cons_succ]
                      refine wpAnyH_take (i := 27) (oi := ⟨some 108, _, _, _, _, _⟩) (v := (.bool true)) rfl (by kernel_rfl) (by kernel_rfl) (by kernel_rfl) (fun _ _ _ h => h) (Or.inl ⟨by kernel_rfl, ?hyh1_28⟩) (by assumption) ?resth1_28
                      case hyh1_28 => (intro w99 hSw; (try dsimp only at hSw); (try go_simp); (try with_reducible rfl); (try omega))
                      simp only [Act.put, List.setIfInBounds_toArray, List.set_cons_zero, List.set_cons_succ]
                      refine wpAnyH_take (i := 28) (oi := ⟨some 109, _, _, _, _, _⟩) (v := ?vh1_29) rfl (by kernel_rfl) (by kernel_rfl) (by kernel_rfl) (fun _ _ _ h => h) (Or.inl ⟨by kernel_rfl, ?hyh1_29⟩) (by assumption) ?resth1_29
                      case hyh1_29 => (intro w99 hSw; (try dsimp only at hSw); (try go_simp); (try with_reducible rfl); (try omega))
                      simp only [Act.put, List.setIfInBounds_toArray, List.set_cons_zero, List.set_cons_succ]
                      refine wpAnyH_take (i := 29) (oi := ⟨some 110, _, _, _, _, _⟩) (v := ?vh1_30) rfl (by kernel_rfl) (by kernel_rfl) (by kernel_rfl) (fun _ _ _ h => h) (Or.inl ⟨by kernel_rfl, ?hyh1_30⟩) (by assumption) ?resth1_30
                      case hyh1_30 => (intro w99 hSw; (try dsimp only at hSw); (try go_simp); (try with_reducible rfl); (try omega))
                      simp only [Act.put, List.setIfInBounds_toArray, List.set_cons_zero, List.set_cons_succ]
                      refine wpAnyH_take (i := 31) (oi := ⟨some 112, _, _, _, _, _⟩) (v := ?vh1_31) rfl (by kernel_rfl) (by kernel_rfl) (by kernel_rfl) (fun _ _ _ h => h) (Or.inl ⟨by kernel_rfl, ?hyh1_31⟩) (by assumption) ?resth1_31
                      case hyh1_31 => (intro w99 hSw; (try dsimp only at hSw); (try go_simp); (try with_reducible rfl); (try omega))
                      simp only [Act.put, List.setIfInBounds_toArray, List.set_cons_zero, List.set_cons_succ]
                      refine wpAnyH_take (i := 32) (oi := ⟨some 113, _, _, _, _, _⟩) (v := ?vh1_32) rfl (by kernel_rfl) (by kernel_rfl) (by kernel_rfl) (fun _ _ _ h => h) (Or.inl ⟨by kernel_rfl, ?hyh1_32⟩) (by assumption) ?resth1_32
                      case hyh1_32 => (intro w99 hSw; (try dsimp only at hSw); (try go_simp); (try with_reducible rfl); (try omega))
                      simp only [Act.put, List.setIfInBounds_toArray, List.set_cons_zero, List.set_cons_succ]
                      refine wpAnyH_ready (rs := [30]) (by kernel_rfl) (by simp) ?_
                      refine AllReadyH.cons (o := ⟨some 111, _, _, _, _, _⟩) rfl (fun KQ hKQ => ?w30h1_33) AllReadyH.nil
                      case w30h1_33 =>
                        go_simp
                        go_at_call 17
                        have hz := gSame_any w19 l m (HL.out _ (K9.out.trans K19.out (by simp))) (HM.out _ (K9.out.trans K19.out (by simp)))
                        with_reducible refine hz.mono ?_
                        clear hz
                        rintro e w20 ⟨rfl, k1⟩
                        have K20 := Lib.hid (K19.out.trans k1 (by simp))
                        clear k1
                        go_wp2_with fail
                        refine hKQ.out _ _ ((BO.out.kept K20.out (by simp)).cell 0) (fun hHeld9 => ?_)
                        clear hKQ KQ hHeld
                        have hHeld := hHeld9
                        clear hHeld9
                        try simp only [Act.put, List.setIfInBounds_toArray, List.set_cons_zero, List.set_cons_succ]
                        refine wpAnyH_ready (rs := [33]) (by kernel_rfl) (by simp) ?_
                        refine AllReadyH.cons (o := ⟨some 114, _, _, _, _, _⟩) rfl (fun KQ hKQ => ?w33h1_34) AllReadyH.nil
                        case w33h1_34 =>
                          go_simp
                          go_at_call 9
                          have hz := rSameBs_any w20 l m (HL.out _ (K9.out.trans K20.out (by simp))) (HM.out _ (K9.out.trans K20.out (by simp)))
                          with_reducible refine hz.mono ?_
                          clear hz
                          rintro e w21 ⟨rfl, k1⟩
                          have K21 := Lib.hid (K20.out.trans k1 (by simp))
                          clear k1
                          go_wp2_with fail
                          refine hKQ.out _ _ ((BO.out.kept K21.out (by simp)).cell 0) (fun hHeld9 => ?_)
                          clear hKQ KQ hHeld
                          have hHeld := hHeld9
                          clear hHeld9
                          try simp only [Act.put, List.setIfInBounds_toArray, List.set_cons_zero, List.set_cons_succ]
                          refine wpAnyH_take (i := 34) (oi := ⟨some 115, _, _, _, _, _⟩) (v := (.bool true)) rfl (by kernel_rfl) (by kernel_rfl) (by kernel_rfl) (fun _ _ _ h => h) (Or.inl ⟨by kernel_rfl, ?hyh1_35⟩) (by assumption) ?resth1_35
                          case hyh1_35 => (intro w99 hSw; (try dsimp only at hSw); (try go_simp); (try with_reducible rfl); (try omega); (try simp))
                          simp only [Act.put, List.setIfInBounds_toArray, List.set_cons_zero, List.set_cons_succ]
                          refine wpAnyH_take (i := 35) (oi := ⟨some 116, _, _, _, _, _⟩) (v := (.bool true)) rfl (by kernel_rfl) (by kernel_rfl) (by kernel_rfl) (fun _ _ _ h => h) (Or.inl ⟨by kernel_rfl, ?hyh1_36⟩) (by assumption) ?resth1_36
                          case hyh1_36 => (intro w99 hSw; (try dsimp only at hSw); (try go_simp); (try with_reducible rfl); (try omega))
                          simp only [Act.put, List.setIfInBounds_toArray, List.set_cons_zero, List.set_cons_succ]
                          refine wpAnyH_take (i := 36) (oi := ⟨some 117, _, _, _, _, _⟩) (v := (.bool true)) rfl (by kernel_rfl) (by kernel_rfl) (by kernel_rfl) (fun _ _ _ h => h) (Or.inl ⟨by kernel_rfl, ?hyh1_37⟩) (by assumption) ?resth1_37
                          case hyh1_37 => (intro w99 hSw; (try dsimp only at hSw); (try go_simp); (try with_reducible rfl); (try omega))
                          simp only [Act.put, List.setIfInBounds_toArray, List.set_cons_zero, List.set_cons_succ]
                          refine wpAnyH_take (i := 37) (oi := ⟨some 118, _, _, _, _, _⟩) (v := ?vh1_38) rfl (by kernel_rfl) (by kernel_rfl) (by kernel_rfl) (fun _ _ _ h => h) (Or.inl ⟨by kernel_rfl, ?hyh1_38⟩) (by assumption) ?resth1_38
                          case hyh1_38 => (intro w99 hSw; (try dsimp only at hSw); (try go_simp); (try with_reducible rfl); (try omega))
                          simp only [Act.put, List.setIfInBounds_toArray, List.set_cons_zero, List.set_cons_succ]
                          refine wpAnyH_take (i := 39) (oi := ⟨some 120, _, _, _, _, _⟩) (v := ?vh1_39) rfl (by kernel_rfl) (by kernel_rfl) (by kernel_rfl) (fun _ _ _ h => h) (Or.inl ⟨by kernel_rfl, ?hyh1_39⟩) (by assumption) ?resth1_39
                          case hyh1_39 => (intro w99 hSw; (try dsimp only at hSw); (try go_simp); (try with_reducible rfl); (try omega))
                          simp only [Act.put, List.setIfInBounds_toArray, List.set_cons_zero, List.set_cons_succ]
                          refine wpAnyH_ready (rs := [38]) (by kernel_rfl) (by simp) ?_
                          refine AllReadyH.cons (o := ⟨some 119, _, _, _, _, _⟩) rfl (fun KQ hKQ => ?w38h1_40) AllReadyH.nil
                          case w38h1_40 =>
                            go_simp
                            go_at_call 18
                            have hz := gWeight_any w21 l (HL.out _ (K9.out.trans K21.out (by simp))) HN2.out
                            with_reducible refine hz.mono ?_
                            clear hz
                            rintro e w22 ⟨rfl, k1⟩
                            have K22 := Lib.hid (K21.out.trans k1 (by simp))
                            clear k1
                            go_wp2_with fail
                            refine hKQ.out _ _ ((BO.out.kept K22.out (by simp)).cell 0) (fun hHeld9 => ?_)
                            clear hKQ KQ hHeld
                            have hHeld := hHeld9
                            clear hHeld9
                            try simp only [Act.put, List.setIfInBounds_toArray, List.set_cons_zero, List.set_cons_succ]
                            refine wpAnyH_ready (rs := [40]) (by kernel_rfl) (by simp) ?_
                            refine AllReadyH.cons (o := ⟨some 121, _, _, _, _, _⟩) rfl (fun KQ hKQ => ?w40h1_41) AllReadyH.nil
                            case w40h1_41 =>
                              go_simp
                              go_at_call 19
                              have hz := rWeight_any w22 l (HL.out _ (K9.out.trans K22.out (by simp))) HN2.out
                              with_reducible refine hz.mono ?_
                              clear hz
                              rintro e w23 ⟨rfl, k1⟩
                              have K23 := Lib.hid (K22.out.trans k1 (by simp))
                              clear k1
                              go_wp2_with fail
                              refine hKQ.out _ _ ((BO.out.kept K23.out (by simp)).cell 0) (fun hHeld9 => ?_)
                              clear hKQ KQ hHeld
                              have hHeld := hHeld9
                              clear hHeld9
                              try simp only [Act.put, List.setIfInBounds_toArray, List.set_cons_zero, List.set_cons_succ]
                              refine wpAnyH_take (i := 41) (oi := ⟨some 122, _, _, _, _, _⟩) (v := (.bool true)) rfl (by kernel_rfl) (by kernel_rfl) (by kernel_rfl) (fun _ _ _ h => h) (Or.inl ⟨by kernel_rfl, ?hyh1_42⟩) (by assumption) ?resth1_42
                              case hyh1_42 => (intro w99 hSw; (try dsimp only at hSw); (try go_simp); (try with_reducible rfl); (try omega); (try simp))
                              simp only [Act.put, List.setIfInBounds_toArray, List.set_cons_zero, List.set_cons_succ]
                              refine wpAnyH_take (i := 42) (oi := ⟨some 123, _, _, _, _, _⟩) (v := (.bool true)) rfl (by kernel_rfl) (by kernel_rfl) (by kernel_rfl) (fun _ _ _ h => h) (Or.inl ⟨by kernel_rfl, ?hyh1_43⟩) (by assumption) ?resth1_43
                              case hyh1_43 => (intro w99 hSw; (try dsimp only at hSw); (try go_simp); (try with_reducible rfl); (try omega))
                              simp only [Act.put, List.setIfInBounds_toArray, List.set_cons_zero, List.set_cons_succ]
                              refine wpAnyH_take (i := 43) (oi := ⟨some 124, _, _, _, _, _⟩) (v := (.bool true)) rfl (by kernel_rfl) (by kernel_rfl) (by kernel_rfl) (fun _ _ _ h => h) (Or.inl ⟨by kernel_rfl, ?hyh1_44⟩) (by assumption) ?resth1_44
                              case hyh1_44 => (intro w99 hSw; (try dsimp only at hSw); (try go_simp); (try with_reducible rfl); (try omega))
                              simp only [Act.put, List.setIfInBounds_toArray, List.set_cons_zero, List.set_cons_succ]
                              refine wpAnyH_take (i := 44) (oi := ⟨some 125, _, _, _, _, _⟩) (v := ?vh1_45) rfl (by kernel_rfl) (by kernel_rfl) (by kernel_rfl) (fun _ _ _ h => h) (Or.inl ⟨by kernel_rfl, ?hyh1_45⟩) (by assumption) ?resth1_45
                              case hyh1_45 => (intro w99 hSw; (try dsimp only at hSw); (try go_simp); (try with_reducible rfl); (try omega))
                              simp only [Act.put, List.setIfInBounds_toArray, List.set_cons_zero, List.set_cons_succ]
                              refine wpAnyH_take (i := 46) (oi := ⟨some 127, _, _, _, _, _⟩) (v := ?vh1_46) rfl (by kernel_rfl) (by kernel_rfl) (by kernel_rfl) (fun _ _ _ h => h) (Or.inl ⟨by kernel_rfl, ?hyh1_46⟩) (by assumption) ?resth1_46
                              case hyh1_46 => (intro w99 hSw; (try dsimp only at hSw); (try go_simp); (try with_reducible rfl); (try omega))
                              simp only [Act.put, List.setIfInBounds_toArray, List.set_cons_zero, List.set_cons_succ]
                              refine wpAnyH_ready (rs := [45]) (by kernel_rfl) (by simp) ?_
                              refine AllReadyH.cons (o := ⟨some 126, _, _, _, _, _⟩) rfl (fun KQ hKQ => ?w45h1_47) AllReadyH.nil
                              case w45h1_47 =>
                                go_simp
                                go_at_call 20
                                have hz := gText_any w23 l (HL.out _ (K9.out.trans K23.out (by simp))) HN4.out HNB.out (HE.out.kept (K9.out.trans K23.out (by simp))).pow
                                with_reducible refine hz.mono ?_
                                clear hz
                                rintro e w24 ⟨rfl, k1⟩
                                have K24 := Lib.hid (K23.out.trans k1 (by simp))
                                rw [HTX.out]
                                clear k1
                                go_wp2_with fail
                                refine hKQ.out _ _ ((BO.out.kept K24.out (by simp)).cell 0) (fun hHeld9 => ?_)
                                clear hKQ KQ hHeld
                                have hHeld := hHeld9
                                clear hHeld9
                                try simp only [Act.put, List.setIfInBounds_toArray, List.set_cons_zero, List.set_cons_succ]
                                refine wpAnyH_ready (rs := [47]) (by kernel_rfl) (by simp) ?_
                                refine AllReadyH.cons (o := ⟨some 128, _, _, _, _, _⟩) rfl (fun KQ hKQ => ?w47h1_48) AllReadyH.nil
                                case w47h1_48 =>
                                  go_simp
                                  go_at_call 21
                                  have hz := rText_any w24 l (HL.out _ (K9.out.trans K24.out (by simp))) HNB.out HN4.out (HE.out.kept (K9.out.trans K24.out (by simp))).pow
                                  with_reducible refine hz.mono ?_
                                  clear hz
                                  rintro e w25 ⟨rfl, k1⟩
                                  have K25 := Lib.hid (K24.out.trans k1 (by simp))
                                  rw [HTX.out]
                                  clear k1
                                  go_wp2_with fail
                                  refine hKQ.out _ _ ((BO.out.kept K25.out (by simp)).cell 0) (fun hHeld9 => ?_)
                                  clear hKQ KQ hHeld
                                  have hHeld := hHeld9
                                  clear hHeld9
                                  try simp only [Act.put, List.setIfInBounds_toArray, List.set_cons_zero, List.set_cons_succ]
                                  refine wpAnyH_take (i := 48) (oi := ⟨some 129, _, _, _, _, _⟩) (v := (.bool true)) rfl (by kernel_rfl) (by kernel_rfl) (by kernel_rfl) (fun _ _ _ h => h) (Or.inl ⟨by kernel_rfl, ?hyh1_49⟩) (by assumption) ?resth1_49
                                  case hyh1_49 => (intro w99 hSw; (try dsimp only at hSw); (try go_simp); (try with_reducible rfl); (try omega); (try simp))
                                  simp only [Act.put, List.setIfInBounds_toArray, List.set_cons_zero, List.set_cons_succ]
                                  refine wpAnyH_take (i := 49) (oi := ⟨some 130, _, _, _, _, _⟩) (v := (.bool true)) rfl (by kernel_rfl) (by kernel_rfl) (by kernel_rfl) (fun _ _ _ h => h) (Or.inl ⟨by kernel_rfl, ?hyh1_50⟩) (by assumption) ?resth1_50
                                  case hyh1_50 => (intro w99 hSw; (try dsimp only at hSw); (try go_simp); (try with_reducible rfl); (try omega))
                                  simp only [Act.put, List.setIfInBounds_toArray, List.set_cons_zero, List.set_cons_succ]
                                  refine wpAnyH_take (i := 50) (oi := ⟨some 131, _, _, _, _, _⟩) (v := (.bool true)) rfl (by kernel_rfl) (by kernel_rfl) (by kernel_rfl) (fun _ _ _ h => h) (Or.inl ⟨by kernel_rfl, ?hyh1_51⟩) (by assumption) ?resth1_51
                                  case hyh1_51 => (intro w99 hSw; (try dsimp only at hSw); (try go_simp); (try with_reducible rfl); (try omega))
                                  simp only [Act.put, List.setIfInBounds_toArray, List.set_cons_zero, List.set_cons_succ]
                                  refine wpAnyH_ready (rs := [51]) (by kernel_rfl) (by simp) ?_
                                  refine AllReadyH.cons (o := ⟨some 132, _, _, _, _, _⟩) rfl (fun KQ hKQ => ?w51h1_52) AllReadyH.nil
                                  case w51h1_52 =>
                                    go_simp
                                    go_at_call 4
                                    have hz := HAW.out _ (K9.out.trans K25.out (by simp))
                                    with_reducible refine hz.mono ?_
                                    clear hz
                                    rintro e w26 ⟨rfl, k1⟩
                                    have K26 := Lib.hid (K25.out.trans k1 (by simp))
                                    clear k1
                                    go_wp2_with fail
                                    refine hKQ.out _ _ ((BO.out.kept K26.out (by simp)).cell 0) (fun hHeld9 => ?_)
                                    clear hKQ KQ hHeld
                                    have hHeld := hHeld9
                                    clear hHeld9
                                    try simp only [Act.put, List.setIfInBounds_toArray, List.set_cons_zero, List.set_cons_succ]
                                    refine wpAnyH_take (i := 52) (oi := ⟨some 133, _, _, _, _, _⟩) (v := (.bool true)) rfl (by kernel_rfl) (by kernel_rfl) (by kernel_rfl) (fun _ _ _ h => h) (Or.inl ⟨by kernel_rfl, ?hyh1_53⟩) (by assumption) ?resth1_53
                                    case hyh1_53 => (intro w99 hSw; (try dsimp only at hSw); (try go_simp); (try with_reducible rfl); (try omega))
                                    simp only [Act.put, List.setIfInBounds_toArray, List.set_cons_zero, List.set_cons_succ]
                                    refine wpAnyH_take (i := 53) (oi := ⟨some 10, _, _, _, _, _⟩) (v := ?vh1_54) rfl (by kernel_rfl) (by kernel_rfl) (by kernel_rfl) (fun _ _ _ h => h) (Or.inl ⟨by kernel_rfl, ?hyh1_54⟩) (by assumption) ?resth1_54
                                    case hyh1_54 => (intro w99 hSw; (try dsimp only at hSw); (try go_simp); (try with_reducible rfl); (try omega))
                                    simp only [Act.put, List.setIfInBounds_toArray, List.set_cons_zero, List.set_cons_succ]
                                    refine wpAnyH_done (by kernel_rfl) ?_ _
                                    clear hHeld
                                    go_wp2
                                    go_ret
                                    exact ⟨rfl, K9.out.trans K26.out (by simp)⟩
theorem GensForms_walk {H : Type} {enc : TypeId × Value → H} {S : Prop} (W : World) (base : Nat) (v0 : Value) (d0 : DataW H) (p0 : List MemPlace) (v1 : Value) (d1 : DataW H) (p1 : List MemPlace) (v2 : Value) (d2 : DataW H) (p2 : List MemPlace) (v3 : Value) (d3 : DataW H) (p3 : List MemPlace) (v4 : Value) (d4 : DataW H) (p4 : List MemPlace)
    (hv0 : Value.okWide Tryz.prog W .any base 22 v0) (hv1 : Value.okWide Tryz.prog W .any base 22 v1) (hv2 : Value.okWide Tryz.prog W .any base 3 v2) (hv3 : Value.okWide Tryz.prog W .any base 23 v3) (hv4 : Value.okWide Tryz.prog W .any base 9 v4)
    (h0 : DataW.Trod enc Tryz.prog W 0 (fun _ => true) true 22 v0 d0 p0) (h1 : DataW.Trod enc Tryz.prog W 0 (fun _ => true) true 22 v1 d1 p1) (h2 : DataW.Trod enc Tryz.prog W 0 (fun _ => true) true 3 v2 d2 p2) (h3 : DataW.Trod enc Tryz.prog W 0 (fun _ => true) true 23 v3 d3 p3) (h4 : DataW.Trod enc Tryz.prog W 0 (fun _ => true) true 9 v4 d4 p4) (_ : S) (E : Env W) (m : Int) (hm : W.cell? ⟨0, 0, none⟩ = some (.int .i64 m)) :
    Calls Tryz.prog 3 #[v0, v1, v2, v3, v4] W fun e W' => e = .returned (.bool true) ∧ Below W.heap.size W W' := by
  obtain ⟨A1, n1, c1, l1, rfl, hl1, hn1⟩ := open_listN hv0 h0
  obtain ⟨A2, n2, c2, l2, rfl, hl2, _⟩ := open_listN hv1 h1
  obtain ⟨t, rfl, _⟩ := open_i64N hv2 h2
  obtain ⟨outs, ho, _⟩ := open_ints_arr hv3 h3
  have ho' := ho
  obtain ⟨A3, n3, c3, rfl, _⟩ := ho'
  obtain ⟨s, rfl, rfl, rfl, ws⟩ := ChangeMaps.open_string Tryz.underlying9 hv4 h4
  obtain ⟨bs, rfl⟩ : ∃ bs, s = strOf bs := ⟨s.data.toList, by unfold strOf; simp⟩
  rw [strOf_size] at ws
  unfold maxLen at ws
  exact (GensForms_at W l1 l2 t outs bs hl1 hl2 ho (fun k hk => List.mem_range.1 hk) (fun k hk => List.mem_range.1 hk) (by omega) hn1 E m hm).mono fun e W' ⟨h, hk⟩ => ⟨h, hk.below (Nat.le_refl _) (by simp)⟩
end
end Go.Proofs.YtgndijdhmkphaaaGreatDoor
