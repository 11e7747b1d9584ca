
/-
  The hand-off: HandSends, its walk.
-/
import Derived.Test.YtkacghjglicjiaaGreatHsH
namespace Go.Proofs.YtkacghjglicjiaaGreat
open Go.RowKit Go.ChangeShapes Go.WideShapes Go.ChangeAt Go.Deep Go.MapKept
set_option linter.unusedVariables false

theorem send_both (V : VwD) (now : Int) : ∃ (bs : List UInt8) (n : Int), ∀ (w w' : World) (e : Ending), SendPost w V now e w' → ∃ A m c G, e = .returned (.tuple #[.slice A m c, .int .i64 n]) ∧ Kept [] w w' ∧ RdB w' G (.slice A m c) bs := by
  by_cases h : goodV V ∧ timeB now = true
  · refine ⟨strm (sentR V now), 0, fun w w' e hp => ?_⟩
    rcases hp with ⟨_, _, A, m, c, h1, h2⟩ | ⟨h1, _⟩
    · exact ⟨A, m, c, _, h1, h2.kept, h2.rd⟩
    · exact absurd h h1
  · refine ⟨[], 1, fun w w' e hp => ?_⟩
    rcases hp with ⟨h1, h2, _⟩ | ⟨_, h1, h2⟩
    · exact absurd ⟨h1, h2⟩ h
    · exact ⟨none, 0, 0, [], h1, h2, RdB.nil _ _⟩
set_option maxRecDepth 100000 in
set_option maxHeartbeats 16000000 in
theorem HandSends_walk0 (w : World) {G G' : List Nat} {A1 A2 A3 A : Option Addr} {m1 c1 m2 c2 m3 c3 m c : Nat} (V : VwD) (l : List RecD) (now : Int) (h : VA w G A1 m1 c1 A2 m2 c2 A3 m3 c3 V) (h' : RecArr w G' (.slice A m c) l) (hG : ∀ g ∈ G', g < w.heap.size) :
    Calls Tryz.prog 3 #[.agg #[.int .i64 V.gen, .slice A1 m1 c1, .slice A2 m2 c2, .slice A3 m3 c3], .slice A m c, .int .i64 now] w fun e w' => e = .returned (.bool true) ∧ Kept [] w w' := by
  have l1 := h.bk.len.1
  have l2 := (show V.drains.length = m2 from by obtain ⟨_, _, _, e, q, _⟩ := h.dr; injection e with e1 e2 e3; subst e2; exact q)
  have l3 := (show V.flows.length = m3 from by obtain ⟨_, _, _, e, q, _⟩ := h.fl; injection e with e1 e2 e3; subst e2; exact q)
  have HV := Lib.hid h
  have HR := Lib.hid h'
  have HG := Lib.hid hG
  have AW := Lib.hid (fun w' => awake24_any w')
  have X0 := Lib.hid (Blk.new w 26 #[.int .i64 V.gen, .slice A1 m1 c1, .slice A2 m2 c2, .slice A3 m3 c3])
  have K0 := Lib.hid ((Kept.refl [] w).alloc (.cells #[.int .i64 V.gen, .slice A1 m1 c1, .slice A2 m2 c2, .slice A3 m3 c3] 26))
  clear h h' hG
  go_enter Tryz.func3, Tryz.ntmps3
  go_upto_region 1 with fail
  obtain ⟨w1, hw1⟩ : ∃ w1, w.alloc (.cells #[.int .i64 V.gen, .slice A1 m1 c1, .slice A2 m2 c2, .slice A3 m3 c3] 26) = w1 := ⟨_, rfl⟩
  rw [hw1] at X0 K0
  simp only [hw1]
  have X1 := X0
  have K1 := K0
  clear hw1 X0 K0
  have hx1 := X1.out.cell
  by_cases hgo : m3 ≤ 300 ∧ m1 ≤ 40 ∧ m2 ≤ 60
  rotate_left
  · have hways : (300 : Int) < (m3 : Int) ∨ (¬ (300 : Int) < (m3 : Int) ∧ (40 : Int) < (m1 : Int)) ∨ (¬ (300 : Int) < (m3 : Int) ∧ ¬ (40 : Int) < (m1 : Int) ∧ (60 : Int) < (m2 : Int)) := by omega
    clear hgo l1 l2 l3
    rcases hways with i1 | ⟨i1, i2⟩ | ⟨i1, i2, i3⟩
    all_goals
      go_wp2_with (first
        | (go_at_call 8
           refine (AW.out _).mono ?_
           rintro e wy ⟨rfl, hky⟩
           have KY := Lib.hid (K1.out.trans hky (by simp))
           clear hky))
      go_ret
      exact ⟨rfl, KY.out⟩
  have i1 : ¬ (300 : Int) < (m3 : Int) := by omega
  have i2 : ¬ (40 : Int) < (m1 : Int) := by omega
  have i3 : ¬ (60 : Int) < (m2 : Int) := by omega
  have LV1 := Lib.hid (show V.drains.length ≤ 1000 ∧ V.flows.length ≤ 1000 ∧ V.backs.length ≤ 1000 by omega)
  clear hgo l1 l2 l3
  obtain ⟨S, ok, okf, iv⟩ := made_ok l
  obtain ⟨V2, hV⟩ : ∃ V, madeV l = V := ⟨_, rfl⟩
  rw [hV] at iv
  have HV2 := Lib.hid hV
  have LV2 := Lib.hid (show V2.drains.length ≤ 1000 ∧ V2.flows.length ≤ 1000 ∧ V2.backs.length ≤ 1000 by have := iv.lens ok; omega)
  obtain ⟨bs1, n1, sb1⟩ := send_both V now
  obtain ⟨bs2, n2, sb2⟩ := send_both V2 now
  have SB1 := Lib.hid sb1
  have SB2 := Lib.hid sb2
  clear hV ok okf iv sb1 sb2
  go_upto_region 3 with fail
  have MD := Lib.hid (fun (w' : World) (hk : Kept [] w1 w') => show Calls Tryz.prog 9 #[.slice A m c] w' fun e w2 => ∃ B1 n1 d1 B2 n2 d2 B3 n3 d3 G2, e = .returned (.agg #[.int .i64 V2.gen, .slice B1 n1 d1, .slice B2 n2 d2, .slice B3 n3 d3]) ∧ VA w2 G2 B1 n1 d1 B2 n2 d2 B3 n3 d3 V2 ∧ Kept [] w1 w2 ∧ (∀ o, w2.cell? ⟨w.heap.size, o, none⟩ = (#[.int .i64 V.gen, .slice A1 m1 c1, .slice A2 m2 c2, .slice A3 m3 c3] : Array Value)[o]?) from by
    refine (Made_any w' l (RecArr.kept HR.out (K1.out.trans hk (by simp)) (by simp)) (fun g hg => Nat.lt_of_lt_of_le (HG.out g hg) (K1.out.trans hk (by simp)).size)).mono ?_
    rintro e w2 ⟨B1, n1, d1, B2, n2, d2, B3, n3, d3, G2, rfl, hva, hk2⟩
    rw [HV2.out] at hva ⊢
    exact ⟨B1, n1, d1, B2, n2, d2, B3, n3, d3, G2, rfl, hva, hk.trans hk2 (by simp), (X1.out.kept (hk.trans hk2 (by simp)) (by simp)).cell⟩)
  have KA : Hid (Kept [] w1 w1.drew) := Lib.hid ((Kept.refl [] w1).drew)
  go_cut [33, 34] (fun v u wx => ∃ B1 n1 d1 B2 n2 d2 B3 n3 d3 G2, u = .int .i64 0 ∧ v = .agg #[.int .i64 V.gen, .slice A1 m1 c1, .slice A2 m2 c2, .slice A3 m3 c3, .int .i64 V2.gen, .slice B1 n1 d1, .slice B2 n2 d2, .slice B3 n3 d3] ∧ VA wx G2 B1 n1 d1 B2 n2 d2 B3 n3 d3 V2 ∧ Kept [] w1 wx)
  case first =>
    go_region_law ((first
      | (go_simp
         go_at_call 9
         with_reducible refine (MD.out w1.drew KA.out).mono ?_
         go_must (rintro e w3 ⟨B1, n1, d1, B2, n2, d2, B3, n3, d3, G2, rfl, hv3, hk3, hp3⟩)
         go_must (have Hk3 := Lib.hid hk3)
         go_must (have Hv3 := Lib.hid hv3)
         clear hk3 hv3)))
    all_goals
      go_wp2_with fail
      go_meet
      show ∃ B1 n1 d1 B2 n2 d2 B3 n3 d3 G2, _ ∧ _
      exact ⟨_, _, _, _, _, _, _, _, _, _, rfl, rfl, Hv3.out, Hk3.out⟩
  case rest =>
    obtain ⟨B1, q1, d1, B2, q2, d2, B3, q3, d3, G2, rfl, rfl, hvb, hkw⟩ := hcut
    clear hx1
    have VB := Lib.hid hvb
    have K4 := Lib.hid (K1.out.trans hkw (by simp))
    have VA4 := Lib.hid ((HV.out.go K1.out).go hkw)
    clear hvb hkw MD KA
    have i2_0 := idxS_0
    have i2_1 := idxS_1
    go_wp2
    go_loopg [34] 2 (fun gg i wr => ∃ k : Nat, k ≤ 2 ∧ gg = 2 - k ∧ i = .int .i64 k ∧ Kept [] wc wr)
    case atStart => exact ⟨0, by omega, by omega, rfl, Kept.refl _ _⟩
    case round =>
      obtain ⟨k, hk, rfl, rfl, hkw⟩ := hrel
      have KW := Lib.hid hkw
      clear hkw
      have hk3 : k = 0 ∨ k = 1 ∨ k = 2 := by omega
      rcases hk3 with rfl | rfl | rfl
      · go_wp2_with (first
          | (((with_reducible show wpList _ _ _ ({ dst := none, op := Op.store 26 (.tmp 8) (.tmp 36), type := _, pos := _, after := _, guard := _ } :: _) _ _); refine wpList_put (t := 26) rfl 26 (.tmp 8) (.tmp 36) rfl _ (by rfl) (by rfl) (by (repeat (first | (apply Blk.new'; simp; done) | apply Blk.alloc | apply Blk.drew))) (by rfl) (by kernel_rfl) (by simp [Value.oneCell']) ?_; intro w5 hb5 hk5; have Hb5 := Lib.hid hb5; have Hk5 := Lib.hid hk5; clear hb5 hk5)
             have hk5 : Kept [] wr w5 := ((Kept.refl [] wr).alloc _).trans Hk5.out (fun i hi => .inr (by simp at hi; omega))
             have K5 := Lib.hid (KW.out.trans hk5 (by simp))
             have hx5 := Hb5.out.cell
             clear hk5)
          | (go_at_call 10
             with_reducible refine (Send_any w5 V now (VA4.out.go K5.out) LV1.out.1 LV1.out.2.1 LV1.out.2.2).mono ?_
             rintro e w6 hpost
             obtain ⟨D1, p1, r1, G5, rfl, hk6, hr6⟩ := SB1.out _ _ _ hpost
             have K6 := Lib.hid (K5.out.trans hk6 (by simp))
             have R6 := Lib.hid hr6
             have hx6 := (Hb5.out.kept hk6 (by simp)).cell
             clear hpost hk6 hr6 hx5)
          | (go_at_call 11
             with_reducible refine (rSend_any w6 V now (VA4.out.go K6.out) LV1.out.1 LV1.out.2.1 LV1.out.2.2).mono ?_
             rintro e w7 hpost
             obtain ⟨D2, p2, r2, G6, rfl, hk7, hr7⟩ := SB1.out _ _ _ hpost
             have K7 := Lib.hid (K6.out.trans hk7 (by simp))
             have q1' := run_str (R6.out.kept hk7 (by simp))
             have q2' := run_str hr7
             clear hpost hk7 hr7 hx6))
        go_roundg (2 - (0 + 1))
        case measure => omega
        case rel => exact ⟨0 + 1, by omega, rfl, by go_num, K7.out⟩
      · go_wp2_with (first
          | (((with_reducible show wpList _ _ _ ({ dst := none, op := Op.store 26 (.tmp 8) (.tmp 36), type := _, pos := _, after := _, guard := _ } :: _) _ _); refine wpList_put (t := 26) rfl 26 (.tmp 8) (.tmp 36) rfl _ (by rfl) (by rfl) (by (repeat (first | (apply Blk.new'; simp; done) | apply Blk.alloc | apply Blk.drew))) (by rfl) (by kernel_rfl) (by simp [Value.oneCell']) ?_; intro w5 hb5 hk5; have Hb5 := Lib.hid hb5; have Hk5 := Lib.hid hk5; clear hb5 hk5)
             have hk5 : Kept [] wr w5 := ((Kept.refl [] wr).alloc _).trans Hk5.out (fun i hi => .inr (by simp at hi; omega))
             have K5 := Lib.hid (KW.out.trans hk5 (by simp))
             have hx5 := Hb5.out.cell
             clear hk5)
          | (go_at_call 10
             with_reducible refine (Send_any w5 V2 now (VB.out.go K5.out) LV2.out.1 LV2.out.2.1 LV2.out.2.2).mono ?_
             rintro e w6 hpost
             obtain ⟨D1, p1, r1, G5, rfl, hk6, hr6⟩ := SB2.out _ _ _ hpost
             have K6 := Lib.hid (K5.out.trans hk6 (by simp))
             have R6 := Lib.hid hr6
             have hx6 := (Hb5.out.kept hk6 (by simp)).cell
             clear hpost hk6 hr6 hx5)
          | (go_at_call 11
             with_reducible refine (rSend_any w6 V2 now (VB.out.go K6.out) LV2.out.1 LV2.out.2.1 LV2.out.2.2).mono ?_
             rintro e w7 hpost
             obtain ⟨D2, p2, r2, G6, rfl, hk7, hr7⟩ := SB2.out _ _ _ hpost
             have K7 := Lib.hid (K6.out.trans hk7 (by simp))
             have q1' := run_str (R6.out.kept hk7 (by simp))
             have q2' := run_str hr7
             clear hpost hk7 hr7 hx6))
        go_roundg (2 - (1 + 1))
        case measure => omega
        case rel => exact ⟨1 + 1, by omega, rfl, by go_num, K7.out⟩
      · go_wp2_with (first
          | (go_at_call 8
             refine (AW.out _).mono ?_
             rintro e wy ⟨rfl, hky⟩
             have KY := Lib.hid ((K4.out.trans KW.out (by simp)).trans hky (by simp))
             clear hky))
        go_ret
        exact ⟨rfl, KY.out⟩
set_option maxRecDepth 100000 in
theorem HandSends_walk {H : Type} {enc : TypeId × Value → H} {S : Prop} (W : World) (base : Nat) (v0 : Value) (d0 : DataW H) (p0 : List MemPlace) (v1 : Value) (d1 : DataW H) (p1 : List MemPlace) (v2 : Value) (d2 : DataW H) (p2 : List MemPlace)
    (hv0 : Value.okWide Tryz.prog W .any base 26 v0) (hv1 : Value.okWide Tryz.prog W .any base 27 v1) (hv2 : Value.okWide Tryz.prog W .any base 2 v2)
    (h0 : DataW.Trod enc Tryz.prog W 0 (fun _ => true) true 26 v0 d0 p0) (h1 : DataW.Trod enc Tryz.prog W 0 (fun _ => true) true 27 v1 d1 p1) (h2 : DataW.Trod enc Tryz.prog W 0 (fun _ => true) true 2 v2 d2 p2) (_ : S) :
    Calls Tryz.prog 3 #[v0, v1, v2] W fun e W' => e = .returned (.bool true) ∧ Below W.heap.size W W' := by
  obtain ⟨V, A1, m1, c1, A2, m2, c2, A3, m3, c3, rfl, hV⟩ := open_state hv0 h0
  obtain ⟨A, m, c, l, rfl, hl⟩ := open_records hv1 h1
  obtain ⟨a, rfl, rfl, rfl, _⟩ := open_int Tryz.underlying2 hv2 h2
  exact (HandSends_walk0 W V l a hV hl (fun g hg => List.mem_range.1 hg)).mono fun e W' ⟨h, hk⟩ => ⟨h, hk.below (Nat.le_refl _) (by simp)⟩
end Go.Proofs.YtkacghjglicjiaaGreat
