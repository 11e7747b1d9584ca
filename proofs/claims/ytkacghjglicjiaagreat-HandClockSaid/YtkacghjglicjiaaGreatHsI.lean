
/-
  The hand-off: HandClock, its walk.
-/
import Derived.Test.YtkacghjglicjiaaGreatHsH
namespace Go.Proofs.YtkacghjglicjiaaGreat
open Go.RowKit Go.ChangeShapes Go.WideShapes Go.ChangeAt Go.Deep Go.MapKept
set_option linter.unusedVariables false

set_option maxRecDepth 100000 in
set_option maxHeartbeats 16000000 in
theorem HandClock_walk0 (w : World) {G : List Nat} {A : Option Addr} {m c : Nat} (l : List RecD) (a b : Int) (h : RecArr w G (.slice A m c) l) (hG : ∀ g ∈ G, g < w.heap.size) :
    Calls Tryz.prog 7 #[.slice A m c, .int .i64 a, .int .i64 b] w fun e w' => e = .returned (.bool true) ∧ Kept [] w w' := by
  obtain ⟨a1, a2, a3, a4⟩ := h.len
  have H := Lib.hid h
  have HG := Lib.hid hG
  have L1 := Lib.hid a1
  clear h a1 a4 hG
  unfold maxLen at a3
  have AW := Lib.hid (fun w' => awake24_any w')
  by_cases hgo : m ≤ 60 ∧ timeB a = true ∧ timeB b = true
  rotate_left
  · have hways : 60 < m ∨ (m ≤ 60 ∧ timeB a = false) ∨ (m ≤ 60 ∧ timeB a = true ∧ timeB b = false) := by
      rcases Nat.lt_or_ge 60 m with h1 | h1
      · exact .inl h1
      · cases h2 : timeB a
        · exact .inr (.inl ⟨h1, rfl⟩)
        · cases h3 : timeB b
          · exact .inr (.inr ⟨h1, rfl, rfl⟩)
          · exact absurd ⟨h1, h2, h3⟩ hgo
    clear hgo
    rcases hways with i1 | ⟨i1, i2⟩ | ⟨i1, i2, i3⟩
    · have i60 : (60 : Int) < (m : Int) := by omega
      go_enter Tryz.func7, Tryz.ntmps7
      go_wp2_with (first
        | (go_at_call 8
           refine (AW.out _).mono ?_
           rintro e wy ⟨rfl, hky⟩
           have KY := Lib.hid hky
           clear hky))
      go_ret
      exact ⟨rfl, KY.out⟩
    · have i60 : ¬ (60 : Int) < (m : Int) := by omega
      have HA := Lib.hid i2
      clear i2
      go_enter Tryz.func7, Tryz.ntmps7
      go_wp2_with (first
        | (go_at_call 18
           with_reducible refine (rTime_any _ a).mono ?_
           rintro e wx ⟨rfl, rfl⟩
           rw [HA.out])
        | (go_at_call 8
           refine (AW.out _).mono ?_
           rintro e wy ⟨rfl, hky⟩
           have KY := Lib.hid hky
           clear hky))
      go_ret
      exact ⟨rfl, KY.out⟩
    · have i60 : ¬ (60 : Int) < (m : Int) := by omega
      have HA := Lib.hid i2
      have HB := Lib.hid i3
      clear i2 i3
      go_enter Tryz.func7, Tryz.ntmps7
      go_wp2_with (first
        | (go_at_call 18
           with_reducible refine (rTime_any _ a).mono ?_
           rintro e wx ⟨rfl, rfl⟩
           rw [HA.out])
        | (go_at_call 18
           with_reducible refine (rTime_any _ b).mono ?_
           rintro e wx ⟨rfl, rfl⟩
           rw [HB.out])
        | (go_at_call 8
           refine (AW.out _).mono ?_
           rintro e wy ⟨rfl, hky⟩
           have KY := Lib.hid hky
           clear hky))
      go_ret
      exact ⟨rfl, KY.out⟩
  obtain ⟨hm, i2, i3⟩ := hgo
  have i60 : ¬ (60 : Int) < (m : Int) := by omega
  have HA := Lib.hid i2
  have HB := Lib.hid i3
  clear i2 i3
  obtain ⟨S, ok, okf, iv⟩ := made_ok (l ++ [rDr (65535, b)])
  obtain ⟨V, hV⟩ : ∃ V, madeV (l ++ [rDr (65535, b)]) = V := ⟨_, rfl⟩
  rw [hV] at iv
  have HV := Lib.hid hV
  have LN := Lib.hid (iv.lens ok)
  have GV := Lib.hid (good_view ok okf iv)
  have RV := Lib.hid (send_recv ok okf iv HA.out)
  have SL := Lib.hid (sent_le ok okf iv HA.out)
  clear hV
  go_enter Tryz.func7, Tryz.ntmps7
  go_upto_region 3 with (first
    | (go_at_call 18
       with_reducible refine (rTime_any _ a).mono ?_
       rintro e wx ⟨rfl, rfl⟩
       rw [HA.out])
    | (go_at_call 18
       with_reducible refine (rTime_any _ b).mono ?_
       rintro e wx ⟨rfl, rfl⟩
       rw [HB.out]))
  obtain ⟨bs, hbs⟩ : ∃ x, strm (sentR V a) = x := ⟨_, rfl⟩
  have HBS := Lib.hid hbs
  rw [hbs] at RV SL
  clear hbs
  go_upto_region 5 with (first
    | (at_builtin
       apply wpList_recs rfl (.const (.slice none 0 0)) (.tmp 29) rfl
       case hs => exact rfl
       case hx => exact rfl
       case h => exact H.out
       case hG => exact HG.out
       case hl => exact (by rw [L1.out]; omega)
       intro B1 n1 d1 w1 hR1
       have R1 := Lib.hid hR1
       clear hR1)
    | (at_builtin
       have hR2 := R1.out.go RecOk ((Kept.refl [] w1).alloc (.cells #[.int .i64 (rDr (65535, b)).kind, .int .u32 ((rDr (65535, b)).tup.src.toNat : Nat), .int .u32 ((rDr (65535, b)).tup.dst.toNat : Nat), .int .i64 (rDr (65535, b)).tup.proto, .int .i64 (rDr (65535, b)).tup.sport, .int .i64 (rDr (65535, b)).tup.dport, .int .i64 (rDr (65535, b)).fb, .int .i64 (rDr (65535, b)).fg, .int .i64 (rDr (65535, b)).fs, .int .i64 (rDr (65535, b)).gen, .slice none 0 0, .int .i64 (rDr (65535, b)).back, .int .i64 (rDr (65535, b)).until_, .int .i64 (rDr (65535, b)).count] 43))
       apply wpList_recw (r := rDr (65535, b)) rfl (.tmp 30) (.tmp 33) rfl
       case hs => exact rfl
       case hN => exact hR2
       case hx => exact rfl
       case hb => exact Blk.new _ _ _
       case hr => exact rfl
       case hl => exact (by rw [L1.out]; omega)
       intro B2 n2 d2 w2 hR3
       have R2 := Lib.hid hR3
       clear hR2 hR3)
    | (go_at_call 9
       obtain ⟨G2, har, hgr⟩ := LV.arr RecOk R2.out
       refine (Made_any _ (l ++ [rDr (65535, b)]) har hgr).mono ?_
       rintro e w3 ⟨A1, m1, c1, A2, m2, c2, A3, m3, c3, G3, rfl, hva, hk3⟩
       rw [HV.out] at hva ⊢
       have VA3 := Lib.hid hva
       have K3 := Lib.hid ((LV.kept R2.out).trans hk3 (by simp))
       clear hva hk3 har hgr)
    | (((with_reducible show wpList _ _ _ ({ dst := none, op := Op.store 26 (.tmp 7) (.tmp 35), type := _, pos := _, after := _, guard := _ } :: _) _ _); refine wpList_put (t := 26) rfl 26 (.tmp 7) (.tmp 35) rfl _ (by rfl) (by rfl) (by (repeat (first | (apply Blk.new'; simp; done) | apply Blk.alloc | apply Blk.drew))) (by rfl) (by kernel_rfl) (by simp [Value.oneCell']) ?_; intro w4 hb4 hk4; have Hb4 := Lib.hid hb4; have Hk4 := Lib.hid hk4; clear hb4 hk4)
       have hk4 : Kept [] w3 w4 := ((Kept.refl [] w3).alloc _).trans Hk4.out (fun i hi => .inr (by simp at hi; omega))
       have K4 := Lib.hid (K3.out.trans hk4 (by simp))
       have VA4 := Lib.hid (VA3.out.go hk4)
       have hx4 := Hb4.out.cell
       clear hk4)
    | (go_at_call 10
       with_reducible refine (Send_any _ V a VA4.out (by have := LN.out; omega) (by have := LN.out; omega) (by have := LN.out; omega)).mono ?_
       rintro e w5 hpost
       obtain ⟨D1, p1, q1, rfl, hn⟩ := send_known hpost GV.out HA.out
       rw [HBS.out] at hn
       have NB5 := Lib.hid hn
       have K5 := Lib.hid (K4.out.trans hn.kept (by simp))
       have VA5 := Lib.hid (VA4.out.go hn.kept)
       have X5 := Lib.hid (Hb4.out.kept hn.kept (by simp))
       clear hpost hn hx4))
  go_upto_region 7 with (first
    | (go_at_call 15
       refine (Receive_any _ bs NB5.out.rd (by have := NB5.out.rd.len.1; have := SL.out; omega)).mono ?_
       rintro e w6 hpost
       obtain ⟨hk6, E1, f1, g1, E2, f2, g2, E3, f3, g3, G6, rfl, hva⟩ := recv_known hpost RV.out
       have VB6 := Lib.hid hva
       have K6 := Lib.hid (K5.out.trans hk6 (by simp))
       have VA6 := Lib.hid (VA5.out.go hk6)
       have X6 := Lib.hid (X5.out.kept hk6 (by simp))
       clear hpost hk6 hva)
    | (((with_reducible show wpList _ _ _ ({ dst := none, op := Op.store 26 (.tmp 10) (.tmp 45), type := _, pos := _, after := _, guard := _ } :: _) _ _); refine wpList_put (t := 26) rfl 26 (.tmp 10) (.tmp 45) rfl _ (by rfl) (by rfl) (by (repeat (first | (apply Blk.new'; simp; done) | apply Blk.alloc | apply Blk.drew))) (by rfl) (by kernel_rfl) (by simp [Value.oneCell']) ?_; intro w7 hb7 hk7; have Hb7 := Lib.hid hb7; have Hk7 := Lib.hid hk7; clear hb7 hk7)
       have hk7 : Kept [] w6 w7 := ((Kept.refl [] w6).alloc _).trans Hk7.out (fun i hi => .inr (by simp at hi; omega))
       have K7 := Lib.hid (K6.out.trans hk7 (by simp))
       have VA7 := Lib.hid (VA6.out.go hk7)
       have VB7 := Lib.hid (VB6.out.go hk7)
       have X7 := Lib.hid (X6.out.kept hk7 (by simp))
       have hx7 := X7.out.cell
       clear hk7)
    | (go_at_call 10
       with_reducible refine (Send_any _ V (-1) VA7.out (by have := LN.out; omega) (by have := LN.out; omega) (by have := LN.out; omega)).mono ?_
       rintro e w8 hpost
       obtain ⟨rfl, hk8⟩ : e = .returned (.tuple #[.slice none 0 0, .int .i64 1]) ∧ Kept [] w7 w8 := by
         rcases hpost with ⟨_, h2, _⟩ | ⟨_, h2, h3⟩
         · exact absurd h2 (by decide)
         · exact ⟨h2, h3⟩
       have K8 := Lib.hid (K7.out.trans hk8 (by simp))
       have VA8 := Lib.hid (VA7.out.go hk8)
       have VB8 := Lib.hid (VB7.out.go hk8)
       have X8 := Lib.hid (X7.out.kept hk8 (by simp))
       have Y8 := Lib.hid (Hb7.out.kept hk8 (by simp))
       clear hpost hk8 hx7))
  have hx8 := X8.out.cell
  have hy8 := Y8.out.cell
  have SS := Lib.hid (sameV_self V)
  go_wp2_with (first
    | (go_at_call 17
       refine (rSameState_any _ V V VB8.out VA8.out).mono ?_
       rintro e w9 ⟨rfl, hk9⟩
       rw [SS.out]
       have K9 := Lib.hid (K8.out.trans hk9 (by simp))
       clear hk9)
    | (go_at_call 8
       refine (AW.out _).mono ?_
       rintro e wy ⟨rfl, hky⟩
       have KY := Lib.hid (K9.out.trans hky (by simp))
       clear hky))
  go_ret
  exact ⟨rfl, KY.out⟩
set_option maxRecDepth 100000 in
theorem HandClock_walk {H : Type} {enc : TypeId × Value → H} {S : Prop} (W : World) (base : Nat) (v0 : Value) (d0 : DataW H) (p0 : List MemPlace) (v1 : Value) (d1 : DataW H) (p1 : List MemPlace) (v2 : Value) (d2 : DataW H) (p2 : List MemPlace)
    (hv0 : Value.okWide Tryz.prog W .any base 27 v0) (hv1 : Value.okWide Tryz.prog W .any base 2 v1) (hv2 : Value.okWide Tryz.prog W .any base 2 v2)
    (h0 : DataW.Trod enc Tryz.prog W 0 (fun _ => true) true 27 v0 d0 p0) (h1 : DataW.Trod enc Tryz.prog W 0 (fun _ => true) true 2 v1 d1 p1) (h2 : DataW.Trod enc Tryz.prog W 0 (fun _ => true) true 2 v2 d2 p2) (_ : S) :
    Calls Tryz.prog 7 #[v0, v1, v2] W fun e W' => e = .returned (.bool true) ∧ Below W.heap.size W W' := by
  obtain ⟨A, m, c, l, rfl, hl⟩ := open_records hv0 h0
  obtain ⟨a, rfl, rfl, rfl, _⟩ := open_int Tryz.underlying2 hv1 h1
  obtain ⟨b, rfl, rfl, rfl, _⟩ := open_int Tryz.underlying2 hv2 h2
  exact (HandClock_walk0 W l a b hl (fun g hg => List.mem_range.1 hg)).mono fun e W' ⟨h, hk⟩ => ⟨h, hk.below (Nat.le_refl _) (by simp)⟩
end Go.Proofs.YtkacghjglicjiaaGreat
