
/-
  The hand-off: HandTwice, its walk.
-/
import Derived.Test.YtkacghjglicjiaaGreatHsH
namespace Go.Proofs.YtkacghjglicjiaaGreat
open Go.RowKit Go.ChangeShapes Go.WideShapes Go.ChangeAt Go.Deep Go.MapKept
set_option linter.unusedVariables false

set_option maxRecDepth 100000 in
set_option maxHeartbeats 16000000 in
theorem HandTwice_walk0 (w : World) {G : List Nat} {A : Option Addr} {m c : Nat} (l : List RecD) (a : Int) (h : RecArr w G (.slice A m c) l) (hG : ∀ g ∈ G, g < w.heap.size) :
    Calls Tryz.prog 6 #[.slice A m c, .int .i64 a] w fun e w' => e = .returned (.bool true) ∧ Kept [] w w' := by
  obtain ⟨a1, a2, a3, a4⟩ := h.len
  have H := Lib.hid h
  have HG := Lib.hid hG
  have L1 := Lib.hid a1
  clear h a1 a4 hG
  unfold maxLen at a3
  have AW := Lib.hid (fun w' => awake24_any w')
  by_cases hgo : m ≤ 60 ∧ timeB a = true
  rotate_left
  · have hways : 60 < m ∨ (m ≤ 60 ∧ timeB a = false) := by
      rcases Nat.lt_or_ge 60 m with h1 | h1
      · exact .inl h1
      · cases h2 : timeB a
        · exact .inr ⟨h1, rfl⟩
        · exact absurd ⟨h1, h2⟩ hgo
    clear hgo
    rcases hways with i1 | ⟨i1, i2⟩
    · have i60 : (60 : Int) < (m : Int) := by omega
      go_enter Tryz.func6, Tryz.ntmps6
      go_wp2_with (first
        | (go_at_call 8
           refine (AW.out _).mono ?_
           rintro e wy ⟨rfl, hky⟩
           have KY := Lib.hid hky
           clear hky))
      go_ret
      exact ⟨rfl, KY.out⟩
    · have i60 : ¬ (60 : Int) < (m : Int) := by omega
      have HA := Lib.hid i2
      clear i2
      go_enter Tryz.func6, Tryz.ntmps6
      go_wp2_with (first
        | (go_at_call 18
           with_reducible refine (rTime_any _ a).mono ?_
           rintro e wx ⟨rfl, rfl⟩
           rw [HA.out])
        | (go_at_call 8
           refine (AW.out _).mono ?_
           rintro e wy ⟨rfl, hky⟩
           have KY := Lib.hid hky
           clear hky))
      go_ret
      exact ⟨rfl, KY.out⟩
  obtain ⟨hm, i2⟩ := hgo
  have i60 : ¬ (60 : Int) < (m : Int) := by omega
  have HA := Lib.hid i2
  clear i2
  obtain ⟨S, ok, okf, iv⟩ := made_ok l
  obtain ⟨V, hV⟩ : ∃ V, madeV l = V := ⟨_, rfl⟩
  rw [hV] at iv
  have HV := Lib.hid hV
  have LN := Lib.hid (iv.lens ok)
  have GV := Lib.hid (good_view ok okf iv)
  have RV := Lib.hid (send_recv ok okf iv HA.out)
  have R2 := Lib.hid (recv_two ok okf iv HA.out)
  have SL := Lib.hid (sent_le ok okf iv HA.out)
  clear hV
  go_enter Tryz.func6, Tryz.ntmps6
  go_upto_region 3 with (first
    | (go_at_call 18
       with_reducible refine (rTime_any _ a).mono ?_
       rintro e wx ⟨rfl, rfl⟩
       rw [HA.out]))
  obtain ⟨bs, hbs⟩ : ∃ x, strm (sentR V a) = x := ⟨_, rfl⟩
  have HBS := Lib.hid hbs
  rw [hbs] at RV R2 SL
  clear hbs
  go_upto_region 6 with (first
    | (go_at_call 9
       refine (Made_any _ l H.out HG.out).mono ?_
       rintro e w1 ⟨A1, m1, c1, A2, m2, c2, A3, m3, c3, G3, rfl, hva, hk1⟩
       rw [HV.out] at hva ⊢
       have VA1 := Lib.hid hva
       have K1 := Lib.hid hk1
       clear hva hk1)
    | (go_at_call 10
       with_reducible refine (Send_any w1 V a VA1.out (by have := LN.out; omega) (by have := LN.out; omega) (by have := LN.out; omega)).mono ?_
       rintro e w2 hpost
       obtain ⟨D1, p1, q1, rfl, hn⟩ := send_known hpost GV.out HA.out
       rw [HBS.out] at hn
       have NB2 := Lib.hid hn
       have K2 := Lib.hid (K1.out.trans hn.kept (by simp))
       clear hpost hn)
    | (go_at_call 15
       with_reducible refine (Receive_any w2 bs NB2.out.rd (by have := NB2.out.rd.len.1; have := SL.out; omega)).mono ?_
       rintro e w3 hpost
       obtain ⟨hk3, E1, f1, g1, E2, f2, g2, E3, f3, g3, G6, rfl, hva⟩ := recv_known hpost RV.out
       have VB3 := Lib.hid hva
       have K3 := Lib.hid (K2.out.trans hk3 (by simp))
       have NB3 := Lib.hid (NB2.out.go hk3)
       clear hpost hk3 hva)
    | (((with_reducible show wpList _ _ _ ({ dst := none, op := Op.store 26 (.tmp 7) (.tmp 34), type := _, pos := _, after := _, guard := _ } :: _) _ _); refine wpList_put (t := 26) rfl 26 (.tmp 7) (.tmp 34) rfl _ (by rfl) (by rfl) (by (repeat (first | (apply Blk.new'; simp; done) | apply Blk.alloc | apply Blk.drew))) (by rfl) (by kernel_rfl) (by simp [Value.oneCell']) ?_; intro w4 hb4 hk4; have Hb4 := Lib.hid hb4; have Hk4 := Lib.hid hk4; clear hb4 hk4)
       have hk4 : Kept [] w3 w4 := ((Kept.refl [] w3).alloc _).trans Hk4.out (fun i hi => .inr (by simp at hi; omega))
       have K4 := Lib.hid (K3.out.trans hk4 (by simp))
       have VB4 := Lib.hid (VB3.out.go hk4)
       have NB4 := Lib.hid (NB3.out.go hk4)
       have hx4 := Hb4.out.cell
       clear hk4)
    | (go_at_call 10
       with_reducible refine (Send_any w4 V a VB4.out (by have := LN.out; omega) (by have := LN.out; omega) (by have := LN.out; omega)).mono ?_
       rintro e w5 hpost
       obtain ⟨D2, p2, q2, rfl, hn⟩ := send_known hpost GV.out HA.out
       rw [HBS.out] at hn
       have NC5 := Lib.hid hn
       have K5 := Lib.hid (K4.out.trans hn.kept (by simp))
       have NB5 := Lib.hid (NB4.out.go hn.kept)
       clear hpost hn hx4))
  have HP := Lib.hid (NB5.out.rd.len.1)
  have HQ := Lib.hid (NC5.out.rd.len.1)
  have p1le : p1 ≤ 100000 := by have := HP.out; have := SL.out; omega
  have p2le : p2 ≤ 100000 := by have := HQ.out; have := SL.out; omega
  go_upto_region 7 with (first
    | (at_builtin
       apply wpList_cat0 rfl (.tmp 44) (.tmp 45) rfl
       case hs => exact rfl
       case hx => exact rfl
       case hR => exact NB5.out.rd
       case hl => omega
       intro F1 r1 w6 hn
       have N6 := Lib.hid hn
       have NB6 := Lib.hid (NB5.out.go hn.kept)
       have NC6 := Lib.hid (NC5.out.go hn.kept)
       have AP := Lib.hid (fun k (hk : k ∈ rowOf (.slice F1 p1 r1)) => hn.2.2 k hk)
       clear hn)
    | (at_builtin
       apply wpList_catk rfl (.tmp 46) (.tmp 47) rfl
       case hs => exact rfl
       case hN => exact N6.out
       case hx => exact rfl
       case hR => exact NC6.out.rd
       case hl => exact (by rw [HP.out]; omega)
       intro F2 r2 w7 hn hk
       have N7 := Lib.hid hn
       have K7 := Lib.hid (K5.out.trans hn.kept (by simp))
       have NB7 := Lib.hid (NB5.out.go hn.kept)
       have NC7 := Lib.hid (NC5.out.go hn.kept)
       clear hn hk)
    | (go_at_call 15
       refine (Receive_any w7 (bs ++ bs) N7.out.rd (by rw [HP.out]; omega)).mono ?_
       rintro e w8 hpost
       obtain ⟨hk8, E4, f4, g4, E5, f5, g5, E6, f6, g6, G8, rfl, hva⟩ := recv_known hpost R2.out
       have K8 := Lib.hid (K7.out.trans hk8 (by simp))
       have NB8 := Lib.hid (NB7.out.go hk8)
       have NC8 := Lib.hid (NC7.out.go hk8)
       clear hpost hk8 hva)
    | (((with_reducible show wpList _ _ _ ({ dst := none, op := Op.store 26 (.tmp 12) (.tmp 50), type := _, pos := _, after := _, guard := _ } :: _) _ _); refine wpList_put (t := 26) rfl 26 (.tmp 12) (.tmp 50) rfl _ (by rfl) (by rfl) (by (repeat (first | (apply Blk.new'; simp; done) | apply Blk.alloc | apply Blk.drew))) (by rfl) (by kernel_rfl) (by simp [Value.oneCell']) ?_; intro w9 hb9 hk9; have Hb9 := Lib.hid hb9; have Hk9 := Lib.hid hk9; clear hb9 hk9)
       have hk9 : Kept [] w8 w9 := ((Kept.refl [] w8).alloc _).trans Hk9.out (fun i hi => .inr (by simp at hi; omega))
       have K9 := Lib.hid (K8.out.trans hk9 (by simp))
       have NB9 := Lib.hid (NB8.out.go hk9)
       have NC9 := Lib.hid (NC8.out.go hk9)
       clear hk9))
  have q1' := run_str NB9.out.rd
  have q2' := run_str NC9.out.rd
  go_wp2_with (first
    | (go_at_call 8
       refine (AW.out _).mono ?_
       rintro e wy ⟨rfl, hky⟩
       have KY := Lib.hid (K9.out.trans hky (by simp))
       clear hky))
  go_ret
  exact ⟨rfl, KY.out⟩
set_option maxRecDepth 100000 in
theorem HandTwice_walk {H : Type} {enc : TypeId × Value → H} {S : Prop} (W : World) (base : Nat) (v0 : Value) (d0 : DataW H) (p0 : List MemPlace) (v1 : Value) (d1 : DataW H) (p1 : List MemPlace)
    (hv0 : Value.okWide Tryz.prog W .any base 27 v0) (hv1 : Value.okWide Tryz.prog W .any base 2 v1)
    (h0 : DataW.Trod enc Tryz.prog W 0 (fun _ => true) true 27 v0 d0 p0) (h1 : DataW.Trod enc Tryz.prog W 0 (fun _ => true) true 2 v1 d1 p1) (_ : S) :
    Calls Tryz.prog 6 #[v0, v1] W fun e W' => e = .returned (.bool true) ∧ Below W.heap.size W W' := by
  obtain ⟨A, m, c, l, rfl, hl⟩ := open_records hv0 h0
  obtain ⟨a, rfl, rfl, rfl, _⟩ := open_int Tryz.underlying2 hv1 h1
  exact (HandTwice_walk0 W l a hl (fun g hg => List.mem_range.1 hg)).mono fun e W' ⟨h, hk⟩ => ⟨h, hk.below (Nat.le_refl _) (by simp)⟩
end Go.Proofs.YtkacghjglicjiaaGreat
