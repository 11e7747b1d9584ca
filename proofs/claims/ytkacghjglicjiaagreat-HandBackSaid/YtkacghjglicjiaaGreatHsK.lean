
/-
  The hand-off: HandBack, its walk.
-/
import Derived.Test.YtkacghjglicjiaaGreatHsH
namespace Go.Proofs.YtkacghjglicjiaaGreat
open Go.RowKit Go.ChangeShapes Go.WideShapes Go.ChangeAt Go.Deep Go.MapKept
set_option linter.unusedVariables false

theorem xor_one {x : UInt8} (h : x ≠ 0) (b : UInt8) : b ^^^ x ≠ b := by
  intro e
  apply h
  have : b ^^^ (b ^^^ x) = b ^^^ b := by rw [e]
  rw [← UInt8.xor_assoc, UInt8.xor_self, UInt8.zero_xor] at this
  exact this
set_option maxRecDepth 100000 in
set_option maxHeartbeats 16000000 in
theorem HandBack_walk0 (w : World) {G : List Nat} {A : Option Addr} {m c : Nat} (l : List RecD) (a pl : Int) (x : UInt8) (h : RecArr w G (.slice A m c) l) (hG : ∀ g ∈ G, g < w.heap.size) :
    Calls Tryz.prog 5 #[.slice A m c, .int .i64 a, .int .i64 pl, .int .u8 x.toNat] w fun e w' => e = .returned (.bool true) ∧ Kept [] w w' := by
  obtain ⟨a1, a2, a3, a4⟩ := h.len
  have H := Lib.hid h
  have HG := Lib.hid hG
  have L1 := Lib.hid a1
  clear h a1 a4 hG
  unfold maxLen at a3
  have AW := Lib.hid (fun w' => awake24_any w')
  by_cases hgo : m ≤ 60 ∧ timeB a = true
  rotate_left
  · have hways : 60 < m ∨ (m ≤ 60 ∧ timeB a = false) := by
      rcases Nat.lt_or_ge 60 m with h1 | h1
      · exact .inl h1
      · cases h2 : timeB a
        · exact .inr ⟨h1, rfl⟩
        · exact absurd ⟨h1, h2⟩ hgo
    clear hgo
    rcases hways with i1 | ⟨i1, i2⟩
    · have i60 : (60 : Int) < (m : Int) := by omega
      go_enter Tryz.func5, Tryz.ntmps5
      go_wp2_with (first
        | (go_at_call 8
           refine (AW.out _).mono ?_
           rintro e wy ⟨rfl, hky⟩
           have KY := Lib.hid hky
           clear hky))
      go_ret
      exact ⟨rfl, KY.out⟩
    · have i60 : ¬ (60 : Int) < (m : Int) := by omega
      have HA := Lib.hid i2
      clear i2
      go_enter Tryz.func5, Tryz.ntmps5
      go_wp2_with (first
        | (go_at_call 18
           with_reducible refine (rTime_any _ a).mono ?_
           rintro e wx ⟨rfl, rfl⟩
           rw [HA.out])
        | (go_at_call 8
           refine (AW.out _).mono ?_
           rintro e wy ⟨rfl, hky⟩
           have KY := Lib.hid hky
           clear hky))
      go_ret
      exact ⟨rfl, KY.out⟩
  obtain ⟨hm, i2⟩ := hgo
  have i60 : ¬ (60 : Int) < (m : Int) := by omega
  have HA := Lib.hid i2
  clear i2
  obtain ⟨S, ok, okf, iv⟩ := made_ok l
  obtain ⟨V, hV⟩ : ∃ V, madeV l = V := ⟨_, rfl⟩
  rw [hV] at iv
  have HV := Lib.hid hV
  have LN := Lib.hid (iv.lens ok)
  have GV := Lib.hid (good_view ok okf iv)
  have RV := Lib.hid (send_recv ok okf iv HA.out)
  have RC := Lib.hid (fun n (hn : n < (strm (sentR V a)).length) => recv_cut ok okf iv HA.out hn)
  have RF : Hid (∀ (n : Nat) (b y : UInt8), (strm (sentR V a))[n]? = some b → y ≠ b → recvM ((strm (sentR V a)).set n y) = (nilV, 0, 11)) := Lib.hid (fun n b y hb hy => by
    obtain ⟨h1, h2⟩ := List.getElem?_eq_some_iff.1 hb
    exact recv_flip ok okf iv HA.out h1 (by rw [h2]; exact hy))
  have RM := Lib.hid (recv_more ok okf iv HA.out x)
  have SL := Lib.hid (sent_le ok okf iv HA.out)
  have SP := Lib.hid (strm_pos ok okf iv HA.out)
  have SS := Lib.hid (sameV_self V)
  clear hV
  obtain ⟨bs, hbs⟩ : ∃ x, strm (sentR V a) = x := ⟨_, rfl⟩
  have HBS := Lib.hid hbs
  rw [hbs] at RV RC RM SL SP RF
  clear hbs
  go_enter Tryz.func5, Tryz.ntmps5
  go_upto_region 8 with (first
    | (go_at_call 18
       with_reducible refine (rTime_any _ a).mono ?_
       rintro e wx ⟨rfl, rfl⟩
       rw [HA.out])
    | (go_at_call 9
       refine (Made_any _ l H.out HG.out).mono ?_
       rintro e w1 ⟨A1, m1, c1, A2, m2, c2, A3, m3, c3, G3, rfl, hva, hk1⟩
       rw [HV.out] at hva ⊢
       have VA1 := Lib.hid hva
       have K1 := Lib.hid hk1
       clear hva hk1)
    | (((with_reducible show wpList _ _ _ ({ dst := none, op := Op.store 26 (.tmp 9) (.tmp 35), type := _, pos := _, after := _, guard := _ } :: _) _ _); refine wpList_put (t := 26) rfl 26 (.tmp 9) (.tmp 35) rfl _ (by rfl) (by rfl) (by (repeat (first | (apply Blk.new'; simp; done) | apply Blk.alloc | apply Blk.drew))) (by rfl) (by kernel_rfl) (by simp [Value.oneCell']) ?_; intro w2 hb2 hk2; have Hb2 := Lib.hid hb2; have Hk2 := Lib.hid hk2; clear hb2 hk2)
       have hk2 : Kept [] w1 w2 := ((Kept.refl [] w1).alloc _).trans Hk2.out (fun i hi => .inr (by simp at hi; omega))
       have K2 := Lib.hid (K1.out.trans hk2 (by simp))
       have VA2 := Lib.hid (VA1.out.go hk2)
       have hx2 := Hb2.out.cell
       clear hk2)
    | (go_at_call 10
       with_reducible refine (Send_any w2 V a VA2.out (by have := LN.out; omega) (by have := LN.out; omega) (by have := LN.out; omega)).mono ?_
       rintro e w3 hpost
       obtain ⟨D1, p1, q1, rfl, hn⟩ := send_known hpost GV.out HA.out
       rw [HBS.out] at hn
       have HP := Lib.hid hn.rd.len.1
       have p1le : p1 ≤ 100000 := by have := hn.rd.len.1; have := SL.out; omega
       have p1pos : 1 ≤ p1 := by have := hn.rd.len.1; have := SP.out; omega
       have ip1 : ¬ (p1 : Int) < 1 := by omega
       have pq1 : p1 ≤ q1 := hn.rd.len.2.1
       have q1le : q1 ≤ 2 ^ 63 - 1 := hn.rd.len.2.2.1
       have NB3 := Lib.hid hn
       have K3 := Lib.hid (K2.out.trans hn.kept (by simp))
       have VA3 := Lib.hid (VA2.out.go hn.kept)
       have X3 := Lib.hid (Hb2.out.kept hn.kept (by simp))
       clear hpost hn hx2)
    | (go_at_call 15
       with_reducible refine (Receive_any w3 bs NB3.out.rd (by omega)).mono ?_
       rintro e w4 hpost
       obtain ⟨hk4, E1, f1, g1, E2, f2, g2, E3, f3, g3, G6, rfl, hva⟩ := recv_known hpost RV.out
       have VB4 := Lib.hid hva
       have K4 := Lib.hid (K3.out.trans hk4 (by simp))
       have NB4 := Lib.hid (NB3.out.go hk4)
       have VA4 := Lib.hid (VA3.out.go hk4)
       have X4 := Lib.hid (X3.out.kept hk4 (by simp))
       clear hpost hk4 hva)
    | (((with_reducible show wpList _ _ _ ({ dst := none, op := Op.store 26 (.tmp 12) (.tmp 45), type := _, pos := _, after := _, guard := _ } :: _) _ _); refine wpList_put (t := 26) rfl 26 (.tmp 12) (.tmp 45) rfl _ (by rfl) (by rfl) (by (repeat (first | (apply Blk.new'; simp; done) | apply Blk.alloc | apply Blk.drew))) (by rfl) (by kernel_rfl) (by simp [Value.oneCell']) ?_; intro w5 hb5 hk5; have Hb5 := Lib.hid hb5; have Hk5 := Lib.hid hk5; clear hb5 hk5)
       have hk5 : Kept [] w4 w5 := ((Kept.refl [] w4).alloc _).trans Hk5.out (fun i hi => .inr (by simp at hi; omega))
       have K5 := Lib.hid (K4.out.trans hk5 (by simp))
       have VB5 := Lib.hid (VB4.out.go hk5)
       have VA5 := Lib.hid (VA4.out.go hk5)
       have NB5 := Lib.hid (NB4.out.go hk5)
       have hx5 := (X4.out.kept hk5 (by simp)).cell
       have hy5 := Hb5.out.cell
       clear hk5)
    | (go_at_call 17
       refine (rSameState_any _ V V VB5.out VA5.out).mono ?_
       rintro e w6 ⟨rfl, hk6⟩
       rw [SS.out]
       have K6 := Lib.hid (K5.out.trans hk6 (by simp))
       have NB6 := Lib.hid (NB5.out.go hk6)
       clear hk6 hx5 hy5))
  obtain ⟨i, hi⟩ : ∃ i, nat64 pl % p1 = i := ⟨_, rfl⟩
  have hiN : i < p1 := by rw [← hi]; exact Nat.mod_lt _ p1pos
  have hw1 := wrap_u64 pl
  have hw2 := wrap_u64 (p1 : Int)
  rw [nat64_small p1 (by omega)] at hw2
  have hw3 : ((nat64 pl : Nat) : Int) % (p1 : Int) = (i : Int) := by rw [← hi]; simp
  have ii0 : (0 : Int) ≤ (i : Int) := by omega
  have ii1 : (i : Int) < (p1 : Int) := by omega
  have ii2 : (i : Int) ≤ (q1 : Int) := by omega
  have hN0 : ((p1 : Int) == 0) = false := by simp; omega
  have HTK := Lib.hid (NB6.out.rd.head i (by omega))
  have HRC := Lib.hid (RC.out i (by rw [HP.out]; exact hiN))
  clear hi
  go_upto_region 12 with (first
    | (go_at_call 15
       refine (Receive_any w6 _ HTK.out (by omega)).mono ?_
       rintro e w7 hpost
       obtain ⟨hk7, E4, f4, g4, E5, f5, g5, E6, f6, g6, G7, rfl, hva⟩ := recv_known hpost HRC.out
       have K7 := Lib.hid (K6.out.trans hk7 (by simp))
       have NB7 := Lib.hid (NB6.out.go hk7)
       clear hpost hk7 hva)
    | (((with_reducible show wpList _ _ _ ({ dst := none, op := Op.store 26 (.tmp 15) (.tmp 82), type := _, pos := _, after := _, guard := _ } :: _) _ _); refine wpList_put (t := 26) rfl 26 (.tmp 15) (.tmp 82) rfl _ (by rfl) (by rfl) (by (repeat (first | (apply Blk.new'; simp; done) | apply Blk.alloc | apply Blk.drew))) (by rfl) (by kernel_rfl) (by simp [Value.oneCell']) ?_; intro w8 hb8 hk8; have Hb8 := Lib.hid hb8; have Hk8 := Lib.hid hk8; clear hb8 hk8)
       have hk8 : Kept [] w7 w8 := ((Kept.refl [] w7).alloc _).trans Hk8.out (fun i hi => .inr (by simp at hi; omega))
       have K8 := Lib.hid (K7.out.trans hk8 (by simp))
       have NB8 := Lib.hid (NB7.out.go hk8)
       clear hk8))
  clear hw1 hw2 hw3 hN0
  by_cases hx0 : x = 0
  · subst hx0
    have i0 : (((0 : UInt8).toNat : Nat) : Int) = 0 := rfl
    go_wp2_with (first
      | (go_at_call 8
         refine (AW.out _).mono ?_
         rintro e wy ⟨rfl, hky⟩
         have KY := Lib.hid (K8.out.trans hky (by simp))
         clear hky))
    go_ret
    exact ⟨rfl, KY.out⟩
  have i0 : ((((x.toNat : Nat) : Int)) == 0) = false := by rw [beq_eq_false_iff_ne]; intro e; exact hx0 (UInt8.toNat_inj.1 (by simpa using e))
  have HY := Lib.hid (xor_one hx0)
  clear hx0
  have HXR := Lib.hid (fun b => xor_u8 b x)
  go_wp2_with (first
    | (at_builtin
       apply wpList_cat0 rfl (.tmp 90) (.tmp 91) rfl
       case hs => exact rfl
       case hx => exact rfl
       case hR => exact NB8.out.rd
       case hl => omega
       intro F1 r1 w9 hn
       obtain ⟨gb, c6, he, hmc6, hc6⟩ := hn.some (by rw [HP.out]; omega)
       injection he with e1 e2 e3
       subst e1 e3
       clear e2
       have hgb : gb < w9.heap.size := hn.1.lt gb (by simp [rowOf, Value.ownBlock])
       have hgw : w8.heap.size ≤ gb := hn.2.2 gb (by simp [rowOf, Value.ownBlock])
       obtain ⟨bb, hbb⟩ : ∃ b, bs[i]? = some b := ⟨_, List.getElem?_eq_getElem (by rw [HP.out]; exact hiN)⟩
       have hub : (u8s bs)[i]? = some (.int .u8 (bb.toNat : Int)) := by simp [u8s, hbb, u8v]
       have hown := hn.1
       rw [HP.out] at hown
       have hcell := hown.cellAt i (by omega)
       have hfz := hown.frozenAt i
       rw [hub] at hcell
       have hxr := HXR.out bb
       have HBI := Lib.hid hbb
       unfold maxLen at hc6
       have CC := Lib.hid hn
       have NB9 := Lib.hid (NB8.out.go hn.kept)
       have K9 := Lib.hid (K8.out.trans hn.kept (by simp))
       clear hn hown hub hbb hmc6)
    | (go_at_call 15
       have kE : Kept [gb] w9 (w9.setCell ⟨gb, i, none⟩ (.int .u8 ((bb.toNat ^^^ x.toNat : Nat) : Int))) := (Kept.refl _ _).setCell (.inl (by simp)) _
       have hcc := CC.out.set HP.out i (bb ^^^ x) (u := .int .u8 ((bb.toNat ^^^ x.toNat : Nat) : Int)) (by simp)
       have NB10 := Lib.hid (NB9.out.other kE (fun k hk hm => by simp at hm; have := NB8.out.1.lt k hk; omega) (by simp; have := NB8.out.kept.size; have := K8.out.size; have := K2.out.size; have := NB8.out.2.1.size; omega))
       have K10 := Lib.hid (K9.out.trans kE (fun i hi => .inr (by simp at hi; have := K8.out.size; omega)))
       have hne := RF.out i bb (bb ^^^ x) HBI.out (HY.out bb)
       with_reducible refine (Receive_any _ _ hcc.rd (by omega)).mono ?_
       rintro e w11 hpost
       obtain ⟨hk11, E7, f7, g7, E8, f8, g8, E9, f9, g9, G11, rfl, hva⟩ := recv_known hpost hne
       have K11 := Lib.hid (K10.out.trans hk11 (by simp))
       have NB11 := Lib.hid (NB10.out.go hk11)
       clear hpost hk11 hva hcc hne kE hcell hfz hxr)
    | (((with_reducible show wpList _ _ _ ({ dst := none, op := Op.store 26 (.tmp 19) (.tmp 103), type := _, pos := _, after := _, guard := _ } :: _) _ _); refine wpList_put (t := 26) rfl 26 (.tmp 19) (.tmp 103) rfl _ (by rfl) (by rfl) (by (repeat (first | (apply Blk.new'; simp; done) | apply Blk.alloc | apply Blk.drew))) (by rfl) (by kernel_rfl) (by simp [Value.oneCell']) ?_; intro w12 hb12 hk12; have Hb12 := Lib.hid hb12; have Hk12 := Lib.hid hk12; clear hb12 hk12)
       have hk12 : Kept [] w11 w12 := ((Kept.refl [] w11).alloc _).trans Hk12.out (fun i hi => .inr (by simp at hi; omega))
       have K12 := Lib.hid (K11.out.trans hk12 (by simp))
       have NB12 := Lib.hid (NB11.out.go hk12)
       clear hk12)
    | (at_builtin
       apply wpList_cat0 rfl (.tmp 107) (.tmp 108) rfl
       case hs => exact rfl
       case hx => exact rfl
       case hR => exact NB12.out.rd
       case hl => omega
       intro F2 r2 w13 hn
       have N13 := Lib.hid hn
       clear hn)
    | (at_builtin
       have hkl : Kept [] w13 (w13.alloc (.cells (u8s [x]).toArray 5)) := (Kept.refl [] w13).alloc _
       apply wpList_catk rfl (.tmp 109) (.tmp 111) rfl
       case hs => exact rfl
       case hN => exact N13.out.go hkl
       case hx => exact rfl
       case hR => exact RdB.lit w13 [x] 1 rfl (by unfold maxLen; omega)
       case hl => exact (by rw [HP.out]; omega)
       intro F3 r3 w14 hn hk
       have N14 := Lib.hid hn
       have K14 := Lib.hid (K12.out.trans hn.kept (by simp))
       clear hn hk hkl)
    | (go_at_call 15
       with_reducible refine (Receive_any w14 (bs ++ [x]) N14.out.rd (by rw [HP.out]; omega)).mono ?_
       rintro e w15 hpost
       obtain ⟨hk15, I1, j1, k1, I2, j2, k2, I3, j3, k3, G15, rfl, hva⟩ := recv_known hpost RM.out
       have K15 := Lib.hid (K14.out.trans hk15 (by simp))
       clear hpost hk15 hva)
    | (((with_reducible show wpList _ _ _ ({ dst := none, op := Op.store 26 (.tmp 22) (.tmp 114), type := _, pos := _, after := _, guard := _ } :: _) _ _); refine wpList_put (t := 26) rfl 26 (.tmp 22) (.tmp 114) rfl _ (by rfl) (by rfl) (by (repeat (first | (apply Blk.new'; simp; done) | apply Blk.alloc | apply Blk.drew))) (by rfl) (by kernel_rfl) (by simp [Value.oneCell']) ?_; intro w16 hb16 hk16; have Hb16 := Lib.hid hb16; have Hk16 := Lib.hid hk16; clear hb16 hk16)
       have hk16 : Kept [] w15 w16 := ((Kept.refl [] w15).alloc _).trans Hk16.out (fun i hi => .inr (by simp at hi; omega))
       have K16 := Lib.hid (K15.out.trans hk16 (by simp))
       clear hk16)
    | (go_at_call 8
       refine (AW.out _).mono ?_
       rintro e wy ⟨rfl, hky⟩
       have KY := Lib.hid (K16.out.trans hky (by simp))
       clear hky))
  go_ret
  exact ⟨rfl, KY.out⟩
set_option maxRecDepth 100000 in
theorem HandBack_walk {H : Type} {enc : TypeId × Value → H} {S : Prop} (W : World) (base : Nat) (v0 : Value) (d0 : DataW H) (p0 : List MemPlace) (v1 : Value) (d1 : DataW H) (p1 : List MemPlace) (v2 : Value) (d2 : DataW H) (p2 : List MemPlace) (v3 : Value) (d3 : DataW H) (p3 : List MemPlace)
    (hv0 : Value.okWide Tryz.prog W .any base 27 v0) (hv1 : Value.okWide Tryz.prog W .any base 2 v1) (hv2 : Value.okWide Tryz.prog W .any base 3 v2) (hv3 : Value.okWide Tryz.prog W .any base 5 v3)
    (h0 : DataW.Trod enc Tryz.prog W 0 (fun _ => true) true 27 v0 d0 p0) (h1 : DataW.Trod enc Tryz.prog W 0 (fun _ => true) true 2 v1 d1 p1) (h2 : DataW.Trod enc Tryz.prog W 0 (fun _ => true) true 3 v2 d2 p2) (h3 : DataW.Trod enc Tryz.prog W 0 (fun _ => true) true 5 v3 d3 p3) (_ : S) :
    Calls Tryz.prog 5 #[v0, v1, v2, v3] W fun e W' => e = .returned (.bool true) ∧ Below W.heap.size W W' := by
  obtain ⟨A, m, c, l, rfl, hl⟩ := open_records hv0 h0
  obtain ⟨a, rfl, rfl, rfl, _⟩ := open_int Tryz.underlying2 hv1 h1
  obtain ⟨b, rfl, rfl, rfl, _⟩ := open_int Tryz.underlying3 hv2 h2
  obtain ⟨x, rfl⟩ := open_u8 hv3 h3
  exact (HandBack_walk0 W l a b x hl (fun g hg => List.mem_range.1 hg)).mono fun e W' ⟨h, hk⟩ => ⟨h, hk.below (Nat.le_refl _) (by simp)⟩
end Go.Proofs.YtkacghjglicjiaaGreat
