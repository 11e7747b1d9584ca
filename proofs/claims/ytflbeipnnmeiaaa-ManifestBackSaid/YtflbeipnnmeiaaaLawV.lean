
/-
  The walk of ManifestDecodes.
-/
import Derived.Test.YtflbeipnnmeiaaaManZ
import Derived.Test.YtflbeipnnmeiaaaCut
import Derived.Deep.DeepCutAuto
import Derived.Outline
namespace Go.Proofs.Ytflbeipnnmeiaaa
open Go.RowKit Go.ChangeShapes Go.WideShapes Go.ChangeAt Go.Deep
set_option linter.unusedVariables false

theorem encMF_len (x : ManD) : (encMF x).length ≤ 300 := by
  unfold encMF
  by_cases h : mayM x = true
  · rw [if_pos h, putF_len (putM h)]
    have := (mayM_parts h).2.2.1
    simp only [bodyM, List.length_append, u32B_len, u16B_len, flat32_len]
    omega
  · rw [if_neg h]; exact Nat.zero_le _
theorem idxB_0 (w : World) (a b : Value) : (Instr.index 34 (.agg #[a, b]) (.int .i64 0)).run Try.prog w = .ok a w := by kernel_rfl
theorem idxB_1 (w : World) (a b : Value) : (Instr.index 34 (.agg #[a, b]) (.int .i64 1)).run Try.prog w = .ok b w := by kernel_rfl
theorem sameM_refl (x : ManD) : sameM x x = true := sameM_iff.2 rfl
set_option maxHeartbeats 6400000 in
set_option maxRecDepth 100000 in
theorem ManifestDecodes_1 (w : World) {A : Option Addr} {m c : Nat} {B : Option Addr} {n d : Nat} {C : Option Addr} {q t : Nat} (x : ManD) (f : FrameD) (more : List UInt8) (place cut : Int) (xb : UInt8) (g1 : ¬ q ≤ 200) (h1 : IntArr w (old w) (.slice A m c) x.segs) (h2 : RdB w (old w) (.slice B n d) f.body) (h3 : RdB w (old w) (.slice C q t) more) :
    Calls Try.prog 3 #[.agg #[.int .i64 x.ver, .int .i64 x.next, .slice A m c], .agg #[.int .i64 f.kind, .int .i64 f.ver, .slice B n d], .slice C q t, .int .i64 place, .int .u8 xb.toNat, .int .i64 cut] w fun e w' => e = .returned (.bool true) ∧ Kept [] w w' := by
  have hk0 : Kept [] w ((w.alloc (.cells #[.int .i64 x.ver, .int .i64 x.next, .slice A m c] 24)).alloc (.cells #[.int .i64 f.kind, .int .i64 f.ver, .slice B n d] 27)) := by (repeat (first | exact Kept.refl _ _ | apply Kept.alloc | apply Kept.drew))
  have P := Lib.hid (show Blk ((w.alloc (.cells #[.int .i64 x.ver, .int .i64 x.next, .slice A m c] 24)).alloc (.cells #[.int .i64 f.kind, .int .i64 f.ver, .slice B n d] 27)) w.heap.size 24 #[.int .i64 x.ver, .int .i64 x.next, .slice A m c] from by (repeat (first | (apply Blk.new'; simp; done) | apply Blk.alloc | apply Blk.drew)))
  have Q := Lib.hid (show Blk ((w.alloc (.cells #[.int .i64 x.ver, .int .i64 x.next, .slice A m c] 24)).alloc (.cells #[.int .i64 f.kind, .int .i64 f.ver, .slice B n d] 27)) (w.heap.size + 1) 27 #[.int .i64 f.kind, .int .i64 f.ver, .slice B n d] from by (repeat (first | (apply Blk.new'; simp; done) | apply Blk.alloc | apply Blk.drew)))
  have K := Lib.hid hk0
  have H1 := Lib.hid (fun w' (hk : Kept [] w w') => IntArr.kept h1 hk (by simp))
  have HF := Lib.hid (h2.kept (Kept.refl [] w) (by simp))
  have HM := Lib.hid (h3.kept (Kept.refl [] w) (by simp))
  clear h1 h2 h3 hk0
  have hq1 : (200 : Int) < q := by omega
  go_enter Try.func3, Try.ntmps3
  go_wp2_with (first
    | (go_at_call 6
       go_must (refine (awake5_any _).mono ?_)
       go_must (rintro e w99 ⟨rfl, k1⟩)
       go_must (have K := Lib.hid (K.out.trans k1 (by simp)))
       go_must (clear k1)))
  go_ret
  exact ⟨rfl, K.out⟩
set_option maxHeartbeats 6400000 in
set_option maxRecDepth 100000 in
theorem ManifestDecodes_2 (w : World) {A : Option Addr} {m c : Nat} {B : Option Addr} {n d : Nat} {C : Option Addr} {q t : Nat} (x : ManD) (f : FrameD) (more : List UInt8) (place cut : Int) (xb : UInt8) (g1 : q ≤ 200) (g2 : ¬ n ≤ 300) (h1 : IntArr w (old w) (.slice A m c) x.segs) (h2 : RdB w (old w) (.slice B n d) f.body) (h3 : RdB w (old w) (.slice C q t) more) :
    Calls Try.prog 3 #[.agg #[.int .i64 x.ver, .int .i64 x.next, .slice A m c], .agg #[.int .i64 f.kind, .int .i64 f.ver, .slice B n d], .slice C q t, .int .i64 place, .int .u8 xb.toNat, .int .i64 cut] w fun e w' => e = .returned (.bool true) ∧ Kept [] w w' := by
  have hk0 : Kept [] w ((w.alloc (.cells #[.int .i64 x.ver, .int .i64 x.next, .slice A m c] 24)).alloc (.cells #[.int .i64 f.kind, .int .i64 f.ver, .slice B n d] 27)) := by (repeat (first | exact Kept.refl _ _ | apply Kept.alloc | apply Kept.drew))
  have P := Lib.hid (show Blk ((w.alloc (.cells #[.int .i64 x.ver, .int .i64 x.next, .slice A m c] 24)).alloc (.cells #[.int .i64 f.kind, .int .i64 f.ver, .slice B n d] 27)) w.heap.size 24 #[.int .i64 x.ver, .int .i64 x.next, .slice A m c] from by (repeat (first | (apply Blk.new'; simp; done) | apply Blk.alloc | apply Blk.drew)))
  have Q := Lib.hid (show Blk ((w.alloc (.cells #[.int .i64 x.ver, .int .i64 x.next, .slice A m c] 24)).alloc (.cells #[.int .i64 f.kind, .int .i64 f.ver, .slice B n d] 27)) (w.heap.size + 1) 27 #[.int .i64 f.kind, .int .i64 f.ver, .slice B n d] from by (repeat (first | (apply Blk.new'; simp; done) | apply Blk.alloc | apply Blk.drew)))
  have K := Lib.hid hk0
  have H1 := Lib.hid (fun w' (hk : Kept [] w w') => IntArr.kept h1 hk (by simp))
  have HF := Lib.hid (h2.kept (Kept.refl [] w) (by simp))
  have HM := Lib.hid (h3.kept (Kept.refl [] w) (by simp))
  clear h1 h2 h3 hk0
  have hq1 : (q : Int) ≤ 200 := by omega
  have hn1 : (300 : Int) < n := by omega
  go_enter Try.func3, Try.ntmps3
  go_wp2_with (first
    | (go_at_call 6
       go_must (refine (awake5_any _).mono ?_)
       go_must (rintro e w99 ⟨rfl, k1⟩)
       go_must (have K := Lib.hid (K.out.trans k1 (by simp)))
       go_must (clear k1)))
  go_ret
  exact ⟨rfl, K.out⟩
set_option maxHeartbeats 6400000 in
set_option maxRecDepth 100000 in
theorem ManifestDecodes_3 (w : World) {A : Option Addr} {m c : Nat} {B : Option Addr} {n d : Nat} {C : Option Addr} {q t : Nat} (x : ManD) (f : FrameD) (more : List UInt8) (place cut : Int) (xb : UInt8) (g1 : q ≤ 200) (g2 : n ≤ 300) (h1 : IntArr w (old w) (.slice A m c) x.segs) (h2 : RdB w (old w) (.slice B n d) f.body) (h3 : RdB w (old w) (.slice C q t) more) :
    Calls Try.prog 3 #[.agg #[.int .i64 x.ver, .int .i64 x.next, .slice A m c], .agg #[.int .i64 f.kind, .int .i64 f.ver, .slice B n d], .slice C q t, .int .i64 place, .int .u8 xb.toNat, .int .i64 cut] w fun e w' => e = .returned (.bool true) ∧ Kept [] w w' := by
  have hk0 : Kept [] w ((w.alloc (.cells #[.int .i64 x.ver, .int .i64 x.next, .slice A m c] 24)).alloc (.cells #[.int .i64 f.kind, .int .i64 f.ver, .slice B n d] 27)) := by (repeat (first | exact Kept.refl _ _ | apply Kept.alloc | apply Kept.drew))
  have P := Lib.hid (show Blk ((w.alloc (.cells #[.int .i64 x.ver, .int .i64 x.next, .slice A m c] 24)).alloc (.cells #[.int .i64 f.kind, .int .i64 f.ver, .slice B n d] 27)) w.heap.size 24 #[.int .i64 x.ver, .int .i64 x.next, .slice A m c] from by (repeat (first | (apply Blk.new'; simp; done) | apply Blk.alloc | apply Blk.drew)))
  have Q := Lib.hid (show Blk ((w.alloc (.cells #[.int .i64 x.ver, .int .i64 x.next, .slice A m c] 24)).alloc (.cells #[.int .i64 f.kind, .int .i64 f.ver, .slice B n d] 27)) (w.heap.size + 1) 27 #[.int .i64 f.kind, .int .i64 f.ver, .slice B n d] from by (repeat (first | (apply Blk.new'; simp; done) | apply Blk.alloc | apply Blk.drew)))
  have K := Lib.hid hk0
  have H1 := Lib.hid (fun w' (hk : Kept [] w w') => IntArr.kept h1 hk (by simp))
  have HF := Lib.hid (h2.kept (Kept.refl [] w) (by simp))
  have HM := Lib.hid (h3.kept (Kept.refl [] w) (by simp))
  clear h1 h2 h3 hk0
  have hq1 : (q : Int) ≤ 200 := by omega
  have hn1 : (n : Int) ≤ 300 := by omega
  have i2_0 := idxB_0
  have i2_1 := idxB_1
  obtain ⟨b1, hb1⟩ : ∃ b, encMF x = b := ⟨_, rfl⟩
  have hl1 := encMF_len x
  rw [hb1] at hl1
  obtain ⟨pf, hpf⟩ : ∃ p, putF f = p := ⟨_, rfl⟩
  have hlp := putF_len_le f
  rw [hpf] at hlp
  have hfb : f.body.length = n := HF.out.len.1
  have HQL : Hid (more.length = q) := Lib.hid HM.out.len.1
  have EB := Lib.hid hb1
  have EP := Lib.hid hpf
  have HL1 := Lib.hid hl1
  have HLP := Lib.hid (show pf.length ≤ 316 by omega)
  clear hb1 hpf hl1 hlp hfb
  go_enter Try.func3, Try.ntmps3
  go_upto_if 48 with (first
    | (go_at_call 7
       go_must (refine (rmEncode_any _ x (H1.out _ K.out)).mono ?_)
       go_must (rintro e w1 ⟨v1, rfl, hN⟩)
       go_must (rw [EB.out] at hN)
       go_must (have k1 := hN.kept)
       go_must (have NN := Lib.hid (hN.wide K.out))
       go_must (have Q := Lib.hid (Q.out.kept k1 (by simp)))
       go_must (have hcq := Q.out.cell)
       go_must (have K := Lib.hid (K.out.trans k1 (by simp)))
       go_must (obtain ⟨A1, m1, c1, rfl⟩ := hN.form)
       go_must (clear hN k1))
    | (go_at_call 8
       go_must (refine (rPut_any _ _ _ _ _ f (HF.out.kept K.out (by simp))).mono ?_)
       go_must (rintro e w2 ⟨v2, rfl, hn2⟩)
       go_must (rw [EP.out] at hn2)
       go_must (have hN := NB.of hn2)
       go_must (have k1 := hN.kept)
       go_must (have PF := Lib.hid (hN.wide K.out))
       go_must (have HAP : Hid (∀ k ∈ rowOf (.slice A1 m1 c1), k ∉ rowOf v2) := Lib.hid (fun k hk hm => by have h3 := NN.out.1.lt k hk; have h4 := hN.2.2 k hm; omega))
       go_must (have NN := Lib.hid (NN.out.go k1))
       go_must (have K := Lib.hid (K.out.trans k1 (by simp)))
       go_must (obtain ⟨A2, m2, c2, rfl⟩ := hN.form)
       go_must (clear hN hn2 k1 hcq))
    | (at_builtin
       go_must (refine wpList_app _ rfl (.tmp 43) (.tmp 44) 25 rfl elem_u8 (by rfl) NN.out.1 (by rfl) (HM.out.kept K.out (by simp)).rd (by rw [u8s_len, HQL.out, Nat.mul_one]) (u8s_one _) (by have := HL1.out; unfold maxLen; omega) (by have := HL1.out; omega) ?_)
       go_must (intro v4 w4 ho hk hr)
       go_must (have hn := NN.out.app ho hk hr)
       go_must (have HAP2 : Hid (∀ k ∈ rowOf v4, k ∉ rowOf (.slice A2 m2 c2)) := Lib.hid (fun k hk' hm => by
          rcases hr k hk' with h3 | h3
          · exact HAP.out k h3 hm
          · have := PF.out.1.lt k hm; omega))
       go_must (have PF := Lib.hid (PF.out.other hk (fun k hk' hm => HAP.out k hm hk') (fun k hk' => NN.out.2.2 k hk')))
       go_must (have HAP := HAP2)
       go_must (clear HAP2)
       go_must (have NN := Lib.hid hn)
       go_must (obtain ⟨A4, m4, c4, rfl⟩ := NN.out.form)
       go_must (have K := Lib.hid NN.out.kept)
       go_must (clear ho hk hr hn)))
  obtain ⟨bs, hbs⟩ : ∃ bs, b1 ++ more = bs := ⟨_, rfl⟩
  have NN := Lib.hid (hbs ▸ NN.out)
  have HN := Lib.hid (show bs.length = m4 from NN.out.rd.len.1)
  have hm4 : m4 ≤ 500 := by
    have h1 := HL1.out; have h2 := HQL.out; have h3 := HN.out
    rw [← hbs, List.length_append] at h3; omega
  have hc4 : (c4 : Int) ≤ 9223372036854775807 := by have := NN.out.rd.len.2.2.1; unfold maxLen at this; omega
  have hmc4 : m4 ≤ c4 := NN.out.rd.len.2.1
  clear hbs HL1 HQL EB EP P Q HM HF H1
  go_cut [13] (fun v wx => ∃ A5 j c5, ∃ bs2 : List UInt8, v = .slice A5 j c5 ∧ NB w wx (.slice A5 j c5) bs2 ∧ NB w wx (.slice A2 m2 c2) pf ∧ Kept [] w wx)
  case first =>
    clear i2_0 i2_1
    by_cases h0 : m4 = 0
    · have i0 : ¬ (0 : Int) < (m4 : Int) := by omega
      clear h0
      go_wp2
      go_meet
      case rel => exact ⟨_, _, _, _, rfl, NN.out, PF.out, K.out⟩
    · have hpos : 0 < m4 := by omega
      have i0 : (0 : Int) < (m4 : Int) := by omega
      obtain ⟨gb, rfl⟩ : ∃ gb, A4 = some ⟨gb, 0, none⟩ := by
        rcases NN.out.1.2 with ⟨h1, h2⟩ | ⟨g', cap', cur, h1, _⟩
        · rw [HN.out] at h2; omega
        · injection h1 with e1 e2 e3; exact ⟨g', e1⟩
      have hgb : gb < w4.heap.size := NN.out.1.lt gb (by simp [rowOf, Value.ownBlock])
      have hgw : w.heap.size ≤ gb := NN.out.2.2 gb (by simp [rowOf, Value.ownBlock])
      have hgP : gb ∉ rowOf (.slice A2 m2 c2) := HAP.out gb (by simp [rowOf, Value.ownBlock])
      obtain ⟨i, hi⟩ : ∃ i, nat64 place % m4 = i := ⟨_, rfl⟩
      have hiN : i < m4 := by rw [← hi]; exact Nat.mod_lt _ hpos
      have hw1 := wrap_u64 place
      have hw2 := wrap_u64 (m4 : Int)
      rw [nat64_small m4 (by omega)] at hw2
      have hw3 : ((nat64 place : Nat) : Int) % (m4 : Int) = (i : Int) := by rw [← hi]; simp
      obtain ⟨b, hb⟩ : ∃ b, bs[i]? = some b := ⟨_, List.getElem?_eq_getElem (by rw [HN.out]; exact hiN)⟩
      have hub : (u8s bs)[i]? = some (.int .u8 (b.toNat : Int)) := by simp [u8s, hb, u8v]
      have hown := NN.out.1
      rw [HN.out] at hown
      have hcell := hown.cellAt i (by omega)
      have hfz := hown.frozenAt i
      clear hown
      rw [hub] at hcell
      have hxr := xor_u8 b xb
      have ii0 : (0 : Int) ≤ (i : Int) := by omega
      have ii1 : (i : Int) < (m4 : Int) := by omega
      have hN0 : ((m4 : Int) == 0) = false := by simp; omega
      clear hi hb hub
      obtain ⟨a, ha⟩ : ∃ a, nat64 cut % 3 = a := ⟨_, rfl⟩
      obtain ⟨z, hz⟩ : ∃ z, nat64 cut % m4 = z := ⟨_, rfl⟩
      have hbd := cut_bd cut m4 hpos
      rw [ha, hz] at hbd
      have ha2 : a ≤ 2 := by rw [← ha]; omega
      have hzN : z < m4 := by rw [← hz]; exact Nat.mod_lt _ hpos
      obtain ⟨y, hy⟩ : ∃ y, a * z = y := ⟨_, rfl⟩
      have hy2 : y ≤ 1000 := by
        rw [← hy]
        exact Nat.le_trans (Nat.mul_le_mul ha2 (Nat.le_of_lt hzN)) (by omega)
      rw [hy] at hbd
      have hv1 := wrap_u64 cut
      have hv3 : ((nat64 cut : Nat) : Int) % 3 = (a : Int) := by rw [← ha]; simp
      have hv4 : ((nat64 cut : Nat) : Int) % (m4 : Int) = (z : Int) := by rw [← hz]; simp
      have hv5 : (a : Int) * (z : Int) = (y : Int) := by rw [← hy]; simp
      obtain ⟨j, hj⟩ : ∃ j, m4 - y / 2 = j := ⟨_, rfl⟩
      have hv6 : (m4 : Int) - (y : Int) / 2 = (j : Int) := by omega
      have hjN : j ≤ m4 := by omega
      have hj0 : (0 : Int) ≤ (j : Int) := by omega
      have hjc : (j : Int) ≤ (c4 : Int) := by omega
      have hy0 : (0 : Int) ≤ (y : Int) := by omega
      clear ha hz hy hj hbd h0
      go_wp2
      go_meet
      case rel =>
        have kE : Kept [gb] w4 (w4.setCell ⟨gb, i, none⟩ (.int .u8 ((b ^^^ xb).toNat : Nat))) := (Kept.refl _ _).setCell (.inl (by simp)) _
        exact ⟨_, _, _, _, rfl, (NN.out.set HN.out i (b ^^^ xb) rfl).cut (by rw [List.length_set, HN.out]) hjN hpos, PF.out.other kE (fun k hk hm => by simp at hm; subst hm; exact hgP hk) (by simp; omega), K.out.trans kE (fun i hi => .inr (by simp at hi; omega))⟩
  case rest =>
    obtain ⟨A5, j, c5, bs2, rfl, hNN, hPF, hK⟩ := hcut
    clear NN PF K HN hm4 hc4 hmc4 HAP
    have NN := Lib.hid hNN
    have PF := Lib.hid hPF
    have K := Lib.hid hK
    clear hNN hPF hK
    go_wp2
    go_loopg [83] 2 (fun gg i wr => ∃ k : Nat, k ≤ 2 ∧ gg = 2 - k ∧ i = .int .i64 k ∧ NB w wr (.slice A5 j c5) bs2 ∧ NB w wr (.slice A2 m2 c2) pf ∧ Kept [] w wr)
    case atStart => exact ⟨0, by omega, by omega, rfl, NN.out, PF.out, K.out⟩
    case round =>
      obtain ⟨k, hk, rfl, rfl, hNN, hPF, hK⟩ := hrel
      clear NN PF K
      have NN := Lib.hid hNN
      have PF := Lib.hid hPF
      have K := Lib.hid hK
      clear hNN hPF hK
      have hk3 : k = 0 ∨ k = 1 ∨ k = 2 := by omega
      rcases hk3 with rfl | rfl | rfl
      · obtain ⟨y, hy⟩ : ∃ y, decMR bs2 = y := ⟨_, rfl⟩
        obtain ⟨en, hen⟩ : ∃ e, decME bs2 = e := ⟨_, rfl⟩
        have EY := Lib.hid hy
        have EE := Lib.hid hen
        have SY := Lib.hid (sameM_refl y)
        clear hy hen
        go_wp2_with (first
          | (go_at_call 9
             go_must (refine (mDecode_any _ NN.out.rd NN.out.1.lt).mono ?_)
             go_must (rintro e w6 ⟨sl, rfl, hL⟩)
             go_must ((rw [EY.out, EE.out]; rw [EY.out] at hL))
             go_must (have k1 := hL.kept)
             go_must (have NN := Lib.hid (NN.out.go k1))
             go_must (have PF := Lib.hid (PF.out.go k1))
             go_must (have S1 := Lib.hid (LV.wide hL K.out))
             go_must (have K := Lib.hid (K.out.trans k1 (by simp)))
             go_must (obtain ⟨A6, m6, c6, rfl⟩ : ∃ A m c, sl = .slice A m c := by obtain ⟨_, _, hx⟩ := hL; exact Own.form' hx.own)
             go_must (clear hL k1))
          | ((with_reducible show wpList _ _ _ ({ dst := none, op := Op.store 24 (.tmp 19) (.tmp 89), type := _, pos := _, after := _, guard := _ } :: _) _ _)
             go_must (refine wpList_put (t := 24) rfl 24 (.tmp 19) (.tmp 89) rfl _ (by rfl) (by rfl) (by (repeat (first | (apply Blk.new'; simp; done) | apply Blk.alloc | apply Blk.drew))) (by rfl) (by kernel_rfl) (by simp [Value.oneCell']) ?_)
             go_must (intro w7 h1 k1)
             go_must (have X1 := Lib.hid (show Blk w7 w6.heap.size 24 #[.int .i64 y.ver, .int .i64 y.next, .slice A6 m6 c6] from h1))
             go_must (have k2 : Kept [w6.heap.size] w6 w7 := ((Kept.refl [w6.heap.size] w6).alloc _).trans k1 (fun i hi => .inl hi))
             go_must (have NN := Lib.hid (NN.out.newer k2))
             go_must (have PF := Lib.hid (PF.out.newer k2))
             go_must (have S1 := Lib.hid (LV.newer IntOk S1.out k2))
             go_must (have K := Lib.hid (K.out.newer k2))
             go_must (clear h1 k1 k2))
          | (go_at_call 10
             go_must (refine (rmDecode_any _ NN.out.rd NN.out.1.lt).mono ?_)
             go_must (rintro e w8 ⟨sl, rfl, hL⟩)
             go_must ((rw [EY.out, EE.out]; rw [EY.out] at hL))
             go_must (have k1 := hL.kept)
             go_must (have NN := Lib.hid (NN.out.go k1))
             go_must (have PF := Lib.hid (PF.out.go k1))
             go_must (have S1 := Lib.hid (LV.go IntOk S1.out k1))
             go_must (have S2 := Lib.hid (LV.wide hL K.out))
             go_must (have K := Lib.hid (K.out.trans k1 (by simp)))
             go_must (have X1 := Lib.hid (X1.out.kept k1 (by simp)))
             go_must (obtain ⟨A8, m8, c8, rfl⟩ : ∃ A m c, sl = .slice A m c := by obtain ⟨_, _, hx⟩ := hL; exact Own.form' hx.own)
             go_must (clear hL k1))
          | ((with_reducible show wpList _ _ _ ({ dst := none, op := Op.store 24 (.tmp 21) (.tmp 94), type := _, pos := _, after := _, guard := _ } :: _) _ _)
             go_must (refine wpList_put (t := 24) rfl 24 (.tmp 21) (.tmp 94) rfl _ (by rfl) (by rfl) (by (repeat (first | (apply Blk.new'; simp; done) | apply Blk.alloc | apply Blk.drew))) (by rfl) (by kernel_rfl) (by simp [Value.oneCell']) ?_)
             go_must (intro w9 h1 k1)
             go_must (have X2 := Lib.hid (show Blk w9 w8.heap.size 24 #[.int .i64 y.ver, .int .i64 y.next, .slice A8 m8 c8] from h1))
             go_must (have k2 : Kept [w8.heap.size] w8 w9 := ((Kept.refl [w8.heap.size] w8).alloc _).trans k1 (fun i hi => .inl hi))
             go_must (have NN := Lib.hid (NN.out.newer k2))
             go_must (have PF := Lib.hid (PF.out.newer k2))
             go_must (have S1 := Lib.hid (LV.newer IntOk S1.out k2))
             go_must (have S2 := Lib.hid (LV.newer IntOk S2.out k2))
             go_must (have X1 := Lib.hid (X1.out.newer k2))
             go_must (have K := Lib.hid (K.out.newer k2))
             go_must (have hcx1 := X1.out.cell)
             go_must (have hcx2 := X2.out.cell)
             go_must (clear h1 k1 k2))
          | (go_at_call 11
             go_must (obtain ⟨G1, s1⟩ := IntO.small S1.out)
             go_must (obtain ⟨G2, s2⟩ := IntO.small S2.out)
             go_must (refine (same5_any _ y y s1 s2).mono ?_)
             go_must (rintro e w10 ⟨rfl, k1⟩)
             go_must (rw [SY.out])
             go_must (have NN := Lib.hid (NN.out.go k1))
             go_must (have PF := Lib.hid (PF.out.go k1))
             go_must (have K := Lib.hid (K.out.trans k1 (by simp)))
             go_must (clear k1 s1 s2 hcx1 hcx2)))
        go_roundg (2 - (0 + 1))
        case measure => omega
        case rel => exact ⟨0 + 1, by omega, rfl, by go_num, NN.out, PF.out, K.out⟩
      · obtain ⟨y, hy⟩ : ∃ y, decMR pf = y := ⟨_, rfl⟩
        obtain ⟨en, hen⟩ : ∃ e, decME pf = e := ⟨_, rfl⟩
        have EY := Lib.hid hy
        have EE := Lib.hid hen
        have SY := Lib.hid (sameM_refl y)
        clear hy hen
        go_wp2_with (first
          | (go_at_call 9
             go_must (refine (mDecode_any _ PF.out.rd PF.out.1.lt).mono ?_)
             go_must (rintro e w6 ⟨sl, rfl, hL⟩)
             go_must ((rw [EY.out, EE.out]; rw [EY.out] at hL))
             go_must (have k1 := hL.kept)
             go_must (have NN := Lib.hid (NN.out.go k1))
             go_must (have PF := Lib.hid (PF.out.go k1))
             go_must (have S1 := Lib.hid (LV.wide hL K.out))
             go_must (have K := Lib.hid (K.out.trans k1 (by simp)))
             go_must (obtain ⟨A6, m6, c6, rfl⟩ : ∃ A m c, sl = .slice A m c := by obtain ⟨_, _, hx⟩ := hL; exact Own.form' hx.own)
             go_must (clear hL k1))
          | ((with_reducible show wpList _ _ _ ({ dst := none, op := Op.store 24 (.tmp 19) (.tmp 89), type := _, pos := _, after := _, guard := _ } :: _) _ _)
             go_must (refine wpList_put (t := 24) rfl 24 (.tmp 19) (.tmp 89) rfl _ (by rfl) (by rfl) (by (repeat (first | (apply Blk.new'; simp; done) | apply Blk.alloc | apply Blk.drew))) (by rfl) (by kernel_rfl) (by simp [Value.oneCell']) ?_)
             go_must (intro w7 h1 k1)
             go_must (have X1 := Lib.hid (show Blk w7 w6.heap.size 24 #[.int .i64 y.ver, .int .i64 y.next, .slice A6 m6 c6] from h1))
             go_must (have k2 : Kept [w6.heap.size] w6 w7 := ((Kept.refl [w6.heap.size] w6).alloc _).trans k1 (fun i hi => .inl hi))
             go_must (have NN := Lib.hid (NN.out.newer k2))
             go_must (have PF := Lib.hid (PF.out.newer k2))
             go_must (have S1 := Lib.hid (LV.newer IntOk S1.out k2))
             go_must (have K := Lib.hid (K.out.newer k2))
             go_must (clear h1 k1 k2))
          | (go_at_call 10
             go_must (refine (rmDecode_any _ PF.out.rd PF.out.1.lt).mono ?_)
             go_must (rintro e w8 ⟨sl, rfl, hL⟩)
             go_must ((rw [EY.out, EE.out]; rw [EY.out] at hL))
             go_must (have k1 := hL.kept)
             go_must (have NN := Lib.hid (NN.out.go k1))
             go_must (have PF := Lib.hid (PF.out.go k1))
             go_must (have S1 := Lib.hid (LV.go IntOk S1.out k1))
             go_must (have S2 := Lib.hid (LV.wide hL K.out))
             go_must (have K := Lib.hid (K.out.trans k1 (by simp)))
             go_must (have X1 := Lib.hid (X1.out.kept k1 (by simp)))
             go_must (obtain ⟨A8, m8, c8, rfl⟩ : ∃ A m c, sl = .slice A m c := by obtain ⟨_, _, hx⟩ := hL; exact Own.form' hx.own)
             go_must (clear hL k1))
          | ((with_reducible show wpList _ _ _ ({ dst := none, op := Op.store 24 (.tmp 21) (.tmp 94), type := _, pos := _, after := _, guard := _ } :: _) _ _)
             go_must (refine wpList_put (t := 24) rfl 24 (.tmp 21) (.tmp 94) rfl _ (by rfl) (by rfl) (by (repeat (first | (apply Blk.new'; simp; done) | apply Blk.alloc | apply Blk.drew))) (by rfl) (by kernel_rfl) (by simp [Value.oneCell']) ?_)
             go_must (intro w9 h1 k1)
             go_must (have X2 := Lib.hid (show Blk w9 w8.heap.size 24 #[.int .i64 y.ver, .int .i64 y.next, .slice A8 m8 c8] from h1))
             go_must (have k2 : Kept [w8.heap.size] w8 w9 := ((Kept.refl [w8.heap.size] w8).alloc _).trans k1 (fun i hi => .inl hi))
             go_must (have NN := Lib.hid (NN.out.newer k2))
             go_must (have PF := Lib.hid (PF.out.newer k2))
             go_must (have S1 := Lib.hid (LV.newer IntOk S1.out k2))
             go_must (have S2 := Lib.hid (LV.newer IntOk S2.out k2))
             go_must (have X1 := Lib.hid (X1.out.newer k2))
             go_must (have K := Lib.hid (K.out.newer k2))
             go_must (have hcx1 := X1.out.cell)
             go_must (have hcx2 := X2.out.cell)
             go_must (clear h1 k1 k2))
          | (go_at_call 11
             go_must (obtain ⟨G1, s1⟩ := IntO.small S1.out)
             go_must (obtain ⟨G2, s2⟩ := IntO.small S2.out)
             go_must (refine (same5_any _ y y s1 s2).mono ?_)
             go_must (rintro e w10 ⟨rfl, k1⟩)
             go_must (rw [SY.out])
             go_must (have NN := Lib.hid (NN.out.go k1))
             go_must (have PF := Lib.hid (PF.out.go k1))
             go_must (have K := Lib.hid (K.out.trans k1 (by simp)))
             go_must (clear k1 s1 s2 hcx1 hcx2)))
        go_roundg (2 - (1 + 1))
        case measure => omega
        case rel => exact ⟨1 + 1, by omega, rfl, by go_num, NN.out, PF.out, K.out⟩
      · go_wp2_with (first
          | (go_at_call 6
             go_must (refine (awake5_any _).mono ?_)
             go_must (rintro e w99 ⟨rfl, k1⟩)
             go_must (have K := Lib.hid (K.out.trans k1 (by simp)))
             go_must (clear k1)))
        go_ret
        exact ⟨rfl, K.out⟩
theorem ManifestDecodes_any (w : World) {A : Option Addr} {m c : Nat} {B : Option Addr} {n d : Nat} {C : Option Addr} {q t : Nat} (x : ManD) (f : FrameD) (more : List UInt8) (place cut : Int) (xb : UInt8) (h1 : IntArr w (old w) (.slice A m c) x.segs) (h2 : RdB w (old w) (.slice B n d) f.body) (h3 : RdB w (old w) (.slice C q t) more) :
    Calls Try.prog 3 #[.agg #[.int .i64 x.ver, .int .i64 x.next, .slice A m c], .agg #[.int .i64 f.kind, .int .i64 f.ver, .slice B n d], .slice C q t, .int .i64 place, .int .u8 xb.toNat, .int .i64 cut] w fun e w' => e = .returned (.bool true) ∧ Kept [] w w' := by
  by_cases g1 : q ≤ 200
  · by_cases g2 : n ≤ 300
    · exact ManifestDecodes_3 w x f more place cut xb g1 g2 h1 h2 h3
    · exact ManifestDecodes_2 w x f more place cut xb g1 g2 h1 h2 h3
  · exact ManifestDecodes_1 w x f more place cut xb g1 h1 h2 h3
set_option maxRecDepth 100000 in
theorem ManifestDecodes_walk {H : Type} {enc : TypeId × Value → H} {S : Prop} (W : World) (base : Nat) (v0 : Value) (d0 : DataW H) (p0 : List MemPlace) (v1 : Value) (d1 : DataW H) (p1 : List MemPlace) (v2 : Value) (d2 : DataW H) (p2 : List MemPlace) (v3 : Value) (d3 : DataW H) (p3 : List MemPlace) (v4 : Value) (d4 : DataW H) (p4 : List MemPlace) (v5 : Value) (d5 : DataW H) (p5 : List MemPlace)
    (hv0 : Value.okWide Try.prog W .any base 24 v0) (hv1 : Value.okWide Try.prog W .any base 27 v1) (hv2 : Value.okWide Try.prog W .any base 25 v2) (hv3 : Value.okWide Try.prog W .any base 3 v3) (hv4 : Value.okWide Try.prog W .any base 5 v4) (hv5 : Value.okWide Try.prog W .any base 3 v5)
    (h0 : DataW.Trod enc Try.prog W 0 (fun _ => true) true 24 v0 d0 p0) (h1 : DataW.Trod enc Try.prog W 0 (fun _ => true) true 27 v1 d1 p1) (h2 : DataW.Trod enc Try.prog W 0 (fun _ => true) true 25 v2 d2 p2) (h3 : DataW.Trod enc Try.prog W 0 (fun _ => true) true 3 v3 d3 p3) (h4 : DataW.Trod enc Try.prog W 0 (fun _ => true) true 5 v4 d4 p4) (h5 : DataW.Trod enc Try.prog W 0 (fun _ => true) true 3 v5 d5 p5) (_ : S) :
    Calls Try.prog 3 #[v0, v1, v2, v3, v4, v5] W fun e W' => e = .returned (.bool true) ∧ Below W.heap.size W W' := by
  obtain ⟨x, A, m, c, rfl, hx, -⟩ := open_man hv0 h0
  obtain ⟨f, B, n, d, rfl, hf, _⟩ := open_frame hv1 h1
  obtain ⟨C, q, t, more, rfl, hm, _⟩ := open_bytes_arr hv2 h2
  obtain ⟨place, rfl, rfl, rfl, _⟩ := open_int Try.underlying3 hv3 h3
  obtain ⟨xb, rfl⟩ := open_u8 hv4 h4
  obtain ⟨cut, rfl, rfl, rfl, _⟩ := open_int Try.underlying3 hv5 h5
  exact (ManifestDecodes_any W x f more place cut xb hx hf hm).mono fun e W' ⟨h, hk⟩ => ⟨h, hk.below (Nat.le_refl _) (by simp)⟩
end Go.Proofs.Ytflbeipnnmeiaaa
