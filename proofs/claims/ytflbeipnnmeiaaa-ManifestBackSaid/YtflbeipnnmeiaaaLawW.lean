
/-
  The walk of ManifestBack.
-/
import Derived.Test.YtflbeipnnmeiaaaLawV
import Derived.Outline
namespace Go.Proofs.Ytflbeipnnmeiaaa
open Go.RowKit Go.ChangeShapes Go.WideShapes Go.ChangeAt Go.Deep
set_option linter.unusedVariables false

theorem encMF_pos {x : ManD} (h : mayM x = true) : 16 ≤ (encMF x).length := by
  unfold encMF
  rw [if_pos h, putF_len (putM h)]
  omega
theorem isD_dig (n k : Nat) : isD (digB n k) = true := by
  unfold isD
  rw [digB_nat]
  simp
  omega
theorem number_name {n : Nat} (h1 : 1 ≤ n) (h2 : n < 1000000) : numberF (nameL n) = (((n : Nat) : Int), true) := by
  have hv : numV ((nameL n).drop 1) = n := by
    simp only [nameL, List.drop_succ_cons, List.drop_zero, numV, List.foldl_cons, List.foldl_nil, digB_nat]
    simp only [Nat.reducePow, Nat.pow_zero, Nat.pow_one, Nat.div_one]
    omega
  have ho : okD ((nameL n).drop 1) = true := by
    simp [nameL, okD, isD_dig]
  unfold numberF
  rw [if_pos ⟨rfl, rfl, ho⟩, hv]
  simp
  omega
theorem xor_ne {a b : UInt8} (h : b ≠ 0) : a ^^^ b ≠ a := by
  intro e
  apply h
  have : a ^^^ (a ^^^ b) = a ^^^ a := by rw [e]
  simpa [← UInt8.xor_assoc] using this
set_option maxHeartbeats 6400000 in
set_option maxRecDepth 100000 in
theorem ManifestBack_1 (w : World) {A : Option Addr} {m c : Nat} (x : ManD) (at_ seg : Int) (xb : UInt8) (hm : mayM x = false) (h1 : IntArr w (old w) (.slice A m c) x.segs) :
    Calls Try.prog 5 #[.agg #[.int .i64 x.ver, .int .i64 x.next, .slice A m c], .int .i64 at_, .int .u8 xb.toNat, .int .i64 seg] w fun e w' => e = .returned (.bool true) ∧ Kept [] w w' := by
  have P := Lib.hid (show Blk (w.alloc (.cells #[.int .i64 x.ver, .int .i64 x.next, .slice A m c] 24)) w.heap.size 24 #[.int .i64 x.ver, .int .i64 x.next, .slice A m c] from by (repeat (first | (apply Blk.new'; simp; done) | apply Blk.alloc | apply Blk.drew)))
  have K := Lib.hid (show Kept [] w (w.alloc (.cells #[.int .i64 x.ver, .int .i64 x.next, .slice A m c] 24)) by (repeat (first | exact Kept.refl _ _ | apply Kept.alloc | apply Kept.drew)))
  have H1 := Lib.hid (fun w' (hk : Kept [] w w') => IntArr.kept h1 hk (by simp))
  clear h1
  have EB := Lib.hid (show encMF x = [] by unfold encMF; rw [if_neg (by rw [hm]; simp)])
  have EE := Lib.hid (show encME x = 1 by unfold encME; rw [if_neg (by rw [hm]; simp)])
  clear hm
  go_enter Try.func5, Try.ntmps5
  go_wp2_with (first
    | (go_at_call 14
       go_must (refine (mEncode_any _ x (H1.out _ K.out)).mono ?_)
       go_must (rintro e w1 ⟨v1, rfl, hN⟩)
       go_must (rw [EB.out] at hN)
       go_must (rw [EE.out])
       go_must (have k1 := hN.kept)
       go_must (have NN := Lib.hid (hN.wide K.out))
       go_must (have P := Lib.hid (P.out.kept k1 (by simp)))
       go_must (have K := Lib.hid (K.out.trans k1 (by simp)))
       go_must (obtain ⟨A1, m1, c1, rfl⟩ := hN.form)
       go_must (clear hN k1)
       go_must (obtain rfl : m1 = 0 := by have := NN.out.rd.len.1; simpa using this.symm))
    | (go_at_call 6
       go_must (refine (awake5_any _).mono ?_)
       go_must (rintro e w99 ⟨rfl, k1⟩)
       go_must (have K := Lib.hid (K.out.trans k1 (by simp)))
       go_must (clear k1)))
  go_ret
  exact ⟨rfl, K.out⟩
set_option maxHeartbeats 6400000 in
set_option maxRecDepth 100000 in
theorem ManifestBack_2 (w : World) {A : Option Addr} {m c : Nat} (x : ManD) (at_ seg : Int) (xb : UInt8) (hm : mayM x = true) (h1 : IntArr w (old w) (.slice A m c) x.segs) :
    Calls Try.prog 5 #[.agg #[.int .i64 x.ver, .int .i64 x.next, .slice A m c], .int .i64 at_, .int .u8 xb.toNat, .int .i64 seg] w fun e w' => e = .returned (.bool true) ∧ Kept [] w w' := by
  have P := Lib.hid (show Blk (w.alloc (.cells #[.int .i64 x.ver, .int .i64 x.next, .slice A m c] 24)) w.heap.size 24 #[.int .i64 x.ver, .int .i64 x.next, .slice A m c] from by (repeat (first | (apply Blk.new'; simp; done) | apply Blk.alloc | apply Blk.drew)))
  have K := Lib.hid (show Kept [] w (w.alloc (.cells #[.int .i64 x.ver, .int .i64 x.next, .slice A m c] 24)) by (repeat (first | exact Kept.refl _ _ | apply Kept.alloc | apply Kept.drew)))
  have H1 := Lib.hid (fun w' (hk : Kept [] w w') => IntArr.kept h1 hk (by simp))
  clear h1
  obtain ⟨bs, hbs⟩ : ∃ b, encMF x = b := ⟨_, rfl⟩
  have hb := man_back hm
  have hf0 : ∀ bs, encMF x = bs → ∀ (i : Nat) (hi : i < bs.length) (y : UInt8), y ≠ bs[i] → decME (bs.set i y) ≠ 0 := by rintro _ rfl i hi y hy; exact man_flip hm hi hy
  have hs := fun k => man_short hm (k := k)
  have hl := encMF_len x
  have hp := encMF_pos hm
  have hf := hf0 bs hbs
  simp only [hbs] at hb hs hl hp
  have EB := Lib.hid hbs
  have EE := Lib.hid (show encME x = 0 by unfold encME; rw [if_pos hm])
  have HB := Lib.hid hb
  have HF := Lib.hid hf
  have HS := Lib.hid hs
  have HL := Lib.hid hl
  have HP := Lib.hid hp
  have HM := Lib.hid hm
  have SX := Lib.hid (show sameM x x = true from sameM_refl x)
  clear hbs hb hf hf0 hs hl hp hm
  go_enter Try.func5, Try.ntmps5
  go_upto_if 52 with (first
    | (go_at_call 14
       go_must (refine (mEncode_any _ x (H1.out _ K.out)).mono ?_)
       go_must (rintro e w1 ⟨v1, rfl, hN⟩)
       go_must (rw [EB.out] at hN)
       go_must (rw [EE.out])
       go_must (have k1 := hN.kept)
       go_must (have NN := Lib.hid (hN.wide K.out))
       go_must (have P := Lib.hid (P.out.kept k1 (by simp)))
       go_must (have K := Lib.hid (K.out.trans k1 (by simp)))
       go_must (obtain ⟨A1, m1, c1, rfl⟩ := hN.form)
       go_must (clear hN k1))
    | (go_at_call 9
       go_must (refine (mDecode_any _ NN.out.rd NN.out.1.lt).mono ?_)
       go_must (rintro e w2 ⟨sl, rfl, hL⟩)
       go_must ((rw [HB.out.1, HB.out.2]; rw [HB.out.2] at hL))
       go_must (have k1 := hL.kept)
       go_must (have NN := Lib.hid (NN.out.go k1))
       go_must (have P := Lib.hid (P.out.kept k1 (by simp)))
       go_must (have S := Lib.hid (LV.wide hL K.out))
       go_must (have K := Lib.hid (K.out.trans k1 (by simp)))
       go_must (obtain ⟨A2, m2, c2, rfl⟩ : ∃ A m c, sl = .slice A m c := by obtain ⟨_, _, hx⟩ := hL; exact Own.form' hx.own)
       go_must (clear hL k1))
    | ((with_reducible show wpList _ _ _ ({ dst := none, op := Op.store 24 (.tmp 11) (.tmp 36), type := _, pos := _, after := _, guard := _ } :: _) _ _)
       go_must (refine wpList_put (t := 24) rfl 24 (.tmp 11) (.tmp 36) rfl _ (by rfl) (by rfl) (by (repeat (first | (apply Blk.new'; simp; done) | apply Blk.alloc | apply Blk.drew))) (by rfl) (by kernel_rfl) (by simp [Value.oneCell']) ?_)
       go_must (intro w3 h1 k1)
       go_must (have k2 : Kept [w2.heap.size] w2 w3 := ((Kept.refl [w2.heap.size] w2).alloc _).trans k1 (fun i hi => .inl hi))
       go_must (have X := Lib.hid (show Blk w3 w2.heap.size 24 #[.int .i64 x.ver, .int .i64 x.next, .slice A2 m2 c2] from h1))
       go_must (have NN := Lib.hid (NN.out.newer k2))
       go_must (have S := Lib.hid (LV.newer IntOk S.out k2))
       go_must (have P := Lib.hid (P.out.newer k2))
       go_must (have hcP := P.out.cell)
       go_must (have hcX := X.out.cell)
       go_must (have K := Lib.hid (K.out.newer k2))
       go_must (clear h1 k1 k2))
    | (go_at_call 13
       go_must (obtain ⟨G1, s1⟩ := IntO.small S.out)
       go_must (refine (mSame_any _ x x (H1.out _ K.out) s1).mono ?_)
       go_must (rintro e w4 ⟨rfl, k1⟩)
       go_must (rw [SX.out])
       go_must (have NN := Lib.hid (NN.out.go k1))
       go_must (have S := Lib.hid (LV.go IntOk S.out k1))
       go_must (have X := Lib.hid (X.out.kept k1 (by simp)))
       go_must (have hcX := X.out.cell)
       go_must (have K := Lib.hid (K.out.trans k1 (by simp)))
       go_must (clear k1 s1))
    | (go_at_call 12
       go_must (obtain ⟨G1, s1⟩ := IntO.small S.out)
       go_must (refine (mMay_any _ x s1).mono ?_)
       go_must (rintro e w5 ⟨rfl, k1⟩)
       go_must (rw [HM.out])
       go_must (have NN := Lib.hid (NN.out.go k1))
       go_must (have K := Lib.hid (K.out.trans k1 (by simp)))
       go_must (clear k1 s1 hcP hcX)))
  have hN := NN.out.rd.len
  have HN := Lib.hid hN.1
  have hm1 : m1 ≤ 300 := by have := HL.out; have := hN.1; omega
  have hm16 : 16 ≤ m1 := by have := HP.out; have := hN.1; omega
  have hmc1 := hN.2.1
  have hc1 : (c1 : Int) ≤ 9223372036854775807 := by have := hN.2.2.1; unfold maxLen at this; omega
  obtain ⟨i, hi⟩ : ∃ i, nat64 at_ % m1 = i := ⟨_, rfl⟩
  have hiN : i < m1 := by rw [← hi]; exact Nat.mod_lt _ (by omega)
  have hw1 := wrap_u64 at_
  have hw2 := wrap_u64 (m1 : Int)
  rw [nat64_small m1 (by omega)] at hw2
  have hw3 : ((nat64 at_ : Nat) : Int) % (m1 : Int) = (i : Int) := by rw [← hi]; simp
  have ii0 : (0 : Int) ≤ (i : Int) := by omega
  have ii1 : (i : Int) < (m1 : Int) := by omega
  have hN0 : ((m1 : Int) == 0) = false := by simp; omega
  clear hi hN P S X HL HP HB HM SX EB EE H1
  go_cut [] (fun wx => NB w wx (.slice A1 m1 c1) bs ∧ Kept [] w wx)
  case first =>
    clear HS
    by_cases h0 : xb = 0
    · subst h0
      have i0 : (((0 : UInt8).toNat : Nat) : Int) = 0 := rfl
      go_wp2
      go_meet
      case rel => exact ⟨NN.out, K.out⟩
    · have i0 : ((((xb.toNat : Nat) : Int)) == 0) = false := by rw [beq_eq_false_iff_ne]; intro e; exact h0 (UInt8.toNat_inj.1 (by simpa using e))
      have i1 : ((((xb.toNat : Nat) : Int)) != 0) = true := by rw [bne, i0]; rfl
      have hy : ∀ (b : UInt8), b ^^^ xb ≠ b := fun b => xor_ne h0
      have HY := Lib.hid hy
      clear hy h0
      have HRD : Hid (Rd (w5.alloc (.cells #[] 5)) A1 (u8s bs)) := Lib.hid ((NN.out.go ((Kept.refl [] w5).alloc _)).rd).rd
      have HXR := Lib.hid (fun b => xor_u8 b xb)
      go_wp2_with (first
        | (at_builtin
           go_must (refine wpList_app _ rfl (.tmp 53) (.tmp 54) 25 rfl elem_u8 (by rfl) (World.ownsRow_made w5 #[] 0 (Nat.zero_le _) (by unfold maxLen; omega) rfl) (by rfl) HRD.out (by rw [u8s_len, HN.out, Nat.mul_one]) (u8s_one _) (by unfold maxLen; omega) (by omega) ?_)
           go_must (intro v6 w6 ho hk hr)
           go_must (have k6 : Kept [] w5 w6 := ((Kept.refl [] w5).alloc _).trans hk (fun i hi => .inr (by simp [rowOf, Value.ownBlock] at hi; omega)))
           go_must (have hrr : ∀ k ∈ rowOf v6, w5.heap.size ≤ k := fun k hk' => (hr k hk').elim (fun h3 => by simp [rowOf, Value.ownBlock] at h3; omega) (fun h3 => by simp at h3; omega))
           go_must (have hcc : NB w5 w6 v6 bs := NB.of ⟨by simpa using ho, k6, hrr⟩)
           go_must (clear hrr)
           go_must (obtain ⟨gb, c6, rfl, hmc6, hc6⟩ := hcc.some (by rw [HN.out]; omega))
           go_must (rw [HN.out] at hcc hmc6 ⊢)
           go_must (have hgb : gb < w6.heap.size := hcc.1.lt gb (by simp [rowOf, Value.ownBlock]))
           go_must (have hgw : w5.heap.size ≤ gb := hcc.2.2 gb (by simp [rowOf, Value.ownBlock]))
           go_must (obtain ⟨b, hb⟩ : ∃ b, bs[i]? = some b := ⟨_, List.getElem?_eq_getElem (by rw [HN.out]; exact hiN)⟩)
           go_must (have hub : (u8s bs)[i]? = some (.int .u8 (b.toNat : Int)) := by simp [u8s, hb, u8v])
           go_must (have hown := hcc.1)
           go_must (rw [HN.out] at hown)
           go_must (have hcell := hown.cellAt i (by omega))
           go_must (have hfz := hown.frozenAt i)
           go_must (rw [hub] at hcell)
           go_must (have hxr := HXR.out b)
           go_must (have HBI := Lib.hid hb)
           go_must (unfold maxLen at hc6)
           go_must (have CC := Lib.hid hcc)
           go_must (have NN5 := NN)
           go_must (have NN := Lib.hid (NN.out.go k6))
           go_must (have K6 := Lib.hid (K.out.trans k6 (by simp)))
           go_must (clear ho hk hr hcc hown hub hb k6))
        | (go_at_call 9
           go_must (have kE : Kept [gb] w6 (w6.setCell ⟨gb, i, none⟩ (.int .u8 ((b ^^^ xb).toNat : Nat))) := (Kept.refl _ _).setCell (.inl (by simp)) _)
           go_must (have hcc := CC.out.set HN.out i (b ^^^ xb) rfl)
           go_must (have NN := Lib.hid (NN.out.other kE (fun k hk hm => by simp at hm; have := NN5.out.1.lt k hk; omega) (by simp; have := K.out.size; omega)))
           go_must (have K7 := Lib.hid (K6.out.trans kE (fun i hi => .inr (by simp at hi; have := K.out.size; omega))))
           go_must (refine (mDecode_any _ hcc.rd hcc.1.lt).mono ?_)
           go_must (rintro e w8 ⟨sl, rfl, hL⟩)
           go_must (have hne : decME (bs.set i (b ^^^ xb)) ≠ 0 := HF.out i (by rw [HN.out]; exact hiN) (b ^^^ xb) (by have h9 := HBI.out; rw [List.getElem?_eq_getElem (by rw [HN.out]; exact hiN)] at h9; injection h9 with h9; rw [h9]; exact HY.out b))
           go_must (generalize decME (bs.set i (b ^^^ xb)) = en at *)
           go_must (generalize decMR (bs.set i (b ^^^ xb)) = y at *)
           go_must (have b2 : (en == 0) = false := by simpa using hne)
           go_must (have k1 := hL.kept)
           go_must (have NN := Lib.hid (NN.out.go k1))
           go_must (have K := Lib.hid (K7.out.trans k1 (by simp)))
           go_must (obtain ⟨A8, m8, c8, rfl⟩ : ∃ A m c, sl = .slice A m c := by obtain ⟨_, _, hx⟩ := hL; exact Own.form' hx.own)
           go_must (clear hL k1 kE hcc hcell hfz hxr hne))
        | ((with_reducible show wpList _ _ _ ({ dst := none, op := Op.store 24 (.tmp 14) (.tmp 72), type := _, pos := _, after := _, guard := _ } :: _) _ _)
           go_must (refine wpList_put (t := 24) rfl 24 (.tmp 14) (.tmp 72) rfl _ (by rfl) (by rfl) (by (repeat (first | (apply Blk.new'; simp; done) | apply Blk.alloc | apply Blk.drew))) (by rfl) (by kernel_rfl) (by simp [Value.oneCell']) ?_)
           go_must (intro w9 h1 k1)
           go_must (have k2 : Kept [w8.heap.size] w8 w9 := ((Kept.refl [w8.heap.size] w8).alloc _).trans k1 (fun i hi => .inl hi))
           go_must (have NN := Lib.hid (NN.out.newer k2))
           go_must (have K := Lib.hid (K.out.newer k2))
           go_must (clear h1 k1 k2)))
      all_goals
        go_meet
        case rel => exact ⟨NN.out, K.out⟩
  case rest =>
    obtain ⟨hNN, hK⟩ := hcut
    clear NN K HF
    have NC := Lib.hid (hNN.cut HN.out (j := i) (by omega) (by omega))
    have K := Lib.hid hK
    have hne := HS.out i (by rw [HN.out]; exact hiN)
    obtain ⟨en, hen⟩ : ∃ e, decME (bs.take i) = e := ⟨_, rfl⟩
    rw [hen] at hne
    have EN := Lib.hid hen
    have b2 : (en == 0) = false := by simpa using hne
    have c2 : (en != 0) = true := by simpa using hne
    have hij : (i : Int) ≤ (c1 : Int) := by omega
    have HV3 := Lib.hid hw3
    clear hNN hK hen hne HS
    have hs1 := wrap_u64 seg
    obtain ⟨q, hq⟩ : ∃ q, nat64 seg % 999999 = q := ⟨_, rfl⟩
    have hq9 : q < 999999 := by rw [← hq]; exact Nat.mod_lt _ (by omega)
    have hs3 : ((nat64 seg : Nat) : Int) % 999999 = (q : Int) := by rw [← hq]; simp
    have HNM := Lib.hid (show nameF (((q : Nat) : Int) + 1) = nameL (q + 1) by
      unfold nameF
      rw [if_pos (by omega)]
      congr 1)
    have HNU := Lib.hid (number_name (n := q + 1) (by omega) (by omega))
    clear hq
    go_wp2_with (first
      | (go_at_call 9
         go_must (refine (mDecode_any _ NC.out.rd NC.out.1.lt).mono ?_)
         go_must (rintro e w11 ⟨sl, rfl, hL⟩)
         go_must (rw [EN.out])
         go_must (generalize decMR (bs.take i) = y at *)
         go_must (have k1 := hL.kept)
         go_must (have K := Lib.hid (K.out.trans k1 (by simp)))
         go_must (obtain ⟨A8, m8, c8, rfl⟩ : ∃ A m c, sl = .slice A m c := by obtain ⟨_, _, hx⟩ := hL; exact Own.form' hx.own)
         go_must (clear hL k1))
      | ((with_reducible show wpList _ _ _ ({ dst := none, op := Op.store 24 (.tmp 16) (.tmp 87), type := _, pos := _, after := _, guard := _ } :: _) _ _)
         go_must (refine wpList_put (t := 24) rfl 24 (.tmp 16) (.tmp 87) rfl _ (by rfl) (by rfl) (by (repeat (first | (apply Blk.new'; simp; done) | apply Blk.alloc | apply Blk.drew))) (by rfl) (by kernel_rfl) (by simp [Value.oneCell']) ?_)
         go_must (intro w12 h1 k1)
         go_must (have k2 : Kept [w11.heap.size] w11 w12 := ((Kept.refl [w11.heap.size] w11).alloc _).trans k1 (fun i hi => .inl hi))
         go_must (have K := Lib.hid (K.out.newer k2))
         go_must (clear h1 k1 k2))
      | (go_at_call 16
         go_must (refine (Name_any _ _).mono ?_)
         go_must (rintro e w13 ⟨rfl, k1⟩)
         go_must (rw [HNM.out])
         go_must (have K := Lib.hid (K.out.trans k1 (by simp)))
         go_must (clear k1))
      | (go_at_call 15
         go_must (refine (Number_any _ _ (by show (nameL (q + 1)).length ≤ maxLen; simp [nameL, maxLen])).mono ?_)
         go_must (rintro e w14 ⟨rfl, rfl⟩)
         go_must (rw [show (strOf (nameL (q + 1))).data.toList = nameL (q + 1) from rfl, HNU.out]))
      | (go_at_call 6
         go_must (refine (awake5_any _).mono ?_)
         go_must (rintro e w99 ⟨rfl, k1⟩)
         go_must (have K := Lib.hid (K.out.trans k1 (by simp)))
         go_must (clear k1)))
    go_ret
    exact ⟨rfl, K.out⟩
theorem ManifestBack_any (w : World) {A : Option Addr} {m c : Nat} (x : ManD) (at_ seg : Int) (xb : UInt8) (h1 : IntArr w (old w) (.slice A m c) x.segs) :
    Calls Try.prog 5 #[.agg #[.int .i64 x.ver, .int .i64 x.next, .slice A m c], .int .i64 at_, .int .u8 xb.toNat, .int .i64 seg] w fun e w' => e = .returned (.bool true) ∧ Kept [] w w' := by
  cases hm : mayM x
  · exact ManifestBack_1 w x at_ seg xb hm h1
  · exact ManifestBack_2 w x at_ seg xb hm h1
set_option maxRecDepth 100000 in
theorem ManifestBack_walk {H : Type} {enc : TypeId × Value → H} {S : Prop} (W : World) (base : Nat) (v0 : Value) (d0 : DataW H) (p0 : List MemPlace) (v1 : Value) (d1 : DataW H) (p1 : List MemPlace) (v2 : Value) (d2 : DataW H) (p2 : List MemPlace) (v3 : Value) (d3 : DataW H) (p3 : List MemPlace)
    (hv0 : Value.okWide Try.prog W .any base 24 v0) (hv1 : Value.okWide Try.prog W .any base 3 v1) (hv2 : Value.okWide Try.prog W .any base 5 v2) (hv3 : Value.okWide Try.prog W .any base 3 v3)
    (h0 : DataW.Trod enc Try.prog W 0 (fun _ => true) true 24 v0 d0 p0) (h1 : DataW.Trod enc Try.prog W 0 (fun _ => true) true 3 v1 d1 p1) (h2 : DataW.Trod enc Try.prog W 0 (fun _ => true) true 5 v2 d2 p2) (h3 : DataW.Trod enc Try.prog W 0 (fun _ => true) true 3 v3 d3 p3) (_ : S) :
    Calls Try.prog 5 #[v0, v1, v2, v3] W fun e W' => e = .returned (.bool true) ∧ Below W.heap.size W W' := by
  obtain ⟨x, A, m, c, rfl, hx, -⟩ := open_man hv0 h0
  obtain ⟨at_, rfl, rfl, rfl, _⟩ := open_int Try.underlying3 hv1 h1
  obtain ⟨xb, rfl⟩ := open_u8 hv2 h2
  obtain ⟨seg, rfl, rfl, rfl, _⟩ := open_int Try.underlying3 hv3 h3
  exact (ManifestBack_any W x at_ seg xb hx).mono fun e W' ⟨h, hk⟩ => ⟨h, hk.below (Nat.le_refl _) (by simp)⟩
end Go.Proofs.Ytflbeipnnmeiaaa
