/-
  A stream received: what the document's Receive does.
-/
import Derived.Test.YtkacghjglicjiaaGreatRecO
import Derived.Test.YtkacghjglicjiaaGreatRecL
namespace Go.Proofs.YtkacghjglicjiaaGreat
set_option linter.unusedVariables false
section
open Go.RowKit Go.ChangeShapes Go.WideShapes Go.ChangeAt Go.Deep Go.MapKept
theorem rSameRs_all (w : World) {G1 G2 : List Nat} {A B : Option Addr} {m c n d : Nat} (l l' : List RecD) (h1 : RecArr w G1 (.slice A m c) l) (h2 : RecArr w G2 (.slice B n d) l') (hG1 : ∀ k ∈ G1, k < w.heap.size) (hG2 : ∀ k ∈ G2, k < w.heap.size) (hb1 : ∀ r ∈ l, r.backs.length ≤ 1000) (hb2 : ∀ r ∈ l', r.backs.length ≤ 1000) :
    Calls Tryz.prog 39 #[.slice A m c, .slice B n d] w fun e w' => e = .returned (.bool (sameRs l l')) ∧ Kept [] w w' := by
  by_cases hmn : m = n
  · subst hmn
    exact rSameRs_any w l l' h1 h2 hG1 hG2 hb1 hb2
  · have hres := Lib.hid (show sameRs l l' = false from sameRs_ne (by rw [h1.len.1, h2.len.1]; exact hmn))
    have b1 : ((m : Int) != (n : Int)) = true := by simp; omega
    clear h1 h2 hb1 hb2 hG1 hG2 hmn
    go_enter Tryz.func39, Tryz.ntmps39
    go_wp2
    go_ret
    exact ⟨ret_bool hres.out.symm, Kept.refl _ _⟩
set_option maxRecDepth 100000 in
set_option maxHeartbeats 32000000 in
theorem rReceive_any (w : World) {G : List Nat} {A : Option Addr} {m c : Nat} (bs : List UInt8) (h : RdB w G (.slice A m c) bs) (hm : m ≤ 1000000) :
    Calls Tryz.prog 16 #[.slice A m c] w fun e w' => RecvPost w bs e w' := by
  have hbl := h.len.1
  have H := Lib.hid h
  obtain ⟨sb1, sb2⟩ := scan_bounds bs.length bs
  have SB1 := Lib.hid (show (scanF bs).1.length ≤ 100000 by unfold scanF; omega)
  have SB2 := Lib.hid (show ∀ f ∈ (scanF bs).1, f.body.length ≤ 1000000 from fun f hf => Nat.le_trans (sb2 f hf) (by omega))
  obtain ⟨fs, hfs⟩ : ∃ fs, (scanF bs).1 = fs := ⟨_, rfl⟩
  obtain ⟨sn, hsn⟩ : ∃ n, (scanF bs).2.1 = n := ⟨_, rfl⟩
  obtain ⟨se, hse⟩ : ∃ e, (scanF bs).2.2 = e := ⟨_, rfl⟩
  have HF := Lib.hid (And.intro hfs (And.intro hsn hse))
  rw [hfs] at SB1 SB2
  clear h sb1 sb2 hbl hfs hsn hse
  have X0 := Lib.hid (Blk.new w 26 #[.int .i64 0, .slice none 0 0, .slice none 0 0, .slice none 0 0])
  have K0 := Lib.hid ((Kept.refl [] w).alloc (.cells #[.int .i64 0, .slice none 0 0, .slice none 0 0, .slice none 0 0] 26))
  have hs0 : w.heap.size < (w.alloc (.cells #[.int .i64 0, .slice none 0 0, .slice none 0 0, .slice none 0 0] 26)).heap.size := by simp
  go_enter Tryz.func16, Tryz.ntmps16
  go_upto_region 1 with fail
  obtain ⟨wa, hwa⟩ : ∃ wa, w.alloc (.cells #[.int .i64 0, .slice none 0 0, .slice none 0 0, .slice none 0 0] 26) = wa := ⟨_, rfl⟩
  rw [hwa] at X0 K0 hs0
  simp only [hwa]
  clear hwa
  go_upto_region 3 with (first
    | (((with_reducible show wpList _ _ _ ({ dst := none, op := Op.store 26 (.tmp 5) (.tmp 23), type := _, pos := _, after := _, guard := _ } :: _) _ _); refine wpList_put (t := 26) rfl 26 (.tmp 5) (.tmp 23) rfl _ (by rfl) (by rfl) (by (repeat (first | (apply Blk.new'; simp; done) | apply Blk.alloc | apply Blk.drew))) (by rfl) (by kernel_rfl) (by simp [Value.oneCell']) ?_; intro wb hbb hkb; have Hbb := Lib.hid hbb; have Hkb := Lib.hid hkb; clear hbb hkb)
       have KB := Lib.hid (K0.out.trans (((Kept.refl [] wa).alloc _).trans Hkb.out (fun i hi => .inr (by simp at hi; omega))) (by simp))
       have XB := Lib.hid (X0.out.kept (((Kept.refl [] wa).alloc _).trans Hkb.out (fun i hi => .inr (by simp at hi; omega)) : Kept [] wa wb) (by simp)))
    | (go_at_call 37
       refine (rScan_any _ G A m c bs (H.out.kept KB.out (by simp)) (by omega)).mono ?_
       rintro e w1 ⟨v, rfl, hv⟩
       rw [HF.out.1] at hv
       rw [HF.out.2.1, HF.out.2.2]
       have FV := Lib.hid hv
       have K1 := Lib.hid (KB.out.trans (LV.kept hv) (by simp))
       have X1 := Lib.hid (XB.out.kept (LV.kept hv) (by simp))
       have Z1 := Lib.hid (Hbb.out.kept (LV.kept hv) (by simp))
       have hz1 := Z1.out.cell
       have hwb : Hid (w.heap.size < wa.heap.size) := Lib.hid hs0
       clear hv))
  obtain ⟨zb, hzb⟩ : ∃ z, wa.heap.size = z := ⟨_, rfl⟩
  rw [hzb] at Z1 hz1 hwb
  simp only [hzb]
  clear X0 K0 hs0 hzb
  obtain ⟨Gf, hfa, hfg⟩ := LV.arr FrOk FV.out
  obtain ⟨FA, fm, fc, rfl⟩ := (by obtain ⟨_, _, hq⟩ := FV.out; exact Own.form' hq.own : ∃ A m c, v = .slice A m c)
  have FRA := Lib.hid hfa
  have FRG := Lib.hid hfg
  have hfl := (FrArr.len hfa)
  have FL := Lib.hid hfl.1
  have hfc : fc ≤ 2 ^ 63 - 1 := hfl.2.2.1
  have hfmc : fm ≤ fc := hfl.2.1
  have hfm : fm ≤ 100000 := by rw [← hfl.1]; exact SB1.out
  clear hfa hfg hfl
  by_cases hse : se = 0
  rotate_left
  · have i1 : (se != 0) = true := by simp [hse]
    have HM := Lib.hid (recv_scan (bs := bs) (by rw [HF.out.2.2]; exact hse))
    clear hse
    go_wp2_with (first
      | (((with_reducible show wpList _ _ _ ({ dst := none, op := Op.store 26 (.tmp 2) (.tmp 32), type := _, pos := _, after := _, guard := _ } :: _) _ _); refine wpList_put (t := 26) rfl 26 (.tmp 2) (.tmp 32) rfl _ (by rfl) (by rfl) (by exact X1.out) (by rfl) (by kernel_rfl) (by simp [Value.oneCell']) ?_; intro wz hbz hkz; have Hbz := Lib.hid hbz; have Hkz := Lib.hid hkz; clear hbz hkz)
         have KZ9 := Lib.hid ((K1.out).trans Hkz.out (fun i hi => .inr (by simp at hi; omega)))))
    refine bodyPost_ret (results_cell2 (t := 26) Tryz.results16 (by rfl) Hbz.out _ Tryz.underlying26 rfl (by kernel_rfl)) rfl ?_
    exact RecvPost.bad KZ9.out HM.out
  have HSE := Lib.hid hse
  have i1 : (se != 0) = false := by simp [hse]
  clear hse hz1
  go_wp2
  go_loopg [9, 35] fm (fun gg sl i wr => ∃ (j : Nat) (B : Option Addr) (n d : Nat), j ≤ fm ∧ gg = fm - j ∧ sl = .slice B n d ∧ i = .int .i64 j ∧ RecN w1 wr (.slice B n d) ((fs.take j).map decR) ∧ (∀ f ∈ fs.take j, decE f = 0) ∧ Blk wr w.heap.size 26 #[.int .i64 0, .slice none 0 0, .slice none 0 0, .slice none 0 0] ∧ Blk wr zb 26 #[.int .i64 0, .slice none 0 0, .slice none 0 0, .slice none 0 0])
  case atStart => exact ⟨0, none, 0, 0, by omega, by omega, rfl, rfl, ⟨[], [], ⟨Own.nil _ _ _, by simp [rowOf, Value.ownBlock], Decs.nil, by simp, Kept.refl [] w1⟩, by simp⟩, by simp, X1.out, Z1.out⟩
  case round =>
    obtain ⟨j, B, n, d, hj, rfl, rfl, rfl, hrn, hde, hbx, hbz⟩ := hrel
    have RN := Lib.hid hrn
    have DE := Lib.hid hde
    have Bx := Lib.hid hbx
    have Bz := Lib.hid hbz
    have KR := Lib.hid hrn.kept
    have KW := Lib.hid (K1.out.trans hrn.kept (by simp))
    have hsw : w.heap.size < wr.heap.size := hbx.lt
    have hszw : zb < wr.heap.size := hbz.lt
    have hln := (by obtain ⟨_, hq, _⟩ := hrn.arr; exact hq.len : ((fs.take j).map decR).length = n ∧ n ≤ d ∧ d ≤ maxLen ∧ (B = none → n = 0 ∧ d = 0))
    unfold maxLen at hln
    have LN := Lib.hid hln.1
    have ld1 : n ≤ d := hln.2.1
    have ld2 : d ≤ 2 ^ 63 - 1 := hln.2.2.1
    clear hrn hde hbx hbz hln
    by_cases hlt : j < fm
    · have hkl : j < fs.length := by rw [FL.out]; exact hlt
      obtain ⟨g, o, FB, fn, fd, rfl, hg, hgG, q0, q1, q2, hr⟩ := (FrArr.kept FRA.out KR.out (by simp)).at (k := j) hkl
      have Hr := Lib.hid hr
      have HGR := Lib.hid (fun k (hk : k ∈ Gf) => Nat.lt_of_lt_of_le (FRG.out k hk) KR.out.size)
      have hfn : fn ≤ 1000000 := by rw [← hr.len.1]; exact SB2.out _ (List.getElem_mem hkl)
      have HMEM := Lib.hid (List.getElem_mem hkl)
      have Htk := Lib.hid (show fs.take (j + 1) = fs.take j ++ [fs[j]] by rw [List.take_add_one, List.getElem?_eq_getElem hkl]; rfl)
      have HJL := Lib.hid (show ((fs.take j).map decR).length ≤ 100000 by rw [List.length_map, List.length_take]; omega)
      clear hr
      generalize fs[j]'hkl = f at *
      have i0 : (0 : Int) ≤ (j : Int) := by omega
      have i2 : (j : Int) < (fm : Int) := by omega
      have iw : IntKind.i64.wrap ((j : Int) + 1) = (j : Int) + 1 := IntWalk.i64_in _ (by omega)
      obtain ⟨r, hr⟩ : ∃ r, decR f = r := ⟨_, rfl⟩
      have HR := Lib.hid hr
      obtain ⟨de, hdec⟩ : ∃ e, decE f = e := ⟨_, rfl⟩
      have HDE := Lib.hid hdec
      clear hr hdec
      by_cases hd0 : de = 0
      rotate_left
      · have i3 : (de != 0) = true := by simp [hd0]
        have HM : Hid (recvM bs = (nilV, 0, 3)) := Lib.hid (by
          unfold recvM
          rw [HF.out.1, HF.out.2.2, if_neg (by rw [HSE.out]; simp), if_pos (any_dec HMEM.out (by rw [HDE.out]; exact hd0))])
        clear hd0
        go_wp2_with (first
          | (((with_reducible show wpList _ _ _ ({ dst := none, op := Op.store 45 (.tmp 11) (.tmp 38), type := _, pos := _, after := _, guard := _ } :: _) _ _); refine wpList_put (t := 45) rfl 45 (.tmp 11) (.tmp 38) rfl _ (by rfl) (by rfl) (by (repeat (first | (apply Blk.new'; simp; done) | apply Blk.alloc | apply Blk.drew))) (by rfl) (by kernel_rfl) (by simp [Value.oneCell']) ?_; intro w5 hb5 hk5; have Hb5 := Lib.hid hb5; have Hk5 := Lib.hid hk5; clear hb5 hk5)
             have K5 := Lib.hid (((Kept.refl [] wr).alloc _).trans Hk5.out (fun i hi => .inr (by simp at hi; omega)))
             have hx5 := Hb5.out.cell)
          | (go_at_call 38
             refine (rDecode_any _ f (Hr.out.kept K5.out (by simp)) (fun k hk => Nat.lt_of_lt_of_le (HGR.out k hk) K5.out.size) hfn).mono ?_
             rintro e w6 ⟨sl, rfl, hsl⟩
             rw [HR.out] at hsl ⊢
             rw [HDE.out]
             have BV6 := Lib.hid hsl
             have K6 := Lib.hid (K5.out.trans (LV.kept hsl) (by simp))
             obtain ⟨D1, d1, d2, rfl⟩ := BkV.form hsl
             clear hsl hx5)
          | (((with_reducible show wpList _ _ _ ({ dst := none, op := Op.store 43 (.tmp 12) (.tmp 42), type := _, pos := _, after := _, guard := _ } :: _) _ _); refine wpList_put (t := 43) rfl 43 (.tmp 12) (.tmp 42) rfl _ (by rfl) (by rfl) (by (repeat (first | (apply Blk.new'; simp; done) | apply Blk.alloc | apply Blk.drew))) (by rfl) (by kernel_rfl) (by simp [Value.oneCell']) ?_; intro w7 hb7 hk7; have Hb7 := Lib.hid hb7; have Hk7 := Lib.hid hk7; clear hb7 hk7)
             have hk67 := (((Kept.refl [] w6).alloc _).trans Hk7.out (fun i hi => .inr (by simp at hi; omega)) : Kept [] w6 w7)
             have K7 := Lib.hid (K6.out.trans hk67 (by simp))
             have hy7 := Hb7.out.cell
             have BV7 := Lib.hid (LV.wide (LV.go BkOk BV6.out hk67) (KR.out.trans K5.out (by simp)))
             have X7 := Lib.hid (Bx.out.kept K7.out (by simp))
             have hz7 := (Bz.out.kept K7.out (by simp)).cell
             clear hk67)
          | (((with_reducible show wpList _ _ _ ({ dst := none, op := Op.store 26 (.tmp 2) (.tmp 46), type := _, pos := _, after := _, guard := _ } :: _) _ _); refine wpList_put (t := 26) rfl 26 (.tmp 2) (.tmp 46) rfl _ (by rfl) (by rfl) (by exact X7.out) (by rfl) (by kernel_rfl) (by simp [Value.oneCell']) ?_; intro wz hbz hkz; have Hbz := Lib.hid hbz; have Hkz := Lib.hid hkz; clear hbz hkz)
             have KZ9 := Lib.hid ((KW.out.trans K7.out (by simp)).trans Hkz.out (fun i hi => .inr (by simp at hi; omega)))))
        refine bodyPost_ret (results_cell2 (t := 26) Tryz.results16 (by rfl) Hbz.out _ Tryz.underlying26 rfl (by kernel_rfl)) rfl ?_
        exact RecvPost.bad KZ9.out HM.out
      · have i3 : (de != 0) = false := by simp [hd0]
        have HD0 := Lib.hid hd0
        clear hd0
        go_wp2_with (first
          | (((with_reducible show wpList _ _ _ ({ dst := none, op := Op.store 45 (.tmp 11) (.tmp 38), type := _, pos := _, after := _, guard := _ } :: _) _ _); refine wpList_put (t := 45) rfl 45 (.tmp 11) (.tmp 38) rfl _ (by rfl) (by rfl) (by (repeat (first | (apply Blk.new'; simp; done) | apply Blk.alloc | apply Blk.drew))) (by rfl) (by kernel_rfl) (by simp [Value.oneCell']) ?_; intro w5 hb5 hk5; have Hb5 := Lib.hid hb5; have Hk5 := Lib.hid hk5; clear hb5 hk5)
             have K5 := Lib.hid (((Kept.refl [] wr).alloc _).trans Hk5.out (fun i hi => .inr (by simp at hi; omega)))
             have hx5 := Hb5.out.cell)
          | (go_at_call 38
             refine (rDecode_any _ f (Hr.out.kept K5.out (by simp)) (fun k hk => Nat.lt_of_lt_of_le (HGR.out k hk) K5.out.size) hfn).mono ?_
             rintro e w6 ⟨sl, rfl, hsl⟩
             rw [HR.out] at hsl ⊢
             rw [HDE.out]
             have BV6 := Lib.hid hsl
             have K6 := Lib.hid (K5.out.trans (LV.kept hsl) (by simp))
             obtain ⟨D1, d1, d2, rfl⟩ := BkV.form hsl
             clear hsl hx5)
          | (((with_reducible show wpList _ _ _ ({ dst := none, op := Op.store 43 (.tmp 12) (.tmp 42), type := _, pos := _, after := _, guard := _ } :: _) _ _); refine wpList_put (t := 43) rfl 43 (.tmp 12) (.tmp 42) rfl _ (by rfl) (by rfl) (by (repeat (first | (apply Blk.new'; simp; done) | apply Blk.alloc | apply Blk.drew))) (by rfl) (by kernel_rfl) (by simp [Value.oneCell']) ?_; intro w7 hb7 hk7; have Hb7 := Lib.hid hb7; have Hk7 := Lib.hid hk7; clear hb7 hk7)
             have hk67 := (((Kept.refl [] w6).alloc _).trans Hk7.out (fun i hi => .inr (by simp at hi; omega)) : Kept [] w6 w7)
             have K7 := Lib.hid (K6.out.trans hk67 (by simp))
             have hy7 := Hb7.out.cell
             have BV7 := Lib.hid (LV.wide (LV.go BkOk BV6.out hk67) (KR.out.trans K5.out (by simp)))
             have X7 := Lib.hid (Bx.out.kept K7.out (by simp))
             have hz7 := (Bz.out.kept K7.out (by simp)).cell
             clear hk67)
          | (at_builtin
             have hk8 : Kept [] w7 (w7.alloc (.cells #[.int .i64 r.kind, .int .u32 (r.tup.src.toNat : Nat), .int .u32 (r.tup.dst.toNat : Nat), .int .i64 r.tup.proto, .int .i64 r.tup.sport, .int .i64 r.tup.dport, .int .i64 r.fb, .int .i64 r.fg, .int .i64 r.fs, .int .i64 r.gen, .slice D1 d1 d2, .int .i64 r.back, .int .i64 r.until_, .int .i64 r.count] 43)) := (Kept.refl [] w7).alloc _
             have hN8 := (RN.out.go K7.out).go hk8
             have hB8 := LV.go BkOk BV7.out hk8
             apply wpList_recb (r := r) rfl (.tmp 47) (.tmp 49) rfl
             case hs => exact rfl
             case hN => exact hN8
             case hx => exact rfl
             case hb => exact Blk.new _ _ _
             case hr => exact hB8
             case hl => exact HJL.out
             intro A9 m9 c9 w9 hR9 hk9 hn9
             have R9 := Lib.hid hR9
             have X9 := Lib.hid ((Bx.out.kept (K7.out.trans hk8 (by simp)) (by simp)).kept hk9 (fun hm => by have := (hn9 _ hm).1; have := K1.out.size; have := X1.out.lt; omega))
             have Z9 := Lib.hid ((Bz.out.kept (K7.out.trans hk8 (by simp)) (by simp)).kept hk9 (fun hm => by have := (hn9 _ hm).1; have := Z1.out.lt; omega))
             clear hk8 hN8 hB8 hR9 hk9 hn9))
        go_roundg (fm - (j + 1))
        case measure => omega
        case rel =>
          refine ⟨j + 1, _, _, _, by omega, rfl, rfl, by go_num, by rw [Htk.out, List.map_append]; have := R9.out; rw [← HR.out] at this; exact this, ?_, X9.out, Z9.out⟩
          intro x hx
          rw [Htk.out] at hx
          rcases List.mem_append.1 hx with hx | hx
          · exact DE.out x hx
          · obtain rfl : x = f := by simpa using hx
            rw [HDE.out, HD0.out]
    · obtain rfl : fm = j := by omega
      have i2 : ¬ (fm : Int) < (fm : Int) := by omega
      obtain ⟨L, hL⟩ : ∃ L, fs.map decR = L := ⟨_, rfl⟩
      have htf : fs.take fm = fs := List.take_of_length_le (by rw [FL.out]; exact Nat.le_refl _)
      obtain ⟨ob, hob⟩ : ∃ b, (fs.any fun f => decide (f.ver ≠ 3)) = b := ⟨_, rfl⟩
      have OL := Lib.hid hob
      have RL : Hid (RecN w1 wr (.slice B n d) L) := Lib.hid (by have := RN.out; rw [htf, hL] at this; exact this)
      have LL : Hid (L.length = n) := Lib.hid (by have := LN.out; rw [htf, hL] at this; exact this)
      have BK : Hid (∀ r ∈ L, r.backs.length ≤ 1000) := Lib.hid (fun r hr => by
        rw [← hL] at hr
        obtain ⟨f, _, rfl⟩ := List.mem_map.1 hr
        have := dec_backs f
        omega)
      have RM : Hid (recvM bs = if wholeB L = false then (nilV, 0, 11) else if ob = true then (nilV, 0, 10) else if (L.getD (L.length - 2) default).kind ≠ 4 ∨ (L.getD (L.length - 2) default).back ≠ 65535 ∨ (runV nilV (L.take (L.length - 2))).2 ≠ 0 ∨ sameRs (recsV (runV nilV (L.take (L.length - 2))).1) (L.take (L.length - 2)) = false then (nilV, 0, 3)
          else ((runV nilV (L.take (L.length - 2))).1, (L.getD (L.length - 2) default).until_, 0)) := Lib.hid (by
        have hde : (fs.any fun f => decide (decE f ≠ 0)) = false := by
          rw [List.any_eq_false]
          intro f hf
          have := DE.out f (by rw [htf]; exact hf)
          simp [this]
        unfold recvM
        rw [HF.out.1, HF.out.2.2, if_neg (by rw [HSE.out]; simp), hde, if_neg (by simp), hL, OL.out])
      obtain ⟨Gx, hx1, hx2⟩ := RL.out.arr
      have AR := Lib.hid hx1
      have AG := Lib.hid hx2
      have hzr := Bz.out.cell
      clear hL htf hx1 hx2 hob
      by_cases h2 : n < 2
      · have HM : Hid (recvM bs = (nilV, 0, 11)) := Lib.hid (by rw [RM.out, if_pos (whole_short (by rw [LL.out]; exact h2))])
        have iw : IntKind.i64.wrap ((n : Int) - 1) = (n : Int) - 1 := IntWalk.i64_in _ (by omega)
        have j1 : (n : Int) - 1 < 1 := by omega
        clear h2
        go_wp2_with (first
          | (((with_reducible show wpList _ _ _ ({ dst := none, op := Op.store 26 (.tmp 2) (.tmp 74), type := _, pos := _, after := _, guard := _ } :: _) _ _); refine wpList_put (t := 26) rfl 26 (.tmp 2) (.tmp 74) rfl _ (by rfl) (by rfl) (by exact Bx.out) (by rfl) (by kernel_rfl) (by simp [Value.oneCell']) ?_; intro wz hbz hkz; have Hbz := Lib.hid hbz; have Hkz := Lib.hid hkz; clear hbz hkz)
             have KZ9 := Lib.hid ((KW.out).trans Hkz.out (fun i hi => .inr (by simp at hi; omega)))))
        refine bodyPost_ret (results_cell2 (t := 26) Tryz.results16 (by rfl) Hbz.out _ Tryz.underlying26 rfl (by kernel_rfl)) rfl ?_
        exact RecvPost.bad KZ9.out HM.out
      obtain ⟨k, rfl⟩ : ∃ k, n = k + 2 := ⟨n - 2, by omega⟩
      have hkl : k + 1 < L.length := by rw [LL.out]; omega
      have hWL := whole_long (l := L) (n := k + 1) LL.out (by omega) (List.getElem?_eq_getElem hkl)
      obtain ⟨g, o, C, cn, cd, rfl, hg, hgG, hat, hbk⟩ := AR.out.at (k := k + 1) hkl
      generalize L[k + 1]'hkl = r1 at *
      have WL := Lib.hid hWL
      have hat0 := hat
      have HAT := Lib.hid hat0
      obtain ⟨c0, c1', c2', c3', c4, c5', c6, c7', c8, c9, c10, c11, c12, c13⟩ := hat
      have iw1 : IntKind.i64.wrap ((k : Int) + 2 - 1) = (k : Int) + 1 := by rw [show (k : Int) + 2 - 1 = (k : Int) + 1 by omega]; exact IntWalk.i64_in _ (by omega)
      have iw2 : IntKind.i64.wrap ((k : Int) + 1) = (k : Int) + 1 := IntWalk.i64_in _ (by omega)
      have iw3 : IntKind.i64.wrap ((k : Int) + 1 - 1) = (k : Int) := by rw [Int.add_sub_cancel]; exact IntWalk.i64_in _ (by omega)
      have iw4 : IntKind.i64.wrap (k : Int) = (k : Int) := IntWalk.i64_in _ (by omega)
      have j0 : (0 : Int) ≤ (k : Int) := by omega
      have j00 : (0 : Int) ≤ (k : Int) + 1 := by omega
      have j1 : ¬ (k : Int) + 1 < 1 := by omega
      have j2 : (k : Int) + 1 < (k : Int) + 2 := by omega
      have j3 : (k : Int) < (k : Int) + 2 := by omega
      have j4 : (k : Int) + 1 ≤ (d : Int) := by omega
      have j5 : (k : Int) ≤ (d : Int) := by omega
      have jt : ((k : Int) + 1).toNat = k + 1 := by omega
      obtain ⟨b6, hb6⟩ : ∃ b, (r1.kind != 6) = b := ⟨_, rfl⟩
      obtain ⟨bc, hbc⟩ : ∃ b, (r1.count != (k : Int) + 1) = b := ⟨_, rfl⟩
      have WB : Hid ((b6 || bc) = true → recvM bs = (nilV, 0, 11)) := Lib.hid (fun hh => by
        rw [RM.out, if_pos]
        rw [hWL]
        rw [← hb6, ← hbc] at hh
        by_cases q1 : r1.kind = 6
        · by_cases q2 : r1.count = ((k + 1 : Nat) : Int)
          · exact absurd hh (by simp [q1, q2])
          · rw [decide_eq_false q2]; simp
        · rw [decide_eq_false q1]; rfl)
      have WC : Hid (b6 = false → bc = false → wholeB L = !((L.take (k + 1)).any fun r => decide (r.kind = 6))) := Lib.hid (fun h1 h2 => by
        rw [← hb6] at h1
        rw [← hbc] at h2
        have q1 : r1.kind = 6 := by simpa using h1
        have q2 : r1.count = ((k + 1 : Nat) : Int) := by have : r1.count = (k : Int) + 1 := (by simpa using h2); rw [this]; rfl
        rw [hWL, q1, q2]
        simp)
      clear hWL hbk hkl h2
      by_cases hbad : (b6 || bc) = true
      · have HM := Lib.hid (WB.out hbad)
        have hways : b6 = true ∨ (b6 = false ∧ bc = true) := by cases b6 <;> cases bc <;> simp at hbad ⊢
        clear hbad
        rcases hways with rfl | ⟨rfl, rfl⟩
        all_goals
          go_wp2_with (first
            | (((with_reducible show wpList _ _ _ ({ dst := none, op := Op.store 26 (.tmp 2) (.tmp 74), type := _, pos := _, after := _, guard := _ } :: _) _ _); refine wpList_put (t := 26) rfl 26 (.tmp 2) (.tmp 74) rfl _ (by rfl) (by rfl) (by exact Bx.out) (by rfl) (by kernel_rfl) (by simp [Value.oneCell']) ?_; intro wz hbz hkz; have Hbz := Lib.hid hbz; have Hkz := Lib.hid hkz; clear hbz hkz)
               have KZ9 := Lib.hid ((KW.out).trans Hkz.out (fun i hi => .inr (by simp at hi; omega)))))
          refine bodyPost_ret (results_cell2 (t := 26) Tryz.results16 (by rfl) Hbz.out _ Tryz.underlying26 rfl (by kernel_rfl)) rfl ?_
          exact RecvPost.bad KZ9.out HM.out
      obtain ⟨rfl, rfl⟩ : b6 = false ∧ bc = false := by cases b6 <;> cases bc <;> simp at hbad ⊢
      have WH := Lib.hid (WC.out rfl rfl)
      clear hbad hzr
      have AT1 := Lib.hid (arr_take (k := k + 1) AR.out (by omega))
      obtain ⟨T1, hT1⟩ : ∃ T, L.take (k + 1) = T := ⟨_, rfl⟩
      rw [hT1] at AT1 WH
      have TL1 : Hid (T1.length = k + 1) := Lib.hid (by rw [← hT1, List.length_take, LL.out]; omega)
      have HT1 := Lib.hid hT1
      clear hT1
      go_wp2
      clear c0 c1' c2' c3' c4 c5' c6 c7' c8 c9 c10 c11 c12 c13
      generalize wr = wq at *
      go_loopg [79] (k + 1) (fun gg i ws => ∃ j : Nat, j ≤ k + 1 ∧ gg = k + 1 - j ∧ i = .int .i64 j ∧ (∀ r ∈ T1.take j, r.kind ≠ 6) ∧ Kept [] wq ws)
      case atStart => exact ⟨0, by omega, by omega, rfl, by simp, Kept.refl _ _⟩
      case round =>
        obtain ⟨j, hj2, rfl, rfl, hs2, hks⟩ := hrel
        have HS2 := Lib.hid hs2
        have KS := Lib.hid hks
        clear hs2 hks
        by_cases hlt2 : j < k + 1
        · have hkl2 : j < T1.length := by rw [TL1.out]; exact hlt2
          obtain ⟨g', o', C', cn', cd', hge, hg', hgG', hat', hbk'⟩ := (RecArr.kept AT1.out KS.out (by simp)).at (k := j) hkl2
          injection hge with hge
          injection hge with hge1 hge2
          subst hge1 hge2
          have HMEM := Lib.hid (List.getElem_mem hkl2)
          have Htk2 := Lib.hid (show T1.take (j + 1) = T1.take j ++ [T1[j]] by rw [List.take_add_one, List.getElem?_eq_getElem hkl2]; rfl)
          generalize T1[j]'hkl2 = x at *
          obtain ⟨c0, c1', c2', c3', c4, c5', c6, c7', c8, c9, c10, c11, c12, c13⟩ := hat'
          have l0 : (0 : Int) ≤ (j : Int) := by omega
          have l1 : (j : Int) < (k : Int) + 1 := by omega
          have lw : IntKind.i64.wrap ((j : Int) + 1) = (j : Int) + 1 := IntWalk.i64_in _ (by omega)
          have hzs := (Bz.out.kept KS.out (by simp)).cell
          by_cases hx6 : x.kind = 6
          · have bx : (x.kind == 6) = true := by simp [hx6]
            have HM : Hid (recvM bs = (nilV, 0, 11)) := Lib.hid (by
              rw [RM.out, if_pos]
              rw [WH.out, List.any_eq_true.2 ⟨x, HMEM.out, by simp [hx6]⟩]
              rfl)
            clear hx6 hbk'
            go_wp2_with (first
              | (((with_reducible show wpList _ _ _ ({ dst := none, op := Op.store 43 (.tmp 16) (.tmp 82), type := _, pos := _, after := _, guard := _ } :: _) _ _); refine wpList_put (t := 43) rfl 43 (.tmp 16) (.tmp 82) rfl _ (by rfl) (by rfl) (by (repeat (first | (apply Blk.new'; simp; done) | apply Blk.alloc | apply Blk.drew))) (by rfl) (by kernel_rfl) (by simp [Value.oneCell']) ?_; intro w5 hb5 hk5; have Hb5 := Lib.hid hb5; have Hk5 := Lib.hid hk5; clear hb5 hk5)
                 have K5 := Lib.hid (KS.out.trans (((Kept.refl [] wr).alloc _).trans Hk5.out (fun i hi => .inr (by simp at hi; omega))) (by simp))
                 have hx5 := Hb5.out.cell
                 have hz5 := (Bz.out.kept K5.out (by simp)).cell
                 have X5 := Lib.hid (Bx.out.kept K5.out (by simp)))
              | (((with_reducible show wpList _ _ _ ({ dst := none, op := Op.store 26 (.tmp 2) (.tmp 86), type := _, pos := _, after := _, guard := _ } :: _) _ _); refine wpList_put (t := 26) rfl 26 (.tmp 2) (.tmp 86) rfl _ (by rfl) (by rfl) (by exact X5.out) (by rfl) (by kernel_rfl) (by simp [Value.oneCell']) ?_; intro wz hbz hkz; have Hbz := Lib.hid hbz; have Hkz := Lib.hid hkz; clear hbz hkz)
                 have KZ9 := Lib.hid ((KW.out.trans K5.out (by simp)).trans Hkz.out (fun i hi => .inr (by simp at hi; omega)))))
            refine bodyPost_ret (results_cell2 (t := 26) Tryz.results16 (by rfl) Hbz.out _ Tryz.underlying26 rfl (by kernel_rfl)) rfl ?_
            exact RecvPost.bad KZ9.out HM.out
          · have bx : (x.kind == 6) = false := by simp [hx6]
            have HX6 := Lib.hid hx6
            clear hx6 hbk'
            go_wp2_with (first
              | (((with_reducible show wpList _ _ _ ({ dst := none, op := Op.store 43 (.tmp 16) (.tmp 82), type := _, pos := _, after := _, guard := _ } :: _) _ _); refine wpList_put (t := 43) rfl 43 (.tmp 16) (.tmp 82) rfl _ (by rfl) (by rfl) (by (repeat (first | (apply Blk.new'; simp; done) | apply Blk.alloc | apply Blk.drew))) (by rfl) (by kernel_rfl) (by simp [Value.oneCell']) ?_; intro w5 hb5 hk5; have Hb5 := Lib.hid hb5; have Hk5 := Lib.hid hk5; clear hb5 hk5)
                 have K5 := Lib.hid (KS.out.trans (((Kept.refl [] wr).alloc _).trans Hk5.out (fun i hi => .inr (by simp at hi; omega))) (by simp))
                 have hx5 := Hb5.out.cell))
            go_roundg (k + 1 - (j + 1))
            case measure => omega
            case rel =>
              refine ⟨j + 1, by omega, rfl, by go_num, ?_, K5.out⟩
              intro y hy
              rw [Htk2.out] at hy
              rcases List.mem_append.1 hy with hy | hy
              · exact HS2.out y hy
              · obtain rfl : y = x := by simpa using hy
                exact HX6.out
        · obtain rfl : j = k + 1 := by omega
          have l1 : ¬ (k : Int) + 1 < (k : Int) + 1 := by omega
          have HW : Hid (wholeB L = true) := Lib.hid (by
            rw [WH.out]
            have : (T1.any fun r => decide (r.kind = 6)) = false := by
              rw [List.any_eq_false]
              intro r hr
              have := HS2.out r (by rw [List.take_of_length_le (by rw [TL1.out]; exact Nat.le_refl _)]; exact hr)
              simp [this]
            rw [this]
            rfl)
          go_wp2
          go_loopg [90] fm (fun gg i wt => ∃ j : Nat, j ≤ fm ∧ gg = fm - j ∧ i = .int .i64 j ∧ (∀ f ∈ fs.take j, f.ver = 3) ∧ Kept [] wq wt)
          case atStart => exact ⟨0, by omega, by omega, rfl, by simp, KS.out⟩
          case round =>
            obtain ⟨j, hj3, rfl, rfl, hs3, hkt⟩ := hrel
            have HS3 := Lib.hid hs3
            have KT := Lib.hid hkt
            clear hs3 hkt
            by_cases hlt3 : j < fm
            · have hkl3 : j < fs.length := by rw [FL.out]; exact hlt3
              obtain ⟨g', o', FB, fn, fd, rfl, hg', hgG', q0, q1, q2, hr'⟩ := (FrArr.kept FRA.out (KR.out.trans KT.out (by simp)) (by simp)).at (k := j) hkl3
              have HMEM := Lib.hid (List.getElem_mem hkl3)
              have Htk3 := Lib.hid (show fs.take (j + 1) = fs.take j ++ [fs[j]] by rw [List.take_add_one, List.getElem?_eq_getElem hkl3]; rfl)
              generalize fs[j]'hkl3 = f at *
              have l0 : (0 : Int) ≤ (j : Int) := by omega
              have l2 : (j : Int) < (fm : Int) := by omega
              have lw : IntKind.i64.wrap ((j : Int) + 1) = (j : Int) + 1 := IntWalk.i64_in _ (by omega)
              by_cases hv3 : f.ver = 3
              · have bx : (f.ver != 3) = false := by simp [hv3]
                have HV3 := Lib.hid hv3
                clear hv3 hr'
                go_wp2_with (first
                  | (((with_reducible show wpList _ _ _ ({ dst := none, op := Op.store 45 (.tmp 18) (.tmp 93), type := _, pos := _, after := _, guard := _ } :: _) _ _); refine wpList_put (t := 45) rfl 45 (.tmp 18) (.tmp 93) rfl _ (by rfl) (by rfl) (by (repeat (first | (apply Blk.new'; simp; done) | apply Blk.alloc | apply Blk.drew))) (by rfl) (by kernel_rfl) (by simp [Value.oneCell']) ?_; intro w5 hb5 hk5; have Hb5 := Lib.hid hb5; have Hk5 := Lib.hid hk5; clear hb5 hk5)
                     have K5 := Lib.hid (KT.out.trans (((Kept.refl [] wr).alloc _).trans Hk5.out (fun i hi => .inr (by simp at hi; omega))) (by simp))
                     have hx5 := Hb5.out.cell))
                go_roundg (fm - (j + 1))
                case measure => omega
                case rel =>
                  refine ⟨j + 1, by omega, rfl, by go_num, ?_, K5.out⟩
                  intro y hy
                  rw [Htk3.out] at hy
                  rcases List.mem_append.1 hy with hy | hy
                  · exact HS3.out y hy
                  · obtain rfl : y = f := by simpa using hy
                    exact HV3.out
              · have bx : (f.ver != 3) = true := by simp [hv3]
                have HM : Hid (recvM bs = (nilV, 0, 10)) := Lib.hid (by
                  rw [RM.out, if_neg (by rw [HW.out]; simp), if_pos]
                  rw [← OL.out]
                  exact List.any_eq_true.2 ⟨f, HMEM.out, by simp [hv3]⟩)
                clear hv3 hr'
                go_wp2_with (first
                  | (((with_reducible show wpList _ _ _ ({ dst := none, op := Op.store 45 (.tmp 18) (.tmp 93), type := _, pos := _, after := _, guard := _ } :: _) _ _); refine wpList_put (t := 45) rfl 45 (.tmp 18) (.tmp 93) rfl _ (by rfl) (by rfl) (by (repeat (first | (apply Blk.new'; simp; done) | apply Blk.alloc | apply Blk.drew))) (by rfl) (by kernel_rfl) (by simp [Value.oneCell']) ?_; intro w5 hb5 hk5; have Hb5 := Lib.hid hb5; have Hk5 := Lib.hid hk5; clear hb5 hk5)
                     have K5 := Lib.hid (KT.out.trans (((Kept.refl [] wr).alloc _).trans Hk5.out (fun i hi => .inr (by simp at hi; omega))) (by simp))
                     have hx5 := Hb5.out.cell
                     have hz5 := (Bz.out.kept K5.out (by simp)).cell
                     have X5 := Lib.hid (Bx.out.kept K5.out (by simp)))
                  | (((with_reducible show wpList _ _ _ ({ dst := none, op := Op.store 26 (.tmp 2) (.tmp 97), type := _, pos := _, after := _, guard := _ } :: _) _ _); refine wpList_put (t := 26) rfl 26 (.tmp 2) (.tmp 97) rfl _ (by rfl) (by rfl) (by exact X5.out) (by rfl) (by kernel_rfl) (by simp [Value.oneCell']) ?_; intro wz hbz hkz; have Hbz := Lib.hid hbz; have Hkz := Lib.hid hkz; clear hbz hkz)
                     have KZ9 := Lib.hid ((KW.out.trans K5.out (by simp)).trans Hkz.out (fun i hi => .inr (by simp at hi; omega)))))
                refine bodyPost_ret (results_cell2 (t := 26) Tryz.results16 (by rfl) Hbz.out _ Tryz.underlying26 rfl (by kernel_rfl)) rfl ?_
                exact RecvPost.bad KZ9.out HM.out
            · obtain rfl : j = fm := by omega
              have HO : Hid (ob = false) := Lib.hid (by
                rw [← OL.out, List.any_eq_false]
                intro f hf
                have := HS3.out f (by rw [List.take_of_length_le (by rw [FL.out]; exact Nat.le_refl _)]; exact hf)
                simp [this])
              have hkc : k < L.length := by rw [LL.out]; omega
              have RM2 := RM.out
              rw [if_neg (by rw [HW.out]; simp), if_neg (by rw [HO.out]; simp), LL.out, Nat.add_sub_cancel, List.getD_eq_getElem?_getD, List.getElem?_eq_getElem hkc, Option.getD_some] at RM2
              obtain ⟨g', o', C', cn', cd', hge, hg', hgG', hat', hbk'⟩ := (RecArr.kept AR.out KT.out (by simp)).at (k := k) hkc
              injection hge with hge
              injection hge with hge1 hge2
              subst hge1 hge2
              have AT := Lib.hid (arr_take (k := k) AR.out (by omega))
              have BT : Hid (∀ r ∈ L.take k, r.backs.length ≤ 1000) := Lib.hid (fun r hr => BK.out r (List.mem_of_mem_take hr))
              have TL : Hid ((L.take k).length = k) := Lib.hid (by rw [List.length_take, LL.out]; omega)
              generalize L[k]'hkc = r at *
              obtain ⟨T, hT⟩ : ∃ T, L.take k = T := ⟨_, rfl⟩
              rw [hT] at AT BT RM2 TL
              obtain ⟨ok, hok⟩ : ∃ b, (decide ((runV nilV T).2 = 0) && sameRs (recsV (runV nilV T).1) T) = b := ⟨_, rfl⟩
              obtain ⟨bk, hbk1⟩ : ∃ b, (r.kind != 4) = b := ⟨_, rfl⟩
              obtain ⟨bb, hbb1⟩ : ∃ b, (r.back != 65535) = b := ⟨_, rfl⟩
              have HC : Hid (recvM bs = if (bk || (bb || !ok)) = true then (nilV, 0, 3) else ((runV nilV T).1, r.until_, 0)) := Lib.hid (by
                rw [RM2, ← hok, ← hbk1, ← hbb1]
                by_cases q1 : r.kind = 4
                · by_cases q2 : r.back = 65535
                  · by_cases q3 : (runV nilV T).2 = 0
                    · cases q4 : sameRs (recsV (runV nilV T).1) T <;> simp [q1, q2, q3]
                    · simp [q1, q2, q3]
                  · simp [q1, q2]
                · simp [q1])
              have HOK := Lib.hid hok
              clear RM2 hok hT hkc hbk'
              obtain ⟨c0, c1', c2', c3', c4, c5', c6, c7', c8, c9, c10, c11, c12, c13⟩ := hat'
              go_upto_region 30 with (first
                | (((with_reducible show wpList _ _ _ ({ dst := none, op := Op.store 43 (.tmp 19) (.tmp 103), type := _, pos := _, after := _, guard := _ } :: _) _ _); refine wpList_put (t := 43) rfl 43 (.tmp 19) (.tmp 103) rfl _ (by rfl) (by rfl) (by (repeat (first | (apply Blk.new'; simp; done) | apply Blk.alloc | apply Blk.drew))) (by rfl) (by kernel_rfl) (by simp [Value.oneCell']) ?_; intro w7 hb7 hk7; have Hb7 := Lib.hid hb7; have Hk7 := Lib.hid hk7; clear hb7 hk7)
                   have hk7 := (((Kept.refl [] wr).alloc _).trans Hk7.out (fun i hi => .inr (by simp at hi; omega)) : Kept [] wr w7)
                   have K7 := Lib.hid (KT.out.trans hk7 (by simp))
                   have X7 := Lib.hid (Bx.out.kept K7.out (by simp))
                   have Z7 := Lib.hid (Bz.out.kept K7.out (by simp))
                   have B7 := Hb7
                   have hx7 := Hb7.out.cell
                   have hz7 := Z7.out.cell
                   clear hk7 c0 c1' c2' c3' c4 c5' c6 c7' c8 c9 c10 c11 c12 c13))
              by_cases hbad : (bk || bb) = true
              · have HM : Hid (recvM bs = (nilV, 0, 3)) := Lib.hid (by
                  rw [HC.out, if_pos]
                  cases bk <;> cases bb <;> simp at hbad ⊢)
                have hways : bk = true ∨ (bk = false ∧ bb = true) := by cases bk <;> cases bb <;> simp at hbad ⊢
                clear hbad
                rcases hways with rfl | ⟨rfl, rfl⟩
                all_goals
                  go_wp2_with (first
                    | (((with_reducible show wpList _ _ _ ({ dst := none, op := Op.store 26 (.tmp 2) (.tmp 112), type := _, pos := _, after := _, guard := _ } :: _) _ _); refine wpList_put (t := 26) rfl 26 (.tmp 2) (.tmp 112) rfl _ (by rfl) (by rfl) (by exact X7.out) (by rfl) (by kernel_rfl) (by simp [Value.oneCell']) ?_; intro wz hbz hkz; have Hbz := Lib.hid hbz; have Hkz := Lib.hid hkz; clear hbz hkz)
                       have KZ9 := Lib.hid ((KW.out.trans K7.out (by simp)).trans Hkz.out (fun i hi => .inr (by simp at hi; omega)))))
                  refine bodyPost_ret (results_cell2 (t := 26) Tryz.results16 (by rfl) Hbz.out _ Tryz.underlying26 rfl (by kernel_rfl)) rfl ?_
                  exact RecvPost.bad KZ9.out HM.out
              obtain ⟨rfl, rfl⟩ : bk = false ∧ bb = false := by cases bk <;> cases bb <;> simp at hbad ⊢
              have HC2 : Hid (recvM bs = if ok = true then ((runV nilV T).1, r.until_, 0) else (nilV, 0, 3)) := Lib.hid (by rw [HC.out]; cases ok <;> rfl)
              clear hbad HC
              go_upto_region 33 with fail
              have D8 : Hid (DvAt (w7.alloc (.cells #[.int .i64 0, .slice none 0 0, .slice none 0 0, .slice none 0 0] 62)) w7.heap.size [] nilV) := Lib.hid
                ⟨none, 0, 0, none, 0, 0, none, 0, 0, Blk.new w7 _ _, ⟨arr_none _ _ _ _ _ rfl, arr_none _ _ _ _ _ rfl, arr_none _ _ _ _ _ rfl, by simp⟩, by simp⟩
              have K8 := Lib.hid ((Kept.refl [] w7).alloc (.cells #[.int .i64 0, .slice none 0 0, .slice none 0 0, .slice none 0 0] 62))
              obtain ⟨w8, hw8⟩ : ∃ x, w7.alloc (.cells #[.int .i64 0, .slice none 0 0, .slice none 0 0, .slice none 0 0] 62) = x := ⟨_, rfl⟩
              rw [hw8] at D8 K8
              simp only [hw8]
              clear hw8 hx7 hz7
              go_wp2
              generalize wr = wp at *
              go_loopg [120] k (fun gg i wu => ∃ (j : Nat) (S : StD) (V : VwD) (GV : List Nat), j ≤ k ∧ gg = k - j ∧ i = .int .i64 j ∧ OkS S ∧ IsView S V ∧ runV nilV T = runV V (T.drop j) ∧ DvAt wu w7.heap.size GV V ∧ (∀ g ∈ GV, w7.heap.size < g) ∧ Kept [] w7 wu)
              case atStart => exact ⟨0, newS, nilV, [], by omega, by omega, rfl, OkS.new, nil_view, by rw [List.drop_zero], D8.out, by simp, K8.out⟩
              case round =>
                obtain ⟨j, S, V, GV, hj4, rfl, rfl, hok, hiv, hrv, hdv, hgv, hku⟩ := hrel
                have Ok := Lib.hid hok
                have Iv := Lib.hid hiv
                have Rv := Lib.hid hrv
                have Dv := Lib.hid hdv
                have Gv := Lib.hid hgv
                have KU := Lib.hid hku
                clear hok hiv hrv hdv hgv hku
                by_cases hlt4 : j < k
                · have hkl4 : j < T.length := by rw [TL.out]; exact hlt4
                  obtain ⟨g', o', C', cn', cd', hge, hg', hgG', hat', hbk'⟩ := (RecArr.kept AT.out (K7.out.trans KU.out (by simp)) (by simp)).at (k := j) hkl4
                  injection hge with hge
                  injection hge with hge1 hge2
                  subst hge1 hge2
                  have Hbk := Lib.hid hbk'
                  have hcn : cn' ≤ 1000 := by rw [← hbk'.len.1]; exact BT.out _ (List.getElem_mem hkl4)
                  have Hdr := Lib.hid (drop_cons hkl4)
                  generalize T[j]'hkl4 = x at *
                  obtain ⟨c0, c1', c2', c3', c4, c5', c6, c7', c8, c9, c10, c11, c12, c13⟩ := hat'
                  clear hbk'
                  have l0 : (0 : Int) ≤ (j : Int) := by omega
                  have l1 : (j : Int) < (k : Int) := by omega
                  have lw : IntKind.i64.wrap ((j : Int) + 1) = (j : Int) + 1 := IntWalk.i64_in _ (by omega)
                  have VAp := Lib.hid (view_apply Ok.out Iv.out x)
                  have LEN := Lib.hid (Iv.out.lens Ok.out)
                  have AGK := Lib.hid (fun q (hq : q ∈ Gx) => Nat.lt_of_lt_of_le (AG.out q hq).2 (K7.out.trans KU.out (by simp)).size)
                  by_cases he : errS S x = 0
                  · have HE := Lib.hid he
                    clear he
                    go_wp2_with (first
                      | (((with_reducible show wpList _ _ _ ({ dst := none, op := Op.store 43 (.tmp 22) (.tmp 123), type := _, pos := _, after := _, guard := _ } :: _) _ _); refine wpList_put (t := 43) rfl 43 (.tmp 22) (.tmp 123) rfl _ (by rfl) (by rfl) (by (repeat (first | (apply Blk.new'; simp; done) | apply Blk.alloc | apply Blk.drew))) (by rfl) (by kernel_rfl) (by simp [Value.oneCell']) ?_; intro w9 hb9 hk9; have Hb9 := Lib.hid hb9; have Hk9 := Lib.hid hk9; clear hb9 hk9)
                         have K9 := Lib.hid (((Kept.refl [] wr).alloc _).trans Hk9.out (fun i hi => .inr (by simp at hi; omega)))
                         have hx9 := Hb9.out.cell)
                      | (go_at_call 19
                         refine (rApply_any (Dv.out.go K9.out) (by have := LEN.out; omega) (by have := LEN.out; omega) Iv.out.fs x (⟨BkArr.kept Hbk.out K9.out (by simp), fun q hq => Nat.lt_of_lt_of_le (AGK.out q hq) K9.out.size, by omega⟩ : SmallB w9 Gx C' cn' cd' x.backs)).mono ?_
                         rintro e w10 ⟨rfl, hk10, G6, hd6, hg6⟩
                         rw [VAp.out.1, HE.out]
                         have D6 := Lib.hid hd6
                         have K6 := Lib.hid ((KU.out.trans K9.out (by simp)).trans hk10 (fun i hi => .inr (by simp at hi; omega)))
                         have G6h : Hid (∀ g ∈ G6, w7.heap.size < g) := Lib.hid (fun g hg => by
                           rcases hg6 g hg with hh | hh
                           · exact Gv.out g hh
                           · obtain ⟨_, _, _, _, _, _, _, _, _, hb, _⟩ := Dv.out
                             have := hb.lt
                             have := K9.out.size
                             omega)
                         have XW := Lib.hid (X7.out.kept K6.out (by simp))
                         have hzw := (Z7.out.kept K6.out (by simp)).cell
                         clear hd6 hk10 hg6 hx9))
                    go_roundg (k - (j + 1))
                    case measure => omega
                    case rel => exact ⟨j + 1, applyS S x, applyV V x, G6, by omega, rfl, by go_num, Ok.out.apply x, VAp.out.2, by rw [Rv.out, Hdr.out]; exact if_pos (by rw [VAp.out.1, HE.out]), D6.out, G6h.out, K6.out⟩
                  · obtain ⟨e0, he0⟩ : ∃ e0, errS S x = e0 := ⟨_, rfl⟩
                    have HE : Hid (errS S x = e0) := Lib.hid he0
                    have i3 : (e0 != 0) = true := by rw [← he0]; simp [he]
                    have HM : Hid (recvM bs = (nilV, 0, 3)) := Lib.hid (by
                      have h2 : (runV nilV T).2 ≠ 0 := by
                        rw [Rv.out, Hdr.out]
                        unfold runV
                        rw [if_neg (by rw [VAp.out.1]; exact he), VAp.out.1]
                        exact he
                      have h3 : ok = false := by rw [← HOK.out, decide_eq_false h2]; rfl
                      rw [HC2.out, h3]
                      rfl)
                    clear he he0
                    go_wp2_with (first
                      | (((with_reducible show wpList _ _ _ ({ dst := none, op := Op.store 43 (.tmp 22) (.tmp 123), type := _, pos := _, after := _, guard := _ } :: _) _ _); refine wpList_put (t := 43) rfl 43 (.tmp 22) (.tmp 123) rfl _ (by rfl) (by rfl) (by (repeat (first | (apply Blk.new'; simp; done) | apply Blk.alloc | apply Blk.drew))) (by rfl) (by kernel_rfl) (by simp [Value.oneCell']) ?_; intro w9 hb9 hk9; have Hb9 := Lib.hid hb9; have Hk9 := Lib.hid hk9; clear hb9 hk9)
                         have K9 := Lib.hid (((Kept.refl [] wr).alloc _).trans Hk9.out (fun i hi => .inr (by simp at hi; omega)))
                         have hx9 := Hb9.out.cell)
                      | (go_at_call 19
                         refine (rApply_any (Dv.out.go K9.out) (by have := LEN.out; omega) (by have := LEN.out; omega) Iv.out.fs x (⟨BkArr.kept Hbk.out K9.out (by simp), fun q hq => Nat.lt_of_lt_of_le (AGK.out q hq) K9.out.size, by omega⟩ : SmallB w9 Gx C' cn' cd' x.backs)).mono ?_
                         rintro e w10 ⟨rfl, hk10, G6, hd6, hg6⟩
                         rw [VAp.out.1, HE.out]
                         have D6 := Lib.hid hd6
                         have K6 := Lib.hid ((KU.out.trans K9.out (by simp)).trans hk10 (fun i hi => .inr (by simp at hi; omega)))
                         have G6h : Hid (∀ g ∈ G6, w7.heap.size < g) := Lib.hid (fun g hg => by
                           rcases hg6 g hg with hh | hh
                           · exact Gv.out g hh
                           · obtain ⟨_, _, _, _, _, _, _, _, _, hb, _⟩ := Dv.out
                             have := hb.lt
                             have := K9.out.size
                             omega)
                         have XW := Lib.hid (X7.out.kept K6.out (by simp))
                         have hzw := (Z7.out.kept K6.out (by simp)).cell
                         clear hd6 hk10 hg6 hx9)
                      | (((with_reducible show wpList _ _ _ ({ dst := none, op := Op.store 26 (.tmp 2) (.tmp 128), type := _, pos := _, after := _, guard := _ } :: _) _ _); refine wpList_put (t := 26) rfl 26 (.tmp 2) (.tmp 128) rfl _ (by rfl) (by rfl) (by exact XW.out) (by rfl) (by kernel_rfl) (by simp [Value.oneCell']) ?_; intro wz hbz hkz; have Hbz := Lib.hid hbz; have Hkz := Lib.hid hkz; clear hbz hkz)
                         have KZ9 := Lib.hid (((KW.out.trans K7.out (by simp)).trans K6.out (by simp)).trans Hkz.out (fun i hi => .inr (by simp at hi; omega)))))
                    refine bodyPost_ret (results_cell2 (t := 26) Tryz.results16 (by rfl) Hbz.out _ Tryz.underlying26 rfl (by kernel_rfl)) rfl ?_
                    exact RecvPost.bad KZ9.out HM.out
                · obtain rfl : j = k := by omega
                  have l1 : ¬ (j : Int) < (j : Int) := by omega
                  have hR : runV nilV T = (V, 0) := by
                    rw [Rv.out, List.drop_of_length_le (by rw [TL.out]; exact Nat.le_refl _)]; rfl
                  have LEN := Lib.hid (Iv.out.lens Ok.out)
                  obtain ⟨sb, hsb⟩ : ∃ b, sameRs (recsV V) T = b := ⟨_, rfl⟩
                  have HSB := Lib.hid hsb
                  have HM2 : Hid (recvM bs = if sb = true then (V, r.until_, 0) else (nilV, 0, 3)) := Lib.hid (by
                    have h3 : ok = sb := by rw [← HOK.out, hR, ← hsb]; rfl
                    rw [HC2.out, h3, hR])
                  obtain ⟨B1, n1, e1, B2, n2, e2, B3, n3, e3, hqb, hva, hqn⟩ := Dv.out
                  have QB := Lib.hid hqb
                  have VQ := Lib.hid hva
                  have HGV : Hid (∀ g ∈ GV, w.heap.size < g) := Lib.hid (fun g hg => by have := Gv.out g hg; have := X7.out.lt; omega)
                  have hqc := QB.out.cell
                  have hql := QB.out.lt
                  have KD := Lib.hid ((Kept.refl [] wr).drew)
                  have VD := Lib.hid (VQ.out.go KD.out)
                  have AD := Lib.hid (fun (w' : World) (hk : Kept [] wr w') => RecArr.kept AT.out ((K7.out.trans KU.out (by simp)).trans hk (by simp)) (by simp))
                  have AGK := Lib.hid (fun (w' : World) (hk : Kept [] wr w') q (hq : q ∈ Gx) => Nat.lt_of_lt_of_le (AG.out q hq).2 ((K7.out.trans KU.out (by simp)).trans hk (by simp)).size)
                  have RS := Lib.hid (recs_small (V := V) (n := 1000) (by have := LEN.out; omega))
                  have KEEP := Lib.hid (fun (w' : World) (hkx : Kept [] wr w') => (QB.out.kept hkx (by simp)).cell)
                  clear hR hsb hqb hva hqn
                  go_wp2
                  go_region_held3 (fun w' => ∀ o, w'.cell? ⟨w7.heap.size, o, none⟩ = (#[.int .i64 V.gen, .slice B1 n1 e1, .slice B2 n2 e2, .slice B3 n3 e3] : Array Value)[o]?)
                    (first | with_reducible exact KEEP.out _ K11.out | with_reducible exact KEEP.out _ K10.out | with_reducible exact KEEP.out _ KD.out | with_reducible exact KEEP.out _ (Kept.refl _ _))
                    (first
                      | (go_at_call 25
                         refine (rRecs_g _ V VD.out (by have := LEN.out; omega) (by have := LEN.out; omega)).mono ?_
                         rintro e w10 ⟨A4, m4, c4, rfl, hr3⟩
                         have K10 := Lib.hid (KD.out.trans hr3.kept (by simp))
                         have R3 := Lib.hid hr3
                         clear hr3)
                      | (go_at_call 39
                         have hcall := (show Calls Tryz.prog 39 #[.slice A4 m4 c4, .slice (some ⟨g, o, none⟩) j d] w10 (fun e w' => e = .returned (.bool (sameRs (recsV V) T)) ∧ Kept [] w10 w') from by
                           obtain ⟨Gy, h1, h2⟩ := R3.out.arr
                           exact rSameRs_all w10 (recsV V) T h1 (AD.out _ K10.out) (fun k hk => (h2 k hk).1) (AGK.out _ K10.out) RS.out BT.out)
                         refine hcall.mono ?_
                         rintro e w11 ⟨rfl, hk11⟩
                         rw [HSB.out]
                         have K11 := Lib.hid (K10.out.trans hk11 (by simp))
                         clear hk11 hcall))
                  all_goals
                    have KW11 := Lib.hid ((KW.out.trans K7.out (by simp)).trans (KU.out.trans K11.out (by simp)) (by simp))
                    have X11 := Lib.hid ((X7.out.kept KU.out (by simp)).kept K11.out (by simp))
                    have Z11 := Lib.hid ((Z7.out.kept KU.out (by simp)).kept K11.out (by simp))
                    have C11 := Lib.hid ((B7.out.kept KU.out (by simp)).kept K11.out (by simp))
                    have Q11 := Lib.hid (QB.out.kept K11.out (by simp))
                    have V11 := Lib.hid (VQ.out.go K11.out)
                    have hz11 := Z11.out.cell
                    have hx11 := X11.out.cell
                    have hf11 := X11.out.frozen
                    have hq11 := Q11.out.cell
                    have hc11 := C11.out.cell
                    have hl11 := X11.out.lt
                    clear hqc
                    cases sb
                    · have HM : Hid (recvM bs = (nilV, 0, 3)) := Lib.hid (by rw [HM2.out]; rfl)
                      go_wp2_with (first
                        | (((with_reducible show wpList _ _ _ ({ dst := none, op := Op.store 26 (.tmp 2) (.tmp 141), type := _, pos := _, after := _, guard := _ } :: _) _ _); refine wpList_put (t := 26) rfl 26 (.tmp 2) (.tmp 141) rfl _ (by rfl) (by rfl) (by exact X11.out) (by rfl) (by kernel_rfl) (by simp [Value.oneCell']) ?_; intro wz hbz hkz; have Hbz := Lib.hid hbz; have Hkz := Lib.hid hkz; clear hbz hkz)
                           have KZ9 := Lib.hid ((KW11.out).trans Hkz.out (fun i hi => .inr (by simp at hi; omega)))))
                      refine bodyPost_ret (results_cell2 (t := 26) Tryz.results16 (by rfl) Hbz.out _ Tryz.underlying26 rfl (by kernel_rfl)) rfl ?_
                      exact RecvPost.bad KZ9.out HM.out
                    · have HM : Hid (recvM bs = (V, r.until_, 0)) := Lib.hid (by rw [HM2.out]; rfl)
                      go_upto_region 41 with fail
                      have BF : Hid (Blk ((((w11.setCell ⟨w.heap.size, 0, none⟩ (.int .i64 V.gen)).setCell ⟨w.heap.size, 1, none⟩ (.slice B1 n1 e1)).setCell ⟨w.heap.size, 2, none⟩ (.slice B2 n2 e2)).setCell ⟨w.heap.size, 3, none⟩ (.slice B3 n3 e3)) w.heap.size 26 #[.int .i64 V.gen, .slice B1 n1 e1, .slice B2 n2 e2, .slice B3 n3 e3]) := Lib.hid
                        (blk_set (blk_set (blk_set (blk_set X11.out 0 _ rfl) 1 _ rfl) 2 _ rfl) 3 _ (by simp))
                      have KF := Lib.hid (((((Kept.refl [w.heap.size] w11).setCell (p := ⟨w.heap.size, 0, none⟩) (.inl (by simp)) (.int .i64 V.gen)).setCell (p := ⟨w.heap.size, 1, none⟩) (.inl (by simp)) (.slice B1 n1 e1)).setCell (p := ⟨w.heap.size, 2, none⟩) (.inl (by simp)) (.slice B2 n2 e2)).setCell (p := ⟨w.heap.size, 3, none⟩) (.inl (by simp)) (.slice B3 n3 e3))
                      have PF : Hid (RecvPost w bs (.returned (.tuple #[.agg #[.int .i64 V.gen, .slice B1 n1 e1, .slice B2 n2 e2, .slice B3 n3 e3], .int .i64 r.until_, .int .i64 0])) ((((w11.setCell ⟨w.heap.size, 0, none⟩ (.int .i64 V.gen)).setCell ⟨w.heap.size, 1, none⟩ (.slice B1 n1 e1)).setCell ⟨w.heap.size, 2, none⟩ (.slice B2 n2 e2)).setCell ⟨w.heap.size, 3, none⟩ (.slice B3 n3 e3))) := Lib.hid (by
                        refine ⟨KW11.out.trans KF.out (fun i hi => .inr (by simp at hi; omega)), B1, n1, e1, B2, n2, e2, B3, n3, e3, GV, by rw [HM.out], ?_⟩
                        rw [HM.out]
                        exact V11.out.kept KF.out (fun k hk hm => by have := HGV.out k hk; simp at hm; omega))
                      go_region
                      all_goals
                        go_wp2
                        refine bodyPost_ret (results_cell2 (t := 26) Tryz.results16 (by rfl) BF.out _ Tryz.underlying26 rfl (by kernel_rfl)) rfl ?_
                        show RecvPost w bs (.returned (.tuple #[.agg #[.int .i64 V.gen, .slice B1 n1 e1, .slice B2 n2 e2, .slice B3 n3 e3], .int .i64 r.until_, .int .i64 0])) _
                        first
                          | with_reducible exact PF.out.drew
                          | with_reducible exact PF.out
end
end Go.Proofs.YtkacghjglicjiaaGreat
