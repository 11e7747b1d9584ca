
/-
  The hand-off: HandReceives, its walk.
-/
import Derived.Test.YtkacghjglicjiaaGreatHsM
import Derived.Deep.RegionWith
namespace Go.Proofs.YtkacghjglicjiaaGreat
open Go.RowKit Go.ChangeShapes Go.WideShapes Go.ChangeAt Go.Deep Go.MapKept
set_option linter.unusedVariables false

theorem Kept.cellOf {w w' : World} {g o : Nat} {v : Option Value} (h : Kept [] w w') (hg : g < w.heap.size) (hc : w.cell? ⟨g, o, none⟩ = v) : w'.cell? ⟨g, o, none⟩ = v := (h.cell (p := ⟨g, o, none⟩) hg (by simp)).trans hc
theorem put_more {W w : World} {gb gn k : Nat} {bs : List UInt8} {n v : Int} {r : RecD} (h : PutAt W gb gn (bs ++ pbs r v) (n + pn r v) w) (hl : bs.length ≤ k) (hn : 0 ≤ n ∧ n ≤ 200) : ∃ (b2 : List UInt8) (n2 : Int), PutAt W gb gn b2 n2 w ∧ b2.length ≤ k + 4112 ∧ 0 ≤ n2 ∧ n2 ≤ n + 1 :=
  ⟨_, _, h, by rw [List.length_append]; have := pbs_le r v; omega, by have := pn_le r v; omega, by have := pn_le r v; omega⟩
set_option maxRecDepth 100000 in
set_option maxHeartbeats 16000000 in
theorem HandReceives_walk0 (w : World) {G Gv : List Nat} {A Av : Option Addr} {m c mv cv : Nat} (l : List RecD) (vs : List Int) (en pl : Int) (x : UInt8) (cut : Int) (h : RecArr w G (.slice A m c) l) (hG : ∀ g ∈ G, g < w.heap.size) (hv : IntArr w Gv (.slice Av mv cv) vs) (hvl : vs.length = mv) :
    Calls Tryz.prog 4 #[.slice A m c, .slice Av mv cv, .int .i64 en, .int .i64 pl, .int .u8 x.toNat, .int .i64 cut] w fun e w' => e = .returned (.bool true) ∧ Kept [] w w' := by
  obtain ⟨a1, a2, a3, a4⟩ := h.len
  have H := Lib.hid h
  have HG := Lib.hid hG
  have L1 := Lib.hid a1
  have HI := Lib.hid hv
  have L2 := Lib.hid hvl
  clear h a1 a4 hG hv hvl
  unfold maxLen at a3
  have AW := Lib.hid (fun w' => awake24_any w')
  by_cases hgo : m ≤ 60
  rotate_left
  · have i60 : (60 : Int) < (m : Int) := by omega
    go_enter Tryz.func4, Tryz.ntmps4
    go_wp2_with (first
      | (go_at_call 8
         refine (AW.out _).mono ?_
         rintro e wy ⟨rfl, hky⟩
         have KY := Lib.hid hky
         clear hky))
    go_ret
    exact ⟨rfl, KY.out⟩
  have i60 : ¬ (60 : Int) < (m : Int) := by omega
  go_enter Tryz.func4, Tryz.ntmps4
  go_upto_region 6 with fail
  have P0 : Hid (PutAt w w.heap.size (w.heap.size + 1) [] 0 ((w.alloc (.cells #[.slice none 0 0] 31)).alloc (.cells #[.int .i64 0] 3))) := Lib.hid ⟨⟨none, 0, 0, by (repeat (first | (apply Blk.new'; simp; done) | apply Blk.alloc | apply Blk.drew)), NB.nil (by (repeat (first | exact Kept.refl _ _ | apply Kept.alloc | apply Kept.drew)))⟩, by (repeat (first | (apply Blk.new'; simp; done) | apply Blk.alloc | apply Blk.drew)), by omega, by omega⟩
  generalize (w.alloc (.cells #[.slice none 0 0] 31)).alloc (.cells #[.int .i64 0] 3) = wa at *
  go_wp2
  go_loopg [32] m (fun gg i wr => ∃ (j : Nat) (bs : List UInt8) (n : Int), j ≤ m ∧ gg = m - j ∧ i = .int .i64 j ∧ PutAt w w.heap.size (w.heap.size + 1) bs n wr ∧ bs.length ≤ 4112 * j ∧ 0 ≤ n ∧ n ≤ j)
  case atStart => exact ⟨0, [], 0, by omega, by omega, rfl, P0.out, by simp, by omega, by omega⟩
  case round =>
    obtain ⟨j, bs, n, hj, rfl, rfl, hp, hbl, hn0, hn1⟩ := hrel
    have P := Lib.hid hp
    have BL := Lib.hid hbl
    have KW := Lib.hid hp.kept
    clear hp hbl P0
    by_cases hlt : j < m
    · have hkl : j < l.length := by rw [L1.out]; exact hlt
      obtain ⟨g, o, B, q, d, rfl, hg, hgG, hat, hbk⟩ := (RecArr.kept H.out KW.out (by simp)).at (k := j) hkl
      have Hbk := Lib.hid hbk
      have hql := hbk.len.1
      have QL := Lib.hid hql
      clear hbk hql
      generalize l[j]'hkl = r at *
      obtain ⟨c0, c1', c2', c3', c4, c5', c6, c7', c8, c9, c10, c11, c12, c13⟩ := hat
      have i0 : (0 : Int) ≤ (j : Int) := by omega
      have i1 : (j : Int) < (m : Int) := by omega
      have iw : IntKind.i64.wrap ((j : Int) + 1) = (j : Int) + 1 := IntWalk.i64_in _ (by omega)
      by_cases hvj : j < mv
      · obtain ⟨gv, ov, he, hgv, hgvG, hcv, hy0, hy1⟩ := (IntArr.kept HI.out KW.out (by simp)).at (k := j) (by rw [L2.out]; exact hvj)
        subst he
        generalize vs[j]'(by rw [L2.out]; exact hvj) = y at *
        have iv : (j : Int) < (mv : Int) := by omega
        rcases Nat.lt_or_ge 40 q with h40 | h40
        · have i40 : ¬ (q : Int) ≤ 40 := by omega
          go_wp2_with (first
            | (((with_reducible show wpList _ _ _ ({ dst := none, op := Op.store 43 (.tmp 17) (.tmp 36), type := _, pos := _, after := _, guard := _ } :: _) _ _); refine wpList_put (t := 43) rfl 43 (.tmp 17) (.tmp 36) rfl _ (by rfl) (by rfl) (by (repeat (first | (apply Blk.new'; simp; done) | apply Blk.alloc | apply Blk.drew))) (by rfl) (by kernel_rfl) (by simp [Value.oneCell']) ?_; intro w5 hb5 hk5; have Hb5 := Lib.hid hb5; have Hk5 := Lib.hid hk5; clear hb5 hk5)
               have hk5 : Kept [] wr w5 := ((Kept.refl [] wr).alloc _).trans Hk5.out (fun i hi => .inr (by simp at hi; omega))
               have K5 := Lib.hid hk5
               have P5 := Lib.hid (P.out.go hk5)
               have hx5 := Hb5.out.cell
               have hcv5 := hk5.cellOf hgv hcv
               clear hk5))
          go_roundg (m - (j + 1))
          case measure => omega
          case rel => exact ⟨j + 1, bs, n, by omega, rfl, by go_num, P5.out, by have := BL.out; omega, by omega, by omega⟩
        · have i40 : (q : Int) ≤ 40 := by omega
          go_wp2_with (first
            | (((with_reducible show wpList _ _ _ ({ dst := none, op := Op.store 43 (.tmp 17) (.tmp 36), type := _, pos := _, after := _, guard := _ } :: _) _ _); refine wpList_put (t := 43) rfl 43 (.tmp 17) (.tmp 36) rfl _ (by rfl) (by rfl) (by (repeat (first | (apply Blk.new'; simp; done) | apply Blk.alloc | apply Blk.drew))) (by rfl) (by kernel_rfl) (by simp [Value.oneCell']) ?_; intro w5 hb5 hk5; have Hb5 := Lib.hid hb5; have Hk5 := Lib.hid hk5; clear hb5 hk5)
               have hk5 : Kept [] wr w5 := ((Kept.refl [] wr).alloc _).trans Hk5.out (fun i hi => .inr (by simp at hi; omega))
               have K5 := Lib.hid hk5
               have P5 := Lib.hid (P.out.go hk5)
               have hx5 := Hb5.out.cell
               have hcv5 := hk5.cellOf hgv hcv
               clear hk5)
            | (go_at_call 12
               with_reducible refine (putR_any w w5 P5.out r y (⟨BkArr.kept Hbk.out K5.out (by simp), fun k hk' => Nat.lt_of_lt_of_le (HG.out k hk') (KW.out.trans K5.out (by simp)).size, by omega⟩ : SmallB w5 G B q d r.backs) (by have := BL.out; omega) ⟨hn0, by omega⟩).mono ?_
               rintro e w6 ⟨rfl, hp6⟩
               have P6 := Lib.hid hp6
               clear hp6))
          go_roundg (m - (j + 1))
          case measure => omega
          case rel => exact ⟨j + 1, bs ++ pbs r y, n + pn r y, by omega, rfl, by go_num, P6.out, by rw [List.length_append]; have := pbs_le r y; have := BL.out; omega, by have := pn_le r y; omega, by have := pn_le r y; omega⟩
      · have iv : ¬ (j : Int) < (mv : Int) := by omega
        rcases Nat.lt_or_ge 40 q with h40 | h40
        · have i40 : ¬ (q : Int) ≤ 40 := by omega
          go_wp2_with (first
            | (((with_reducible show wpList _ _ _ ({ dst := none, op := Op.store 43 (.tmp 17) (.tmp 36), type := _, pos := _, after := _, guard := _ } :: _) _ _); refine wpList_put (t := 43) rfl 43 (.tmp 17) (.tmp 36) rfl _ (by rfl) (by rfl) (by (repeat (first | (apply Blk.new'; simp; done) | apply Blk.alloc | apply Blk.drew))) (by rfl) (by kernel_rfl) (by simp [Value.oneCell']) ?_; intro w5 hb5 hk5; have Hb5 := Lib.hid hb5; have Hk5 := Lib.hid hk5; clear hb5 hk5)
               have hk5 : Kept [] wr w5 := ((Kept.refl [] wr).alloc _).trans Hk5.out (fun i hi => .inr (by simp at hi; omega))
               have K5 := Lib.hid hk5
               have P5 := Lib.hid (P.out.go hk5)
               have hx5 := Hb5.out.cell
               clear hk5))
          go_roundg (m - (j + 1))
          case measure => omega
          case rel => exact ⟨j + 1, bs, n, by omega, rfl, by go_num, P5.out, by have := BL.out; omega, by omega, by omega⟩
        · have i40 : (q : Int) ≤ 40 := by omega
          go_wp2_with (first
            | (((with_reducible show wpList _ _ _ ({ dst := none, op := Op.store 43 (.tmp 17) (.tmp 36), type := _, pos := _, after := _, guard := _ } :: _) _ _); refine wpList_put (t := 43) rfl 43 (.tmp 17) (.tmp 36) rfl _ (by rfl) (by rfl) (by (repeat (first | (apply Blk.new'; simp; done) | apply Blk.alloc | apply Blk.drew))) (by rfl) (by kernel_rfl) (by simp [Value.oneCell']) ?_; intro w5 hb5 hk5; have Hb5 := Lib.hid hb5; have Hk5 := Lib.hid hk5; clear hb5 hk5)
               have hk5 : Kept [] wr w5 := ((Kept.refl [] wr).alloc _).trans Hk5.out (fun i hi => .inr (by simp at hi; omega))
               have K5 := Lib.hid hk5
               have P5 := Lib.hid (P.out.go hk5)
               have hx5 := Hb5.out.cell
               clear hk5)
            | (go_at_call 12
               with_reducible refine (putR_any w w5 P5.out r 3 (⟨BkArr.kept Hbk.out K5.out (by simp), fun k hk' => Nat.lt_of_lt_of_le (HG.out k hk') (KW.out.trans K5.out (by simp)).size, by omega⟩ : SmallB w5 G B q d r.backs) (by have := BL.out; omega) ⟨hn0, by omega⟩).mono ?_
               rintro e w6 ⟨rfl, hp6⟩
               have P6 := Lib.hid hp6
               clear hp6))
          go_roundg (m - (j + 1))
          case measure => omega
          case rel => exact ⟨j + 1, bs ++ pbs r 3, n + pn r 3, by omega, rfl, by go_num, P6.out, by rw [List.length_append]; have := pbs_le r 3; have := BL.out; omega, by have := pn_le r 3; omega, by have := pn_le r 3; omega⟩
    · obtain rfl : m = j := by omega
      have i1 : ¬ (m : Int) < (m : Int) := by omega
      have BL2 := Lib.hid (show bs.length ≤ 250000 by have := BL.out; omega)
      clear BL
      go_upto_if 55 with fail
      go_cut [] (fun wx => ∃ (bs : List UInt8) (n : Int), PutAt w w.heap.size (w.heap.size + 1) bs n wx ∧ bs.length ≤ 260000)
      case first =>
        by_cases he : 0 ≤ en
        · have S0 := Lib.hid (fun (w' : World) => (⟨BkArr.nil' _ _, by simp, by omega⟩ : SmallB w' [] none 0 0 []))
          go_upto_region 17 with (first
            | (go_at_call 12
               refine (putR_any w wr P.out (rDr (65535, bits .and .i64 en 255)) 3 (S0.out wr) (by have := BL2.out; omega) ⟨hn0, by omega⟩).mono ?_
               rintro e w6 ⟨rfl, hp6⟩
               obtain ⟨b6, n6, hq6, hl6, hm6, hm7⟩ := put_more hp6 BL2.out ⟨hn0, by omega⟩
               have P6 := Lib.hid hq6
               have L6 := Lib.hid hl6
               have hn6 := hq6.nb.cell
               clear hp6 hq6 hl6))
          go_wp2_with (first
            | (go_at_call 12
               refine (putR_any w w6 P6.out (rEn _) 3 (S0.out w6) (by have := L6.out; omega) ⟨hm6, by omega⟩).mono ?_
               rintro e w7 ⟨rfl, hp7⟩
               obtain ⟨b7, n7, hq7, hl7, hm8, hm9⟩ := put_more hp7 L6.out ⟨hm6, by omega⟩
               have P7 := Lib.hid hq7
               have L7 := Lib.hid hl7
               clear hp7 hq7 hl7 hn6))
          go_meet
          case rel => exact ⟨b7, n7, P7.out, by have := L7.out; omega⟩
        · have i2 : ¬ (0 : Int) ≤ en := he
          go_wp2
          go_meet
          case rel => exact ⟨bs, n, P.out, by have := BL2.out; omega⟩
      case rest =>
        clear BL2 P KW hn0 hn1 i1
        obtain ⟨bs, n, hp, hbl⟩ := hcut
        have BL := Lib.hid hbl
        obtain ⟨⟨B, bm, bc, hbb, hnb⟩, hnn, hlo⟩ := hp
        have hbm := hnb.rd.len.1
        have hmc := hnb.rd.len.2.1
        have hcm := hnb.rd.len.2.2.1
        unfold maxLen at hcm
        have HM := Lib.hid hbm
        have hb2 : bm ≤ 260000 := by omega
        have BB := Lib.hid hbb
        have NB0 := Lib.hid hnb
        have NN := Lib.hid hnn
        have hbc := hbb.cell
        clear hbl hbb hnb hnn hbm hlo
        go_upto_if 71 with fail
        go_cut [] (fun wx => ∃ (B : Option Addr) (j c : Nat) (bs : List UInt8), Blk wx w.heap.size 31 #[.slice B j c] ∧ NB w wx (.slice B j c) bs ∧ bs.length = j ∧ j ≤ 260000)
        case first =>
          by_cases h0 : bm = 0
          · have i0 : ¬ (0 : Int) < (bm : Int) := by omega
            clear h0
            go_wp2
            go_meet
            case rel => exact ⟨B, bm, bc, bs, BB.out, NB0.out, HM.out, hb2⟩
          · have hpos : 0 < bm := by omega
            have i0 : (0 : Int) < (bm : Int) := by omega
            obtain ⟨gb, rfl⟩ : ∃ gb, B = some ⟨gb, 0, none⟩ := by
              rcases NB0.out.1.2 with ⟨h1, h2⟩ | ⟨g', cap', cur, h1, _⟩
              · rw [HM.out] at h2; omega
              · injection h1 with e1 e2 e3; exact ⟨g', e1⟩
            have hgb : gb < wc.heap.size := NB0.out.1.lt gb (by simp [rowOf, Value.ownBlock])
            have hgw : w.heap.size ≤ gb := NB0.out.2.2 gb (by simp [rowOf, Value.ownBlock])
            have hgP : ¬ w.heap.size = gb := by have := NB0.out.1.ne_blk BB.out (by decide); simpa [rowOf, Value.ownBlock, eq_comm] using this
            obtain ⟨i, hi⟩ : ∃ i, nat64 pl % bm = i := ⟨_, rfl⟩
            have hiN : i < bm := by rw [← hi]; exact Nat.mod_lt _ hpos
            have hw1 := wrap_u64 pl
            have hw2 := wrap_u64 (bm : Int)
            rw [nat64_small bm (by omega)] at hw2
            have hw3 : ((nat64 pl : Nat) : Int) % (bm : Int) = (i : Int) := by rw [← hi]; simp
            obtain ⟨b, hb⟩ : ∃ b, bs[i]? = some b := ⟨_, List.getElem?_eq_getElem (by rw [HM.out]; exact hiN)⟩
            have hub : (u8s bs)[i]? = some (.int .u8 (b.toNat : Int)) := by simp [u8s, hb, u8v]
            have hown := NB0.out.1
            rw [HM.out] at hown
            have hcell := hown.cellAt i (by omega)
            have hfz := hown.frozenAt i
            clear hown
            rw [hub] at hcell
            have hxr := xor_u8 b x
            have ii0 : (0 : Int) ≤ (i : Int) := by omega
            have ii1 : (i : Int) < (bm : Int) := by omega
            have hN0 : ((bm : Int) == 0) = false := by simp; omega
            clear hi hb hub h0
            go_upto_region 19 with fail
            go_cut [] (fun wx => Blk wx w.heap.size 31 #[.slice (some ⟨gb, 0, none⟩) bm bc] ∧ NB w wx (.slice (some ⟨gb, 0, none⟩) bm bc) (bs.set i (b ^^^ x)))
            case first =>
              go_region
              all_goals
                go_wp2
                go_meet
                case rel => exact ⟨BB.out.drew.far (by simp; omega) _, (NB0.out.go ((Kept.refl [] _).drew)).set HM.out i (b ^^^ x) (by simp)⟩
            case rest =>
              obtain ⟨hY, hNN⟩ := hcut
              clear hcell hfz hxr hw3 ii0 ii1 hw1 hbc BB NN
              have Y := Lib.hid hY
              obtain ⟨bs2, hbs2⟩ : ∃ bs2, bs.set i (b ^^^ x) = bs2 := ⟨_, rfl⟩
              have HL := Lib.hid (show bs2.length = bm by rw [← hbs2, List.length_set, HM.out])
              have N2 := Lib.hid (hbs2 ▸ hNN)
              clear hY hNN hbs2 NB0
              obtain ⟨a, ha⟩ : ∃ a, nat64 cut % 2 = a := ⟨_, rfl⟩
              obtain ⟨z, hz⟩ : ∃ z, nat64 cut % bm = z := ⟨_, rfl⟩
              have ha2 : a ≤ 1 := by rw [← ha]; omega
              have hzN : z < bm := by rw [← hz]; exact Nat.mod_lt _ hpos
              obtain ⟨y, hy⟩ : ∃ y, a * z = y := ⟨_, rfl⟩
              have hy2 : y ≤ z := by rw [← hy]; exact Nat.le_trans (Nat.mul_le_mul_right z ha2) (by omega)
              have hv1 := wrap_u64 cut
              have hv3 : ((nat64 cut : Nat) : Int) % 2 = (a : Int) := by rw [← ha]; simp
              have hv4 : ((nat64 cut : Nat) : Int) % (bm : Int) = (z : Int) := by rw [← hz]; simp
              have hv5 : (a : Int) * (z : Int) = (y : Int) := by rw [← hy]; simp
              obtain ⟨j, hj⟩ : ∃ j, bm - y = j := ⟨_, rfl⟩
              have hv6 : (bm : Int) - (y : Int) = (j : Int) := by omega
              have hjN : j ≤ bm := by omega
              have hj0 : (0 : Int) ≤ (j : Int) := by omega
              have hjc : (j : Int) ≤ (bc : Int) := by omega
              have hy0 : (0 : Int) ≤ (y : Int) := by omega
              clear ha hz hy hj
              go_upto_region 20 with fail
              have hcy := Y.out.cell
              have hfy := Y.out.frozen
              go_region
              all_goals
                go_wp2
                go_meet
                case rel => exact ⟨_, _, _, _, Y.out.drew.set 0 _, ((N2.out.go ((Kept.refl [] _).drew)).cut HL.out hjN hpos).other ((Kept.refl [w.heap.size] _).setCell (.inl (by simp)) _) (by simp [rowOf, Value.ownBlock]; omega) (by simp), by rw [List.length_take, HL.out]; omega, by omega⟩
        case rest =>
          clear BB NB0 NN hbc HM BL hmc hcm
          obtain ⟨B, j, d, bs, hbb, hnb, hbl, hbj⟩ := hcut
          have BB := Lib.hid hbb
          have NB0 := Lib.hid hnb
          have hbc := hbb.cell
          have KC := Lib.hid hnb.kept
          clear hbb hnb hbl
          obtain ⟨V, t, nn, hrm⟩ : ∃ V t nn, recvM bs = (V, t, nn) := ⟨_, _, _, rfl⟩
          have RM := Lib.hid hrm
          have SS := Lib.hid (sameV_self V)
          clear hrm
          go_upto_region 23 with (first
            | (go_at_call 15
               with_reducible refine (Receive_any wc bs NB0.out.rd (by omega)).mono ?_
               rintro e w8 hpost
               obtain ⟨hk8, E4, f4, g4, E5, f5, g5, E6, f6, g6, G8, rfl, hva⟩ := recv_known hpost RM.out
               have VA8 := Lib.hid hva
               have K8 := Lib.hid (KC.out.trans hk8 (by simp))
               have NB8 := Lib.hid (NB0.out.go hk8)
               have BB8 := Lib.hid (BB.out.kept hk8 (by simp))
               clear hpost hk8 hva hbc)
            | (((with_reducible show wpList _ _ _ ({ dst := none, op := Op.store 26 (.tmp 19) (.tmp 105), type := _, pos := _, after := _, guard := _ } :: _) _ _); refine wpList_put (t := 26) rfl 26 (.tmp 19) (.tmp 105) rfl _ (by rfl) (by rfl) (by (repeat (first | (apply Blk.new'; simp; done) | apply Blk.alloc | apply Blk.drew))) (by rfl) (by kernel_rfl) (by simp [Value.oneCell']) ?_; intro w9 hb9 hk9; have Hb9 := Lib.hid hb9; have Hk9 := Lib.hid hk9; clear hb9 hk9)
               have hk9 : Kept [] w8 w9 := ((Kept.refl [] w8).alloc _).trans Hk9.out (fun i hi => .inr (by simp at hi; omega))
               have K9 := Lib.hid (K8.out.trans hk9 (by simp))
               have NB9 := Lib.hid (NB8.out.go hk9)
               have VA9 := Lib.hid (VA8.out.go hk9)
               have BB9 := Lib.hid (BB8.out.kept hk9 (by simp))
               have hbc := BB9.out.cell
               clear hk9)
            | (go_at_call 16
               with_reducible refine (rReceive_any w9 bs NB9.out.rd (by omega)).mono ?_
               rintro e w10 hpost
               obtain ⟨hk10, D4, k4, h4, D5, k5, h5, D6, k6, h6, G10, rfl, hva⟩ := recv_known hpost RM.out
               have VB10 := Lib.hid hva
               have VA10 := Lib.hid (VA9.out.go hk10)
               have K10 := Lib.hid (K9.out.trans hk10 (by simp))
               have X10 := Lib.hid (Hb9.out.kept hk10 (by simp))
               clear hpost hk10 hva hbc)
            | (((with_reducible show wpList _ _ _ ({ dst := none, op := Op.store 26 (.tmp 22) (.tmp 111), type := _, pos := _, after := _, guard := _ } :: _) _ _); refine wpList_put (t := 26) rfl 26 (.tmp 22) (.tmp 111) rfl _ (by rfl) (by rfl) (by (repeat (first | (apply Blk.new'; simp; done) | apply Blk.alloc | apply Blk.drew))) (by rfl) (by kernel_rfl) (by simp [Value.oneCell']) ?_; intro w11 hb11 hk11; have Hb11 := Lib.hid hb11; have Hk11 := Lib.hid hk11; clear hb11 hk11)
               have hk11 : Kept [] w10 w11 := ((Kept.refl [] w10).alloc _).trans Hk11.out (fun i hi => .inr (by simp at hi; omega))
               have K11 := Lib.hid (K10.out.trans hk11 (by simp))
               have VA11 := Lib.hid (VA10.out.go hk11)
               have VB11 := Lib.hid (VB10.out.go hk11)
               have X11 := Lib.hid (X10.out.kept hk11 (by simp))
               clear hk11))
          have hx11 := X11.out.cell
          have hy11 := Hb11.out.cell
          go_wp2_with (first
            | (go_at_call 17
               refine (rSameState_any _ V V VA11.out VB11.out).mono ?_
               rintro e w12 ⟨rfl, hk12⟩
               rw [SS.out]
               have K12 := Lib.hid (K11.out.trans hk12 (by simp))
               clear hk12)
            | (go_at_call 8
               refine (AW.out _).mono ?_
               rintro e wy ⟨rfl, hky⟩
               have KY := Lib.hid (K12.out.trans hky (by simp))
               clear hky))
          go_ret
          exact ⟨rfl, KY.out⟩
set_option maxRecDepth 100000 in
theorem HandReceives_walk {H : Type} {enc : TypeId × Value → H} {S : Prop} (W : World) (base : Nat) (v0 : Value) (d0 : DataW H) (p0 : List MemPlace) (v1 : Value) (d1 : DataW H) (p1 : List MemPlace) (v2 : Value) (d2 : DataW H) (p2 : List MemPlace) (v3 : Value) (d3 : DataW H) (p3 : List MemPlace) (v4 : Value) (d4 : DataW H) (p4 : List MemPlace) (v5 : Value) (d5 : DataW H) (p5 : List MemPlace)
    (hv0 : Value.okWide Tryz.prog W .any base 27 v0) (hv1 : Value.okWide Tryz.prog W .any base 36 v1) (hv2 : Value.okWide Tryz.prog W .any base 3 v2) (hv3 : Value.okWide Tryz.prog W .any base 3 v3) (hv4 : Value.okWide Tryz.prog W .any base 5 v4) (hv5 : Value.okWide Tryz.prog W .any base 3 v5)
    (h0 : DataW.Trod enc Tryz.prog W 0 (fun _ => true) true 27 v0 d0 p0) (h1 : DataW.Trod enc Tryz.prog W 0 (fun _ => true) true 36 v1 d1 p1) (h2 : DataW.Trod enc Tryz.prog W 0 (fun _ => true) true 3 v2 d2 p2) (h3 : DataW.Trod enc Tryz.prog W 0 (fun _ => true) true 3 v3 d3 p3) (h4 : DataW.Trod enc Tryz.prog W 0 (fun _ => true) true 5 v4 d4 p4) (h5 : DataW.Trod enc Tryz.prog W 0 (fun _ => true) true 3 v5 d5 p5) (_ : S) :
    Calls Tryz.prog 4 #[v0, v1, v2, v3, v4, v5] W fun e W' => e = .returned (.bool true) ∧ Below W.heap.size W W' := by
  obtain ⟨A, m, c, l, rfl, hl⟩ := open_records hv0 h0
  obtain ⟨vs, hvs, _⟩ := open_ints_arr hv1 h1
  obtain ⟨Av, mv, cv, rfl, hvl, _⟩ := id hvs
  obtain ⟨a, rfl, rfl, rfl, _⟩ := open_int Tryz.underlying3 hv2 h2
  obtain ⟨b, rfl, rfl, rfl, _⟩ := open_int Tryz.underlying3 hv3 h3
  obtain ⟨x, rfl⟩ := open_u8 hv4 h4
  obtain ⟨u, rfl, rfl, rfl, _⟩ := open_int Tryz.underlying3 hv5 h5
  exact (HandReceives_walk0 W l vs a b x u hl (fun g hg => List.mem_range.1 hg) hvs hvl).mono fun e W' ⟨h, hk⟩ => ⟨h, hk.below (Nat.le_refl _) (by simp)⟩
end Go.Proofs.YtkacghjglicjiaaGreat
