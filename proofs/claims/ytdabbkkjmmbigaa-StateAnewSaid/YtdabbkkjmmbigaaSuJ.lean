
/-
  StateAnew: the walk.
-/
import Derived.Test.YtdabbkkjmmbigaaSuG
namespace Go.Proofs.Ytdabbkkjmmbigaa
open Go.RowKit Go.ChangeShapes Go.WideShapes Go.ChangeAt Go.Deep Go.MapKept
set_option linter.unusedVariables false

theorem run_err {S T : StD} {r : RecD} {l : List RecD} (h : runS S (r :: l) = (T, 0)) : errS S r = 0 ∧ runS (applyS S r) l = (T, 0) := by
  by_cases he : errS S r = 0
  · exact ⟨he, by rw [← run_cons he]; exact h⟩
  · rw [show runS S (r :: l) = (S, errS S r) from if_neg he] at h
    injection h with _ h2
    exact absurd h2 he
theorem Of_view {w : World} {G : List Nat} {A1 A2 A3 : Option Addr} {m1 c1 m2 c2 m3 c3 : Nat} {S T : StD} {V : VwD} (h : VA w G A1 m1 c1 A2 m2 c2 A3 m3 c3 V) (ok : OkS S) (hv : IsView S V) (hr : runS newS (recsV V) = (T, 0)) (hT : OkS T) (hTV : IsView T V) :
    Calls Try.prog 25 #[.agg #[.int .i64 V.gen, .slice A1 m1 c1, .slice A2 m2 c2, .slice A3 m3 c3]] w fun e w' => ∃ q, e = .returned (.tuple #[.pointer (some ⟨q, 0, none⟩), .int .i64 0]) ∧ StB w w' q T := by
  have hl := hv.lens ok
  refine (Of_any w V h (by omega) (by omega) (by omega)).mono ?_
  rintro e w' ⟨S', e0, h1, hk, h2⟩
  rw [hr] at h1
  injection h1 with hS he
  subst hS he
  rcases h2 with ⟨h3, _⟩ | ⟨_, V', hv', h3⟩
  · exact absurd rfl h3
  · obtain rfl : V' = V := hv'.one hT hTV
    rcases h3 with ⟨_, q, h4, h5⟩ | ⟨h4, _⟩
    · exact ⟨q, h4, h5⟩
    · rw [sameV_self] at h4
      cases h4
theorem copy_own {W w : World} {p : Nat} {S : StD} (h : StB W w p S) (ok : OkS S) : Calls Try.prog 24 #[.pointer (some ⟨p, 0, none⟩)] w fun e w' => ∃ q bd bf, e = .returned (.pointer (some ⟨q, 0, none⟩)) ∧ StP w w' q bd bf S := by
  refine (Copy_any h ok).mono ?_
  rintro e w' ⟨q, rfl, bd, bf, hq⟩
  exact ⟨q, bd, bf, rfl, hq⟩
theorem view_b {W w : World} {p : Nat} {S : StD} (h : StB W w p S) (ok : OkS S) : Calls Try.prog 15 #[.pointer (some ⟨p, 0, none⟩)] w fun e w' => ∃ V A1 m1 c1 A2 m2 c2 A3 m3 c3 G, e = .returned (.agg #[.int .i64 V.gen, .slice A1 m1 c1, .slice A2 m2 c2, .slice A3 m3 c3]) ∧ IsView S V ∧ VA w' G A1 m1 c1 A2 m2 c2 A3 m3 c3 V ∧ (∀ k ∈ G, w.heap.size ≤ k) ∧ Kept [] w w' := by
  obtain ⟨bd, bf, h⟩ := h
  exact view_p h ok
theorem len_b {W w : World} {p : Nat} {S : StD} (h : StB W w p S) (ok : OkS S) : Calls Try.prog 11 #[.pointer (some ⟨p, 0, none⟩)] w fun e w' => e = .returned (.int .i64 (lenS S)) ∧ Kept [] w w' := by
  refine (StLen_any h ok).mono ?_
  rintro e w' ⟨rfl, n, rfl⟩
  exact ⟨rfl, (Kept.refl [] w).drewN n⟩
theorem recs_back {V : VwD} (hb : V.backs.length ≤ 16) : ∀ r ∈ recsV V, r.backs.length ≤ 1000 := by
  intro r hr
  unfold recsV at hr
  rcases List.mem_cons.1 hr with rfl | hr
  · show V.backs.length ≤ 1000
    omega
  · rcases List.mem_append.1 hr with hr | hr
    · obtain ⟨d, _, rfl⟩ := List.mem_map.1 hr
      exact Nat.zero_le _
    · obtain ⟨d, _, rfl⟩ := List.mem_map.1 hr
      exact Nat.zero_le _
set_option maxRecDepth 100000 in
set_option maxHeartbeats 16000000 in
theorem StateAnew_walk0 (w : World) {G G' : List Nat} {A A' : Option Addr} {m c m' c' : Nat} (l l' : List RecD) (h : RecArr w G (.slice A m c) l) (hG : ∀ g ∈ G, g < w.heap.size) (h' : RecArr w G' (.slice A' m' c') l') (hG' : ∀ g ∈ G', g < w.heap.size) :
    Calls Try.prog 8 #[.slice A m c, .slice A' m' c'] w fun e w' => e = .returned (.bool true) ∧ Kept [] w w' := by
  obtain ⟨a1, a2, a3, a4⟩ := h.len
  obtain ⟨b1, b2, b3, b4⟩ := h'.len
  have H := Lib.hid h
  have HG := Lib.hid hG
  have H' := Lib.hid h'
  have HG' := Lib.hid hG'
  have A1 := Lib.hid a1
  have B1 := Lib.hid b1
  clear h a1 a4 hG h' hG' b1 b4
  unfold maxLen at a3 b3
  have Li := Lib.hid (light_any _ l H.out)
  have AW := Lib.hid (fun w' => awake14_any w')
  go_enter Try.func8, Try.ntmps8
  cases hl : lightB l
  · have HL := Lib.hid hl
    clear hl
    go_wp2_with (first
      | (go_at_call 13
         with_reducible refine Li.out.mono ?_
         rintro e w1 ⟨rfl, hk1⟩
         rw [HL.out]
         have K1 := Lib.hid hk1
         have LR := Lib.hid (light_any w1 l' (RecArr.kept H'.out hk1 (by simp)))
         clear hk1)
      | (go_at_call 12
         refine (AW.out _).mono ?_
         rintro e wy ⟨rfl, hky⟩
         have KY := Lib.hid (K1.out.trans hky (by simp))
         clear hky))
    go_ret
    exact ⟨rfl, KY.out⟩
  have HL := Lib.hid hl
  have LI := Lib.hid (light_iff.1 hl)
  clear hl
  have hm : m ≤ 200 := by rw [← A1.out]; exact LI.out.1
  cases hlr : lightB l'
  · have HLR := Lib.hid hlr
    clear hlr
    go_wp2_with (first
      | (go_at_call 13
         with_reducible refine Li.out.mono ?_
         rintro e w1 ⟨rfl, hk1⟩
         rw [HL.out]
         have K1 := Lib.hid hk1
         have LR := Lib.hid (light_any w1 l' (RecArr.kept H'.out hk1 (by simp)))
         clear hk1)
      | (go_at_call 13
         with_reducible refine LR.out.mono ?_
         rintro e w2 ⟨rfl, hk2⟩
         rw [HLR.out]
         have K2 := Lib.hid (K1.out.trans hk2 (by simp))
         clear hk2)
      | (go_at_call 12
         refine (AW.out _).mono ?_
         rintro e wy ⟨rfl, hky⟩
         have KY := Lib.hid (K2.out.trans hky (by simp))
         clear hky))
    go_ret
    exact ⟨rfl, KY.out⟩
  have HLR := Lib.hid hlr
  have LI' := Lib.hid (light_iff.1 hlr)
  clear hlr
  have hm' : m' ≤ 200 := by rw [← B1.out]; exact LI'.out.1
  go_wp2_with (first
    | (go_at_call 13
       with_reducible refine Li.out.mono ?_
       rintro e w1 ⟨rfl, hk1⟩
       rw [HL.out]
       have K1 := Lib.hid hk1
       have LR := Lib.hid (light_any w1 l' (RecArr.kept H'.out hk1 (by simp)))
       clear hk1)
    | (go_at_call 13
       with_reducible refine LR.out.mono ?_
       rintro e w2 ⟨rfl, hk2⟩
       rw [HLR.out]
       have K2 := Lib.hid (K1.out.trans hk2 (by simp))
       clear hk2)
    | (go_at_call 9
       refine (New_p _).mono ?_
       rintro e w3 ⟨p, bd, bf, rfl, hn⟩
       have hsz := K2.out.size
       have P3 : Hid (StP w w3 p bd bf newS) := Lib.hid (by
         obtain ⟨Ax, mx, cx, hx⟩ := hn
         exact ⟨Ax, mx, cx, hx.blk, hx.md, hx.mf, LV.wide hx.bk K2.out, by have := hx.hp; omega, by have := hx.hd; omega, by have := hx.hf; omega, hx.ne⟩)
       clear hn))
  clear Li K1 K2 HL HLR
  go_loopg [31] m (fun gg i wr => ∃ (j : Nat) (S : StD), j ≤ m ∧ gg = m - j ∧ i = .int .i64 j ∧ OkS S ∧ OkF S ∧ StP w wr p bd bf S)
  case atStart => exact ⟨0, newS, by omega, by omega, rfl, OkS.new, OkF.new, P3.out⟩
  case round =>
    clear P3
    obtain ⟨j, S, hj, rfl, rfl, hok, hokf, hst⟩ := hrel
    have Ok := Lib.hid hok
    have OkFl := Lib.hid hokf
    have St := Lib.hid hst
    clear hok hokf hst
    by_cases hlt : j < m
    · have hkl : j < l.length := by rw [A1.out]; exact hlt
      obtain ⟨g, o, B, n, d, rfl, hg, hgG, hat, hbk⟩ := (RecArr.kept H.out St.out.kept (by simp)).at (k := j) hkl
      have Hbk := Lib.hid hbk
      have hn1 : n ≤ 40 := by rw [← hbk.len.1]; exact LI.out.2 _ (List.getElem_mem hkl)
      clear hbk
      generalize l[j]'hkl = x at *
      obtain ⟨c0, c1', c2', c3', c4, c5, c6, c7, c8, c9, c10, c11, c12, c13⟩ := hat
      have i0 : (0 : Int) ≤ (j : Int) := by omega
      have i1 : (j : Int) < (m : Int) := by omega
      have iw : IntKind.i64.wrap ((j : Int) + 1) = (j : Int) + 1 := IntWalk.i64_in _ (by omega)
      have HP := Lib.hid St.out.lts
      have AP := Lib.hid (fun (w' : World) (hk : Kept [] wr w') => apply_p (St.out.go hk) Ok.out x (⟨BkArr.kept Hbk.out hk (by simp), fun q hq => Nat.lt_of_lt_of_le (HG.out q hq) (St.out.kept.trans hk (by simp)).size, by omega⟩ : SmallB w' G B n d x.backs))
      by_cases he : errS S x = 0
      · have HE : Hid (errS S x = 0) := Lib.hid he
        have HT := Lib.hid (apply_twice he)
        have OkA := Lib.hid (Ok.out.apply x)
        clear he
        go_wp2_with (first
          | (((with_reducible show wpList _ _ _ ({ dst := none, op := Op.store 34 (.tmp 7) (.tmp 34), type := _, pos := _, after := _, guard := _ } :: _) _ _); refine wpList_put (t := 34) rfl 34 (.tmp 7) (.tmp 34) rfl _ (by rfl) (by rfl) (by (repeat (first | (apply Blk.new'; simp; done) | apply Blk.alloc | apply Blk.drew))) (by rfl) (by kernel_rfl) (by simp [Value.oneCell']) ?_; intro w5 hb5 hk5; have Hb5 := Lib.hid hb5; have Hk5 := Lib.hid hk5; clear hb5 hk5)
             have K5 := Lib.hid (((Kept.refl [] wr).alloc _).trans Hk5.out (fun i hi => .inr (by simp at hi; omega)))
             have hx5 := Hb5.out.cell)
          | (go_at_call 10
             with_reducible refine (AP.out _ K5.out).mono ?_
             rintro e w6 ⟨rfl, hs6, hk6, hb6⟩
             rw [HE.out]
             have S6 := Lib.hid hs6
             have X6 := Lib.hid (hb6 _ _ _ Hb5.out (by decide))
             have hx6 := X6.out.cell
             have hz6 : wr.heap.size < w6.heap.size := Nat.lt_of_lt_of_le Hb5.out.lt hk6.size
             have BK6 := Lib.hid (BkArr.kept (BkArr.kept Hbk.out K5.out (by simp)) hk6 (by
               intro k hk hm
               have h1 := HG.out k hk
               have h2 := HP.out
               simp at hm
               omega))
             clear hs6 hk6 hb6 hx5)
          | (go_at_call 15
             with_reducible refine (view_p S6.out (Ok.out.apply x)).mono ?_
             rintro e wv ⟨V, s1, n1, d1, s2, n2, d2, s3, n3, d3, G1, rfl, hv, hva, hgv, hkv⟩
             have HV := Lib.hid hv
             have VA1 := Lib.hid hva
             have HG1 := Lib.hid hgv
             have K7 := Lib.hid hkv
             clear hv hva hgv hkv)
          | (((with_reducible show wpList _ _ _ ({ dst := none, op := Op.store 45 (.tmp 9) (.tmp 41), type := _, pos := _, after := _, guard := _ } :: _) _ _); refine wpList_put (t := 45) rfl 45 (.tmp 9) (.tmp 41) rfl _ (by rfl) (by rfl) (by (repeat (first | (apply Blk.new'; simp; done) | apply Blk.alloc | apply Blk.drew))) (by rfl) (by kernel_rfl) (by simp [Value.oneCell']) ?_; intro w8 hb8 hk8; have Hb8 := Lib.hid hb8; have Hk8 := Lib.hid hk8; clear hb8 hk8)
             have hk8 := (((Kept.refl [] wv).alloc _).trans Hk8.out (fun i hi => .inr (by simp at hi; omega)) : Kept [] wv w8)
             have K8 := Lib.hid (K7.out.trans hk8 (by simp))
             have VA8 := Lib.hid (VA1.out.go hk8)
             have X8 := Lib.hid (X6.out.kept K8.out (by simp))
             have S8 := Lib.hid (S6.out.go K8.out)
             clear hk8))
        have HP6 := Lib.hid S6.out.lts
        have SD8 := Lib.hid (S8.out.go ((Kept.refl [] w8).drew))
        have hsz8 : w6.heap.size ≤ w8.heap.size := K8.out.size
        have AP2 := Lib.hid (apply_p SD8.out OkA.out x (⟨BkArr.kept (BkArr.kept BK6.out K8.out (by simp)) ((Kept.refl [] w8).drew) (by simp), fun q hq => Nat.lt_of_lt_of_le (HG.out q hq) SD8.out.kept.size, by omega⟩ : SmallB w8.drew G B n d x.backs))
        have hx8 := X8.out.cell
        have hy8 := Hb8.out.cell
        clear hx6
        go_region_held3 (fun w' => (∀ o, w'.cell? ⟨wr.heap.size, o, none⟩ = (#[.int .i64 x.kind, .int .u32 (x.tup.src.toNat : Nat), .int .u32 (x.tup.dst.toNat : Nat), .int .i64 x.tup.proto, .int .i64 x.tup.sport, .int .i64 x.tup.dport, .int .i64 x.fb, .int .i64 x.fg, .int .i64 x.fs, .int .i64 x.gen, .slice B n d, .int .i64 x.back, .int .i64 x.until_, .int .i64 x.count] : Array Value)[o]?) ∧ ∀ o, w'.cell? ⟨wv.heap.size, o, none⟩ = (#[.int .i64 V.gen, .slice s1 n1 d1, .slice s2 n2 d2, .slice s3 n3 d3] : Array Value)[o]?)
          (first
            | exact ⟨YY12.out, ZZ12.out⟩
            | exact ⟨YY11.out, ZZ11.out⟩
            | exact ⟨YY10.out, ZZ10.out⟩
            | exact ⟨(Blk.kept (S := []) X8.out (by (repeat (first | exact Kept.refl _ _ | apply Kept.alloc | apply Kept.drew))) (by simp)).cell, (Blk.kept (S := []) Hb8.out (by (repeat (first | exact Kept.refl _ _ | apply Kept.alloc | apply Kept.drew))) (by simp)).cell⟩)
          (first
            | (go_at_call 10
               refine AP2.out.mono ?_
               rintro e w10 ⟨rfl, hs10, hk10, hb10⟩
               rw [HT.out.1]
               rw [HT.out.2] at hs10
               have S10 := Lib.hid hs10
               have YY10 := Lib.hid (hb10 _ _ _ (X8.out.kept ((Kept.refl [] w8).drew) (by simp)) (by decide)).cell
               have ZB10 := Lib.hid (hb10 _ _ _ (Hb8.out.kept ((Kept.refl [] w8).drew) (by simp)) (by decide))
               have YB10 := Lib.hid (hb10 _ _ _ (X8.out.kept ((Kept.refl [] w8).drew) (by simp)) (by decide))
               have ZZ10 := Lib.hid ZB10.out.cell
               have V10 := Lib.hid ((VA8.out.go ((Kept.refl [] w8).drew)).kept hk10 (by
                 intro k hk hm
                 have h1 := HG1.out k hk
                 have h2 := HP6.out
                 simp at hm
                 omega))
               have hy10 := YY10.out
               have hz10 := ZZ10.out
               clear hs10 hk10 hb10)
            | (go_at_call 15
               refine (view_p S10.out OkA.out).mono ?_
               rintro e w11 ⟨V2, t1, p1, q1, t2, p2, q2, t3, p3, q3, G2, rfl, hv2, hva2, _, hk11⟩
               obtain rfl : V2 = V := hv2.one OkA.out HV.out
               have K11 := Lib.hid hk11
               have VN11 := Lib.hid hva2
               have V11 := Lib.hid (V10.out.go hk11)
               have YY11 := Lib.hid (YB10.out.kept hk11 (by simp)).cell
               have ZZ11 := Lib.hid (ZB10.out.kept hk11 (by simp)).cell
               have hy11 := YY11.out
               have hz11 := ZZ11.out
               clear hv2 hva2 hk11)
            | (go_at_call 16
               refine (StSame_any _ V2 V2 VN11.out V11.out).mono ?_
               rintro e w12 ⟨rfl, hk12⟩
               rw [sameV_self]
               have S12 := Lib.hid (S10.out.go (K11.out.trans hk12 (by simp)))
               have YY12 := Lib.hid (YB10.out.kept (K11.out.trans hk12 (by simp)) (by simp)).cell
               have ZZ12 := Lib.hid (ZB10.out.kept (K11.out.trans hk12 (by simp)) (by simp)).cell
               have hy12 := YY12.out
               have hz12 := ZZ12.out
               clear hk12))
        all_goals
          go_wp2
          go_roundg (m - (j + 1))
          case measure => omega
          case rel => exact ⟨j + 1, applyS S x, by omega, rfl, by go_num, OkA.out, OkFl.out.apply x, S12.out⟩
      · obtain ⟨e0, he0⟩ : ∃ e0, errS S x = e0 := ⟨_, rfl⟩
        have HE : Hid (errS S x = e0) := Lib.hid he0
        have i3 : (e0 == 0) = false := by rw [← he0]; simp [he]
        have i4 : (e0 != 0) = true := by rw [← he0]; simp [he]
        clear he he0
        go_wp2_with (first
          | (((with_reducible show wpList _ _ _ ({ dst := none, op := Op.store 34 (.tmp 7) (.tmp 34), type := _, pos := _, after := _, guard := _ } :: _) _ _); refine wpList_put (t := 34) rfl 34 (.tmp 7) (.tmp 34) rfl _ (by rfl) (by rfl) (by (repeat (first | (apply Blk.new'; simp; done) | apply Blk.alloc | apply Blk.drew))) (by rfl) (by kernel_rfl) (by simp [Value.oneCell']) ?_; intro w5 hb5 hk5; have Hb5 := Lib.hid hb5; have Hk5 := Lib.hid hk5; clear hb5 hk5)
             have K5 := Lib.hid (((Kept.refl [] wr).alloc _).trans Hk5.out (fun i hi => .inr (by simp at hi; omega)))
             have hx5 := Hb5.out.cell)
          | (go_at_call 10
             with_reducible refine (AP.out _ K5.out).mono ?_
             rintro e w6 ⟨rfl, hs6, hk6, hb6⟩
             rw [HE.out]
             have S6 := Lib.hid hs6
             have X6 := Lib.hid (hb6 _ _ _ Hb5.out (by decide))
             have hx6 := X6.out.cell
             have hz6 : wr.heap.size < w6.heap.size := Nat.lt_of_lt_of_le Hb5.out.lt hk6.size
             have BK6 := Lib.hid (BkArr.kept (BkArr.kept Hbk.out K5.out (by simp)) hk6 (by
               intro k hk hm
               have h1 := HG.out k hk
               have h2 := HP.out
               simp at hm
               omega))
             clear hs6 hk6 hb6 hx5))
        go_roundg (m - (j + 1))
        case measure => omega
        case rel => exact ⟨j + 1, applyS S x, by omega, rfl, by go_num, Ok.out.apply x, OkFl.out.apply x, S6.out⟩
    · obtain rfl : m = j := by omega
      have i1 : ¬ (m : Int) < (m : Int) := by omega
      rename World => wn
      clear i1 hj hm a2 a3
      go_wp2_with (first
        | (go_at_call 9
           refine (New_p _).mono ?_
           rintro e w4 ⟨pt, bdt, bft, rfl, hn⟩
           have P4 := Lib.hid hn
           clear hn)
        | (go_at_call 22
           refine (Records_any (St.out.go P4.out.kept).b Ok.out).mono ?_
           rintro e w5 ⟨V, A5, m5, c5, rfl, hv, hr⟩
           have HV := Lib.hid hv
           have RN5 := Lib.hid hr
           have P5 := Lib.hid (P4.out.go hr.kept)
           clear hv hr))
      obtain ⟨T, hrun, hTok, hTV⟩ := anew Ok.out OkFl.out HV.out
      obtain ⟨Gr, har, hgr⟩ := RN5.out.arr
      have HTok := Lib.hid hTok
      have HTV := Lib.hid hTV
      have HRUN := Lib.hid hrun
      have L5 := Lib.hid har.len.1
      have hc5 := har.len.2
      unfold maxLen at hc5
      obtain ⟨hc5a, hc5b, _⟩ := hc5
      have HGr := Lib.hid hgr
      have HP4 := Lib.hid P4.out.lts
      have AR5 := Lib.hid har
      have HBL := Lib.hid (recs_back ((HV.out.lens Ok.out).2.2))
      clear hrun hTok hTV har hgr
      go_loopg [58] m5 (fun gg i wr => ∃ (j : Nat) (C : StD), j ≤ m5 ∧ gg = m5 - j ∧ i = .int .i64 j ∧ OkS C ∧ runS C ((recsV V).drop j) = (T, 0) ∧ StP wn wr pt bdt bft C ∧ RecArr wr Gr (.slice A5 m5 c5) (recsV V) ∧ ∀ k ∈ Gr, k < wr.heap.size)
      case atStart => exact ⟨0, newS, by omega, by omega, rfl, OkS.new, by rw [List.drop_zero]; exact HRUN.out, P5.out, AR5.out, fun k hk => (HGr.out k hk).2⟩
      case round =>
        obtain ⟨j, C, hj, rfl, rfl, hok, hrun, hst, hra, hlt'⟩ := hrel
        have OkC := Lib.hid hok
        have Run := Lib.hid hrun
        have Ct := Lib.hid hst
        have Ra := Lib.hid hra
        have Lt := Lib.hid hlt'
        clear hok hrun hst hra hlt'
        by_cases hlt : j < m5
        · have hkl : j < (recsV V).length := by rw [L5.out]; exact hlt
          obtain ⟨g, o, B, n, d, rfl, hg, hgG, hat, hbk⟩ := Ra.out.at (k := j) hkl
          have Hbk := Lib.hid hbk
          have hn1 : n ≤ 1000 := by rw [← hbk.len.1]; exact HBL.out _ (List.getElem_mem hkl)
          have hrn := Run.out
          rw [drop_cons hkl] at hrn
          clear hbk
          generalize (recsV V)[j]'hkl = x at *
          have HRn := Lib.hid (run_err hrn)
          clear hrn
          obtain ⟨c0, c1', c2', c3', c4, c5', c6, c7, c8, c9, c10, c11, c12, c13⟩ := hat
          have i0 : (0 : Int) ≤ (j : Int) := by omega
          have i1 : (j : Int) < (m5 : Int) := by omega
          have iw : IntKind.i64.wrap ((j : Int) + 1) = (j : Int) + 1 := IntWalk.i64_in _ (by omega)
          have AP := Lib.hid (fun (w' : World) (hk : Kept [] wr w') => apply_p (Ct.out.go hk) OkC.out x (⟨BkArr.kept Hbk.out hk (by simp), fun q hq => Nat.lt_of_lt_of_le (Lt.out q hq) hk.size, by omega⟩ : SmallB w' Gr B n d x.backs))
          go_wp2_with (first
            | (((with_reducible show wpList _ _ _ ({ dst := none, op := Op.store 34 (.tmp 12) (.tmp 61), type := _, pos := _, after := _, guard := _ } :: _) _ _); refine wpList_put (t := 34) rfl 34 (.tmp 12) (.tmp 61) rfl _ (by rfl) (by rfl) (by (repeat (first | (apply Blk.new'; simp; done) | apply Blk.alloc | apply Blk.drew))) (by rfl) (by kernel_rfl) (by simp [Value.oneCell']) ?_; intro w5 hb5 hk5; have Hb5 := Lib.hid hb5; have Hk5 := Lib.hid hk5; clear hb5 hk5)
               have K5 := Lib.hid (((Kept.refl [] wr).alloc _).trans Hk5.out (fun i hi => .inr (by simp at hi; omega)))
               have hx5 := Hb5.out.cell)
            | (go_at_call 10
               refine (AP.out _ K5.out).mono ?_
               rintro e w6 ⟨rfl, hs6, hk6, hb6⟩
               rw [HRn.out.1]
               have S6 := Lib.hid hs6
               have A6 := Lib.hid (RecArr.kept (RecArr.kept Ra.out K5.out (by simp)) hk6 (by
                 intro k hk hm
                 have h1 := HGr.out k hk
                 have h2 := HP4.out
                 simp at hm
                 omega))
               have Lt6 := Lib.hid (fun k hk => Nat.lt_of_lt_of_le (Lt.out k hk) (Nat.le_trans K5.out.size hk6.size))
               clear hs6 hk6 hb6))
          go_roundg (m5 - (j + 1))
          case measure => omega
          case rel => exact ⟨j + 1, applyS C x, by omega, rfl, by go_num, OkC.out.apply x, HRn.out.2, S6.out, A6.out, Lt6.out⟩
        · obtain rfl : m5 = j := by omega
          have i1 : ¬ (m5 : Int) < (m5 : Int) := by omega
          have hTC : C = T := by
            have := Run.out
            rw [List.drop_of_length_le (by rw [L5.out]; exact Nat.le_refl _)] at this
            injection this
          subst hTC
          rename World => wt
          clear hj hc5a hc5b
          go_wp2_with (first
            | (go_at_call 15
               with_reducible refine (view_p (St.out.go Ct.out.kept) Ok.out).mono ?_
               rintro e wv ⟨V2, s1, n1, d1, s2, n2, d2, s3, n3, d3, G1, rfl, hv2, hva, _, hkv⟩
               obtain rfl : V2 = V := hv2.one Ok.out HV.out
               have VA7 := Lib.hid hva
               have K7 := Lib.hid hkv
               clear hv2 hva hkv)
            | (((with_reducible show wpList _ _ _ ({ dst := none, op := Op.store 45 (.tmp 13) (.tmp 68), type := _, pos := _, after := _, guard := _ } :: _) _ _); refine wpList_put (t := 45) rfl 45 (.tmp 13) (.tmp 68) rfl _ (by rfl) (by rfl) (by (repeat (first | (apply Blk.new'; simp; done) | apply Blk.alloc | apply Blk.drew))) (by rfl) (by kernel_rfl) (by simp [Value.oneCell']) ?_; intro w8 hb8 hk8; have Hb8 := Lib.hid hb8; have Hk8 := Lib.hid hk8; clear hb8 hk8)
               have hk8 := (((Kept.refl [] wv).alloc _).trans Hk8.out (fun i hi => .inr (by simp at hi; omega)) : Kept [] wv w8)
               have K8 := Lib.hid (K7.out.trans hk8 (by simp))
               have VA8 := Lib.hid (VA7.out.go hk8)
               have hx8 := Hb8.out.cell
               clear hk8)
            | (go_at_call 25
               refine (Of_view VA8.out Ok.out HV.out HRUN.out HTok.out HTV.out).mono ?_
               rintro e w9 ⟨q, rfl, hq⟩
               have Q9 := Lib.hid hq
               have K9 := Lib.hid (K8.out.trans hq.kept (by simp))
               have VA9 := Lib.hid (VA8.out.go hq.kept)
               have B9 := Lib.hid (Hb8.out.kept hq.kept (by simp))
               have hx9 := B9.out.cell
               clear hq hx8))
          have TD := Lib.hid (Ct.out.go (K9.out.trans ((Kept.refl [] w9).drew) (by simp)))
          go_region_held3 (fun w' => ∀ o, w'.cell? ⟨wv.heap.size, o, none⟩ = (#[.int .i64 V2.gen, .slice s1 n1 d1, .slice s2 n2 d2, .slice s3 n3 d3] : Array Value)[o]?)
            (exact (Blk.kept (S := []) B9.out (by repeat (first | exact Kept.refl _ _ | exact K15.out | exact K14.out | exact K13.out | exact K12.out | exact K11.out | exact K10.out | apply Kept.alloc | apply Kept.drew)) (by simp)).cell)
            (first
              | (go_at_call 15
                 with_reducible refine (view_p TD.out HTok.out).mono ?_
                 rintro e w10 ⟨V3, t1, p1, q1, t2, p2, q2, t3, p3, q3, G2, rfl, hv2, hva2, _, hk⟩
                 obtain rfl : V3 = V2 := hv2.one HTok.out HTV.out
                 have K10 := Lib.hid (((Kept.refl [] w9).drew).trans hk (by simp))
                 have VN10 := Lib.hid hva2
                 have VA10 := Lib.hid (VA9.out.go K10.out)
                 have hx10 := (B9.out.kept K10.out (by simp)).cell
                 clear hv2 hva2 hk)
              | (go_at_call 16
                 with_reducible refine (StSame_any _ V3 V3 VN10.out VA10.out).mono ?_
                 rintro e w11 ⟨rfl, hk⟩
                 rw [sameV_self]
                 have K11 := Lib.hid (K10.out.trans hk (by simp))
                 have Q11 := Lib.hid (Q9.out.go K11.out)
                 have hx11 := (B9.out.kept K11.out (by simp)).cell
                 clear hk)
              | (go_at_call 15
                 with_reducible refine (view_b Q11.out HTok.out).mono ?_
                 rintro e w12 ⟨V4, x1, y1, z1, x2, y2, z2, x3, y3, z3, G3, rfl, hv2, hva2, _, hk⟩
                 obtain rfl : V4 = V3 := hv2.one HTok.out HTV.out
                 have K12 := Lib.hid (K11.out.trans hk (by simp))
                 have VN12 := Lib.hid hva2
                 have VA12 := Lib.hid (VA9.out.go K12.out)
                 have hx12 := (B9.out.kept K12.out (by simp)).cell
                 clear hv2 hva2 hk)
              | (go_at_call 16
                 with_reducible refine (StSame_any _ V4 V4 VN12.out VA12.out).mono ?_
                 rintro e w13 ⟨rfl, hk⟩
                 rw [sameV_self]
                 have K13 := Lib.hid (K12.out.trans hk (by simp))
                 have S13 := Lib.hid (St.out.go (Ct.out.kept.trans (K9.out.trans K13.out (by simp)) (by simp)))
                 have hx13 := (B9.out.kept K13.out (by simp)).cell
                 clear hk)
              | (go_at_call 22
                 refine (Records_any S13.out.b Ok.out).mono ?_
                 rintro e w14 ⟨V5, A14, m14, c14, rfl, hv2, hr⟩
                 have HLN : Hid (lenS S = (m14 : Int)) := Lib.hid (by rw [← recs_len hv2, lv_len hr.v])
                 have K14 := Lib.hid (K13.out.trans hr.kept (by simp))
                 have S14 := Lib.hid (S13.out.go hr.kept)
                 have hx14 := (B9.out.kept K14.out (by simp)).cell
                 clear hv2 hr)
              | (go_at_call 11
                 refine (len_b S14.out.b Ok.out).mono ?_
                 rintro e w15 ⟨rfl, hk⟩
                 rw [HLN.out]
                 have K15 := Lib.hid (K14.out.trans hk (by simp))
                 have S15 := Lib.hid (S14.out.go hk)
                 have hx15 := (B9.out.kept K15.out (by simp)).cell
                 clear hk))
          have K0n := Lib.hid (Ct.out.kept.trans (K9.out.trans K15.out (by simp)) (by simp))
          have B15 := Lib.hid (B9.out.kept K15.out (by simp))
          have VA15 := Lib.hid (VA9.out.go K15.out)
          clear hx9
          go_wp2_with (first
            | (go_at_call 24
               refine (copy_own S15.out.b Ok.out).mono ?_
               rintro e w16 ⟨qc, bdc, bfc, rfl, hqc⟩
               have C16 := Lib.hid hqc
               clear hqc))
          go_loopg [108] m' (fun gg i wr => ∃ (j : Nat) (D : StD), j ≤ m' ∧ gg = m' - j ∧ i = .int .i64 j ∧ OkS D ∧ StP w15 wr qc bdc bfc D)
          case atStart => exact ⟨0, S, by omega, by omega, rfl, Ok.out, C16.out⟩
          case round =>
            clear C16
            obtain ⟨j, D, hj, rfl, rfl, hok, hst⟩ := hrel
            have OkD := Lib.hid hok
            have Dt := Lib.hid hst
            have KA := Lib.hid ((St.out.kept.trans K0n.out (by simp)).trans hst.kept (by simp))
            clear hok hst
            by_cases hlt : j < m'
            · have hkl : j < l'.length := by rw [B1.out]; exact hlt
              obtain ⟨g, o, B, n, d, rfl, hg, hgG, hat, hbk⟩ := (RecArr.kept H'.out KA.out (by simp)).at (k := j) hkl
              have Hbk := Lib.hid hbk
              have hn1 : n ≤ 40 := by rw [← hbk.len.1]; exact LI'.out.2 _ (List.getElem_mem hkl)
              clear hbk
              generalize l'[j]'hkl = x at *
              obtain ⟨c0, c1', c2', c3', c4, c5', c6, c7, c8, c9, c10, c11, c12, c13⟩ := hat
              have i0 : (0 : Int) ≤ (j : Int) := by omega
              have i1 : (j : Int) < (m' : Int) := by omega
              have iw : IntKind.i64.wrap ((j : Int) + 1) = (j : Int) + 1 := IntWalk.i64_in _ (by omega)
              have AP := Lib.hid (fun (w' : World) (hk : Kept [] wr w') => apply_p (Dt.out.go hk) OkD.out x (⟨BkArr.kept Hbk.out hk (by simp), fun q hq => Nat.lt_of_lt_of_le (HG'.out q hq) (KA.out.trans hk (by simp)).size, by omega⟩ : SmallB w' G' B n d x.backs))
              go_wp2_with (first
                | (((with_reducible show wpList _ _ _ ({ dst := none, op := Op.store 34 (.tmp 18) (.tmp 111), type := _, pos := _, after := _, guard := _ } :: _) _ _); refine wpList_put (t := 34) rfl 34 (.tmp 18) (.tmp 111) rfl _ (by rfl) (by rfl) (by (repeat (first | (apply Blk.new'; simp; done) | apply Blk.alloc | apply Blk.drew))) (by rfl) (by kernel_rfl) (by simp [Value.oneCell']) ?_; intro w5 hb5 hk5; have Hb5 := Lib.hid hb5; have Hk5 := Lib.hid hk5; clear hb5 hk5)
                   have K5 := Lib.hid (((Kept.refl [] wr).alloc _).trans Hk5.out (fun i hi => .inr (by simp at hi; omega)))
                   have hx5 := Hb5.out.cell)
                | (go_at_call 10
                   refine (AP.out _ K5.out).mono ?_
                   rintro e w6 ⟨rfl, hs6, hk6, hb6⟩
                   have S6 := Lib.hid hs6
                   clear hs6 hk6 hb6))
              go_roundg (m' - (j + 1))
              case measure => omega
              case rel => exact ⟨j + 1, applyS D x, by omega, rfl, by go_num, OkD.out.apply x, S6.out⟩
            · obtain rfl : m' = j := by omega
              have i1 : ¬ (m' : Int) < (m' : Int) := by omega
              have KD := Lib.hid (Dt.out.kept)
              have SE := Lib.hid (St.out.go ((K0n.out.trans KD.out (by simp)).trans ((Kept.refl [] wr).drew) (by simp)))
              have BE := Lib.hid (B15.out.kept KD.out (by simp))
              have VE := Lib.hid (VA15.out.go KD.out)
              have hxe := BE.out.cell
              go_wp2
              go_region_held3 (fun w' => ∀ o, w'.cell? ⟨wv.heap.size, o, none⟩ = (#[.int .i64 V4.gen, .slice s1 n1 d1, .slice s2 n2 d2, .slice s3 n3 d3] : Array Value)[o]?)
                (exact (Blk.kept (S := []) BE.out (by repeat (first | exact Kept.refl _ _ | exact E3.out | exact E2.out | exact E1.out | apply Kept.alloc | apply Kept.drew)) (by simp)).cell)
                (first
                  | (go_at_call 15
                     refine (view_p SE.out Ok.out).mono ?_
                     rintro e w20 ⟨V6, a1, e1, f1, a2, e2, f2, a3, e3, f3, G6, rfl, hv2, hva2, _, hk⟩
                     obtain rfl : V6 = V4 := hv2.one Ok.out HV.out
                     have E1 := Lib.hid (((Kept.refl [] wr).drew).trans hk (by simp))
                     have VN20 := Lib.hid hva2
                     have VE20 := Lib.hid (VE.out.go E1.out)
                     have hx20 := (BE.out.kept E1.out (by simp)).cell
                     clear hv2 hva2 hk)
                  | (go_at_call 16
                     refine (StSame_any _ V6 V6 VN20.out VE20.out).mono ?_
                     rintro e w21 ⟨rfl, hk⟩
                     rw [sameV_self]
                     have E2 := Lib.hid (E1.out.trans hk (by simp))
                     have hx21 := (BE.out.kept E2.out (by simp)).cell
                     clear hk)
                  | (go_at_call 12
                     refine (AW.out _).mono ?_
                     rintro e w22 ⟨rfl, hk⟩
                     have E3 := Lib.hid (E2.out.trans hk (by simp))
                     have hx22 := (BE.out.kept E3.out (by simp)).cell
                     clear hk))
              all_goals
                go_wp2
                go_ret
                exact ⟨rfl, KA.out.trans E3.out (by simp)⟩
end Go.Proofs.Ytdabbkkjmmbigaa
