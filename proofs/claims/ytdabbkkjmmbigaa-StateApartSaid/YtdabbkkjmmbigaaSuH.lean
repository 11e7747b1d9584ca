
/-
  StateApart: the walk.
-/
import Derived.Test.YtdabbkkjmmbigaaSuG
namespace Go.Proofs.Ytdabbkkjmmbigaa
open Go.RowKit Go.ChangeShapes Go.WideShapes Go.ChangeAt Go.Deep Go.MapKept
set_option linter.unusedVariables false

set_option maxRecDepth 100000 in
set_option maxHeartbeats 16000000 in
theorem StateApart_walk0 (w : World) {G G' : List Nat} {A A' : Option Addr} {m c m' c' : Nat} (l : List RecD) (r : RecD) (h : RecArr w G (.slice A m c) l) (hG : ∀ g ∈ G, g < w.heap.size) (hr : BkArr w G' (.slice A' m' c') r.backs) (hG' : ∀ g ∈ G', g < w.heap.size) :
    Calls Try.prog 5 #[.slice A m c, .agg #[.int .i64 r.kind, .int .u32 (r.tup.src.toNat : Nat), .int .u32 (r.tup.dst.toNat : Nat), .int .i64 r.tup.proto, .int .i64 r.tup.sport, .int .i64 r.tup.dport, .int .i64 r.fb, .int .i64 r.fg, .int .i64 r.fs, .int .i64 r.gen, .slice A' m' c', .int .i64 r.back, .int .i64 r.until_, .int .i64 r.count]] w fun e w' => e = .returned (.bool true) ∧ Kept [] w w' := by
  obtain ⟨a1, a2, a3, a4⟩ := h.len
  obtain ⟨b1, b2, b3, b4⟩ := hr.len
  have H := Lib.hid h
  have HG := Lib.hid hG
  have HR := Lib.hid hr
  have HG' := Lib.hid hG'
  have A1 := Lib.hid a1
  have B1 := Lib.hid b1
  clear h a1 a4 hG hr hG' b1 b4
  unfold maxLen at a3 b3
  have K0 := Lib.hid ((Kept.refl [] w).alloc (.cells #[.int .i64 r.kind, .int .u32 (r.tup.src.toNat : Nat), .int .u32 (r.tup.dst.toNat : Nat), .int .i64 r.tup.proto, .int .i64 r.tup.sport, .int .i64 r.tup.dport, .int .i64 r.fb, .int .i64 r.fg, .int .i64 r.fs, .int .i64 r.gen, .slice A' m' c', .int .i64 r.back, .int .i64 r.until_, .int .i64 r.count] 34))
  have X0 := Lib.hid (Blk.new w 34 #[.int .i64 r.kind, .int .u32 (r.tup.src.toNat : Nat), .int .u32 (r.tup.dst.toNat : Nat), .int .i64 r.tup.proto, .int .i64 r.tup.sport, .int .i64 r.tup.dport, .int .i64 r.fb, .int .i64 r.fg, .int .i64 r.fs, .int .i64 r.gen, .slice A' m' c', .int .i64 r.back, .int .i64 r.until_, .int .i64 r.count])
  have hs0 : w.heap.size < (w.alloc (.cells #[.int .i64 r.kind, .int .u32 (r.tup.src.toNat : Nat), .int .u32 (r.tup.dst.toNat : Nat), .int .i64 r.tup.proto, .int .i64 r.tup.sport, .int .i64 r.tup.dport, .int .i64 r.fb, .int .i64 r.fg, .int .i64 r.fs, .int .i64 r.gen, .slice A' m' c', .int .i64 r.back, .int .i64 r.until_, .int .i64 r.count] 34)).heap.size := by simp
  have Li := Lib.hid (light_any _ l (RecArr.kept H.out K0.out (by simp)))
  have LR := Lib.hid (fun (w' : World) (g : Nat) (hb : Blk w' g 34 #[.int .i64 r.kind, .int .u32 (r.tup.src.toNat : Nat), .int .u32 (r.tup.dst.toNat : Nat), .int .i64 r.tup.proto, .int .i64 r.tup.sport, .int .i64 r.tup.dport, .int .i64 r.fb, .int .i64 r.fg, .int .i64 r.fs, .int .i64 r.gen, .slice A' m' c', .int .i64 r.back, .int .i64 r.until_, .int .i64 r.count]) (hk : Kept [] w w') => light_any w' [r] (RecArr.one hb (BkArr.kept HR.out hk (by simp))))
  have AW := Lib.hid (fun w' => awake14_any w')
  go_enter Try.func5, Try.ntmps5
  cases hl : lightB l
  · have HL := Lib.hid hl
    clear hl
    go_wp2_with (first
      | (go_at_call 13
         with_reducible refine Li.out.mono ?_
         rintro e w1 ⟨rfl, hk1⟩
         rw [HL.out]
         have K1 := Lib.hid (K0.out.trans hk1 (by simp))
         have X1 := Lib.hid (X0.out.kept hk1 (by simp))
         have hx1 := X1.out.cell
         have hs1 : w.heap.size < w1.heap.size := Nat.lt_of_lt_of_le hs0 hk1.size
         clear hk1)
      | (go_at_call 12
         refine (AW.out _).mono ?_
         rintro e wy ⟨rfl, hky⟩
         have KY := Lib.hid (K1.out.trans hky (by simp))
         clear hky))
    go_ret
    exact ⟨rfl, KY.out⟩
  have HL := Lib.hid hl
  have LI := Lib.hid (light_iff.1 hl)
  clear hl
  have hm : m ≤ 200 := by rw [← A1.out]; exact LI.out.1
  cases hlr : lightB [r]
  · have HLR := Lib.hid hlr
    clear hlr
    go_wp2_with (first
      | (go_at_call 13
         with_reducible refine Li.out.mono ?_
         rintro e w1 ⟨rfl, hk1⟩
         rw [HL.out]
         have K1 := Lib.hid (K0.out.trans hk1 (by simp))
         have X1 := Lib.hid (X0.out.kept hk1 (by simp))
         have hx1 := X1.out.cell
         have hs1 : w.heap.size < w1.heap.size := Nat.lt_of_lt_of_le hs0 hk1.size
         clear hk1)
      | (go_at_call 13
         refine (LR.out _ _ (Blk.new w1 _ _) (K1.out.alloc _)).mono ?_
         rintro e w2 ⟨rfl, hk2⟩
         rw [HLR.out]
         have hk12 := ((Kept.refl [] w1).alloc (.cells #[.int .i64 r.kind, .int .u32 (r.tup.src.toNat : Nat), .int .u32 (r.tup.dst.toNat : Nat), .int .i64 r.tup.proto, .int .i64 r.tup.sport, .int .i64 r.tup.dport, .int .i64 r.fb, .int .i64 r.fg, .int .i64 r.fs, .int .i64 r.gen, .slice A' m' c', .int .i64 r.back, .int .i64 r.until_, .int .i64 r.count] 34)).trans hk2 (by simp)
         have K2 := Lib.hid (K1.out.trans hk12 (by simp))
         have X2 := Lib.hid (X1.out.kept hk12 (by simp))
         have hx2 := X2.out.cell
         have hs2 : w.heap.size < w2.heap.size := Nat.lt_of_lt_of_le hs1 hk12.size
         clear hk2 hk12)
      | (go_at_call 12
         refine (AW.out _).mono ?_
         rintro e wy ⟨rfl, hky⟩
         have KY := Lib.hid (K2.out.trans hky (by simp))
         clear hky))
    go_ret
    exact ⟨rfl, KY.out⟩
  have HLR := Lib.hid hlr
  have hm40 : m' ≤ 40 := by
    have := hlr
    rw [light_one] at this
    have := of_decide_eq_true this
    rw [B1.out] at this
    exact this
  clear hlr
  by_cases hk3 : r.kind = 3
  · have e3 : (r.kind == 3) = true := by simp [hk3]
    clear hk3
    go_wp2_with (first
      | (go_at_call 13
         with_reducible refine Li.out.mono ?_
         rintro e w1 ⟨rfl, hk1⟩
         rw [HL.out]
         have K1 := Lib.hid (K0.out.trans hk1 (by simp))
         have X1 := Lib.hid (X0.out.kept hk1 (by simp))
         have hx1 := X1.out.cell
         have hs1 : w.heap.size < w1.heap.size := Nat.lt_of_lt_of_le hs0 hk1.size
         clear hk1)
      | (go_at_call 13
         refine (LR.out _ _ (Blk.new w1 _ _) (K1.out.alloc _)).mono ?_
         rintro e w2 ⟨rfl, hk2⟩
         rw [HLR.out]
         have hk12 := ((Kept.refl [] w1).alloc (.cells #[.int .i64 r.kind, .int .u32 (r.tup.src.toNat : Nat), .int .u32 (r.tup.dst.toNat : Nat), .int .i64 r.tup.proto, .int .i64 r.tup.sport, .int .i64 r.tup.dport, .int .i64 r.fb, .int .i64 r.fg, .int .i64 r.fs, .int .i64 r.gen, .slice A' m' c', .int .i64 r.back, .int .i64 r.until_, .int .i64 r.count] 34)).trans hk2 (by simp)
         have K2 := Lib.hid (K1.out.trans hk12 (by simp))
         have X2 := Lib.hid (X1.out.kept hk12 (by simp))
         have hx2 := X2.out.cell
         have hs2 : w.heap.size < w2.heap.size := Nat.lt_of_lt_of_le hs1 hk12.size
         clear hk2 hk12)
      | (go_at_call 12
         refine (AW.out _).mono ?_
         rintro e wy ⟨rfl, hky⟩
         have KY := Lib.hid (K2.out.trans hky (by simp))
         clear hky))
    go_ret
    exact ⟨rfl, KY.out⟩
  have H3 : Hid (r.kind ≠ 3) := Lib.hid hk3
  have e3 : (r.kind == 3) = false := by simp [hk3]
  clear hk3
  go_wp2_with (first
    | (go_at_call 13
       with_reducible refine Li.out.mono ?_
       rintro e w1 ⟨rfl, hk1⟩
       rw [HL.out]
       have K1 := Lib.hid (K0.out.trans hk1 (by simp))
       have X1 := Lib.hid (X0.out.kept hk1 (by simp))
       have hx1 := X1.out.cell
       have hs1 : w.heap.size < w1.heap.size := Nat.lt_of_lt_of_le hs0 hk1.size
       clear hk1)
    | (go_at_call 13
       refine (LR.out _ _ (Blk.new w1 _ _) (K1.out.alloc _)).mono ?_
       rintro e w2 ⟨rfl, hk2⟩
       rw [HLR.out]
       have hk12 := ((Kept.refl [] w1).alloc (.cells #[.int .i64 r.kind, .int .u32 (r.tup.src.toNat : Nat), .int .u32 (r.tup.dst.toNat : Nat), .int .i64 r.tup.proto, .int .i64 r.tup.sport, .int .i64 r.tup.dport, .int .i64 r.fb, .int .i64 r.fg, .int .i64 r.fs, .int .i64 r.gen, .slice A' m' c', .int .i64 r.back, .int .i64 r.until_, .int .i64 r.count] 34)).trans hk2 (by simp)
       have K2 := Lib.hid (K1.out.trans hk12 (by simp))
       have X2 := Lib.hid (X1.out.kept hk12 (by simp))
       have hx2 := X2.out.cell
       have hs2 : w.heap.size < w2.heap.size := Nat.lt_of_lt_of_le hs1 hk12.size
       clear hk2 hk12)
    | (go_at_call 9
       refine (New_p _).mono ?_
       rintro e w3 ⟨p, bd, bf, rfl, hn⟩
       have hsz := K2.out.size
       have P3 : Hid (StP w w3 p bd bf newS) := Lib.hid (by
         obtain ⟨Ax, mx, cx, hx⟩ := hn
         exact ⟨Ax, mx, cx, hx.blk, hx.md, hx.mf, LV.wide hx.bk K2.out, by have := hx.hp; omega, by have := hx.hd; omega, by have := hx.hf; omega, hx.ne⟩)
       have X3 := Lib.hid (X2.out.kept hn.kept (by simp))
       have hs3 : w.heap.size < w3.heap.size := Nat.lt_of_lt_of_le hs2 hn.kept.size
       clear hn))
  clear Li LR K0 X0 K1 X1 K2 X2 hs0 hs1 hs2 HL HLR e3
  go_loopg [39] m (fun gg i wr => ∃ (j : Nat) (S : StD), j ≤ m ∧ gg = m - j ∧ i = .int .i64 j ∧ OkS S ∧ StP w wr p bd bf S ∧ Blk wr w.heap.size 34 #[.int .i64 r.kind, .int .u32 (r.tup.src.toNat : Nat), .int .u32 (r.tup.dst.toNat : Nat), .int .i64 r.tup.proto, .int .i64 r.tup.sport, .int .i64 r.tup.dport, .int .i64 r.fb, .int .i64 r.fg, .int .i64 r.fs, .int .i64 r.gen, .slice A' m' c', .int .i64 r.back, .int .i64 r.until_, .int .i64 r.count] ∧ w.heap.size < wr.heap.size)
  case atStart => exact ⟨0, newS, by omega, by omega, rfl, OkS.new, P3.out, X3.out, hs3⟩
  case round =>
    clear P3 X3 hs3
    obtain ⟨j, S, hj, rfl, rfl, hok, hst, hbx, hsr⟩ := hrel
    have Ok := Lib.hid hok
    have St := Lib.hid hst
    have Bx := Lib.hid hbx
    clear hok hst hbx
    by_cases hlt : j < m
    · have hkl : j < l.length := by rw [A1.out]; exact hlt
      obtain ⟨g, o, B, n, d, rfl, hg, hgG, hat, hbk⟩ := (RecArr.kept H.out St.out.kept (by simp)).at (k := j) hkl
      have Hbk := Lib.hid hbk
      have hn1 : n ≤ 40 := by rw [← hbk.len.1]; exact LI.out.2 _ (List.getElem_mem hkl)
      clear hbk
      generalize l[j]'hkl = x at *
      obtain ⟨c0, c1', c2', c3', c4, c5, c6, c7, c8, c9, c10, c11, c12, c13⟩ := hat
      have i0 : (0 : Int) ≤ (j : Int) := by omega
      have i1 : (j : Int) < (m : Int) := by omega
      have iw : IntKind.i64.wrap ((j : Int) + 1) = (j : Int) + 1 := IntWalk.i64_in _ (by omega)
      have AP := Lib.hid (fun (w' : World) (hk : Kept [] wr w') => apply_p (St.out.go hk) Ok.out x (⟨BkArr.kept Hbk.out hk (by simp), fun q hq => Nat.lt_of_lt_of_le (HG.out q hq) (St.out.kept.trans hk (by simp)).size, by omega⟩ : SmallB w' G B n d x.backs))
      go_wp2_with (first
        | (((with_reducible show wpList _ _ _ ({ dst := none, op := Op.store 34 (.tmp 7) (.tmp 42), type := _, pos := _, after := _, guard := _ } :: _) _ _); refine wpList_put (t := 34) rfl 34 (.tmp 7) (.tmp 42) rfl _ (by rfl) (by rfl) (by (repeat (first | (apply Blk.new'; simp; done) | apply Blk.alloc | apply Blk.drew))) (by rfl) (by kernel_rfl) (by simp [Value.oneCell']) ?_; intro w5 hb5 hk5; have Hb5 := Lib.hid hb5; have Hk5 := Lib.hid hk5; clear hb5 hk5)
           have K5 := Lib.hid (((Kept.refl [] wr).alloc _).trans Hk5.out (fun i hi => .inr (by simp at hi; omega)))
           have hx5 := Hb5.out.cell)
        | (go_at_call 10
           refine (AP.out _ K5.out).mono ?_
           rintro e w6 ⟨rfl, hs6, hk6, hb6⟩
           have S6 := Lib.hid hs6
           have X6 := Lib.hid (hb6 _ _ _ (Bx.out.kept K5.out (by simp)) (by decide))
           have hs6' : w.heap.size < w6.heap.size := Nat.lt_of_lt_of_le hsr (Nat.le_trans K5.out.size hk6.size)
           clear hs6 hk6 hb6))
      go_roundg (m - (j + 1))
      case measure => omega
      case rel => exact ⟨j + 1, applyS S x, by omega, rfl, by go_num, Ok.out.apply x, S6.out, X6.out, hs6'⟩
    · obtain rfl : m = j := by omega
      have i1 : ¬ (m : Int) < (m : Int) := by omega
      have HP := Lib.hid St.out.lts
      have VP := Lib.hid (fun (w' : World) (hk : Kept [] wr w') => view_p (St.out.go hk) Ok.out)
      have AP := Lib.hid (fun (w' : World) (hk : Kept [] wr w') => apply_p (St.out.go hk) Ok.out r (⟨BkArr.kept HR.out (St.out.kept.trans hk (by simp)) (by simp), fun q hq => Nat.lt_of_lt_of_le (HG'.out q hq) (St.out.kept.trans hk (by simp)).size, by omega⟩ : SmallB w' G' A' m' c' r.backs))
      clear hm a2 a3 b2 b3 i1 hj LI
      by_cases he : errS S r = 0
      · have HE := Lib.hid he
        clear he
        obtain ⟨gx, hgx⟩ : ∃ g, S.gen = g := ⟨_, rfl⟩
        have HGX := Lib.hid hgx
        have HAG := Lib.hid (apart_g (S := S) H3.out)
        have OkA := Lib.hid (Ok.out.apply r)
        clear hgx
        go_upto_region 15 with (first
          | (go_at_call 15
             refine (VP.out _ (Kept.refl [] _)).mono ?_
             rintro e wv ⟨V, s1, n1, d1, s2, n2, d2, s3, n3, d3, G1, rfl, hv, hva, hgv, hkv⟩
             rw [hv.gen, HGX.out]
             have HV := Lib.hid hv
             have VA1 := Lib.hid hva
             have HG1 := Lib.hid hgv
             have K7 := Lib.hid hkv
             have X7 := Lib.hid (Bx.out.kept hkv (by simp))
             have hx7 := X7.out.cell
             clear hv hva hgv hkv)
          | (((with_reducible show wpList _ _ _ ({ dst := none, op := Op.store 45 (.tmp 8) (.tmp 48), type := _, pos := _, after := _, guard := _ } :: _) _ _); refine wpList_put (t := 45) rfl 45 (.tmp 8) (.tmp 48) rfl _ (by rfl) (by rfl) (by (repeat (first | (apply Blk.new'; simp; done) | apply Blk.alloc | apply Blk.drew))) (by rfl) (by kernel_rfl) (by simp [Value.oneCell']) ?_; intro w8 hb8 hk8; have Hb8 := Lib.hid hb8; have Hk8 := Lib.hid hk8; clear hb8 hk8)
             have K8 := Lib.hid (K7.out.trans (((Kept.refl [] wv).alloc _).trans Hk8.out (fun i hi => .inr (by simp at hi; omega))) (by simp))
             have VA8 := Lib.hid (VA1.out.go (((Kept.refl [] wv).alloc _).trans Hk8.out (fun i hi => .inr (by simp at hi; omega))))
             have X8 := Lib.hid (Bx.out.kept K8.out (by simp))
             have hx8 := X8.out.cell)
          | (go_at_call 10
             with_reducible refine (AP.out _ K8.out).mono ?_
             rintro e w9 ⟨rfl, hs9, hk9, hb9⟩
             rw [HE.out]
             have S9 := Lib.hid hs9
             have B9 := Lib.hid (hb9 _ _ _ Hb8.out (by decide))
             have X9 := Lib.hid (hb9 _ _ _ X8.out (by decide))
             have VA9 := Lib.hid (VA8.out.kept hk9 (by
               intro k hk hm
               have h1 := HG1.out k hk
               have h2 := HP.out
               simp at hm
               omega))
             have hx9 := B9.out.cell
             have hr9 := X9.out.cell
             clear hs9 hk9 hb9)
          | (go_at_call 15
             with_reducible refine (view_p S9.out OkA.out).mono ?_
             rintro e wn ⟨V', t1, p1, q1, t2, p2, q2, t3, p3, q3, G2, rfl, hv, hva, hgv, hkv⟩
             rw [hv.gen, HAG.out.1, HGX.out]
             have HV' := Lib.hid hv
             have VN := Lib.hid hva
             have KN := Lib.hid hkv
             have BN := Lib.hid (B9.out.kept hkv (by simp))
             have XN := Lib.hid (X9.out.kept hkv (by simp))
             clear hv hva hgv hkv)
          | (((with_reducible show wpList _ _ _ ({ dst := none, op := Op.store 45 (.tmp 9) (.tmp 61), type := _, pos := _, after := _, guard := _ } :: _) _ _); refine wpList_put (t := 45) rfl 45 (.tmp 9) (.tmp 61) rfl _ (by rfl) (by rfl) (by (repeat (first | (apply Blk.new'; simp; done) | apply Blk.alloc | apply Blk.drew))) (by rfl) (by kernel_rfl) (by simp [Value.oneCell']) ?_; intro w11 hb11 hk11; have Hb11 := Lib.hid hb11; have Hk11 := Lib.hid hk11; clear hb11 hk11)
             have hk11 := (((Kept.refl [] wn).alloc _).trans Hk11.out (fun i hi => .inr (by simp at hi; omega)) : Kept [] wn w11)
             have K11 := Lib.hid (KN.out.trans hk11 (by simp))
             have B11 := Lib.hid (BN.out.kept hk11 (by simp))
             have X11 := Lib.hid (XN.out.kept hk11 (by simp))
             have VN11 := Lib.hid (VN.out.go hk11)
             have hx11 := Hb11.out.cell
             have hy11 := B11.out.cell
             clear hk11)
          | (go_at_call 17
             refine (rSameBs_any _ V'.backs V.backs VN11.out.bk (VA9.out.go K11.out).bk).mono ?_
             rintro e w12 ⟨rfl, hk12⟩
             rw [show sameBs V'.backs V.backs = true from by rw [HV'.out.backs, HAG.out.2, HV.out.backs]; exact sameBs_self _]
             have K12 := Lib.hid (K11.out.trans hk12 (by simp))
             have BW := Lib.hid (B11.out.kept hk12 (by simp))
             have BQ := Lib.hid (Hb11.out.kept hk12 (by simp))
             have XW := Lib.hid (X11.out.kept hk12 (by simp))
             have VW := Lib.hid (VA9.out.go K12.out)
             have VQ := Lib.hid (VN11.out.go hk12)
             have SW := Lib.hid (S9.out.go K12.out)
             have hxw := XW.out.cell
             have hbw := BW.out.cell
             have hbq := BQ.out.cell
             clear hk12))
        clear hx7 hx8 hx9 hr9 hx11 hy11
        obtain ⟨fl, hfl⟩ : ∃ fl : Bool, decide (r.kind = 1 ∨ r.kind = 2) = fl := ⟨_, rfl⟩
        go_cut [10] (fun v wx => v = .bool fl ∧ wx = w12)
        case first =>
          by_cases k1 : r.kind = 1
          · have e1 : (r.kind == 1) = true := by simp [k1]
            go_wp2_with fail
            go_meet
            exact ⟨by rw [← hfl]; simp [k1], rfl⟩
          · have e1 : (r.kind == 1) = false := by simp [k1]
            by_cases k2 : r.kind = 2
            · have e2 : (r.kind == 2) = true := by simp [k2]
              go_wp2_with fail
              go_meet
              exact ⟨by rw [← hfl]; simp [k2], rfl⟩
            · have e2 : (r.kind == 2) = false := by simp [k2]
              go_wp2_with fail
              go_meet
              exact ⟨by rw [← hfl]; simp [k1, k2], rfl⟩
        case rest =>
          obtain ⟨rfl, hwx⟩ := hcut
          have hwx := hwx.symm
          subst hwx
          have HFL : Hid (decide (r.kind = 1 ∨ r.kind = 2) = fl) := Lib.hid hfl
          clear hfl
          have hl3 := VW.out.fl.len
          have hl2 := VW.out.dr.len
          have hn2 := VQ.out.dr.len
          unfold maxLen at hl3 hl2 hn2
          obtain ⟨hl3, hc3, hd3, _⟩ := hl3
          obtain ⟨hl2, hc2, hd2, _⟩ := hl2
          obtain ⟨hn2, hq2, hz2, _⟩ := hn2
          have L3 := Lib.hid hl3
          have L2 := Lib.hid hl2
          have N2 := Lib.hid hn2
          have hle := (HV.out.lens Ok.out).1
          have hm2 : n2 ≤ 16 := by rw [← hl2]; exact hle
          have hle' := (HV'.out.lens OkA.out).1
          have hm2' : p2 ≤ 16 := by rw [← hn2]; exact hle'
          have hle3 := (HV.out.lens Ok.out).2.1
          have hm3 : n3 ≤ 256 := by rw [← hl3]; exact hle3
          clear hl3 hl2 hn2 hle hle' hle3
          go_wp2
          go_loopg [86] n3 (fun gg i wq => ∃ j : Nat, j ≤ n3 ∧ gg = n3 - j ∧ i = .int .i64 j ∧ Kept [] w12 wq)
          case atStart => exact ⟨0, by omega, by omega, rfl, Kept.refl _ _⟩
          case round =>
            obtain ⟨j, hj, rfl, rfl, hkq⟩ := hrel
            have KQ := Lib.hid hkq
            clear hkq
            by_cases hlt : j < n3
            · have hkl : j < V.flows.length := by rw [L3.out]; exact hlt
              obtain ⟨g, o, rfl, hg, hgG, c0, c1', c2', c3', c4, c5, c6, c7⟩ := (VW.out.go KQ.out).fl.at (k := j) hkl
              have HGET := Lib.hid (HV.out.flow Ok.out (List.getElem_mem hkl))
              generalize V.flows[j]'hkl = f at *
              have i0 : (0 : Int) ≤ (j : Int) := by omega
              have i1 : (j : Int) < (n3 : Int) := by omega
              have iw : IntKind.i64.wrap ((j : Int) + 1) = (j : Int) + 1 := IntWalk.i64_in _ (by omega)
              have GE := Lib.hid (fun w' (hk : Kept [] w12 w') => Get_any (SW.out.go hk).b f.tup)
              have hqt := eqT_run f.tup r.tup
              have hgt : Try.prog.eqGuardType Try.prog.depth 29 = false := by kernel_rfl
              have hqf := eqF_run f f
              have hgf : Try.prog.eqGuardType Try.prog.depth 31 = false := by kernel_rfl
              rw [decide_eq_true (rfl : f = f)] at hqf
              by_cases hot : fl = false ∨ sameT f.tup r.tup = false
              · have HF : Hid (getM (applyS S r).flows f.tup = some f) := Lib.hid (by
                  rw [apart_f, HGET.out]
                  rcases hot with h | h
                  · left; have := HFL.out; rw [h] at this; exact of_decide_eq_false this
                  · right; intro e; rw [e, sameT_iff.2 rfl] at h; cases h)
                cases fl
                · clear hqt hgt hot
                  go_wp2_with (first
                    | (((with_reducible show wpList _ _ _ ({ dst := none, op := Op.store 31 (.tmp 12) (.tmp 89), type := _, pos := _, after := _, guard := _ } :: _) _ _); refine wpList_put (t := 31) rfl 31 (.tmp 12) (.tmp 89) rfl _ (by rfl) (by rfl) (by (repeat (first | (apply Blk.new'; simp; done) | apply Blk.alloc | apply Blk.drew))) (by rfl) (by kernel_rfl) (by simp [Value.oneCell']) ?_; intro w21 hb21 hk21; have Hb21 := Lib.hid hb21; have Hk21 := Lib.hid hk21; clear hb21 hk21)
                       have K21 := Lib.hid (KQ.out.trans (((Kept.refl [] wr).alloc _).trans Hk21.out (fun i hi => .inr (by simp at hi; omega))) (by simp))
                       have hx21 := Hb21.out.cell)
                    | (go_at_call 14
                       refine (GE.out _ K21.out).mono ?_
                       rintro e w22 ⟨rfl, hk22⟩
                       rw [HF.out]
                       have K22 := Lib.hid (K21.out.trans hk22 (by simp))
                       have B22 := Lib.hid (Hb21.out.kept hk22 (by simp))
                       clear hk22 hx21)
                    | (((with_reducible show wpList _ _ _ ({ dst := none, op := Op.store 31 (.tmp 13) (.tmp 95), type := _, pos := _, after := _, guard := _ } :: _) _ _); refine wpList_put (t := 31) rfl 31 (.tmp 13) (.tmp 95) rfl _ (by rfl) (by rfl) (by (repeat (first | (apply Blk.new'; simp; done) | apply Blk.alloc | apply Blk.drew))) (by rfl) (by kernel_rfl) (by simp [Value.oneCell']) ?_; intro w23 hb23 hk23; have Hb23 := Lib.hid hb23; have Hk23 := Lib.hid hk23; clear hb23 hk23)
                       have hk23 := (((Kept.refl [] w22).alloc _).trans Hk23.out (fun i hi => .inr (by simp at hi; omega)) : Kept [] w22 w23)
                       have K23 := Lib.hid (K22.out.trans hk23 (by simp))
                       have hx23 := (B22.out.kept hk23 (by simp)).cell
                       have hy23 := Hb23.out.cell
                       have hz23 := (XW.out.kept K23.out (by simp)).cell
                       clear hk23))
                  go_roundg (n3 - (j + 1))
                  case measure => omega
                  case rel => exact ⟨j + 1, by omega, rfl, by go_num, K23.out⟩
                · have hts : sameT f.tup r.tup = false := by simpa using hot
                  rw [hts] at hqt
                  clear hts hot
                  go_wp2_with (first
                    | (((with_reducible show wpList _ _ _ ({ dst := none, op := Op.store 31 (.tmp 12) (.tmp 89), type := _, pos := _, after := _, guard := _ } :: _) _ _); refine wpList_put (t := 31) rfl 31 (.tmp 12) (.tmp 89) rfl _ (by rfl) (by rfl) (by (repeat (first | (apply Blk.new'; simp; done) | apply Blk.alloc | apply Blk.drew))) (by rfl) (by kernel_rfl) (by simp [Value.oneCell']) ?_; intro w21 hb21 hk21; have Hb21 := Lib.hid hb21; have Hk21 := Lib.hid hk21; clear hb21 hk21)
                       have K21 := Lib.hid (KQ.out.trans (((Kept.refl [] wr).alloc _).trans Hk21.out (fun i hi => .inr (by simp at hi; omega))) (by simp))
                       have hx21 := Hb21.out.cell)
                    | (go_at_call 14
                       refine (GE.out _ K21.out).mono ?_
                       rintro e w22 ⟨rfl, hk22⟩
                       rw [HF.out]
                       have K22 := Lib.hid (K21.out.trans hk22 (by simp))
                       have B22 := Lib.hid (Hb21.out.kept hk22 (by simp))
                       clear hk22 hx21)
                    | (((with_reducible show wpList _ _ _ ({ dst := none, op := Op.store 31 (.tmp 13) (.tmp 95), type := _, pos := _, after := _, guard := _ } :: _) _ _); refine wpList_put (t := 31) rfl 31 (.tmp 13) (.tmp 95) rfl _ (by rfl) (by rfl) (by (repeat (first | (apply Blk.new'; simp; done) | apply Blk.alloc | apply Blk.drew))) (by rfl) (by kernel_rfl) (by simp [Value.oneCell']) ?_; intro w23 hb23 hk23; have Hb23 := Lib.hid hb23; have Hk23 := Lib.hid hk23; clear hb23 hk23)
                       have hk23 := (((Kept.refl [] w22).alloc _).trans Hk23.out (fun i hi => .inr (by simp at hi; omega)) : Kept [] w22 w23)
                       have K23 := Lib.hid (K22.out.trans hk23 (by simp))
                       have hx23 := (B22.out.kept hk23 (by simp)).cell
                       have hy23 := Hb23.out.cell
                       have hz23 := (XW.out.kept K23.out (by simp)).cell
                       clear hk23))
                  go_roundg (n3 - (j + 1))
                  case measure => omega
                  case rel => exact ⟨j + 1, by omega, rfl, by go_num, K23.out⟩
              · have hfl : fl = true := (Bool.eq_false_or_eq_true fl).elim id (fun hh => absurd (.inl hh) hot)
                have hts : sameT f.tup r.tup = true := (Bool.eq_false_or_eq_true _).elim id (fun hh => absurd (.inr hh) hot)
                subst hfl
                rw [hts] at hqt
                clear hts hot hqf hgf
                obtain ⟨q, hq⟩ : ∃ q, (getM (applyS S r).flows f.tup).getD zFl = q := ⟨_, rfl⟩
                obtain ⟨bq, hbq⟩ : ∃ b, (getM (applyS S r).flows f.tup).isSome = b := ⟨_, rfl⟩
                have HQ := Lib.hid (And.intro hq hbq)
                clear hq hbq
                go_wp2_with (first
                  | (((with_reducible show wpList _ _ _ ({ dst := none, op := Op.store 31 (.tmp 12) (.tmp 89), type := _, pos := _, after := _, guard := _ } :: _) _ _); refine wpList_put (t := 31) rfl 31 (.tmp 12) (.tmp 89) rfl _ (by rfl) (by rfl) (by (repeat (first | (apply Blk.new'; simp; done) | apply Blk.alloc | apply Blk.drew))) (by rfl) (by kernel_rfl) (by simp [Value.oneCell']) ?_; intro w21 hb21 hk21; have Hb21 := Lib.hid hb21; have Hk21 := Lib.hid hk21; clear hb21 hk21)
                     have K21 := Lib.hid (KQ.out.trans (((Kept.refl [] wr).alloc _).trans Hk21.out (fun i hi => .inr (by simp at hi; omega))) (by simp))
                     have hx21 := Hb21.out.cell)
                  | (go_at_call 14
                     refine (GE.out _ K21.out).mono ?_
                     rintro e w22 ⟨rfl, hk22⟩
                     rw [HQ.out.1, HQ.out.2]
                     have K22 := Lib.hid (K21.out.trans hk22 (by simp))
                     have B22 := Lib.hid (Hb21.out.kept hk22 (by simp))
                     clear hk22 hx21)
                  | (((with_reducible show wpList _ _ _ ({ dst := none, op := Op.store 31 (.tmp 13) (.tmp 95), type := _, pos := _, after := _, guard := _ } :: _) _ _); refine wpList_put (t := 31) rfl 31 (.tmp 13) (.tmp 95) rfl _ (by rfl) (by rfl) (by (repeat (first | (apply Blk.new'; simp; done) | apply Blk.alloc | apply Blk.drew))) (by rfl) (by kernel_rfl) (by simp [Value.oneCell']) ?_; intro w23 hb23 hk23; have Hb23 := Lib.hid hb23; have Hk23 := Lib.hid hk23; clear hb23 hk23)
                     have hk23 := (((Kept.refl [] w22).alloc _).trans Hk23.out (fun i hi => .inr (by simp at hi; omega)) : Kept [] w22 w23)
                     have K23 := Lib.hid (K22.out.trans hk23 (by simp))
                     have hx23 := (B22.out.kept hk23 (by simp)).cell
                     have hy23 := Hb23.out.cell
                     have hz23 := (XW.out.kept K23.out (by simp)).cell
                     clear hk23))
                go_roundg (n3 - (j + 1))
                case measure => omega
                case rel => exact ⟨j + 1, by omega, rfl, by go_num, K23.out⟩
            · obtain rfl : n3 = j := by omega
              have i1 : ¬ (n3 : Int) < (n3 : Int) := by omega
              have hxe := (BW.out.kept KQ.out (by simp)).cell
              go_wp2
              go_loopg [15, 120] n2 (fun gg nn i wz => ∃ j : Nat, j ≤ n2 ∧ gg = n2 - j ∧ nn = .int .i64 (((V.drains.take j).countP (othr r) : Nat)) ∧ i = .int .i64 j ∧ Kept [] w12 wz)
              case atStart => exact ⟨0, by omega, by omega, rfl, rfl, KQ.out⟩
              case round =>
                clear hxe
                obtain ⟨j, hj, rfl, rfl, rfl, hkz⟩ := hrel
                have KZ := Lib.hid hkz
                clear hkz
                have hct : (V.drains.take j).countP (othr r) ≤ 16 := Nat.le_trans List.countP_le_length (by rw [List.length_take]; omega)
                by_cases hlt : j < n2
                · have hkl : j < V.drains.length := by rw [L2.out]; exact hlt
                  obtain ⟨g, o, rfl, hg, hgG, c0, c1'⟩ := (VW.out.go KZ.out).dr.at (k := j) hkl
                  have HIN := Lib.hid (fun ho => apart_in Ok.out HV.out HV'.out (List.getElem_mem hkl) ho)
                  have HCT := Lib.hid (count_take (othr r) hkl)
                  generalize V.drains[j]'hkl = d at *
                  obtain ⟨cnt, hcnt⟩ : ∃ n, (V.drains.take j).countP (othr r) = n := ⟨_, rfl⟩
                  rw [hcnt] at hct HCT
                  simp only [hcnt]
                  clear hcnt
                  have i0 : (0 : Int) ≤ (j : Int) := by omega
                  have i1 : (j : Int) < (n2 : Int) := by omega
                  have iw : IntKind.i64.wrap ((j : Int) + 1) = (j : Int) + 1 := IntWalk.i64_in _ (by omega)
                  have iw2 : IntKind.i64.wrap ((cnt : Int) + 1) = (cnt : Int) + 1 := IntWalk.i64_in _ (by omega)
                  have hz3 := (XW.out.kept KZ.out (by simp)).cell
                  by_cases ho : othr r d = true
                  · have HO := Lib.hid ho
                    have hno : fl = true ∨ (fl = false ∧ (d.1 == r.back) = false ∧ (d.1 != r.back) = true) := by
                      cases fl
                      · right
                        unfold othr at ho
                        rw [HFL.out] at ho
                        simp at ho
                        simp [ho]
                      · left; rfl
                    clear ho
                    rcases hno with rfl | ⟨rfl, hb1, hb2⟩
                    all_goals
                      go_wp2_with (first
                        | (((with_reducible show wpList _ _ _ ({ dst := none, op := Op.store 51 (.tmp 17) (.tmp 123), type := _, pos := _, after := _, guard := _ } :: _) _ _); refine wpList_put (t := 51) rfl 51 (.tmp 17) (.tmp 123) rfl _ (by rfl) (by rfl) (by (repeat (first | (apply Blk.new'; simp; done) | apply Blk.alloc | apply Blk.drew))) (by rfl) (by kernel_rfl) (by simp [Value.oneCell']) ?_; intro w31 hb31 hk31; have Hb31 := Lib.hid hb31; have Hk31 := Lib.hid hk31; clear hb31 hk31)
                           have K31 := Lib.hid (KZ.out.trans (((Kept.refl [] wr).alloc _).trans Hk31.out (fun i hi => .inr (by simp at hi; omega))) (by simp))
                           have hx31 := Hb31.out.cell
                           have hy31 := (XW.out.kept K31.out (by simp)).cell
                           have hq31 := (BQ.out.kept K31.out (by simp)).cell))
                      go_loopg [18, 137] p2 (fun gg b i wk => ∃ q : Nat, q ≤ p2 ∧ gg = p2 - q ∧ b = .bool (memD d (V'.drains.take q)) ∧ i = .int .i64 q ∧ Kept [] w31 wk)
                      case atStart => exact ⟨0, by omega, by omega, rfl, rfl, Kept.refl _ _⟩
                      case round =>
                        obtain ⟨q, hq, rfl, rfl, rfl, hkx⟩ := hrel
                        have KX := Lib.hid hkx
                        clear hkx
                        by_cases hltq : q < p2
                        · have hklq : q < V'.drains.length := by rw [N2.out]; exact hltq
                          obtain ⟨g', o', rfl, hg', hgG', e0, e1⟩ := (VQ.out.go (K31.out.trans KX.out (by simp))).dr.at (k := q) hklq
                          have HMT := Lib.hid (memD_take d hklq)
                          generalize V'.drains[q]'hklq = x at *
                          obtain ⟨bi, hbi⟩ : ∃ b, memD d (V'.drains.take q) = b := ⟨_, rfl⟩
                          rw [hbi] at HMT
                          simp only [hbi]
                          clear hbi
                          have j0 : (0 : Int) ≤ (q : Int) := by omega
                          have j1 : (q : Int) < (p2 : Int) := by omega
                          have jw : IntKind.i64.wrap ((q : Int) + 1) = (q : Int) + 1 := IntWalk.i64_in _ (by omega)
                          have hqd := eqD_run x d
                          have hgd : Try.prog.eqGuardType Try.prog.depth 51 = false := by kernel_rfl
                          obtain ⟨be, hbe⟩ : ∃ b, decide (x = d) = b := ⟨_, rfl⟩
                          rw [hbe] at hqd HMT
                          clear hbe
                          cases bi
                          all_goals
                            go_wp2_with (first
                              | (((with_reducible show wpList _ _ _ ({ dst := none, op := Op.store 51 (.tmp 20) (.tmp 140), type := _, pos := _, after := _, guard := _ } :: _) _ _); refine wpList_put (t := 51) rfl 51 (.tmp 20) (.tmp 140) rfl _ (by rfl) (by rfl) (by (repeat (first | (apply Blk.new'; simp; done) | apply Blk.alloc | apply Blk.drew))) (by rfl) (by kernel_rfl) (by simp [Value.oneCell']) ?_; intro w41 hb41 hk41; have Hb41 := Lib.hid hb41; have Hk41 := Lib.hid hk41; clear hb41 hk41)
                                 have K41 := Lib.hid (KX.out.trans (((Kept.refl [] wr).alloc _).trans Hk41.out (fun i hi => .inr (by simp at hi; omega))) (by simp))
                                 have hx41 := Hb41.out.cell
                                 have hy41 := (Hb31.out.kept K41.out (by simp)).cell))
                            go_roundg (p2 - (q + 1))
                            case measure => omega
                            case rel => exact ⟨q + 1, by omega, rfl, by rw [HMT.out]; rfl, by go_num, KX.out.trans (((Kept.refl [] wr).alloc _).trans Hk41.out (fun i hi => .inr (by simp at hi; omega))) (by simp)⟩
                        · obtain rfl : p2 = q := by omega
                          have j1 : ¬ (p2 : Int) < (p2 : Int) := by omega
                          have HB : Hid (memD d (V'.drains.take p2) = true) := Lib.hid (by
                            rw [List.take_of_length_le (by rw [N2.out]; exact Nat.le_refl _)]
                            exact memD_in (HIN.out HO.out))
                          rw [HB.out]
                          go_wp2
                          go_roundg (n2 - (j + 1))
                          case measure => omega
                          case rel => exact ⟨j + 1, by omega, rfl, by rw [HCT.out, if_pos HO.out]; go_num, by go_num, K31.out.trans KX.out (by simp)⟩
                  · have hno : fl = false ∧ (d.1 == r.back) = true ∧ (d.1 != r.back) = false := by
                      unfold othr at ho
                      rw [HFL.out] at ho
                      cases fl
                      · simp at ho; simp [ho]
                      · simp at ho
                    have HO := Lib.hid ho
                    obtain ⟨rfl, hb1, hb2⟩ := hno
                    clear ho
                    go_wp2_with (first
                      | (((with_reducible show wpList _ _ _ ({ dst := none, op := Op.store 51 (.tmp 17) (.tmp 123), type := _, pos := _, after := _, guard := _ } :: _) _ _); refine wpList_put (t := 51) rfl 51 (.tmp 17) (.tmp 123) rfl _ (by rfl) (by rfl) (by (repeat (first | (apply Blk.new'; simp; done) | apply Blk.alloc | apply Blk.drew))) (by rfl) (by kernel_rfl) (by simp [Value.oneCell']) ?_; intro w31 hb31 hk31; have Hb31 := Lib.hid hb31; have Hk31 := Lib.hid hk31; clear hb31 hk31)
                         have K31 := Lib.hid (KZ.out.trans (((Kept.refl [] wr).alloc _).trans Hk31.out (fun i hi => .inr (by simp at hi; omega))) (by simp))
                         have hx31 := Hb31.out.cell
                         have hy31 := (XW.out.kept K31.out (by simp)).cell
                         have hq31 := (BQ.out.kept K31.out (by simp)).cell))
                    go_roundg (n2 - (j + 1))
                    case measure => omega
                    case rel => exact ⟨j + 1, by omega, rfl, by rw [HCT.out, if_neg HO.out]; rfl, by go_num, K31.out⟩
                · obtain rfl : n2 = j := by omega
                  have i1 : ¬ (n2 : Int) < (n2 : Int) := by omega
                  have hK := apart_cnt Ok.out HE.out HV.out HV'.out
                  rw [N2.out] at hK
                  rw [List.take_of_length_le (by rw [L2.out]; exact Nat.le_refl _)] at hct ⊢
                  obtain ⟨cnt, hcnt⟩ : ∃ n, V.drains.countP (othr r) = n := ⟨_, rfl⟩
                  rw [hcnt] at hct hK
                  simp only [hcnt]
                  clear hcnt
                  have iw2 : IntKind.i64.wrap ((cnt : Int) + 1) = (cnt : Int) + 1 := IntWalk.i64_in _ (by omega)
                  have i2 : (cnt : Int) ≤ (p2 : Int) := by omega
                  have i3 : (p2 : Int) ≤ (cnt : Int) + 1 := by omega
                  have hz3 := (BQ.out.kept KZ.out (by simp)).cell
                  go_wp2_with (first
                    | (go_at_call 12
                       refine (AW.out _).mono ?_
                       rintro e wy ⟨rfl, hky⟩
                       have KY := Lib.hid ((SW.out.kept.trans KZ.out (by simp)).trans hky (by simp))
                       clear hky))
                  go_ret
                  exact ⟨rfl, KY.out⟩
      · obtain ⟨e0, he0⟩ : ∃ e0, errS S r = e0 := ⟨_, rfl⟩
        have HE : Hid (errS S r = e0) := Lib.hid he0
        have HSS : Hid (applyS S r = S) := Lib.hid (if_neg he)
        have i3 : (e0 == 0) = false := by rw [← he0]; simp [he]
        have i4 : (e0 != 0) = true := by rw [← he0]; simp [he]
        clear he he0
        go_wp2_with (first
          | (go_at_call 15
             refine (VP.out _ (Kept.refl [] _)).mono ?_
             rintro e wv ⟨V, s1, n1, d1, s2, n2, d2, s3, n3, d3, G1, rfl, hv, hva, hgv, hkv⟩
             have HV := Lib.hid hv
             have VA1 := Lib.hid hva
             have HG1 := Lib.hid hgv
             have K7 := Lib.hid hkv
             have X7 := Lib.hid (Bx.out.kept hkv (by simp))
             have hx7 := X7.out.cell
             clear hv hva hgv hkv)
          | (((with_reducible show wpList _ _ _ ({ dst := none, op := Op.store 45 (.tmp 8) (.tmp 48), type := _, pos := _, after := _, guard := _ } :: _) _ _); refine wpList_put (t := 45) rfl 45 (.tmp 8) (.tmp 48) rfl _ (by rfl) (by rfl) (by (repeat (first | (apply Blk.new'; simp; done) | apply Blk.alloc | apply Blk.drew))) (by rfl) (by kernel_rfl) (by simp [Value.oneCell']) ?_; intro w8 hb8 hk8; have Hb8 := Lib.hid hb8; have Hk8 := Lib.hid hk8; clear hb8 hk8)
             have K8 := Lib.hid (K7.out.trans (((Kept.refl [] wv).alloc _).trans Hk8.out (fun i hi => .inr (by simp at hi; omega))) (by simp))
             have VA8 := Lib.hid (VA1.out.go (((Kept.refl [] wv).alloc _).trans Hk8.out (fun i hi => .inr (by simp at hi; omega))))
             have X8 := Lib.hid (Bx.out.kept K8.out (by simp))
             have hx8 := X8.out.cell)
          | (go_at_call 10
             with_reducible refine (AP.out _ K8.out).mono ?_
             rintro e w9 ⟨rfl, hs9, hk9, hb9⟩
             rw [HE.out]
             rw [HSS.out] at hs9
             have S9 := Lib.hid hs9
             have B9 := Lib.hid (hb9 _ _ _ Hb8.out (by decide))
             have X9 := Lib.hid (hb9 _ _ _ X8.out (by decide))
             have VA9 := Lib.hid (VA8.out.kept hk9 (by
               intro k hk hm
               have h1 := HG1.out k hk
               have h2 := HP.out
               simp at hm
               omega))
             have hx9 := B9.out.cell
             have hr9 := X9.out.cell
             clear hs9 hk9 hb9))
        have SD9 := Lib.hid (S9.out.go ((Kept.refl [] w9).drew))
        clear hx7 hx8 hr9
        go_region_held3 (fun w' => ∀ o, w'.cell? ⟨wv.heap.size, o, none⟩ = (#[.int .i64 V.gen, .slice s1 n1 d1, .slice s2 n2 d2, .slice s3 n3 d3] : Array Value)[o]?)
          (exact (Blk.kept (S := []) B9.out (by repeat (first | exact Kept.refl _ _ | exact K12.out | exact K11.out | exact K10.out | apply Kept.alloc | apply Kept.drew)) (by simp)).cell)
          (first
            | (go_at_call 15
               refine (view_p SD9.out Ok.out).mono ?_
               rintro e w10 ⟨V2, t1, p1, q1, t2, p2, q2, t3, p3, q3, G2, rfl, hv2, hva2, _, hk2⟩
               obtain rfl : V2 = V := hv2.one Ok.out HV.out
               have K10 := Lib.hid (((Kept.refl [] w9).drew).trans hk2 (by simp))
               have VN10 := Lib.hid hva2
               have VA10 := Lib.hid (VA9.out.go K10.out)
               have hx10 := (B9.out.kept K10.out (by simp)).cell
               clear hv2 hva2 hk2)
            | (go_at_call 16
               refine (StSame_any _ V2 V2 VN10.out VA10.out).mono ?_
               rintro e w11 ⟨rfl, hk11⟩
               rw [sameV_self]
               have K11 := Lib.hid (K10.out.trans hk11 (by simp))
               have hx11 := (B9.out.kept K11.out (by simp)).cell
               clear hk11)
            | (go_at_call 12
               refine (AW.out _).mono ?_
               rintro e w12 ⟨rfl, hk12⟩
               have K12 := Lib.hid (K11.out.trans hk12 (by simp))
               have hx12 := (B9.out.kept K12.out (by simp)).cell
               clear hk12))
        all_goals
          go_wp2
          go_ret
          exact ⟨rfl, S9.out.kept.trans K12.out (by simp)⟩
end Go.Proofs.Ytdabbkkjmmbigaa
