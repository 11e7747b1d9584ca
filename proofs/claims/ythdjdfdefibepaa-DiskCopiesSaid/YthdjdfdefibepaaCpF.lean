
/-
  DiskCopies: its walk.
-/
import Derived.Test.YthdjdfdefibepaaCpD
import Derived.Test.YthdjdfdefibepaaCpE
namespace Go.Proofs.Ythdjdfdefibepaa
open Go.RowKit Go.ChangeShapes Go.WideShapes Go.ChangeAt Go.Deep Go.MapKept
set_option linter.unusedVariables false

set_option maxHeartbeats 6400000 in
set_option maxRecDepth 100000 in
theorem DiskCopies_walk0 (w : World) {A A2 : Option Addr} {m c m2 c2 : Nat} {l l2 : List CD} (h : CsAt w w A m c l) (h' : CsAt w w A2 m2 c2 l2) (hn : ∀ q ∈ l, -9223372036854775808 ≤ q.n ∧ q.n ≤ 9223372036854775807) (hn' : ∀ q ∈ l2, -9223372036854775808 ≤ q.n ∧ q.n ≤ 9223372036854775807) :
    Calls Try.prog 11 #[.slice A m c, .slice A2 m2 c2] w fun e w' => e = .returned (.bool true) ∧ Kept [] w w' := by
  have AW := Lib.hid awake3_any
  have HC := Lib.hid h
  have HD := Lib.hid h'
  have HN := Lib.hid hn
  have HN2 := Lib.hid hn'
  have LL := Lib.hid h.1
  have LL2 := Lib.hid h'.1
  have mm1 := h.2.1
  have mm2 := h.2.2.1
  have mm3 := h'.2.1
  have mm4 := h'.2.2.1
  unfold maxLen at mm2 mm4
  clear h h' hn hn'
  go_enter Try.func11, Try.ntmps11
  go_wp2_with (first
    | (go_at_call 12
       have hz := short_any w HC.out
       with_reducible refine hz.mono ?_
       clear hz
       rintro e w1 ⟨r, rfl, hsh, hk1⟩
       have SH := Lib.hid hsh
       have K1 := Lib.hid hk1
       clear hsh hk1
       cases r)
    | (go_at_call 12
       have hz := short_any w1 ((HD.out.kept (Kept.refl _ _) K1.out).lift K1.out)
       with_reducible refine hz.mono ?_
       clear hz
       rintro e w0 ⟨r, rfl, hsh, hk1⟩
       have SI := Lib.hid hsh
       have K0 := Lib.hid (K1.out.trans hk1 (by simp) : Kept [] w w0)
       clear hsh hk1
       cases r))
  · go_wp2_with (first
      | (go_at_call 13
         with_reducible refine (AW.out _).mono ?_
         rintro e wz ⟨rfl, hkz⟩
         have KZ := Lib.hid (Kept.trans K1.out hkz (by simp))
         clear hkz))
    go_ret
    exact ⟨rfl, KZ.out⟩
  · go_wp2_with (first
      | (go_at_call 13
         with_reducible refine (AW.out _).mono ?_
         rintro e wz ⟨rfl, hkz⟩
         have KZ := Lib.hid (Kept.trans K0.out hkz (by simp))
         clear hkz))
    go_ret
    exact ⟨rfl, KZ.out⟩
  have SH2 := Lib.hid (SH.out (by trivial))
  have SI2 := Lib.hid (SI.out (by trivial))
  have HC1 := Lib.hid ((HC.out.kept (Kept.refl _ _) K0.out).lift K0.out)
  have HC2 := Lib.hid ((HD.out.kept (Kept.refl _ _) K0.out).lift K0.out)
  go_upto_region 4 with (first
    | (go_at_call 14
       have hz := NewD_any w0 20000
       with_reducible refine hz.mono ?_
       clear hz
       rintro e w2 ⟨rfl, hd, hk2⟩
       have ND := Lib.hid hd
       have K2 := Lib.hid hk2
       clear hd hk2)
    | (go_at_call 28
       have hz := rNewDisk_any w2 20000
       with_reducible refine hz.mono ?_
       clear hz
       rintro e w3 ⟨p2, rfl, hm, hk3, hp2⟩
       have DU := Lib.hid (duo_new (w1 := w0) ⟨_, _, _, _, _, _, ND.out⟩ (fun k hk => by simp at hk; omega) K2.out ⟨_, _, _, _, _, _, _, _, _, hm⟩ hk3 hp2)
       clear hm hk3 hp2))
  obtain ⟨p, hp⟩ : ∃ p, w0.heap.size + 2 = p := ⟨_, rfl⟩
  simp only [hp]
  rw [hp] at DU
  clear hp ND K2
  go_wp2
  go_loopg [26] m (fun gg i wr => ∃ (j : Nat), j ≤ m ∧ gg = m - j ∧ i = .int .i64 (j : Nat) ∧ DuoAt w0 wr wr p p2 (j))
  case atStart => exact ⟨0, by omega, by omega, rfl, DU.out⟩
  case round =>
    obtain ⟨j, hj, rfl, rfl, hdu⟩ := hrel
    have DJ := Lib.hid hdu
    have KW := Lib.hid hdu.kept
    clear hdu
    by_cases hlt : j < m
    · have M120 := Lib.hid (show m ≤ 120 by rw [← LL.out]; exact SH2.out.1)
      obtain ⟨q, hq⟩ : ∃ q, l[j]? = some q := ⟨_, List.getElem?_eq_getElem (by rw [LL.out]; exact hlt)⟩
      have SMQ := Lib.hid (SH2.out.2 q (List.mem_of_getElem? hq))
      have HNQ := Lib.hid (HN.out q (List.mem_of_getElem? hq))
      obtain ⟨g, o, B, n, d, rfl, hg, c0, c1, c2, c3, c4, hr⟩ := (HC1.out.kept (Kept.refl _ _) KW.out).2.2.2 j q hq
      have RQ := Lib.hid hr
      have hgw := Nat.lt_of_lt_of_le hg KW.out.size
      have i0 : (0 : Int) ≤ (j : Int) := by omega
      have i1 : (j : Int) < (m : Int) := by omega
      have iw : IntKind.i64.wrap ((j : Int) + 1) = (j : Int) + 1 := IntWalk.i64_in _ (by have := M120.out; omega)
      clear hr hq
      go_wp2_with (first
        | (((with_reducible show wpList _ _ _ ({ dst := none, op := Op.store 30 (.tmp 8) (.tmp 29), type := _, pos := _, after := _, guard := _ } :: _) _ _); refine wpList_put (t := 30) rfl 30 (.tmp 8) (.tmp 29) rfl _ (by rfl) (by rfl) (by (repeat (first | (apply Blk.new'; simp; done) | apply Blk.alloc | apply Blk.drew))) (by rfl) (by kernel_rfl) (by simp [Value.oneCell']) ?_; intro w5 hb5 hk5; have Hb5 := Lib.hid hb5; have Hk5 := Lib.hid hk5; clear hb5 hk5)
           have K5 := Lib.hid (((Kept.refl [] wr).alloc _).trans Hk5.out (fun i hi => .inr (by simp at hi; omega)) : Kept [] wr w5)
           have hx5 := Hb5.out.cell
           have D5 := Lib.hid (DJ.out.go K5.out))
        | (go_at_call 29
           have hz := doAt D5.out (by have := M120.out; omega) q (RQ.out.kept K5.out (by simp)) SMQ.out HNQ.out
           with_reducible refine hz.mono ?_
           clear hz
           rintro e w6 ⟨rfl, hd6, S, hk6, hS⟩
           have D6 := Lib.hid hd6
           clear hd6 hk6 hS hx5))
      go_roundg (m - (j + 1))
      case measure => omega
      case rel => exact ⟨j + 1, by omega, rfl, by go_num, D6.out⟩
    · obtain rfl : j = m := by omega
      have i1 : ¬ (j : Int) < (j : Int) := by omega
      obtain ⟨wm, hwm⟩ : ∃ wm, wm = wr := ⟨_, rfl⟩
      subst hwm
      obtain ⟨G, D, H, M, hduo, hiv, ⟨σ, hsim⟩, hops, _, hG, hp2, hlt9⟩ := DJ.out
      have DUO := Lib.hid hduo
      have IV := Lib.hid hiv
      have SIM := Lib.hid hsim
      have M120 := Lib.hid (show j ≤ 120 by rw [← LL.out]; exact SH2.out.1)
      have OPS := Lib.hid (show D.ops ≤ 120 by have := M120.out; omega)
      have DLT := Lib.hid (duo_lt hduo)
      clear hduo hiv hsim hops hG hp2 hlt9
      go_upto_region 13 with (first
        | (go_at_call 33
           obtain ⟨fb, bn, bs, Ax, mx, cx, xd⟩ := DUO.out.d
           have hz := Copy_any xd IV.out (by have := OPS.out; omega)
           with_reducible refine hz.mono ?_
           clear hz
           rintro e w7 ⟨px, GX, DX, idx, rfl, hdx, hk7, hgx, hcr⟩
           have DX7 := Lib.hid hdx
           have K7 := Lib.hid hk7
           have GX7 := Lib.hid hgx
           have IVX := Lib.hid (hcr.inv IV.out)
           have RMX := Lib.hid (hcr.sim IV.out SIM.out)
           have OPX := Lib.hid (show DX.ops ≤ 120 by rw [hcr.q1.2.1]; exact OPS.out)
           have DU7 := Lib.hid (show Duo w7 GX px DX p2 H M from ⟨hdx, (DUO.out.go hk7).m, fun k hk => ⟨fun hm => by have h1 := DUO.out.m.lt k hm; have h2 := hgx k hk; omega, by have h1 := DUO.out.m.pt; have h2 := hgx k hk; omega⟩⟩)
           clear hdx hk7 hgx hcr xd)
        | (go_at_call 30
           have hz := like_any DU7.out IVX.out RMX.out (by have := OPX.out; omega)
           with_reducible refine hz.mono ?_
           clear hz
           rintro e w8 ⟨rfl, hk8⟩
           have K8 := Lib.hid (K7.out.trans hk8 (by simp) : Kept [] wm w8)
           have DU8 := Lib.hid (DU7.out.go hk8)
           clear hk8)
        | (go_at_call 35
           obtain ⟨vs, B1, b1, B2, b2, B3, b3, B4, b4, xm⟩ := DU8.out.m
           have hz := rCopy_any xm
           with_reducible refine hz.mono ?_
           clear hz
           rintro e w9 ⟨py, rfl, hxm, hk9, hpy⟩
           have K9 := Lib.hid (K8.out.trans hk9 (by simp) : Kept [] wm w9)
           have DXY := Lib.hid (show DuoAt wm w9 w9 px py 120 from by
             have hd9 : Duo w9 GX px DX py H M := ⟨(DU8.out.go hk9).d, ⟨_, _, _, _, _, _, _, _, _, hxm⟩, fun k hk => ⟨(DU8.out.ap k hk).1, by have h1 := DU8.out.d.lt k hk; omega⟩⟩
             exact ⟨GX, DX, H, M, hd9, IVX.out, RMX.out, OPX.out, K8.out.trans hk9 (by simp), GX7.out, Nat.le_trans K8.out.size hpy, duo_lt hd9⟩)
           have DM9 := Lib.hid (DUO.out.go (K8.out.trans hk9 (by simp)))
           clear hxm hk9 hpy xm))
      have HC3 := Lib.hid (HC2.out.kept (Kept.refl _ _) KW.out)
      go_wp2
      go_loopg [49] m2 (fun gg i wv => ∃ (j2 : Nat), j2 ≤ m2 ∧ gg = m2 - j2 ∧ i = .int .i64 (j2 : Nat) ∧ DuoAt wm wv wv px py (120 + j2))
      case atStart => exact ⟨0, by omega, by omega, rfl, DXY.out⟩
      case round =>
        obtain ⟨j2, hj2, rfl, rfl, hdu⟩ := hrel
        have DJ2 := Lib.hid hdu
        have KV := Lib.hid hdu.kept
        have M220 := Lib.hid (show m2 ≤ 120 by rw [← LL2.out]; exact SI2.out.1)
        clear hdu
        by_cases hlt2 : j2 < m2
        · obtain ⟨q, hq⟩ : ∃ q, l2[j2]? = some q := ⟨_, List.getElem?_eq_getElem (by rw [LL2.out]; exact hlt2)⟩
          have SMQ := Lib.hid (SI2.out.2 q (List.mem_of_getElem? hq))
          have HNQ := Lib.hid (HN2.out q (List.mem_of_getElem? hq))
          obtain ⟨g, o, B, n, d, rfl, hg, c0, c1, c2, c3, c4, hr⟩ := (HC3.out.kept KW.out KV.out).2.2.2 j2 q hq
          have RQ := Lib.hid (hr.mono (fun k hk => List.mem_range.2 (Nat.lt_of_lt_of_le (List.mem_range.1 hk) KW.out.size)) : RdB _ (old wm) _ _)
          have hgw := Nat.lt_of_lt_of_le hg (KW.out.trans KV.out (by simp)).size
          have i02 : (0 : Int) ≤ (j2 : Int) := by omega
          have i12 : (j2 : Int) < (m2 : Int) := by omega
          have iw2 : IntKind.i64.wrap ((j2 : Int) + 1) = (j2 : Int) + 1 := IntWalk.i64_in _ (by have := M220.out; omega)
          clear hr hq
          go_wp2_with (first
            | (((with_reducible show wpList _ _ _ ({ dst := none, op := Op.store 30 (.tmp 12) (.tmp 52), type := _, pos := _, after := _, guard := _ } :: _) _ _); refine wpList_put (t := 30) rfl 30 (.tmp 12) (.tmp 52) rfl _ (by rfl) (by rfl) (by (repeat (first | (apply Blk.new'; simp; done) | apply Blk.alloc | apply Blk.drew))) (by rfl) (by kernel_rfl) (by simp [Value.oneCell']) ?_; intro w5 hb5 hk5; have Hb5 := Lib.hid hb5; have Hk5 := Lib.hid hk5; clear hb5 hk5)
               have K5 := Lib.hid ((Kept.alloc (Kept.refl [] _) _).trans Hk5.out (fun i hi => .inr (by simp at hi; omega)) : Kept [] _ w5)
               have hx5 := Hb5.out.cell
               have D5 := Lib.hid (DJ2.out.go K5.out))
            | (go_at_call 29
               have hz := doAt D5.out (by have := M220.out; omega) q (RQ.out.kept K5.out (by simp)) SMQ.out HNQ.out
               with_reducible refine hz.mono ?_
               clear hz
               rintro e w6 ⟨rfl, hd6, S, hk6, hS⟩
               have D6 := Lib.hid hd6
               clear hd6 hk6 hS hx5))
          go_roundg (m2 - (j2 + 1))
          case measure => omega
          case rel => exact ⟨j2 + 1, by omega, rfl, by go_num, D6.out⟩
        · obtain rfl : j2 = m2 := by omega
          have i12 : ¬ (j2 : Int) < (j2 : Int) := by omega
          have DME := Lib.hid (DUO.out.go KV.out)
          go_wp2_with (first
            | (go_at_call 30
               have hz := like_any DME.out IV.out ⟨σ, SIM.out⟩ (by have := OPS.out; omega)
               with_reducible refine hz.mono ?_
               clear hz
               rintro e wa ⟨rfl, hka⟩
               have KA := Lib.hid hka
               have DXA := Lib.hid (DJ2.out.go hka)
               clear hka)
            | (go_at_call 30
               have hz := likeAt DXA.out (by have := M220.out; omega)
               with_reducible refine hz.mono ?_
               clear hz
               rintro e wb ⟨rfl, hkb⟩
               have KB := Lib.hid ((K0.out.trans (KW.out.trans KV.out (by simp)) (by simp)).trans (KA.out.trans hkb (by simp)) (by simp))
               clear hkb)
            | (go_at_call 13
               with_reducible refine (AW.out _).mono ?_
               rintro e wz ⟨rfl, hkz⟩
               have KZ := Lib.hid (Kept.trans KB.out hkz (by simp))
               clear hkz))
          go_ret
          exact ⟨rfl, KZ.out⟩
set_option maxRecDepth 100000 in
theorem DiskCopies_walk {H : Type} {enc : TypeId × Value → H} {S : Prop} (W : World) (base : Nat) (v0 : Value) (d0 : DataW H) (p0 : List MemPlace) (v1 : Value) (d1 : DataW H) (p1 : List MemPlace)
    (hv0 : Value.okWide Try.prog W .any base 22 v0) (hv1 : Value.okWide Try.prog W .any base 22 v1)
    (h0 : DataW.Trod enc Try.prog W 0 (fun _ => true) true 22 v0 d0 p0) (h1 : DataW.Trod enc Try.prog W 0 (fun _ => true) true 22 v1 d1 p1) (_ : S) :
    Calls Try.prog 11 #[v0, v1] W fun e W' => e = .returned (.bool true) ∧ Below W.heap.size W W' := by
  obtain ⟨A, m, c, l, rfl, hl, hn⟩ := open_dcalls2 hv0 h0
  obtain ⟨A2, m2, c2, l2, rfl, hl2, hn2⟩ := open_dcalls2 hv1 h1
  exact (DiskCopies_walk0 W hl hl2 hn hn2).mono fun e W' ⟨h, hk⟩ => ⟨h, hk.below (Nat.le_refl _) (by simp)⟩
end Go.Proofs.Ythdjdfdefibepaa
