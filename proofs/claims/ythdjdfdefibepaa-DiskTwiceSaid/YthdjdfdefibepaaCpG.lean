
/-
  DiskTwice: its walk.
-/
import Derived.Test.YthdjdfdefibepaaCpD
import Derived.Test.YthdjdfdefibepaaCpE
namespace Go.Proofs.Ythdjdfdefibepaa
open Go.RowKit Go.ChangeShapes Go.WideShapes Go.ChangeAt Go.Deep Go.MapKept
set_option linter.unusedVariables false

def RdAt (w : World) (b : Bs) (e : Ending) (w' : World) : Prop := Kept [] w w' ∧ ∃ A m c, e = .returned (.tuple #[.slice A m c, .bool true]) ∧ RdB w' (rowOf (.slice A m c)) (.slice A m c) b
def NmsAt (w : World) (l : List Bs) (e : Ending) (w' : World) : Prop := Kept [] w w' ∧ ∃ A c, e = .returned (.slice A l.length c) ∧ StrA w' A l.length l
/-- what is read of a disk: the names, the size, the bytes -/
def LookAt (w : World) (p : Nat) (l : List Bs) (sz : Nat) (rd : Bs → Bs) : Prop := ∀ wa, Kept [] w wa →
  Calls Try.prog 15 #[.pointer (some ⟨p, 0, none⟩)] wa (NmsAt wa l) ∧
  (Calls Try.prog 16 #[.pointer (some ⟨p, 0, none⟩)] wa fun e w' => e = .returned (.int .i64 (sz : Nat)) ∧ Kept [] wa w') ∧
  ∀ x ∈ l, Calls Try.prog 25 #[.pointer (some ⟨p, 0, none⟩), .string (strOf x)] wa (RdAt wa (rd x))
theorem look_at {w : World} {G : List Nat} {p : Nat} {D : DkD} {M : RkD} (hd : DkH w G p D) (iv : InvD D) (rm : RM D M) (ho : D.ops ≤ 400) : LookAt w p (namM M) (sizM M) (fun x => (reaM M x).getD []) := by
  obtain ⟨σ, sim⟩ := rm
  obtain ⟨fb, bn, bs, A, m, c, xd⟩ := hd
  have hl : D.now.length ≤ 1000000 := by have := iv.ok.nl.1; omega
  intro wa ha
  refine ⟨(Names_any (xd.go ha) hl).mono fun e w' ⟨v, he, hs⟩ => ?_, (Size_any (xd.go ha) iv.ok hl).mono fun e w' ⟨he, hk⟩ => ⟨by rw [← sim.size iv]; exact he, hk⟩, fun x hx => (Read_any (xd.go ha) iv.ok x).mono fun e w' ⟨hk, hh⟩ => ⟨hk, ?_⟩⟩
  · rw [sim.names iv] at hs
    obtain ⟨B1, d1, rfl, h1⟩ := hs.arr
    exact ⟨hs.1, B1, d1, he, h1⟩
  · have h1 := (sim.mem x).2 hx
    rcases hh with ⟨h2, _⟩ | ⟨b, A2, m2, c2, h2, h3, h4⟩
    · rw [h2] at h1; cases h1
    · refine ⟨A2, m2, c2, h3, ?_⟩
      show RdB w' _ _ ((reaM M x).getD [])
      rw [← sim.read, h2]
      exact RdB.of_own h4.1
set_option maxHeartbeats 6400000 in
set_option maxRecDepth 100000 in
theorem DiskTwice_walk0 (w : World) {A A2 A3 : Option Addr} {m c na ca nb cb : Nat} {l : List CD} {ba bb : Bs} (h : CsAt w w A m c l) (hn : ∀ q ∈ l, -9223372036854775808 ≤ q.n ∧ q.n ≤ 9223372036854775807) (hra : RdB w (old w) (.slice A2 na ca) ba) (hrb : RdB w (old w) (.slice A3 nb cb) bb) :
    Calls Try.prog 9 #[.slice A m c, .slice A2 na ca, .slice A3 nb cb] w fun e w' => e = .returned (.bool true) ∧ Kept [] w w' := by
  have AW := Lib.hid awake3_any
  have HC := Lib.hid h
  have HN := Lib.hid hn
  have RA := Lib.hid hra
  have RBB := Lib.hid hrb
  have LL := Lib.hid h.1
  have mm1 := h.2.1
  have mm2 := h.2.2.1
  unfold maxLen at mm2
  clear h hn hra hrb
  by_cases ha : 100 < na
  · have j1 : (100 : Int) < (na : Int) := by omega
    clear ha
    go_enter Try.func9, Try.ntmps9
    go_wp2_with (first
      | (go_at_call 12
         have hz := short_any w HC.out
         with_reducible refine hz.mono ?_
         clear hz
         rintro e w0 ⟨r, rfl, hsh, hk1⟩
         have SH := Lib.hid hsh
         have K0 := Lib.hid hk1
         clear hsh hk1
         cases r)
      | (go_at_call 13
         with_reducible refine (AW.out _).mono ?_
         rintro e wz ⟨rfl, hkz⟩
         have KZ := Lib.hid (Kept.trans K0.out hkz (by simp))
         clear hkz))
    all_goals
      go_ret
      exact ⟨rfl, KZ.out⟩
  by_cases hb : 100 < nb
  · have j1 : ¬ (100 : Int) < (na : Int) := by omega
    have j2 : (100 : Int) < (nb : Int) := by omega
    clear ha hb
    go_enter Try.func9, Try.ntmps9
    go_wp2_with (first
      | (go_at_call 12
         have hz := short_any w HC.out
         with_reducible refine hz.mono ?_
         clear hz
         rintro e w0 ⟨r, rfl, hsh, hk1⟩
         have SH := Lib.hid hsh
         have K0 := Lib.hid hk1
         clear hsh hk1
         cases r)
      | (go_at_call 13
         with_reducible refine (AW.out _).mono ?_
         rintro e wz ⟨rfl, hkz⟩
         have KZ := Lib.hid (Kept.trans K0.out hkz (by simp))
         clear hkz))
    all_goals
      go_ret
      exact ⟨rfl, KZ.out⟩
  have j1 : ¬ (100 : Int) < (na : Int) := by omega
  have j2 : ¬ (100 : Int) < (nb : Int) := by omega
  clear ha hb
  go_enter Try.func9, Try.ntmps9
  go_upto_region 2 with (first
    | (go_at_call 12
       have hz := short_any w HC.out
       with_reducible refine hz.mono ?_
       clear hz
       rintro e w0 ⟨r, rfl, hsh, hk1⟩
       have SH := Lib.hid hsh
       have K0 := Lib.hid hk1
       clear hsh hk1
       cases r))
  · go_wp2_with (first
      | (go_at_call 13
         with_reducible refine (AW.out _).mono ?_
         rintro e wz ⟨rfl, hkz⟩
         have KZ := Lib.hid (Kept.trans K0.out hkz (by simp))
         clear hkz))
    go_ret
    exact ⟨rfl, KZ.out⟩
  have SH2 := Lib.hid (SH.out (by trivial))
  have HC1 := Lib.hid ((HC.out.kept (Kept.refl _ _) K0.out).lift K0.out)
  go_upto_region 4 with (first
    | (go_at_call 14
       have hz := NewD_any w0 20000
       with_reducible refine hz.mono ?_
       clear hz
       rintro e w2 ⟨rfl, hd, hk2⟩
       have ND := Lib.hid hd
       have K2 := Lib.hid hk2
       clear hd hk2)
    | (go_at_call 28
       have hz := rNewDisk_any w2 20000
       with_reducible refine hz.mono ?_
       clear hz
       rintro e w3 ⟨p2, rfl, hm, hk3, hp2⟩
       have DU := Lib.hid (duo_new (w1 := w0) ⟨_, _, _, _, _, _, ND.out⟩ (fun k hk => by simp at hk; omega) K2.out ⟨_, _, _, _, _, _, _, _, _, hm⟩ hk3 hp2)
       clear hm hk3 hp2))
  obtain ⟨p, hp⟩ : ∃ p, w0.heap.size + 2 = p := ⟨_, rfl⟩
  simp only [hp]
  rw [hp] at DU
  clear hp ND K2
  go_wp2
  go_loopg [36] m (fun gg i wr => ∃ (j : Nat), j ≤ m ∧ gg = m - j ∧ i = .int .i64 (j : Nat) ∧ DuoAt w0 wr wr p p2 (j))
  case atStart => exact ⟨0, by omega, by omega, rfl, DU.out⟩
  case round =>
    obtain ⟨j, hj, rfl, rfl, hdu⟩ := hrel
    have DJ := Lib.hid hdu
    have KW := Lib.hid hdu.kept
    clear hdu
    by_cases hlt : j < m
    · have M120 := Lib.hid (show m ≤ 120 by rw [← LL.out]; exact SH2.out.1)
      obtain ⟨q, hq⟩ : ∃ q, l[j]? = some q := ⟨_, List.getElem?_eq_getElem (by rw [LL.out]; exact hlt)⟩
      have SMQ := Lib.hid (SH2.out.2 q (List.mem_of_getElem? hq))
      have HNQ := Lib.hid (HN.out q (List.mem_of_getElem? hq))
      obtain ⟨g, o, B, n, d, rfl, hg, c0, c1, c2, c3, c4, hr⟩ := (HC1.out.kept (Kept.refl _ _) KW.out).2.2.2 j q hq
      have RQ := Lib.hid hr
      have hgw := Nat.lt_of_lt_of_le hg KW.out.size
      have i0 : (0 : Int) ≤ (j : Int) := by omega
      have i1 : (j : Int) < (m : Int) := by omega
      have iw : IntKind.i64.wrap ((j : Int) + 1) = (j : Int) + 1 := IntWalk.i64_in _ (by have := M120.out; omega)
      clear hr hq
      go_wp2_with (first
        | (((with_reducible show wpList _ _ _ ({ dst := none, op := Op.store 30 (.tmp 10) (.tmp 39), type := _, pos := _, after := _, guard := _ } :: _) _ _); refine wpList_put (t := 30) rfl 30 (.tmp 10) (.tmp 39) rfl _ (by rfl) (by rfl) (by (repeat (first | (apply Blk.new'; simp; done) | apply Blk.alloc | apply Blk.drew))) (by rfl) (by kernel_rfl) (by simp [Value.oneCell']) ?_; intro w5 hb5 hk5; have Hb5 := Lib.hid hb5; have Hk5 := Lib.hid hk5; clear hb5 hk5)
           have K5 := Lib.hid (((Kept.refl [] wr).alloc _).trans Hk5.out (fun i hi => .inr (by simp at hi; omega)) : Kept [] wr w5)
           have hx5 := Hb5.out.cell
           have D5 := Lib.hid (DJ.out.go K5.out))
        | (go_at_call 29
           have hz := doAt D5.out (by have := M120.out; omega) q (RQ.out.kept K5.out (by simp)) SMQ.out HNQ.out
           with_reducible refine hz.mono ?_
           clear hz
           rintro e w6 ⟨rfl, hd6, S, hk6, hS⟩
           have D6 := Lib.hid hd6
           clear hd6 hk6 hS hx5))
      go_roundg (m - (j + 1))
      case measure => omega
      case rel => exact ⟨j + 1, by omega, rfl, by go_num, D6.out⟩
    · obtain rfl : j = m := by omega
      have i1 : ¬ (j : Int) < (j : Int) := by omega
      obtain ⟨wm, hwm⟩ : ∃ wm, wm = wr := ⟨_, rfl⟩
      subst hwm
      obtain ⟨G, D, H, M, hduo, hiv, ⟨σ, hsim⟩, hops, _, hG, hp2, hlt9⟩ := DJ.out
      have IV := Lib.hid hiv
      have SIM := Lib.hid hsim
      have HD := Lib.hid hduo.d
      have HG := Lib.hid hG
      have M120 := Lib.hid (show j ≤ 120 by rw [← LL.out]; exact SH2.out.1)
      have OPS := Lib.hid (show D.ops ≤ 120 by have := M120.out; omega)
      have KM := Lib.hid (K0.out.trans KW.out (by simp) : Kept [] w wm)
      have OG := Lib.hid (show ∀ k ∈ old w, k ∉ G from fun k hk hm => by have h1 := List.mem_range.1 hk; have h2 := hG k hm; have h3 := K0.out.size; omega)
      have RAM := Lib.hid (RA.out.kept KM.out (by simp))
      have RBM := Lib.hid (RBB.out.kept KM.out (by simp))
      clear hduo hiv hsim hops hG hp2 hlt9
      go_upto_region 14 with (first
        | (go_at_call 24
           obtain ⟨fb, bn, bsx, Ax, mx, cx, xd⟩ := HD.out
           have hz := Crash_any xd IV.out.ok (by have := OPS.out; omega) IV.out.run ba RAM.out OG.out (fun k hk => by have h1 := List.mem_range.1 hk; have h2 := KM.out.size; omega)
           with_reducible refine hz.mono ?_
           clear hz
           rintro e w7 ⟨rfl, hop⟩
           obtain ⟨fb1, G1, bn1, bs1, B1, m1x, c1x, hx1, hk1, hg1⟩ := hop
           have X1 := Lib.hid hx1
           have KG7 := Lib.hid hk1
           have K7 := Lib.hid (KW.out.trans hk1 (fun i hi => .inr (HG.out i hi)) : Kept [] w0 w7)
           have OG1 := Lib.hid (show ∀ k ∈ old w, k ∉ G1 from fun k hk hm => by
             rcases hg1 k hm with h1 | h1
             · exact OG.out k hk h1
             · have h2 := List.mem_range.1 hk; have h3 := KM.out.size; omega)
           have G1N := Lib.hid (show ∀ k ∈ G1, w0.heap.size ≤ k from fun k hm => by
             rcases hg1 k hm with h1 | h1
             · exact HG.out k h1
             · exact Nat.le_trans KW.out.size h1)
           have RB7 := Lib.hid (RBM.out.kept hk1 OG.out)
           have IV1 := Lib.hid (cra_inv IV.out ba)
           have SIM1 := Lib.hid (cra_sim SIM.out IV.out ba)
           clear hx1 hk1 hg1 xd)
        | (go_at_call 33
           have hz := Copy_any X1.out IV1.out (by rw [cra_ops]; have := OPS.out; omega)
           with_reducible refine hz.mono ?_
           clear hz
           rintro e w8 ⟨px, GX, DX, idx, rfl, hdx, hk8, hgx, hcr⟩
           have DX8 := Lib.hid hdx
           have KC8 := Lib.hid hk8
           have GX8 := Lib.hid hgx
           have IVX := Lib.hid (hcr.inv IV1.out)
           have RMX := Lib.hid (hcr.sim IV1.out SIM1.out)
           have OPX := Lib.hid (show DX.ops ≤ 120 by rw [hcr.q1.2.1, cra_ops]; exact OPS.out)
           clear hdx hk8 hgx hcr)
        | (go_at_call 24
           have hz := Crash_any (X1.out.go KC8.out) IV1.out.ok (by rw [cra_ops]; have := OPS.out; omega) IV1.out.run bb (RB7.out.kept KC8.out (by simp)) OG1.out (fun k hk => by have h1 := List.mem_range.1 hk; have h2 := K0.out.size; have h3 := K7.out.size; have h4 := KC8.out.size; omega)
           with_reducible refine hz.mono ?_
           clear hz
           rintro e w9 ⟨rfl, hop⟩
           obtain ⟨fb2, G2, bn2, bs2, B2, m2x, c2x, hx2, hk2, hg2⟩ := hop
           have D9 := Lib.hid (show DkH w9 G2 p (craD (craD D ba) bb) from ⟨_, _, _, _, _, _, hx2⟩)
           have DX9 := Lib.hid (DX8.out.far hk2 (fun k hk hm => by have h1 := X1.out.lt k hk; have h2 := GX8.out k hm; omega))
           have K9 := Lib.hid ((K7.out.trans KC8.out (by simp)).trans hk2 (fun i hi => .inr (G1N.out i hi)) : Kept [] w0 w9)
           clear hx2 hk2 hg2))
      have LD := Lib.hid (look_at D9.out (cra_inv IV1.out bb) ⟨σ, by have h1 := cra_sim SIM1.out IV1.out bb; rw [cra_twice SIM.out.fok] at h1; exact h1⟩ (by rw [cra_ops, cra_ops]; have := OPS.out; omega))
      have LX := Lib.hid (look_at DX9.out IVX.out RMX.out (by have := OPX.out; omega))
      have LB := Lib.hid (show (namM (craM M ba)).length ≤ 400 by
        obtain ⟨σx, hsx⟩ := RMX.out
        have h1 := (hsx.ok IVX.out (by have := OPX.out; omega)).nl.1
        unfold namM
        rw [List.length_map]
        exact h1)
      generalize namM (craM M ba) = nl at *
      generalize sizM (craM M ba) = sz at *
      generalize (fun x => (reaM (craM M ba) x).getD []) = rd at *
      clear DX8 D9 DX9 X1 RMX IVX SIM1 IV1
      go_upto_region 17 with (first
        | (go_at_call 15
           have hz := (LD.out w9 (Kept.refl [] w9)).1
           with_reducible refine hz.mono ?_
           clear hz
           rintro e w10 ⟨hk, B3, b3, rfl, ha⟩
           have K10 := Lib.hid hk
           have S10 := Lib.hid ha
           clear hk ha)
        | (go_at_call 15
           have hz := (LX.out w10 K10.out).1
           with_reducible refine hz.mono ?_
           clear hz
           rintro e w11 ⟨hk, B4, b4, rfl, ha⟩
           have K11 := Lib.hid (K10.out.trans hk (by simp))
           have S11 := Lib.hid ha
           have T11 := Lib.hid (S10.out.kept hk)
           clear hk ha)
        | (go_at_call 18
           have hz := SameNames_any w11 (c := b3) (d := b4) T11.out S11.out (by have := LB.out; omega)
           with_reducible refine hz.mono ?_
           clear hz
           rintro e w12 ⟨r, rfl, hr, hk⟩
           obtain rfl : r = true := hr.2 rfl
           have K12 := Lib.hid (K11.out.trans hk (by simp))
           clear hr hk)
        | (go_at_call 16
           have hz := (LD.out w12 K12.out).2.1
           with_reducible refine hz.mono ?_
           clear hz
           rintro e w13 ⟨rfl, hk⟩
           have K13 := Lib.hid (K12.out.trans hk (by simp))
           clear hk)
        | (go_at_call 16
           have hz := (LX.out w13 K13.out).2.1
           with_reducible refine hz.mono ?_
           clear hz
           rintro e w14 ⟨rfl, hk⟩
           have K14 := Lib.hid (K13.out.trans hk (by simp))
           clear hk)
        | (go_at_call 15
           have hz := (LD.out w14 K14.out).1
           with_reducible refine hz.mono ?_
           clear hz
           rintro e w15 ⟨hk, B5, b5, rfl, ha⟩
           have K15 := Lib.hid (K14.out.trans hk (by simp))
           have S15 := Lib.hid ha
           clear hk ha))
      obtain ⟨mn, hmn⟩ : ∃ mn, nl.length = mn := ⟨_, rfl⟩
      have MN := Lib.hid hmn
      rw [hmn] at S15
      simp only [hmn]
      have mnb := LB.out
      rw [hmn] at mnb
      clear hmn
      go_loopg [71] mn (fun gg i wv => ∃ j2 : Nat, j2 ≤ mn ∧ gg = mn - j2 ∧ i = .int .i64 (j2 : Nat) ∧ Kept [] w15 wv)
      case atStart => exact ⟨0, by omega, by omega, rfl, Kept.refl _ _⟩
      case round =>
        obtain ⟨j2, hj2, rfl, rfl, hkv⟩ := hrel
        have KV := Lib.hid hkv
        have K9V := Lib.hid (K15.out.trans hkv (by simp))
        clear hkv
        by_cases hlt2 : j2 < mn
        · obtain ⟨x, hx⟩ : ∃ x, nl[j2]? = some x := ⟨_, List.getElem?_eq_getElem (by rw [MN.out]; exact hlt2)⟩
          obtain ⟨g, rfl, hg, hgc⟩ := (S15.out.kept KV.out).2 j2 x hx
          have HX := Lib.hid (List.mem_of_getElem? hx)
          have i02 : (0 : Int) ≤ (j2 : Int) := by omega
          have i12 : (j2 : Int) < (mn : Int) := by omega
          have iw2 : IntKind.i64.wrap ((j2 : Int) + 1) = (j2 : Int) + 1 := IntWalk.i64_in _ (by omega)
          clear hx
          go_upto_region 21 with (first
            | (go_at_call 25
               have hz := (LD.out _ K9V.out).2.2 x HX.out
               with_reducible refine hz.mono ?_
               clear hz
               rintro e w16 ⟨hk, B6, m6, b6, rfl, hr⟩
               have K16 := Lib.hid hk
               have R16 := Lib.hid hr
               clear hk hr hgc)
            | (go_at_call 25
               have hz := (LX.out w16 (K9V.out.trans K16.out (by simp))).2.2 x HX.out
               with_reducible refine hz.mono ?_
               clear hz
               rintro e w17 ⟨hk, B7, m7, b7, rfl, hr⟩
               have K17 := Lib.hid hk
               have R17 := Lib.hid hr
               have T17 := Lib.hid (R16.out.kept hk (by simp))
               clear hk hr))
          have q1 := run_str T17.out
          have q2 := run_str R17.out
          have tz := strOf_toList (rd x)
          go_wp2
          go_roundg (mn - (j2 + 1))
          case measure => omega
          case rel => exact ⟨j2 + 1, by omega, rfl, by go_num, KV.out.trans (K16.out.trans K17.out (by simp)) (by simp)⟩
        · obtain rfl : j2 = mn := by omega
          have i12 : ¬ (j2 : Int) < (j2 : Int) := by omega
          go_wp2_with (first
            | (go_at_call 13
               with_reducible refine (AW.out _).mono ?_
               rintro e wz ⟨rfl, hkz⟩
               have KZ := Lib.hid (Kept.trans (K0.out.trans (K9.out.trans K9V.out (by simp)) (by simp)) hkz (by simp))
               clear hkz))
          go_ret
          exact ⟨rfl, KZ.out⟩
set_option maxRecDepth 100000 in
theorem DiskTwice_walk {H : Type} {enc : TypeId × Value → H} {S : Prop} (W : World) (base : Nat) (v0 : Value) (d0 : DataW H) (p0 : List MemPlace) (v1 : Value) (d1 : DataW H) (p1 : List MemPlace) (v2 : Value) (d2 : DataW H) (p2 : List MemPlace)
    (hv0 : Value.okWide Try.prog W .any base 22 v0) (hv1 : Value.okWide Try.prog W .any base 28 v1) (hv2 : Value.okWide Try.prog W .any base 28 v2)
    (h0 : DataW.Trod enc Try.prog W 0 (fun _ => true) true 22 v0 d0 p0) (h1 : DataW.Trod enc Try.prog W 0 (fun _ => true) true 28 v1 d1 p1) (h2 : DataW.Trod enc Try.prog W 0 (fun _ => true) true 28 v2 d2 p2) (_ : S) :
    Calls Try.prog 9 #[v0, v1, v2] W fun e W' => e = .returned (.bool true) ∧ Below W.heap.size W W' := by
  obtain ⟨A, m, c, l, rfl, hl, hn⟩ := open_dcalls2 hv0 h0
  obtain ⟨A2, na, ca, a, rfl, ra⟩ := open_bytesD hv1 h1
  obtain ⟨A3, nb, cb, b, rfl, rb⟩ := open_bytesD hv2 h2
  exact (DiskTwice_walk0 W hl hn ra rb).mono fun e W' ⟨h, hk⟩ => ⟨h, hk.below (Nat.le_refl _) (by simp)⟩
end Go.Proofs.Ythdjdfdefibepaa
