/-
  The document's Apply.
-/
import Derived.Test.YtkacghjglicjiaaGreatSvO
namespace Go.Proofs.YtkacghjglicjiaaGreat
set_option linter.unusedVariables false
section
open Go.RowKit Go.ChangeShapes Go.WideShapes Go.ChangeAt Go.Deep Go.MapKept
set_option maxHeartbeats 4000000 in
set_option maxRecDepth 100000 in
theorem rApply_1 {w : World} {q : Nat} {G : List Nat} {A1 A2 A3 : Option Addr} {m1 c1 m2 c2 m3 c3 : Nat} {V : VwD} (hb : Blk w q 62 #[.int .i64 V.gen, .slice A1 m1 c1, .slice A2 m2 c2, .slice A3 m3 c3]) (hv : VA w G A1 m1 c1 A2 m2 c2 A3 m3 c3 V) (hq : q ∉ G) (hd : V.drains.length ≤ 16) (hf : V.flows.length ≤ 256) (hs : SrtF V.flows) {G2 : List Nat} {A' : Option Addr} {m' c' : Nat} (r : RecD) (hr : SmallB w G2 A' m' c' r.backs) (hk : r.kind = 1) :
    Calls Tryz.prog 19 #[.pointer (some ⟨q, 0, none⟩), .agg #[.int .i64 r.kind, .int .u32 (r.tup.src.toNat : Nat), .int .u32 (r.tup.dst.toNat : Nat), .int .i64 r.tup.proto, .int .i64 r.tup.sport, .int .i64 r.tup.dport, .int .i64 r.fb, .int .i64 r.fg, .int .i64 r.fs, .int .i64 r.gen, .slice A' m' c', .int .i64 r.back, .int .i64 r.until_, .int .i64 r.count]] w fun e w' => VApPost w q G V r e w' := by
  have HV := Lib.hid hv
  have HB := Lib.hid hb
  have HQ := Lib.hid hq
  have HS := Lib.hid hs
  have HR := Lib.hid hr
  have HL := Lib.hid (And.intro hd hf)
  have hqlt := hb.lt
  have K5 := Lib.hid (show Kept [] w (w.alloc (.cells #[.int .i64 r.kind, .int .u32 (r.tup.src.toNat : Nat), .int .u32 (r.tup.dst.toNat : Nat), .int .i64 r.tup.proto, .int .i64 r.tup.sport, .int .i64 r.tup.dport, .int .i64 r.fb, .int .i64 r.fg, .int .i64 r.fs, .int .i64 r.gen, .slice A' m' c', .int .i64 r.back, .int .i64 r.until_, .int .i64 r.count] 43)) by (repeat (first | exact Kept.refl _ _ | apply Kept.alloc | apply Kept.drew)))
  have X5 := Lib.hid (show Blk (w.alloc (.cells #[.int .i64 r.kind, .int .u32 (r.tup.src.toNat : Nat), .int .u32 (r.tup.dst.toNat : Nat), .int .i64 r.tup.proto, .int .i64 r.tup.sport, .int .i64 r.tup.dport, .int .i64 r.fb, .int .i64 r.fg, .int .i64 r.fs, .int .i64 r.gen, .slice A' m' c', .int .i64 r.back, .int .i64 r.until_, .int .i64 r.count] 43)) w.heap.size 43 #[.int .i64 r.kind, .int .u32 (r.tup.src.toNat : Nat), .int .u32 (r.tup.dst.toNat : Nat), .int .i64 r.tup.proto, .int .i64 r.tup.sport, .int .i64 r.tup.dport, .int .i64 r.fb, .int .i64 r.fg, .int .i64 r.fs, .int .i64 r.gen, .slice A' m' c', .int .i64 r.back, .int .i64 r.until_, .int .i64 r.count] from by (repeat (first | (apply Blk.new'; simp; done) | apply Blk.alloc | apply Blk.drew)))
  have B5 := Lib.hid (hb.kept K5.out (by simp))
  have H5 := Lib.hid (hv.go K5.out)
  have HR5 := Lib.hid (⟨BkArr.kept hr.1 K5.out (by simp), fun k hk => Nat.lt_of_lt_of_le (hr.2.1 k hk) K5.out.size, hr.2.2⟩ : SmallB (w.alloc (.cells #[.int .i64 r.kind, .int .u32 (r.tup.src.toNat : Nat), .int .u32 (r.tup.dst.toNat : Nat), .int .i64 r.tup.proto, .int .i64 r.tup.sport, .int .i64 r.tup.dport, .int .i64 r.fb, .int .i64 r.fg, .int .i64 r.fs, .int .i64 r.gen, .slice A' m' c', .int .i64 r.back, .int .i64 r.until_, .int .i64 r.count] 43)) G2 A' m' c' r.backs)
  clear hb hv hq hs hr hd hf
  have hx5 := X5.out.cell
  have hc5 := B5.out.cell
  have hf5 := B5.out.frozen
  have b1 : (r.kind == 1) = true := by simp [hk]
  have b2 : (r.kind == 2) = false := by simp [hk]
  have b3 : (r.kind == 3) = false := by simp [hk]
  have b4 : (r.kind == 4) = false := by simp [hk]
  have b5 : (r.kind == 5) = false := by simp [hk]
  have b6 : (r.kind == 6) = false := by simp [hk]
  rcases hmb : mayR r with _ | _
  · have HM := Lib.hid hmb
    have HE := Lib.hid (errV_bad (V := V) (bad_may hmb))
    clear hmb hk
    go_enter Tryz.func19, Tryz.ntmps19
    go_wp2_with (go_at_call 27; refine (rMay_any _ r HR5.out).mono ?_; rintro e w6 ⟨rfl, hk6⟩; rw [HM.out]; go_must (have HR6 := Lib.hid (⟨BkArr.kept HR5.out.1 hk6 (by simp), fun k hk => Nat.lt_of_lt_of_le (HR5.out.2.1 k hk) hk6.size, HR5.out.2.2⟩ : SmallB w6 G2 A' m' c' r.backs)); go_must (have B6 := Lib.hid (B5.out.kept hk6 (by simp))); go_must (have H6 := Lib.hid (H5.out.go hk6)); go_must (have K6 := Lib.hid (K5.out.trans hk6 (by simp))); go_must (have X6 := Lib.hid (X5.out.kept hk6 (by simp))); go_must (have hx6 := X6.out.cell); go_must (have hl6 : q < w6.heap.size := B6.out.lt); go_must (have hc6 := B6.out.cell); go_must (have hf6 := B6.out.frozen); clear hk6 hc5 hf5 hx5)
    go_ret
    exact VApPost.bad B6.out H6.out HQ.out K6.out HE.out (by omega)
  have HM := Lib.hid hmb
  clear hmb
  obtain ⟨p, hp, hpk, hp1, hp2, hp3, hp4⟩ : ∃ p, plainR r = p ∧ p.kind = r.kind ∧ p.tup = r.tup ∧ p.fb = r.fb ∧ p.fg = r.fg ∧ p.fs = r.fs := ⟨_, rfl, plain_kind r, by simp [plainR, hk], by simp [plainR, hk], by simp [plainR, hk], by simp [plainR, hk]⟩
  have HP := Lib.hid hp
  clear hp
  have d1 : (p.kind == 1) = true := by rw [hpk]; exact b1
  have d2 : (p.kind == 2) = false := by rw [hpk]; exact b2
  have d3 : (p.kind == 3) = false := by rw [hpk]; exact b3
  have d4 : (p.kind == 4) = false := by rw [hpk]; exact b4
  have d5 : (p.kind == 5) = false := by rw [hpk]; exact b5
  have HB0 := Lib.hid (bad_not HM.out (by simp [hk]) (by simp [hk]))
  have HF := Lib.hid (show flowR p = flowR r by unfold flowR; rw [hp1, hp2, hp3, hp4])
  have HMF := Lib.hid (show mayFl (flowR p) = true by rw [HF.out]; exact mayR_fl hk HM.out)
  have HT := Lib.hid hp1
  have HE9 := Lib.hid (fun (h : atI V.flows r.tup < 0 ∧ 256 ≤ V.flows.length) => show errV V r = 9 by unfold errV; rw [if_neg (by rw [HB0.out]; simp), if_pos hk, if_pos h])
  have HE0 := Lib.hid (fun (h : ¬ (atI V.flows r.tup < 0 ∧ 256 ≤ V.flows.length)) => show errV V r = 0 by unfold errV; rw [if_neg (by rw [HB0.out]; simp), if_pos hk, if_neg h])
  have HD := Lib.hid (show doneV V r = { V with flows := putFl V.flows (flowR r) } by unfold doneV; rw [if_pos hk])
  clear hk hp1 hp2 hp3 hp4 hpk
  have HLN := Lib.hid (And.intro HV.out.dr.len.1 HV.out.fl.len.1)
  by_cases hfu : atI V.flows r.tup < 0 ∧ 256 ≤ V.flows.length
  · have HE := Lib.hid (HE9.out hfu)
    have HFU := Lib.hid hfu
    clear hfu HE0 HE9 HD
    go_enter Tryz.func19, Tryz.ntmps19
    go_wp2_with (first
    | (go_at_call 27; refine (rMay_any _ r HR5.out).mono ?_; rintro e w6 ⟨rfl, hk6⟩; rw [HM.out]; go_must (have HR6 := Lib.hid (⟨BkArr.kept HR5.out.1 hk6 (by simp), fun k hk => Nat.lt_of_lt_of_le (HR5.out.2.1 k hk) hk6.size, HR5.out.2.2⟩ : SmallB w6 G2 A' m' c' r.backs)); go_must (have B6 := Lib.hid (B5.out.kept hk6 (by simp))); go_must (have H6 := Lib.hid (H5.out.go hk6)); go_must (have K6 := Lib.hid (K5.out.trans hk6 (by simp))); go_must (have X6 := Lib.hid (X5.out.kept hk6 (by simp))); go_must (have hx6 := X6.out.cell); go_must (have hl6 : q < w6.heap.size := B6.out.lt); go_must (have hc6 := B6.out.cell); go_must (have hf6 := B6.out.frozen); clear hk6 hc5 hf5 hx5)
    | (go_at_call 43; refine (rPlain_any _ r HR6.out).mono ?_; rintro e w7 ⟨v7, rfl, hv7⟩; go_must (have hk7 := LV.kept hv7); go_must (obtain ⟨A7, m7, c7, rfl⟩ := BkV.form hv7); go_must (have HV7 := Lib.hid hv7); rw [HP.out] at HV7; rw [HP.out]; clear hv7; go_must (have B7 := Lib.hid (B6.out.kept hk7 (by simp))); go_must (have H7 := Lib.hid (H6.out.go hk7)); go_must (have K7 := Lib.hid (K6.out.trans hk7 (by simp))); go_must (have X7 := Lib.hid (X6.out.kept hk7 (by simp))); go_must (have hx7 := X7.out.cell); go_must (have hl7 : q < w7.heap.size := B7.out.lt); go_must (have hc7 := B7.out.cell); go_must (have hf7 := B7.out.frozen); clear hk7 hc6 hf6 hx6)
    | (((with_reducible show wpList _ _ _ ({ dst := none, op := Op.store 43 (.tmp 3) (.tmp 20), type := _, pos := _, after := _, guard := _ } :: _) _ _); refine wpList_put (t := 43) rfl 43 (.tmp 3) (.tmp 20) rfl _ (by rfl) (by rfl) (by exact X7.out) (by rfl) (by kernel_rfl) (by simp [Value.oneCell']) ?_; intro w8 hb8 hk8; have Hb8 := Lib.hid hb8; have Hk8 := Lib.hid hk8; clear hb8 hk8); go_must (have hk8 := (Hk8.out.mono (T := [w.heap.size]) (fun i hi => .inl hi))); go_must (have B8 := Lib.hid (B7.out.kept hk8 (by simp; omega))); go_must (have H8 := Lib.hid (H7.out.kept hk8 (fun k hk hm => by have := HV.out.lt k hk; simp at hm; omega))); go_must (have K8 := Lib.hid (K7.out.trans hk8 (fun i hi => .inr (by simp at hi; omega)))); go_must (have X8 := Hb8); go_must (have hx8 := X8.out.cell); go_must (have hl8 : q < w8.heap.size := B8.out.lt); go_must (have hc8 := B8.out.cell); go_must (have hf8 := B8.out.frozen); go_must (have HV8 := Lib.hid (BkV.carry HV7.out K6.out hk8 (fun k hk => by simp at hk; have h1 := X6.out.lt; have h2 := K6.out.size; omega))); clear hk8 hx7 hc7 hf7)
    | (go_at_call 44; refine (rDrains_any _ (B8.out.alloc (.cells #[.slice A3 m3 c3, .int .i64 256, .int .i64 0] 95))).mono ?_; rintro e w10 ⟨rfl, hd10, hk910⟩; go_must (have hk10 : Kept [] w8 w10 := ((Kept.refl [] w8).alloc (.cells #[.slice A3 m3 c3, .int .i64 256, .int .i64 0] 95)).trans hk910 (by simp)); go_must (have F10 := Lib.hid ((Blk.new w8 95 #[.slice A3 m3 c3, .int .i64 256, .int .i64 0]).kept hk910 (by simp))); go_must (have D10 := Lib.hid hd10); rw [show (w8.alloc (.cells #[.slice A3 m3 c3, .int .i64 256, .int .i64 0] 95)).heap.size = w8.heap.size + 1 from by simp] at D10; rw [show (w8.alloc (.cells #[.slice A3 m3 c3, .int .i64 256, .int .i64 0] 95)).heap.size = w8.heap.size + 1 from by simp]; go_must (have hfl10 : w8.heap.size < w10.heap.size := F10.out.lt); go_must (have hdl10 : w8.heap.size + 1 < w10.heap.size := D10.out.lt); go_must (have hfc10 := F10.out.cell); go_must (have hdc10 := D10.out.cell); clear hk910 hd10; go_must (have B10 := Lib.hid (B8.out.kept hk10 (by simp))); go_must (have H10 := Lib.hid (H8.out.go hk10)); go_must (have K10 := Lib.hid (K8.out.trans hk10 (by simp))); go_must (have X10 := Lib.hid (X8.out.kept hk10 (by simp))); go_must (have hx10 := X10.out.cell); go_must (have hl10 : q < w10.heap.size := B10.out.lt); go_must (have hc10 := B10.out.cell); go_must (have hf10 := B10.out.frozen); clear hk10 hc8 hf8 hx8)
    | (go_at_call 45; refine (FlPut_any _ (⟨F10.out, H10.out.fl, H10.out.lt, fun hm => by have := HV.out.lt _ hm; have := K8.out.size; omega⟩ : Fls w10 w10 w8.heap.size G A3 m3 c3 256 0 V.flows) (flowR p) (by have := HLN.out.2; have := HL.out.2; omega)).mono ?_; rintro e w11 hpost; go_must (have hpost := (show FlPutPost w10 w8.heap.size 0 V.flows (flowR p) e w11 from hpost)); rw [show (flowR p) = flowR r from HF.out] at hpost; go_must (obtain ⟨rfl, hkx⟩ : e = .returned (.tuple #[.bool false, .int .i64 9]) ∧ Kept [] w10 w11 := (by rcases hpost with ⟨h1, _⟩ | ⟨_, _, h3, h4⟩ | ⟨_, h2, _⟩; exact absurd h1 (by rw [← HF.out, HMF.out]; simp); exact ⟨h3, h4⟩; exact absurd HFU.out h2)); clear hpost; go_must (have B11 := Lib.hid (B10.out.kept hkx (by simp))); go_must (have H11 := Lib.hid (H10.out.go hkx)); go_must (have K11 := Lib.hid (K10.out.trans hkx (by simp))); go_must (have hl11 : q < w11.heap.size := B11.out.lt); go_must (have hc11 := B11.out.cell); go_must (have hf11 := B11.out.frozen); go_must (have F11 := Lib.hid (F10.out.kept hkx (by simp))); go_must (have D11 := Lib.hid (D10.out.kept hkx (by simp))); go_must (have hfl11 := F11.out.lt); go_must (have hdl11 := D11.out.lt); go_must (have hfc11 := F11.out.cell); go_must (have hdc11 := D11.out.cell); go_must (have X11 := Lib.hid (X10.out.kept hkx (by simp))); go_must (have hx11 := X11.out.cell); clear hkx hc10 hf10 hfc10 hdc10 hx10))
    go_ret
    exact VApPost.bad B11.out H11.out HQ.out K11.out HE.out (by omega)
  have HE := Lib.hid (HE0.out hfu)
  have HFU := Lib.hid hfu
  clear hfu HE0 HE9
  obtain ⟨bn, hbn⟩ : ∃ b, decide (atI V.flows r.tup < 0) = b := ⟨_, rfl⟩
  have HBN := Lib.hid hbn
  clear hbn
  go_enter Tryz.func19, Tryz.ntmps19
  go_wp2_with (first
    | (go_at_call 27; refine (rMay_any _ r HR5.out).mono ?_; rintro e w6 ⟨rfl, hk6⟩; rw [HM.out]; go_must (have HR6 := Lib.hid (⟨BkArr.kept HR5.out.1 hk6 (by simp), fun k hk => Nat.lt_of_lt_of_le (HR5.out.2.1 k hk) hk6.size, HR5.out.2.2⟩ : SmallB w6 G2 A' m' c' r.backs)); go_must (have B6 := Lib.hid (B5.out.kept hk6 (by simp))); go_must (have H6 := Lib.hid (H5.out.go hk6)); go_must (have K6 := Lib.hid (K5.out.trans hk6 (by simp))); go_must (have X6 := Lib.hid (X5.out.kept hk6 (by simp))); go_must (have hx6 := X6.out.cell); go_must (have hl6 : q < w6.heap.size := B6.out.lt); go_must (have hc6 := B6.out.cell); go_must (have hf6 := B6.out.frozen); clear hk6 hc5 hf5 hx5)
    | (go_at_call 43; refine (rPlain_any _ r HR6.out).mono ?_; rintro e w7 ⟨v7, rfl, hv7⟩; go_must (have hk7 := LV.kept hv7); go_must (obtain ⟨A7, m7, c7, rfl⟩ := BkV.form hv7); go_must (have HV7 := Lib.hid hv7); rw [HP.out] at HV7; rw [HP.out]; clear hv7; go_must (have B7 := Lib.hid (B6.out.kept hk7 (by simp))); go_must (have H7 := Lib.hid (H6.out.go hk7)); go_must (have K7 := Lib.hid (K6.out.trans hk7 (by simp))); go_must (have X7 := Lib.hid (X6.out.kept hk7 (by simp))); go_must (have hx7 := X7.out.cell); go_must (have hl7 : q < w7.heap.size := B7.out.lt); go_must (have hc7 := B7.out.cell); go_must (have hf7 := B7.out.frozen); clear hk7 hc6 hf6 hx6)
    | (((with_reducible show wpList _ _ _ ({ dst := none, op := Op.store 43 (.tmp 3) (.tmp 20), type := _, pos := _, after := _, guard := _ } :: _) _ _); refine wpList_put (t := 43) rfl 43 (.tmp 3) (.tmp 20) rfl _ (by rfl) (by rfl) (by exact X7.out) (by rfl) (by kernel_rfl) (by simp [Value.oneCell']) ?_; intro w8 hb8 hk8; have Hb8 := Lib.hid hb8; have Hk8 := Lib.hid hk8; clear hb8 hk8); go_must (have hk8 := (Hk8.out.mono (T := [w.heap.size]) (fun i hi => .inl hi))); go_must (have B8 := Lib.hid (B7.out.kept hk8 (by simp; omega))); go_must (have H8 := Lib.hid (H7.out.kept hk8 (fun k hk hm => by have := HV.out.lt k hk; simp at hm; omega))); go_must (have K8 := Lib.hid (K7.out.trans hk8 (fun i hi => .inr (by simp at hi; omega)))); go_must (have X8 := Hb8); go_must (have hx8 := X8.out.cell); go_must (have hl8 : q < w8.heap.size := B8.out.lt); go_must (have hc8 := B8.out.cell); go_must (have hf8 := B8.out.frozen); go_must (have HV8 := Lib.hid (BkV.carry HV7.out K6.out hk8 (fun k hk => by simp at hk; have h1 := X6.out.lt; have h2 := K6.out.size; omega))); clear hk8 hx7 hc7 hf7)
    | (go_at_call 44; refine (rDrains_any _ (B8.out.alloc (.cells #[.slice A3 m3 c3, .int .i64 256, .int .i64 0] 95))).mono ?_; rintro e w10 ⟨rfl, hd10, hk910⟩; go_must (have hk10 : Kept [] w8 w10 := ((Kept.refl [] w8).alloc (.cells #[.slice A3 m3 c3, .int .i64 256, .int .i64 0] 95)).trans hk910 (by simp)); go_must (have F10 := Lib.hid ((Blk.new w8 95 #[.slice A3 m3 c3, .int .i64 256, .int .i64 0]).kept hk910 (by simp))); go_must (have D10 := Lib.hid hd10); rw [show (w8.alloc (.cells #[.slice A3 m3 c3, .int .i64 256, .int .i64 0] 95)).heap.size = w8.heap.size + 1 from by simp] at D10; rw [show (w8.alloc (.cells #[.slice A3 m3 c3, .int .i64 256, .int .i64 0] 95)).heap.size = w8.heap.size + 1 from by simp]; go_must (have hfl10 : w8.heap.size < w10.heap.size := F10.out.lt); go_must (have hdl10 : w8.heap.size + 1 < w10.heap.size := D10.out.lt); go_must (have hfc10 := F10.out.cell); go_must (have hdc10 := D10.out.cell); clear hk910 hd10; go_must (have B10 := Lib.hid (B8.out.kept hk10 (by simp))); go_must (have H10 := Lib.hid (H8.out.go hk10)); go_must (have K10 := Lib.hid (K8.out.trans hk10 (by simp))); go_must (have X10 := Lib.hid (X8.out.kept hk10 (by simp))); go_must (have hx10 := X10.out.cell); go_must (have hl10 : q < w10.heap.size := B10.out.lt); go_must (have hc10 := B10.out.cell); go_must (have hf10 := B10.out.frozen); clear hk10 hc8 hf8 hx8)
    | (go_at_call 45; refine (FlPut_any _ (⟨F10.out, H10.out.fl, H10.out.lt, fun hm => by have := HV.out.lt _ hm; have := K8.out.size; omega⟩ : Fls w10 w10 w8.heap.size G A3 m3 c3 256 0 V.flows) (flowR p) (by have := HLN.out.2; have := HL.out.2; omega)).mono ?_; rintro e w11 hpost; go_must (have hpost := (show FlPutPost w10 w8.heap.size 0 V.flows (flowR p) e w11 from hpost)); rw [show (flowR p) = flowR r from HF.out] at hpost; go_must (obtain ⟨A', m', c', rfl, hkx, hbf, G', hg1, hg2⟩ : ∃ A' m' c', e = .returned (.tuple #[.bool bn, .int .i64 0]) ∧ Kept [w8.heap.size] w10 w11 ∧ Blk w11 w8.heap.size 95 #[.slice A' m' c', .int .i64 256, .int .i64 0] ∧ ∃ G', FlArr w11 G' (.slice A' m' c') (putFl V.flows (flowR r)) ∧ ∀ k ∈ G', w10.heap.size ≤ k ∧ k < w11.heap.size := (by rcases hpost with ⟨h1, _⟩ | ⟨_, h2, _⟩ | ⟨_, _, A', m', c', h3, h4, h5, h6⟩; exact absurd h1 (by rw [← HF.out, HMF.out]; simp); exact absurd h2 HFU.out; exact ⟨A', m', c', by rw [h3]; rw [show (flowR r).tup = r.tup from rfl, HBN.out], h4, h5, h6⟩)); clear hpost; go_must (have F11 := Lib.hid hbf); go_must (have hfl11 := F11.out.lt); go_must (have hfc11 := F11.out.cell); go_must (have R11 := Lib.hid hg1); go_must (have RG := Lib.hid hg2); clear hbf hg1 hg2; go_must (have B11 := Lib.hid (B10.out.kept hkx (by simp; have := K8.out.size; omega))); go_must (have H11 := Lib.hid (H10.out.kept hkx (fun k hk hm => by have := HV.out.lt k hk; have := K8.out.size; simp at hm; omega))); go_must (have K11 := Lib.hid (K10.out.trans hkx (fun i hi => .inr (by simp at hi; have := K8.out.size; omega)))); go_must (have hl11 : q < w11.heap.size := B11.out.lt); go_must (have hc11 := B11.out.cell); go_must (have hf11 := B11.out.frozen); clear hkx hc10 hf10 hfc10 hdc10))
  go_ret
  exact VApPost.good ((K11.out.mono (T := [q]) (by simp)).trans ((Kept.refl [q] w11).setCell (.inl (by simp)) _) (by simp)) HE.out (HD.out) (DvAt.put3 B11.out H11.out HQ.out R11.out (fun k hk => (RG.out k hk).2) (fun hm => by have := (RG.out _ hm).1; have := B10.out.lt; omega)) (fun k hk => by rcases List.mem_append.1 hk with h | h; exact .inl h; exact .inr (by have := (RG.out k h).1; have := K10.out.size; omega))
set_option maxHeartbeats 4000000 in
set_option maxRecDepth 100000 in
theorem rApply_2 {w : World} {q : Nat} {G : List Nat} {A1 A2 A3 : Option Addr} {m1 c1 m2 c2 m3 c3 : Nat} {V : VwD} (hb : Blk w q 62 #[.int .i64 V.gen, .slice A1 m1 c1, .slice A2 m2 c2, .slice A3 m3 c3]) (hv : VA w G A1 m1 c1 A2 m2 c2 A3 m3 c3 V) (hq : q ∉ G) (hd : V.drains.length ≤ 16) (hf : V.flows.length ≤ 256) (hs : SrtF V.flows) {G2 : List Nat} {A' : Option Addr} {m' c' : Nat} (r : RecD) (hr : SmallB w G2 A' m' c' r.backs) (hk : r.kind = 2) :
    Calls Tryz.prog 19 #[.pointer (some ⟨q, 0, none⟩), .agg #[.int .i64 r.kind, .int .u32 (r.tup.src.toNat : Nat), .int .u32 (r.tup.dst.toNat : Nat), .int .i64 r.tup.proto, .int .i64 r.tup.sport, .int .i64 r.tup.dport, .int .i64 r.fb, .int .i64 r.fg, .int .i64 r.fs, .int .i64 r.gen, .slice A' m' c', .int .i64 r.back, .int .i64 r.until_, .int .i64 r.count]] w fun e w' => VApPost w q G V r e w' := by
  have HV := Lib.hid hv
  have HB := Lib.hid hb
  have HQ := Lib.hid hq
  have HS := Lib.hid hs
  have HR := Lib.hid hr
  have HL := Lib.hid (And.intro hd hf)
  have hqlt := hb.lt
  have K5 := Lib.hid (show Kept [] w (w.alloc (.cells #[.int .i64 r.kind, .int .u32 (r.tup.src.toNat : Nat), .int .u32 (r.tup.dst.toNat : Nat), .int .i64 r.tup.proto, .int .i64 r.tup.sport, .int .i64 r.tup.dport, .int .i64 r.fb, .int .i64 r.fg, .int .i64 r.fs, .int .i64 r.gen, .slice A' m' c', .int .i64 r.back, .int .i64 r.until_, .int .i64 r.count] 43)) by (repeat (first | exact Kept.refl _ _ | apply Kept.alloc | apply Kept.drew)))
  have X5 := Lib.hid (show Blk (w.alloc (.cells #[.int .i64 r.kind, .int .u32 (r.tup.src.toNat : Nat), .int .u32 (r.tup.dst.toNat : Nat), .int .i64 r.tup.proto, .int .i64 r.tup.sport, .int .i64 r.tup.dport, .int .i64 r.fb, .int .i64 r.fg, .int .i64 r.fs, .int .i64 r.gen, .slice A' m' c', .int .i64 r.back, .int .i64 r.until_, .int .i64 r.count] 43)) w.heap.size 43 #[.int .i64 r.kind, .int .u32 (r.tup.src.toNat : Nat), .int .u32 (r.tup.dst.toNat : Nat), .int .i64 r.tup.proto, .int .i64 r.tup.sport, .int .i64 r.tup.dport, .int .i64 r.fb, .int .i64 r.fg, .int .i64 r.fs, .int .i64 r.gen, .slice A' m' c', .int .i64 r.back, .int .i64 r.until_, .int .i64 r.count] from by (repeat (first | (apply Blk.new'; simp; done) | apply Blk.alloc | apply Blk.drew)))
  have B5 := Lib.hid (hb.kept K5.out (by simp))
  have H5 := Lib.hid (hv.go K5.out)
  have HR5 := Lib.hid (⟨BkArr.kept hr.1 K5.out (by simp), fun k hk => Nat.lt_of_lt_of_le (hr.2.1 k hk) K5.out.size, hr.2.2⟩ : SmallB (w.alloc (.cells #[.int .i64 r.kind, .int .u32 (r.tup.src.toNat : Nat), .int .u32 (r.tup.dst.toNat : Nat), .int .i64 r.tup.proto, .int .i64 r.tup.sport, .int .i64 r.tup.dport, .int .i64 r.fb, .int .i64 r.fg, .int .i64 r.fs, .int .i64 r.gen, .slice A' m' c', .int .i64 r.back, .int .i64 r.until_, .int .i64 r.count] 43)) G2 A' m' c' r.backs)
  clear hb hv hq hs hr hd hf
  have hx5 := X5.out.cell
  have hc5 := B5.out.cell
  have hf5 := B5.out.frozen
  have b1 : (r.kind == 1) = false := by simp [hk]
  have b2 : (r.kind == 2) = true := by simp [hk]
  have b3 : (r.kind == 3) = false := by simp [hk]
  have b4 : (r.kind == 4) = false := by simp [hk]
  have b5 : (r.kind == 5) = false := by simp [hk]
  have b6 : (r.kind == 6) = false := by simp [hk]
  rcases hmb : mayR r with _ | _
  · have HM := Lib.hid hmb
    have HE := Lib.hid (errV_bad (V := V) (bad_may hmb))
    clear hmb hk
    go_enter Tryz.func19, Tryz.ntmps19
    go_wp2_with (go_at_call 27; refine (rMay_any _ r HR5.out).mono ?_; rintro e w6 ⟨rfl, hk6⟩; rw [HM.out]; go_must (have HR6 := Lib.hid (⟨BkArr.kept HR5.out.1 hk6 (by simp), fun k hk => Nat.lt_of_lt_of_le (HR5.out.2.1 k hk) hk6.size, HR5.out.2.2⟩ : SmallB w6 G2 A' m' c' r.backs)); go_must (have B6 := Lib.hid (B5.out.kept hk6 (by simp))); go_must (have H6 := Lib.hid (H5.out.go hk6)); go_must (have K6 := Lib.hid (K5.out.trans hk6 (by simp))); go_must (have X6 := Lib.hid (X5.out.kept hk6 (by simp))); go_must (have hx6 := X6.out.cell); go_must (have hl6 : q < w6.heap.size := B6.out.lt); go_must (have hc6 := B6.out.cell); go_must (have hf6 := B6.out.frozen); clear hk6 hc5 hf5 hx5)
    go_ret
    exact VApPost.bad B6.out H6.out HQ.out K6.out HE.out (by omega)
  have HM := Lib.hid hmb
  clear hmb
  obtain ⟨p, hp, hpk, hp1⟩ : ∃ p, plainR r = p ∧ p.kind = r.kind ∧ p.tup = r.tup := ⟨_, rfl, plain_kind r, by simp [plainR, hk]⟩
  have HP := Lib.hid hp
  clear hp
  have d1 : (p.kind == 1) = false := by rw [hpk]; exact b1
  have d2 : (p.kind == 2) = true := by rw [hpk]; exact b2
  have d3 : (p.kind == 3) = false := by rw [hpk]; exact b3
  have d4 : (p.kind == 4) = false := by rw [hpk]; exact b4
  have d5 : (p.kind == 5) = false := by rw [hpk]; exact b5
  have HB0 := Lib.hid (bad_not HM.out (by simp [hk]) (by simp [hk]))
  have HT := Lib.hid hp1
  have HE0 := Lib.hid (show errV V r = 0 by unfold errV; rw [if_neg (by rw [HB0.out]; simp), if_neg (by omega), if_neg (by omega)])
  have HD := Lib.hid (show doneV V r = { V with flows := V.flows.filter fun x => !decide (x.tup = r.tup) } by unfold doneV; rw [if_neg (by omega), if_pos hk])
  clear hk hp1 hpk
  have HLN := Lib.hid (And.intro HV.out.dr.len.1 HV.out.fl.len.1)
  by_cases hat : atI V.flows r.tup = -1
  · have HAT := Lib.hid hat
    clear hat
    go_enter Tryz.func19, Tryz.ntmps19
    go_wp2_with (first
    | (go_at_call 27; refine (rMay_any _ r HR5.out).mono ?_; rintro e w6 ⟨rfl, hk6⟩; rw [HM.out]; go_must (have HR6 := Lib.hid (⟨BkArr.kept HR5.out.1 hk6 (by simp), fun k hk => Nat.lt_of_lt_of_le (HR5.out.2.1 k hk) hk6.size, HR5.out.2.2⟩ : SmallB w6 G2 A' m' c' r.backs)); go_must (have B6 := Lib.hid (B5.out.kept hk6 (by simp))); go_must (have H6 := Lib.hid (H5.out.go hk6)); go_must (have K6 := Lib.hid (K5.out.trans hk6 (by simp))); go_must (have X6 := Lib.hid (X5.out.kept hk6 (by simp))); go_must (have hx6 := X6.out.cell); go_must (have hl6 : q < w6.heap.size := B6.out.lt); go_must (have hc6 := B6.out.cell); go_must (have hf6 := B6.out.frozen); clear hk6 hc5 hf5 hx5)
    | (go_at_call 43; refine (rPlain_any _ r HR6.out).mono ?_; rintro e w7 ⟨v7, rfl, hv7⟩; go_must (have hk7 := LV.kept hv7); go_must (obtain ⟨A7, m7, c7, rfl⟩ := BkV.form hv7); go_must (have HV7 := Lib.hid hv7); rw [HP.out] at HV7; rw [HP.out]; clear hv7; go_must (have B7 := Lib.hid (B6.out.kept hk7 (by simp))); go_must (have H7 := Lib.hid (H6.out.go hk7)); go_must (have K7 := Lib.hid (K6.out.trans hk7 (by simp))); go_must (have X7 := Lib.hid (X6.out.kept hk7 (by simp))); go_must (have hx7 := X7.out.cell); go_must (have hl7 : q < w7.heap.size := B7.out.lt); go_must (have hc7 := B7.out.cell); go_must (have hf7 := B7.out.frozen); clear hk7 hc6 hf6 hx6)
    | (((with_reducible show wpList _ _ _ ({ dst := none, op := Op.store 43 (.tmp 3) (.tmp 20), type := _, pos := _, after := _, guard := _ } :: _) _ _); refine wpList_put (t := 43) rfl 43 (.tmp 3) (.tmp 20) rfl _ (by rfl) (by rfl) (by exact X7.out) (by rfl) (by kernel_rfl) (by simp [Value.oneCell']) ?_; intro w8 hb8 hk8; have Hb8 := Lib.hid hb8; have Hk8 := Lib.hid hk8; clear hb8 hk8); go_must (have hk8 := (Hk8.out.mono (T := [w.heap.size]) (fun i hi => .inl hi))); go_must (have B8 := Lib.hid (B7.out.kept hk8 (by simp; omega))); go_must (have H8 := Lib.hid (H7.out.kept hk8 (fun k hk hm => by have := HV.out.lt k hk; simp at hm; omega))); go_must (have K8 := Lib.hid (K7.out.trans hk8 (fun i hi => .inr (by simp at hi; omega)))); go_must (have X8 := Hb8); go_must (have hx8 := X8.out.cell); go_must (have hl8 : q < w8.heap.size := B8.out.lt); go_must (have hc8 := B8.out.cell); go_must (have hf8 := B8.out.frozen); go_must (have HV8 := Lib.hid (BkV.carry HV7.out K6.out hk8 (fun k hk => by simp at hk; have h1 := X6.out.lt; have h2 := K6.out.size; omega))); clear hk8 hx7 hc7 hf7)
    | (go_at_call 44; refine (rDrains_any _ (B8.out.alloc (.cells #[.slice A3 m3 c3, .int .i64 256, .int .i64 0] 95))).mono ?_; rintro e w10 ⟨rfl, hd10, hk910⟩; go_must (have hk10 : Kept [] w8 w10 := ((Kept.refl [] w8).alloc (.cells #[.slice A3 m3 c3, .int .i64 256, .int .i64 0] 95)).trans hk910 (by simp)); go_must (have F10 := Lib.hid ((Blk.new w8 95 #[.slice A3 m3 c3, .int .i64 256, .int .i64 0]).kept hk910 (by simp))); go_must (have D10 := Lib.hid hd10); rw [show (w8.alloc (.cells #[.slice A3 m3 c3, .int .i64 256, .int .i64 0] 95)).heap.size = w8.heap.size + 1 from by simp] at D10; rw [show (w8.alloc (.cells #[.slice A3 m3 c3, .int .i64 256, .int .i64 0] 95)).heap.size = w8.heap.size + 1 from by simp]; go_must (have hfl10 : w8.heap.size < w10.heap.size := F10.out.lt); go_must (have hdl10 : w8.heap.size + 1 < w10.heap.size := D10.out.lt); go_must (have hfc10 := F10.out.cell); go_must (have hdc10 := D10.out.cell); clear hk910 hd10; go_must (have B10 := Lib.hid (B8.out.kept hk10 (by simp))); go_must (have H10 := Lib.hid (H8.out.go hk10)); go_must (have K10 := Lib.hid (K8.out.trans hk10 (by simp))); go_must (have X10 := Lib.hid (X8.out.kept hk10 (by simp))); go_must (have hx10 := X10.out.cell); go_must (have hl10 : q < w10.heap.size := B10.out.lt); go_must (have hc10 := B10.out.cell); go_must (have hf10 := B10.out.frozen); clear hk10 hc8 hf8 hx8)
    | (go_at_call 46; rw [HT.out]; refine (FlDrop_any _ (⟨F10.out, H10.out.fl, H10.out.lt, fun hm => by have := HV.out.lt _ hm; have := K8.out.size; omega⟩ : Fls w10 w10 w8.heap.size G A3 m3 c3 256 0 V.flows) r.tup (by have := HLN.out.2; have := HL.out.2; omega)).mono ?_; rintro e w11 hpost; go_must (obtain ⟨rfl, hkx⟩ : e = .returned (.bool false) ∧ Kept [] w10 w11 := (by rcases hpost with ⟨_, h1, h2⟩ | ⟨i, _, h1, _⟩; exact ⟨h1, h2⟩; exact absurd (HAT.out.symm.trans h1) (by omega))); clear hpost; go_must (have B11 := Lib.hid (B10.out.kept hkx (by simp))); go_must (have H11 := Lib.hid (H10.out.go hkx)); go_must (have K11 := Lib.hid (K10.out.trans hkx (by simp))); go_must (have hl11 : q < w11.heap.size := B11.out.lt); go_must (have hc11 := B11.out.cell); go_must (have hf11 := B11.out.frozen); go_must (have F11 := Lib.hid (F10.out.kept hkx (by simp))); go_must (have D11 := Lib.hid (D10.out.kept hkx (by simp))); go_must (have hfl11 := F11.out.lt); go_must (have hdl11 := D11.out.lt); go_must (have hfc11 := F11.out.cell); go_must (have hdc11 := D11.out.cell); go_must (have X11 := Lib.hid (X10.out.kept hkx (by simp))); go_must (have hx11 := X11.out.cell); clear hkx hc10 hf10 hfc10 hdc10 hx10))
    go_ret
    exact VApPost.good ((K11.out.mono (T := [q]) (by simp)).trans ((Kept.refl [q] w11).setCell (.inl (by simp)) _) (by simp)) HE0.out HD.out (by rw [flows_none HAT.out]; exact DvAt.put3 B11.out H11.out HQ.out H11.out.fl H11.out.lt HQ.out) (fun k hk => by rcases List.mem_append.1 hk with h | h; exact .inl h; exact .inl h)
  have HAT := Lib.hid hat
  clear hat
  go_enter Tryz.func19, Tryz.ntmps19
  go_wp2_with (first
    | (go_at_call 27; refine (rMay_any _ r HR5.out).mono ?_; rintro e w6 ⟨rfl, hk6⟩; rw [HM.out]; go_must (have HR6 := Lib.hid (⟨BkArr.kept HR5.out.1 hk6 (by simp), fun k hk => Nat.lt_of_lt_of_le (HR5.out.2.1 k hk) hk6.size, HR5.out.2.2⟩ : SmallB w6 G2 A' m' c' r.backs)); go_must (have B6 := Lib.hid (B5.out.kept hk6 (by simp))); go_must (have H6 := Lib.hid (H5.out.go hk6)); go_must (have K6 := Lib.hid (K5.out.trans hk6 (by simp))); go_must (have X6 := Lib.hid (X5.out.kept hk6 (by simp))); go_must (have hx6 := X6.out.cell); go_must (have hl6 : q < w6.heap.size := B6.out.lt); go_must (have hc6 := B6.out.cell); go_must (have hf6 := B6.out.frozen); clear hk6 hc5 hf5 hx5)
    | (go_at_call 43; refine (rPlain_any _ r HR6.out).mono ?_; rintro e w7 ⟨v7, rfl, hv7⟩; go_must (have hk7 := LV.kept hv7); go_must (obtain ⟨A7, m7, c7, rfl⟩ := BkV.form hv7); go_must (have HV7 := Lib.hid hv7); rw [HP.out] at HV7; rw [HP.out]; clear hv7; go_must (have B7 := Lib.hid (B6.out.kept hk7 (by simp))); go_must (have H7 := Lib.hid (H6.out.go hk7)); go_must (have K7 := Lib.hid (K6.out.trans hk7 (by simp))); go_must (have X7 := Lib.hid (X6.out.kept hk7 (by simp))); go_must (have hx7 := X7.out.cell); go_must (have hl7 : q < w7.heap.size := B7.out.lt); go_must (have hc7 := B7.out.cell); go_must (have hf7 := B7.out.frozen); clear hk7 hc6 hf6 hx6)
    | (((with_reducible show wpList _ _ _ ({ dst := none, op := Op.store 43 (.tmp 3) (.tmp 20), type := _, pos := _, after := _, guard := _ } :: _) _ _); refine wpList_put (t := 43) rfl 43 (.tmp 3) (.tmp 20) rfl _ (by rfl) (by rfl) (by exact X7.out) (by rfl) (by kernel_rfl) (by simp [Value.oneCell']) ?_; intro w8 hb8 hk8; have Hb8 := Lib.hid hb8; have Hk8 := Lib.hid hk8; clear hb8 hk8); go_must (have hk8 := (Hk8.out.mono (T := [w.heap.size]) (fun i hi => .inl hi))); go_must (have B8 := Lib.hid (B7.out.kept hk8 (by simp; omega))); go_must (have H8 := Lib.hid (H7.out.kept hk8 (fun k hk hm => by have := HV.out.lt k hk; simp at hm; omega))); go_must (have K8 := Lib.hid (K7.out.trans hk8 (fun i hi => .inr (by simp at hi; omega)))); go_must (have X8 := Hb8); go_must (have hx8 := X8.out.cell); go_must (have hl8 : q < w8.heap.size := B8.out.lt); go_must (have hc8 := B8.out.cell); go_must (have hf8 := B8.out.frozen); go_must (have HV8 := Lib.hid (BkV.carry HV7.out K6.out hk8 (fun k hk => by simp at hk; have h1 := X6.out.lt; have h2 := K6.out.size; omega))); clear hk8 hx7 hc7 hf7)
    | (go_at_call 44; refine (rDrains_any _ (B8.out.alloc (.cells #[.slice A3 m3 c3, .int .i64 256, .int .i64 0] 95))).mono ?_; rintro e w10 ⟨rfl, hd10, hk910⟩; go_must (have hk10 : Kept [] w8 w10 := ((Kept.refl [] w8).alloc (.cells #[.slice A3 m3 c3, .int .i64 256, .int .i64 0] 95)).trans hk910 (by simp)); go_must (have F10 := Lib.hid ((Blk.new w8 95 #[.slice A3 m3 c3, .int .i64 256, .int .i64 0]).kept hk910 (by simp))); go_must (have D10 := Lib.hid hd10); rw [show (w8.alloc (.cells #[.slice A3 m3 c3, .int .i64 256, .int .i64 0] 95)).heap.size = w8.heap.size + 1 from by simp] at D10; rw [show (w8.alloc (.cells #[.slice A3 m3 c3, .int .i64 256, .int .i64 0] 95)).heap.size = w8.heap.size + 1 from by simp]; go_must (have hfl10 : w8.heap.size < w10.heap.size := F10.out.lt); go_must (have hdl10 : w8.heap.size + 1 < w10.heap.size := D10.out.lt); go_must (have hfc10 := F10.out.cell); go_must (have hdc10 := D10.out.cell); clear hk910 hd10; go_must (have B10 := Lib.hid (B8.out.kept hk10 (by simp))); go_must (have H10 := Lib.hid (H8.out.go hk10)); go_must (have K10 := Lib.hid (K8.out.trans hk10 (by simp))); go_must (have X10 := Lib.hid (X8.out.kept hk10 (by simp))); go_must (have hx10 := X10.out.cell); go_must (have hl10 : q < w10.heap.size := B10.out.lt); go_must (have hc10 := B10.out.cell); go_must (have hf10 := B10.out.frozen); clear hk10 hc8 hf8 hx8)
    | (go_at_call 46; rw [HT.out]; refine (FlDrop_any _ (⟨F10.out, H10.out.fl, H10.out.lt, fun hm => by have := HV.out.lt _ hm; have := K8.out.size; omega⟩ : Fls w10 w10 w8.heap.size G A3 m3 c3 256 0 V.flows) r.tup (by have := HLN.out.2; have := HL.out.2; omega)).mono ?_; rintro e w11 hpost; go_must (obtain ⟨A', m', c', rfl, hkx, hbf, G', hg1, hg2⟩ : ∃ A' m' c', e = .returned (.bool true) ∧ Kept [w8.heap.size] w10 w11 ∧ Blk w11 w8.heap.size 95 #[.slice A' m' c', .int .i64 256, .int .i64 0] ∧ ∃ G', FlArr w11 G' (.slice A' m' c') (V.flows.filter fun x => !decide (x.tup = r.tup)) ∧ ∀ k ∈ G', w10.heap.size ≤ k ∧ k < w11.heap.size := (by rcases hpost with ⟨h1, _⟩ | ⟨i, hi, h2, h3, h4, A', m', c', h5, G', h6, h7⟩; exact absurd h1 HAT.out; exact ⟨A', m', c', h3, h4, h5, G', by rw [← flows_drop HS.out hi h2]; exact h6, h7⟩)); clear hpost; go_must (have F11 := Lib.hid hbf); go_must (have hfl11 := F11.out.lt); go_must (have hfc11 := F11.out.cell); go_must (have R11 := Lib.hid hg1); go_must (have RG := Lib.hid hg2); clear hbf hg1 hg2; go_must (have B11 := Lib.hid (B10.out.kept hkx (by simp; have := K8.out.size; omega))); go_must (have H11 := Lib.hid (H10.out.kept hkx (fun k hk hm => by have := HV.out.lt k hk; have := K8.out.size; simp at hm; omega))); go_must (have K11 := Lib.hid (K10.out.trans hkx (fun i hi => .inr (by simp at hi; have := K8.out.size; omega)))); go_must (have hl11 : q < w11.heap.size := B11.out.lt); go_must (have hc11 := B11.out.cell); go_must (have hf11 := B11.out.frozen); clear hkx hc10 hf10 hfc10 hdc10))
  go_ret
  exact VApPost.good ((K11.out.mono (T := [q]) (by simp)).trans ((Kept.refl [q] w11).setCell (.inl (by simp)) _) (by simp)) HE0.out (HD.out) (DvAt.put3 B11.out H11.out HQ.out R11.out (fun k hk => (RG.out k hk).2) (fun hm => by have := (RG.out _ hm).1; have := B10.out.lt; omega)) (fun k hk => by rcases List.mem_append.1 hk with h | h; exact .inl h; exact .inr (by have := (RG.out k h).1; have := K10.out.size; omega))
set_option maxHeartbeats 4000000 in
set_option maxRecDepth 100000 in
theorem rApply_3 {w : World} {q : Nat} {G : List Nat} {A1 A2 A3 : Option Addr} {m1 c1 m2 c2 m3 c3 : Nat} {V : VwD} (hb : Blk w q 62 #[.int .i64 V.gen, .slice A1 m1 c1, .slice A2 m2 c2, .slice A3 m3 c3]) (hv : VA w G A1 m1 c1 A2 m2 c2 A3 m3 c3 V) (hq : q ∉ G) (hd : V.drains.length ≤ 16) (hf : V.flows.length ≤ 256) (hs : SrtF V.flows) {G2 : List Nat} {A' : Option Addr} {m' c' : Nat} (r : RecD) (hr : SmallB w G2 A' m' c' r.backs) (hk : r.kind = 3) :
    Calls Tryz.prog 19 #[.pointer (some ⟨q, 0, none⟩), .agg #[.int .i64 r.kind, .int .u32 (r.tup.src.toNat : Nat), .int .u32 (r.tup.dst.toNat : Nat), .int .i64 r.tup.proto, .int .i64 r.tup.sport, .int .i64 r.tup.dport, .int .i64 r.fb, .int .i64 r.fg, .int .i64 r.fs, .int .i64 r.gen, .slice A' m' c', .int .i64 r.back, .int .i64 r.until_, .int .i64 r.count]] w fun e w' => VApPost w q G V r e w' := by
  have HV := Lib.hid hv
  have HB := Lib.hid hb
  have HQ := Lib.hid hq
  have HS := Lib.hid hs
  have HR := Lib.hid hr
  have HL := Lib.hid (And.intro hd hf)
  have hqlt := hb.lt
  have K5 := Lib.hid (show Kept [] w (w.alloc (.cells #[.int .i64 r.kind, .int .u32 (r.tup.src.toNat : Nat), .int .u32 (r.tup.dst.toNat : Nat), .int .i64 r.tup.proto, .int .i64 r.tup.sport, .int .i64 r.tup.dport, .int .i64 r.fb, .int .i64 r.fg, .int .i64 r.fs, .int .i64 r.gen, .slice A' m' c', .int .i64 r.back, .int .i64 r.until_, .int .i64 r.count] 43)) by (repeat (first | exact Kept.refl _ _ | apply Kept.alloc | apply Kept.drew)))
  have X5 := Lib.hid (show Blk (w.alloc (.cells #[.int .i64 r.kind, .int .u32 (r.tup.src.toNat : Nat), .int .u32 (r.tup.dst.toNat : Nat), .int .i64 r.tup.proto, .int .i64 r.tup.sport, .int .i64 r.tup.dport, .int .i64 r.fb, .int .i64 r.fg, .int .i64 r.fs, .int .i64 r.gen, .slice A' m' c', .int .i64 r.back, .int .i64 r.until_, .int .i64 r.count] 43)) w.heap.size 43 #[.int .i64 r.kind, .int .u32 (r.tup.src.toNat : Nat), .int .u32 (r.tup.dst.toNat : Nat), .int .i64 r.tup.proto, .int .i64 r.tup.sport, .int .i64 r.tup.dport, .int .i64 r.fb, .int .i64 r.fg, .int .i64 r.fs, .int .i64 r.gen, .slice A' m' c', .int .i64 r.back, .int .i64 r.until_, .int .i64 r.count] from by (repeat (first | (apply Blk.new'; simp; done) | apply Blk.alloc | apply Blk.drew)))
  have B5 := Lib.hid (hb.kept K5.out (by simp))
  have H5 := Lib.hid (hv.go K5.out)
  have HR5 := Lib.hid (⟨BkArr.kept hr.1 K5.out (by simp), fun k hk => Nat.lt_of_lt_of_le (hr.2.1 k hk) K5.out.size, hr.2.2⟩ : SmallB (w.alloc (.cells #[.int .i64 r.kind, .int .u32 (r.tup.src.toNat : Nat), .int .u32 (r.tup.dst.toNat : Nat), .int .i64 r.tup.proto, .int .i64 r.tup.sport, .int .i64 r.tup.dport, .int .i64 r.fb, .int .i64 r.fg, .int .i64 r.fs, .int .i64 r.gen, .slice A' m' c', .int .i64 r.back, .int .i64 r.until_, .int .i64 r.count] 43)) G2 A' m' c' r.backs)
  clear hb hv hq hs hr hd hf
  have hx5 := X5.out.cell
  have hc5 := B5.out.cell
  have hf5 := B5.out.frozen
  have b1 : (r.kind == 1) = false := by simp [hk]
  have b2 : (r.kind == 2) = false := by simp [hk]
  have b3 : (r.kind == 3) = true := by simp [hk]
  have b4 : (r.kind == 4) = false := by simp [hk]
  have b5 : (r.kind == 5) = false := by simp [hk]
  have b6 : (r.kind == 6) = false := by simp [hk]
  rcases hmb : mayR r with _ | _
  · have HM := Lib.hid hmb
    have HE := Lib.hid (errV_bad (V := V) (bad_may hmb))
    clear hmb hk
    go_enter Tryz.func19, Tryz.ntmps19
    go_wp2_with (go_at_call 27; refine (rMay_any _ r HR5.out).mono ?_; rintro e w6 ⟨rfl, hk6⟩; rw [HM.out]; go_must (have HR6 := Lib.hid (⟨BkArr.kept HR5.out.1 hk6 (by simp), fun k hk => Nat.lt_of_lt_of_le (HR5.out.2.1 k hk) hk6.size, HR5.out.2.2⟩ : SmallB w6 G2 A' m' c' r.backs)); go_must (have B6 := Lib.hid (B5.out.kept hk6 (by simp))); go_must (have H6 := Lib.hid (H5.out.go hk6)); go_must (have K6 := Lib.hid (K5.out.trans hk6 (by simp))); go_must (have X6 := Lib.hid (X5.out.kept hk6 (by simp))); go_must (have hx6 := X6.out.cell); go_must (have hl6 : q < w6.heap.size := B6.out.lt); go_must (have hc6 := B6.out.cell); go_must (have hf6 := B6.out.frozen); clear hk6 hc5 hf5 hx5)
    go_ret
    exact VApPost.bad B6.out H6.out HQ.out K6.out HE.out (by omega)
  have HM := Lib.hid hmb
  clear hmb
  obtain ⟨p, hp, hpk, hp1, hp2⟩ : ∃ p, plainR r = p ∧ p.kind = r.kind ∧ p.gen = r.gen ∧ p.backs = r.backs := ⟨_, rfl, plain_kind r, by simp [plainR, hk], by simp [plainR, hk]⟩
  have HP := Lib.hid hp
  clear hp
  have d1 : (p.kind == 1) = false := by rw [hpk]; exact b1
  have d2 : (p.kind == 2) = false := by rw [hpk]; exact b2
  have d3 : (p.kind == 3) = true := by rw [hpk]; exact b3
  have d4 : (p.kind == 4) = false := by rw [hpk]; exact b4
  have d5 : (p.kind == 5) = false := by rw [hpk]; exact b5
  have HBS := Lib.hid (show badS r = !mayBs r.backs by simp [badS, hk, HM.out])
  have HT := Lib.hid (And.intro hp1 hp2)
  have HE0 := Lib.hid (fun (h : badS r = false) => show errV V r = 0 by unfold errV; rw [if_neg (by rw [h]; simp), if_neg (by omega), if_neg (by omega)])
  have HD := Lib.hid (show doneV V r = { V with gen := r.gen, backs := r.backs } by unfold doneV; rw [if_neg (by omega), if_neg (by omega), if_pos hk])
  clear hk hp1 hp2 hpk
  have HLN := Lib.hid (And.intro HV.out.dr.len.1 HV.out.fl.len.1)
  rcases hmb : mayBs p.backs with _ | _
  · have HMB := Lib.hid hmb
    have HE := Lib.hid (errV_bad (V := V) (show badS r = true by rw [HBS.out, ← HT.out.2, hmb]; rfl))
    clear hmb HE0 HD
    go_enter Tryz.func19, Tryz.ntmps19
    go_wp2_with (first
    | (go_at_call 27; refine (rMay_any _ r HR5.out).mono ?_; rintro e w6 ⟨rfl, hk6⟩; rw [HM.out]; go_must (have HR6 := Lib.hid (⟨BkArr.kept HR5.out.1 hk6 (by simp), fun k hk => Nat.lt_of_lt_of_le (HR5.out.2.1 k hk) hk6.size, HR5.out.2.2⟩ : SmallB w6 G2 A' m' c' r.backs)); go_must (have B6 := Lib.hid (B5.out.kept hk6 (by simp))); go_must (have H6 := Lib.hid (H5.out.go hk6)); go_must (have K6 := Lib.hid (K5.out.trans hk6 (by simp))); go_must (have X6 := Lib.hid (X5.out.kept hk6 (by simp))); go_must (have hx6 := X6.out.cell); go_must (have hl6 : q < w6.heap.size := B6.out.lt); go_must (have hc6 := B6.out.cell); go_must (have hf6 := B6.out.frozen); clear hk6 hc5 hf5 hx5)
    | (go_at_call 43; refine (rPlain_any _ r HR6.out).mono ?_; rintro e w7 ⟨v7, rfl, hv7⟩; go_must (have hk7 := LV.kept hv7); go_must (obtain ⟨A7, m7, c7, rfl⟩ := BkV.form hv7); go_must (have HV7 := Lib.hid hv7); rw [HP.out] at HV7; rw [HP.out]; clear hv7; go_must (have B7 := Lib.hid (B6.out.kept hk7 (by simp))); go_must (have H7 := Lib.hid (H6.out.go hk7)); go_must (have K7 := Lib.hid (K6.out.trans hk7 (by simp))); go_must (have X7 := Lib.hid (X6.out.kept hk7 (by simp))); go_must (have hx7 := X7.out.cell); go_must (have hl7 : q < w7.heap.size := B7.out.lt); go_must (have hc7 := B7.out.cell); go_must (have hf7 := B7.out.frozen); clear hk7 hc6 hf6 hx6)
    | (((with_reducible show wpList _ _ _ ({ dst := none, op := Op.store 43 (.tmp 3) (.tmp 20), type := _, pos := _, after := _, guard := _ } :: _) _ _); refine wpList_put (t := 43) rfl 43 (.tmp 3) (.tmp 20) rfl _ (by rfl) (by rfl) (by exact X7.out) (by rfl) (by kernel_rfl) (by simp [Value.oneCell']) ?_; intro w8 hb8 hk8; have Hb8 := Lib.hid hb8; have Hk8 := Lib.hid hk8; clear hb8 hk8); go_must (have hk8 := (Hk8.out.mono (T := [w.heap.size]) (fun i hi => .inl hi))); go_must (have B8 := Lib.hid (B7.out.kept hk8 (by simp; omega))); go_must (have H8 := Lib.hid (H7.out.kept hk8 (fun k hk hm => by have := HV.out.lt k hk; simp at hm; omega))); go_must (have K8 := Lib.hid (K7.out.trans hk8 (fun i hi => .inr (by simp at hi; omega)))); go_must (have X8 := Hb8); go_must (have hx8 := X8.out.cell); go_must (have hl8 : q < w8.heap.size := B8.out.lt); go_must (have hc8 := B8.out.cell); go_must (have hf8 := B8.out.frozen); go_must (have HV8 := Lib.hid (BkV.carry HV7.out K6.out hk8 (fun k hk => by simp at hk; have h1 := X6.out.lt; have h2 := K6.out.size; omega))); clear hk8 hx7 hc7 hf7)
    | (go_at_call 44; refine (rDrains_any _ (B8.out.alloc (.cells #[.slice A3 m3 c3, .int .i64 256, .int .i64 0] 95))).mono ?_; rintro e w10 ⟨rfl, hd10, hk910⟩; go_must (have hk10 : Kept [] w8 w10 := ((Kept.refl [] w8).alloc (.cells #[.slice A3 m3 c3, .int .i64 256, .int .i64 0] 95)).trans hk910 (by simp)); go_must (have HK810 := Lib.hid hk10); go_must (have F10 := Lib.hid ((Blk.new w8 95 #[.slice A3 m3 c3, .int .i64 256, .int .i64 0]).kept hk910 (by simp))); go_must (have D10 := Lib.hid hd10); rw [show (w8.alloc (.cells #[.slice A3 m3 c3, .int .i64 256, .int .i64 0] 95)).heap.size = w8.heap.size + 1 from by simp] at D10; rw [show (w8.alloc (.cells #[.slice A3 m3 c3, .int .i64 256, .int .i64 0] 95)).heap.size = w8.heap.size + 1 from by simp]; go_must (have hfl10 : w8.heap.size < w10.heap.size := F10.out.lt); go_must (have hdl10 : w8.heap.size + 1 < w10.heap.size := D10.out.lt); go_must (have hfc10 := F10.out.cell); go_must (have hdc10 := D10.out.cell); clear hk910 hd10; go_must (have B10 := Lib.hid (B8.out.kept hk10 (by simp))); go_must (have H10 := Lib.hid (H8.out.go hk10)); go_must (have K10 := Lib.hid (K8.out.trans hk10 (by simp))); go_must (have X10 := Lib.hid (X8.out.kept hk10 (by simp))); go_must (have hx10 := X10.out.cell); go_must (have hl10 : q < w10.heap.size := B10.out.lt); go_must (have hc10 := B10.out.cell); go_must (have hf10 := B10.out.frozen); clear hk10 hc8 hf8 hx8)
    | (go_at_call 47; refine (rMayBs_any _ p.backs (BkArr.kept (lv_row BkOk (fun h => h) HV8.out).1 (Kept.trans (show Kept [] w8 w10 from HK810.out) (Kept.refl [] w10) (by simp)) (by simp))).mono ?_; rintro e w11 ⟨rfl, hkx⟩; rw [show mayBs p.backs = _ from HMB.out]; go_must (have B11 := Lib.hid (B10.out.kept hkx (by simp))); go_must (have H11 := Lib.hid (H10.out.go hkx)); go_must (have K11 := Lib.hid (K10.out.trans hkx (by simp))); go_must (have hl11 : q < w11.heap.size := B11.out.lt); go_must (have hc11 := B11.out.cell); go_must (have hf11 := B11.out.frozen); go_must (have F11 := Lib.hid (F10.out.kept hkx (by simp))); go_must (have D11 := Lib.hid (D10.out.kept hkx (by simp))); go_must (have hfl11 := F11.out.lt); go_must (have hdl11 := D11.out.lt); go_must (have hfc11 := F11.out.cell); go_must (have hdc11 := D11.out.cell); go_must (have X11 := Lib.hid (X10.out.kept hkx (by simp))); go_must (have hx11 := X11.out.cell); clear hkx hc10 hf10 hfc10 hdc10 hx10))
    go_ret
    exact VApPost.bad B11.out H11.out HQ.out K11.out HE.out (by omega)
  have HMB := Lib.hid hmb
  have HE := Lib.hid (HE0.out (show badS r = false by rw [HBS.out, ← HT.out.2, hmb]; rfl))
  clear hmb HE0
  go_enter Tryz.func19, Tryz.ntmps19
  go_wp2_with (first
    | (go_at_call 27; refine (rMay_any _ r HR5.out).mono ?_; rintro e w6 ⟨rfl, hk6⟩; rw [HM.out]; go_must (have HR6 := Lib.hid (⟨BkArr.kept HR5.out.1 hk6 (by simp), fun k hk => Nat.lt_of_lt_of_le (HR5.out.2.1 k hk) hk6.size, HR5.out.2.2⟩ : SmallB w6 G2 A' m' c' r.backs)); go_must (have B6 := Lib.hid (B5.out.kept hk6 (by simp))); go_must (have H6 := Lib.hid (H5.out.go hk6)); go_must (have K6 := Lib.hid (K5.out.trans hk6 (by simp))); go_must (have X6 := Lib.hid (X5.out.kept hk6 (by simp))); go_must (have hx6 := X6.out.cell); go_must (have hl6 : q < w6.heap.size := B6.out.lt); go_must (have hc6 := B6.out.cell); go_must (have hf6 := B6.out.frozen); clear hk6 hc5 hf5 hx5)
    | (go_at_call 43; refine (rPlain_any _ r HR6.out).mono ?_; rintro e w7 ⟨v7, rfl, hv7⟩; go_must (have hk7 := LV.kept hv7); go_must (obtain ⟨A7, m7, c7, rfl⟩ := BkV.form hv7); go_must (have HV7 := Lib.hid hv7); rw [HP.out] at HV7; rw [HP.out]; clear hv7; go_must (have B7 := Lib.hid (B6.out.kept hk7 (by simp))); go_must (have H7 := Lib.hid (H6.out.go hk7)); go_must (have K7 := Lib.hid (K6.out.trans hk7 (by simp))); go_must (have X7 := Lib.hid (X6.out.kept hk7 (by simp))); go_must (have hx7 := X7.out.cell); go_must (have hl7 : q < w7.heap.size := B7.out.lt); go_must (have hc7 := B7.out.cell); go_must (have hf7 := B7.out.frozen); clear hk7 hc6 hf6 hx6)
    | (((with_reducible show wpList _ _ _ ({ dst := none, op := Op.store 43 (.tmp 3) (.tmp 20), type := _, pos := _, after := _, guard := _ } :: _) _ _); refine wpList_put (t := 43) rfl 43 (.tmp 3) (.tmp 20) rfl _ (by rfl) (by rfl) (by exact X7.out) (by rfl) (by kernel_rfl) (by simp [Value.oneCell']) ?_; intro w8 hb8 hk8; have Hb8 := Lib.hid hb8; have Hk8 := Lib.hid hk8; clear hb8 hk8); go_must (have hk8 := (Hk8.out.mono (T := [w.heap.size]) (fun i hi => .inl hi))); go_must (have B8 := Lib.hid (B7.out.kept hk8 (by simp; omega))); go_must (have H8 := Lib.hid (H7.out.kept hk8 (fun k hk hm => by have := HV.out.lt k hk; simp at hm; omega))); go_must (have K8 := Lib.hid (K7.out.trans hk8 (fun i hi => .inr (by simp at hi; omega)))); go_must (have X8 := Hb8); go_must (have hx8 := X8.out.cell); go_must (have hl8 : q < w8.heap.size := B8.out.lt); go_must (have hc8 := B8.out.cell); go_must (have hf8 := B8.out.frozen); go_must (have HV8 := Lib.hid (BkV.carry HV7.out K6.out hk8 (fun k hk => by simp at hk; have h1 := X6.out.lt; have h2 := K6.out.size; omega))); clear hk8 hx7 hc7 hf7)
    | (go_at_call 44; refine (rDrains_any _ (B8.out.alloc (.cells #[.slice A3 m3 c3, .int .i64 256, .int .i64 0] 95))).mono ?_; rintro e w10 ⟨rfl, hd10, hk910⟩; go_must (have hk10 : Kept [] w8 w10 := ((Kept.refl [] w8).alloc (.cells #[.slice A3 m3 c3, .int .i64 256, .int .i64 0] 95)).trans hk910 (by simp)); go_must (have HK810 := Lib.hid hk10); go_must (have F10 := Lib.hid ((Blk.new w8 95 #[.slice A3 m3 c3, .int .i64 256, .int .i64 0]).kept hk910 (by simp))); go_must (have D10 := Lib.hid hd10); rw [show (w8.alloc (.cells #[.slice A3 m3 c3, .int .i64 256, .int .i64 0] 95)).heap.size = w8.heap.size + 1 from by simp] at D10; rw [show (w8.alloc (.cells #[.slice A3 m3 c3, .int .i64 256, .int .i64 0] 95)).heap.size = w8.heap.size + 1 from by simp]; go_must (have hfl10 : w8.heap.size < w10.heap.size := F10.out.lt); go_must (have hdl10 : w8.heap.size + 1 < w10.heap.size := D10.out.lt); go_must (have hfc10 := F10.out.cell); go_must (have hdc10 := D10.out.cell); clear hk910 hd10; go_must (have B10 := Lib.hid (B8.out.kept hk10 (by simp))); go_must (have H10 := Lib.hid (H8.out.go hk10)); go_must (have K10 := Lib.hid (K8.out.trans hk10 (by simp))); go_must (have X10 := Lib.hid (X8.out.kept hk10 (by simp))); go_must (have hx10 := X10.out.cell); go_must (have hl10 : q < w10.heap.size := B10.out.lt); go_must (have hc10 := B10.out.cell); go_must (have hf10 := B10.out.frozen); clear hk10 hc8 hf8 hx8)
    | (go_at_call 47; refine (rMayBs_any _ p.backs (BkArr.kept (lv_row BkOk (fun h => h) HV8.out).1 (Kept.trans (show Kept [] w8 w10 from HK810.out) (Kept.refl [] w10) (by simp)) (by simp))).mono ?_; rintro e w11 ⟨rfl, hkx⟩; go_must (have HK1011 := Lib.hid hkx); rw [show mayBs p.backs = _ from HMB.out]; go_must (have B11 := Lib.hid (B10.out.kept hkx (by simp))); go_must (have H11 := Lib.hid (H10.out.go hkx)); go_must (have K11 := Lib.hid (K10.out.trans hkx (by simp))); go_must (have hl11 : q < w11.heap.size := B11.out.lt); go_must (have hc11 := B11.out.cell); go_must (have hf11 := B11.out.frozen); go_must (have F11 := Lib.hid (F10.out.kept hkx (by simp))); go_must (have D11 := Lib.hid (D10.out.kept hkx (by simp))); go_must (have hfl11 := F11.out.lt); go_must (have hdl11 := D11.out.lt); go_must (have hfc11 := F11.out.cell); go_must (have hdc11 := D11.out.cell); go_must (have X11 := Lib.hid (X10.out.kept hkx (by simp))); go_must (have hx11 := X11.out.cell); clear hkx hc10 hf10 hfc10 hdc10 hx10))
  have hwx : w.heap.size ≠ q := by omega
  have HY := Lib.hid (lv_row BkOk (fun h => h) HV8.out)
  have HK8E := Lib.hid (HK810.out.trans HK1011.out (by simp))
  have P01 : Hid (VApPost w q G V r (.returned (.int .i64 0)) ((w11.setCell ⟨q, 0, none⟩ (.int .i64 p.gen)).setCell ⟨q, 1, none⟩ (.slice A7 m7 c7))) := Lib.hid (by
    have hk01 := ((Kept.refl [q] w11).setCell (p := ⟨q, 0, none⟩) (.inl (by simp)) (.int .i64 p.gen)).setCell (p := ⟨q, 1, none⟩) (.inl (by simp)) (.slice A7 m7 c7)
    refine VApPost.good ((K11.out.mono (T := [q]) (by simp)).trans hk01 (by simp)) HE.out HD.out (DvAt.put1 (A := A7) (m := m7) (c := c7) (G' := rowOf (.slice A7 m7 c7)) H11.out HQ.out ?_ (fun k hk => Nat.lt_of_lt_of_le (HY.out.2 k hk).2 HK8E.out.size) (fun hm => by have := (HY.out.2 _ hm).1; omega) hk01 ?_) (fun k hk => by rcases List.mem_append.1 hk with h | h; exact .inl h; exact .inr (HY.out.2 k h).1)
    · rw [← HT.out.2]; exact BkArr.kept HY.out.1 HK8E.out (by simp)
    · rw [← HT.out.1]; exact blk_set (blk_set B11.out 0 _ rfl) 1 _ (by simp))
  have P10 : Hid (VApPost w q G V r (.returned (.int .i64 0)) ((w11.setCell ⟨q, 1, none⟩ (.slice A7 m7 c7)).setCell ⟨q, 0, none⟩ (.int .i64 p.gen))) := Lib.hid (by
    have hk01 := ((Kept.refl [q] w11).setCell (p := ⟨q, 1, none⟩) (.inl (by simp)) (.slice A7 m7 c7)).setCell (p := ⟨q, 0, none⟩) (.inl (by simp)) (.int .i64 p.gen)
    refine VApPost.good ((K11.out.mono (T := [q]) (by simp)).trans hk01 (by simp)) HE.out HD.out (DvAt.put1 (A := A7) (m := m7) (c := c7) (G' := rowOf (.slice A7 m7 c7)) H11.out HQ.out ?_ (fun k hk => Nat.lt_of_lt_of_le (HY.out.2 k hk).2 HK8E.out.size) (fun hm => by have := (HY.out.2 _ hm).1; omega) hk01 ?_) (fun k hk => by rcases List.mem_append.1 hk with h | h; exact .inl h; exact .inr (HY.out.2 k h).1)
    · rw [← HT.out.2]; exact BkArr.kept HY.out.1 HK8E.out (by simp)
    · rw [← HT.out.1]; exact blk_set (blk_set B11.out 1 _ rfl) 0 _ (by simp))
  go_region
  all_goals
    go_wp2
    go_ret
    show VApPost w q G V r (.returned (.int .i64 0)) _
    with_reducible first
      | exact P01.out.drew
      | exact P10.out.drew
      | exact P01.out
      | exact P10.out
set_option maxHeartbeats 4000000 in
set_option maxRecDepth 100000 in
theorem rApply_4 {w : World} {q : Nat} {G : List Nat} {A1 A2 A3 : Option Addr} {m1 c1 m2 c2 m3 c3 : Nat} {V : VwD} (hb : Blk w q 62 #[.int .i64 V.gen, .slice A1 m1 c1, .slice A2 m2 c2, .slice A3 m3 c3]) (hv : VA w G A1 m1 c1 A2 m2 c2 A3 m3 c3 V) (hq : q ∉ G) (hd : V.drains.length ≤ 16) (hf : V.flows.length ≤ 256) (hs : SrtF V.flows) {G2 : List Nat} {A' : Option Addr} {m' c' : Nat} (r : RecD) (hr : SmallB w G2 A' m' c' r.backs) (hk : r.kind = 4) :
    Calls Tryz.prog 19 #[.pointer (some ⟨q, 0, none⟩), .agg #[.int .i64 r.kind, .int .u32 (r.tup.src.toNat : Nat), .int .u32 (r.tup.dst.toNat : Nat), .int .i64 r.tup.proto, .int .i64 r.tup.sport, .int .i64 r.tup.dport, .int .i64 r.fb, .int .i64 r.fg, .int .i64 r.fs, .int .i64 r.gen, .slice A' m' c', .int .i64 r.back, .int .i64 r.until_, .int .i64 r.count]] w fun e w' => VApPost w q G V r e w' := by
  have HV := Lib.hid hv
  have HB := Lib.hid hb
  have HQ := Lib.hid hq
  have HS := Lib.hid hs
  have HR := Lib.hid hr
  have HL := Lib.hid (And.intro hd hf)
  have hqlt := hb.lt
  have K5 := Lib.hid (show Kept [] w (w.alloc (.cells #[.int .i64 r.kind, .int .u32 (r.tup.src.toNat : Nat), .int .u32 (r.tup.dst.toNat : Nat), .int .i64 r.tup.proto, .int .i64 r.tup.sport, .int .i64 r.tup.dport, .int .i64 r.fb, .int .i64 r.fg, .int .i64 r.fs, .int .i64 r.gen, .slice A' m' c', .int .i64 r.back, .int .i64 r.until_, .int .i64 r.count] 43)) by (repeat (first | exact Kept.refl _ _ | apply Kept.alloc | apply Kept.drew)))
  have X5 := Lib.hid (show Blk (w.alloc (.cells #[.int .i64 r.kind, .int .u32 (r.tup.src.toNat : Nat), .int .u32 (r.tup.dst.toNat : Nat), .int .i64 r.tup.proto, .int .i64 r.tup.sport, .int .i64 r.tup.dport, .int .i64 r.fb, .int .i64 r.fg, .int .i64 r.fs, .int .i64 r.gen, .slice A' m' c', .int .i64 r.back, .int .i64 r.until_, .int .i64 r.count] 43)) w.heap.size 43 #[.int .i64 r.kind, .int .u32 (r.tup.src.toNat : Nat), .int .u32 (r.tup.dst.toNat : Nat), .int .i64 r.tup.proto, .int .i64 r.tup.sport, .int .i64 r.tup.dport, .int .i64 r.fb, .int .i64 r.fg, .int .i64 r.fs, .int .i64 r.gen, .slice A' m' c', .int .i64 r.back, .int .i64 r.until_, .int .i64 r.count] from by (repeat (first | (apply Blk.new'; simp; done) | apply Blk.alloc | apply Blk.drew)))
  have B5 := Lib.hid (hb.kept K5.out (by simp))
  have H5 := Lib.hid (hv.go K5.out)
  have HR5 := Lib.hid (⟨BkArr.kept hr.1 K5.out (by simp), fun k hk => Nat.lt_of_lt_of_le (hr.2.1 k hk) K5.out.size, hr.2.2⟩ : SmallB (w.alloc (.cells #[.int .i64 r.kind, .int .u32 (r.tup.src.toNat : Nat), .int .u32 (r.tup.dst.toNat : Nat), .int .i64 r.tup.proto, .int .i64 r.tup.sport, .int .i64 r.tup.dport, .int .i64 r.fb, .int .i64 r.fg, .int .i64 r.fs, .int .i64 r.gen, .slice A' m' c', .int .i64 r.back, .int .i64 r.until_, .int .i64 r.count] 43)) G2 A' m' c' r.backs)
  clear hb hv hq hs hr hd hf
  have hx5 := X5.out.cell
  have hc5 := B5.out.cell
  have hf5 := B5.out.frozen
  have b1 : (r.kind == 1) = false := by simp [hk]
  have b2 : (r.kind == 2) = false := by simp [hk]
  have b3 : (r.kind == 3) = false := by simp [hk]
  have b4 : (r.kind == 4) = true := by simp [hk]
  have b5 : (r.kind == 5) = false := by simp [hk]
  have b6 : (r.kind == 6) = false := by simp [hk]
  rcases hmb : mayR r with _ | _
  · have HM := Lib.hid hmb
    have HE := Lib.hid (errV_bad (V := V) (bad_may hmb))
    clear hmb hk
    go_enter Tryz.func19, Tryz.ntmps19
    go_wp2_with (go_at_call 27; refine (rMay_any _ r HR5.out).mono ?_; rintro e w6 ⟨rfl, hk6⟩; rw [HM.out]; go_must (have HR6 := Lib.hid (⟨BkArr.kept HR5.out.1 hk6 (by simp), fun k hk => Nat.lt_of_lt_of_le (HR5.out.2.1 k hk) hk6.size, HR5.out.2.2⟩ : SmallB w6 G2 A' m' c' r.backs)); go_must (have B6 := Lib.hid (B5.out.kept hk6 (by simp))); go_must (have H6 := Lib.hid (H5.out.go hk6)); go_must (have K6 := Lib.hid (K5.out.trans hk6 (by simp))); go_must (have X6 := Lib.hid (X5.out.kept hk6 (by simp))); go_must (have hx6 := X6.out.cell); go_must (have hl6 : q < w6.heap.size := B6.out.lt); go_must (have hc6 := B6.out.cell); go_must (have hf6 := B6.out.frozen); clear hk6 hc5 hf5 hx5)
    go_ret
    exact VApPost.bad B6.out H6.out HQ.out K6.out HE.out (by omega)
  have HM := Lib.hid hmb
  clear hmb
  obtain ⟨p, hp, hpk, hp1, hp2⟩ : ∃ p, plainR r = p ∧ p.kind = r.kind ∧ p.back = r.back ∧ p.until_ = r.until_ := ⟨_, rfl, plain_kind r, by simp [plainR, hk], by simp [plainR, hk]⟩
  have HP := Lib.hid hp
  clear hp
  have d1 : (p.kind == 1) = false := by rw [hpk]; exact b1
  have d2 : (p.kind == 2) = false := by rw [hpk]; exact b2
  have d3 : (p.kind == 3) = false := by rw [hpk]; exact b3
  have d4 : (p.kind == 4) = true := by rw [hpk]; exact b4
  have d5 : (p.kind == 5) = false := by rw [hpk]; exact b5
  have HB0 := Lib.hid (bad_not HM.out (by simp [hk]) (by simp [hk]))
  have HT := Lib.hid (And.intro hp1 hp2)
  have HMB := Lib.hid (show (0 ≤ r.back ∧ r.back ≤ 65535) ∧ timeB r.until_ = true by
    have h := HM.out
    unfold mayR inB at h
    simp [hk] at h
    exact h)
  have HE9 := Lib.hid (fun (h : getM V.drains r.back = none ∧ 16 ≤ V.drains.length) => show errV V r = 9 by unfold errV; rw [if_neg (by rw [HB0.out]; simp), if_neg (by omega), if_pos hk, if_pos h])
  have HE0 := Lib.hid (fun (h : ¬ (getM V.drains r.back = none ∧ 16 ≤ V.drains.length)) => show errV V r = 0 by unfold errV; rw [if_neg (by rw [HB0.out]; simp), if_neg (by omega), if_pos hk, if_neg h])
  have HD := Lib.hid (show doneV V r = { V with drains := insD (delM V.drains r.back) r.back r.until_ } by unfold doneV; rw [if_neg (by omega), if_neg (by omega), if_neg (by omega), if_pos hk])
  clear hk hp1 hp2 hpk
  have HLN := Lib.hid (And.intro HV.out.dr.len.1 HV.out.fl.len.1)
  obtain ⟨uu, huu⟩ : ∃ x, (getM V.drains r.back).getD 0 = x := ⟨_, rfl⟩
  obtain ⟨ub, hub⟩ : ∃ x, (getM V.drains r.back).isSome = x := ⟨_, rfl⟩
  have HU := Lib.hid (And.intro huu hub)
  clear huu
  by_cases hfu : getM V.drains r.back = none ∧ 16 ≤ V.drains.length
  · have HE := Lib.hid (HE9.out hfu)
    obtain rfl : ub = false := by rw [← hub, hfu.1]; rfl
    have i16 : (16 : Int) ≤ (m2 : Int) := by have := HLN.out.1; have := hfu.2; omega
    clear hfu HE0 HE9 HD hub
    go_enter Tryz.func19, Tryz.ntmps19
    go_wp2_with (first
    | (go_at_call 27; refine (rMay_any _ r HR5.out).mono ?_; rintro e w6 ⟨rfl, hk6⟩; rw [HM.out]; go_must (have HR6 := Lib.hid (⟨BkArr.kept HR5.out.1 hk6 (by simp), fun k hk => Nat.lt_of_lt_of_le (HR5.out.2.1 k hk) hk6.size, HR5.out.2.2⟩ : SmallB w6 G2 A' m' c' r.backs)); go_must (have B6 := Lib.hid (B5.out.kept hk6 (by simp))); go_must (have H6 := Lib.hid (H5.out.go hk6)); go_must (have K6 := Lib.hid (K5.out.trans hk6 (by simp))); go_must (have X6 := Lib.hid (X5.out.kept hk6 (by simp))); go_must (have hx6 := X6.out.cell); go_must (have hl6 : q < w6.heap.size := B6.out.lt); go_must (have hc6 := B6.out.cell); go_must (have hf6 := B6.out.frozen); clear hk6 hc5 hf5 hx5)
    | (go_at_call 43; refine (rPlain_any _ r HR6.out).mono ?_; rintro e w7 ⟨v7, rfl, hv7⟩; go_must (have hk7 := LV.kept hv7); go_must (obtain ⟨A7, m7, c7, rfl⟩ := BkV.form hv7); go_must (have HV7 := Lib.hid hv7); rw [HP.out] at HV7; rw [HP.out]; clear hv7; go_must (have B7 := Lib.hid (B6.out.kept hk7 (by simp))); go_must (have H7 := Lib.hid (H6.out.go hk7)); go_must (have K7 := Lib.hid (K6.out.trans hk7 (by simp))); go_must (have X7 := Lib.hid (X6.out.kept hk7 (by simp))); go_must (have hx7 := X7.out.cell); go_must (have hl7 : q < w7.heap.size := B7.out.lt); go_must (have hc7 := B7.out.cell); go_must (have hf7 := B7.out.frozen); clear hk7 hc6 hf6 hx6)
    | (((with_reducible show wpList _ _ _ ({ dst := none, op := Op.store 43 (.tmp 3) (.tmp 20), type := _, pos := _, after := _, guard := _ } :: _) _ _); refine wpList_put (t := 43) rfl 43 (.tmp 3) (.tmp 20) rfl _ (by rfl) (by rfl) (by exact X7.out) (by rfl) (by kernel_rfl) (by simp [Value.oneCell']) ?_; intro w8 hb8 hk8; have Hb8 := Lib.hid hb8; have Hk8 := Lib.hid hk8; clear hb8 hk8); go_must (have hk8 := (Hk8.out.mono (T := [w.heap.size]) (fun i hi => .inl hi))); go_must (have B8 := Lib.hid (B7.out.kept hk8 (by simp; omega))); go_must (have H8 := Lib.hid (H7.out.kept hk8 (fun k hk hm => by have := HV.out.lt k hk; simp at hm; omega))); go_must (have K8 := Lib.hid (K7.out.trans hk8 (fun i hi => .inr (by simp at hi; omega)))); go_must (have X8 := Hb8); go_must (have hx8 := X8.out.cell); go_must (have hl8 : q < w8.heap.size := B8.out.lt); go_must (have hc8 := B8.out.cell); go_must (have hf8 := B8.out.frozen); go_must (have HV8 := Lib.hid (BkV.carry HV7.out K6.out hk8 (fun k hk => by simp at hk; have h1 := X6.out.lt; have h2 := K6.out.size; omega))); clear hk8 hx7 hc7 hf7)
    | (go_at_call 44; refine (rDrains_any _ (B8.out.alloc (.cells #[.slice A3 m3 c3, .int .i64 256, .int .i64 0] 95))).mono ?_; rintro e w10 ⟨rfl, hd10, hk910⟩; go_must (have hk10 : Kept [] w8 w10 := ((Kept.refl [] w8).alloc (.cells #[.slice A3 m3 c3, .int .i64 256, .int .i64 0] 95)).trans hk910 (by simp)); go_must (have F10 := Lib.hid ((Blk.new w8 95 #[.slice A3 m3 c3, .int .i64 256, .int .i64 0]).kept hk910 (by simp))); go_must (have D10 := Lib.hid hd10); rw [show (w8.alloc (.cells #[.slice A3 m3 c3, .int .i64 256, .int .i64 0] 95)).heap.size = w8.heap.size + 1 from by simp] at D10; rw [show (w8.alloc (.cells #[.slice A3 m3 c3, .int .i64 256, .int .i64 0] 95)).heap.size = w8.heap.size + 1 from by simp]; go_must (have hfl10 : w8.heap.size < w10.heap.size := F10.out.lt); go_must (have hdl10 : w8.heap.size + 1 < w10.heap.size := D10.out.lt); go_must (have hfc10 := F10.out.cell); go_must (have hdc10 := D10.out.cell); clear hk910 hd10; go_must (have B10 := Lib.hid (B8.out.kept hk10 (by simp))); go_must (have H10 := Lib.hid (H8.out.go hk10)); go_must (have K10 := Lib.hid (K8.out.trans hk10 (by simp))); go_must (have X10 := Lib.hid (X8.out.kept hk10 (by simp))); go_must (have hx10 := X10.out.cell); go_must (have hl10 : q < w10.heap.size := B10.out.lt); go_must (have hc10 := B10.out.cell); go_must (have hf10 := B10.out.frozen); clear hk10 hc8 hf8 hx8)
    | (go_at_call 48; rw [HT.out.1]; refine (Until_any _ (⟨D10.out, H10.out.dr, H10.out.lt, fun hm => by have := HV.out.lt _ hm; have := K8.out.size; omega⟩ : Drs w10 (w8.heap.size + 1) G A2 m2 c2 V.drains) r.back).mono ?_; rintro e w11 ⟨rfl, hkx⟩; rw [HU.out.1, HU.out.2]; go_must (have B11 := Lib.hid (B10.out.kept hkx (by simp))); go_must (have H11 := Lib.hid (H10.out.go hkx)); go_must (have K11 := Lib.hid (K10.out.trans hkx (by simp))); go_must (have hl11 : q < w11.heap.size := B11.out.lt); go_must (have hc11 := B11.out.cell); go_must (have hf11 := B11.out.frozen); go_must (have F11 := Lib.hid (F10.out.kept hkx (by simp))); go_must (have D11 := Lib.hid (D10.out.kept hkx (by simp))); go_must (have hfl11 := F11.out.lt); go_must (have hdl11 := D11.out.lt); go_must (have hfc11 := F11.out.cell); go_must (have hdc11 := D11.out.cell); go_must (have X11 := Lib.hid (X10.out.kept hkx (by simp))); go_must (have hx11 := X11.out.cell); clear hkx hc10 hf10 hfc10 hdc10 hx10))
    go_ret
    exact VApPost.bad B11.out H11.out HQ.out K11.out HE.out (by omega)
  have HE := Lib.hid (HE0.out hfu)
  have hno : ub = true ∨ (ub = false ∧ ¬ (16 : Int) ≤ (m2 : Int)) := by
    cases ub
    · right
      refine ⟨rfl, fun h => hfu ⟨by simpa using hub, ?_⟩⟩
      have := HLN.out.1
      omega
    · exact .inl rfl
  clear hfu HE0 HE9 hub
  rcases hno with rfl | ⟨rfl, i16⟩
  all_goals
    go_enter Tryz.func19, Tryz.ntmps19
    go_wp2_with (first
    | (go_at_call 27; refine (rMay_any _ r HR5.out).mono ?_; rintro e w6 ⟨rfl, hk6⟩; rw [HM.out]; go_must (have HR6 := Lib.hid (⟨BkArr.kept HR5.out.1 hk6 (by simp), fun k hk => Nat.lt_of_lt_of_le (HR5.out.2.1 k hk) hk6.size, HR5.out.2.2⟩ : SmallB w6 G2 A' m' c' r.backs)); go_must (have B6 := Lib.hid (B5.out.kept hk6 (by simp))); go_must (have H6 := Lib.hid (H5.out.go hk6)); go_must (have K6 := Lib.hid (K5.out.trans hk6 (by simp))); go_must (have X6 := Lib.hid (X5.out.kept hk6 (by simp))); go_must (have hx6 := X6.out.cell); go_must (have hl6 : q < w6.heap.size := B6.out.lt); go_must (have hc6 := B6.out.cell); go_must (have hf6 := B6.out.frozen); clear hk6 hc5 hf5 hx5)
    | (go_at_call 43; refine (rPlain_any _ r HR6.out).mono ?_; rintro e w7 ⟨v7, rfl, hv7⟩; go_must (have hk7 := LV.kept hv7); go_must (obtain ⟨A7, m7, c7, rfl⟩ := BkV.form hv7); go_must (have HV7 := Lib.hid hv7); rw [HP.out] at HV7; rw [HP.out]; clear hv7; go_must (have B7 := Lib.hid (B6.out.kept hk7 (by simp))); go_must (have H7 := Lib.hid (H6.out.go hk7)); go_must (have K7 := Lib.hid (K6.out.trans hk7 (by simp))); go_must (have X7 := Lib.hid (X6.out.kept hk7 (by simp))); go_must (have hx7 := X7.out.cell); go_must (have hl7 : q < w7.heap.size := B7.out.lt); go_must (have hc7 := B7.out.cell); go_must (have hf7 := B7.out.frozen); clear hk7 hc6 hf6 hx6)
    | (((with_reducible show wpList _ _ _ ({ dst := none, op := Op.store 43 (.tmp 3) (.tmp 20), type := _, pos := _, after := _, guard := _ } :: _) _ _); refine wpList_put (t := 43) rfl 43 (.tmp 3) (.tmp 20) rfl _ (by rfl) (by rfl) (by exact X7.out) (by rfl) (by kernel_rfl) (by simp [Value.oneCell']) ?_; intro w8 hb8 hk8; have Hb8 := Lib.hid hb8; have Hk8 := Lib.hid hk8; clear hb8 hk8); go_must (have hk8 := (Hk8.out.mono (T := [w.heap.size]) (fun i hi => .inl hi))); go_must (have B8 := Lib.hid (B7.out.kept hk8 (by simp; omega))); go_must (have H8 := Lib.hid (H7.out.kept hk8 (fun k hk hm => by have := HV.out.lt k hk; simp at hm; omega))); go_must (have K8 := Lib.hid (K7.out.trans hk8 (fun i hi => .inr (by simp at hi; omega)))); go_must (have X8 := Hb8); go_must (have hx8 := X8.out.cell); go_must (have hl8 : q < w8.heap.size := B8.out.lt); go_must (have hc8 := B8.out.cell); go_must (have hf8 := B8.out.frozen); go_must (have HV8 := Lib.hid (BkV.carry HV7.out K6.out hk8 (fun k hk => by simp at hk; have h1 := X6.out.lt; have h2 := K6.out.size; omega))); clear hk8 hx7 hc7 hf7)
    | (go_at_call 44; refine (rDrains_any _ (B8.out.alloc (.cells #[.slice A3 m3 c3, .int .i64 256, .int .i64 0] 95))).mono ?_; rintro e w10 ⟨rfl, hd10, hk910⟩; go_must (have hk10 : Kept [] w8 w10 := ((Kept.refl [] w8).alloc (.cells #[.slice A3 m3 c3, .int .i64 256, .int .i64 0] 95)).trans hk910 (by simp)); go_must (have F10 := Lib.hid ((Blk.new w8 95 #[.slice A3 m3 c3, .int .i64 256, .int .i64 0]).kept hk910 (by simp))); go_must (have D10 := Lib.hid hd10); rw [show (w8.alloc (.cells #[.slice A3 m3 c3, .int .i64 256, .int .i64 0] 95)).heap.size = w8.heap.size + 1 from by simp] at D10; rw [show (w8.alloc (.cells #[.slice A3 m3 c3, .int .i64 256, .int .i64 0] 95)).heap.size = w8.heap.size + 1 from by simp]; go_must (have hfl10 : w8.heap.size < w10.heap.size := F10.out.lt); go_must (have hdl10 : w8.heap.size + 1 < w10.heap.size := D10.out.lt); go_must (have hfc10 := F10.out.cell); go_must (have hdc10 := D10.out.cell); clear hk910 hd10; go_must (have B10 := Lib.hid (B8.out.kept hk10 (by simp))); go_must (have H10 := Lib.hid (H8.out.go hk10)); go_must (have K10 := Lib.hid (K8.out.trans hk10 (by simp))); go_must (have X10 := Lib.hid (X8.out.kept hk10 (by simp))); go_must (have hx10 := X10.out.cell); go_must (have hl10 : q < w10.heap.size := B10.out.lt); go_must (have hc10 := B10.out.cell); go_must (have hf10 := B10.out.frozen); clear hk10 hc8 hf8 hx8)
    | (go_at_call 48; rw [HT.out.1]; refine (Until_any _ (⟨D10.out, H10.out.dr, H10.out.lt, fun hm => by have := HV.out.lt _ hm; have := K8.out.size; omega⟩ : Drs w10 (w8.heap.size + 1) G A2 m2 c2 V.drains) r.back).mono ?_; rintro e w11 ⟨rfl, hkx⟩; rw [HU.out.1, HU.out.2]; go_must (have B11 := Lib.hid (B10.out.kept hkx (by simp))); go_must (have H11 := Lib.hid (H10.out.go hkx)); go_must (have K11 := Lib.hid (K10.out.trans hkx (by simp))); go_must (have hl11 : q < w11.heap.size := B11.out.lt); go_must (have hc11 := B11.out.cell); go_must (have hf11 := B11.out.frozen); go_must (have F11 := Lib.hid (F10.out.kept hkx (by simp))); go_must (have D11 := Lib.hid (D10.out.kept hkx (by simp))); go_must (have hfl11 := F11.out.lt); go_must (have hdl11 := D11.out.lt); go_must (have hfc11 := F11.out.cell); go_must (have hdc11 := D11.out.cell); go_must (have X11 := Lib.hid (X10.out.kept hkx (by simp))); go_must (have hx11 := X11.out.cell); clear hkx hc10 hf10 hfc10 hdc10 hx10)
    | (go_at_call 49; rw [HT.out.1, HT.out.2]; refine (DrPut_any _ (⟨D11.out, H11.out.dr, H11.out.lt, fun hm => by have := HV.out.lt _ hm; have := K8.out.size; omega⟩ : Drs w11 (w8.heap.size + 1) G A2 m2 c2 V.drains) r.back r.until_ (by have := HLN.out.1; have := HL.out.1; omega) HMB.out.1.1 HMB.out.1.2 HMB.out.2).mono ?_; rintro e w12 ⟨rfl, hkx, A', m', c', hbf, G', hg1, hg2⟩; go_must (have D12 := Lib.hid hbf); go_must (have hdl12 := D12.out.lt); go_must (have hdc12 := D12.out.cell); go_must (have R12 := Lib.hid hg1); go_must (have RG := Lib.hid hg2); go_must (have B12 := Lib.hid (B11.out.kept hkx (by simp; have := K8.out.size; omega))); go_must (have H12 := Lib.hid (H11.out.kept hkx (fun k hk hm => by have := HV.out.lt k hk; have := K8.out.size; simp at hm; omega))); go_must (have K12 := Lib.hid (K11.out.trans hkx (fun i hi => .inr (by simp at hi; have := K8.out.size; omega)))); go_must (have hl12 : q < w12.heap.size := B12.out.lt); go_must (have hc12 := B12.out.cell); go_must (have hf12 := B12.out.frozen); clear hbf hg1 hg2 hkx hc11 hf11 hfc11 hdc11))
    go_ret
    exact VApPost.good ((K12.out.mono (T := [q]) (by simp)).trans ((Kept.refl [q] w12).setCell (.inl (by simp)) _) (by simp)) HE.out (HD.out) (DvAt.put2 B12.out H12.out HQ.out R12.out (fun k hk => (RG.out k hk).2) (fun hm => by have := (RG.out _ hm).1; have := B11.out.lt; omega)) (fun k hk => by rcases List.mem_append.1 hk with h | h; exact .inl h; exact .inr (by have := (RG.out k h).1; have := K11.out.size; omega))
set_option maxHeartbeats 4000000 in
set_option maxRecDepth 100000 in
theorem rApply_5 {w : World} {q : Nat} {G : List Nat} {A1 A2 A3 : Option Addr} {m1 c1 m2 c2 m3 c3 : Nat} {V : VwD} (hb : Blk w q 62 #[.int .i64 V.gen, .slice A1 m1 c1, .slice A2 m2 c2, .slice A3 m3 c3]) (hv : VA w G A1 m1 c1 A2 m2 c2 A3 m3 c3 V) (hq : q ∉ G) (hd : V.drains.length ≤ 16) (hf : V.flows.length ≤ 256) (hs : SrtF V.flows) {G2 : List Nat} {A' : Option Addr} {m' c' : Nat} (r : RecD) (hr : SmallB w G2 A' m' c' r.backs) (hk : r.kind = 5) :
    Calls Tryz.prog 19 #[.pointer (some ⟨q, 0, none⟩), .agg #[.int .i64 r.kind, .int .u32 (r.tup.src.toNat : Nat), .int .u32 (r.tup.dst.toNat : Nat), .int .i64 r.tup.proto, .int .i64 r.tup.sport, .int .i64 r.tup.dport, .int .i64 r.fb, .int .i64 r.fg, .int .i64 r.fs, .int .i64 r.gen, .slice A' m' c', .int .i64 r.back, .int .i64 r.until_, .int .i64 r.count]] w fun e w' => VApPost w q G V r e w' := by
  have HV := Lib.hid hv
  have HB := Lib.hid hb
  have HQ := Lib.hid hq
  have HS := Lib.hid hs
  have HR := Lib.hid hr
  have HL := Lib.hid (And.intro hd hf)
  have hqlt := hb.lt
  have K5 := Lib.hid (show Kept [] w (w.alloc (.cells #[.int .i64 r.kind, .int .u32 (r.tup.src.toNat : Nat), .int .u32 (r.tup.dst.toNat : Nat), .int .i64 r.tup.proto, .int .i64 r.tup.sport, .int .i64 r.tup.dport, .int .i64 r.fb, .int .i64 r.fg, .int .i64 r.fs, .int .i64 r.gen, .slice A' m' c', .int .i64 r.back, .int .i64 r.until_, .int .i64 r.count] 43)) by (repeat (first | exact Kept.refl _ _ | apply Kept.alloc | apply Kept.drew)))
  have X5 := Lib.hid (show Blk (w.alloc (.cells #[.int .i64 r.kind, .int .u32 (r.tup.src.toNat : Nat), .int .u32 (r.tup.dst.toNat : Nat), .int .i64 r.tup.proto, .int .i64 r.tup.sport, .int .i64 r.tup.dport, .int .i64 r.fb, .int .i64 r.fg, .int .i64 r.fs, .int .i64 r.gen, .slice A' m' c', .int .i64 r.back, .int .i64 r.until_, .int .i64 r.count] 43)) w.heap.size 43 #[.int .i64 r.kind, .int .u32 (r.tup.src.toNat : Nat), .int .u32 (r.tup.dst.toNat : Nat), .int .i64 r.tup.proto, .int .i64 r.tup.sport, .int .i64 r.tup.dport, .int .i64 r.fb, .int .i64 r.fg, .int .i64 r.fs, .int .i64 r.gen, .slice A' m' c', .int .i64 r.back, .int .i64 r.until_, .int .i64 r.count] from by (repeat (first | (apply Blk.new'; simp; done) | apply Blk.alloc | apply Blk.drew)))
  have B5 := Lib.hid (hb.kept K5.out (by simp))
  have H5 := Lib.hid (hv.go K5.out)
  have HR5 := Lib.hid (⟨BkArr.kept hr.1 K5.out (by simp), fun k hk => Nat.lt_of_lt_of_le (hr.2.1 k hk) K5.out.size, hr.2.2⟩ : SmallB (w.alloc (.cells #[.int .i64 r.kind, .int .u32 (r.tup.src.toNat : Nat), .int .u32 (r.tup.dst.toNat : Nat), .int .i64 r.tup.proto, .int .i64 r.tup.sport, .int .i64 r.tup.dport, .int .i64 r.fb, .int .i64 r.fg, .int .i64 r.fs, .int .i64 r.gen, .slice A' m' c', .int .i64 r.back, .int .i64 r.until_, .int .i64 r.count] 43)) G2 A' m' c' r.backs)
  clear hb hv hq hs hr hd hf
  have hx5 := X5.out.cell
  have hc5 := B5.out.cell
  have hf5 := B5.out.frozen
  have b1 : (r.kind == 1) = false := by simp [hk]
  have b2 : (r.kind == 2) = false := by simp [hk]
  have b3 : (r.kind == 3) = false := by simp [hk]
  have b4 : (r.kind == 4) = false := by simp [hk]
  have b5 : (r.kind == 5) = true := by simp [hk]
  have b6 : (r.kind == 6) = false := by simp [hk]
  rcases hmb : mayR r with _ | _
  · have HM := Lib.hid hmb
    have HE := Lib.hid (errV_bad (V := V) (bad_may hmb))
    clear hmb hk
    go_enter Tryz.func19, Tryz.ntmps19
    go_wp2_with (go_at_call 27; refine (rMay_any _ r HR5.out).mono ?_; rintro e w6 ⟨rfl, hk6⟩; rw [HM.out]; go_must (have HR6 := Lib.hid (⟨BkArr.kept HR5.out.1 hk6 (by simp), fun k hk => Nat.lt_of_lt_of_le (HR5.out.2.1 k hk) hk6.size, HR5.out.2.2⟩ : SmallB w6 G2 A' m' c' r.backs)); go_must (have B6 := Lib.hid (B5.out.kept hk6 (by simp))); go_must (have H6 := Lib.hid (H5.out.go hk6)); go_must (have K6 := Lib.hid (K5.out.trans hk6 (by simp))); go_must (have X6 := Lib.hid (X5.out.kept hk6 (by simp))); go_must (have hx6 := X6.out.cell); go_must (have hl6 : q < w6.heap.size := B6.out.lt); go_must (have hc6 := B6.out.cell); go_must (have hf6 := B6.out.frozen); clear hk6 hc5 hf5 hx5)
    go_ret
    exact VApPost.bad B6.out H6.out HQ.out K6.out HE.out (by omega)
  have HM := Lib.hid hmb
  clear hmb
  obtain ⟨p, hp, hpk, hp1⟩ : ∃ p, plainR r = p ∧ p.kind = r.kind ∧ p.back = r.back := ⟨_, rfl, plain_kind r, by simp [plainR, hk]⟩
  have HP := Lib.hid hp
  clear hp
  have d1 : (p.kind == 1) = false := by rw [hpk]; exact b1
  have d2 : (p.kind == 2) = false := by rw [hpk]; exact b2
  have d3 : (p.kind == 3) = false := by rw [hpk]; exact b3
  have d4 : (p.kind == 4) = false := by rw [hpk]; exact b4
  have d5 : (p.kind == 5) = true := by rw [hpk]; exact b5
  have HB0 := Lib.hid (bad_not HM.out (by simp [hk]) (by simp [hk]))
  have HT := Lib.hid hp1
  have HE0 := Lib.hid (show errV V r = 0 by unfold errV; rw [if_neg (by rw [HB0.out]; simp), if_neg (by omega), if_neg (by omega)])
  have HD := Lib.hid (show doneV V r = { V with drains := delM V.drains r.back } by unfold doneV; rw [if_neg (by omega), if_neg (by omega), if_neg (by omega), if_neg (by omega), if_pos hk])
  clear hk hp1 hpk
  have HLN := Lib.hid (And.intro HV.out.dr.len.1 HV.out.fl.len.1)
  go_enter Tryz.func19, Tryz.ntmps19
  go_wp2_with (first
    | (go_at_call 27; refine (rMay_any _ r HR5.out).mono ?_; rintro e w6 ⟨rfl, hk6⟩; rw [HM.out]; go_must (have HR6 := Lib.hid (⟨BkArr.kept HR5.out.1 hk6 (by simp), fun k hk => Nat.lt_of_lt_of_le (HR5.out.2.1 k hk) hk6.size, HR5.out.2.2⟩ : SmallB w6 G2 A' m' c' r.backs)); go_must (have B6 := Lib.hid (B5.out.kept hk6 (by simp))); go_must (have H6 := Lib.hid (H5.out.go hk6)); go_must (have K6 := Lib.hid (K5.out.trans hk6 (by simp))); go_must (have X6 := Lib.hid (X5.out.kept hk6 (by simp))); go_must (have hx6 := X6.out.cell); go_must (have hl6 : q < w6.heap.size := B6.out.lt); go_must (have hc6 := B6.out.cell); go_must (have hf6 := B6.out.frozen); clear hk6 hc5 hf5 hx5)
    | (go_at_call 43; refine (rPlain_any _ r HR6.out).mono ?_; rintro e w7 ⟨v7, rfl, hv7⟩; go_must (have hk7 := LV.kept hv7); go_must (obtain ⟨A7, m7, c7, rfl⟩ := BkV.form hv7); go_must (have HV7 := Lib.hid hv7); rw [HP.out] at HV7; rw [HP.out]; clear hv7; go_must (have B7 := Lib.hid (B6.out.kept hk7 (by simp))); go_must (have H7 := Lib.hid (H6.out.go hk7)); go_must (have K7 := Lib.hid (K6.out.trans hk7 (by simp))); go_must (have X7 := Lib.hid (X6.out.kept hk7 (by simp))); go_must (have hx7 := X7.out.cell); go_must (have hl7 : q < w7.heap.size := B7.out.lt); go_must (have hc7 := B7.out.cell); go_must (have hf7 := B7.out.frozen); clear hk7 hc6 hf6 hx6)
    | (((with_reducible show wpList _ _ _ ({ dst := none, op := Op.store 43 (.tmp 3) (.tmp 20), type := _, pos := _, after := _, guard := _ } :: _) _ _); refine wpList_put (t := 43) rfl 43 (.tmp 3) (.tmp 20) rfl _ (by rfl) (by rfl) (by exact X7.out) (by rfl) (by kernel_rfl) (by simp [Value.oneCell']) ?_; intro w8 hb8 hk8; have Hb8 := Lib.hid hb8; have Hk8 := Lib.hid hk8; clear hb8 hk8); go_must (have hk8 := (Hk8.out.mono (T := [w.heap.size]) (fun i hi => .inl hi))); go_must (have B8 := Lib.hid (B7.out.kept hk8 (by simp; omega))); go_must (have H8 := Lib.hid (H7.out.kept hk8 (fun k hk hm => by have := HV.out.lt k hk; simp at hm; omega))); go_must (have K8 := Lib.hid (K7.out.trans hk8 (fun i hi => .inr (by simp at hi; omega)))); go_must (have X8 := Hb8); go_must (have hx8 := X8.out.cell); go_must (have hl8 : q < w8.heap.size := B8.out.lt); go_must (have hc8 := B8.out.cell); go_must (have hf8 := B8.out.frozen); go_must (have HV8 := Lib.hid (BkV.carry HV7.out K6.out hk8 (fun k hk => by simp at hk; have h1 := X6.out.lt; have h2 := K6.out.size; omega))); clear hk8 hx7 hc7 hf7)
    | (go_at_call 44; refine (rDrains_any _ (B8.out.alloc (.cells #[.slice A3 m3 c3, .int .i64 256, .int .i64 0] 95))).mono ?_; rintro e w10 ⟨rfl, hd10, hk910⟩; go_must (have hk10 : Kept [] w8 w10 := ((Kept.refl [] w8).alloc (.cells #[.slice A3 m3 c3, .int .i64 256, .int .i64 0] 95)).trans hk910 (by simp)); go_must (have F10 := Lib.hid ((Blk.new w8 95 #[.slice A3 m3 c3, .int .i64 256, .int .i64 0]).kept hk910 (by simp))); go_must (have D10 := Lib.hid hd10); rw [show (w8.alloc (.cells #[.slice A3 m3 c3, .int .i64 256, .int .i64 0] 95)).heap.size = w8.heap.size + 1 from by simp] at D10; rw [show (w8.alloc (.cells #[.slice A3 m3 c3, .int .i64 256, .int .i64 0] 95)).heap.size = w8.heap.size + 1 from by simp]; go_must (have hfl10 : w8.heap.size < w10.heap.size := F10.out.lt); go_must (have hdl10 : w8.heap.size + 1 < w10.heap.size := D10.out.lt); go_must (have hfc10 := F10.out.cell); go_must (have hdc10 := D10.out.cell); clear hk910 hd10; go_must (have B10 := Lib.hid (B8.out.kept hk10 (by simp))); go_must (have H10 := Lib.hid (H8.out.go hk10)); go_must (have K10 := Lib.hid (K8.out.trans hk10 (by simp))); go_must (have X10 := Lib.hid (X8.out.kept hk10 (by simp))); go_must (have hx10 := X10.out.cell); go_must (have hl10 : q < w10.heap.size := B10.out.lt); go_must (have hc10 := B10.out.cell); go_must (have hf10 := B10.out.frozen); clear hk10 hc8 hf8 hx8)
    | (go_at_call 50; rw [HT.out]; refine (Clear_any _ (⟨D10.out, H10.out.dr, H10.out.lt, fun hm => by have := HV.out.lt _ hm; have := K8.out.size; omega⟩ : Drs w10 (w8.heap.size + 1) G A2 m2 c2 V.drains) r.back (by have := HLN.out.1; have := HL.out.1; omega)).mono ?_; rintro e w11 ⟨⟨tb, rfl⟩, hkx, A', m', c', hbf, G', hg1, hg2⟩; go_must (have D11 := Lib.hid hbf); go_must (have hdl11 := D11.out.lt); go_must (have hdc11 := D11.out.cell); go_must (have R11 := Lib.hid hg1); go_must (have RG := Lib.hid hg2); clear hbf hg1 hg2; go_must (have B11 := Lib.hid (B10.out.kept hkx (by simp; have := K8.out.size; omega))); go_must (have H11 := Lib.hid (H10.out.kept hkx (fun k hk hm => by have := HV.out.lt k hk; have := K8.out.size; simp at hm; omega))); go_must (have K11 := Lib.hid (K10.out.trans hkx (fun i hi => .inr (by simp at hi; have := K8.out.size; omega)))); go_must (have hl11 : q < w11.heap.size := B11.out.lt); go_must (have hc11 := B11.out.cell); go_must (have hf11 := B11.out.frozen); clear hkx hc10 hf10 hfc10 hdc10))
  go_ret
  exact VApPost.good ((K11.out.mono (T := [q]) (by simp)).trans ((Kept.refl [q] w11).setCell (.inl (by simp)) _) (by simp)) HE0.out (HD.out) (DvAt.put2 B11.out H11.out HQ.out R11.out (fun k hk => (RG.out k hk).2) (fun hm => by have := (RG.out _ hm).1; have := B10.out.lt; omega)) (fun k hk => by rcases List.mem_append.1 hk with h | h; exact .inl h; exact .inr (by have := (RG.out k h).1; have := K10.out.size; omega))
set_option maxHeartbeats 4000000 in
set_option maxRecDepth 100000 in
theorem rApply_6 {w : World} {q : Nat} {G : List Nat} {A1 A2 A3 : Option Addr} {m1 c1 m2 c2 m3 c3 : Nat} {V : VwD} (hb : Blk w q 62 #[.int .i64 V.gen, .slice A1 m1 c1, .slice A2 m2 c2, .slice A3 m3 c3]) (hv : VA w G A1 m1 c1 A2 m2 c2 A3 m3 c3 V) (hq : q ∉ G) (hd : V.drains.length ≤ 16) (hf : V.flows.length ≤ 256) (hs : SrtF V.flows) {G2 : List Nat} {A' : Option Addr} {m' c' : Nat} (r : RecD) (hr : SmallB w G2 A' m' c' r.backs) (hk : r.kind = 6) :
    Calls Tryz.prog 19 #[.pointer (some ⟨q, 0, none⟩), .agg #[.int .i64 r.kind, .int .u32 (r.tup.src.toNat : Nat), .int .u32 (r.tup.dst.toNat : Nat), .int .i64 r.tup.proto, .int .i64 r.tup.sport, .int .i64 r.tup.dport, .int .i64 r.fb, .int .i64 r.fg, .int .i64 r.fs, .int .i64 r.gen, .slice A' m' c', .int .i64 r.back, .int .i64 r.until_, .int .i64 r.count]] w fun e w' => VApPost w q G V r e w' := by
  have HV := Lib.hid hv
  have HB := Lib.hid hb
  have HQ := Lib.hid hq
  have HS := Lib.hid hs
  have HR := Lib.hid hr
  have HL := Lib.hid (And.intro hd hf)
  have hqlt := hb.lt
  have K5 := Lib.hid (show Kept [] w (w.alloc (.cells #[.int .i64 r.kind, .int .u32 (r.tup.src.toNat : Nat), .int .u32 (r.tup.dst.toNat : Nat), .int .i64 r.tup.proto, .int .i64 r.tup.sport, .int .i64 r.tup.dport, .int .i64 r.fb, .int .i64 r.fg, .int .i64 r.fs, .int .i64 r.gen, .slice A' m' c', .int .i64 r.back, .int .i64 r.until_, .int .i64 r.count] 43)) by (repeat (first | exact Kept.refl _ _ | apply Kept.alloc | apply Kept.drew)))
  have X5 := Lib.hid (show Blk (w.alloc (.cells #[.int .i64 r.kind, .int .u32 (r.tup.src.toNat : Nat), .int .u32 (r.tup.dst.toNat : Nat), .int .i64 r.tup.proto, .int .i64 r.tup.sport, .int .i64 r.tup.dport, .int .i64 r.fb, .int .i64 r.fg, .int .i64 r.fs, .int .i64 r.gen, .slice A' m' c', .int .i64 r.back, .int .i64 r.until_, .int .i64 r.count] 43)) w.heap.size 43 #[.int .i64 r.kind, .int .u32 (r.tup.src.toNat : Nat), .int .u32 (r.tup.dst.toNat : Nat), .int .i64 r.tup.proto, .int .i64 r.tup.sport, .int .i64 r.tup.dport, .int .i64 r.fb, .int .i64 r.fg, .int .i64 r.fs, .int .i64 r.gen, .slice A' m' c', .int .i64 r.back, .int .i64 r.until_, .int .i64 r.count] from by (repeat (first | (apply Blk.new'; simp; done) | apply Blk.alloc | apply Blk.drew)))
  have B5 := Lib.hid (hb.kept K5.out (by simp))
  have H5 := Lib.hid (hv.go K5.out)
  have HR5 := Lib.hid (⟨BkArr.kept hr.1 K5.out (by simp), fun k hk => Nat.lt_of_lt_of_le (hr.2.1 k hk) K5.out.size, hr.2.2⟩ : SmallB (w.alloc (.cells #[.int .i64 r.kind, .int .u32 (r.tup.src.toNat : Nat), .int .u32 (r.tup.dst.toNat : Nat), .int .i64 r.tup.proto, .int .i64 r.tup.sport, .int .i64 r.tup.dport, .int .i64 r.fb, .int .i64 r.fg, .int .i64 r.fs, .int .i64 r.gen, .slice A' m' c', .int .i64 r.back, .int .i64 r.until_, .int .i64 r.count] 43)) G2 A' m' c' r.backs)
  clear hb hv hq hs hr hd hf
  have hx5 := X5.out.cell
  have hc5 := B5.out.cell
  have hf5 := B5.out.frozen
  have b1 : (r.kind == 1) = false := by simp [hk]
  have b2 : (r.kind == 2) = false := by simp [hk]
  have b3 : (r.kind == 3) = false := by simp [hk]
  have b4 : (r.kind == 4) = false := by simp [hk]
  have b5 : (r.kind == 5) = false := by simp [hk]
  have b6 : (r.kind == 6) = true := by simp [hk]
  rcases hmb : mayR r with _ | _
  · have HM := Lib.hid hmb
    have HE := Lib.hid (errV_bad (V := V) (bad_may hmb))
    clear hmb hk
    go_enter Tryz.func19, Tryz.ntmps19
    go_wp2_with (go_at_call 27; refine (rMay_any _ r HR5.out).mono ?_; rintro e w6 ⟨rfl, hk6⟩; rw [HM.out]; go_must (have HR6 := Lib.hid (⟨BkArr.kept HR5.out.1 hk6 (by simp), fun k hk => Nat.lt_of_lt_of_le (HR5.out.2.1 k hk) hk6.size, HR5.out.2.2⟩ : SmallB w6 G2 A' m' c' r.backs)); go_must (have B6 := Lib.hid (B5.out.kept hk6 (by simp))); go_must (have H6 := Lib.hid (H5.out.go hk6)); go_must (have K6 := Lib.hid (K5.out.trans hk6 (by simp))); go_must (have X6 := Lib.hid (X5.out.kept hk6 (by simp))); go_must (have hx6 := X6.out.cell); go_must (have hl6 : q < w6.heap.size := B6.out.lt); go_must (have hc6 := B6.out.cell); go_must (have hf6 := B6.out.frozen); clear hk6 hc5 hf5 hx5)
    go_ret
    exact VApPost.bad B6.out H6.out HQ.out K6.out HE.out (by omega)
  have HM := Lib.hid hmb
  have HE := Lib.hid (errV_bad (V := V) (show badS r = true by simp [badS, hk]))
  clear hmb hk
  go_enter Tryz.func19, Tryz.ntmps19
  go_wp2_with (go_at_call 27; refine (rMay_any _ r HR5.out).mono ?_; rintro e w6 ⟨rfl, hk6⟩; rw [HM.out]; go_must (have HR6 := Lib.hid (⟨BkArr.kept HR5.out.1 hk6 (by simp), fun k hk => Nat.lt_of_lt_of_le (HR5.out.2.1 k hk) hk6.size, HR5.out.2.2⟩ : SmallB w6 G2 A' m' c' r.backs)); go_must (have B6 := Lib.hid (B5.out.kept hk6 (by simp))); go_must (have H6 := Lib.hid (H5.out.go hk6)); go_must (have K6 := Lib.hid (K5.out.trans hk6 (by simp))); go_must (have X6 := Lib.hid (X5.out.kept hk6 (by simp))); go_must (have hx6 := X6.out.cell); go_must (have hl6 : q < w6.heap.size := B6.out.lt); go_must (have hc6 := B6.out.cell); go_must (have hf6 := B6.out.frozen); clear hk6 hc5 hf5 hx5)
  go_ret
  exact VApPost.bad B6.out H6.out HQ.out K6.out HE.out (by omega)
set_option maxHeartbeats 4000000 in
set_option maxRecDepth 100000 in
theorem rApply_o {w : World} {q : Nat} {G : List Nat} {A1 A2 A3 : Option Addr} {m1 c1 m2 c2 m3 c3 : Nat} {V : VwD} (hb : Blk w q 62 #[.int .i64 V.gen, .slice A1 m1 c1, .slice A2 m2 c2, .slice A3 m3 c3]) (hv : VA w G A1 m1 c1 A2 m2 c2 A3 m3 c3 V) (hq : q ∉ G) (hd : V.drains.length ≤ 16) (hf : V.flows.length ≤ 256) (hs : SrtF V.flows) {G2 : List Nat} {A' : Option Addr} {m' c' : Nat} (r : RecD) (hr : SmallB w G2 A' m' c' r.backs) (h1 : r.kind ≠ 1) (h2 : r.kind ≠ 2) (h3 : r.kind ≠ 3) (h4 : r.kind ≠ 4) (h5 : r.kind ≠ 5) (h6 : r.kind ≠ 6) :
    Calls Tryz.prog 19 #[.pointer (some ⟨q, 0, none⟩), .agg #[.int .i64 r.kind, .int .u32 (r.tup.src.toNat : Nat), .int .u32 (r.tup.dst.toNat : Nat), .int .i64 r.tup.proto, .int .i64 r.tup.sport, .int .i64 r.tup.dport, .int .i64 r.fb, .int .i64 r.fg, .int .i64 r.fs, .int .i64 r.gen, .slice A' m' c', .int .i64 r.back, .int .i64 r.until_, .int .i64 r.count]] w fun e w' => VApPost w q G V r e w' := by
  have HV := Lib.hid hv
  have HB := Lib.hid hb
  have HQ := Lib.hid hq
  have HS := Lib.hid hs
  have HR := Lib.hid hr
  have HL := Lib.hid (And.intro hd hf)
  have hqlt := hb.lt
  have K5 := Lib.hid (show Kept [] w (w.alloc (.cells #[.int .i64 r.kind, .int .u32 (r.tup.src.toNat : Nat), .int .u32 (r.tup.dst.toNat : Nat), .int .i64 r.tup.proto, .int .i64 r.tup.sport, .int .i64 r.tup.dport, .int .i64 r.fb, .int .i64 r.fg, .int .i64 r.fs, .int .i64 r.gen, .slice A' m' c', .int .i64 r.back, .int .i64 r.until_, .int .i64 r.count] 43)) by (repeat (first | exact Kept.refl _ _ | apply Kept.alloc | apply Kept.drew)))
  have X5 := Lib.hid (show Blk (w.alloc (.cells #[.int .i64 r.kind, .int .u32 (r.tup.src.toNat : Nat), .int .u32 (r.tup.dst.toNat : Nat), .int .i64 r.tup.proto, .int .i64 r.tup.sport, .int .i64 r.tup.dport, .int .i64 r.fb, .int .i64 r.fg, .int .i64 r.fs, .int .i64 r.gen, .slice A' m' c', .int .i64 r.back, .int .i64 r.until_, .int .i64 r.count] 43)) w.heap.size 43 #[.int .i64 r.kind, .int .u32 (r.tup.src.toNat : Nat), .int .u32 (r.tup.dst.toNat : Nat), .int .i64 r.tup.proto, .int .i64 r.tup.sport, .int .i64 r.tup.dport, .int .i64 r.fb, .int .i64 r.fg, .int .i64 r.fs, .int .i64 r.gen, .slice A' m' c', .int .i64 r.back, .int .i64 r.until_, .int .i64 r.count] from by (repeat (first | (apply Blk.new'; simp; done) | apply Blk.alloc | apply Blk.drew)))
  have B5 := Lib.hid (hb.kept K5.out (by simp))
  have H5 := Lib.hid (hv.go K5.out)
  have HR5 := Lib.hid (⟨BkArr.kept hr.1 K5.out (by simp), fun k hk => Nat.lt_of_lt_of_le (hr.2.1 k hk) K5.out.size, hr.2.2⟩ : SmallB (w.alloc (.cells #[.int .i64 r.kind, .int .u32 (r.tup.src.toNat : Nat), .int .u32 (r.tup.dst.toNat : Nat), .int .i64 r.tup.proto, .int .i64 r.tup.sport, .int .i64 r.tup.dport, .int .i64 r.fb, .int .i64 r.fg, .int .i64 r.fs, .int .i64 r.gen, .slice A' m' c', .int .i64 r.back, .int .i64 r.until_, .int .i64 r.count] 43)) G2 A' m' c' r.backs)
  clear hb hv hq hs hr hd hf
  have hx5 := X5.out.cell
  have hc5 := B5.out.cell
  have hf5 := B5.out.frozen
  have b1 : (r.kind == 1) = false := by simp [h1]
  have b2 : (r.kind == 2) = false := by simp [h2]
  have b3 : (r.kind == 3) = false := by simp [h3]
  have b4 : (r.kind == 4) = false := by simp [h4]
  have b5 : (r.kind == 5) = false := by simp [h5]
  have b6 : (r.kind == 6) = false := by simp [h6]
  rcases hmb : mayR r with _ | _
  · have HM := Lib.hid hmb
    have HE := Lib.hid (errV_bad (V := V) (bad_may hmb))
    clear hmb h1 h2 h3 h4 h5 h6
    go_enter Tryz.func19, Tryz.ntmps19
    go_wp2_with (go_at_call 27; refine (rMay_any _ r HR5.out).mono ?_; rintro e w6 ⟨rfl, hk6⟩; rw [HM.out]; go_must (have HR6 := Lib.hid (⟨BkArr.kept HR5.out.1 hk6 (by simp), fun k hk => Nat.lt_of_lt_of_le (HR5.out.2.1 k hk) hk6.size, HR5.out.2.2⟩ : SmallB w6 G2 A' m' c' r.backs)); go_must (have B6 := Lib.hid (B5.out.kept hk6 (by simp))); go_must (have H6 := Lib.hid (H5.out.go hk6)); go_must (have K6 := Lib.hid (K5.out.trans hk6 (by simp))); go_must (have X6 := Lib.hid (X5.out.kept hk6 (by simp))); go_must (have hx6 := X6.out.cell); go_must (have hl6 : q < w6.heap.size := B6.out.lt); go_must (have hc6 := B6.out.cell); go_must (have hf6 := B6.out.frozen); clear hk6 hc5 hf5 hx5)
    go_ret
    exact VApPost.bad B6.out H6.out HQ.out K6.out HE.out (by omega)
  have := may_kind hmb
  omega
theorem rApply_any {w : World} {q : Nat} {G : List Nat} {V : VwD} (h : DvAt w q G V) (hd : V.drains.length ≤ 16) (hf : V.flows.length ≤ 256) (hs : SrtF V.flows) {G2 : List Nat} {A' : Option Addr} {m' c' : Nat} (r : RecD) (hr : SmallB w G2 A' m' c' r.backs) :
    Calls Tryz.prog 19 #[.pointer (some ⟨q, 0, none⟩), .agg #[.int .i64 r.kind, .int .u32 (r.tup.src.toNat : Nat), .int .u32 (r.tup.dst.toNat : Nat), .int .i64 r.tup.proto, .int .i64 r.tup.sport, .int .i64 r.tup.dport, .int .i64 r.fb, .int .i64 r.fg, .int .i64 r.fs, .int .i64 r.gen, .slice A' m' c', .int .i64 r.back, .int .i64 r.until_, .int .i64 r.count]] w fun e w' => VApPost w q G V r e w' := by
  obtain ⟨A1, m1, c1, A2, m2, c2, A3, m3, c3, hb, hv, hq⟩ := h
  by_cases h1 : r.kind = 1
  · exact rApply_1 hb hv hq hd hf hs r hr h1
  by_cases h2 : r.kind = 2
  · exact rApply_2 hb hv hq hd hf hs r hr h2
  by_cases h3 : r.kind = 3
  · exact rApply_3 hb hv hq hd hf hs r hr h3
  by_cases h4 : r.kind = 4
  · exact rApply_4 hb hv hq hd hf hs r hr h4
  by_cases h5 : r.kind = 5
  · exact rApply_5 hb hv hq hd hf hs r hr h5
  by_cases h6 : r.kind = 6
  · exact rApply_6 hb hv hq hd hf hs r hr h6
  exact rApply_o hb hv hq hd hf hs r hr h1 h2 h3 h4 h5 h6
end
end Go.Proofs.YtkacghjglicjiaaGreat
