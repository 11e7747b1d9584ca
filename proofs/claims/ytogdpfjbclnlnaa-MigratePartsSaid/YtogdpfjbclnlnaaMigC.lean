
/-
  The contracts of migrate.Frame, of the reference's MigrateFrame; the known record of layer 9.
-/
import Derived.Test.YtogdpfjbclnlnaaMigB
import Derived.Test.YtogdpfjbclnlnaaRecL
import Derived.Test.YtogdpfjbclnlnaaRecT
import Derived.Test.YtogdpfjbclnlnaaLawQ0
namespace Go.Proofs.Ytogdpfjbclnlnaa
open Go.RowKit Go.ChangeShapes Go.WideShapes Go.Deep
set_option linter.unusedVariables false

set_option maxHeartbeats 800000 in
theorem light9_any (w : World) {G : List Nat} {A : Option Addr} {m c : Nat} (r : RecD) (h : BkArr w G (.slice A m c) r.backs) :
    Calls Try.prog 19 #[.agg #[.int .i64 r.kind, .int .u32 (r.tup.src.toNat : Nat), .int .u32 (r.tup.dst.toNat : Nat), .int .i64 r.tup.proto, .int .i64 r.tup.sport, .int .i64 r.tup.dport, .int .i64 r.fb, .int .i64 r.fg, .int .i64 r.fs, .int .i64 r.gen, .slice A m c, .int .i64 r.back, .int .i64 r.until_, .int .i64 r.count]] w fun e w' => e = .returned (.bool (decide (m ≤ 40))) ∧ Kept [] w w' := by
  have hl := h.len.2.1
  have hl2 := h.len.2.2.1
  unfold maxLen at hl2
  clear h
  by_cases h40 : m ≤ 40
  all_goals
    have hd : decide ((m : Int) ≤ 40) = decide (m ≤ 40) := by rw [decide_eq_decide]; omega
    go_enter Try.func19, Try.ntmps19
    go_wp2
    go_ret
    exact ⟨ret_bool (by first | rfl | (rw [Bool.eq_iff_iff]; simp; omega)), (Kept.refl _ _).alloc _⟩
set_option maxHeartbeats 1600000 in
set_option maxRecDepth 100000 in
theorem awake9_any (w : World) : Calls Try.prog 20 #[] w fun e w' => e = .returned (.bool true) ∧ Kept [] w w' := by
  have hs : SmallB w [] none 0 0 (({ (default : RecD) with kind := 1, tup := ⟨0, 0, 6, 0, 0⟩, fg := 7, fs := 9 } : RecD).backs) := ⟨⟨none, 0, 0, rfl, rfl, by omega, by unfold maxLen; omega, by simp, fun h => absurd rfl h⟩, by simp, by omega⟩
  have h1 : migE { (default : RecD) with kind := 1, tup := ⟨0, 0, 6, 0, 0⟩, fg := 7, fs := 9 } 1 3 = 0 := by decide
  obtain ⟨y, hy⟩ : ∃ y, migR { (default : RecD) with kind := 1, tup := ⟨0, 0, 6, 0, 0⟩, fg := 7, fs := 9 } 1 3 = y := ⟨_, rfl⟩
  have y1 : (y.fg == 1) = true := by rw [← hy]; decide
  have y2 : (y.fs == 0) = true := by rw [← hy]; decide
  have hst : stepsN 1 3 = 2 := by decide
  have HST := Lib.hid hst
  have Hs := Lib.hid hs
  have H1 := Lib.hid h1
  have HY := Lib.hid hy
  clear hs h1 hy hst
  go_enter Try.func20, Try.ntmps20
  go_wp2_with fail
  refine (mRecord_any w { (default : RecD) with kind := 1, tup := ⟨0, 0, 6, 0, 0⟩, fg := 7, fs := 9 } 1 3 Hs.out).mono ?_
  rintro e w1 ⟨sl, rfl, hn⟩
  rw [H1.out, HY.out]
  have hk := LV.kept hn
  obtain ⟨A3, m3, c3, rfl⟩ := BkV.form hn
  have K := Lib.hid hk
  clear hn hk
  go_wp2_with (first
    | (with_reducible show wpList _ _ _ ({ dst := none, op := Op.store 29 (.tmp 1) (.tmp 8), type := _, pos := _, after := _, guard := _ } :: _) _ _
       go_must (refine wpList_put (t := 29) rfl 29 (.tmp 1) (.tmp 8) rfl _ (by rfl) (by rfl) (by (repeat (first | (apply Blk.new'; simp; done) | apply Blk.alloc | apply Blk.drew))) (by rfl) (by kernel_rfl) (by simp [Value.oneCell']) ?_)
       go_must (intro w3 h1 k1)
       go_must (have hcx := Blk.cell h1)
       go_must (have K := Lib.hid ((K.out.alloc _).trans k1 (fun i hi => .inr (by simp at hi; have := K.out.size; omega))))
       go_must (clear h1 k1))
    | (go_at_call 24
       go_must (refine (Steps_any _ 1 3).mono ?_)
       go_must (rintro e w' ⟨rfl, rfl⟩)
       go_must (rw [HST.out])))
  go_ret
  exact ⟨rfl, K.out⟩

def mfE (f : FrameD) (b : Int) : Int := if decE f = 0 then (if waysB f.ver b = true then encE (migP (inR (decR f) f.ver) f.ver b) b else 10) else decE f
def mfF (f : FrameD) (b : Int) : FrameD := if decE f = 0 ∧ waysB f.ver b = true then encF (migP (inR (decR f) f.ver) f.ver b) b else default
theorem in_backs (r : RecD) (v : Int) : (inR r v).backs.length ≤ r.backs.length := by
  have hp : (plainR r).backs.length ≤ r.backs.length := by
    unfold plainR
    repeat' split
    all_goals simp [default]
  unfold inR
  split
  · simp [default]
  · dsimp only; split
    · simpa using hp
    · exact hp
theorem mig_backs (p : RecD) (a b : Int) : (migP p a b).backs = p.backs := by unfold migP; split <;> rfl
set_option maxHeartbeats 6400000 in
set_option maxRecDepth 100000 in
theorem mFrame_any (w : World) {G : List Nat} {A : Option Addr} {m c : Nat} (f : FrameD) (b : Int) (h : RdB w G (.slice A m c) f.body) (hG : ∀ k ∈ G, k < w.heap.size) (hm : m ≤ 1000000) :
    Calls Try.prog 35 #[.agg #[.int .i64 f.kind, .int .i64 f.ver, .slice A m c], .int .i64 b] w fun e w' => ∃ sl, e = .returned (.tuple #[.agg #[.int .i64 (mfF f b).kind, .int .i64 (mfF f b).ver, sl], .int .i64 (mfE f b)]) ∧ NB w w' sl (mfF f b).body := by
  have hk0 : Kept [] w ((w.alloc (.cells #[.int .i64 f.kind, .int .i64 f.ver, .slice A m c] 34)).alloc (.cells #[.int .i64 0, .int .i64 0, .slice none 0 0] 34)) := by (repeat (first | exact Kept.refl _ _ | apply Kept.alloc | apply Kept.drew))
  have P := Lib.hid (show Blk ((w.alloc (.cells #[.int .i64 f.kind, .int .i64 f.ver, .slice A m c] 34)).alloc (.cells #[.int .i64 0, .int .i64 0, .slice none 0 0] 34)) w.heap.size 34 #[.int .i64 f.kind, .int .i64 f.ver, .slice A m c] from by (repeat (first | (apply Blk.new'; simp; done) | apply Blk.alloc | apply Blk.drew)))
  have B := Lib.hid (show Blk ((w.alloc (.cells #[.int .i64 f.kind, .int .i64 f.ver, .slice A m c] 34)).alloc (.cells #[.int .i64 0, .int .i64 0, .slice none 0 0] 34)) (w.heap.size + 1) 34 #[.int .i64 0, .int .i64 0, .slice none 0 0] from by (repeat (first | (apply Blk.new'; simp; done) | apply Blk.alloc | apply Blk.drew)))
  have K := Lib.hid hk0
  have H := Lib.hid (h.kept hk0 (by simp))
  have HG := Lib.hid (fun k hk => Nat.lt_of_lt_of_le (hG k hk) hk0.size)
  clear h hG hk0
  obtain ⟨x, hx⟩ : ∃ x, decR f = x := ⟨_, rfl⟩
  obtain ⟨en, hen⟩ : ∃ e, decE f = e := ⟨_, rfl⟩
  have hb17 : x.backs.length ≤ 17 := by rw [← hx]; exact decR_backs f
  have hback := back_dec (f := f)
  rw [hx, hen] at hback
  have HB := Lib.hid hb17
  have HBK := Lib.hid hback
  have EX := Lib.hid hx
  have EE := Lib.hid hen
  have HFE := Lib.hid (show mfE f b = if en = 0 then (if waysB f.ver b = true then encE (migP (inR x f.ver) f.ver b) b else 10) else en by unfold mfE; rw [hx, hen])
  have HFF := Lib.hid (show mfF f b = if en = 0 ∧ waysB f.ver b = true then encF (migP (inR x f.ver) f.ver b) b else default by unfold mfF; rw [hx, hen])
  clear hx hen hb17 hback
  by_cases h0 : en = 0
  · have e0 : (en == 0) = true := by simp [h0]
    obtain ⟨hv, hm1, -, -⟩ := HBK.out h0
    have HFE := Lib.hid (show mfE f b = _ by rw [HFE.out, if_pos h0])
    cases hw : waysB f.ver b
    · have HE := Lib.hid (show mfE f b = 10 by rw [HFE.out, hw]; rfl)
      have HF := Lib.hid (show mfF f b = default by rw [HFF.out, if_neg (by simp [hw])])
      clear h0 hv hm1
      go_enter Try.func35, Try.ntmps35
      go_wp2_with (first
        | (go_at_call 33
           go_must (refine (Decode_any _ f H.out hm).mono ?_)
           go_must (rintro e w1 ⟨sl, rfl, hS⟩)
           go_must (rw [EX.out] at hS ⊢)
           go_must (rw [EE.out])
           go_must (have hkn := LV.kept hS)
           go_must (have S := Lib.hid (LV.wide hS K.out))
           go_must (obtain ⟨A3, m3, c3, rfl⟩ := BkV.form S.out)
           go_must (clear hS)
           go_must (have P := Lib.hid (P.out.kept hkn (by simp)))
           go_must (have B := Lib.hid (B.out.kept hkn (by simp)))
           go_must (have K := Lib.hid (K.out.trans hkn (by simp)))
           go_must (have hlb := B.out.lt)
           go_must (clear hkn))
        | (with_reducible show wpList _ _ _ ({ dst := none, op := Op.store 29 (.tmp 6) (.tmp 11), type := _, pos := _, after := _, guard := _ } :: _) _ _
           go_must (refine wpList_put (t := 29) rfl 29 (.tmp 6) (.tmp 11) rfl _ (by rfl) (by rfl) (by (repeat (first | (apply Blk.new'; simp; done) | apply Blk.alloc | apply Blk.drew))) (by rfl) (by kernel_rfl) (by simp [Value.oneCell']) ?_)
           go_must (intro w2 h1 k1)
           go_must (have X := Lib.hid (show Blk w2 w1.heap.size 29 #[.int .i64 x.kind, .int .u32 (x.tup.src.toNat : Nat), .int .u32 (x.tup.dst.toNat : Nat), .int .i64 x.tup.proto, .int .i64 x.tup.sport, .int .i64 x.tup.dport, .int .i64 x.fb, .int .i64 x.fg, .int .i64 x.fs, .int .i64 x.gen, .slice A3 m3 c3, .int .i64 x.back, .int .i64 x.until_, .int .i64 x.count] from h1))
           go_must (have k2 : Kept [w1.heap.size] w1 w2 := ((Kept.refl _ w1).alloc _).trans k1 (fun i hi => .inl hi))
           go_must (have S := Lib.hid (BkV.far (LV.go BkOk S.out ((Kept.refl [] w1).alloc (.cells #[.int .i64 0, .int .u32 0, .int .u32 0, .int .i64 0, .int .i64 0, .int .i64 0, .int .i64 0, .int .i64 0, .int .i64 0, .int .i64 0, .slice none 0 0, .int .i64 0, .int .i64 0, .int .i64 0] 29))) k1 (by (repeat (first | (apply Blk.new'; simp; done) | apply Blk.alloc | apply Blk.drew))) (by decide) (by omega)))
           go_must (have P := Lib.hid (P.out.kept k2 (by simp; omega)))
           go_must (have B := Lib.hid (B.out.kept k2 (by simp; omega)))
           go_must (have K := Lib.hid (K.out.trans k2 (fun i hi => .inr (by simp at hi; omega))))
           go_must (clear h1 k1 k2)
           go_must (have hcx := X.out.cell)
           go_must (have hcy := P.out.cell)
           go_must (have hlx := X.out.lt))
        | (go_at_call 51
           go_must (refine (ways_any _ _ _).mono ?_)
           go_must (rintro e w' ⟨rfl, rfl⟩)
           go_must (rw [hw]))
        | ((with_reducible show wpList _ _ _ ({ dst := none, op := Op.store 34 (.tmp 4) (.tmp 24), type := _, pos := _, after := _, guard := _ } :: _) _ _); refine wpList_put (t := 34) rfl 34 (.tmp 4) (.tmp 24) rfl _ (by rfl) (by rfl) (by exact B.out) (by rfl) (by kernel_rfl) (by simp [Value.oneCell']) ?_; intro w9 hb9 hk9; have Hb9 := Lib.hid hb9; have Hk9 := Lib.hid hk9; clear hb9 hk9))
      refine bodyPost_ret (results_cell1 (t := 34) Try.results35 (by rfl) Hb9.out _ Try.underlying34 rfl (by kernel_rfl)) rfl ?_
      rw [HE.out, HF.out]
      exact ⟨_, rfl, NB.nil (K.out.trans Hk9.out (fun i hi => .inr (by simp at hi; omega)))⟩
    · have HW := Lib.hid hw
      have HF := Lib.hid (show mfF f b = encF (migP (inR x f.ver) f.ver b) b by rw [HFF.out, if_pos ⟨h0, hw⟩])
      have HE := Lib.hid (show mfE f b = encE (migP (inR x f.ver) f.ver b) b by rw [HFE.out, if_pos hw])
      obtain ⟨z, hz⟩ : ∃ z, migP (inR x f.ver) f.ver b = z := ⟨_, rfl⟩
      have EZ := Lib.hid hz
      have HZB := Lib.hid (show z.backs.length ≤ 17 by rw [← hz, mig_backs]; exact Nat.le_trans (in_backs _ _) HB.out)
      obtain ⟨g, hg⟩ : ∃ g, encF z b = g := ⟨_, rfl⟩
      obtain ⟨e2, he2⟩ : ∃ e, encE z b = e := ⟨_, rfl⟩
      have EF := Lib.hid hg
      have EE2 := Lib.hid he2
      have HF := Lib.hid (show mfF f b = g by rw [HF.out, hz, hg])
      have HE := Lib.hid (show mfE f b = e2 by rw [HE.out, hz, he2])
      clear h0 hv hm1 hz hg he2
      go_enter Try.func35, Try.ntmps35
      go_wp2_with (first
        | (go_at_call 33
           go_must (refine (Decode_any _ f H.out hm).mono ?_)
           go_must (rintro e w1 ⟨sl, rfl, hS⟩)
           go_must (rw [EX.out] at hS ⊢)
           go_must (rw [EE.out])
           go_must (have hkn := LV.kept hS)
           go_must (have S := Lib.hid (LV.wide hS K.out))
           go_must (obtain ⟨A3, m3, c3, rfl⟩ := BkV.form S.out)
           go_must (clear hS)
           go_must (have P := Lib.hid (P.out.kept hkn (by simp)))
           go_must (have B := Lib.hid (B.out.kept hkn (by simp)))
           go_must (have K := Lib.hid (K.out.trans hkn (by simp)))
           go_must (have hlb := B.out.lt)
           go_must (clear hkn))
        | (with_reducible show wpList _ _ _ ({ dst := none, op := Op.store 29 (.tmp 6) (.tmp 11), type := _, pos := _, after := _, guard := _ } :: _) _ _
           go_must (refine wpList_put (t := 29) rfl 29 (.tmp 6) (.tmp 11) rfl _ (by rfl) (by rfl) (by (repeat (first | (apply Blk.new'; simp; done) | apply Blk.alloc | apply Blk.drew))) (by rfl) (by kernel_rfl) (by simp [Value.oneCell']) ?_)
           go_must (intro w2 h1 k1)
           go_must (have X := Lib.hid (show Blk w2 w1.heap.size 29 #[.int .i64 x.kind, .int .u32 (x.tup.src.toNat : Nat), .int .u32 (x.tup.dst.toNat : Nat), .int .i64 x.tup.proto, .int .i64 x.tup.sport, .int .i64 x.tup.dport, .int .i64 x.fb, .int .i64 x.fg, .int .i64 x.fs, .int .i64 x.gen, .slice A3 m3 c3, .int .i64 x.back, .int .i64 x.until_, .int .i64 x.count] from h1))
           go_must (have k2 : Kept [w1.heap.size] w1 w2 := ((Kept.refl _ w1).alloc _).trans k1 (fun i hi => .inl hi))
           go_must (have S := Lib.hid (BkV.far (LV.go BkOk S.out ((Kept.refl [] w1).alloc (.cells #[.int .i64 0, .int .u32 0, .int .u32 0, .int .i64 0, .int .i64 0, .int .i64 0, .int .i64 0, .int .i64 0, .int .i64 0, .int .i64 0, .slice none 0 0, .int .i64 0, .int .i64 0, .int .i64 0] 29))) k1 (by (repeat (first | (apply Blk.new'; simp; done) | apply Blk.alloc | apply Blk.drew))) (by decide) (by omega)))
           go_must (have P := Lib.hid (P.out.kept k2 (by simp; omega)))
           go_must (have B := Lib.hid (B.out.kept k2 (by simp; omega)))
           go_must (have K := Lib.hid (K.out.trans k2 (fun i hi => .inr (by simp at hi; omega))))
           go_must (clear h1 k1 k2)
           go_must (have hcx := X.out.cell)
           go_must (have hcy := P.out.cell)
           go_must (have hlx := X.out.lt))
        | (go_at_call 51
           go_must (refine (ways_any _ _ _).mono ?_)
           go_must (rintro e w' ⟨rfl, rfl⟩)
           go_must (rw [hw]))
        | (go_at_call 52
           go_must (obtain ⟨G2, hsm⟩ := BkV.small S.out (by have := HB.out; omega))
           go_must (refine (turn_any _ x f.ver b HW.out hsm).mono ?_)
           go_must (rintro e w3 ⟨sl, rfl, hT⟩)
           go_must (rw [EZ.out] at hT ⊢)
           go_must (have hkn := LV.kept hT)
           go_must (have T := Lib.hid (LV.wide hT K.out))
           go_must (obtain ⟨A5, m5, c5, rfl⟩ := BkV.form T.out)
           go_must (clear hT hsm hcx hcy)
           go_must (have B := Lib.hid (B.out.kept hkn (by simp)))
           go_must (have K := Lib.hid (K.out.trans hkn (by simp)))
           go_must (clear hkn))
        | (go_at_call 15
           go_must (obtain ⟨G2, hsm⟩ := BkV.small T.out (by have := HZB.out; omega))
           go_must (have hm5 := (BkArr.len hsm.1).1)
           go_must (refine (Encode_any _ z b hsm (by have := HZB.out; omega)).mono ?_)
           go_must (rintro e w4 ⟨sl, rfl, hn⟩)
           go_must (rw [EF.out] at hn ⊢)
           go_must (rw [EE2.out])
           go_must (have N := Lib.hid (NB.of hn))
           go_must (have N := Lib.hid (N.out.wide K.out))
           go_must (obtain ⟨A6, m6, c6, rfl⟩ := N.out.form)
           go_must (have hkn := N.out.kept)
           go_must (have B := Lib.hid (B.out.kept hn.2.1 (by simp)))
           go_must (have K := Lib.hid hkn)
           go_must (clear hn hsm hm5 hkn))
        | ((with_reducible show wpList _ _ _ ({ dst := none, op := Op.store 34 (.tmp 4) (.tmp 32), type := _, pos := _, after := _, guard := _ } :: _) _ _); refine wpList_put (t := 34) rfl 34 (.tmp 4) (.tmp 32) rfl _ (by rfl) (by rfl) (by exact B.out) (by rfl) (by kernel_rfl) (by simp [Value.oneCell']) ?_; intro w9 hb9 hk9; have Hb9 := Lib.hid hb9; have Hk9 := Lib.hid hk9; clear hb9 hk9))
      refine bodyPost_ret (results_cell1 (t := 34) Try.results35 (by rfl) Hb9.out _ Try.underlying34 rfl (by kernel_rfl)) rfl ?_
      rw [HE.out, HF.out]
      exact ⟨_, rfl, N.out.other Hk9.out (fun k hk hm => by simp at hm; subst hm; exact N.out.1.ne_blk B.out (by decide) hk) (by simp)⟩
  · have e0 : (en == 0) = false := by simp [h0]
    have n0 : (en != 0) = true := by simp [h0]
    have HE := Lib.hid (show mfE f b = en by rw [HFE.out, if_neg h0])
    have HF := Lib.hid (show mfF f b = default by rw [HFF.out, if_neg (by simp [h0])])
    clear h0
    go_enter Try.func35, Try.ntmps35
    go_wp2_with (first
      | (go_at_call 33
         go_must (refine (Decode_any _ f H.out hm).mono ?_)
         go_must (rintro e w1 ⟨sl, rfl, hS⟩)
         go_must (rw [EX.out] at hS ⊢)
         go_must (rw [EE.out])
         go_must (have hkn := LV.kept hS)
         go_must (have S := Lib.hid (LV.wide hS K.out))
         go_must (obtain ⟨A3, m3, c3, rfl⟩ := BkV.form S.out)
         go_must (clear hS)
         go_must (have P := Lib.hid (P.out.kept hkn (by simp)))
         go_must (have B := Lib.hid (B.out.kept hkn (by simp)))
         go_must (have K := Lib.hid (K.out.trans hkn (by simp)))
         go_must (have hlb := B.out.lt)
         go_must (clear hkn))
      | (with_reducible show wpList _ _ _ ({ dst := none, op := Op.store 29 (.tmp 6) (.tmp 11), type := _, pos := _, after := _, guard := _ } :: _) _ _
         go_must (refine wpList_put (t := 29) rfl 29 (.tmp 6) (.tmp 11) rfl _ (by rfl) (by rfl) (by (repeat (first | (apply Blk.new'; simp; done) | apply Blk.alloc | apply Blk.drew))) (by rfl) (by kernel_rfl) (by simp [Value.oneCell']) ?_)
         go_must (intro w2 h1 k1)
         go_must (have X := Lib.hid (show Blk w2 w1.heap.size 29 #[.int .i64 x.kind, .int .u32 (x.tup.src.toNat : Nat), .int .u32 (x.tup.dst.toNat : Nat), .int .i64 x.tup.proto, .int .i64 x.tup.sport, .int .i64 x.tup.dport, .int .i64 x.fb, .int .i64 x.fg, .int .i64 x.fs, .int .i64 x.gen, .slice A3 m3 c3, .int .i64 x.back, .int .i64 x.until_, .int .i64 x.count] from h1))
         go_must (have k2 : Kept [w1.heap.size] w1 w2 := ((Kept.refl _ w1).alloc _).trans k1 (fun i hi => .inl hi))
         go_must (have S := Lib.hid (BkV.far (LV.go BkOk S.out ((Kept.refl [] w1).alloc (.cells #[.int .i64 0, .int .u32 0, .int .u32 0, .int .i64 0, .int .i64 0, .int .i64 0, .int .i64 0, .int .i64 0, .int .i64 0, .int .i64 0, .slice none 0 0, .int .i64 0, .int .i64 0, .int .i64 0] 29))) k1 (by (repeat (first | (apply Blk.new'; simp; done) | apply Blk.alloc | apply Blk.drew))) (by decide) (by omega)))
         go_must (have P := Lib.hid (P.out.kept k2 (by simp; omega)))
         go_must (have B := Lib.hid (B.out.kept k2 (by simp; omega)))
         go_must (have K := Lib.hid (K.out.trans k2 (fun i hi => .inr (by simp at hi; omega))))
         go_must (clear h1 k1 k2)
         go_must (have hcx := X.out.cell)
         go_must (have hcy := P.out.cell)
         go_must (have hlx := X.out.lt))
      | ((with_reducible show wpList _ _ _ ({ dst := none, op := Op.store 34 (.tmp 4) (.tmp 16), type := _, pos := _, after := _, guard := _ } :: _) _ _); refine wpList_put (t := 34) rfl 34 (.tmp 4) (.tmp 16) rfl _ (by rfl) (by rfl) (by exact B.out) (by rfl) (by kernel_rfl) (by simp [Value.oneCell']) ?_; intro w9 hb9 hk9; have Hb9 := Lib.hid hb9; have Hk9 := Lib.hid hk9; clear hb9 hk9))
    refine bodyPost_ret (results_cell1 (t := 34) Try.results35 (by rfl) Hb9.out _ Try.underlying34 rfl (by kernel_rfl)) rfl ?_
    rw [HE.out, HF.out]
    exact ⟨_, rfl, NB.nil (K.out.trans Hk9.out (fun i hi => .inr (by simp at hi; omega)))⟩
set_option maxHeartbeats 6400000 in
set_option maxRecDepth 100000 in
theorem rmFrame_any (w : World) {G : List Nat} {A : Option Addr} {m c : Nat} (f : FrameD) (b : Int) (h : RdB w G (.slice A m c) f.body) (hG : ∀ k ∈ G, k < w.heap.size) (hm : m ≤ 1000000) :
    Calls Try.prog 36 #[.agg #[.int .i64 f.kind, .int .i64 f.ver, .slice A m c], .int .i64 b] w fun e w' => ∃ sl, e = .returned (.tuple #[.agg #[.int .i64 (mfF f b).kind, .int .i64 (mfF f b).ver, sl], .int .i64 (mfE f b)]) ∧ NB w w' sl (mfF f b).body := by
  have hk0 : Kept [] w ((w.alloc (.cells #[.int .i64 f.kind, .int .i64 f.ver, .slice A m c] 34)).alloc (.cells #[.int .i64 0, .int .i64 0, .slice none 0 0] 34)) := by (repeat (first | exact Kept.refl _ _ | apply Kept.alloc | apply Kept.drew))
  have P := Lib.hid (show Blk ((w.alloc (.cells #[.int .i64 f.kind, .int .i64 f.ver, .slice A m c] 34)).alloc (.cells #[.int .i64 0, .int .i64 0, .slice none 0 0] 34)) w.heap.size 34 #[.int .i64 f.kind, .int .i64 f.ver, .slice A m c] from by (repeat (first | (apply Blk.new'; simp; done) | apply Blk.alloc | apply Blk.drew)))
  have B := Lib.hid (show Blk ((w.alloc (.cells #[.int .i64 f.kind, .int .i64 f.ver, .slice A m c] 34)).alloc (.cells #[.int .i64 0, .int .i64 0, .slice none 0 0] 34)) (w.heap.size + 1) 34 #[.int .i64 0, .int .i64 0, .slice none 0 0] from by (repeat (first | (apply Blk.new'; simp; done) | apply Blk.alloc | apply Blk.drew)))
  have K := Lib.hid hk0
  have H := Lib.hid (h.kept hk0 (by simp))
  have HG := Lib.hid (fun k hk => Nat.lt_of_lt_of_le (hG k hk) hk0.size)
  clear h hG hk0
  obtain ⟨x, hx⟩ : ∃ x, decR f = x := ⟨_, rfl⟩
  obtain ⟨en, hen⟩ : ∃ e, decE f = e := ⟨_, rfl⟩
  have hb17 : x.backs.length ≤ 17 := by rw [← hx]; exact decR_backs f
  have hback := back_dec (f := f)
  rw [hx, hen] at hback
  have HB := Lib.hid hb17
  have HBK := Lib.hid hback
  have EX := Lib.hid hx
  have EE := Lib.hid hen
  have HFE := Lib.hid (show mfE f b = if en = 0 then (if waysB f.ver b = true then encE (migP (inR x f.ver) f.ver b) b else 10) else en by unfold mfE; rw [hx, hen])
  have HFF := Lib.hid (show mfF f b = if en = 0 ∧ waysB f.ver b = true then encF (migP (inR x f.ver) f.ver b) b else default by unfold mfF; rw [hx, hen])
  clear hx hen hb17 hback
  by_cases h0 : en = 0
  · have e0 : (en == 0) = true := by simp [h0]
    have n0 : (en != 0) = false := by simp [h0]
    obtain ⟨hv, hm1, -, -⟩ := HBK.out h0
    have HFE := Lib.hid (show mfE f b = _ by rw [HFE.out, if_pos h0])
    have hways : (verB b = false ∧ waysB f.ver b = false) ∨ (verB b = true ∧ b < f.ver ∧ waysB f.ver b = false) ∨ (verB b = true ∧ ¬ b < f.ver ∧ waysB f.ver b = true) := by
      simp only [verB, waysB, Bool.and_eq_true, Bool.and_eq_false_iff, decide_eq_true_eq, decide_eq_false_iff_not] at hv ⊢; omega
    rcases hways with ⟨v2, hw⟩ | ⟨v2, q1, hw⟩ | ⟨v2, q1, hw⟩
    · have HE := Lib.hid (show mfE f b = 10 by rw [HFE.out, hw]; rfl)
      have HF := Lib.hid (show mfF f b = default by rw [HFF.out, if_neg (by simp [hw])])
      clear h0 hv hm1 hw
      go_enter Try.func36, Try.ntmps36
      go_wp2_with (first
        | (go_at_call 34
           go_must (refine (rDecode_any _ f H.out HG.out hm).mono ?_)
           go_must (rintro e w1 ⟨sl, rfl, hS⟩)
           go_must (rw [EX.out] at hS ⊢)
           go_must (rw [EE.out])
           go_must (have hkn := LV.kept hS)
           go_must (have S := Lib.hid (LV.wide hS K.out))
           go_must (obtain ⟨A3, m3, c3, rfl⟩ := BkV.form S.out)
           go_must (clear hS)
           go_must (have P := Lib.hid (P.out.kept hkn (by simp)))
           go_must (have B := Lib.hid (B.out.kept hkn (by simp)))
           go_must (have K := Lib.hid (K.out.trans hkn (by simp)))
           go_must (have hlb := B.out.lt)
           go_must (clear hkn))
        | (with_reducible show wpList _ _ _ ({ dst := none, op := Op.store 29 (.tmp 6) (.tmp 11), type := _, pos := _, after := _, guard := _ } :: _) _ _
           go_must (refine wpList_put (t := 29) rfl 29 (.tmp 6) (.tmp 11) rfl _ (by rfl) (by rfl) (by (repeat (first | (apply Blk.new'; simp; done) | apply Blk.alloc | apply Blk.drew))) (by rfl) (by kernel_rfl) (by simp [Value.oneCell']) ?_)
           go_must (intro w2 h1 k1)
           go_must (have X := Lib.hid (show Blk w2 w1.heap.size 29 #[.int .i64 x.kind, .int .u32 (x.tup.src.toNat : Nat), .int .u32 (x.tup.dst.toNat : Nat), .int .i64 x.tup.proto, .int .i64 x.tup.sport, .int .i64 x.tup.dport, .int .i64 x.fb, .int .i64 x.fg, .int .i64 x.fs, .int .i64 x.gen, .slice A3 m3 c3, .int .i64 x.back, .int .i64 x.until_, .int .i64 x.count] from h1))
           go_must (have k2 : Kept [w1.heap.size] w1 w2 := ((Kept.refl _ w1).alloc _).trans k1 (fun i hi => .inl hi))
           go_must (have S := Lib.hid (BkV.far (LV.go BkOk S.out ((Kept.refl [] w1).alloc (.cells #[.int .i64 0, .int .u32 0, .int .u32 0, .int .i64 0, .int .i64 0, .int .i64 0, .int .i64 0, .int .i64 0, .int .i64 0, .int .i64 0, .slice none 0 0, .int .i64 0, .int .i64 0, .int .i64 0] 29))) k1 (by (repeat (first | (apply Blk.new'; simp; done) | apply Blk.alloc | apply Blk.drew))) (by decide) (by omega)))
           go_must (have P := Lib.hid (P.out.kept k2 (by simp; omega)))
           go_must (have B := Lib.hid (B.out.kept k2 (by simp; omega)))
           go_must (have K := Lib.hid (K.out.trans k2 (fun i hi => .inr (by simp at hi; omega))))
           go_must (clear h1 k1 k2)
           go_must (have hcx := X.out.cell)
           go_must (have hcy := P.out.cell)
           go_must (have hlx := X.out.lt))
        | (go_at_call 40
           go_must (refine (rVersion_any _ _).mono ?_)
           go_must (rintro e w' ⟨rfl, rfl⟩)
           go_must (rw [v2]))
        | ((with_reducible show wpList _ _ _ ({ dst := none, op := Op.store 34 (.tmp 4) (.tmp 26), type := _, pos := _, after := _, guard := _ } :: _) _ _); refine wpList_put (t := 34) rfl 34 (.tmp 4) (.tmp 26) rfl _ (by rfl) (by rfl) (by exact B.out) (by rfl) (by kernel_rfl) (by simp [Value.oneCell']) ?_; intro w9 hb9 hk9; have Hb9 := Lib.hid hb9; have Hk9 := Lib.hid hk9; clear hb9 hk9))
      refine bodyPost_ret (results_cell1 (t := 34) Try.results36 (by rfl) Hb9.out _ Try.underlying34 rfl (by kernel_rfl)) rfl ?_
      rw [HE.out, HF.out]
      exact ⟨_, rfl, NB.nil (K.out.trans Hk9.out (fun i hi => .inr (by simp at hi; omega)))⟩
    · have HE := Lib.hid (show mfE f b = 10 by rw [HFE.out, hw]; rfl)
      have HF := Lib.hid (show mfF f b = default by rw [HFF.out, if_neg (by simp [hw])])
      clear h0 hv hm1 hw
      go_enter Try.func36, Try.ntmps36
      go_wp2_with (first
        | (go_at_call 34
           go_must (refine (rDecode_any _ f H.out HG.out hm).mono ?_)
           go_must (rintro e w1 ⟨sl, rfl, hS⟩)
           go_must (rw [EX.out] at hS ⊢)
           go_must (rw [EE.out])
           go_must (have hkn := LV.kept hS)
           go_must (have S := Lib.hid (LV.wide hS K.out))
           go_must (obtain ⟨A3, m3, c3, rfl⟩ := BkV.form S.out)
           go_must (clear hS)
           go_must (have P := Lib.hid (P.out.kept hkn (by simp)))
           go_must (have B := Lib.hid (B.out.kept hkn (by simp)))
           go_must (have K := Lib.hid (K.out.trans hkn (by simp)))
           go_must (have hlb := B.out.lt)
           go_must (clear hkn))
        | (with_reducible show wpList _ _ _ ({ dst := none, op := Op.store 29 (.tmp 6) (.tmp 11), type := _, pos := _, after := _, guard := _ } :: _) _ _
           go_must (refine wpList_put (t := 29) rfl 29 (.tmp 6) (.tmp 11) rfl _ (by rfl) (by rfl) (by (repeat (first | (apply Blk.new'; simp; done) | apply Blk.alloc | apply Blk.drew))) (by rfl) (by kernel_rfl) (by simp [Value.oneCell']) ?_)
           go_must (intro w2 h1 k1)
           go_must (have X := Lib.hid (show Blk w2 w1.heap.size 29 #[.int .i64 x.kind, .int .u32 (x.tup.src.toNat : Nat), .int .u32 (x.tup.dst.toNat : Nat), .int .i64 x.tup.proto, .int .i64 x.tup.sport, .int .i64 x.tup.dport, .int .i64 x.fb, .int .i64 x.fg, .int .i64 x.fs, .int .i64 x.gen, .slice A3 m3 c3, .int .i64 x.back, .int .i64 x.until_, .int .i64 x.count] from h1))
           go_must (have k2 : Kept [w1.heap.size] w1 w2 := ((Kept.refl _ w1).alloc _).trans k1 (fun i hi => .inl hi))
           go_must (have S := Lib.hid (BkV.far (LV.go BkOk S.out ((Kept.refl [] w1).alloc (.cells #[.int .i64 0, .int .u32 0, .int .u32 0, .int .i64 0, .int .i64 0, .int .i64 0, .int .i64 0, .int .i64 0, .int .i64 0, .int .i64 0, .slice none 0 0, .int .i64 0, .int .i64 0, .int .i64 0] 29))) k1 (by (repeat (first | (apply Blk.new'; simp; done) | apply Blk.alloc | apply Blk.drew))) (by decide) (by omega)))
           go_must (have P := Lib.hid (P.out.kept k2 (by simp; omega)))
           go_must (have B := Lib.hid (B.out.kept k2 (by simp; omega)))
           go_must (have K := Lib.hid (K.out.trans k2 (fun i hi => .inr (by simp at hi; omega))))
           go_must (clear h1 k1 k2)
           go_must (have hcx := X.out.cell)
           go_must (have hcy := P.out.cell)
           go_must (have hlx := X.out.lt))
        | (go_at_call 40
           go_must (refine (rVersion_any _ _).mono ?_)
           go_must (rintro e w' ⟨rfl, rfl⟩)
           go_must (rw [v2]))
        | ((with_reducible show wpList _ _ _ ({ dst := none, op := Op.store 34 (.tmp 4) (.tmp 26), type := _, pos := _, after := _, guard := _ } :: _) _ _); refine wpList_put (t := 34) rfl 34 (.tmp 4) (.tmp 26) rfl _ (by rfl) (by rfl) (by exact B.out) (by rfl) (by kernel_rfl) (by simp [Value.oneCell']) ?_; intro w9 hb9 hk9; have Hb9 := Lib.hid hb9; have Hk9 := Lib.hid hk9; clear hb9 hk9))
      refine bodyPost_ret (results_cell1 (t := 34) Try.results36 (by rfl) Hb9.out _ Try.underlying34 rfl (by kernel_rfl)) rfl ?_
      rw [HE.out, HF.out]
      exact ⟨_, rfl, NB.nil (K.out.trans Hk9.out (fun i hi => .inr (by simp at hi; omega)))⟩
    · have HW := Lib.hid hw
      have HF := Lib.hid (show mfF f b = encF (migP (inR x f.ver) f.ver b) b by rw [HFF.out, if_pos ⟨h0, hw⟩])
      have HE := Lib.hid (show mfE f b = encE (migP (inR x f.ver) f.ver b) b by rw [HFE.out, if_pos hw])
      obtain ⟨z, hz⟩ : ∃ z, migP (inR x f.ver) f.ver b = z := ⟨_, rfl⟩
      have EZ := Lib.hid hz
      have HZB := Lib.hid (show z.backs.length ≤ 17 by rw [← hz, mig_backs]; exact Nat.le_trans (in_backs _ _) HB.out)
      obtain ⟨g, hg⟩ : ∃ g, encF z b = g := ⟨_, rfl⟩
      obtain ⟨e2, he2⟩ : ∃ e, encE z b = e := ⟨_, rfl⟩
      have EF := Lib.hid hg
      have EE2 := Lib.hid he2
      have HF := Lib.hid (show mfF f b = g by rw [HF.out, hz, hg])
      have HE := Lib.hid (show mfE f b = e2 by rw [HE.out, hz, he2])
      have EM := Lib.hid (show migR x f.ver b = migP (inR x f.ver) f.ver b by simp [migR, hw, hm1])
      clear h0 hv hm1 hz hg he2 hw
      go_enter Try.func36, Try.ntmps36
      go_wp2_with (first
        | (go_at_call 34
           go_must (refine (rDecode_any _ f H.out HG.out hm).mono ?_)
           go_must (rintro e w1 ⟨sl, rfl, hS⟩)
           go_must (rw [EX.out] at hS ⊢)
           go_must (rw [EE.out])
           go_must (have hkn := LV.kept hS)
           go_must (have S := Lib.hid (LV.wide hS K.out))
           go_must (obtain ⟨A3, m3, c3, rfl⟩ := BkV.form S.out)
           go_must (clear hS)
           go_must (have P := Lib.hid (P.out.kept hkn (by simp)))
           go_must (have B := Lib.hid (B.out.kept hkn (by simp)))
           go_must (have K := Lib.hid (K.out.trans hkn (by simp)))
           go_must (have hlb := B.out.lt)
           go_must (clear hkn))
        | (with_reducible show wpList _ _ _ ({ dst := none, op := Op.store 29 (.tmp 6) (.tmp 11), type := _, pos := _, after := _, guard := _ } :: _) _ _
           go_must (refine wpList_put (t := 29) rfl 29 (.tmp 6) (.tmp 11) rfl _ (by rfl) (by rfl) (by (repeat (first | (apply Blk.new'; simp; done) | apply Blk.alloc | apply Blk.drew))) (by rfl) (by kernel_rfl) (by simp [Value.oneCell']) ?_)
           go_must (intro w2 h1 k1)
           go_must (have X := Lib.hid (show Blk w2 w1.heap.size 29 #[.int .i64 x.kind, .int .u32 (x.tup.src.toNat : Nat), .int .u32 (x.tup.dst.toNat : Nat), .int .i64 x.tup.proto, .int .i64 x.tup.sport, .int .i64 x.tup.dport, .int .i64 x.fb, .int .i64 x.fg, .int .i64 x.fs, .int .i64 x.gen, .slice A3 m3 c3, .int .i64 x.back, .int .i64 x.until_, .int .i64 x.count] from h1))
           go_must (have k2 : Kept [w1.heap.size] w1 w2 := ((Kept.refl _ w1).alloc _).trans k1 (fun i hi => .inl hi))
           go_must (have S := Lib.hid (BkV.far (LV.go BkOk S.out ((Kept.refl [] w1).alloc (.cells #[.int .i64 0, .int .u32 0, .int .u32 0, .int .i64 0, .int .i64 0, .int .i64 0, .int .i64 0, .int .i64 0, .int .i64 0, .int .i64 0, .slice none 0 0, .int .i64 0, .int .i64 0, .int .i64 0] 29))) k1 (by (repeat (first | (apply Blk.new'; simp; done) | apply Blk.alloc | apply Blk.drew))) (by decide) (by omega)))
           go_must (have P := Lib.hid (P.out.kept k2 (by simp; omega)))
           go_must (have B := Lib.hid (B.out.kept k2 (by simp; omega)))
           go_must (have K := Lib.hid (K.out.trans k2 (fun i hi => .inr (by simp at hi; omega))))
           go_must (clear h1 k1 k2)
           go_must (have hcx := X.out.cell)
           go_must (have hcy := P.out.cell)
           go_must (have hlx := X.out.lt))
        | (go_at_call 40
           go_must (refine (rVersion_any _ _).mono ?_)
           go_must (rintro e w' ⟨rfl, rfl⟩)
           go_must (rw [v2]))
        | (go_at_call 22
           go_must (obtain ⟨G2, hsm⟩ := BkV.small S.out (by have := HB.out; omega))
           go_must (refine (rMigrate_any _ x f.ver b hsm).mono ?_)
           go_must (rintro e w3 ⟨sl, rfl, hT⟩)
           go_must (rw [EM.out, EZ.out] at hT ⊢)
           go_must (have hkn := LV.kept hT)
           go_must (have T := Lib.hid (LV.wide hT K.out))
           go_must (obtain ⟨A5, m5, c5, rfl⟩ := BkV.form T.out)
           go_must (clear hT hsm hcx hcy)
           go_must (have X := Lib.hid (X.out.kept hkn (by simp)))
           go_must (have B := Lib.hid (B.out.kept hkn (by simp)))
           go_must (have K := Lib.hid (K.out.trans hkn (by simp)))
           go_must (clear hkn))
        | (with_reducible show wpList _ _ _ ({ dst := none, op := Op.store 29 (.tmp 6) (.tmp 33), type := _, pos := _, after := _, guard := _ } :: _) _ _
           go_must (refine wpList_put (t := 29) rfl 29 (.tmp 6) (.tmp 33) rfl _ (by rfl) (by rfl) X.out (by rfl) (by kernel_rfl) (by simp [Value.oneCell']) ?_)
           go_must (intro w8 h1 k1)
           go_must (have T := Lib.hid (BkV.far T.out k1 X.out (by decide) (by omega)))
           go_must (have X := Lib.hid (show Blk w8 w1.heap.size 29 #[.int .i64 z.kind, .int .u32 (z.tup.src.toNat : Nat), .int .u32 (z.tup.dst.toNat : Nat), .int .i64 z.tup.proto, .int .i64 z.tup.sport, .int .i64 z.tup.dport, .int .i64 z.fb, .int .i64 z.fg, .int .i64 z.fs, .int .i64 z.gen, .slice A5 m5 c5, .int .i64 z.back, .int .i64 z.until_, .int .i64 z.count] from h1))
           go_must (have B := Lib.hid (B.out.kept k1 (by simp; omega)))
           go_must (have K := Lib.hid (LV.kept T.out))
           go_must (clear h1 k1)
           go_must (have hcx := X.out.cell))
        | (go_at_call 16
           go_must (obtain ⟨G2, hsm⟩ := BkV.small T.out (by have := HZB.out; omega))
           go_must (have hm5 := (BkArr.len hsm.1).1)
           go_must (refine (rEncode_any _ z b hsm).mono ?_)
           go_must (rintro e w4 ⟨sl, rfl, hn⟩)
           go_must (rw [EF.out] at hn ⊢)
           go_must (rw [EE2.out])
           go_must (have N := Lib.hid hn)
           go_must (have N := Lib.hid (N.out.wide K.out))
           go_must (obtain ⟨A6, m6, c6, rfl⟩ := N.out.form)
           go_must (have hkn := N.out.kept)
           go_must (have B := Lib.hid (B.out.kept hn.2.1 (by simp)))
           go_must (have K := Lib.hid hkn)
           go_must (clear hn hsm hm5 hkn))
        | ((with_reducible show wpList _ _ _ ({ dst := none, op := Op.store 34 (.tmp 4) (.tmp 38), type := _, pos := _, after := _, guard := _ } :: _) _ _); refine wpList_put (t := 34) rfl 34 (.tmp 4) (.tmp 38) rfl _ (by rfl) (by rfl) (by exact B.out) (by rfl) (by kernel_rfl) (by simp [Value.oneCell']) ?_; intro w9 hb9 hk9; have Hb9 := Lib.hid hb9; have Hk9 := Lib.hid hk9; clear hb9 hk9))
      refine bodyPost_ret (results_cell1 (t := 34) Try.results36 (by rfl) Hb9.out _ Try.underlying34 rfl (by kernel_rfl)) rfl ?_
      rw [HE.out, HF.out]
      exact ⟨_, rfl, N.out.other Hk9.out (fun k hk hm => by simp at hm; subst hm; exact N.out.1.ne_blk B.out (by decide) hk) (by simp)⟩
  · have e0 : (en == 0) = false := by simp [h0]
    have n0 : (en != 0) = true := by simp [h0]
    have HE := Lib.hid (show mfE f b = en by rw [HFE.out, if_neg h0])
    have HF := Lib.hid (show mfF f b = default by rw [HFF.out, if_neg (by simp [h0])])
    clear h0
    go_enter Try.func36, Try.ntmps36
    go_wp2_with (first
      | (go_at_call 34
         go_must (refine (rDecode_any _ f H.out HG.out hm).mono ?_)
         go_must (rintro e w1 ⟨sl, rfl, hS⟩)
         go_must (rw [EX.out] at hS ⊢)
         go_must (rw [EE.out])
         go_must (have hkn := LV.kept hS)
         go_must (have S := Lib.hid (LV.wide hS K.out))
         go_must (obtain ⟨A3, m3, c3, rfl⟩ := BkV.form S.out)
         go_must (clear hS)
         go_must (have P := Lib.hid (P.out.kept hkn (by simp)))
         go_must (have B := Lib.hid (B.out.kept hkn (by simp)))
         go_must (have K := Lib.hid (K.out.trans hkn (by simp)))
         go_must (have hlb := B.out.lt)
         go_must (clear hkn))
      | (with_reducible show wpList _ _ _ ({ dst := none, op := Op.store 29 (.tmp 6) (.tmp 11), type := _, pos := _, after := _, guard := _ } :: _) _ _
         go_must (refine wpList_put (t := 29) rfl 29 (.tmp 6) (.tmp 11) rfl _ (by rfl) (by rfl) (by (repeat (first | (apply Blk.new'; simp; done) | apply Blk.alloc | apply Blk.drew))) (by rfl) (by kernel_rfl) (by simp [Value.oneCell']) ?_)
         go_must (intro w2 h1 k1)
         go_must (have X := Lib.hid (show Blk w2 w1.heap.size 29 #[.int .i64 x.kind, .int .u32 (x.tup.src.toNat : Nat), .int .u32 (x.tup.dst.toNat : Nat), .int .i64 x.tup.proto, .int .i64 x.tup.sport, .int .i64 x.tup.dport, .int .i64 x.fb, .int .i64 x.fg, .int .i64 x.fs, .int .i64 x.gen, .slice A3 m3 c3, .int .i64 x.back, .int .i64 x.until_, .int .i64 x.count] from h1))
         go_must (have k2 : Kept [w1.heap.size] w1 w2 := ((Kept.refl _ w1).alloc _).trans k1 (fun i hi => .inl hi))
         go_must (have S := Lib.hid (BkV.far (LV.go BkOk S.out ((Kept.refl [] w1).alloc (.cells #[.int .i64 0, .int .u32 0, .int .u32 0, .int .i64 0, .int .i64 0, .int .i64 0, .int .i64 0, .int .i64 0, .int .i64 0, .int .i64 0, .slice none 0 0, .int .i64 0, .int .i64 0, .int .i64 0] 29))) k1 (by (repeat (first | (apply Blk.new'; simp; done) | apply Blk.alloc | apply Blk.drew))) (by decide) (by omega)))
         go_must (have P := Lib.hid (P.out.kept k2 (by simp; omega)))
         go_must (have B := Lib.hid (B.out.kept k2 (by simp; omega)))
         go_must (have K := Lib.hid (K.out.trans k2 (fun i hi => .inr (by simp at hi; omega))))
         go_must (clear h1 k1 k2)
         go_must (have hcx := X.out.cell)
         go_must (have hcy := P.out.cell)
         go_must (have hlx := X.out.lt))
      | ((with_reducible show wpList _ _ _ ({ dst := none, op := Op.store 34 (.tmp 4) (.tmp 15), type := _, pos := _, after := _, guard := _ } :: _) _ _); refine wpList_put (t := 34) rfl 34 (.tmp 4) (.tmp 15) rfl _ (by rfl) (by rfl) (by exact B.out) (by rfl) (by kernel_rfl) (by simp [Value.oneCell']) ?_; intro w9 hb9 hk9; have Hb9 := Lib.hid hb9; have Hk9 := Lib.hid hk9; clear hb9 hk9))
    refine bodyPost_ret (results_cell1 (t := 34) Try.results36 (by rfl) Hb9.out _ Try.underlying34 rfl (by kernel_rfl)) rfl ?_
    rw [HE.out, HF.out]
    exact ⟨_, rfl, NB.nil (K.out.trans Hk9.out (fun i hi => .inr (by simp at hi; omega)))⟩
end Go.Proofs.Ytogdpfjbclnlnaa
