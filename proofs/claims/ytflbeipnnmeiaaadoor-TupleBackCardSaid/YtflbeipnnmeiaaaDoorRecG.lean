
/-
  Readers of the call's own; a tuple read.
-/
import Derived.Test.YtflbeipnnmeiaaaDoorRecF
import Derived.Test.YtflbeipnnmeiaaaDoorRecD
import Derived.Test.YtflbeipnnmeiaaaDoorRef1R
import Derived.Test.YtflbeipnnmeiaaaDoorBlk
namespace Go.Proofs.YtflbeipnnmeiaaaDoor
open Go.RowKit Go.ChangeShapes Go.WideShapes Go.Deep
set_option linter.unusedVariables false
set_option maxRecDepth 100000

def erO (o : Option (List UInt8)) : Int := if o.isSome then 0 else 2
/-- in w the reader at b, made since W, has o -/
def RW (t : TypeId) (W : World) (b : Nat) (o : Option (List UInt8)) (w : World) : Prop :=
  ∃ G, RdrT t w b G (o.getD []) (erO o) ∧ W.heap.size ≤ b ∧ (∀ k ∈ G, k < b) ∧ Kept [] W w ∧ (o.getD []).length ≤ 1000000
abbrev RWo := RW 62
section
variable {t : TypeId} {W w w' : World} {b : Nat} {o : Option (List UInt8)}
theorem RW.kept (h : RW t W b o w) : Kept [] W w := by obtain ⟨_, _, _, _, h, _⟩ := h; exact h
theorem RW.lt (h : RW t W b o w) : b < w.heap.size := by obtain ⟨_, ⟨⟨_, h, _⟩, _⟩, _⟩ := h; exact h.lt
theorem RW.ge (h : RW t W b o w) : W.heap.size ≤ b := by obtain ⟨_, _, h, _⟩ := h; exact h
theorem RW.other {S : List Nat} (h : RW t W b o w) (hk : Kept S w w') (hS : ∀ k ∈ S, b < k) : RW t W b o w' := by
  obtain ⟨G, h1, h2, h3, h4, h5⟩ := h
  exact ⟨G, h1.kept hk (fun hm => Nat.lt_irrefl _ (hS b hm)) (fun k hk' hm => Nat.lt_asymm (h3 k hk') (hS k hm)), h2, h3, h4.trans hk (fun i hi => .inr (by have := hS i hi; omega)), h5⟩
theorem RW.go (h : RW t W b o w) (hk : Kept [] w w') : RW t W b o w' := h.other hk (by simp)
theorem nk_le (o : Option (List UInt8)) (k : Nat) : ((nk o k).getD []).length ≤ (o.getD []).length := by
  cases o with
  | none => simp [nk]
  | some bs => simp only [nk]; split <;> simp
theorem tk_o (o : Option (List UInt8)) (k : Nat) : num (tk (o.getD []) (erO o) k).1 = gk o k ∧ (tk (o.getD []) (erO o) k).2.1 = (nk o k).getD [] ∧ (tk (o.getD []) (erO o) k).2.2 = erO (nk o k) := by
  cases o with
  | none => simp [tk, erO, gk, nk, num]
  | some bs =>
    have h0 : ¬ (k : Int) < 0 := by omega
    by_cases h : bs.length < k
    · have h' : (bs.length : Int) < k := by omega
      simp [tk, erO, gk, nk, h, h0, num]
    · have h' : ¬ (bs.length : Int) < k := by omega
      simp [tk, erO, gk, nk, h, h0]
theorem tkr_o (o : Option (List UInt8)) (k : Nat) : num (tkr (o.getD []) (erO o) k).1 = gk o k ∧ (tkr (o.getD []) (erO o) k).2.1 = (nk o k).getD [] ∧ (tkr (o.getD []) (erO o) k).2.2 = erO (nk o k) := by
  cases o with
  | none => simp [tkr, erO, gk, nk, num]
  | some bs =>
    have h0 : ¬ (k : Int) < 0 := by omega
    by_cases h : bs.length < k
    · have h' : (bs.length : Int) < k := by omega
      simp [tkr, erO, gk, nk, h, num]
    · have h' : ¬ (bs.length : Int) < k := by omega
      simp [tkr, erO, gk, nk, h]
theorem RW.step {G : List Nat} {k : Nat} {bs : List UInt8} {e : Int} (h2 : W.heap.size ≤ b) (h3 : ∀ k ∈ G, k < b) (h4 : Kept [] W w) (h5 : (o.getD []).length ≤ 1000000)
    (h : RdrT t w' b G bs e) (hk : Kept [b] w w') (hb : bs = (nk o k).getD []) (he : e = erO (nk o k)) : RW t W b (nk o k) w' := by
  subst hb he
  exact ⟨G, h, h2, h3, h4.trans hk (fun i hi => .inr (by simp at hi; omega)), Nat.le_trans (nk_le o k) h5⟩
end
section
variable {W w : World} {b : Nat} {o : Option (List UInt8)}
theorem DU8 (h : RWo W b o w) : Calls Tryd.prog 39 #[.pointer (some ⟨b, 0, none⟩)] w fun e w' => e = .returned (.int .i64 (gk o 1 : Nat)) ∧ RWo W b (nk o 1) w' ∧ Kept [b] w w' := by
  obtain ⟨G, h1, h2, h3, h4, h5⟩ := h
  have e := tk_o o 1
  refine (RU8_any w b G _ _ h1).mono ?_
  rintro en w' ⟨rfl, g1, g2⟩
  exact ⟨by rw [← e.1]; rfl, RW.step h2 h3 h4 h5 g1 g2 e.2.1 e.2.2, g2⟩
theorem DU16 (h : RWo W b o w) : Calls Tryd.prog 36 #[.pointer (some ⟨b, 0, none⟩)] w fun e w' => e = .returned (.int .i64 (gk o 2 : Nat)) ∧ RWo W b (nk o 2) w' ∧ Kept [b] w w' := by
  obtain ⟨G, h1, h2, h3, h4, h5⟩ := h
  have e := tk_o o 2
  refine (RU16_any w b G _ _ h1).mono ?_
  rintro en w' ⟨rfl, g1, g2⟩
  exact ⟨by rw [← e.1]; rfl, RW.step h2 h3 h4 h5 g1 g2 e.2.1 e.2.2, g2⟩
theorem DU32 (h : RWo W b o w) : Calls Tryd.prog 35 #[.pointer (some ⟨b, 0, none⟩)] w fun e w' => e = .returned (.int .u32 (gk o 4 : Nat)) ∧ RWo W b (nk o 4) w' ∧ Kept [b] w w' := by
  obtain ⟨G, h1, h2, h3, h4, h5⟩ := h
  have e := tk_o o 4
  refine (RU32_any w b G _ _ h1).mono ?_
  rintro en w' ⟨rfl, g1, g2⟩
  exact ⟨by rw [← e.1]; rfl, RW.step h2 h3 h4 h5 g1 g2 e.2.1 e.2.2, g2⟩
theorem DLeft {bs : List UInt8} (h : RWo W b (some bs) w) : Calls Tryd.prog 37 #[.pointer (some ⟨b, 0, none⟩)] w fun e w' => e = .returned (.int .i64 bs.length) ∧ w = w' := by
  obtain ⟨G, h1, h2, h3, h4, h5⟩ := h
  exact Left_any w b G _ _ h1
theorem DRaw (h : RWo W b o w) (k : Nat) : Calls Tryd.prog 38 #[.pointer (some ⟨b, 0, none⟩), .int .i64 (k : Int)] w fun e w' => ∃ v, e = .returned v ∧ RWo W b (nk o k) w' ∧ Kept [b] w w' := by
  obtain ⟨G, h1, h2, h3, h4, h5⟩ := h
  have e := tk_o o k
  refine (RRaw_any w b G _ _ k h1 (by omega)).mono ?_
  rintro en w' ⟨v, rfl, -, -, g1, g2⟩
  exact ⟨v, rfl, RW.step h2 h3 h4 h5 g1 g2 e.2.1 e.2.2, g2⟩
theorem DEnd (h : RWo W b o w) : Calls Tryd.prog 25 #[.pointer (some ⟨b, 0, none⟩)] w fun e w' => e = .returned (.int .i64 (endOf (o.getD []) (erO o))) ∧ w = w' := by
  obtain ⟨G, h1, h2, h3, h4, h5⟩ := h
  exact End_any w b G _ _ h1
end
theorem gad_nat (o : Option (List UInt8)) : ((UInt32.ofNat (gk o 4)).toNat : Nat) = gk o 4 := by
  have := gk_lt o 4
  rw [UInt32.toNat_ofNat', Nat.mod_eq_of_lt (by omega)]

set_option maxHeartbeats 3200000 in
theorem TRead_any {W w : World} {b : Nat} {bs : List UInt8} (h : RWo W b (some bs) w) :
    Calls Tryd.prog 14 #[.pointer (some ⟨b, 0, none⟩)] w fun e w' => e = .returned (.tuple #[.agg #[.int .u32 ((rdT (some bs)).1.src.toNat : Nat), .int .u32 ((rdT (some bs)).1.dst.toNat : Nat), .int .i64 (rdT (some bs)).1.proto, .int .i64 (rdT (some bs)).1.sport, .int .i64 (rdT (some bs)).1.dport], .bool (rdT (some bs)).2]) ∧ RWo W b (nk (some bs) 13) w' ∧ Kept [b] w w' := by
  have hk0 : Kept [b] w (w.alloc (.cells #[.int .u32 0, .int .u32 0, .int .i64 0, .int .i64 0, .int .i64 0] 24)) := (Kept.refl _ _).alloc _
  have B := Lib.hid (show Blk (w.alloc (.cells #[.int .u32 0, .int .u32 0, .int .i64 0, .int .i64 0, .int .i64 0] 24)) w.heap.size 24 #[.int .u32 0, .int .u32 0, .int .i64 0, .int .i64 0, .int .i64 0] from by (repeat (first | (apply Blk.new'; simp; done) | apply Blk.alloc | apply Blk.drew)))
  have R := Lib.hid (h.go ((Kept.refl [] w).alloc (.cells #[.int .u32 0, .int .u32 0, .int .i64 0, .int .i64 0, .int .i64 0] 24)))
  have hb := h.lt
  have K := Lib.hid hk0
  clear h hk0
  obtain ⟨n, hn⟩ : ∃ n, bs.length = n := ⟨_, rfl⟩
  by_cases h13 : n < 13
  · have hr : rdT (some bs) = (default, false) := by simp [rdT, nk, hn, h13]
    have hq := Lib.hid hr
    have hn := Lib.hid hn
    clear hr
    have q : decide ((n : Int) < 13) = true := by simp; omega
    go_enter Tryd.func14, Tryd.ntmps14
    go_wp2_with (first
      | (go_at_call 37
         go_must (refine (DLeft R.out).mono ?_)
         go_must (rintro e w' ⟨rfl, rfl⟩)
         go_must (rw [hn.out]))
      | (go_at_call 38
         go_must (refine (DRaw R.out 13).mono ?_)
         go_must (rintro e w1 ⟨v, rfl, h1, k1⟩)
         go_must (have B := Lib.hid (B.out.kept k1 (by simp; omega)))
         go_must (have R := Lib.hid h1)
         go_must (have K := Lib.hid (K.out.trans k1 (by simp)))
         go_must (clear h1 k1))
      | ((with_reducible show wpList _ _ _ ({ dst := none, op := Op.store 24 (.tmp 2) (.tmp 12), type := _, pos := _, after := _, guard := _ } :: _) _ _); refine wpList_put (t := 24) rfl 24 (.tmp 2) (.tmp 12) rfl _ (by rfl) (by rfl) (by exact B.out) (by rfl) (by kernel_rfl) (by simp [Value.oneCell']) ?_; intro w9 hb9 hk9; have Hb9 := Lib.hid hb9; have Hk9 := Lib.hid hk9; clear hb9 hk9))
    refine bodyPost_ret (results_cell1 (t := 24) Tryd.results14 (by rfl) Hb9.out _ Tryd.underlying24 rfl (by kernel_rfl)) rfl ?_
    rw [hq.out]
    exact ⟨rfl, R.out.other Hk9.out (by simp; omega), K.out.trans Hk9.out (fun i hi => .inr (by simp at hi; omega))⟩
  · obtain ⟨T, hT⟩ : ∃ T, tupOf (some bs) = T := ⟨_, rfl⟩
    have E1 := Lib.hid (show ((gk (some bs) 4 : Nat) : Int) = (T.src.toNat : Nat) by rw [← hT]; simp only [tupOf, gad_nat])
    have E2 := Lib.hid (show ((gk (nk (some bs) 4) 4 : Nat) : Int) = (T.dst.toNat : Nat) by rw [← hT]; simp only [tupOf, gad_nat])
    have E3 := Lib.hid (show ((gk (nk (nk (some bs) 4) 4) 1 : Nat) : Int) = T.proto by rw [← hT]; rfl)
    have E4 := Lib.hid (show ((gk (nk (nk (nk (some bs) 4) 4) 1) 2 : Nat) : Int) = T.sport by rw [← hT]; rfl)
    have E5 := Lib.hid (show ((gk (nk (nk (nk (nk (some bs) 4) 4) 1) 2) 2 : Nat) : Int) = T.dport by rw [← hT]; rfl)
    have hr : rdT (some bs) = if mayT T then (T, true) else (default, false) := by simp [rdT, nk, hn, h13, hT]
    have hq := Lib.hid hr
    have hN := Lib.hid (nkT_eq (some bs))
    have hn := Lib.hid hn
    clear hr hT
    have q : decide ((n : Int) < 13) = false := by simp; omega
    cases hm : mayT T
    all_goals
      go_enter Tryd.func14, Tryd.ntmps14
      go_wp2_with (first
        | (go_at_call 37
           go_must (refine (DLeft R.out).mono ?_)
           go_must (rintro e w' ⟨rfl, rfl⟩)
           go_must (rw [hn.out]))
        | (go_at_call 35
           go_must (refine (DU32 R.out).mono ?_)
           go_must (rintro e w1 ⟨rfl, h1, k1⟩)
           go_must (first | rw [E1.out] | rw [E2.out])
           go_must (have hb := h1.lt)
           go_must (have B := Lib.hid (B.out.kept k1 (by simp; omega)))
           go_must (have R := Lib.hid h1)
           go_must (have K := Lib.hid (K.out.trans k1 (by simp)))
           go_must (clear h1 k1))
        | (go_at_call 39
           go_must (refine (DU8 R.out).mono ?_)
           go_must (rintro e w3 ⟨rfl, h1, k1⟩)
           go_must (rw [E3.out])
           go_must (have hb := h1.lt)
           go_must (have B := Lib.hid (B.out.kept k1 (by simp; omega)))
           go_must (have hb3 := B.out.lt)
           go_must (have R := Lib.hid h1)
           go_must (have K := Lib.hid (K.out.trans k1 (by simp)))
           go_must (clear h1 k1))
        | (go_at_call 36
           first
             | (with_reducible refine (DU16 (R.out.go ((Kept.refl [] w3).alloc _))).mono ?_
                go_must (rintro e w4 ⟨rfl, h1, k1⟩)
                go_must (rw [E4.out])
                go_must (have X := Lib.hid ((show Blk (w3.alloc (.cells #[.int .u32 (T.src.toNat : Nat), .int .u32 (T.dst.toNat : Nat), .int .i64 T.proto, .int .i64 0, .int .i64 0] 24)) w3.heap.size 24 #[.int .u32 (T.src.toNat : Nat), .int .u32 (T.dst.toNat : Nat), .int .i64 T.proto, .int .i64 0, .int .i64 0] from by (repeat (first | (apply Blk.new'; simp; done) | apply Blk.alloc | apply Blk.drew))).kept k1 (by simp; omega)))
                go_must (have B := Lib.hid ((B.out.alloc _).kept k1 (by simp; omega)))
                go_must (have hb4 := h1.lt)
                go_must (have R := Lib.hid h1)
                go_must (have K := Lib.hid ((K.out.alloc _).trans k1 (by simp)))
                go_must (clear h1 k1))
             | (go_must (refine (DU16 R.out).mono ?_)
                go_must (rintro e w5 ⟨rfl, h1, k1⟩)
                go_must (rw [E5.out])
                go_must (have X := Lib.hid (X.out.kept k1 (by simp; omega)))
                go_must (have hcx := X.out.cell)
                go_must (have hfx := X.out.frozen)
                go_must (have B := Lib.hid (B.out.kept k1 (by simp; omega)))
                go_must (have hb5 := h1.lt)
                go_must (have R := Lib.hid h1)
                go_must (have K := Lib.hid (K.out.trans k1 (by simp)))
                go_must (clear h1 k1)))
        | (go_at_call 8
           go_must (refine (tMay_any _ T).mono ?_)
           go_must (rintro e w6 ⟨rfl, k1⟩)
           go_must (rw [hm])
           go_must (clear hcx hfx)
           go_must (have hk5 : Kept [w3.heap.size] w5 ((w5.setCell ⟨w3.heap.size, 3, none⟩ (.int .i64 T.sport)).setCell ⟨w3.heap.size, 4, none⟩ (.int .i64 T.dport)) := ((Kept.refl _ _).setCell (.inl (by simp)) _).setCell (.inl (by simp)) _)
           go_must (have X := Lib.hid (show Blk w6 w3.heap.size 24 #[.int .u32 (T.src.toNat : Nat), .int .u32 (T.dst.toNat : Nat), .int .i64 T.proto, .int .i64 T.sport, .int .i64 T.dport] from ((X.out.set 3 (.int .i64 T.sport)).set 4 (.int .i64 T.dport)).kept k1 (by simp)))
           go_must (have B := Lib.hid ((B.out.kept hk5 (by simp; omega)).kept k1 (by simp)))
           go_must (have R := Lib.hid ((R.out.other hk5 (by simp; omega)).go k1))
           go_must (have K := Lib.hid ((K.out.trans hk5 (fun i hi => .inr (by simp at hi; omega))).trans k1 (by simp)))
           go_must (have hcx := X.out.cell)
           go_must (clear k1 hk5))
        | ((with_reducible show wpList _ _ _ ({ dst := none, op := Op.store 24 (.tmp 2) (.tmp 33), type := _, pos := _, after := _, guard := _ } :: _) _ _); refine wpList_put (t := 24) rfl 24 (.tmp 2) (.tmp 33) rfl _ (by rfl) (by rfl) (by exact B.out) (by rfl) (by kernel_rfl) (by simp [Value.oneCell']) ?_; intro w9 hb9 hk9; have Hb9 := Lib.hid hb9; have Hk9 := Lib.hid hk9; clear hb9 hk9)
        | ((with_reducible show wpList _ _ _ ({ dst := none, op := Op.store 24 (.tmp 2) (.tmp 34), type := _, pos := _, after := _, guard := _ } :: _) _ _); refine wpList_put (t := 24) rfl 24 (.tmp 2) (.tmp 34) rfl _ (by rfl) (by rfl) (by exact B.out) (by rfl) (by kernel_rfl) (by simp [Value.oneCell']) ?_; intro w9 hb9 hk9; have Hb9 := Lib.hid hb9; have Hk9 := Lib.hid hk9; clear hb9 hk9))
      refine bodyPost_ret (results_cell1 (t := 24) Tryd.results14 (by rfl) Hb9.out _ Tryd.underlying24 rfl (by kernel_rfl)) rfl ?_
      rw [hq.out, hm]
      refine ⟨rfl, hN.out ▸ R.out.other Hk9.out (by simp; omega), K.out.trans Hk9.out (fun i hi => .inr (by simp at hi; omega))⟩
end Go.Proofs.YtflbeipnnmeiaaaDoor
