
/-
  Records brought to a newer format: plain laws; the contracts of migrate's inner functions.
-/
import Derived.Test.YtogdpfjbclnlnaaRecP
import Derived.Test.YtogdpfjbclnlnaaRecN
import Derived.Test.YtogdpfjbclnlnaaPut
import Derived.Laws.EntriesVeiled
import Derived.Outline
namespace Go.Proofs.Ytogdpfjbclnlnaa
open Go.RowKit Go.ChangeShapes Go.WideShapes Go.Deep
set_option linter.unusedVariables false

def waysB (a b : Int) : Bool := decide (1 ≤ a) && (decide (a ≤ b) && decide (b ≤ 3))
def stepR (s : Int) (r : RecD) : RecD := if r.kind = 1 then (if s = 1 then { r with fg := 1 } else if s = 2 then { r with fs := 0 } else r) else r
/-- so many steps, from a format on -/
def stepsK (p : RecD) (a : Int) : Nat → RecD
  | 0 => p
  | k + 1 => stepR (a + k) (stepsK p a k)
def migP (p : RecD) (a b : Int) : RecD := if p.kind = 1 then { p with fg := if a = 1 ∧ 2 ≤ b then 1 else p.fg, fs := if a ≤ 2 ∧ b = 3 then 0 else p.fs } else p
def migE (r : RecD) (a b : Int) : Int := if waysB a b = true then (if mayR r = true then 0 else 1) else 10
def migR (r : RecD) (a b : Int) : RecD := if waysB a b = true ∧ mayR r = true then migP (inR r a) a b else default
theorem stepR_kind (s : Int) (r : RecD) : (stepR s r).kind = r.kind := by
  unfold stepR; repeat' split
  all_goals rfl
theorem stepR_backs (s : Int) (r : RecD) : (stepR s r).backs = r.backs := by
  unfold stepR; repeat' split
  all_goals rfl
theorem stepsK_backs (p : RecD) (a : Int) : ∀ k, (stepsK p a k).backs = p.backs
  | 0 => rfl
  | k + 1 => by rw [stepsK, stepR_backs, stepsK_backs p a k]
theorem steps_mig {p : RecD} {a b : Int} (h : waysB a b = true) : stepsK p a (b - a).toNat = migP p a b := by
  simp [waysB] at h
  have hc : (a = 1 ∧ b = 1) ∨ (a = 1 ∧ b = 2) ∨ (a = 1 ∧ b = 3) ∨ (a = 2 ∧ b = 2) ∨ (a = 2 ∧ b = 3) ∨ (a = 3 ∧ b = 3) := by omega
  cases p with
  | mk kind tup fb fg fs gen backs back until_ count =>
    by_cases hk : kind = 1
    · subst hk
      rcases hc with ⟨rfl, rfl⟩ | ⟨rfl, rfl⟩ | ⟨rfl, rfl⟩ | ⟨rfl, rfl⟩ | ⟨rfl, rfl⟩ | ⟨rfl, rfl⟩ <;> simp [stepsK, stepR, migP]
    · rcases hc with ⟨rfl, rfl⟩ | ⟨rfl, rfl⟩ | ⟨rfl, rfl⟩ | ⟨rfl, rfl⟩ | ⟨rfl, rfl⟩ | ⟨rfl, rfl⟩ <;> simp [stepsK, stepR, migP, hk]
def stepsN (a b : Int) : Int := if waysB a b = true then b - a else 0
theorem ways_any (w : World) (a b : Int) : Calls Try.prog 51 #[.int .i64 a, .int .i64 b] w fun e w' => e = .returned (.bool (waysB a b)) ∧ w = w' := by
  by_cases h1 : 1 ≤ a <;> by_cases h2 : a ≤ b
  all_goals
    go_enter Try.func51, Try.ntmps51
    go_wp2
    all_goals
      go_ret
      refine ⟨ret_bool ?_, rfl⟩
      rw [Bool.eq_iff_iff]; simp [waysB]; omega
theorem Steps_any (w : World) (a b : Int) : Calls Try.prog 24 #[.int .i64 a, .int .i64 b] w fun e w' => e = .returned (.int .i64 (stepsN a b)) ∧ w = w' := by
  cases h : waysB a b
  · have H0 := Lib.hid (show stepsN a b = 0 by simp [stepsN, h])
    go_enter Try.func24, Try.ntmps24
    go_wp2_with (go_at_call 51; refine (ways_any _ _ _).mono ?_; rintro e w' ⟨rfl, rfl⟩; rw [h])
    go_ret
    exact ⟨by rw [H0.out]; simp, rfl⟩
  · have hb := h
    simp [waysB] at hb
    have b1 : 1 ≤ a := hb.1
    have b2 : a ≤ b := hb.2.1
    have b3 : b ≤ 3 := hb.2.2
    have H0 := Lib.hid (show stepsN a b = b - a by simp [stepsN, h])
    clear hb
    go_enter Try.func24, Try.ntmps24
    go_wp2_with (go_at_call 51; refine (ways_any _ _ _).mono ?_; rintro e w' ⟨rfl, rfl⟩; rw [h])
    go_ret
    exact ⟨by rw [H0.out]; simp, rfl⟩
theorem rSteps_any (w : World) (a b : Int) : Calls Try.prog 25 #[.int .i64 a, .int .i64 b] w fun e w' => e = .returned (.int .i64 (stepsN a b)) ∧ w = w' := by
  have hw : (verB a = false ∧ waysB a b = false) ∨ (verB a = true ∧ verB b = false ∧ waysB a b = false) ∨ (verB a = true ∧ verB b = true ∧ b < a ∧ waysB a b = false) ∨ (verB a = true ∧ verB b = true ∧ 1 ≤ a ∧ a ≤ b ∧ b ≤ 3 ∧ waysB a b = true) := by
    simp only [verB, waysB, Bool.and_eq_true, Bool.and_eq_false_iff, decide_eq_true_eq, decide_eq_false_iff_not]; omega
  rcases hw with ⟨h1, h0⟩ | ⟨h1, h2, h0⟩ | ⟨h1, h2, h3, h0⟩ | ⟨h1, h2, h3, h4, h5, h0⟩
  all_goals
    first
      | (have H00 : stepsN a b = 0 := by simp [stepsN, h0])
      | (have H00 : stepsN a b = b - a := by simp [stepsN, h0])
    have H0 := Lib.hid H00
    clear H00
    clear h0
    go_enter Try.func25, Try.ntmps25
    go_wp2_with (go_at_call 40; refine (rVersion_any _ _).mono ?_; rintro e w' ⟨rfl, rfl⟩; first | rw [h1] | rw [h2])
    go_ret
    exact ⟨by rw [H0.out]; simp, rfl⟩
set_option maxHeartbeats 3200000 in
set_option maxRecDepth 100000 in
theorem SR_any (w : World) {A : Option Addr} {m c : Nat} (s : Int) (x : RecD) :
    Calls Try.prog 85 #[.int .i64 s, .agg #[.int .i64 x.kind, .int .u32 (x.tup.src.toNat : Nat), .int .u32 (x.tup.dst.toNat : Nat), .int .i64 x.tup.proto, .int .i64 x.tup.sport, .int .i64 x.tup.dport, .int .i64 x.fb, .int .i64 x.fg, .int .i64 x.fs, .int .i64 x.gen, .slice A m c, .int .i64 x.back, .int .i64 x.until_, .int .i64 x.count]] w fun e w' => e = .returned (.agg #[.int .i64 (stepR s x).kind, .int .u32 ((stepR s x).tup.src.toNat : Nat), .int .u32 ((stepR s x).tup.dst.toNat : Nat), .int .i64 (stepR s x).tup.proto, .int .i64 (stepR s x).tup.sport, .int .i64 (stepR s x).tup.dport, .int .i64 (stepR s x).fb, .int .i64 (stepR s x).fg, .int .i64 (stepR s x).fs, .int .i64 (stepR s x).gen, .slice A m c, .int .i64 (stepR s x).back, .int .i64 (stepR s x).until_, .int .i64 (stepR s x).count]) ∧ Kept [] w w' := by
  have hk0 : Kept [] w ((w.alloc (.cells #[.int .i64 x.kind, .int .u32 (x.tup.src.toNat : Nat), .int .u32 (x.tup.dst.toNat : Nat), .int .i64 x.tup.proto, .int .i64 x.tup.sport, .int .i64 x.tup.dport, .int .i64 x.fb, .int .i64 x.fg, .int .i64 x.fs, .int .i64 x.gen, .slice A m c, .int .i64 x.back, .int .i64 x.until_, .int .i64 x.count] 29)).alloc (.cells #[.int .i64 0, .int .u32 0, .int .u32 0, .int .i64 0, .int .i64 0, .int .i64 0, .int .i64 0, .int .i64 0, .int .i64 0, .int .i64 0, .slice none 0 0, .int .i64 0, .int .i64 0, .int .i64 0] 29)) := by (repeat (first | exact Kept.refl _ _ | apply Kept.alloc | apply Kept.drew))
  have P := Lib.hid (show Blk ((w.alloc (.cells #[.int .i64 x.kind, .int .u32 (x.tup.src.toNat : Nat), .int .u32 (x.tup.dst.toNat : Nat), .int .i64 x.tup.proto, .int .i64 x.tup.sport, .int .i64 x.tup.dport, .int .i64 x.fb, .int .i64 x.fg, .int .i64 x.fs, .int .i64 x.gen, .slice A m c, .int .i64 x.back, .int .i64 x.until_, .int .i64 x.count] 29)).alloc (.cells #[.int .i64 0, .int .u32 0, .int .u32 0, .int .i64 0, .int .i64 0, .int .i64 0, .int .i64 0, .int .i64 0, .int .i64 0, .int .i64 0, .slice none 0 0, .int .i64 0, .int .i64 0, .int .i64 0] 29)) w.heap.size 29 #[.int .i64 x.kind, .int .u32 (x.tup.src.toNat : Nat), .int .u32 (x.tup.dst.toNat : Nat), .int .i64 x.tup.proto, .int .i64 x.tup.sport, .int .i64 x.tup.dport, .int .i64 x.fb, .int .i64 x.fg, .int .i64 x.fs, .int .i64 x.gen, .slice A m c, .int .i64 x.back, .int .i64 x.until_, .int .i64 x.count] from by (repeat (first | (apply Blk.new'; simp; done) | apply Blk.alloc | apply Blk.drew)))
  have B := Lib.hid (show Blk ((w.alloc (.cells #[.int .i64 x.kind, .int .u32 (x.tup.src.toNat : Nat), .int .u32 (x.tup.dst.toNat : Nat), .int .i64 x.tup.proto, .int .i64 x.tup.sport, .int .i64 x.tup.dport, .int .i64 x.fb, .int .i64 x.fg, .int .i64 x.fs, .int .i64 x.gen, .slice A m c, .int .i64 x.back, .int .i64 x.until_, .int .i64 x.count] 29)).alloc (.cells #[.int .i64 0, .int .u32 0, .int .u32 0, .int .i64 0, .int .i64 0, .int .i64 0, .int .i64 0, .int .i64 0, .int .i64 0, .int .i64 0, .slice none 0 0, .int .i64 0, .int .i64 0, .int .i64 0] 29)) (w.heap.size + 1) 29 #[.int .i64 0, .int .u32 0, .int .u32 0, .int .i64 0, .int .i64 0, .int .i64 0, .int .i64 0, .int .i64 0, .int .i64 0, .int .i64 0, .slice none 0 0, .int .i64 0, .int .i64 0, .int .i64 0] from by (repeat (first | (apply Blk.new'; simp; done) | apply Blk.alloc | apply Blk.drew)))
  have K := Lib.hid hk0
  clear hk0
  have hw : (x.kind ≠ 1 ∧ stepR s x = x) ∨ (x.kind = 1 ∧ s = 1 ∧ stepR s x = { x with fg := 1 }) ∨ (x.kind = 1 ∧ s ≠ 1 ∧ s = 2 ∧ stepR s x = { x with fs := 0 }) ∨ (x.kind = 1 ∧ s ≠ 1 ∧ s ≠ 2 ∧ stepR s x = x) := by
    unfold stepR
    by_cases h1 : x.kind = 1 <;> by_cases h2 : s = 1 <;> by_cases h3 : s = 2 <;> simp [h1, h2, h3]
  rcases hw with ⟨h1, hx⟩ | ⟨h1, h2, hx⟩ | ⟨h1, h2, h3, hx⟩ | ⟨h1, h2, h3, hx⟩
  · have HX := Lib.hid hx
    have b1 : (x.kind == 1) = false := by simp [h1]
    have n1 : (x.kind != 1) = true := by simp [h1]
    clear h1 hx
    go_enter Try.func85, Try.ntmps85
    go_wp2_with ((with_reducible show wpList _ _ _ ({ dst := none, op := Op.store 29 (.tmp 4) (.tmp 8), type := _, pos := _, after := _, guard := _ } :: _) _ _); refine wpList_put (t := 29) rfl 29 (.tmp 4) (.tmp 8) rfl _ (by rfl) (by rfl) (by exact B.out) (by rfl) (by kernel_rfl) (by simp [Value.oneCell']) ?_; intro w9 hb9 hk9; have Hb9 := Lib.hid hb9; have Hk9 := Lib.hid hk9; clear hb9 hk9)
    refine bodyPost_ret (results_cell (t := 29) Try.results85 (by rfl) Hb9.out _ Try.underlying29 rfl (by kernel_rfl)) rfl ?_
    rw [HX.out]
    exact ⟨rfl, K.out.trans Hk9.out (fun i hi => .inr (by simp at hi; omega))⟩
  · have HX := Lib.hid hx
    have b1 : (x.kind == 1) = true := by simp [h1]
    have n1 : (x.kind != 1) = false := by simp [h1]
    have s1 : (s == 1) = true := by simp [h2]
    clear h1 h2 hx
    go_enter Try.func85, Try.ntmps85
    go_wp2_with (first
      | (with_reducible show wpList _ _ _ ({ dst := none, op := Op.store 3 (.tmp 13) _, type := _, pos := _, after := _, guard := _ } :: _) _ _
         go_must (refine wpList_putAt (t := 29) (v := .int .i64 1) rfl 3 (.tmp 13) _ rfl (by rfl) (by rfl) P.out (by simp [Value.cells]) (by kernel_rfl) (by simp [Value.cells, Value.oneCell']) ?_)
         go_must (intro w3 h1 k1)
         go_must (have P := Lib.hid (show Blk w3 w.heap.size 29 #[.int .i64 x.kind, .int .u32 (x.tup.src.toNat : Nat), .int .u32 (x.tup.dst.toNat : Nat), .int .i64 x.tup.proto, .int .i64 x.tup.sport, .int .i64 x.tup.dport, .int .i64 x.fb, .int .i64 1, .int .i64 x.fs, .int .i64 x.gen, .slice A m c, .int .i64 x.back, .int .i64 x.until_, .int .i64 x.count] from h1))
         go_must (have B := Lib.hid (B.out.kept k1 (by simp)))
         go_must (have K := Lib.hid (K.out.trans k1 (fun i hi => .inr (by simp at hi; omega))))
         go_must (clear h1 k1)
         go_must (have hcx := P.out.cell))
      | ((with_reducible show wpList _ _ _ ({ dst := none, op := Op.store 29 (.tmp 4) (.tmp 18), type := _, pos := _, after := _, guard := _ } :: _) _ _); refine wpList_put (t := 29) rfl 29 (.tmp 4) (.tmp 18) rfl _ (by rfl) (by rfl) (by exact B.out) (by rfl) (by kernel_rfl) (by simp [Value.oneCell']) ?_; intro w9 hb9 hk9; have Hb9 := Lib.hid hb9; have Hk9 := Lib.hid hk9; clear hb9 hk9))
    refine bodyPost_ret (results_cell (t := 29) Try.results85 (by rfl) Hb9.out _ Try.underlying29 rfl (by kernel_rfl)) rfl ?_
    rw [HX.out]
    exact ⟨rfl, K.out.trans Hk9.out (fun i hi => .inr (by simp at hi; omega))⟩
  · have HX := Lib.hid hx
    have b1 : (x.kind == 1) = true := by simp [h1]
    have n1 : (x.kind != 1) = false := by simp [h1]
    have s1 : (s == 1) = false := by simp [h2]
    have s2 : (s == 2) = true := by simp [h3]
    clear h1 h2 h3 hx
    go_enter Try.func85, Try.ntmps85
    go_wp2_with (first
      | (with_reducible show wpList _ _ _ ({ dst := none, op := Op.store 2 (.tmp 17) _, type := _, pos := _, after := _, guard := _ } :: _) _ _
         go_must (refine wpList_putAt (t := 29) (v := .int .i64 0) rfl 2 (.tmp 17) _ rfl (by rfl) (by rfl) P.out (by simp [Value.cells]) (by kernel_rfl) (by simp [Value.cells, Value.oneCell']) ?_)
         go_must (intro w3 h1 k1)
         go_must (have P := Lib.hid (show Blk w3 w.heap.size 29 #[.int .i64 x.kind, .int .u32 (x.tup.src.toNat : Nat), .int .u32 (x.tup.dst.toNat : Nat), .int .i64 x.tup.proto, .int .i64 x.tup.sport, .int .i64 x.tup.dport, .int .i64 x.fb, .int .i64 x.fg, .int .i64 0, .int .i64 x.gen, .slice A m c, .int .i64 x.back, .int .i64 x.until_, .int .i64 x.count] from h1))
         go_must (have B := Lib.hid (B.out.kept k1 (by simp)))
         go_must (have K := Lib.hid (K.out.trans k1 (fun i hi => .inr (by simp at hi; omega))))
         go_must (clear h1 k1)
         go_must (have hcx := P.out.cell))
      | ((with_reducible show wpList _ _ _ ({ dst := none, op := Op.store 29 (.tmp 4) (.tmp 18), type := _, pos := _, after := _, guard := _ } :: _) _ _); refine wpList_put (t := 29) rfl 29 (.tmp 4) (.tmp 18) rfl _ (by rfl) (by rfl) (by exact B.out) (by rfl) (by kernel_rfl) (by simp [Value.oneCell']) ?_; intro w9 hb9 hk9; have Hb9 := Lib.hid hb9; have Hk9 := Lib.hid hk9; clear hb9 hk9))
    refine bodyPost_ret (results_cell (t := 29) Try.results85 (by rfl) Hb9.out _ Try.underlying29 rfl (by kernel_rfl)) rfl ?_
    rw [HX.out]
    exact ⟨rfl, K.out.trans Hk9.out (fun i hi => .inr (by simp at hi; omega))⟩
  · have HX := Lib.hid hx
    have b1 : (x.kind == 1) = true := by simp [h1]
    have n1 : (x.kind != 1) = false := by simp [h1]
    have s1 : (s == 1) = false := by simp [h2]
    have s2 : (s == 2) = false := by simp [h3]
    clear h1 h2 h3 hx
    go_enter Try.func85, Try.ntmps85
    go_wp2_with ((with_reducible show wpList _ _ _ ({ dst := none, op := Op.store 29 (.tmp 4) (.tmp 18), type := _, pos := _, after := _, guard := _ } :: _) _ _); refine wpList_put (t := 29) rfl 29 (.tmp 4) (.tmp 18) rfl _ (by rfl) (by rfl) (by exact B.out) (by rfl) (by kernel_rfl) (by simp [Value.oneCell']) ?_; intro w9 hb9 hk9; have Hb9 := Lib.hid hb9; have Hk9 := Lib.hid hk9; clear hb9 hk9)
    refine bodyPost_ret (results_cell (t := 29) Try.results85 (by rfl) Hb9.out _ Try.underlying29 rfl (by kernel_rfl)) rfl ?_
    rw [HX.out]
    exact ⟨rfl, K.out.trans Hk9.out (fun i hi => .inr (by simp at hi; omega))⟩
set_option maxHeartbeats 3200000 in
set_option maxRecDepth 100000 in
theorem S1_any (w : World) {A : Option Addr} {m c : Nat} (v : Int) (x : RecD) {b5 bv : Nat} (h5 : Blk w b5 108 #[.func (.func 85) #[] #[]]) (hv : Blk w bv 3 #[.int .i64 v]) :
    Calls Try.prog 86 #[.agg #[.int .i64 x.kind, .int .u32 (x.tup.src.toNat : Nat), .int .u32 (x.tup.dst.toNat : Nat), .int .i64 x.tup.proto, .int .i64 x.tup.sport, .int .i64 x.tup.dport, .int .i64 x.fb, .int .i64 x.fg, .int .i64 x.fs, .int .i64 x.gen, .slice A m c, .int .i64 x.back, .int .i64 x.until_, .int .i64 x.count], .pointer (some ⟨b5, 0, none⟩), .pointer (some ⟨bv, 0, none⟩)] w fun e w' => e = .returned (.agg #[.int .i64 (stepR v x).kind, .int .u32 ((stepR v x).tup.src.toNat : Nat), .int .u32 ((stepR v x).tup.dst.toNat : Nat), .int .i64 (stepR v x).tup.proto, .int .i64 (stepR v x).tup.sport, .int .i64 (stepR v x).tup.dport, .int .i64 (stepR v x).fb, .int .i64 (stepR v x).fg, .int .i64 (stepR v x).fs, .int .i64 (stepR v x).gen, .slice A m c, .int .i64 (stepR v x).back, .int .i64 (stepR v x).until_, .int .i64 (stepR v x).count]) ∧ Kept [] w w' := by
  have hk0 : Kept [] w ((w.alloc (.cells #[.int .i64 x.kind, .int .u32 (x.tup.src.toNat : Nat), .int .u32 (x.tup.dst.toNat : Nat), .int .i64 x.tup.proto, .int .i64 x.tup.sport, .int .i64 x.tup.dport, .int .i64 x.fb, .int .i64 x.fg, .int .i64 x.fs, .int .i64 x.gen, .slice A m c, .int .i64 x.back, .int .i64 x.until_, .int .i64 x.count] 29)).alloc (.cells #[.int .i64 0, .int .u32 0, .int .u32 0, .int .i64 0, .int .i64 0, .int .i64 0, .int .i64 0, .int .i64 0, .int .i64 0, .int .i64 0, .slice none 0 0, .int .i64 0, .int .i64 0, .int .i64 0] 29)) := by (repeat (first | exact Kept.refl _ _ | apply Kept.alloc | apply Kept.drew))
  have P := Lib.hid (show Blk ((w.alloc (.cells #[.int .i64 x.kind, .int .u32 (x.tup.src.toNat : Nat), .int .u32 (x.tup.dst.toNat : Nat), .int .i64 x.tup.proto, .int .i64 x.tup.sport, .int .i64 x.tup.dport, .int .i64 x.fb, .int .i64 x.fg, .int .i64 x.fs, .int .i64 x.gen, .slice A m c, .int .i64 x.back, .int .i64 x.until_, .int .i64 x.count] 29)).alloc (.cells #[.int .i64 0, .int .u32 0, .int .u32 0, .int .i64 0, .int .i64 0, .int .i64 0, .int .i64 0, .int .i64 0, .int .i64 0, .int .i64 0, .slice none 0 0, .int .i64 0, .int .i64 0, .int .i64 0] 29)) w.heap.size 29 #[.int .i64 x.kind, .int .u32 (x.tup.src.toNat : Nat), .int .u32 (x.tup.dst.toNat : Nat), .int .i64 x.tup.proto, .int .i64 x.tup.sport, .int .i64 x.tup.dport, .int .i64 x.fb, .int .i64 x.fg, .int .i64 x.fs, .int .i64 x.gen, .slice A m c, .int .i64 x.back, .int .i64 x.until_, .int .i64 x.count] from by (repeat (first | (apply Blk.new'; simp; done) | apply Blk.alloc | apply Blk.drew)))
  have B := Lib.hid (show Blk ((w.alloc (.cells #[.int .i64 x.kind, .int .u32 (x.tup.src.toNat : Nat), .int .u32 (x.tup.dst.toNat : Nat), .int .i64 x.tup.proto, .int .i64 x.tup.sport, .int .i64 x.tup.dport, .int .i64 x.fb, .int .i64 x.fg, .int .i64 x.fs, .int .i64 x.gen, .slice A m c, .int .i64 x.back, .int .i64 x.until_, .int .i64 x.count] 29)).alloc (.cells #[.int .i64 0, .int .u32 0, .int .u32 0, .int .i64 0, .int .i64 0, .int .i64 0, .int .i64 0, .int .i64 0, .int .i64 0, .int .i64 0, .slice none 0 0, .int .i64 0, .int .i64 0, .int .i64 0] 29)) (w.heap.size + 1) 29 #[.int .i64 0, .int .u32 0, .int .u32 0, .int .i64 0, .int .i64 0, .int .i64 0, .int .i64 0, .int .i64 0, .int .i64 0, .int .i64 0, .slice none 0 0, .int .i64 0, .int .i64 0, .int .i64 0] from by (repeat (first | (apply Blk.new'; simp; done) | apply Blk.alloc | apply Blk.drew)))
  have K := Lib.hid hk0
  have hc5 := (h5.kept hk0 (by simp)).cell 0
  have hcv := (hv.kept hk0 (by simp)).cell 0
  simp at hc5 hcv
  clear hk0 h5 hv
  go_enter Try.func86, Try.ntmps86
  go_wp2_with (first
    | (go_at_call 85
       go_must (refine (SR_any _ v x).mono ?_)
       go_must (rintro e w1 ⟨rfl, k1⟩)
       go_must (have B := Lib.hid (B.out.kept k1 (by simp)))
       go_must (have K := Lib.hid (K.out.trans k1 (by simp)))
       go_must (clear k1 hc5 hcv))
    | ((with_reducible show wpList _ _ _ ({ dst := none, op := Op.store 29 (.tmp 4) (.tmp 8), type := _, pos := _, after := _, guard := _ } :: _) _ _); refine wpList_put (t := 29) rfl 29 (.tmp 4) (.tmp 8) rfl _ (by rfl) (by rfl) (by exact B.out) (by rfl) (by kernel_rfl) (by simp [Value.oneCell']) ?_; intro w9 hb9 hk9; have Hb9 := Lib.hid hb9; have Hk9 := Lib.hid hk9; clear hb9 hk9))
  refine bodyPost_ret (results_cell (t := 29) Try.results86 (by rfl) Hb9.out _ Try.underlying29 rfl (by kernel_rfl)) rfl ?_
  exact ⟨rfl, K.out.trans Hk9.out (fun i hi => .inr (by simp at hi; omega))⟩

/-- a cell that is a step's function -/
def FnDec (w : World) (G : List Nat) (cs : List Value) (v : Int) : Prop := ∃ b5 bv, cs = [.func (.func 86) #[] #[.pointer (some ⟨b5, 0, none⟩), .pointer (some ⟨bv, 0, none⟩)]] ∧ Blk w b5 108 #[.func (.func 85) #[] #[]] ∧ Blk w bv 3 #[.int .i64 v] ∧ b5 ∈ G ∧ bv ∈ G
theorem FnOk : DecOk 1 FnDec where
  len := by rintro w G cs f ⟨b5, bv, rfl, _⟩; rfl
  one := by rintro w G cs f ⟨b5, bv, rfl, _⟩ u hu; simp at hu; subst hu; rfl
  kept := by rintro w w' G S cs f ⟨b5, bv, rfl, h1, h2, h3, h4⟩ hk hd; exact ⟨b5, bv, rfl, h1.kept hk (hd _ h3), h2.kept hk (hd _ h4), h3, h4⟩
  mono := by rintro w G G' cs f ⟨b5, bv, rfl, h1, h2, h3, h4⟩ hg; exact ⟨b5, bv, rfl, h1, h2, hg _ h3, hg _ h4⟩
abbrev FnArr (w : World) (G : List Nat) (v : Value) (l : List Int) : Prop := ArrOf w G 1 (fun w => FnDec w G) v l
theorem FnArr.kept {w w' : World} {G S : List Nat} {v : Value} {l : List Int} (h : FnArr w G v l) (hk : Kept S w w') (hd : ∀ k ∈ G, k ∉ S) : FnArr w' G v l :=
  ArrOf.kept (Dec := fun w => FnDec w G) h hk hd (fun cs a h => FnOk.kept h hk hd)
theorem FnArr.at {w : World} {G : List Nat} {A : Option Addr} {m c : Nat} {l : List Int} (h : FnArr w G (.slice A m c) l) {k : Nat} (hk : k < l.length) :
    ∃ g o b5 bv, A = some ⟨g, o, none⟩ ∧ w.cell? ⟨g, o + k, none⟩ = some (.func (.func 86) #[] #[.pointer (some ⟨b5, 0, none⟩), .pointer (some ⟨bv, 0, none⟩)]) ∧ Blk w b5 108 #[.func (.func 85) #[] #[]] ∧ Blk w bv 3 #[.int .i64 l[k]] := by
  obtain ⟨A', m', c', e, h1, h2, h3, h4, h5⟩ := h
  injection e with e1 e2 e3
  subst e1 e2 e3
  obtain ⟨g, o, rfl, hg, hlt, hc⟩ := h5 (by rintro rfl; simp at hk)
  obtain ⟨cs, _, ⟨b5, bv, rfl, f1, f2, _⟩, hcell⟩ := hc k _ (List.getElem?_eq_getElem hk)
  exact ⟨g, o, b5, bv, rfl, by simpa using hcell 0 (by omega), f1, f2⟩
theorem info_fn : (Try.prog.info? 51).map (fun i => (i.zero, i.size, i.bytes)) = some (some .nilFunc, 1, 8) := by kernel_rfl
theorem elem_fn : Elem Try.prog 98 51 1 8 := Elem.mk' Try.underlying98 info_fn rfl (by omega)
def numsK (a : Int) (k : Nat) : List Int := (List.range k).map fun (i : Nat) => a + (i : Int)
theorem numsK_succ (a : Int) (k : Nat) : numsK a (k + 1) = numsK a k ++ [a + k] := by simp [numsK, List.range_succ]
theorem numsK_len (a : Int) (k : Nat) : (numsK a k).length = k := by simp [numsK]
theorem numsK_get (a : Int) (n k : Nat) (h : k < (numsK a n).length) : (numsK a n)[k] = a + k := by simp [numsK]
/-- the functions of so many steps, made since w, in blocks made since w -/
def FnS (w w' : World) (v : Value) (l : List Int) : Prop := ∃ css G, LVx FnDec 51 1 w w' v l css G ∧ ∀ k ∈ G, w.heap.size ≤ k
theorem FnS.form {w w' : World} {v : Value} {l : List Int} (h : FnS w w' v l) : ∃ A c, v = .slice A l.length c ∧ l.length ≤ c ∧ c ≤ maxLen := by
  obtain ⟨css, G, hx, _⟩ := h; exact hx.own.form
set_option maxHeartbeats 6400000 in
theorem steps_any (w : World) (a b : Int) (n : Nat) (h1 : 1 ≤ a) (hn : b = a + n) (h3 : b ≤ 3) :
    Calls Try.prog 76 #[.int .i64 a, .int .i64 b] w fun e w' => ∃ v, e = .returned v ∧ FnS w w' v (numsK a n) := by
  have hab : a ≤ b := by omega
  have hn2 : n ≤ 2 := by omega
  have HN := Lib.hid hn
  have hnb : b - a = n := by omega
  have HNB := Lib.hid hnb
  have B5 := Lib.hid (show Blk (w.alloc (.cells #[.func (.func 85) #[] #[]] 108)) w.heap.size 108 #[.func (.func 85) #[] #[]] from by (repeat (first | (apply Blk.new'; simp; done) | apply Blk.alloc | apply Blk.drew)))
  have B52 := Lib.hid (show Blk ((w.alloc (.cells #[.func (.func 85) #[] #[]] 108)).alloc (.cells #[.int .i64 a] 3)) w.heap.size 108 #[.func (.func 85) #[] #[]] from by (repeat (first | (apply Blk.new'; simp; done) | apply Blk.alloc | apply Blk.drew)))
  have BV := Lib.hid (show Blk ((w.alloc (.cells #[.func (.func 85) #[] #[]] 108)).alloc (.cells #[.int .i64 a] 3)) (w.heap.size + 1) 3 #[.int .i64 a] from by (repeat (first | (apply Blk.new'; simp; done) | apply Blk.alloc | apply Blk.drew)))
  have K := Lib.hid (show Kept [] w ((w.alloc (.cells #[.func (.func 85) #[] #[]] 108)).alloc (.cells #[.int .i64 a] 3)) from by (repeat (first | exact Kept.refl _ _ | apply Kept.alloc | apply Kept.drew)))
  clear hn hnb B5
  go_enter Try.func76, Try.ntmps76
  go_wp2
  go_loopg [6, 7] n (fun g sl p wr => ∃ k : Nat, k ≤ n ∧ g = n - k ∧ ∃ bv css G, p = .pointer (some ⟨bv, 0, none⟩) ∧ Blk wr bv 3 #[.int .i64 (a + k)] ∧ Blk wr w.heap.size 108 #[.func (.func 85) #[] #[]] ∧ w.heap.size < bv ∧ LVx FnDec 51 1 w wr sl (numsK a k) css G ∧ (∀ i ∈ G, w.heap.size ≤ i ∧ i < bv))
  case atStart => exact ⟨0, by omega, by omega, w.heap.size + 1, [], [], rfl, by simpa using BV.out, B52.out, by omega, ⟨Own.nil _ _ _, by simp [rowOf, Value.ownBlock], Decs.nil, by simp, K.out⟩, by simp⟩
  case round =>
    obtain ⟨k, hk, rfl, bv, css, G, rfl, hbv, hb5, hlt, hx, hG⟩ := hrel
    obtain ⟨A0, c0, rfl, hc1, hc2⟩ := hx.own.form
    unfold maxLen at hc2
    rw [numsK_len] at hc1
    have BV := Lib.hid hbv
    have B5 := Lib.hid hb5
    have X := Lib.hid hx
    have HG := Lib.hid hG
    have hlb := hbv.lt
    have hcv := hbv.cell
    have HL := Lib.hid (numsK_len a k)
    have HS := Lib.hid (numsK_succ a k)
    clear hbv hb5 hx hG
    by_cases hkn : k < n
    · have ik : a + k < b := by have := HN.out; omega
      have na : ((w.heap.size : Nat)) ∉ rowOf (.slice A0 (numsK a k).length c0) := X.out.own.ne_blk B5.out (by decide)
      have nb : bv ∉ rowOf (.slice A0 (numsK a k).length c0) := X.out.own.ne_blk BV.out (by decide)
      have ha3 : a ≤ 3 := by omega
      have hw1 : IntKind.i64.wrap (a + k + 1) = a + k + 1 := IntWalk.i64_in _ (by omega)
      go_wp2_with (at_builtin
                   go_must (refine wpList_app _ rfl (.tmp 14) (.tmp 16) 98 rfl elem_fn (by rfl) (X.out.go FnOk ((Kept.refl [] wr).alloc (.cells #[.func (.func 86) #[] #[.pointer (some ⟨w.heap.size, 0, none⟩), .pointer (some ⟨bv, 0, none⟩)]] 51))).own (by rfl) (Rd.laid wr [.func (.func 86) #[] #[.pointer (some ⟨w.heap.size, 0, none⟩), .pointer (some ⟨bv, 0, none⟩)]] _) rfl (by simp [Value.oneCell']) (by rw [HL.out]; unfold maxLen; omega) (by rw [HL.out]; omega) ?_)
                   go_must (intro v2 w2 ho hk2 hr)
                   go_must (have hx := LVx.app FnOk X.out ((Kept.refl [] wr).alloc (.cells #[.func (.func 86) #[] #[.pointer (some ⟨w.heap.size, 0, none⟩), .pointer (some ⟨bv, 0, none⟩)]] 51)) (css' := [[.func (.func 86) #[] #[.pointer (some ⟨w.heap.size, 0, none⟩), .pointer (some ⟨bv, 0, none⟩)]]]) (l' := [a + k]) (G' := [w.heap.size, bv]) (Decs.one' ⟨w.heap.size, bv, rfl, B5.out.alloc _, BV.out.alloc _, by simp, by simp⟩) (by intro i hi; simp at hi; rcases hi with rfl | rfl <;> exact ⟨by assumption, by simp; omega⟩) ho (by simp) (by simp) hk2 hr)
                   go_must (have B5 := Lib.hid ((B5.out.alloc (.cells #[.func (.func 86) #[] #[.pointer (some ⟨w.heap.size, 0, none⟩), .pointer (some ⟨bv, 0, none⟩)]] 51)).kept hk2 na))
                   go_must (have BV := Lib.hid ((BV.out.alloc (.cells #[.func (.func 86) #[] #[.pointer (some ⟨w.heap.size, 0, none⟩), .pointer (some ⟨bv, 0, none⟩)]] 51)).kept hk2 nb))
                   go_must (have hsz := hk2.size)
                   go_must (obtain ⟨A2, m2, c2, rfl⟩ := ho.form')
                   go_must (have NX := Lib.hid hx)
                   go_must (clear hcv hx ho hk2 hr na nb)
                   go_must (have hcv := BV.out.cell))
      simp at hsz
      go_roundg (n - (k + 1))
      case measure => omega
      case rel =>
        have hlt2 := B5.out.lt
        have hlt3 := BV.out.lt
        refine ⟨k + 1, by omega, rfl, w2.heap.size, css ++ [[.func (.func 86) #[] #[.pointer (some ⟨w.heap.size, 0, none⟩), .pointer (some ⟨bv, 0, none⟩)]]], G ++ [w.heap.size, bv], rfl, by simpa [Int.add_assoc] using Blk.new w2 3 #[.int .i64 (a + k + 1)], B5.out.alloc _, by omega, ?_, ?_⟩
        · rw [HS.out]; exact NX.out.go FnOk ((Kept.refl [] _).alloc _)
        · intro i hi
          simp at hi
          rcases hi with hi | rfl | rfl
          · have := HG.out i hi; omega
          · omega
          · omega
    · obtain rfl : n = k := by omega
      have ik : ¬ a + n < b := by have := HN.out; omega
      go_wp2
      go_ret
      exact ⟨_, rfl, css, G, X.out, fun i hi => (HG.out i hi).1⟩
end Go.Proofs.Ytogdpfjbclnlnaa
