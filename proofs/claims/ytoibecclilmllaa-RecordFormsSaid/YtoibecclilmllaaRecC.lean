
/-
  Contracts: a record plain, the same, may it be, as it is read.
-/
import Derived.Test.YtoibecclilmllaaRecB
import Derived.Test.YtoibecclilmllaaBlk
namespace Go.Proofs.Ytoibecclilmllaa
open Go.RowKit Go.ChangeShapes Go.WideShapes Go.Deep
set_option linter.unusedVariables false

/-- what a kind decides -/
theorem kind_cases (r : RecD) : (r.kind = 1 ∨ r.kind = 2 ∨ r.kind = 3) ∨ (r.kind = 4 ∨ r.kind = 5 ∨ r.kind = 6) ∨ (r.kind < 1 ∨ 6 < r.kind) := by omega
abbrev SmallB (w : World) (G : List Nat) (A : Option Addr) (m c : Nat) (l : List BackD) : Prop := BkArr w G (.slice A m c) l ∧ (∀ k ∈ G, k < w.heap.size) ∧ m ≤ 1099511627776

theorem BkV.carry {w0 W3 w w' : World} {v : Value} {l : List BackD} {S : List Nat} (h : BkV W3 w v l) (hk3 : Kept [] w0 W3) (hk : Kept S w w') (hS : ∀ k ∈ S, w0.heap.size ≤ k ∧ k < W3.heap.size) : BkV w0 w' v l := by
  obtain ⟨css, G, hx⟩ := h
  have hd : Decs BkDec w [] css l := hx.decs
  exact ⟨css, [], hx.own.kept hk (fun k hk' hm => by have := hx.new k hk'; have := hS k hm; omega), fun k hk' => Nat.le_trans hk3.size (hx.new k hk'), hd.kept BkOk hk (by simp), by simp, (hk3.trans hx.keptW (by simp)).trans hk (fun i hi => .inr (hS i hi).1)⟩
-- PLAIN BEGINS
set_option maxHeartbeats 3200000 in
theorem Plain_any (w : World) {G : List Nat} {A : Option Addr} {m c : Nat} (r : RecD) (h : SmallB w G A m c r.backs) :
    Calls Try.prog 6 #[.agg #[.int .i64 r.kind, .int .u32 (r.tup.src.toNat : Nat), .int .u32 (r.tup.dst.toNat : Nat), .int .i64 r.tup.proto, .int .i64 r.tup.sport, .int .i64 r.tup.dport, .int .i64 r.fb, .int .i64 r.fg, .int .i64 r.fs, .int .i64 r.gen, .slice A m c, .int .i64 r.back, .int .i64 r.until_, .int .i64 r.count]] w fun e w' => ∃ v, e = .returned (.agg #[.int .i64 (plainR r).kind, .int .u32 ((plainR r).tup.src.toNat : Nat), .int .u32 ((plainR r).tup.dst.toNat : Nat), .int .i64 (plainR r).tup.proto, .int .i64 (plainR r).tup.sport, .int .i64 (plainR r).tup.dport, .int .i64 (plainR r).fb, .int .i64 (plainR r).fg, .int .i64 (plainR r).fs, .int .i64 (plainR r).gen, v, .int .i64 (plainR r).back, .int .i64 (plainR r).until_, .int .i64 (plainR r).count]) ∧ BkV w w' v (plainR r).backs := by
  have H := Lib.hid h
  clear h
  by_cases k1 : r.kind = 1
  · have b1 : (r.kind == 1) = true := by simp [k1]
    have hp := Lib.hid (show plainR r = { (default : RecD) with kind := r.kind, tup := r.tup, fb := r.fb, fg := r.fg, fs := r.fs } by simp [plainR, k1])
    clear k1
    go_enter Try.func6, Try.ntmps6
    go_wp2_with ((with_reducible show wpList _ _ _ ({ dst := none, op := Op.store 29 (.tmp 2) (.tmp 48), type := _, pos := _, after := _, guard := _ } :: _) _ _); refine wpList_put (t := 29) rfl 29 (.tmp 2) (.tmp 48) rfl _ (by rfl) (by rfl) (by (repeat (first | (apply Blk.new'; simp; done) | apply Blk.alloc | apply Blk.drew))) (by rfl) (by kernel_rfl) (by simp [Value.oneCell']) ?_; intro w9 hb9 hk9; have Hb9 := Lib.hid hb9; have Hk9 := Lib.hid hk9; clear hb9 hk9)
    refine bodyPost_ret (results_cell (t := 29) Try.results6 (by rfl) Hb9.out _ Try.underlying29 rfl (by kernel_rfl)) rfl ?_
    rw [hp.out]
    exact ⟨_, rfl, LV.nil (Kept.trans (S := []) (by (repeat (first | exact Kept.refl _ _ | apply Kept.alloc | apply Kept.drew))) Hk9.out (fun i hi => .inr (by simp at hi; omega)))⟩
  have b1 : (r.kind == 1) = false := by simp [k1]
  by_cases k2 : r.kind = 2
  · have b2 : (r.kind == 2) = true := by simp [k2]
    have hp := Lib.hid (show plainR r = { (default : RecD) with kind := r.kind, tup := r.tup } by simp [plainR, k2])
    clear k2
    go_enter Try.func6, Try.ntmps6
    go_wp2_with ((with_reducible show wpList _ _ _ ({ dst := none, op := Op.store 29 (.tmp 2) (.tmp 48), type := _, pos := _, after := _, guard := _ } :: _) _ _); refine wpList_put (t := 29) rfl 29 (.tmp 2) (.tmp 48) rfl _ (by rfl) (by rfl) (by (repeat (first | (apply Blk.new'; simp; done) | apply Blk.alloc | apply Blk.drew))) (by rfl) (by kernel_rfl) (by simp [Value.oneCell']) ?_; intro w9 hb9 hk9; have Hb9 := Lib.hid hb9; have Hk9 := Lib.hid hk9; clear hb9 hk9)
    refine bodyPost_ret (results_cell (t := 29) Try.results6 (by rfl) Hb9.out _ Try.underlying29 rfl (by kernel_rfl)) rfl ?_
    rw [hp.out]
    exact ⟨_, rfl, LV.nil (Kept.trans (S := []) (by (repeat (first | exact Kept.refl _ _ | apply Kept.alloc | apply Kept.drew))) Hk9.out (fun i hi => .inr (by simp at hi; omega)))⟩
  have b2 : (r.kind == 2) = false := by simp [k2]
  by_cases k3 : r.kind = 3
  · have b3 : (r.kind == 3) = true := by simp [k3]
    have hp := Lib.hid (show plainR r = { (default : RecD) with kind := r.kind, gen := r.gen, backs := r.backs } by simp [plainR, k3])
    clear k3
    go_enter Try.func6, Try.ntmps6
    go_wp2
    have hk3 : Kept [] w (((w.alloc (.cells #[.int .i64 r.kind, .int .u32 (r.tup.src.toNat : Nat), .int .u32 (r.tup.dst.toNat : Nat), .int .i64 r.tup.proto, .int .i64 r.tup.sport, .int .i64 r.tup.dport, .int .i64 r.fb, .int .i64 r.fg, .int .i64 r.fs, .int .i64 r.gen, .slice A m c, .int .i64 r.back, .int .i64 r.until_, .int .i64 r.count] 29)).alloc (.cells #[.int .i64 0, .int .u32 0, .int .u32 0, .int .i64 0, .int .i64 0, .int .i64 0, .int .i64 0, .int .i64 0, .int .i64 0, .int .i64 0, .slice none 0 0, .int .i64 0, .int .i64 0, .int .i64 0] 29)).alloc (.cells #[.int .i64 r.kind, .int .u32 0, .int .u32 0, .int .i64 0, .int .i64 0, .int .i64 0, .int .i64 0, .int .i64 0, .int .i64 0, .int .i64 0, .slice none 0 0, .int .i64 0, .int .i64 0, .int .i64 0] 29)).drew := by (repeat (first | exact Kept.refl _ _ | apply Kept.alloc | apply Kept.drew))
    have Bo := Lib.hid (show Blk (((w.alloc (.cells #[.int .i64 r.kind, .int .u32 (r.tup.src.toNat : Nat), .int .u32 (r.tup.dst.toNat : Nat), .int .i64 r.tup.proto, .int .i64 r.tup.sport, .int .i64 r.tup.dport, .int .i64 r.fb, .int .i64 r.fg, .int .i64 r.fs, .int .i64 r.gen, .slice A m c, .int .i64 r.back, .int .i64 r.until_, .int .i64 r.count] 29)).alloc (.cells #[.int .i64 0, .int .u32 0, .int .u32 0, .int .i64 0, .int .i64 0, .int .i64 0, .int .i64 0, .int .i64 0, .int .i64 0, .int .i64 0, .slice none 0 0, .int .i64 0, .int .i64 0, .int .i64 0] 29)).alloc (.cells #[.int .i64 r.kind, .int .u32 0, .int .u32 0, .int .i64 0, .int .i64 0, .int .i64 0, .int .i64 0, .int .i64 0, .int .i64 0, .int .i64 0, .slice none 0 0, .int .i64 0, .int .i64 0, .int .i64 0] 29)).drew (w.heap.size + 1 + 1) 29 #[.int .i64 r.kind, .int .u32 0, .int .u32 0, .int .i64 0, .int .i64 0, .int .i64 0, .int .i64 0, .int .i64 0, .int .i64 0, .int .i64 0, .slice none 0 0, .int .i64 0, .int .i64 0, .int .i64 0] from by (repeat (first | (apply Blk.new'; simp; done) | apply Blk.alloc | apply Blk.drew)))
    have Bx := Lib.hid (show Blk (((w.alloc (.cells #[.int .i64 r.kind, .int .u32 (r.tup.src.toNat : Nat), .int .u32 (r.tup.dst.toNat : Nat), .int .i64 r.tup.proto, .int .i64 r.tup.sport, .int .i64 r.tup.dport, .int .i64 r.fb, .int .i64 r.fg, .int .i64 r.fs, .int .i64 r.gen, .slice A m c, .int .i64 r.back, .int .i64 r.until_, .int .i64 r.count] 29)).alloc (.cells #[.int .i64 0, .int .u32 0, .int .u32 0, .int .i64 0, .int .i64 0, .int .i64 0, .int .i64 0, .int .i64 0, .int .i64 0, .int .i64 0, .slice none 0 0, .int .i64 0, .int .i64 0, .int .i64 0] 29)).alloc (.cells #[.int .i64 r.kind, .int .u32 0, .int .u32 0, .int .i64 0, .int .i64 0, .int .i64 0, .int .i64 0, .int .i64 0, .int .i64 0, .int .i64 0, .slice none 0 0, .int .i64 0, .int .i64 0, .int .i64 0] 29)).drew w.heap.size 29 #[.int .i64 r.kind, .int .u32 (r.tup.src.toNat : Nat), .int .u32 (r.tup.dst.toNat : Nat), .int .i64 r.tup.proto, .int .i64 r.tup.sport, .int .i64 r.tup.dport, .int .i64 r.fb, .int .i64 r.fg, .int .i64 r.fs, .int .i64 r.gen, .slice A m c, .int .i64 r.back, .int .i64 r.until_, .int .i64 r.count] from by (repeat (first | (apply Blk.new'; simp; done) | apply Blk.alloc | apply Blk.drew)))
    have Br := Lib.hid (show Blk (((w.alloc (.cells #[.int .i64 r.kind, .int .u32 (r.tup.src.toNat : Nat), .int .u32 (r.tup.dst.toNat : Nat), .int .i64 r.tup.proto, .int .i64 r.tup.sport, .int .i64 r.tup.dport, .int .i64 r.fb, .int .i64 r.fg, .int .i64 r.fs, .int .i64 r.gen, .slice A m c, .int .i64 r.back, .int .i64 r.until_, .int .i64 r.count] 29)).alloc (.cells #[.int .i64 0, .int .u32 0, .int .u32 0, .int .i64 0, .int .i64 0, .int .i64 0, .int .i64 0, .int .i64 0, .int .i64 0, .int .i64 0, .slice none 0 0, .int .i64 0, .int .i64 0, .int .i64 0] 29)).alloc (.cells #[.int .i64 r.kind, .int .u32 0, .int .u32 0, .int .i64 0, .int .i64 0, .int .i64 0, .int .i64 0, .int .i64 0, .int .i64 0, .int .i64 0, .slice none 0 0, .int .i64 0, .int .i64 0, .int .i64 0] 29)).drew (w.heap.size + 1) 29 #[.int .i64 0, .int .u32 0, .int .u32 0, .int .i64 0, .int .i64 0, .int .i64 0, .int .i64 0, .int .i64 0, .int .i64 0, .int .i64 0, .slice none 0 0, .int .i64 0, .int .i64 0, .int .i64 0] from by (repeat (first | (apply Blk.new'; simp; done) | apply Blk.alloc | apply Blk.drew)))
    have Hs : Hid (SmallB (((w.alloc (.cells #[.int .i64 r.kind, .int .u32 (r.tup.src.toNat : Nat), .int .u32 (r.tup.dst.toNat : Nat), .int .i64 r.tup.proto, .int .i64 r.tup.sport, .int .i64 r.tup.dport, .int .i64 r.fb, .int .i64 r.fg, .int .i64 r.fs, .int .i64 r.gen, .slice A m c, .int .i64 r.back, .int .i64 r.until_, .int .i64 r.count] 29)).alloc (.cells #[.int .i64 0, .int .u32 0, .int .u32 0, .int .i64 0, .int .i64 0, .int .i64 0, .int .i64 0, .int .i64 0, .int .i64 0, .int .i64 0, .slice none 0 0, .int .i64 0, .int .i64 0, .int .i64 0] 29)).alloc (.cells #[.int .i64 r.kind, .int .u32 0, .int .u32 0, .int .i64 0, .int .i64 0, .int .i64 0, .int .i64 0, .int .i64 0, .int .i64 0, .int .i64 0, .slice none 0 0, .int .i64 0, .int .i64 0, .int .i64 0] 29)).drew G A m c r.backs) := Lib.hid ⟨BkArr.kept H.out.1 hk3 (by simp), fun k hk => Nat.lt_of_lt_of_le (H.out.2.1 k hk) hk3.size, H.out.2.2⟩
    have Hk3 := Lib.hid hk3
    clear hk3
    go_region_held3 (fun w' => w'.cell? ⟨w.heap.size, 9, none⟩ = some (.int .i64 r.gen) ∧ w'.cell? ⟨w.heap.size, 10, none⟩ = some (.slice A m c)) (first | (constructor <;> simp [go_sem, hx0, hx1]; done) | go_keep)
      ((go_at_call 16
        refine (CloneB_any _ r.backs Hs.out.1 Hs.out.2.1 Hs.out.2.2).mono ?_
        rintro e w4 ⟨v4, rfl, hv4⟩
        have Hv4 := Lib.hid hv4
        have hbo := Bo.out.kept hv4.kept (by simp)
        have hco := hbo.cell
        have hfo := hbo.frozen
        have hbx := Bx.out.kept hv4.kept (by simp)
        have hx0 : w4.cell? ⟨w.heap.size, 9, none⟩ = some (.int .i64 r.gen) := by simpa using hbx.cell 9
        have hx1 : w4.cell? ⟨w.heap.size, 10, none⟩ = some (.slice A m c) := by simpa using hbx.cell 10
        have Bo4 := Lib.hid hbo
        have Br4 := Lib.hid (Br.out.kept hv4.kept (by simp))
        have Hk4 := Lib.hid (Hk3.out.trans hv4.kept (by simp))
        clear hbo hbx
        obtain ⟨css4, G4, hx4⟩ := hv4
        obtain ⟨A4, d4, rfl, -, -⟩ := hx4.own.form
        clear hx4))
    go_wp2_with ((with_reducible show wpList _ _ _ ({ dst := none, op := Op.store 29 (.tmp 2) (.tmp 48), type := _, pos := _, after := _, guard := _ } :: _) _ _); refine wpList_put (t := 29) rfl 29 (.tmp 2) (.tmp 48) rfl _ (by rfl) (by rfl) (by exact (Br4.out.far (by simp) _).far (by simp) _) (by rfl) (by kernel_rfl) (by simp [Value.oneCell']) ?_; intro w9 hb9 hk9; have Hb9 := Lib.hid hb9; have Hk9 := Lib.hid hk9; clear hb9 hk9)
    refine bodyPost_ret (results_cell (t := 29) Try.results6 (by rfl) Hb9.out _ Try.underlying29 rfl (by kernel_rfl)) rfl ?_
    rw [hp.out]
    refine ⟨_, rfl, BkV.carry Hv4.out Hk3.out ((((Kept.refl [w.heap.size + 1 + 1, w.heap.size + 1] w4).setCell (.inl (by simp)) _).setCell (.inl (by simp)) _).trans Hk9.out (fun i hi => .inl (by simp at hi; simp [hi]))) (fun k hk => ?_)⟩
    simp at hk
    rcases hk with rfl | rfl <;> (simp; try omega)
  have b3 : (r.kind == 3) = false := by simp [k3]
  by_cases k4 : r.kind = 4
  · have b4 : (r.kind == 4) = true := by simp [k4]
    have hp := Lib.hid (show plainR r = { (default : RecD) with kind := r.kind, back := r.back, until_ := r.until_ } by simp [plainR, k4])
    clear k4
    go_enter Try.func6, Try.ntmps6
    go_wp2
    go_region
    all_goals
      go_wp2_with ((with_reducible show wpList _ _ _ ({ dst := none, op := Op.store 29 (.tmp 2) (.tmp 48), type := _, pos := _, after := _, guard := _ } :: _) _ _); refine wpList_put (t := 29) rfl 29 (.tmp 2) (.tmp 48) rfl _ (by rfl) (by rfl) (by (repeat (first | (apply Blk.new'; simp; done) | apply Blk.alloc | apply Blk.drew))) (by rfl) (by kernel_rfl) (by simp [Value.oneCell']) ?_; intro w9 hb9 hk9; have Hb9 := Lib.hid hb9; have Hk9 := Lib.hid hk9; clear hb9 hk9)
      refine bodyPost_ret (results_cell (t := 29) Try.results6 (by rfl) Hb9.out _ Try.underlying29 rfl (by kernel_rfl)) rfl ?_
      rw [hp.out]
      exact ⟨_, rfl, LV.nil (Kept.trans (S := []) (by (repeat (first | exact Kept.refl _ _ | apply Kept.alloc | apply Kept.drew))) Hk9.out (fun i hi => .inr (by simp at hi; omega)))⟩
  have b4 : (r.kind == 4) = false := by simp [k4]
  by_cases k5 : r.kind = 5
  · have b5 : (r.kind == 5) = true := by simp [k5]
    have hp := Lib.hid (show plainR r = { (default : RecD) with kind := r.kind, back := r.back } by simp [plainR, k5])
    clear k5
    go_enter Try.func6, Try.ntmps6
    go_wp2_with ((with_reducible show wpList _ _ _ ({ dst := none, op := Op.store 29 (.tmp 2) (.tmp 48), type := _, pos := _, after := _, guard := _ } :: _) _ _); refine wpList_put (t := 29) rfl 29 (.tmp 2) (.tmp 48) rfl _ (by rfl) (by rfl) (by (repeat (first | (apply Blk.new'; simp; done) | apply Blk.alloc | apply Blk.drew))) (by rfl) (by kernel_rfl) (by simp [Value.oneCell']) ?_; intro w9 hb9 hk9; have Hb9 := Lib.hid hb9; have Hk9 := Lib.hid hk9; clear hb9 hk9)
    refine bodyPost_ret (results_cell (t := 29) Try.results6 (by rfl) Hb9.out _ Try.underlying29 rfl (by kernel_rfl)) rfl ?_
    rw [hp.out]
    exact ⟨_, rfl, LV.nil (Kept.trans (S := []) (by (repeat (first | exact Kept.refl _ _ | apply Kept.alloc | apply Kept.drew))) Hk9.out (fun i hi => .inr (by simp at hi; omega)))⟩
  have b5 : (r.kind == 5) = false := by simp [k5]
  by_cases k6 : r.kind = 6
  · have b6 : (r.kind == 6) = true := by simp [k6]
    have hp := Lib.hid (show plainR r = { (default : RecD) with kind := r.kind, count := r.count } by simp [plainR, k6])
    clear k6
    go_enter Try.func6, Try.ntmps6
    go_wp2_with ((with_reducible show wpList _ _ _ ({ dst := none, op := Op.store 29 (.tmp 2) (.tmp 48), type := _, pos := _, after := _, guard := _ } :: _) _ _); refine wpList_put (t := 29) rfl 29 (.tmp 2) (.tmp 48) rfl _ (by rfl) (by rfl) (by (repeat (first | (apply Blk.new'; simp; done) | apply Blk.alloc | apply Blk.drew))) (by rfl) (by kernel_rfl) (by simp [Value.oneCell']) ?_; intro w9 hb9 hk9; have Hb9 := Lib.hid hb9; have Hk9 := Lib.hid hk9; clear hb9 hk9)
    refine bodyPost_ret (results_cell (t := 29) Try.results6 (by rfl) Hb9.out _ Try.underlying29 rfl (by kernel_rfl)) rfl ?_
    rw [hp.out]
    exact ⟨_, rfl, LV.nil (Kept.trans (S := []) (by (repeat (first | exact Kept.refl _ _ | apply Kept.alloc | apply Kept.drew))) Hk9.out (fun i hi => .inr (by simp at hi; omega)))⟩
  have b6 : (r.kind == 6) = false := by simp [k6]
  have hp := Lib.hid (show plainR r = { (default : RecD) with kind := r.kind } by simp [plainR, k1, k2, k3, k4, k5, k6])
  clear k1 k2 k3 k4 k5 k6
  go_enter Try.func6, Try.ntmps6
  go_wp2_with ((with_reducible show wpList _ _ _ ({ dst := none, op := Op.store 29 (.tmp 2) (.tmp 48), type := _, pos := _, after := _, guard := _ } :: _) _ _); refine wpList_put (t := 29) rfl 29 (.tmp 2) (.tmp 48) rfl _ (by rfl) (by rfl) (by (repeat (first | (apply Blk.new'; simp; done) | apply Blk.alloc | apply Blk.drew))) (by rfl) (by kernel_rfl) (by simp [Value.oneCell']) ?_; intro w9 hb9 hk9; have Hb9 := Lib.hid hb9; have Hk9 := Lib.hid hk9; clear hb9 hk9)
  refine bodyPost_ret (results_cell (t := 29) Try.results6 (by rfl) Hb9.out _ Try.underlying29 rfl (by kernel_rfl)) rfl ?_
  rw [hp.out]
  exact ⟨_, rfl, LV.nil (Kept.trans (S := []) (by (repeat (first | exact Kept.refl _ _ | apply Kept.alloc | apply Kept.drew))) Hk9.out (fun i hi => .inr (by simp at hi; omega)))⟩
set_option maxHeartbeats 3200000 in
theorem rPlain_any (w : World) {G : List Nat} {A : Option Addr} {m c : Nat} (r : RecD) (h : SmallB w G A m c r.backs) :
    Calls Try.prog 7 #[.agg #[.int .i64 r.kind, .int .u32 (r.tup.src.toNat : Nat), .int .u32 (r.tup.dst.toNat : Nat), .int .i64 r.tup.proto, .int .i64 r.tup.sport, .int .i64 r.tup.dport, .int .i64 r.fb, .int .i64 r.fg, .int .i64 r.fs, .int .i64 r.gen, .slice A m c, .int .i64 r.back, .int .i64 r.until_, .int .i64 r.count]] w fun e w' => ∃ v, e = .returned (.agg #[.int .i64 (plainR r).kind, .int .u32 ((plainR r).tup.src.toNat : Nat), .int .u32 ((plainR r).tup.dst.toNat : Nat), .int .i64 (plainR r).tup.proto, .int .i64 (plainR r).tup.sport, .int .i64 (plainR r).tup.dport, .int .i64 (plainR r).fb, .int .i64 (plainR r).fg, .int .i64 (plainR r).fs, .int .i64 (plainR r).gen, v, .int .i64 (plainR r).back, .int .i64 (plainR r).until_, .int .i64 (plainR r).count]) ∧ BkV w w' v (plainR r).backs := by
  have H := Lib.hid h
  clear h
  by_cases k1 : r.kind = 1
  · have b1 : (r.kind == 1) = true := by simp [k1]
    have hp := Lib.hid (show plainR r = { (default : RecD) with kind := r.kind, tup := r.tup, fb := r.fb, fg := r.fg, fs := r.fs } by simp [plainR, k1])
    clear k1
    go_enter Try.func7, Try.ntmps7
    go_wp2_with ((with_reducible show wpList _ _ _ ({ dst := none, op := Op.store 29 (.tmp 2) (.tmp 48), type := _, pos := _, after := _, guard := _ } :: _) _ _); refine wpList_put (t := 29) rfl 29 (.tmp 2) (.tmp 48) rfl _ (by rfl) (by rfl) (by (repeat (first | (apply Blk.new'; simp; done) | apply Blk.alloc | apply Blk.drew))) (by rfl) (by kernel_rfl) (by simp [Value.oneCell']) ?_; intro w9 hb9 hk9; have Hb9 := Lib.hid hb9; have Hk9 := Lib.hid hk9; clear hb9 hk9)
    refine bodyPost_ret (results_cell (t := 29) Try.results7 (by rfl) Hb9.out _ Try.underlying29 rfl (by kernel_rfl)) rfl ?_
    rw [hp.out]
    exact ⟨_, rfl, LV.nil (Kept.trans (S := []) (by (repeat (first | exact Kept.refl _ _ | apply Kept.alloc | apply Kept.drew))) Hk9.out (fun i hi => .inr (by simp at hi; omega)))⟩
  have b1 : (r.kind == 1) = false := by simp [k1]
  by_cases k2 : r.kind = 2
  · have b2 : (r.kind == 2) = true := by simp [k2]
    have hp := Lib.hid (show plainR r = { (default : RecD) with kind := r.kind, tup := r.tup } by simp [plainR, k2])
    clear k2
    go_enter Try.func7, Try.ntmps7
    go_wp2_with ((with_reducible show wpList _ _ _ ({ dst := none, op := Op.store 29 (.tmp 2) (.tmp 48), type := _, pos := _, after := _, guard := _ } :: _) _ _); refine wpList_put (t := 29) rfl 29 (.tmp 2) (.tmp 48) rfl _ (by rfl) (by rfl) (by (repeat (first | (apply Blk.new'; simp; done) | apply Blk.alloc | apply Blk.drew))) (by rfl) (by kernel_rfl) (by simp [Value.oneCell']) ?_; intro w9 hb9 hk9; have Hb9 := Lib.hid hb9; have Hk9 := Lib.hid hk9; clear hb9 hk9)
    refine bodyPost_ret (results_cell (t := 29) Try.results7 (by rfl) Hb9.out _ Try.underlying29 rfl (by kernel_rfl)) rfl ?_
    rw [hp.out]
    exact ⟨_, rfl, LV.nil (Kept.trans (S := []) (by (repeat (first | exact Kept.refl _ _ | apply Kept.alloc | apply Kept.drew))) Hk9.out (fun i hi => .inr (by simp at hi; omega)))⟩
  have b2 : (r.kind == 2) = false := by simp [k2]
  by_cases k3 : r.kind = 3
  · have b3 : (r.kind == 3) = true := by simp [k3]
    have hp := Lib.hid (show plainR r = { (default : RecD) with kind := r.kind, gen := r.gen, backs := r.backs } by simp [plainR, k3])
    clear k3
    go_enter Try.func7, Try.ntmps7
    have hk3 : Kept [] w (((w.alloc (.cells #[.int .i64 r.kind, .int .u32 (r.tup.src.toNat : Nat), .int .u32 (r.tup.dst.toNat : Nat), .int .i64 r.tup.proto, .int .i64 r.tup.sport, .int .i64 r.tup.dport, .int .i64 r.fb, .int .i64 r.fg, .int .i64 r.fs, .int .i64 r.gen, .slice A m c, .int .i64 r.back, .int .i64 r.until_, .int .i64 r.count] 29)).alloc (.cells #[.int .i64 0, .int .u32 0, .int .u32 0, .int .i64 0, .int .i64 0, .int .i64 0, .int .i64 0, .int .i64 0, .int .i64 0, .int .i64 0, .slice none 0 0, .int .i64 0, .int .i64 0, .int .i64 0] 29)).alloc (.cells #[.int .i64 r.kind, .int .u32 0, .int .u32 0, .int .i64 0, .int .i64 0, .int .i64 0, .int .i64 0, .int .i64 0, .int .i64 0, .int .i64 r.gen, .slice none 0 0, .int .i64 0, .int .i64 0, .int .i64 0] 29)) := by (repeat (first | exact Kept.refl _ _ | apply Kept.alloc | apply Kept.drew))
    have Bo := Lib.hid (show Blk (((w.alloc (.cells #[.int .i64 r.kind, .int .u32 (r.tup.src.toNat : Nat), .int .u32 (r.tup.dst.toNat : Nat), .int .i64 r.tup.proto, .int .i64 r.tup.sport, .int .i64 r.tup.dport, .int .i64 r.fb, .int .i64 r.fg, .int .i64 r.fs, .int .i64 r.gen, .slice A m c, .int .i64 r.back, .int .i64 r.until_, .int .i64 r.count] 29)).alloc (.cells #[.int .i64 0, .int .u32 0, .int .u32 0, .int .i64 0, .int .i64 0, .int .i64 0, .int .i64 0, .int .i64 0, .int .i64 0, .int .i64 0, .slice none 0 0, .int .i64 0, .int .i64 0, .int .i64 0] 29)).alloc (.cells #[.int .i64 r.kind, .int .u32 0, .int .u32 0, .int .i64 0, .int .i64 0, .int .i64 0, .int .i64 0, .int .i64 0, .int .i64 0, .int .i64 r.gen, .slice none 0 0, .int .i64 0, .int .i64 0, .int .i64 0] 29)) (w.heap.size + 1 + 1) 29 #[.int .i64 r.kind, .int .u32 0, .int .u32 0, .int .i64 0, .int .i64 0, .int .i64 0, .int .i64 0, .int .i64 0, .int .i64 0, .int .i64 r.gen, .slice none 0 0, .int .i64 0, .int .i64 0, .int .i64 0] from by (repeat (first | (apply Blk.new'; simp; done) | apply Blk.alloc | apply Blk.drew)))
    have Br := Lib.hid (show Blk (((w.alloc (.cells #[.int .i64 r.kind, .int .u32 (r.tup.src.toNat : Nat), .int .u32 (r.tup.dst.toNat : Nat), .int .i64 r.tup.proto, .int .i64 r.tup.sport, .int .i64 r.tup.dport, .int .i64 r.fb, .int .i64 r.fg, .int .i64 r.fs, .int .i64 r.gen, .slice A m c, .int .i64 r.back, .int .i64 r.until_, .int .i64 r.count] 29)).alloc (.cells #[.int .i64 0, .int .u32 0, .int .u32 0, .int .i64 0, .int .i64 0, .int .i64 0, .int .i64 0, .int .i64 0, .int .i64 0, .int .i64 0, .slice none 0 0, .int .i64 0, .int .i64 0, .int .i64 0] 29)).alloc (.cells #[.int .i64 r.kind, .int .u32 0, .int .u32 0, .int .i64 0, .int .i64 0, .int .i64 0, .int .i64 0, .int .i64 0, .int .i64 0, .int .i64 r.gen, .slice none 0 0, .int .i64 0, .int .i64 0, .int .i64 0] 29)) (w.heap.size + 1) 29 #[.int .i64 0, .int .u32 0, .int .u32 0, .int .i64 0, .int .i64 0, .int .i64 0, .int .i64 0, .int .i64 0, .int .i64 0, .int .i64 0, .slice none 0 0, .int .i64 0, .int .i64 0, .int .i64 0] from by (repeat (first | (apply Blk.new'; simp; done) | apply Blk.alloc | apply Blk.drew)))
    obtain ⟨x1, x2, x3, css, e3, l3, y1, y2, y3, dd, ln, rd⟩ := ArrOf.decs (BkArr.kept H.out.1 hk3 (by simp))
    injection e3 with e31 e32 e33
    subst e31 e32 e33
    have D := Lib.hid dd
    have R := Lib.hid rd
    have Ln := Lib.hid (show css.flatten.length = m * 3 by rw [flat_len ln, dd.1, l3])
    have L := Lib.hid l3
    have hm := H.out.2.2
    have HG := Lib.hid (show ∀ k ∈ G, k < (((w.alloc (.cells #[.int .i64 r.kind, .int .u32 (r.tup.src.toNat : Nat), .int .u32 (r.tup.dst.toNat : Nat), .int .i64 r.tup.proto, .int .i64 r.tup.sport, .int .i64 r.tup.dport, .int .i64 r.fb, .int .i64 r.fg, .int .i64 r.fs, .int .i64 r.gen, .slice A m c, .int .i64 r.back, .int .i64 r.until_, .int .i64 r.count] 29)).alloc (.cells #[.int .i64 0, .int .u32 0, .int .u32 0, .int .i64 0, .int .i64 0, .int .i64 0, .int .i64 0, .int .i64 0, .int .i64 0, .int .i64 0, .slice none 0 0, .int .i64 0, .int .i64 0, .int .i64 0] 29)).alloc (.cells #[.int .i64 r.kind, .int .u32 0, .int .u32 0, .int .i64 0, .int .i64 0, .int .i64 0, .int .i64 0, .int .i64 0, .int .i64 0, .int .i64 r.gen, .slice none 0 0, .int .i64 0, .int .i64 0, .int .i64 0] 29)).heap.size from fun k hk => Nat.lt_of_lt_of_le (H.out.2.1 k hk) hk3.size)
    have Hk3 := Lib.hid hk3
    clear hk3 l3 y1 y2 y3 dd ln rd
    go_wp2_with (first
      | (at_builtin
         refine wpList_app _ rfl (.const (.slice none 0 0)) (.tmp 27) 27 rfl elem_back (by rfl) (Own.nil _ _ _) (by rfl) R.out Ln.out (D.out.ones BkOk) (by unfold maxLen; omega) (by omega) ?_
         intro v4 w4 ho4 hk4 hr4
         have hx := LVx.app (W := (((w.alloc (.cells #[.int .i64 r.kind, .int .u32 (r.tup.src.toNat : Nat), .int .u32 (r.tup.dst.toNat : Nat), .int .i64 r.tup.proto, .int .i64 r.tup.sport, .int .i64 r.tup.dport, .int .i64 r.fb, .int .i64 r.fg, .int .i64 r.fs, .int .i64 r.gen, .slice A m c, .int .i64 r.back, .int .i64 r.until_, .int .i64 r.count] 29)).alloc (.cells #[.int .i64 0, .int .u32 0, .int .u32 0, .int .i64 0, .int .i64 0, .int .i64 0, .int .i64 0, .int .i64 0, .int .i64 0, .int .i64 0, .slice none 0 0, .int .i64 0, .int .i64 0, .int .i64 0] 29)).alloc (.cells #[.int .i64 r.kind, .int .u32 0, .int .u32 0, .int .i64 0, .int .i64 0, .int .i64 0, .int .i64 0, .int .i64 0, .int .i64 0, .int .i64 r.gen, .slice none 0 0, .int .i64 0, .int .i64 0, .int .i64 0] 29))) (w := (((w.alloc (.cells #[.int .i64 r.kind, .int .u32 (r.tup.src.toNat : Nat), .int .u32 (r.tup.dst.toNat : Nat), .int .i64 r.tup.proto, .int .i64 r.tup.sport, .int .i64 r.tup.dport, .int .i64 r.fb, .int .i64 r.fg, .int .i64 r.fs, .int .i64 r.gen, .slice A m c, .int .i64 r.back, .int .i64 r.until_, .int .i64 r.count] 29)).alloc (.cells #[.int .i64 0, .int .u32 0, .int .u32 0, .int .i64 0, .int .i64 0, .int .i64 0, .int .i64 0, .int .i64 0, .int .i64 0, .int .i64 0, .slice none 0 0, .int .i64 0, .int .i64 0, .int .i64 0] 29)).alloc (.cells #[.int .i64 r.kind, .int .u32 0, .int .u32 0, .int .i64 0, .int .i64 0, .int .i64 0, .int .i64 0, .int .i64 0, .int .i64 0, .int .i64 r.gen, .slice none 0 0, .int .i64 0, .int .i64 0, .int .i64 0] 29))) (w1 := (((w.alloc (.cells #[.int .i64 r.kind, .int .u32 (r.tup.src.toNat : Nat), .int .u32 (r.tup.dst.toNat : Nat), .int .i64 r.tup.proto, .int .i64 r.tup.sport, .int .i64 r.tup.dport, .int .i64 r.fb, .int .i64 r.fg, .int .i64 r.fs, .int .i64 r.gen, .slice A m c, .int .i64 r.back, .int .i64 r.until_, .int .i64 r.count] 29)).alloc (.cells #[.int .i64 0, .int .u32 0, .int .u32 0, .int .i64 0, .int .i64 0, .int .i64 0, .int .i64 0, .int .i64 0, .int .i64 0, .int .i64 0, .slice none 0 0, .int .i64 0, .int .i64 0, .int .i64 0] 29)).alloc (.cells #[.int .i64 r.kind, .int .u32 0, .int .u32 0, .int .i64 0, .int .i64 0, .int .i64 0, .int .i64 0, .int .i64 0, .int .i64 0, .int .i64 r.gen, .slice none 0 0, .int .i64 0, .int .i64 0, .int .i64 0] 29))) BkOk (css := []) (G := []) (l := []) ⟨Own.nil _ _ _, by simp [rowOf, Value.ownBlock], Decs.nil, by simp, Kept.refl _ _⟩ (Kept.refl _ _) D.out (fun k hk => ⟨by simp [rowOf, Value.ownBlock], HG.out k hk⟩) ho4 (by simp [L.out]) rfl hk4 hr4
         rw [List.nil_append] at hx
         have hv4 : BkV (((w.alloc (.cells #[.int .i64 r.kind, .int .u32 (r.tup.src.toNat : Nat), .int .u32 (r.tup.dst.toNat : Nat), .int .i64 r.tup.proto, .int .i64 r.tup.sport, .int .i64 r.tup.dport, .int .i64 r.fb, .int .i64 r.fg, .int .i64 r.fs, .int .i64 r.gen, .slice A m c, .int .i64 r.back, .int .i64 r.until_, .int .i64 r.count] 29)).alloc (.cells #[.int .i64 0, .int .u32 0, .int .u32 0, .int .i64 0, .int .i64 0, .int .i64 0, .int .i64 0, .int .i64 0, .int .i64 0, .int .i64 0, .slice none 0 0, .int .i64 0, .int .i64 0, .int .i64 0] 29)).alloc (.cells #[.int .i64 r.kind, .int .u32 0, .int .u32 0, .int .i64 0, .int .i64 0, .int .i64 0, .int .i64 0, .int .i64 0, .int .i64 0, .int .i64 r.gen, .slice none 0 0, .int .i64 0, .int .i64 0, .int .i64 0] 29)) w4 v4 r.backs := ⟨_, _, hx⟩
         have hbo := Bo.out.kept hv4.kept (by simp)
         have hco := hbo.cell
         have hfo := hbo.frozen
         have Br4 := Lib.hid (Br.out.kept hv4.kept (by simp))
         have Hv4 := Lib.hid hv4
         obtain ⟨A4, n4, d4, rfl⟩ := ho4.form'
         clear ho4 hk4 hr4 hx hv4 hbo)
      | ((with_reducible show wpList _ _ _ ({ dst := none, op := Op.store 29 (.tmp 2) (.tmp 48), type := _, pos := _, after := _, guard := _ } :: _) _ _); refine wpList_put (t := 29) rfl 29 (.tmp 2) (.tmp 48) rfl _ (by rfl) (by rfl) (by exact Br4.out.far (by simp) _) (by rfl) (by kernel_rfl) (by simp [Value.oneCell']) ?_; intro w9 hb9 hk9; have Hb9 := Lib.hid hb9; have Hk9 := Lib.hid hk9; clear hb9 hk9))
    refine bodyPost_ret (results_cell (t := 29) Try.results7 (by rfl) Hb9.out _ Try.underlying29 rfl (by kernel_rfl)) rfl ?_
    rw [hp.out]
    refine ⟨_, rfl, BkV.carry Hv4.out Hk3.out (((Kept.refl [w.heap.size + 1 + 1, w.heap.size + 1] w4).setCell (.inl (by simp)) _).trans Hk9.out (fun i hi => .inl (by simp at hi; simp [hi]))) (fun k hk => ?_)⟩
    simp at hk
    rcases hk with rfl | rfl <;> (simp; try omega)
  have b3 : (r.kind == 3) = false := by simp [k3]
  by_cases k4 : r.kind = 4
  · have b4 : (r.kind == 4) = true := by simp [k4]
    have hp := Lib.hid (show plainR r = { (default : RecD) with kind := r.kind, back := r.back, until_ := r.until_ } by simp [plainR, k4])
    clear k4
    go_enter Try.func7, Try.ntmps7
    go_wp2
    go_region
    all_goals
      go_wp2_with ((with_reducible show wpList _ _ _ ({ dst := none, op := Op.store 29 (.tmp 2) (.tmp 48), type := _, pos := _, after := _, guard := _ } :: _) _ _); refine wpList_put (t := 29) rfl 29 (.tmp 2) (.tmp 48) rfl _ (by rfl) (by rfl) (by (repeat (first | (apply Blk.new'; simp; done) | apply Blk.alloc | apply Blk.drew))) (by rfl) (by kernel_rfl) (by simp [Value.oneCell']) ?_; intro w9 hb9 hk9; have Hb9 := Lib.hid hb9; have Hk9 := Lib.hid hk9; clear hb9 hk9)
      refine bodyPost_ret (results_cell (t := 29) Try.results7 (by rfl) Hb9.out _ Try.underlying29 rfl (by kernel_rfl)) rfl ?_
      rw [hp.out]
      exact ⟨_, rfl, LV.nil (Kept.trans (S := []) (by (repeat (first | exact Kept.refl _ _ | apply Kept.alloc | apply Kept.drew))) Hk9.out (fun i hi => .inr (by simp at hi; omega)))⟩
  have b4 : (r.kind == 4) = false := by simp [k4]
  by_cases k5 : r.kind = 5
  · have b5 : (r.kind == 5) = true := by simp [k5]
    have hp := Lib.hid (show plainR r = { (default : RecD) with kind := r.kind, back := r.back } by simp [plainR, k5])
    clear k5
    go_enter Try.func7, Try.ntmps7
    go_wp2_with ((with_reducible show wpList _ _ _ ({ dst := none, op := Op.store 29 (.tmp 2) (.tmp 48), type := _, pos := _, after := _, guard := _ } :: _) _ _); refine wpList_put (t := 29) rfl 29 (.tmp 2) (.tmp 48) rfl _ (by rfl) (by rfl) (by (repeat (first | (apply Blk.new'; simp; done) | apply Blk.alloc | apply Blk.drew))) (by rfl) (by kernel_rfl) (by simp [Value.oneCell']) ?_; intro w9 hb9 hk9; have Hb9 := Lib.hid hb9; have Hk9 := Lib.hid hk9; clear hb9 hk9)
    refine bodyPost_ret (results_cell (t := 29) Try.results7 (by rfl) Hb9.out _ Try.underlying29 rfl (by kernel_rfl)) rfl ?_
    rw [hp.out]
    exact ⟨_, rfl, LV.nil (Kept.trans (S := []) (by (repeat (first | exact Kept.refl _ _ | apply Kept.alloc | apply Kept.drew))) Hk9.out (fun i hi => .inr (by simp at hi; omega)))⟩
  have b5 : (r.kind == 5) = false := by simp [k5]
  by_cases k6 : r.kind = 6
  · have b6 : (r.kind == 6) = true := by simp [k6]
    have hp := Lib.hid (show plainR r = { (default : RecD) with kind := r.kind, count := r.count } by simp [plainR, k6])
    clear k6
    go_enter Try.func7, Try.ntmps7
    go_wp2_with ((with_reducible show wpList _ _ _ ({ dst := none, op := Op.store 29 (.tmp 2) (.tmp 48), type := _, pos := _, after := _, guard := _ } :: _) _ _); refine wpList_put (t := 29) rfl 29 (.tmp 2) (.tmp 48) rfl _ (by rfl) (by rfl) (by (repeat (first | (apply Blk.new'; simp; done) | apply Blk.alloc | apply Blk.drew))) (by rfl) (by kernel_rfl) (by simp [Value.oneCell']) ?_; intro w9 hb9 hk9; have Hb9 := Lib.hid hb9; have Hk9 := Lib.hid hk9; clear hb9 hk9)
    refine bodyPost_ret (results_cell (t := 29) Try.results7 (by rfl) Hb9.out _ Try.underlying29 rfl (by kernel_rfl)) rfl ?_
    rw [hp.out]
    exact ⟨_, rfl, LV.nil (Kept.trans (S := []) (by (repeat (first | exact Kept.refl _ _ | apply Kept.alloc | apply Kept.drew))) Hk9.out (fun i hi => .inr (by simp at hi; omega)))⟩
  have b6 : (r.kind == 6) = false := by simp [k6]
  have hp := Lib.hid (show plainR r = { (default : RecD) with kind := r.kind } by simp [plainR, k1, k2, k3, k4, k5, k6])
  clear k1 k2 k3 k4 k5 k6
  go_enter Try.func7, Try.ntmps7
  go_wp2_with ((with_reducible show wpList _ _ _ ({ dst := none, op := Op.store 29 (.tmp 2) (.tmp 48), type := _, pos := _, after := _, guard := _ } :: _) _ _); refine wpList_put (t := 29) rfl 29 (.tmp 2) (.tmp 48) rfl _ (by rfl) (by rfl) (by (repeat (first | (apply Blk.new'; simp; done) | apply Blk.alloc | apply Blk.drew))) (by rfl) (by kernel_rfl) (by simp [Value.oneCell']) ?_; intro w9 hb9 hk9; have Hb9 := Lib.hid hb9; have Hk9 := Lib.hid hk9; clear hb9 hk9)
  refine bodyPost_ret (results_cell (t := 29) Try.results7 (by rfl) Hb9.out _ Try.underlying29 rfl (by kernel_rfl)) rfl ?_
  rw [hp.out]
  exact ⟨_, rfl, LV.nil (Kept.trans (S := []) (by (repeat (first | exact Kept.refl _ _ | apply Kept.alloc | apply Kept.drew))) Hk9.out (fun i hi => .inr (by simp at hi; omega)))⟩
-- PLAIN ENDS
end Go.Proofs.Ytoibecclilmllaa
