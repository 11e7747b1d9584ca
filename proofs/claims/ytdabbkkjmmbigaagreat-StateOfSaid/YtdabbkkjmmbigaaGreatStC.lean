
/-
  States in memory: is there room?
-/
import Derived.Test.YtdabbkkjmmbigaaGreatStB
namespace Go.Proofs.YtdabbkkjmmbigaaGreat
open Go.RowKit Go.ChangeShapes Go.WideShapes Go.ChangeAt Go.Deep Go.MapKept
set_option linter.unusedVariables false

set_option maxRecDepth 100000 in
theorem full_any {W w : World} {p : Nat} {S : StD} (h : StB W w p S) (ok : OkS S) (r : RecD) (A' : Option Addr) (m' c' : Nat) : Calls Tryz.prog 32 #[.pointer (some ⟨p, 0, none⟩), .agg #[.int .i64 r.kind, .int .u32 (r.tup.src.toNat : Nat), .int .u32 (r.tup.dst.toNat : Nat), .int .i64 r.tup.proto, .int .i64 r.tup.sport, .int .i64 r.tup.dport, .int .i64 r.fb, .int .i64 r.fg, .int .i64 r.fs, .int .i64 r.gen, .slice A' m' c', .int .i64 r.back, .int .i64 r.until_, .int .i64 r.count]] w fun e w' => e = .returned (.bool (fullS S r)) ∧ Kept [] w w' := by
  obtain ⟨bd, bf, A, m, c, h⟩ := h
  have H := Lib.hid h
  have Ok := Lib.hid ok
  clear ok
  have hp := H.out.blk.lt
  have hk5 : Kept [] w (w.alloc (.cells #[.int .i64 r.kind, .int .u32 (r.tup.src.toNat : Nat), .int .u32 (r.tup.dst.toNat : Nat), .int .i64 r.tup.proto, .int .i64 r.tup.sport, .int .i64 r.tup.dport, .int .i64 r.fb, .int .i64 r.fg, .int .i64 r.fs, .int .i64 r.gen, .slice A' m' c', .int .i64 r.back, .int .i64 r.until_, .int .i64 r.count] 45)) := by (repeat (first | exact Kept.refl _ _ | apply Kept.alloc | apply Kept.drew))
  have X5 := Lib.hid (show Blk (w.alloc (.cells #[.int .i64 r.kind, .int .u32 (r.tup.src.toNat : Nat), .int .u32 (r.tup.dst.toNat : Nat), .int .i64 r.tup.proto, .int .i64 r.tup.sport, .int .i64 r.tup.dport, .int .i64 r.fb, .int .i64 r.fg, .int .i64 r.fs, .int .i64 r.gen, .slice A' m' c', .int .i64 r.back, .int .i64 r.until_, .int .i64 r.count] 45)) w.heap.size 45 #[.int .i64 r.kind, .int .u32 (r.tup.src.toNat : Nat), .int .u32 (r.tup.dst.toNat : Nat), .int .i64 r.tup.proto, .int .i64 r.tup.sport, .int .i64 r.tup.dport, .int .i64 r.fb, .int .i64 r.fg, .int .i64 r.fs, .int .i64 r.gen, .slice A' m' c', .int .i64 r.back, .int .i64 r.until_, .int .i64 r.count] from by (repeat (first | (apply Blk.new'; simp; done) | apply Blk.alloc | apply Blk.drew)))
  have hs5 : w.heap.size < (w.alloc (.cells #[.int .i64 r.kind, .int .u32 (r.tup.src.toNat : Nat), .int .u32 (r.tup.dst.toNat : Nat), .int .i64 r.tup.proto, .int .i64 r.tup.sport, .int .i64 r.tup.dport, .int .i64 r.fb, .int .i64 r.fg, .int .i64 r.fs, .int .i64 r.gen, .slice A' m' c', .int .i64 r.back, .int .i64 r.until_, .int .i64 r.count] 45)).heap.size := by simp
  have H5 := Lib.hid (H.out.go hk5)
  have HK5 := Lib.hid hk5
  clear h hk5
  by_cases k1 : r.kind = 1
  · obtain ⟨f, hf⟩ : ∃ f, (getM S.flows r.tup).getD zFl = f := ⟨_, rfl⟩
    have ef : ((getM S.flows r.tup).map evF).getD (evF zFl) = evF f := by rw [← hf]; cases getM S.flows r.tup <;> rfl
    have hl := Ok.out.lf
    have hfull := Lib.hid (show fullS S r = (!(getM S.flows r.tup).isSome && decide (256 ≤ S.flows.length)) by unfold fullS; rw [if_pos k1])
    have b1 : (r.kind == 1) = true := by simp [k1]
    clear k1
    have HL := Lib.hid (show ∀ w', Kept [] (w.alloc (.cells #[.int .i64 r.kind, .int .u32 (r.tup.src.toNat : Nat), .int .u32 (r.tup.dst.toNat : Nat), .int .i64 r.tup.proto, .int .i64 r.tup.sport, .int .i64 r.tup.dport, .int .i64 r.fb, .int .i64 r.fg, .int .i64 r.fs, .int .i64 r.gen, .slice A' m' c', .int .i64 r.back, .int .i64 r.until_, .int .i64 r.count] 45)) w' → (Instr.lookup 61 (.map (some bf)) (.agg #[.int .u32 (r.tup.src.toNat : Nat), .int .u32 (r.tup.dst.toNat : Nat), .int .i64 r.tup.proto, .int .i64 r.tup.sport, .int .i64 r.tup.dport]) true).run Tryz.prog w' = .ok (.tuple #[.agg #[.int .u32 (f.tup.src.toNat : Nat), .int .u32 (f.tup.dst.toNat : Nat), .int .i64 f.tup.proto, .int .i64 f.tup.sport, .int .i64 f.tup.dport, .int .i64 f.back, .int .i64 f.gen, .int .i64 f.seen], .bool (getM S.flows r.tup).isSome]) w' from fun w' hk => by
      have := (H5.out.go hk).looks.2 r.tup
      rw [ef] at this
      exact this)
    clear ef hf
    have HN := Lib.hid (fun (w' : World) (hk : Kept [] (w.alloc (.cells #[.int .i64 r.kind, .int .u32 (r.tup.src.toNat : Nat), .int .u32 (r.tup.dst.toNat : Nat), .int .i64 r.tup.proto, .int .i64 r.tup.sport, .int .i64 r.tup.dport, .int .i64 r.fb, .int .i64 r.fg, .int .i64 r.fs, .int .i64 r.gen, .slice A' m' c', .int .i64 r.back, .int .i64 r.until_, .int .i64 r.count] 45)) w') => show ∀ ty, (Builtin.len_ #[61] ty #[.map (some bf)]).run Tryz.prog w' = .ok (.int .i64 (S.flows.length : Nat)) w' from fun ty => (H5.out.go hk).mf.len Tryz.underlying61 ty)
    generalize S.flows.length = n at *
    generalize (getM S.flows r.tup).isSome = b at *
    go_enter Tryz.func32, Tryz.ntmps32
    go_wp2
    generalize w.alloc (.cells #[.int .i64 r.kind, .int .u32 (r.tup.src.toNat : Nat), .int .u32 (r.tup.dst.toNat : Nat), .int .i64 r.tup.proto, .int .i64 r.tup.sport, .int .i64 r.tup.dport, .int .i64 r.fb, .int .i64 r.fg, .int .i64 r.fs, .int .i64 r.gen, .slice A' m' c', .int .i64 r.back, .int .i64 r.until_, .int .i64 r.count] 45) = w5 at *
    go_region_held3 (fun w' => (∀ o, w'.cell? ⟨p, o, none⟩ = (#[.int .i64 S.gen, .slice A m c, .map (some bd), .map (some bf)] : Array Value)[o]?) ∧ (∀ o, w'.cell? ⟨w.heap.size, o, none⟩ = (#[.int .i64 r.kind, .int .u32 (r.tup.src.toNat : Nat), .int .u32 (r.tup.dst.toNat : Nat), .int .i64 r.tup.proto, .int .i64 r.tup.sport, .int .i64 r.tup.dport, .int .i64 r.fb, .int .i64 r.fg, .int .i64 r.fs, .int .i64 r.gen, .slice A' m' c', .int .i64 r.back, .int .i64 r.until_, .int .i64 r.count] : Array Value)[o]?) ∧ (Instr.lookup 61 (.map (some bf)) (.agg #[.int .u32 (r.tup.src.toNat : Nat), .int .u32 (r.tup.dst.toNat : Nat), .int .i64 r.tup.proto, .int .i64 r.tup.sport, .int .i64 r.tup.dport]) true).run Tryz.prog w' = .ok (.tuple #[.agg #[.int .u32 (f.tup.src.toNat : Nat), .int .u32 (f.tup.dst.toNat : Nat), .int .i64 f.tup.proto, .int .i64 f.tup.sport, .int .i64 f.tup.dport, .int .i64 f.back, .int .i64 f.gen, .int .i64 f.seen], .bool b]) w')
      (exact ⟨(Blk.kept (S := []) H5.out.blk (by (repeat (first | exact Kept.refl _ _ | apply Kept.alloc | apply Kept.drew))) (by simp)).cell, (Blk.kept (S := []) X5.out (by (repeat (first | exact Kept.refl _ _ | apply Kept.alloc | apply Kept.drew))) (by simp)).cell, HL.out _ (by (repeat (first | exact Kept.refl _ _ | apply Kept.alloc | apply Kept.drew)))⟩)
      (fail)
    all_goals
      have hk6 : Kept [] w5 (w5.alloc (.cells #[.int .u32 (f.tup.src.toNat : Nat), .int .u32 (f.tup.dst.toNat : Nat), .int .i64 f.tup.proto, .int .i64 f.tup.sport, .int .i64 f.tup.dport, .int .i64 f.back, .int .i64 f.gen, .int .i64 f.seen] 43)).drew := by (repeat (first | exact Kept.refl _ _ | apply Kept.alloc | apply Kept.drew))
      have HN6 := HN.out _ hk6
      have hc6 := (H5.out.go hk6).cells
      have HK6 := Lib.hid (HK5.out.trans hk6 (by simp))
      clear hk6
      generalize (w5.alloc (.cells #[.int .u32 (f.tup.src.toNat : Nat), .int .u32 (f.tup.dst.toNat : Nat), .int .i64 f.tup.proto, .int .i64 f.tup.sport, .int .i64 f.tup.dport, .int .i64 f.back, .int .i64 f.gen, .int .i64 f.seen] 43)).drew = w6 at *
      obtain ⟨-, -, c2, c3⟩ := hc6
      cases b
      · by_cases hn : 256 ≤ n
        · have hn' : (256 : Int) ≤ (n : Int) := by omega
          go_wp2
          go_ret
          exact ⟨by rw [hfull.out, decide_eq_true hn]; rfl, HK6.out⟩
        · have hn' : ¬ (256 : Int) ≤ (n : Int) := by omega
          go_wp2
          go_ret
          exact ⟨by rw [hfull.out, decide_eq_false hn]; rfl, HK6.out⟩
      · go_wp2
        go_ret
        exact ⟨by rw [hfull.out]; rfl, HK6.out⟩
  · have b1 : (r.kind == 1) = false := by simp [k1]
    by_cases k4 : r.kind = 4
    · have hl := Ok.out.ld
      have hfull := Lib.hid (show fullS S r = (!(getM S.drains r.back).isSome && decide (16 ≤ S.drains.length)) by unfold fullS; rw [if_neg k1, if_pos k4])
      have b4 : (r.kind == 4) = true := by simp [k4]
      clear k1 k4
      obtain ⟨z, hz⟩ : ∃ z, (getM S.drains r.back).getD 0 = z := ⟨_, rfl⟩
      have ez : ((getM S.drains r.back).map evI).getD (.int .i64 0) = .int .i64 z := by rw [← hz]; cases getM S.drains r.back <;> rfl
      have HL : ∀ n, (Instr.lookup 60 (.map (some bd)) (.int .i64 r.back) true).run Tryz.prog ((w.alloc (.cells #[.int .i64 r.kind, .int .u32 (r.tup.src.toNat : Nat), .int .u32 (r.tup.dst.toNat : Nat), .int .i64 r.tup.proto, .int .i64 r.tup.sport, .int .i64 r.tup.dport, .int .i64 r.fb, .int .i64 r.fg, .int .i64 r.fs, .int .i64 r.gen, .slice A' m' c', .int .i64 r.back, .int .i64 r.until_, .int .i64 r.count] 45)).drewN n) = .ok (.tuple #[.int .i64 z, .bool (getM S.drains r.back).isSome]) ((w.alloc (.cells #[.int .i64 r.kind, .int .u32 (r.tup.src.toNat : Nat), .int .u32 (r.tup.dst.toNat : Nat), .int .i64 r.tup.proto, .int .i64 r.tup.sport, .int .i64 r.tup.dport, .int .i64 r.fb, .int .i64 r.fg, .int .i64 r.fs, .int .i64 r.gen, .slice A' m' c', .int .i64 r.back, .int .i64 r.until_, .int .i64 r.count] 45)).drewN n) := fun n => by
        have := (H5.out.drewN n).looks.1 r.back
        rw [ez] at this
        exact this
      clear ez hz
      have HN := H5.out.lens.1
      obtain ⟨-, -, c2, c3⟩ := H5.out.cells
      generalize S.drains.length = n at *
      generalize (getM S.drains r.back).isSome = b at *
      have hx5 := X5.out.cell
      go_enter Tryz.func32, Tryz.ntmps32
      go_wp2
      generalize w.alloc (.cells #[.int .i64 r.kind, .int .u32 (r.tup.src.toNat : Nat), .int .u32 (r.tup.dst.toNat : Nat), .int .i64 r.tup.proto, .int .i64 r.tup.sport, .int .i64 r.tup.dport, .int .i64 r.fb, .int .i64 r.fg, .int .i64 r.fs, .int .i64 r.gen, .slice A' m' c', .int .i64 r.back, .int .i64 r.until_, .int .i64 r.count] 45) = w5 at *
      go_quiet (fail)
      cases b
      · by_cases hn : 16 ≤ n
        · have hn' : (16 : Int) ≤ (n : Int) := by omega
          go_wp2
          go_ret
          exact ⟨by rw [hfull.out, decide_eq_true hn]; rfl, HK5.out.drewN _⟩
        · have hn' : ¬ (16 : Int) ≤ (n : Int) := by omega
          go_wp2
          go_ret
          exact ⟨by rw [hfull.out, decide_eq_false hn]; rfl, HK5.out.drewN _⟩
      · go_wp2
        go_ret
        exact ⟨by rw [hfull.out]; rfl, HK5.out.drewN _⟩
    · have b4 : (r.kind == 4) = false := by simp [k4]
      have hfull := Lib.hid (show fullS S r = false by unfold fullS; rw [if_neg k1, if_neg k4])
      clear k1 k4
      go_enter Tryz.func32, Tryz.ntmps32
      go_wp2
      go_ret
      exact ⟨by rw [hfull.out]; rfl, HK5.out⟩
end Go.Proofs.YtdabbkkjmmbigaaGreat
