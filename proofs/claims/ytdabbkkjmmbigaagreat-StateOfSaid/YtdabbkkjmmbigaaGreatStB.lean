
/-
  States in memory: made, asked.
-/
import Derived.Test.YtdabbkkjmmbigaaGreatStA
import Derived.Test.YtdabbkkjmmbigaaGreatRecD
import Derived.Test.YtdabbkkjmmbigaaGreatTupL
import Derived.Deep.RegionHeld3
import Derived.Deep.RegionLawGrows
import Derived.BigQuiet
namespace Go.Proofs.YtdabbkkjmmbigaaGreat
open Go.RowKit Go.ChangeShapes Go.WideShapes Go.ChangeAt Go.Deep Go.MapKept
set_option linter.unusedVariables false

/-- in w, block p is a state, made since W, that holds S; its maps lie in bd and bf, its backends in the slice A m c -/
structure StAt (W w : World) (p bd bf : Nat) (A : Option Addr) (m c : Nat) (S : StD) : Prop where
  blk : Blk w p 63 #[.int .i64 S.gen, .slice A m c, .map (some bd), .map (some bf)]
  md : MapB ekI evI w bd S.drains
  mf : MapB ekT evF w bf S.flows
  bk : BkV W w (.slice A m c) S.backs
  hp : W.heap.size ≤ p
  hd : W.heap.size ≤ bd
  hf : W.heap.size ≤ bf
  ne : bd ≠ bf
def StB (W w : World) (p : Nat) (S : StD) : Prop := ∃ bd bf A m c, StAt W w p bd bf A m c S
theorem StAt.go {W w w' : World} {p bd bf : Nat} {A : Option Addr} {m c : Nat} {S : StD} (h : StAt W w p bd bf A m c S) (hk : Kept [] w w') : StAt W w' p bd bf A m c S :=
  ⟨h.blk.kept hk (by simp), h.md.kept hk (by simp), h.mf.kept hk (by simp), LV.go BkOk h.bk hk, h.hp, h.hd, h.hf, h.ne⟩
theorem StAt.kept {W w : World} {p bd bf : Nat} {A : Option Addr} {m c : Nat} {S : StD} (h : StAt W w p bd bf A m c S) : Kept [] W w := LV.kept h.bk
theorem StB.go {W w w' : World} {p : Nat} {S : StD} (h : StB W w p S) (hk : Kept [] w w') : StB W w' p S := by
  obtain ⟨bd, bf, A, m, c, h⟩ := h
  exact ⟨bd, bf, A, m, c, h.go hk⟩
theorem StB.kept {W w : World} {p : Nat} {S : StD} (h : StB W w p S) : Kept [] W w := by
  obtain ⟨bd, bf, A, m, c, h⟩ := h
  exact h.kept
theorem StB.wide {W0 W w : World} {p : Nat} {S : StD} (h : StB W w p S) (hk : Kept [] W0 W) : StB W0 w p S := by
  obtain ⟨bd, bf, A, m, c, h⟩ := h
  have := hk.size
  exact ⟨bd, bf, A, m, c, h.blk, h.md, h.mf, LV.wide h.bk hk, by have := h.hp; omega, by have := h.hd; omega, by have := h.hf; omega, h.ne⟩
set_option maxHeartbeats 1600000 in
theorem New_any (w : World) : Calls Tryz.prog 10 #[] w fun e w' => ∃ p, e = .returned (.pointer (some ⟨p, 0, none⟩)) ∧ StB w w' p newS := by
  have hmm := @run_makeMap Tryz.prog
  have M1 := Lib.hid (MapB.new (ek := ekI) (ev := evI) w)
  have M2 := Lib.hid (MapB.new (ek := ekT) (ev := evF) (w.alloc (.map #[] 0)))
  have K := Lib.hid (((Kept.refl [] w).alloc (.map #[] 0)).alloc (.map #[] 0))
  go_enter Tryz.func10, Tryz.ntmps10
  go_wp2
  go_ret
  refine ⟨_, rfl, w.heap.size, (w.alloc (.map #[] 0)).heap.size, none, 0, 0, ?_⟩
  have L0 := M1.out.lt
  have M1' := (M1.out.alloc (.map #[] 0)).alloc (.cells #[.int .i64 0, .slice none 0 0, .map (some w.heap.size), .map (some (w.heap.size + 1))] 63 (0, 0))
  have M2' := M2.out.alloc (.cells #[.int .i64 0, .slice none 0 0, .map (some w.heap.size), .map (some (w.heap.size + 1))] 63 (0, 0))
  refine ⟨?_, M1', M2', ?_, ?_, ?_, ?_, ?_⟩
  · simp only [World.size_alloc]
    refine Blk.new' _ ?_ _ _
    simp only [World.size_alloc]
  · exact LV.nil (K.out.alloc _)
  all_goals (first | omega | (simp only [World.size_alloc]; omega))
theorem StAt.drewN {W w : World} {p bd bf : Nat} {A : Option Addr} {m c : Nat} {S : StD} (h : StAt W w p bd bf A m c S) (n : Nat) : StAt W (w.drewN n) p bd bf A m c S := h.go ((Kept.refl [] w).drewN n)
/-- laid facts of a state's own maps, whatever is drawn -/
theorem StAt.lens {W w : World} {p bd bf : Nat} {A : Option Addr} {m c : Nat} {S : StD} (h : StAt W w p bd bf A m c S) :
    (∀ n ty, (Builtin.len_ #[60] ty #[.map (some bd)]).run Tryz.prog (w.drewN n) = .ok (.int .i64 (S.drains.length : Nat)) (w.drewN n)) ∧ (∀ n ty, (Builtin.len_ #[61] ty #[.map (some bf)]).run Tryz.prog (w.drewN n) = .ok (.int .i64 (S.flows.length : Nat)) (w.drewN n)) :=
  ⟨fun n ty => (h.drewN n).md.len Tryz.underlying60 ty, fun n ty => (h.drewN n).mf.len Tryz.underlying61 ty⟩
theorem StAt.cells {W w : World} {p bd bf : Nat} {A : Option Addr} {m c : Nat} {S : StD} (h : StAt W w p bd bf A m c S) :
    w.cell? ⟨p, 0, none⟩ = some (.int .i64 S.gen) ∧ w.cell? ⟨p, 1, none⟩ = some (.slice A m c) ∧ w.cell? ⟨p, 2, none⟩ = some (.map (some bd)) ∧ w.cell? ⟨p, 3, none⟩ = some (.map (some bf)) :=
  ⟨h.blk.cell 0, h.blk.cell 1, h.blk.cell 2, h.blk.cell 3⟩
def lenS (S : StD) : Int := 1 + S.drains.length + S.flows.length
theorem StLen_any {W w : World} {p : Nat} {S : StD} (h : StB W w p S) (ok : OkS S) : Calls Tryz.prog 13 #[.pointer (some ⟨p, 0, none⟩)] w fun e w' => e = .returned (.int .i64 (lenS S)) ∧ ∃ n, w' = w.drewN n := by
  obtain ⟨bd, bf, A, m, c, h⟩ := h
  obtain ⟨c0, c1, c2, c3⟩ := h.cells
  obtain ⟨l1, l2⟩ := h.lens
  have b1 := ok.ld
  have b2 := ok.lf
  have L := Lib.hid (show lenS S = 1 + (S.drains.length : Nat) + (S.flows.length : Nat) from rfl)
  clear c0 c1 ok
  have H := Lib.hid h
  clear h
  generalize S.drains.length = x at *
  generalize S.flows.length = y at *
  have k1 : IntKind.i64.wrap (1 + (x : Int)) = 1 + (x : Int) := IntWalk.i64_in _ (by omega)
  have k2 : IntKind.i64.wrap (1 + (x : Int) + (y : Int)) = 1 + (x : Int) + (y : Int) := IntWalk.i64_in _ (by omega)
  go_enter Tryz.func13, Tryz.ntmps13
  go_wp2
  go_quiet (fail)
  go_wp2
  go_ret
  exact ⟨by rw [L.out]; rfl, nq, rfl⟩
def zFl : FlD := ⟨⟨0, 0, 0, 0, 0⟩, 0, 0, 0⟩
theorem zFl_run (w : World) : (zeroValue 43).run Tryz.prog w = .ok (evF zFl) w := by
  have h1 := Tryz.underlying43
  go_simp
  rfl
theorem StAt.looks {W w : World} {p bd bf : Nat} {A : Option Addr} {m c : Nat} {S : StD} (h : StAt W w p bd bf A m c S) :
    (∀ k, (Instr.lookup 60 (.map (some bd)) (ekI k) true).run Tryz.prog w = .ok (.tuple #[((getM S.drains k).map evI).getD (.int .i64 0), .bool (getM S.drains k).isSome]) w) ∧
    (∀ k, (Instr.lookup 61 (.map (some bf)) (ekT k) true).run Tryz.prog w = .ok (.tuple #[((getM S.flows k).map evF).getD (evF zFl), .bool (getM S.flows k).isSome]) w) :=
  ⟨fun k => h.md.look ekI_fam Tryz.underlying60 (by go_simp) true k, fun k => h.mf.look ekT_fam Tryz.underlying61 (zFl_run w) true k⟩
theorem Get_any {W w : World} {p : Nat} {S : StD} (h : StB W w p S) (k : TupD) : Calls Tryz.prog 12 #[.pointer (some ⟨p, 0, none⟩), .agg #[.int .u32 (k.src.toNat : Nat), .int .u32 (k.dst.toNat : Nat), .int .i64 k.proto, .int .i64 k.sport, .int .i64 k.dport]] w fun e w' => e = .returned (.tuple #[evF ((getM S.flows k).getD zFl), .bool (getM S.flows k).isSome]) ∧ Kept [] w w' := by
  obtain ⟨bd, bf, A, m, c, h⟩ := h
  have hlk := h.looks.2 k
  obtain ⟨f, b, hf, hb⟩ : ∃ f b, (getM S.flows k).getD zFl = f ∧ (getM S.flows k).isSome = b := ⟨_, _, rfl, rfl⟩
  have ef : ((getM S.flows k).map evF).getD (evF zFl) = evF f := by rw [← hf]; cases getM S.flows k <;> rfl
  have H := Lib.hid h
  have HL := Lib.hid (show ∀ w', Kept [] w w' → (Instr.lookup 61 (.map (some bf)) (.agg #[.int .u32 (k.src.toNat : Nat), .int .u32 (k.dst.toNat : Nat), .int .i64 k.proto, .int .i64 k.sport, .int .i64 k.dport]) true).run Tryz.prog w' = .ok (.tuple #[.agg #[.int .u32 (f.tup.src.toNat : Nat), .int .u32 (f.tup.dst.toNat : Nat), .int .i64 f.tup.proto, .int .i64 f.tup.sport, .int .i64 f.tup.dport, .int .i64 f.back, .int .i64 f.gen, .int .i64 f.seen], .bool b]) w' from fun w' hk => by
    have := (h.go hk).looks.2 k
    rw [ef, hb] at this
    exact this)
  rw [hf, hb]
  clear h hlk hf hb ef
  have hp := H.out.blk.lt
  go_enter Tryz.func12, Tryz.ntmps12
  go_wp2
  have hk5 : Kept [] w ((w.alloc (.cells #[.int .u32 (k.src.toNat : Nat), .int .u32 (k.dst.toNat : Nat), .int .i64 k.proto, .int .i64 k.sport, .int .i64 k.dport] 40)).alloc (.cells #[.int .u32 0, .int .u32 0, .int .i64 0, .int .i64 0, .int .i64 0, .int .i64 0, .int .i64 0, .int .i64 0] 43)) := by (repeat (first | exact Kept.refl _ _ | apply Kept.alloc | apply Kept.drew))
  have X5 := Lib.hid (show Blk ((w.alloc (.cells #[.int .u32 (k.src.toNat : Nat), .int .u32 (k.dst.toNat : Nat), .int .i64 k.proto, .int .i64 k.sport, .int .i64 k.dport] 40)).alloc (.cells #[.int .u32 0, .int .u32 0, .int .i64 0, .int .i64 0, .int .i64 0, .int .i64 0, .int .i64 0, .int .i64 0] 43)) w.heap.size 40 #[.int .u32 (k.src.toNat : Nat), .int .u32 (k.dst.toNat : Nat), .int .i64 k.proto, .int .i64 k.sport, .int .i64 k.dport] from by (repeat (first | (apply Blk.new'; simp; done) | apply Blk.alloc | apply Blk.drew)))
  have Y5 := Lib.hid (show Blk ((w.alloc (.cells #[.int .u32 (k.src.toNat : Nat), .int .u32 (k.dst.toNat : Nat), .int .i64 k.proto, .int .i64 k.sport, .int .i64 k.dport] 40)).alloc (.cells #[.int .u32 0, .int .u32 0, .int .i64 0, .int .i64 0, .int .i64 0, .int .i64 0, .int .i64 0, .int .i64 0] 43)) (w.heap.size + 1) 43 #[.int .u32 0, .int .u32 0, .int .i64 0, .int .i64 0, .int .i64 0, .int .i64 0, .int .i64 0, .int .i64 0] from by (repeat (first | (apply Blk.new'; simp; done) | apply Blk.alloc | apply Blk.drew)))
  have H5 := Lib.hid (H.out.go hk5)
  have HK5 := Lib.hid hk5
  have HL5 := Lib.hid (show ∀ w', Kept [] ((w.alloc (.cells #[.int .u32 (k.src.toNat : Nat), .int .u32 (k.dst.toNat : Nat), .int .i64 k.proto, .int .i64 k.sport, .int .i64 k.dport] 40)).alloc (.cells #[.int .u32 0, .int .u32 0, .int .i64 0, .int .i64 0, .int .i64 0, .int .i64 0, .int .i64 0, .int .i64 0] 43)) w' → (Instr.lookup 61 (.map (some bf)) (.agg #[.int .u32 (k.src.toNat : Nat), .int .u32 (k.dst.toNat : Nat), .int .i64 k.proto, .int .i64 k.sport, .int .i64 k.dport]) true).run Tryz.prog w' = .ok (.tuple #[.agg #[.int .u32 (f.tup.src.toNat : Nat), .int .u32 (f.tup.dst.toNat : Nat), .int .i64 f.tup.proto, .int .i64 f.tup.sport, .int .i64 f.tup.dport, .int .i64 f.back, .int .i64 f.gen, .int .i64 f.seen], .bool b]) w' from fun w' hk' => HL.out w' (hk5.trans hk' (by simp)))
  clear hk5
  have hs5 : w.heap.size + 1 < ((w.alloc (.cells #[.int .u32 (k.src.toNat : Nat), .int .u32 (k.dst.toNat : Nat), .int .i64 k.proto, .int .i64 k.sport, .int .i64 k.dport] 40)).alloc (.cells #[.int .u32 0, .int .u32 0, .int .i64 0, .int .i64 0, .int .i64 0, .int .i64 0, .int .i64 0, .int .i64 0] 43)).heap.size := by simp
  generalize (w.alloc (.cells #[.int .u32 (k.src.toNat : Nat), .int .u32 (k.dst.toNat : Nat), .int .i64 k.proto, .int .i64 k.sport, .int .i64 k.dport] 40)).alloc (.cells #[.int .u32 0, .int .u32 0, .int .i64 0, .int .i64 0, .int .i64 0, .int .i64 0, .int .i64 0, .int .i64 0] 43) = w5 at *
  go_region_held3 (fun w' => (∀ o, w'.cell? ⟨p, o, none⟩ = (#[.int .i64 S.gen, .slice A m c, .map (some bd), .map (some bf)] : Array Value)[o]?) ∧ (∀ o, w'.cell? ⟨w.heap.size, o, none⟩ = (#[.int .u32 (k.src.toNat : Nat), .int .u32 (k.dst.toNat : Nat), .int .i64 k.proto, .int .i64 k.sport, .int .i64 k.dport] : Array Value)[o]?) ∧ (Instr.lookup 61 (.map (some bf)) (.agg #[.int .u32 (k.src.toNat : Nat), .int .u32 (k.dst.toNat : Nat), .int .i64 k.proto, .int .i64 k.sport, .int .i64 k.dport]) true).run Tryz.prog w' = .ok (.tuple #[.agg #[.int .u32 (f.tup.src.toNat : Nat), .int .u32 (f.tup.dst.toNat : Nat), .int .i64 f.tup.proto, .int .i64 f.tup.sport, .int .i64 f.tup.dport, .int .i64 f.back, .int .i64 f.gen, .int .i64 f.seen], .bool b]) w')
    (exact ⟨(Blk.kept (S := []) H5.out.blk (by (repeat (first | exact Kept.refl _ _ | apply Kept.alloc | apply Kept.drew))) (by simp)).cell, (Blk.kept (S := []) X5.out (by (repeat (first | exact Kept.refl _ _ | apply Kept.alloc | apply Kept.drew))) (by simp)).cell, HL5.out _ (by (repeat (first | exact Kept.refl _ _ | apply Kept.alloc | apply Kept.drew)))⟩)
    (fail)
  all_goals
    have hk6 : Kept [] w5 (w5.alloc (.cells #[.int .u32 (f.tup.src.toNat : Nat), .int .u32 (f.tup.dst.toNat : Nat), .int .i64 f.tup.proto, .int .i64 f.tup.sport, .int .i64 f.tup.dport, .int .i64 f.back, .int .i64 f.gen, .int .i64 f.seen] 43)).drew := by (repeat (first | exact Kept.refl _ _ | apply Kept.alloc | apply Kept.drew))
    have Z6 := Lib.hid (show Blk (w5.alloc (.cells #[.int .u32 (f.tup.src.toNat : Nat), .int .u32 (f.tup.dst.toNat : Nat), .int .i64 f.tup.proto, .int .i64 f.tup.sport, .int .i64 f.tup.dport, .int .i64 f.back, .int .i64 f.gen, .int .i64 f.seen] 43)).drew w5.heap.size 43 #[.int .u32 (f.tup.src.toNat : Nat), .int .u32 (f.tup.dst.toNat : Nat), .int .i64 f.tup.proto, .int .i64 f.tup.sport, .int .i64 f.tup.dport, .int .i64 f.back, .int .i64 f.gen, .int .i64 f.seen] from by (repeat (first | (apply Blk.new'; simp; done) | apply Blk.alloc | apply Blk.drew)))
    have Y6 := Lib.hid (Y5.out.kept hk6 (by simp))
    have HK6 := Lib.hid (HK5.out.trans hk6 (by simp))
    clear hk6
    generalize (w5.alloc (.cells #[.int .u32 (f.tup.src.toNat : Nat), .int .u32 (f.tup.dst.toNat : Nat), .int .i64 f.tup.proto, .int .i64 f.tup.sport, .int .i64 f.tup.dport, .int .i64 f.back, .int .i64 f.gen, .int .i64 f.seen] 43)).drew = w6 at *
    have hz6 := Z6.out.cell
    go_wp2_with ((with_reducible show wpList _ _ _ ({ dst := none, op := Op.store 43 (.tmp 4) (.tmp 20), type := _, pos := _, after := _, guard := _ } :: _) _ _); refine wpList_put (t := 43) rfl 43 (.tmp 4) (.tmp 20) rfl _ (by rfl) (by rfl) (by exact Y6.out) (by rfl) (by kernel_rfl) (by simp [Value.oneCell']) ?_; intro w7 hb7 hk7; have Hb7 := Lib.hid hb7; have Hk7 := Lib.hid hk7; clear hb7 hk7)
    refine bodyPost_ret (results_cell1 (t := 43) Tryz.results12 (by rfl) Hb7.out _ Tryz.underlying43 rfl (by kernel_rfl)) rfl ?_
    exact ⟨rfl, HK6.out.trans Hk7.out (by simp)⟩
end Go.Proofs.YtdabbkkjmmbigaaGreat
