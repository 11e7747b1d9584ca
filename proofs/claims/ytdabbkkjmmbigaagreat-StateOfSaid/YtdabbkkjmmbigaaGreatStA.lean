
/-
  States in memory: their keys, their maps.
-/
import Derived.Test.YtdabbkkjmmbigaaGreatStM
import Derived.Test.YtdabbkkjmmbigaaGreatBlk
import Derived.Laws.StructEq
namespace Go.Proofs.YtdabbkkjmmbigaaGreat
open Go.RowKit Go.ChangeShapes Go.WideShapes Go.ChangeAt Go.Deep Go.MapKept
set_option linter.unusedVariables false

def ekT (t : TupD) : Value := .agg #[.int .u32 (t.src.toNat : Nat), .int .u32 (t.dst.toNat : Nat), .int .i64 t.proto, .int .i64 t.sport, .int .i64 t.dport]
def ekI (n : Int) : Value := .int .i64 n
def evI (n : Int) : Value := .int .i64 n
def flC (f : FlD) : List Value := [.int .u32 (f.tup.src.toNat : Nat), .int .u32 (f.tup.dst.toNat : Nat), .int .i64 f.tup.proto, .int .i64 f.tup.sport, .int .i64 f.tup.dport, .int .i64 f.back, .int .i64 f.gen, .int .i64 f.seen]
def evF (f : FlD) : Value := .agg #[.int .u32 (f.tup.src.toNat : Nat), .int .u32 (f.tup.dst.toNat : Nat), .int .i64 f.tup.proto, .int .i64 f.tup.sport, .int .i64 f.tup.dport, .int .i64 f.back, .int .i64 f.gen, .int .i64 f.seen]
theorem ekI_fam : KeyFam Tryz.prog 3 ekI := KeyFam.plain (d := .int .i64) Tryz.underlying3 (fun x => rfl) (fun {a b} h => by injection h)
theorem ekT_inj {a b : TupD} (h : ekT a = ekT b) : a = b := by
  cases a; cases b
  simp only [ekT, Value.agg.injEq, Array.mk.injEq, List.cons.injEq, Value.int.injEq, true_and, and_true] at h
  obtain ⟨h1, h2, h3, h4, h5⟩ := h
  rw [TupD.mk.injEq]
  exact ⟨UInt32.toNat_inj.1 (by omega), UInt32.toNat_inj.1 (by omega), h3, h4, h5⟩
theorem ekT_check (w : World) (em : Bool) (t : TupD) : (Instr.checkKey em 10000 40 (ekT t)).run Tryz.prog w = .ok () w := by
  have h1 := Tryz.underlying40
  have h2 := Tryz.underlying38
  have h3 := Tryz.underlying3
  have a3 := Tryz.isAgg3
  have z3 := Tryz.sizeOf3
  have a22 := Tryz.isAgg38
  have z22 := Tryz.sizeOf38
  have k3 : ∀ (n : Int) (w : World), (Instr.checkKey em 9999 3 (.int .i64 n)).run Tryz.prog w = .ok () w := fun n w => run_checkKey h3 (show IsKey (.int .i64) (.int .i64 n) from rfl) em 9998
  have k2 : ∀ (n : Int) (w : World), (Instr.checkKey em 9999 38 (.int .u32 n)).run Tryz.prog w = .ok () w := fun n w => run_checkKey h2 (show IsKey (.int .u32) (.int .u32 n) from rfl) em 9998
  show (Instr.checkKey em (9999 + 1) 40 (ekT t)).run Tryz.prog w = .ok () w
  unfold Instr.checkKey
  simp [run_underlying h1, ekT]
  clear h1
  go_simp
theorem eqT_run (f g : TupD) (w : World) : (Op.equalIn 10000 40 (.agg #[.int .u32 (f.src.toNat : Nat), .int .u32 (f.dst.toNat : Nat), .int .i64 f.proto, .int .i64 f.sport, .int .i64 f.dport]) (.agg #[.int .u32 (g.src.toNat : Nat), .int .u32 (g.dst.toNat : Nat), .int .i64 g.proto, .int .i64 g.sport, .int .i64 g.dport])).run Tryz.prog w = .ok (sameT f g) w := by
  have u3 := Tryz.underlying3
  have u22 := Tryz.underlying38
  have a3 := Tryz.isAgg3
  have z3 := Tryz.sizeOf3
  have a22 := Tryz.isAgg38
  have z22 := Tryz.sizeOf38
  have hS' : Tryz.prog.underlying 40 = some (.struct (Tryz.prog.fieldsOf 40)) := by kernel_rfl
  have hp' : Tryz.prog.stoodInHeld 40 = false := by kernel_rfl
  rw [show (10000 : Nat) = 9999 + 1 from rfl, run_equalIn_agg w 9999 40 _ _ hS' hp']
  simp only [Program.fieldsOf, Tryz.underlying40]
  clear hS' hp'
  go_simp
  have e1 := u32_cast f.src g.src
  have e2 := u32_cast f.dst g.dst
  unfold sameT
  cases h1 : f.src == g.src <;> cases h2 : f.dst == g.dst <;> cases h3 : f.proto == g.proto <;> cases h4 : f.sport == g.sport <;> cases h5 : f.dport == g.dport <;> rw [h1] at e1 <;> rw [h2] at e2 <;> simp_all
theorem findT (w : World) (t : TupD) : ∀ (es : List MapEntry) (i : Nat), (∀ e ∈ es, ∃ y, e.key = ekT y) →
    ((Instr.findAsking 40 (ekT t) es i).run Tryz.prog w = .ok none w ∧ ∀ e ∈ es, e.key ≠ ekT t) ∨ ∃ j e, (Instr.findAsking 40 (ekT t) es i).run Tryz.prog w = .ok (some (i + j, e.val)) w ∧ es[j]? = some e ∧ e.key = ekT t
  | [], i, _ => .inl ⟨by simp [Instr.findAsking], by simp⟩
  | e :: es, i, h => by
    obtain ⟨y, hy⟩ := h e (by simp)
    have heq : (Op.equal 40 (ekT t) (ekT y)).run Tryz.prog w = .ok (sameT t y) w := eqT_run t y w
    cases hs : sameT t y
    · have hne : e.key ≠ ekT t := fun q => by
        have : y = t := ekT_inj (hy.symm.trans q)
        rw [this, sameT_iff.2 rfl] at hs
        cases hs
      rcases findT w t es (i + 1) (fun x hx => h x (by simp [hx])) with ⟨h1, h2⟩ | ⟨j, x, h1, h2, h3⟩
      · refine .inl ⟨?_, fun x hx => ?_⟩
        · unfold Instr.findAsking
          simp [hy, heq, hs, h1, Result.andThen]
        · rcases List.mem_cons.1 hx with rfl | hx
          · exact hne
          · exact h2 x hx
      · refine .inr ⟨j + 1, x, ?_, by simpa using h2, h3⟩
        unfold Instr.findAsking
        simp [hy, heq, hs, h1, Result.andThen]
        omega
    · obtain rfl : t = y := sameT_iff.1 hs
      refine .inr ⟨0, e, ?_, rfl, hy⟩
      unfold Instr.findAsking
      simp [hy, heq, hs, Result.andThen]
theorem ekT_fam : KeyFam Tryz.prog 40 ekT where
  inj := ekT_inj
  check := ekT_check
  find w x es hes := by
    have e : (Instr.findKey 40 (ekT x) es).run Tryz.prog w = (Instr.findAsking 40 (ekT x) es 0).run Tryz.prog w := by
      unfold Instr.findKey
      have h1 := Tryz.underlying40
      cases es with
      | nil => simp [run_underlying h1, Instr.findNow, Instr.findAsking]
      | cons y es => simp [run_underlying h1, Instr.findNow, Instr.sameNow]
    rw [e]
    have := findT w x es 0 hes
    simpa using this
  stays w x := by
    have hb : Instr.sameBits 10000 (ekT x) (ekT x) = true := by
      show Instr.sameBits (9999 + 1) (ekT x) (ekT x) = true
      unfold Instr.sameBits
      simp [ekT, Instr.sameBits]
    unfold Instr.keyThatStays
    rw [hb]
    rfl
end Go.Proofs.YtdabbkkjmmbigaaGreat
