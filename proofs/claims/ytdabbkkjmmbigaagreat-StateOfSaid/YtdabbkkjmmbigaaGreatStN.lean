
/-
  States: what every program must know; a state that there isn't.
-/
import Derived.Test.YtdabbkkjmmbigaaGreatStF
import Derived.Test.YtdabbkkjmmbigaaGreatStL
namespace Go.Proofs.YtdabbkkjmmbigaaGreat
open Go.RowKit Go.ChangeShapes Go.WideShapes Go.ChangeAt Go.Deep Go.MapKept
set_option linter.unusedVariables false

theorem small_nil (w : World) : ∃ G, SmallB w G none 0 0 [] := BkV.small (LV.nil (Kept.refl [] w) : BkV w w (.slice none 0 0) []) (by simp)
def kA : TupD := ⟨0, 0, 6, 0, 0⟩
def rA1 : RecD := { (default : RecD) with kind := 1, tup := kA, fb := 3 }
def rA2 : RecD := { (default : RecD) with kind := 2, tup := kA }
def sA1 : StD := ⟨0, [], [], [(kA, flowR rA1)]⟩
theorem aw1 : errS newS rA1 = 0 ∧ applyS newS rA1 = sA1 := ⟨by decide, by rfl⟩
theorem aw2 : errS sA1 rA2 = 0 ∧ applyS sA1 rA2 = newS := ⟨by decide, by rfl⟩
theorem aw3 : getM sA1.flows kA = some (flowR rA1) := by rfl
/-- a record's applying leaves what is no state's -/
theorem apply_blk {W w w' : World} {p bd bf : Nat} {A : Option Addr} {m c : Nat} {S : StD} (h : StAt W w p bd bf A m c S) (hk : Kept [p, bd, bf] w w') {g : Nat} {t : TypeId} {cs : Array Value} (hb : Blk w g t cs) (ht : t ≠ 63) : Blk w' g t cs := by
  have h1 : g ≠ p := hb.ne h.blk ht
  have h2 := h.md.ne_blk hb
  have h3 := h.mf.ne_blk hb
  exact hb.kept hk (by simpa using ⟨h1, fun e => h2 e.symm, fun e => h3 e.symm⟩)
theorem lv_len {α : Type} {Dec : World → List Nat → List Value → α → Prop} {e : TypeId} {n : Nat} {W w : World} {A : Option Addr} {m c : Nat} {l : List α} (h : LV Dec e n W w (.slice A m c) l) : m = l.length := by
  obtain ⟨css, G, hx⟩ := h
  rcases hx.own.2 with ⟨h1, h2⟩ | ⟨g, cap, cur, h1, _⟩
  · injection h1 with _ h3 _; omega
  · injection h1
theorem field3 (w : World) (x : Int) (A1 A2 A3 : Option Addr) (m1 c1 m2 c2 m3 c3 : Nat) : (Instr.field 26 (.agg #[.int .i64 x, .slice A1 m1 c1, .slice A2 m2 c2, .slice A3 m3 c3]) 3).run Tryz.prog w = .ok (.slice A3 m3 c3) w := by
  unfold Instr.field
  simp [run_underlying Tryz.underlying26, Result.andThen, asAgg, part, Tryz.isAgg24]
set_option maxRecDepth 100000 in
set_option maxHeartbeats 1600000 in
theorem awake14_any (w : World) : Calls Tryz.prog 4 #[] w fun e w' => e = .returned (.bool true) ∧ Kept [] w w' := by
  have AP1 := Lib.hid (fun (w1 : World) (p : Nat) (h : StB w w1 p newS) => show Calls Tryz.prog 11 #[.pointer (some ⟨p, 0, none⟩), .agg #[.int .i64 1, .int .u32 0, .int .u32 0, .int .i64 6, .int .i64 0, .int .i64 0, .int .i64 3, .int .i64 0, .int .i64 0, .int .i64 0, .slice none 0 0, .int .i64 0, .int .i64 0, .int .i64 0]] w1 fun e w' => e = .returned (.int .i64 0) ∧ StB w w' p sA1 ∧ ∀ g t cs, Blk w1 g t cs → t ≠ 63 → Blk w' g t cs from by
    obtain ⟨G, hG⟩ := small_nil w1
    obtain ⟨bd, bf, A, m, c, h⟩ := h
    refine (Apply_any h OkS.new rA1 hG).mono ?_
    rintro e w' ⟨rfl, hk, A, m, c, hs⟩
    rw [aw1.2] at hs
    exact ⟨by rw [aw1.1], ⟨_, _, _, _, _, hs⟩, fun g t cs hb ht => apply_blk h hk hb ht⟩)
  have AP2 := Lib.hid (fun (w1 : World) (p : Nat) (h : StB w w1 p sA1) => show Calls Tryz.prog 11 #[.pointer (some ⟨p, 0, none⟩), .agg #[.int .i64 2, .int .u32 0, .int .u32 0, .int .i64 6, .int .i64 0, .int .i64 0, .int .i64 0, .int .i64 0, .int .i64 0, .int .i64 0, .slice none 0 0, .int .i64 0, .int .i64 0, .int .i64 0]] w1 fun e w' => e = .returned (.int .i64 0) ∧ StB w w' p newS ∧ ∀ g t cs, Blk w1 g t cs → t ≠ 63 → Blk w' g t cs from by
    obtain ⟨G, hG⟩ := small_nil w1
    obtain ⟨bd, bf, A, m, c, h⟩ := h
    refine (Apply_any h (by rw [← aw1.2]; exact OkS.new.apply _) rA2 hG).mono ?_
    rintro e w' ⟨rfl, hk, A, m, c, hs⟩
    rw [aw2.2] at hs
    exact ⟨by rw [aw2.1], ⟨_, _, _, _, _, hs⟩, fun g t cs hb ht => apply_blk h hk hb ht⟩)
  have GE := Lib.hid (fun (w1 : World) (p : Nat) (h : StB w w1 p sA1) => show Calls Tryz.prog 12 #[.pointer (some ⟨p, 0, none⟩), .agg #[.int .u32 0, .int .u32 0, .int .i64 6, .int .i64 0, .int .i64 0]] w1 fun e w' => e = .returned (.tuple #[.agg #[.int .u32 0, .int .u32 0, .int .i64 6, .int .i64 0, .int .i64 0, .int .i64 3, .int .i64 0, .int .i64 0], .bool true]) ∧ StB w w' p sA1 ∧ Kept [] w1 w' from by
    refine (Get_any h kA).mono ?_
    rintro e w' ⟨rfl, hk⟩
    exact ⟨rfl, h.go hk, hk⟩)
  have VI := Lib.hid (fun (w1 : World) (p : Nat) (h : StB w w1 p newS) => show Calls Tryz.prog 9 #[.pointer (some ⟨p, 0, none⟩)] w1 fun e w' => ∃ x A1 m1 c1 A2 m2 c2 A3 c3, e = .returned (.agg #[.int .i64 x, .slice A1 m1 c1, .slice A2 m2 c2, .slice A3 0 c3]) ∧ StB w w' p newS ∧ Kept [] w1 w' from by
    refine (View_any h OkS.new).mono ?_
    rintro e w' ⟨V, A1, m1, c1, A2, m2, c2, A3, m3, c3, rfl, hv, h3⟩
    have hk := LV.kept h3.bk
    have hl := lv_len h3.fl
    have hn : V.flows = [] := by have := hv.fp; simpa [newS] using this
    rw [hn] at hl
    obtain rfl : m3 = 0 := hl
    exact ⟨_, _, _, _, _, _, _, _, _, rfl, h.go hk, hk⟩)
  have LE := Lib.hid (fun (w1 : World) (p : Nat) (h : StB w w1 p newS) => show Calls Tryz.prog 13 #[.pointer (some ⟨p, 0, none⟩)] w1 fun e w' => e = .returned (.int .i64 1) ∧ Kept [] w1 w' from by
    refine (StLen_any h OkS.new).mono ?_
    rintro e w' ⟨rfl, n, rfl⟩
    exact ⟨rfl, (Kept.refl [] w1).drewN n⟩)
  have hfld := field3
  go_enter Tryz.func4, Tryz.ntmps4
  go_wp2_with (first
    | (go_at_call 10
       refine (New_any _).mono ?_
       rintro e w1 ⟨p, rfl, hs⟩
       have H1 := Lib.hid (hs.go ((Kept.refl [] w1).alloc (.cells #[.int .u32 0, .int .u32 0, .int .i64 6, .int .i64 0, .int .i64 0] 40)))
       have B1 := Lib.hid (Blk.new w1 40 #[.int .u32 0, .int .u32 0, .int .i64 6, .int .i64 0, .int .i64 0])
       clear hs)
    | (go_at_call 11
       with_reducible refine (AP1.out _ _ H1.out).mono ?_
       rintro e w2 ⟨rfl, h2, hb⟩
       have H2 := Lib.hid h2
       have B2 := Lib.hid (hb _ _ _ B1.out (by decide))
       have hc2 := B2.out.cell
       clear h2 hb)
    | (go_at_call 12
       with_reducible refine (GE.out _ _ H2.out).mono ?_
       rintro e w3 ⟨rfl, h3, hk3⟩
       have H3 := Lib.hid (h3.go ((Kept.refl [] w3).alloc (.cells #[.int .u32 0, .int .u32 0, .int .i64 6, .int .i64 0, .int .i64 0, .int .i64 3, .int .i64 0, .int .i64 0] 43)))
       have B3 := Lib.hid (B2.out.kept hk3 (by simp))
       have hc3 := B3.out.cell
       have hd3 : ∀ obj o, (w3.alloc obj).cell? ⟨w1.heap.size, o, none⟩ = (#[.int .u32 0, .int .u32 0, .int .i64 6, .int .i64 0, .int .i64 0] : Array Value)[o]? := fun obj => (B3.out.alloc obj).cell
       have F3 := Lib.hid (Blk.new w3 43 #[.int .u32 0, .int .u32 0, .int .i64 6, .int .i64 0, .int .i64 0, .int .i64 3, .int .i64 0, .int .i64 0])
       clear h3 hk3 hc2)
    | (go_at_call 11
       with_reducible refine (AP2.out _ _ H3.out).mono ?_
       rintro e w4 ⟨rfl, h4, hb⟩
       have H4 := Lib.hid h4
       have F4 := Lib.hid (hb _ _ _ F3.out (by decide))
       have hf4 := F4.out.cell
       clear h4 hb hc3 hd3)
    | (go_at_call 9
       with_reducible refine (VI.out _ _ H4.out).mono ?_
       rintro e w5 ⟨x, A1, m1, c1, A2, m2, c2, A3, c3, rfl, h5, hk5⟩
       have H5 := Lib.hid h5
       clear h5 hk5)
    | (go_at_call 13
       with_reducible refine (LE.out _ _ H5.out).mono ?_
       rintro e w6 ⟨rfl, hk6⟩
       have HK := Lib.hid (H5.out.kept.trans hk6 (by simp))
       clear hk6))
  go_ret
  exact ⟨rfl, HK.out⟩
end Go.Proofs.YtdabbkkjmmbigaaGreat
