
/-
  A writer of the call's own, step by step: contracts that name neither its row nor its footprint.
-/
import Derived.Test.YtoibecclilmllaaOctR
namespace Go.Proofs.Ytoibecclilmllaa
open Go.RowKit
set_option linter.unusedVariables false

theorem Wr.fresh (w : World) : Wr (w.alloc (.cells #[.slice none 0 0] 54)) w.heap.size (.slice none 0 0) [] := ⟨Blk.new _ _ _, Own.nil _ _ _⟩

/-- in w the writer at b, made since W, has written bs; nothing that was in W has turned -/
def WV (W : World) (b : Nat) (bs : List UInt8) (w : World) : Prop :=
  ∃ v, Wr w b v bs ∧ W.heap.size ≤ b ∧ (∀ k ∈ rowOf v, W.heap.size ≤ k) ∧ Kept [] W w
theorem WV.start {W w : World} (h : Kept [] W w) : WV W w.heap.size [] (w.alloc (.cells #[.slice none 0 0] 54)) :=
  ⟨_, Wr.fresh w, h.size, by simp [rowOf, Value.ownBlock], h.alloc _⟩
theorem WV.kept {W w : World} {b : Nat} {bs : List UInt8} (h : WV W b bs w) : Kept [] W w := by obtain ⟨_, _, _, _, h4⟩ := h; exact h4
theorem WV.go {W w w' : World} {b : Nat} {bs : List UInt8} (h : WV W b bs w) (hk : Kept [] w w') : WV W b bs w' := by
  obtain ⟨v, a1, a2, a3, a4⟩ := h
  exact ⟨v, a1.kept hk (by simp) (by simp), a2, a3, a4.trans hk (by simp)⟩
theorem WV.ge {W w : World} {b : Nat} {bs : List UInt8} (h : WV W b bs w) : W.heap.size ≤ b := by obtain ⟨_, _, h2, _⟩ := h; exact h2

/-- what a step of a writer leaves: blocks of other types as they were -/
def Apart (w w' : World) : Prop := ∀ g t cs, t ≠ 54 → t ≠ 5 → Blk w g t cs → Blk w' g t cs
theorem Apart.of_kept {w w' : World} (h : Kept [] w w') : Apart w w' := fun g t cs _ _ hb => hb.kept h (by simp)
theorem Apart.trans {a b c : World} (h : Apart a b) (k : Apart b c) : Apart a c := fun g t cs h1 h2 hb => k g t cs h1 h2 (h g t cs h1 h2 hb)
theorem WV.step {W w w' : World} {b : Nat} {v : Value} {bs bs' : List UInt8} (hw : Wr w b v bs) (hb : W.heap.size ≤ b) (hv : ∀ k ∈ rowOf v, W.heap.size ≤ k) (hk : Kept [] W w) (h : WrTo w b v bs' w') : WV W b bs' w' ∧ Apart w w' := by
  obtain ⟨v', a1, a2, a3⟩ := h
  refine ⟨⟨v', a1, hb, fun k hk' => ?_, hk.trans a2 (fun i hi => ?_)⟩, fun g t cs h1 h2 hg => hg.kept a2 (fun hm => ?_)⟩
  · rcases a3 k hk' with h3 | h3
    · exact hv k h3
    · have := hk.size; omega
  · rcases List.mem_cons.1 hi with rfl | hi
    · exact .inr hb
    · exact .inr (hv i hi)
  · rcases List.mem_cons.1 hm with hm | hm
    · exact hg.ne hw.blk h1 hm
    · exact hw.own.ne_blk hg (fun e => h2 e.symm) hm

section
variable {W w : World} {b : Nat} {bs : List UInt8}
theorem VU8 (h : WV W b bs w) (n : Int) (hl : bs.length ≤ 1099511627776) : Calls Try.prog 38 #[.pointer (some ⟨b, 0, none⟩), .int .i64 n] w fun e w' => e = .returned (.tuple #[]) ∧ WV W b (bs ++ beK (nat64 n) 1 1) w' ∧ Apart w w' := by
  obtain ⟨v, a1, a2, a3, a4⟩ := h
  exact (WU8_any w b v bs a1 n hl).mono fun e w' ⟨h1, h2⟩ => ⟨h1, WV.step a1 a2 a3 a4 h2⟩
theorem VU16 (h : WV W b bs w) (n : Int) (hl : bs.length ≤ 1099511627776) : Calls Try.prog 34 #[.pointer (some ⟨b, 0, none⟩), .int .i64 n] w fun e w' => e = .returned (.tuple #[]) ∧ WV W b (bs ++ beK (nat64 n) 2 2) w' ∧ Apart w w' := by
  obtain ⟨v, a1, a2, a3, a4⟩ := h
  exact (WU16_any w b v bs a1 n hl).mono fun e w' ⟨h1, h2⟩ => ⟨h1, WV.step a1 a2 a3 a4 h2⟩
theorem VU32 (h : WV W b bs w) (x : Int) (n : Nat) (hx : x = n) (h1 : n < 4294967296) (hl : bs.length ≤ 1099511627776) : Calls Try.prog 36 #[.pointer (some ⟨b, 0, none⟩), .int .u32 x] w fun e w' => e = .returned (.tuple #[]) ∧ WV W b (bs ++ beK n 4 4) w' ∧ Apart w w' := by
  subst hx
  obtain ⟨v, a1, a2, a3, a4⟩ := h
  exact (WU32_any w b v bs a1 n h1 hl).mono fun e w' ⟨h1, h2⟩ => ⟨h1, WV.step a1 a2 a3 a4 h2⟩
theorem VI64 (h : WV W b bs w) (n : Int) (hl : bs.length ≤ 1099511627776) : Calls Try.prog 37 #[.pointer (some ⟨b, 0, none⟩), .int .i64 n] w fun e w' => e = .returned (.tuple #[]) ∧ WV W b (bs ++ beK (nat64 n) 8 8) w' ∧ Apart w w' := by
  obtain ⟨v, a1, a2, a3, a4⟩ := h
  exact (WI64_any w b v bs a1 n hl).mono fun e w' ⟨h1, h2⟩ => ⟨h1, WV.step a1 a2 a3 a4 h2⟩
/-- Bytes: a slice of the call's own; the writer goes on -/
theorem VBytes (h : WV W b bs w) (hl : bs.length ≤ 140737488355328) : Calls Try.prog 32 #[.pointer (some ⟨b, 0, none⟩)] w fun e w' => ∃ A n c, e = .returned (.slice A n c) ∧ bs.length = n ∧ New W 5 1 (.slice A n c) n (u8s bs) w' ∧ WV W b bs w' ∧ Kept [] w w' := by
  have hg := h
  obtain ⟨v, a1, a2, a3, a4⟩ := h
  refine (Bytes_any w b v bs a1 hl).mono fun e w' ⟨v', h1, h2, h3, h4⟩ => ?_
  obtain ⟨A, c, rfl, _, _⟩ := h2.form
  refine ⟨A, _, c, h1, rfl, ⟨h2, a4.trans h3 (by simp), fun k hk => ?_⟩, hg.go h3, h3⟩
  have := h4 k hk; have := a4.size; omega
end
theorem Blk.cells3 {w : World} {g : Nat} {t : TypeId} {a b c : Value} (h : Blk w g t #[a, b, c]) (x y z : Value) :
    (w.setCell ⟨g, 0, none⟩ x).cell? ⟨g, 0, none⟩ = some x ∧ ((w.setCell ⟨g, 0, none⟩ x).setCell ⟨g, 1, none⟩ y).cell? ⟨g, 1, none⟩ = some y ∧ (((w.setCell ⟨g, 0, none⟩ x).setCell ⟨g, 1, none⟩ y).setCell ⟨g, 2, none⟩ z).cell? ⟨g, 2, none⟩ = some z := by
  have h1 := h.set 0 x
  have h2 := h1.set 1 y
  have h3 := h2.set 2 z
  exact ⟨by simpa using h1.cell 0, by simpa using h2.cell 1, by simpa using h3.cell 2⟩
theorem Kept.cells3 {W w : World} {g : Nat} (h : Kept [] W w) (hg : W.heap.size ≤ g) (x y z : Value) : Kept [] W (((w.setCell ⟨g, 0, none⟩ x).setCell ⟨g, 1, none⟩ y).setCell ⟨g, 2, none⟩ z) :=
  h.trans (((((Kept.refl [g] w).setCell (p := ⟨g, 0, none⟩) (.inl (by simp)) x).setCell (p := ⟨g, 1, none⟩) (.inl (by simp)) y).setCell (p := ⟨g, 2, none⟩) (.inl (by simp)) z)) (fun i hi => .inr (by simp at hi; omega))
end Go.Proofs.Ytoibecclilmllaa
