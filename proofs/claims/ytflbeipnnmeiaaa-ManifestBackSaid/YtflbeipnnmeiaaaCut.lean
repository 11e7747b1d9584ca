
/-
  A slice of bytes of the call's own: a byte of it written, cut off.
-/
import Derived.Test.YtflbeipnnmeiaaaNb
import Derived.Test.YtflbeipnnmeiaaaFrameA
namespace Go.Proofs.Ytflbeipnnmeiaaa
open Go.RowKit Go.ChangeShapes Go.WideShapes Go.Deep
set_option linter.unusedVariables false

theorem Own.cut {w : World} {e : TypeId} {s n cap j : Nat} {A : Option Addr} {xs : List Value} (h : Own w e s (.slice A n cap) n xs) (hj : j ≤ n) (h0 : 0 < n) : Own w e s (.slice A j cap) j (xs.take (j * s)) := by
  have hl := h.1
  rcases h.2 with ⟨_, h2⟩ | ⟨g, cap', cur, hv, hb, hg, h3, h4, h5, h6⟩
  · omega
  · injection hv with e1 e2 e3
    subst e1 e3
    have hjs : j * s ≤ n * s := Nat.mul_le_mul_right _ hj
    refine ⟨by rw [List.length_take, hl]; omega, .inr ⟨g, cap, cur, rfl, hb, hg, by omega, h4, h5, ?_⟩⟩
    rw [← h6, List.take_take, Nat.min_eq_left hjs]
theorem NB.cut {W w : World} {A : Option Addr} {n cap j : Nat} {bs : List UInt8} (h : NB W w (.slice A n cap) bs) (hn : bs.length = n) (hj : j ≤ n) (h0 : 0 < n) : NB W w (.slice A j cap) (bs.take j) := by
  subst hn
  have hx := Own.cut h.1 hj h0
  have e : (bs.take j).length = j := by rw [List.length_take]; omega
  refine ⟨?_, h.2.1, fun k hk => h.2.2 k (by cases A <;> exact hk)⟩
  rw [e]
  rw [Nat.mul_one] at hx
  have e2 : u8s (bs.take j) = (u8s bs).take j := by simp [u8s, List.map_take]
  rw [e2]; exact hx
theorem NB.set {W w : World} {g n cap : Nat} {bs : List UInt8} (h : NB W w (.slice (some ⟨g, 0, none⟩) n cap) bs) (hn : bs.length = n) (j : Nat) (b : UInt8) {u : Value} (hu : u = .int .u8 b.toNat) :
    NB W (w.setCell ⟨g, j, none⟩ u) (.slice (some ⟨g, 0, none⟩) n cap) (bs.set j b) := by
  subst hn hu
  have := New.set h j b
  unfold NB
  rw [List.length_set]
  exact this
theorem cut_bd (cut : Int) (N : Nat) (h : 0 < N) : nat64 cut % 3 * (nat64 cut % N) / 2 < N := by
  have h1 : nat64 cut % 3 ≤ 2 := by omega
  have h2 : nat64 cut % N < N := Nat.mod_lt _ h
  generalize nat64 cut % 3 = a at *
  generalize nat64 cut % N = b at *
  have : a * b ≤ 2 * b := Nat.mul_le_mul_right _ h1
  omega
/-- what is made behind it leaves it as it is -/
theorem LV.newer {α : Type} {Dec : World → List Nat → List Value → α → Prop} {e : TypeId} {n : Nat} {W w w' : World} {sl : Value} {l : List α} (D : DecOk n Dec) (h : LV Dec e n W w sl l) (hk : Kept [w.heap.size] w w') : LV Dec e n W w' sl l := by
  obtain ⟨css, G, h⟩ := h
  exact ⟨css, G, h.other D hk (fun k hk hm => by have := h.own.lt k hk; simp at hm; omega) (fun k hk hm => by have := (h.apart k hk).2; simp at hm; omega) (fun k hk => by simp at hk; have := h.keptW.size; omega)⟩
theorem NB.some {W w : World} {v : Value} {bs : List UInt8} (h : NB W w v bs) (h0 : 0 < bs.length) : ∃ g c, v = .slice (some ⟨g, 0, none⟩) bs.length c ∧ bs.length ≤ c ∧ c ≤ maxLen := by
  obtain ⟨A, c, rfl, h1, h2⟩ := h.1.form
  rcases h.1.2 with ⟨h3, h4⟩ | ⟨g, cap, cur, h3, _⟩
  · omega
  · injection h3 with e1 e2 e3
    subst e1
    exact ⟨g, c, rfl, h1, h2⟩
theorem NB.newer {W w w' : World} {v : Value} {bs : List UInt8} (h : NB W w v bs) (hk : Kept [w.heap.size] w w') : NB W w' v bs :=
  h.other hk (fun k hk hm => by have := h.1.lt k hk; simp at hm; omega) (fun k hk => by simp at hk; have := h.kept.size; omega)
theorem Kept.newer {w w' w0 : World} (h : Kept [] w0 w) (hk : Kept [w.heap.size] w w') : Kept [] w0 w' := h.trans hk (fun i hi => .inr (by simp at hi; have := h.size; omega))
theorem Blk.newer {w w' : World} {g : Nat} {t : TypeId} {cs : Array Value} (h : Blk w g t cs) (hk : Kept [w.heap.size] w w') : Blk w' g t cs := h.kept hk (by have := h.lt; simp; omega)
theorem RdB.newer {w w' : World} {G : List Nat} {v : Value} {bs : List UInt8} (h : RdB w G v bs) (hG : ∀ k ∈ G, k < w.heap.size) (hk : Kept [w.heap.size] w w') : RdB w' G v bs := h.kept hk (fun k hk' hm => by have := hG k hk'; simp at hm; omega)
end Go.Proofs.Ytflbeipnnmeiaaa
