
/-
  DiskSure's picks.
-/
import Derived.Test.YthdjdfdefibepaaDkW
namespace Go.Proofs.Ythdjdfdefibepaa
open Go.RowKit Go.ChangeShapes Go.WideShapes Go.ChangeAt Go.Deep Go.MapKept
set_option linter.unusedVariables false

/-- rows of bytes among the arguments -/
def PkAt (W w : World) (A : Option Addr) (m c : Nat) (l : List Bs) : Prop := l.length = m ∧ m ≤ c ∧ c ≤ maxLen ∧
  ∀ (i : Nat) (bs : Bs), l[i]? = some bs → ∃ g o B n d, A = some ⟨g, o, none⟩ ∧ g < W.heap.size ∧ w.cell? ⟨g, o + i, none⟩ = some (.slice B n d) ∧ RdB w (old W) (.slice B n d) bs
theorem PkAt.kept {W w w' : World} {A : Option Addr} {m c : Nat} {l : List Bs} (h : PkAt W w A m c l) (h0 : Kept [] W w) (hk : Kept [] w w') : PkAt W w' A m c l := by
  obtain ⟨h1, h2, h3, h4⟩ := h
  refine ⟨h1, h2, h3, fun i bs hi => ?_⟩
  obtain ⟨g, o, B, n, d, e1, e2, e3, e4⟩ := h4 i bs hi
  exact ⟨g, o, B, n, d, e1, e2, (hk.cell (p := ⟨g, _, none⟩) (Nat.lt_of_lt_of_le e2 h0.size) (by simp)).trans e3, e4.kept hk (by simp)⟩
section
variable {H : Type} {enc : TypeId × Value → H} {w : World} {v : Value} {d : DataW H} {p : List MemPlace} {base : Nat}
set_option maxRecDepth 100000 in
theorem open_picks (hv : Value.okWide Try.prog w .any base 47 v) (h : DataW.Trod enc Try.prog w 0 (fun _ => true) true 47 v d p) :
    ∃ (A : Option Addr) (m c : Nat) (l : List Bs), v = .slice A m c ∧ PkAt w w A m c l := by
  obtain ⟨a0, len, cap, rfl⟩ := okWide_slice Try.underlying47 hv
  obtain ⟨fuel, hf⟩ := h
  obtain ⟨A, m, c, E, D, e1, h2, h3, h4, h5, h6, h7⟩ := open_slice_at (n := 1) Try.underlying47 (by kernel_rfl) (by omega) hf
  obtain ⟨l, hl, hd, hs⟩ := list_of_dec (α := Bs) (m := m) (E := E) (D := D) (Dec := fun cs bs => ∃ B n d, cs = [.slice B n d] ∧ RdB w (old w) (.slice B n d) bs) (bk := fun _ => 0) (fun i hi => by
    obtain ⟨_, fu, ps, ht⟩ := h6 i hi
    obtain ⟨v, bs, e, hb, _, _⟩ := open_bytes Try.underlying28 ht
    obtain ⟨B, n, d, rfl, _⟩ := id hb
    exact ⟨bs, ⟨B, n, d, e, hb⟩, Nat.zero_le _⟩)
  refine ⟨A, m, c, l, by simpa [Value.cells] using e1, hl, h2, h3, fun i bs hi => ?_⟩
  have hlt : i < m := by have := (List.getElem?_eq_some_iff.1 hi).1; omega
  obtain ⟨g, o, e2, e3, e4⟩ := h5 (by omega)
  obtain ⟨B, n, d, f1, f2⟩ := hd i bs hi
  have hc := e4 i 0 hlt (by omega)
  rw [f1] at hc
  exact ⟨g, o, B, n, d, e2, e3, by simpa using hc, f2⟩
end
end Go.Proofs.Ythdjdfdefibepaa
