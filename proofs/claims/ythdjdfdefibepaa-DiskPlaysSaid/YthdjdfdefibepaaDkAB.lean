
/-
  DiskQuota: contracts that keep what was made behind the disk.
-/
import Derived.Test.YthdjdfdefibepaaDkAA
namespace Go.Proofs.Ythdjdfdefibepaa
open Go.RowKit Go.ChangeShapes Go.WideShapes Go.ChangeAt Go.Deep Go.MapKept
set_option linter.unusedVariables false

theorem CsAt.lift {W w : World} {A : Option Addr} {m c : Nat} {l : List CD} (h : CsAt W w A m c l) (hk : Kept [] W w) : CsAt w w A m c l := by
  obtain ⟨h1, h2, h3, h4⟩ := h
  refine ⟨h1, h2, h3, fun i q hi => ?_⟩
  obtain ⟨g, o, B, n, d, e1, e2, c0, c1, c2, c3, c4, e4⟩ := h4 i q hi
  exact ⟨g, o, B, n, d, e1, Nat.lt_of_lt_of_le e2 hk.size, c0, c1, c2, c3, c4, e4.mono (fun k hk' => by have := List.mem_range.1 hk'; exact List.mem_range.2 (Nat.lt_of_lt_of_le this hk.size))⟩
/-- a disk of one's own, whose blocks all lie below those of wb -/
def DkB (w0 wb w : World) (p : Nat) (D : DkD) : Prop := ∃ G fb bn bs A m c, DkX w G p fb D bn bs A m c ∧ Kept [] w0 w ∧ (∀ k ∈ G, w0.heap.size ≤ k) ∧ ∀ k ∈ G, k < wb.heap.size
section
variable {w0 wb w : World} {p : Nat} {D : DkD}
theorem DkS.b (h : DkS w0 w p D) : DkB w0 w w p D := by
  obtain ⟨G, fb, bn, bs, A, m, c, h1, h2, h3⟩ := h
  exact ⟨G, fb, bn, bs, A, m, c, h1, h2, h3, h1.lt⟩
theorem DkB.s (h : DkB w0 wb w p D) : DkS w0 w p D := by
  obtain ⟨G, fb, bn, bs, A, m, c, h1, h2, h3, _⟩ := h
  exact ⟨G, fb, bn, bs, A, m, c, h1, h2, h3⟩
theorem DkB.go {w' : World} (h : DkB w0 wb w p D) (hk : Kept [] w w') : DkB w0 wb w' p D := by
  obtain ⟨G, fb, bn, bs, A, m, c, h1, h2, h3, h4⟩ := h
  exact ⟨G, fb, bn, bs, A, m, c, h1.go hk, h2.trans hk (by simp), h3, h4⟩
theorem NamesB (h : DkB w0 wb w p D) (iv : InvD D) (ho : D.ops ≤ 400000) : Calls Try.prog 15 #[.pointer (some ⟨p, 0, none⟩)] w fun e w' => ∃ v, e = .returned v ∧ StrsV w w' v (namesD D) ∧ DkB w0 wb w' p D := by
  obtain ⟨G, fb, bn, bs, A, m, c, h1, h2, h3, h4⟩ := h
  exact (Names_any h1 (by have := iv.ok.nl.1; omega)).mono fun e w' ⟨v, he, hs⟩ => ⟨v, he, hs, G, fb, bn, bs, A, m, c, h1.go hs.1, h2.trans hs.1 (by simp), h3, h4⟩
theorem SizeB (h : DkB w0 wb w p D) (iv : InvD D) (ho : D.ops ≤ 400000) : Calls Try.prog 16 #[.pointer (some ⟨p, 0, none⟩)] w fun e w' => e = .returned (.int .i64 (sizeD D : Nat)) ∧ Kept [] w w' ∧ DkB w0 wb w' p D := by
  obtain ⟨G, fb, bn, bs, A, m, c, h1, h2, h3, h4⟩ := h
  exact (Size_any h1 iv.ok (by have := iv.ok.nl.1; omega)).mono fun e w' ⟨he, hk⟩ => ⟨he, hk, G, fb, bn, bs, A, m, c, h1.go hk, h2.trans hk (by simp), h3, h4⟩
theorem AppendB (h : DkB w0 wb w p D) (iv : InvD D) (ho : D.ops ≤ 400000) (x b : Bs) (hx : x.length ≤ 1000000) {B : Option Addr} {n d : Nat} (hb : RdB w (old w0) (.slice B n d) b) (hn : n ≤ 1000000) :
    Calls Try.prog 17 #[.pointer (some ⟨p, 0, none⟩), .string (strOf x), .slice B n d] w fun e w' => e = .returned (.int .i64 (appD D x b).1) ∧ DkS w0 w' p (appD D x b).2 ∧ ∃ S, Kept S w w' ∧ ∀ k ∈ S, k < wb.heap.size := by
  obtain ⟨G, fb, bn, bs, A, m, c, h1, h2, h3, h4⟩ := h
  refine (Append_any h1 iv.ok (by omega) x b hx hb (fun k hk hm => by have := List.mem_range.1 hk; have := h3 k hm; omega) hn).mono ?_
  rintro e w' ⟨rfl, hd⟩
  have hs := hd.s h2 h3
  obtain ⟨fb', G', bn', bs', A', m', c', q1, q2, q3⟩ := hd
  exact ⟨rfl, hs, G, q2, h4⟩
end
theorem StrsV.far {W w w' : World} {S : List Nat} {v : Value} {l : List Bs} (h : StrsV W w v l) (hk : Kept S w w') (hS : ∀ k ∈ S, k < W.heap.size) : ∃ A c, v = .slice A l.length c ∧ StrA w' A l.length l := by
  rcases h.2 with ⟨rfl, rfl⟩ | ⟨g, cap, rfl, hr, hg⟩
  · exact ⟨none, 0, rfl, rfl, fun i x hi => by simp at hi⟩
  · have hr2 := hr.kept hk (fun hm => by have := hS g hm; omega)
    refine ⟨_, _, rfl, rfl, fun i x hi => ⟨g, rfl, hr2.lt, ?_⟩⟩
    have := hr2.cell hi (c := 0) (v := .string (strOf x)) rfl
    simpa using this
end Go.Proofs.Ythdjdfdefibepaa
