
/-
  Contracts: a record plain, the same, may it be, as it is read.
-/
import Derived.Test.YtpbebadbnkimeaaDoorRecB
import Derived.Test.YtpbebadbnkimeaaDoorBlk
namespace Go.Proofs.YtpbebadbnkimeaaDoor
open Go.RowKit Go.ChangeShapes Go.WideShapes Go.Deep
set_option linter.unusedVariables false
set_option maxRecDepth 100000

/-- what a kind decides -/
theorem kind_cases (r : RecD) : (r.kind = 1 ∨ r.kind = 2 ∨ r.kind = 3) ∨ (r.kind = 4 ∨ r.kind = 5 ∨ r.kind = 6) ∨ (r.kind < 1 ∨ 6 < r.kind) := by omega
abbrev SmallB (w : World) (G : List Nat) (A : Option Addr) (m c : Nat) (l : List BackD) : Prop := BkArr w G (.slice A m c) l ∧ (∀ k ∈ G, k < w.heap.size) ∧ m ≤ 1099511627776

theorem BkV.carry {w0 W3 w w' : World} {v : Value} {l : List BackD} {S : List Nat} (h : BkV W3 w v l) (hk3 : Kept [] w0 W3) (hk : Kept S w w') (hS : ∀ k ∈ S, w0.heap.size ≤ k ∧ k < W3.heap.size) : BkV w0 w' v l := by
  obtain ⟨css, G, hx⟩ := h
  have hd : Decs BkDec w [] css l := hx.decs
  exact ⟨css, [], hx.own.kept hk (fun k hk' hm => by have := hx.new k hk'; have := hS k hm; omega), fun k hk' => Nat.le_trans hk3.size (hx.new k hk'), hd.kept BkOk hk (by simp), by simp, (hk3.trans hx.keptW (by simp)).trans hk (fun i hi => .inr (hS i hi).1)⟩
-- PLAIN BEGINS
end Go.Proofs.YtpbebadbnkimeaaDoor
