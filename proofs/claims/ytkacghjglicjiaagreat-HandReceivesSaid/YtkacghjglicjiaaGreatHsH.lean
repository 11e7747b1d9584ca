/-
  The hand-off's laws: rows of records, bytes put together; a law's way out where its arguments are too great.
-/
import Derived.Deep.DeepCutAuto
import Derived.BigQuiet
import Derived.Test.YtkacghjglicjiaaGreatCut
namespace Go.Proofs.YtkacghjglicjiaaGreat
set_option linter.unusedVariables false
section
open Go.RowKit Go.ChangeShapes Go.WideShapes Go.ChangeAt Go.Deep Go.MapKept
theorem wpList_catk {ops : Array Oper} {rest : List Oper} {o : Oper} {a : Act} {Q : Exit → Act → World → Prop} {w0 : World} (hgd : o.guard = none) (s x : Operand)
    (ho : o.op = .call { callee := .builtin .append, args := #[s, x], argTypes := #[31, 31] }) {W : World} {v : Value} {bs : List UInt8} {G : List Nat} {B : Option Addr} {m d : Nat} {cs : List UInt8}
    (hs : a.eval s = v) (hN : NB W w0 v bs) (hx : a.eval x = .slice B m d) (hR : RdB w0 G (.slice B m d) cs) (hl : bs.length + m ≤ 1000000000)
    (h : ∀ A c w', NB W w' (.slice A (bs.length + m) c) (bs ++ cs) → Kept (rowOf v) w0 w' → wpList Tryz.prog ops Q rest (a.put o.dst (.slice A (bs.length + m) c)) w') : wpList Tryz.prog ops Q (o :: rest) a w0 := by
  obtain ⟨h1, h2, h3, h4⟩ := hR.len
  refine wpList_app _ hgd s x 31 ho elem_u8 hs hN.1 hx hR.rd (by rw [u8s_len, h1, Nat.mul_one]) (u8s_one _) (by unfold maxLen; omega) (by omega) (fun v' w' ho' hk hr' => ?_)
  have hn := hN.app ho' hk hr'
  obtain ⟨A, m', c, rfl⟩ := hn.form
  obtain rfl : m' = bs.length + m := by have := hn.rd.len.1; rw [List.length_append] at this; omega
  exact h A c w' hn hk
end
end Go.Proofs.YtkacghjglicjiaaGreat
