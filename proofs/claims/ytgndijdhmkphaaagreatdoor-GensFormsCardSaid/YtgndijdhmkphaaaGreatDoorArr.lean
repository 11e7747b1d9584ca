/-
  Rows cut and joined.
-/
import Derived.Test.YtgndijdhmkphaaaGreatDoorLv
namespace Go.Proofs.YtgndijdhmkphaaaGreatDoor
set_option linter.unusedVariables false
section
open Go.RowKit Go.Deep
set_option maxRecDepth 100000
theorem arr_take {α : Type} {w : World} {G : List Nat} {n : Nat} {Dec : World → List Value → α → Prop} {A : Option Addr} {m c : Nat} {l : List α} (h : ArrOf w G n Dec (.slice A m c) l) {k : Nat} (hk : k ≤ m) : ArrOf w G n Dec (.slice A k c) (l.take k) := by
  obtain ⟨A', m', c', e, h1, h2, h3, h4, h5⟩ := h
  injection e with e1 e2 e3
  subst e1 e2 e3
  refine ⟨A, k, c, rfl, by rw [List.length_take]; omega, by omega, h3, fun hn => ?_, fun hne => ?_⟩
  · have := h4 hn
    omega
  · obtain ⟨g, o, e, hm, hlt, hc⟩ := h5 (fun e => hne (by rw [e]; simp))
    refine ⟨g, o, e, hm, hlt, fun i a hi => hc i a ?_⟩
    rw [List.getElem?_take] at hi
    split at hi
    · exact hi
    · cases hi
theorem arr_drop {α : Type} {w : World} {G : List Nat} {n : Nat} {Dec : World → List Value → α → Prop} {g o : Nat} {m c : Nat} {l : List α} (h : ArrOf w G n Dec (.slice (some ⟨g, o, none⟩) m c) l) {k : Nat} (hk : k ≤ m) : ArrOf w G n Dec (.slice (some ⟨g, o + k * n, none⟩) (m - k) (c - k)) (l.drop k) := by
  obtain ⟨A', m', c', e, h1, h2, h3, h4, h5⟩ := h
  injection e with e1 e2 e3
  subst e1 e2 e3
  refine ⟨_, m - k, c - k, rfl, by rw [List.length_drop]; omega, by omega, by omega, by simp, fun hne => ?_⟩
  obtain ⟨g', o', e, hm, hlt, hc⟩ := h5 (fun e => hne (by rw [e]; simp))
  injection e with e
  injection e with e1 e2 e3
  subst e1 e2
  refine ⟨g, o + k * n, rfl, hm, hlt, fun i a hi => ?_⟩
  rw [List.getElem?_drop] at hi
  obtain ⟨cs, hl, hd, hcell⟩ := hc (k + i) a hi
  refine ⟨cs, hl, hd, fun j hj => ?_⟩
  have := hcell j hj
  rw [Nat.add_mul] at this
  rw [show o + k * n + (i * n + j) = o + (k * n + i * n + j) by omega]
  exact this
theorem arr_none {α : Type} (w : World) (G : List Nat) (n : Nat) (Dec : World → List Value → α → Prop) (c : Nat) (hc : c = 0) : ArrOf w G n Dec (.slice none 0 c) ([] : List α) := by
  subst hc
  exact ⟨none, 0, 0, rfl, rfl, by omega, by unfold maxLen; omega, fun _ => ⟨rfl, rfl⟩, fun h => absurd rfl h⟩
theorem arr_zero {α : Type} (w : World) (G : List Nat) (n : Nat) (Dec : World → List Value → α → Prop) (a : Addr) (c : Nat) (hc : c ≤ maxLen) : ArrOf w G n Dec (.slice (some a) 0 c) ([] : List α) :=
  ⟨some a, 0, c, rfl, rfl, by omega, hc, by simp, fun h => absurd rfl h⟩
theorem arr_blk {α : Type} {n : Nat} {Dec : World → List Nat → List Value → α → Prop} {w : World} {g : Nat} {t : TypeId} {cs : Array Value} {a : α} (hb : Blk w g t cs) (hn : cs.size = n) (hd : Dec w [g] cs.toList a) : ArrOf w [g] n (fun w => Dec w [g]) (.slice (some ⟨g, 0, none⟩) 1 1) [a] := by
  refine ⟨_, 1, 1, rfl, rfl, by omega, by unfold maxLen; omega, by simp, fun _ => ⟨g, 0, rfl, by simp, hb.lt, fun i x hi => ⟨cs.toList, by simpa using hn, ?_, fun j hj => ?_⟩⟩⟩
  · cases i with
    | zero => simp at hi; subst hi; exact hd
    | succ i => simp at hi
  · cases i with
    | zero => rw [Nat.zero_mul, Nat.zero_add, Nat.zero_add, hb.cell j]; simp
    | succ i => simp at hi
theorem step_lvs {α : Type} {n bytes : Nat} {e t : TypeId} {Dec : World → List Nat → List Value → α → Prop} (D : DecOk n Dec) (E : Elem Tryz.prog t e n bytes) (hD : ∀ {w w' : World} {G G' : List Nat} {cs : List Value} {a : α}, Dec w G cs a → Dec w' G' cs a) (hby : bytes ≤ 1000)
    {ops : Array Oper} {o : Oper} {a : Act} {K : Act → World → Prop} {Q : Exit → Act → World → Prop} {E0 : Prop} {w0 : World} (hgd : o.guard = none) (s x : Operand)
    (ho : o.op = .call { callee := .builtin .append, args := #[s, x], argTypes := #[t, t] }) {W : World} {sl : Value} {l l2 : List α} {G : List Nat} {A : Option Addr} {m c : Nat}
    (hs : a.eval s = sl) (hN : LV Dec e n W w0 sl l) (hx : a.eval x = .slice A m c) (hb : ArrOf w0 G n (fun w => Dec w G) (.slice A m c) l2) (hl : l.length + l2.length ≤ 100000)
    (h : ∀ A' m' c' w', LV Dec e n W w' (.slice A' m' c') (l ++ l2) → Kept (rowOf sl) w0 w' → (∀ k ∈ rowOf sl, W.heap.size ≤ k ∧ k < w0.heap.size) → K (a.put o.dst (.slice A' m' c')) w') : if Region.wanted o (yielded ops a.tmps) = true then Oper.wp Tryz.prog o a w0 K Q else E0 := by
  obtain ⟨css, G1, h1⟩ := hN
  obtain ⟨A0, m0, c0, cs2, e0, l0, _, _, _, hd2, hlen2, hr2⟩ := ArrOf.decs hb
  injection e0 with e1 e2 e3
  subst e1 e2 e3
  have hD2 : Decs Dec w0 [] cs2 l2 := ⟨hd2.1, fun i cs b h1 h2 => hD (hd2.2 i cs b h1 h2)⟩
  have hfl : cs2.flatten.length = m * n := by rw [flat_len hlen2, hd2.1, l0]
  have hmul : (l.length + m) * bytes ≤ 100000 * 1000 := Nat.mul_le_mul (by omega) hby
  refine step_app _ hgd s x t ho E hs h1.own hx hr2 hfl (hD2.ones D) (by unfold maxLen; omega) (by omega) (fun v' w' ho' hk hr' => ?_)
  have hx := LVx.app D h1 (Kept.refl [] w0) hD2 (by simp) ho' (by rw [List.length_append, l0]) (by simp) hk hr'
  obtain ⟨A', m', c', rfl⟩ := Own.form' ho'
  exact h A' m' c' w' ⟨_, _, hx⟩ hk (fun k hk => ⟨h1.new k hk, h1.own.lt k hk⟩)
end
end Go.Proofs.YtgndijdhmkphaaaGreatDoor
