
/-
  A slice of bytes of the call's own, its length hidden; what is appended to it, step by step.
-/
import Derived.Test.YtflbeipnnmeiaaaDoorRecR
namespace Go.Proofs.YtflbeipnnmeiaaaDoor
open Go.RowKit Go.ChangeShapes Go.WideShapes Go.Deep
set_option linter.unusedVariables false
set_option maxRecDepth 100000

/-- in w the slice v, made since W, holds the bytes bs; nothing that was in W has turned -/
def NB (W w : World) (v : Value) (bs : List UInt8) : Prop := New W 5 1 v bs.length (u8s bs) w
section
variable {W W' w w' : World} {v : Value} {bs cs : List UInt8}
theorem NB.of {n : Nat} (h : New W 5 1 v n (u8s bs) w) : NB W w v bs := by
  have := h.len; subst this; exact h
theorem NB.form (h : NB W w v bs) : ∃ A m c, v = .slice A m c := Own.form' h.1
theorem NB.kept (h : NB W w v bs) : Kept [] W w := h.2.1
theorem NB.go (h : NB W w v bs) (hk : Kept [] w w') : NB W w' v bs := New.go h hk
theorem NB.wide (h : NB W' w v bs) (hk : Kept [] W W') : NB W w v bs := New.wide h hk
theorem NB.nil (hk : Kept [] W w) : NB W w (.slice none 0 0) [] := ⟨Own.nil _ _ _, hk, by simp [rowOf, Value.ownBlock]⟩
theorem NB.rd (h : NB W w v bs) : RdB w (rowOf v) v bs := RdB.of_own h.1
theorem NB.cast (h : NB W w v bs) (e : bs = cs) : NB W w v cs := e ▸ h
theorem NB.off (h : NB W w v bs) (hk : Kept (rowOf v) w w') : Apart w w' := fun g t cs h1 h2 hg => hg.kept hk (fun hm => h.1.ne_blk hg (fun e => h2 e.symm) hm)
/-- other blocks of the call's own are written: the slice stays -/
theorem NB.other {S : List Nat} (h : NB W w v bs) (hk : Kept S w w') (h1 : ∀ k ∈ rowOf v, k ∉ S) (h2 : ∀ k ∈ S, W.heap.size ≤ k) : NB W w' v bs := ⟨h.1.kept hk h1, h.2.1.trans hk (fun i hi => .inr (h2 i hi)), h.2.2⟩
theorem NB.src (h : NB W w v bs) : ∃ A m c, v = .slice A m c ∧ Rd w A (u8s bs) ∧ (u8s bs).length = m * 1 ∧ m = bs.length := by
  obtain ⟨A, c, rfl, h1, h2⟩ := h.1.form
  have h3 := (h.rd).rd
  exact ⟨A, _, c, rfl, h3, by simp [u8s], rfl⟩
theorem NB.app {v' : Value} {n' : Nat} {cs : List UInt8} (h : NB W w v bs) (ho : Own w' 5 1 v' n' (u8s bs ++ u8s cs)) (hk : Kept (rowOf v) w w') (hr : ∀ k ∈ rowOf v', k ∈ rowOf v ∨ w.heap.size ≤ k) : NB W w' v' (bs ++ cs) :=
  NB.of (New.app h ho hk hr)
end
theorem wpList_cat {ops : Array Oper} {rest : List Oper} {o : Oper} {a : Act} {Q : Exit → Act → World → Prop} {w : World} (hgd : o.guard = none) (s x : Operand)
    (ho : o.op = .call { callee := .builtin .append, args := #[s, x], argTypes := #[32, 32] }) {W W' : World} {v u : Value} {bs cs : List UInt8}
    (hs : a.eval s = v) (hN : NB W w v bs) (hx : a.eval x = u) (hR : NB W' w u cs) (hl : bs.length + cs.length ≤ 1000000000)
    (h : ∀ A m c w', NB W w' (.slice A m c) (bs ++ cs) → Apart w w' → w.heap.size ≤ w'.heap.size → wpList Tryd.prog ops Q rest (a.put o.dst (.slice A m c)) w') : wpList Tryd.prog ops Q (o :: rest) a w := by
  obtain ⟨B, m, d, rfl, r1, r2, r3⟩ := hR.src
  refine wpList_app w hgd s x 32 ho elem_u8 hs hN.1 hx r1 r2 (u8s_one _) (by unfold maxLen; omega) (by omega) (fun v' w' h1 h2 h3 => ?_)
  have hn := hN.app h1 h2 h3
  obtain ⟨A, m', c, rfl⟩ := hn.form
  exact h A m' c w' hn (hN.off h2) h2.size
theorem step_cat {ops : Array Oper} {o : Oper} {a : Act} {K : Act → World → Prop} {Q : Exit → Act → World → Prop} {E0 : Prop} {w : World} (hgd : o.guard = none) (s x : Operand)
    (ho : o.op = .call { callee := .builtin .append, args := #[s, x], argTypes := #[32, 32] }) {W W' : World} {v u : Value} {bs cs : List UInt8}
    (hs : a.eval s = v) (hN : NB W w v bs) (hx : a.eval x = u) (hR : NB W' w u cs) (hl : bs.length + cs.length ≤ 1000000000)
    (h : ∀ A m c w', NB W w' (.slice A m c) (bs ++ cs) → Apart w w' → w.heap.size ≤ w'.heap.size → K (a.put o.dst (.slice A m c)) w') : if Region.wanted o (yielded ops a.tmps) = true then Oper.wp Tryd.prog o a w K Q else E0 := by
  obtain ⟨B, m, d, rfl, r1, r2, r3⟩ := hR.src
  refine step_app w hgd s x 32 ho elem_u8 hs hN.1 hx r1 r2 (u8s_one _) (by unfold maxLen; omega) (by omega) (fun v' w' h1 h2 h3 => ?_)
  have hn := hN.app h1 h2 h3
  obtain ⟨A, m', c, rfl⟩ := hn.form
  exact h A m' c w' hn (hN.off h2) h2.size
/-- one byte more, laid in a block of its own -/
theorem u8s_one1 (n : Int) : u8s (u8B n) = [.int .u8 (n % 256)] := be1 n
theorem wpList_cat1 {ops : Array Oper} {rest : List Oper} {o : Oper} {a : Act} {Q : Exit → Act → World → Prop} {w0 : World} {n : Int} (hgd : o.guard = none) (s x : Operand)
    (ho : o.op = .call { callee := .builtin .append, args := #[s, x], argTypes := #[32, 32] }) {W : World} {v : Value} {bs : List UInt8} {g : Nat} (hg : g = w0.heap.size)
    (hs : a.eval s = v) (hN : NB W w0 v bs) (hx : a.eval x = .slice (some ⟨g, 0, none⟩) 1 1) (hl : bs.length ≤ 1000000000)
    (h : ∀ A m c w', NB W w' (.slice A m c) (bs ++ u8B n) → Apart w0 w' → w0.heap.size ≤ w'.heap.size → wpList Tryd.prog ops Q rest (a.put o.dst (.slice A m c)) w') : wpList Tryd.prog ops Q (o :: rest) a (w0.alloc (.cells #[.int .u8 (n % 256)] 5)) := by
  subst hg
  have ha := hN.go ((Kept.refl [] w0).alloc (.cells #[.int .u8 (n % 256)] 5))
  refine wpList_app _ hgd s x 32 ho elem_u8 hs ha.1 hx (Rd.laid w0 [.int .u8 (n % 256)] _) rfl (by simp [Value.oneCell']) (by unfold maxLen; omega) (by omega) (fun v' w' h1 h2 h3 => ?_)
  rw [← u8s_one1] at h1
  have hn := ha.app h1 h2 h3
  obtain ⟨A, m', c, rfl⟩ := hn.form
  exact h A m' c w' hn ((Apart.of_kept ((Kept.refl [] w0).alloc _)).trans (ha.off h2)) (Nat.le_trans (by simp) h2.size)
theorem step_cat1 {ops : Array Oper} {o : Oper} {a : Act} {K : Act → World → Prop} {Q : Exit → Act → World → Prop} {E0 : Prop} {w0 : World} {n : Int} (hgd : o.guard = none) (s x : Operand)
    (ho : o.op = .call { callee := .builtin .append, args := #[s, x], argTypes := #[32, 32] }) {W : World} {v : Value} {bs : List UInt8} {g : Nat} (hg : g = w0.heap.size)
    (hs : a.eval s = v) (hN : NB W w0 v bs) (hx : a.eval x = .slice (some ⟨g, 0, none⟩) 1 1) (hl : bs.length ≤ 1000000000)
    (h : ∀ A m c w', NB W w' (.slice A m c) (bs ++ u8B n) → Apart w0 w' → w0.heap.size ≤ w'.heap.size → K (a.put o.dst (.slice A m c)) w') : if Region.wanted o (yielded ops a.tmps) = true then Oper.wp Tryd.prog o a (w0.alloc (.cells #[.int .u8 (n % 256)] 5)) K Q else E0 := by
  subst hg
  have ha := hN.go ((Kept.refl [] w0).alloc (.cells #[.int .u8 (n % 256)] 5))
  refine step_app _ hgd s x 32 ho elem_u8 hs ha.1 hx (Rd.laid w0 [.int .u8 (n % 256)] _) rfl (by simp [Value.oneCell']) (by unfold maxLen; omega) (by omega) (fun v' w' h1 h2 h3 => ?_)
  rw [← u8s_one1] at h1
  have hn := ha.app h1 h2 h3
  obtain ⟨A, m', c, rfl⟩ := hn.form
  exact h A m' c w' hn ((Apart.of_kept ((Kept.refl [] w0).alloc _)).trans (ha.off h2)) (Nat.le_trans (by simp) h2.size)

/-- one byte more, laid before -/
theorem step_catB {ops : Array Oper} {o : Oper} {a : Act} {K : Act → World → Prop} {Q : Exit → Act → World → Prop} {E0 : Prop} {w : World} {n : Int} (hgd : o.guard = none) (s x : Operand)
    (ho : o.op = .call { callee := .builtin .append, args := #[s, x], argTypes := #[32, 32] }) {W : World} {v : Value} {bs : List UInt8} {g : Nat} (hb : Blk w g 5 #[.int .u8 (n % 256)])
    (hs : a.eval s = v) (hN : NB W w v bs) (hx : a.eval x = .slice (some ⟨g, 0, none⟩) 1 1) (hl : bs.length ≤ 1000000000)
    (h : ∀ A m c w', NB W w' (.slice A m c) (bs ++ u8B n) → Apart w w' → w.heap.size ≤ w'.heap.size → K (a.put o.dst (.slice A m c)) w') : if Region.wanted o (yielded ops a.tmps) = true then Oper.wp Tryd.prog o a w K Q else E0 := by
  refine step_app _ hgd s x 32 ho elem_u8 hs hN.1 hx (news := [.int .u8 (n % 256)]) (fun _ => ⟨g, 0, rfl, fun j u hu => ?_⟩) rfl (by simp [Value.oneCell']) (by unfold maxLen; omega) (by omega) (fun v' w' h1 h2 h3 => ?_)
  · rw [Nat.zero_add, hb.cell j]; simpa using hu
  rw [← u8s_one1] at h1
  have hn := hN.app h1 h2 h3
  obtain ⟨A, m', c, rfl⟩ := hn.form
  exact h A m' c w' hn (hN.off h2) h2.size

section
/-- a call that hands back bytes of its own -/
def Gives (w : World) (bs : List UInt8) (e : Ending) (w' : World) : Prop := ∃ A m c, e = .returned (.slice A m c) ∧ NB w w' (.slice A m c) bs
theorem Gives.of {w : World} {n : Nat} {bs : List UInt8} {e : Ending} {w' : World} (h : ∃ v, e = .returned v ∧ New w 5 1 v n (u8s bs) w') : Gives w bs e w' := by
  obtain ⟨v, rfl, h⟩ := h
  have hn := NB.of h
  obtain ⟨A, m, c, rfl⟩ := hn.form
  exact ⟨A, m, c, rfl, hn⟩
end
end Go.Proofs.YtflbeipnnmeiaaaDoor
