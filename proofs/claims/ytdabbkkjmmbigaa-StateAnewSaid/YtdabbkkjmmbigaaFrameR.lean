
/-
  Contracts of the reference's Put and u32.
-/
import Derived.Test.YtdabbkkjmmbigaaFrameT
import Derived.ArgAppend
namespace Go.Proofs.Ytdabbkkjmmbigaa
open Go.RowKit
set_option linter.unusedVariables false

theorem New.go {W w w' : World} {e : TypeId} {s n : Nat} {v : Value} {xs : List Value} (h : New W e s v n xs w) (hk : Kept [] w w') : New W e s v n xs w' :=
  ⟨h.1.kept hk (by simp), h.2.1.trans hk (by simp), h.2.2⟩
theorem New.app {W w w' : World} {v v' : Value} {n n' : Nat} {bs cs : List UInt8} (h : New W 5 1 v n (u8s bs) w) (ho : Own w' 5 1 v' n' (u8s bs ++ u8s cs)) (hk : Kept (rowOf v) w w')
    (hr : ∀ k ∈ rowOf v', k ∈ rowOf v ∨ w.heap.size ≤ k) : New W 5 1 v' n' (u8s (bs ++ cs)) w' := by
  refine ⟨by rw [show u8s (bs ++ cs) = u8s bs ++ u8s cs by simp [u8s]]; exact ho, h.2.1.trans hk (fun i hi => .inr (h.2.2 i hi)), fun k hk' => ?_⟩
  rcases hr k hk' with h1 | h1
  · exact h.2.2 k h1
  · have := h.2.1.size; omega
theorem New.len {W w : World} {v : Value} {n : Nat} {bs : List UInt8} (h : New W 5 1 v n (u8s bs) w) : bs.length = n := by
  have := h.1.1
  simpa [u8s] using this
theorem New.wide {W W' w : World} {e : TypeId} {s n : Nat} {v : Value} {xs : List Value} (h : New W' e s v n xs w) (hk : Kept [] W W') : New W e s v n xs w :=
  ⟨h.1, hk.trans h.2.1 (by simp), fun k hk' => by have := h.2.2 k hk'; have := hk.size; omega⟩

theorem Rd.holds {w : World} {A : Option Addr} {xs : List Value} (h : Rd w A xs) : ∀ b, A = some b → ∀ j u, xs[j]? = some u → w.cell? (b.add j) = some u := by
  intro b hb j u hu
  obtain ⟨g, o, h1, h2⟩ := h (by rintro rfl; simp at hu)
  rw [hb] at h1
  injection h1 with h1
  subst h1
  rw [Addr.add_lit]
  exact h2 j u hu
theorem New.of_row {w w' : World} {e : TypeId} {s n : Nat} {v : Value} {xs : List Value} (h : w'.ownsRow w.heap.size e s v n xs) (hk : w.grownBy w' none) : New w e s v n xs w' := by
  refine ⟨?_, (Kept.refl [] w).grown hk (fun k hk => by cases hk), fun k hk => (World.ownsRow.lt h k (mem_rowOf.1 hk)).1⟩
  rcases h.2 with h1 | ⟨g, cap, cur, h1, h2, h3⟩
  · exact ⟨h.1, .inl h1⟩
  · exact ⟨h.1, .inr ⟨g, cap, cur, h1, Nat.zero_le _, h3⟩⟩
/-- append onto a slice that has no room: a block of its own -/
theorem wpList_grow {P : Program} {w : World} {ops : Array Oper} {rest : List Oper} {o : Oper} {a : Act} {Q : Exit → Act → World → Prop} (hgd : o.guard = none) (s x : Operand) (t : TypeId)
    (ho : o.op = .call { callee := .builtin .append, args := #[s, x], argTypes := #[t, t] })
    {e : TypeId} {size bytes : Nat} (E : Elem P t e size bytes) {A : Option Addr} {n cap : Nat} {olds : List Value} (hs : a.eval s = .slice A n cap) (hA : A = none → n = 0 ∧ cap = 0) (hr0 : Rd w A olds) (hl0 : olds.length = n * size)
    {B : Option Addr} {m c : Nat} {news : List Value} (hx : a.eval x = .slice B m c) (hr : Rd w B news) (hl : news.length = m * size) (h1 : ∀ u ∈ news, u.oneCell' = true) (hm : 0 < m) (hfull : cap < n + m)
    (h63 : n + m ≤ maxLen) (hbytes : (n + m) * bytes ≤ 140737488355328)
    (h : ∀ v' w', New w e size v' (n + m) (olds ++ news) w' → wpList P ops Q rest (a.put o.dst v') w') : wpList P ops Q (o :: rest) a w := by
  obtain ⟨i, z, e1, e2, e3, e4, e5, e6, e7⟩ := E.ex
  have hne : news ≠ [] := by
    rintro rfl
    have : m * size = 0 := by simpa using hl.symm
    rcases Nat.mul_eq_zero.1 this with h | h <;> omega
  obtain ⟨g, q, rfl, hc⟩ := hr hne
  exact wpList_append_grows w hgd s x t ho e i z size bytes e1 e2 e3 e4 e5 e6 e7 A n cap olds hs hA hl0 hr0.holds ⟨g, q, none⟩ m c news hx hl (fun j u hu => by rw [Addr.add_lit]; exact hc j u hu) h1 hfull h63 hbytes (fun v' w' q1 q2 => h v' w' (New.of_row q1 q2))

end Go.Proofs.Ytdabbkkjmmbigaa
