
/-
  The contract of the law's Bytes: frames one behind the other, and more, some bytes changed.
-/
import Derived.Test.YtogdpfjbclnlnaaFrameP
import Derived.Laws.OwnMore
namespace Go.Proofs.Ytogdpfjbclnlnaa
open Go.RowKit Go.ChangeShapes Go.WideShapes Go.Deep
set_option linter.unusedVariables false

/-- the frames that are put: among the first twelve those that are not too long -/
def selF (l : List FrameD) : List FrameD := (l.take 12).filter fun f => decide (f.body.length ≤ 300)
theorem selF_snoc (l : List FrameD) (k : Nat) (h : k < l.length) : selF (l.take (k + 1)) = selF (l.take k) ++ if k < 12 ∧ l[k].body.length ≤ 300 then [l[k]] else [] := by
  unfold selF
  by_cases hk : k < 12
  · rw [List.take_take, List.take_take, Nat.min_eq_right (by omega), Nat.min_eq_right (by omega), List.take_succ_eq_append_getElem h, List.filter_append]
    by_cases hb : l[k].body.length ≤ 300
    · simp [hk, hb]
    · simp [hb]
  · rw [List.take_take, List.take_take, Nat.min_eq_left (by omega), Nat.min_eq_left (by omega)]
    simp [hk]
theorem selF_len (l : List FrameD) : (joinF (selF l)).length ≤ 3792 := by
  have h : ∀ l : List FrameD, (∀ f ∈ l, f.body.length ≤ 300) → (joinF l).length ≤ 316 * l.length := by
    intro l
    induction l with
    | nil => intro _; simp [joinF_nil]
    | cons f l ih =>
      intro hl
      have h1 := ih (fun g hg => hl g (by simp [hg]))
      have h2 := putF_len_le f
      have h3 := hl f (by simp)
      rw [joinF_cons, List.length_append, List.length_cons]
      omega
  have h1 := h (selF l) (fun f hf => by simpa using (List.mem_filter.1 hf).2)
  have h2 : (selF l).length ≤ 12 := Nat.le_trans (List.length_filter_le _ _) (by rw [List.length_take]; omega)
  omega
/-- a row of ints -/
def IntDec (w : World) (G : List Nat) (cs : List Value) (n : Int) : Prop := cs = [.int .i64 n] ∧ -9223372036854775808 ≤ n ∧ n ≤ 9223372036854775807
theorem IntOk : DecOk 1 IntDec where
  len := by rintro w G cs f ⟨rfl, h⟩; rfl
  one := by rintro w G cs f ⟨rfl, h⟩ u hu; simp at hu; rcases hu with rfl; rfl
  kept := by rintro w w' G S cs f h hk hd; exact h
  mono := by rintro w G G' cs f h hg; exact h
abbrev IntArr (w : World) (G : List Nat) (v : Value) (l : List Int) : Prop := ArrOf w G 1 (fun w => IntDec w G) v l
theorem IntArr.kept {w w' : World} {G S : List Nat} {v : Value} {l : List Int} (h : IntArr w G v l) (hk : Kept S w w') (hd : ∀ k ∈ G, k ∉ S) : IntArr w' G v l :=
  ArrOf.kept (Dec := fun w => IntDec w G) h hk hd (fun cs a h => h)
theorem IntArr.at {w : World} {G : List Nat} {A : Option Addr} {m c : Nat} {l : List Int} (h : IntArr w G (.slice A m c) l) {k : Nat} (hk : k < l.length) :
    ∃ g o, A = some ⟨g, o, none⟩ ∧ g < w.heap.size ∧ g ∈ G ∧ w.cell? ⟨g, o + k, none⟩ = some (.int .i64 l[k]) ∧ -9223372036854775808 ≤ l[k] ∧ l[k] ≤ 9223372036854775807 := by
  obtain ⟨A', m', c', e, h1, h2, h3, h4, h5⟩ := h
  injection e with e1 e2 e3
  subst e1 e2 e3
  obtain ⟨g, o, rfl, hg, hlt, hc⟩ := h5 (by rintro rfl; simp at hk)
  obtain ⟨cs, _, ⟨rfl, hr⟩, hcell⟩ := hc k _ (List.getElem?_eq_getElem hk)
  exact ⟨g, o, rfl, hlt, hg, by simpa using hcell 0 (by omega), hr⟩
theorem ArrOf.lens {α : Type} {w : World} {G : List Nat} {n : Nat} {Dec : World → List Value → α → Prop} {A : Option Addr} {m c : Nat} {l : List α} (h : ArrOf w G n Dec (.slice A m c) l) : l.length = m ∧ m ≤ c ∧ c ≤ maxLen ∧ (A = none → m = 0 ∧ c = 0) := by
  obtain ⟨A', m', c', e, h1, h2, h3, h4, h5⟩ := h
  injection e with e1 e2 e3
  subst e1 e2 e3
  exact ⟨h1, h2, h3, h4⟩
theorem New.set {W w : World} {g n cap : Nat} {bs : List UInt8} (h : New W 5 1 (.slice (some ⟨g, 0, none⟩) n cap) n (u8s bs) w) (j : Nat) (b : UInt8) :
    New W 5 1 (.slice (some ⟨g, 0, none⟩) n cap) n (u8s (bs.set j b)) (w.setCell ⟨g, j, none⟩ (.int .u8 b.toNat)) := by
  have h1 := World.ownsRow.stored h.1 j (.int .u8 (b.toNat : Int))
  refine ⟨?_, h.2.1.trans ((Kept.refl [g] w).grown h1.2 (fun k hk => .inl (by injection hk with hk; simp [hk]))) (fun i hi => .inr ?_), h.2.2⟩
  · have e : u8s (bs.set j b) = (u8s bs).set j (.int .u8 (b.toNat : Int)) := by simp [u8s, List.map_set, u8v]
    rw [e]; exact h1.1
  · have hi : i = g := by simpa using hi
    rw [hi]; exact h.2.2 g (by simp [rowOf, Value.ownBlock])
theorem xor_u8 (a b : UInt8) : bits .xor .u8 (a.toNat : Int) (b.toNat : Int) = ((a ^^^ b).toNat : Int) := by
  rw [u8_xor_nat _ _ (by simpa using a.toNat_lt) (by simpa using b.toNat_lt)]; simp

end Go.Proofs.Ytogdpfjbclnlnaa
