
/-
  Readers of the call's own; a tuple read.
-/
import Derived.Test.YtoibecclilmllaaRecF
import Derived.Test.YtoibecclilmllaaRecD
import Derived.Test.YtoibecclilmllaaRef1R
import Derived.Test.YtoibecclilmllaaBlk
namespace Go.Proofs.Ytoibecclilmllaa
open Go.RowKit Go.ChangeShapes Go.WideShapes Go.Deep
set_option linter.unusedVariables false

def erO (o : Option (List UInt8)) : Int := if o.isSome then 0 else 2
/-- in w the reader at b, made since W, has o -/
def RW (t : TypeId) (W : World) (b : Nat) (o : Option (List UInt8)) (w : World) : Prop :=
  ∃ G, RdrT t w b G (o.getD []) (erO o) ∧ W.heap.size ≤ b ∧ (∀ k ∈ G, k < b) ∧ Kept [] W w ∧ (o.getD []).length ≤ 1000000
section
variable {t : TypeId} {W w w' : World} {b : Nat} {o : Option (List UInt8)}
theorem RW.kept (h : RW t W b o w) : Kept [] W w := by obtain ⟨_, _, _, _, h, _⟩ := h; exact h
theorem RW.lt (h : RW t W b o w) : b < w.heap.size := by obtain ⟨_, ⟨⟨_, h, _⟩, _⟩, _⟩ := h; exact h.lt
theorem RW.ge (h : RW t W b o w) : W.heap.size ≤ b := by obtain ⟨_, _, h, _⟩ := h; exact h
theorem RW.other {S : List Nat} (h : RW t W b o w) (hk : Kept S w w') (hS : ∀ k ∈ S, b < k) : RW t W b o w' := by
  obtain ⟨G, h1, h2, h3, h4, h5⟩ := h
  exact ⟨G, h1.kept hk (fun hm => Nat.lt_irrefl _ (hS b hm)) (fun k hk' hm => Nat.lt_asymm (h3 k hk') (hS k hm)), h2, h3, h4.trans hk (fun i hi => .inr (by have := hS i hi; omega)), h5⟩
theorem RW.go (h : RW t W b o w) (hk : Kept [] w w') : RW t W b o w' := h.other hk (by simp)
theorem nk_le (o : Option (List UInt8)) (k : Nat) : ((nk o k).getD []).length ≤ (o.getD []).length := by
  cases o with
  | none => simp [nk]
  | some bs => simp only [nk]; split <;> simp
theorem tk_o (o : Option (List UInt8)) (k : Nat) : num (tk (o.getD []) (erO o) k).1 = gk o k ∧ (tk (o.getD []) (erO o) k).2.1 = (nk o k).getD [] ∧ (tk (o.getD []) (erO o) k).2.2 = erO (nk o k) := by
  cases o with
  | none => simp [tk, erO, gk, nk, num]
  | some bs =>
    have h0 : ¬ (k : Int) < 0 := by omega
    by_cases h : bs.length < k
    · have h' : (bs.length : Int) < k := by omega
      simp [tk, erO, gk, nk, h, h0, num]
    · have h' : ¬ (bs.length : Int) < k := by omega
      simp [tk, erO, gk, nk, h, h0]
theorem tkr_o (o : Option (List UInt8)) (k : Nat) : num (tkr (o.getD []) (erO o) k).1 = gk o k ∧ (tkr (o.getD []) (erO o) k).2.1 = (nk o k).getD [] ∧ (tkr (o.getD []) (erO o) k).2.2 = erO (nk o k) := by
  cases o with
  | none => simp [tkr, erO, gk, nk, num]
  | some bs =>
    have h0 : ¬ (k : Int) < 0 := by omega
    by_cases h : bs.length < k
    · have h' : (bs.length : Int) < k := by omega
      simp [tkr, erO, gk, nk, h, num]
    · have h' : ¬ (bs.length : Int) < k := by omega
      simp [tkr, erO, gk, nk, h]
theorem RW.step {G : List Nat} {k : Nat} {bs : List UInt8} {e : Int} (h2 : W.heap.size ≤ b) (h3 : ∀ k ∈ G, k < b) (h4 : Kept [] W w) (h5 : (o.getD []).length ≤ 1000000)
    (h : RdrT t w' b G bs e) (hk : Kept [b] w w') (hb : bs = (nk o k).getD []) (he : e = erO (nk o k)) : RW t W b (nk o k) w' := by
  subst hb he
  exact ⟨G, h, h2, h3, h4.trans hk (fun i hi => .inr (by simp at hi; omega)), Nat.le_trans (nk_le o k) h5⟩
end
section
variable {W w : World} {b : Nat} {o : Option (List UInt8)}
end
theorem gad_nat (o : Option (List UInt8)) : ((UInt32.ofNat (gk o 4)).toNat : Nat) = gk o 4 := by
  have := gk_lt o 4
  rw [UInt32.toNat_ofNat', Nat.mod_eq_of_lt (by omega)]

end Go.Proofs.Ytoibecclilmllaa
