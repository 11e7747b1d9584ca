
/-
  Readers of the call's own; a tuple read.
-/
import Derived.Test.YtflbeipnnmeiaaaRecF
import Derived.Test.YtflbeipnnmeiaaaRecD
import Derived.Test.YtflbeipnnmeiaaaRef1R
import Derived.Test.YtflbeipnnmeiaaaBlk
namespace Go.Proofs.Ytflbeipnnmeiaaa
open Go.RowKit Go.ChangeShapes Go.WideShapes Go.Deep
set_option linter.unusedVariables false

def erO (o : Option (List UInt8)) : Int := if o.isSome then 0 else 2
/-- in w the reader at b, made since W, has o -/
def RW (t : TypeId) (W : World) (b : Nat) (o : Option (List UInt8)) (w : World) : Prop :=
  ∃ G, RdrT t w b G (o.getD []) (erO o) ∧ W.heap.size ≤ b ∧ (∀ k ∈ G, k < b) ∧ Kept [] W w ∧ (o.getD []).length ≤ 1000000
abbrev RWo := RW 69
abbrev RWr := RW 58
section
variable {t : TypeId} {W w w' : World} {b : Nat} {o : Option (List UInt8)}
theorem RW.kept (h : RW t W b o w) : Kept [] W w := by obtain ⟨_, _, _, _, h, _⟩ := h; exact h
theorem RW.lt (h : RW t W b o w) : b < w.heap.size := by obtain ⟨_, ⟨⟨_, h, _⟩, _⟩, _⟩ := h; exact h.lt
theorem RW.ge (h : RW t W b o w) : W.heap.size ≤ b := by obtain ⟨_, _, h, _⟩ := h; exact h
theorem RW.other {S : List Nat} (h : RW t W b o w) (hk : Kept S w w') (hS : ∀ k ∈ S, b < k) : RW t W b o w' := by
  obtain ⟨G, h1, h2, h3, h4, h5⟩ := h
  exact ⟨G, h1.kept hk (fun hm => Nat.lt_irrefl _ (hS b hm)) (fun k hk' hm => Nat.lt_asymm (h3 k hk') (hS k hm)), h2, h3, h4.trans hk (fun i hi => .inr (by have := hS i hi; omega)), h5⟩
theorem RW.go (h : RW t W b o w) (hk : Kept [] w w') : RW t W b o w' := h.other hk (by simp)
theorem nk_le (o : Option (List UInt8)) (k : Nat) : ((nk o k).getD []).length ≤ (o.getD []).length := by
  cases o with
  | none => simp [nk]
  | some bs => simp only [nk]; split <;> simp
theorem tk_o (o : Option (List UInt8)) (k : Nat) : num (tk (o.getD []) (erO o) k).1 = gk o k ∧ (tk (o.getD []) (erO o) k).2.1 = (nk o k).getD [] ∧ (tk (o.getD []) (erO o) k).2.2 = erO (nk o k) := by
  cases o with
  | none => simp [tk, erO, gk, nk, num]
  | some bs =>
    have h0 : ¬ (k : Int) < 0 := by omega
    by_cases h : bs.length < k
    · have h' : (bs.length : Int) < k := by omega
      simp [tk, erO, gk, nk, h, h0, num]
    · have h' : ¬ (bs.length : Int) < k := by omega
      simp [tk, erO, gk, nk, h, h0]
theorem tkr_o (o : Option (List UInt8)) (k : Nat) : num (tkr (o.getD []) (erO o) k).1 = gk o k ∧ (tkr (o.getD []) (erO o) k).2.1 = (nk o k).getD [] ∧ (tkr (o.getD []) (erO o) k).2.2 = erO (nk o k) := by
  cases o with
  | none => simp [tkr, erO, gk, nk, num]
  | some bs =>
    have h0 : ¬ (k : Int) < 0 := by omega
    by_cases h : bs.length < k
    · have h' : (bs.length : Int) < k := by omega
      simp [tkr, erO, gk, nk, h, num]
    · have h' : ¬ (bs.length : Int) < k := by omega
      simp [tkr, erO, gk, nk, h]
theorem RW.step {G : List Nat} {k : Nat} {bs : List UInt8} {e : Int} (h2 : W.heap.size ≤ b) (h3 : ∀ k ∈ G, k < b) (h4 : Kept [] W w) (h5 : (o.getD []).length ≤ 1000000)
    (h : RdrT t w' b G bs e) (hk : Kept [b] w w') (hb : bs = (nk o k).getD []) (he : e = erO (nk o k)) : RW t W b (nk o k) w' := by
  subst hb he
  exact ⟨G, h, h2, h3, h4.trans hk (fun i hi => .inr (by simp at hi; omega)), Nat.le_trans (nk_le o k) h5⟩
end
section
variable {W w : World} {b : Nat} {o : Option (List UInt8)}
theorem DU8 (h : RWo W b o w) : Calls Try.prog 37 #[.pointer (some ⟨b, 0, none⟩)] w fun e w' => e = .returned (.int .i64 (gk o 1 : Nat)) ∧ RWo W b (nk o 1) w' ∧ Kept [b] w w' := by
  obtain ⟨G, h1, h2, h3, h4, h5⟩ := h
  have e := tk_o o 1
  refine (RU8_any w b G _ _ h1).mono ?_
  rintro en w' ⟨rfl, g1, g2⟩
  exact ⟨by rw [← e.1]; rfl, RW.step h2 h3 h4 h5 g1 g2 e.2.1 e.2.2, g2⟩
theorem DU16 (h : RWo W b o w) : Calls Try.prog 24 #[.pointer (some ⟨b, 0, none⟩)] w fun e w' => e = .returned (.int .i64 (gk o 2 : Nat)) ∧ RWo W b (nk o 2) w' ∧ Kept [b] w w' := by
  obtain ⟨G, h1, h2, h3, h4, h5⟩ := h
  have e := tk_o o 2
  refine (RU16_any w b G _ _ h1).mono ?_
  rintro en w' ⟨rfl, g1, g2⟩
  exact ⟨by rw [← e.1]; rfl, RW.step h2 h3 h4 h5 g1 g2 e.2.1 e.2.2, g2⟩
theorem DU32 (h : RWo W b o w) : Calls Try.prog 23 #[.pointer (some ⟨b, 0, none⟩)] w fun e w' => e = .returned (.int .u32 (gk o 4 : Nat)) ∧ RWo W b (nk o 4) w' ∧ Kept [b] w w' := by
  obtain ⟨G, h1, h2, h3, h4, h5⟩ := h
  have e := tk_o o 4
  refine (RU32_any w b G _ _ h1).mono ?_
  rintro en w' ⟨rfl, g1, g2⟩
  exact ⟨by rw [← e.1]; rfl, RW.step h2 h3 h4 h5 g1 g2 e.2.1 e.2.2, g2⟩
theorem DRaw (h : RWo W b o w) (k : Nat) : Calls Try.prog 36 #[.pointer (some ⟨b, 0, none⟩), .int .i64 (k : Int)] w fun e w' => ∃ v, e = .returned v ∧ RWo W b (nk o k) w' ∧ Kept [b] w w' := by
  obtain ⟨G, h1, h2, h3, h4, h5⟩ := h
  have e := tk_o o k
  refine (RRaw_any w b G _ _ k h1 (by omega)).mono ?_
  rintro en w' ⟨v, rfl, -, -, g1, g2⟩
  exact ⟨v, rfl, RW.step h2 h3 h4 h5 g1 g2 e.2.1 e.2.2, g2⟩
theorem DEnd (h : RWo W b o w) : Calls Try.prog 25 #[.pointer (some ⟨b, 0, none⟩)] w fun e w' => e = .returned (.int .i64 (endOf (o.getD []) (erO o))) ∧ w = w' := by
  obtain ⟨G, h1, h2, h3, h4, h5⟩ := h
  exact End_any w b G _ _ h1
theorem EU16 (h : RWr W b o w) : Calls Try.prog 29 #[.pointer (some ⟨b, 0, none⟩)] w fun e w' => e = .returned (.int .i64 (gk o 2 : Nat)) ∧ RWr W b (nk o 2) w' ∧ Kept [b] w w' := by
  obtain ⟨G, h1, h2, h3, h4, h5⟩ := h
  have e := tkr_o o 2
  refine (rRU16_any w b G _ _ h1 (by omega)).mono ?_
  rintro en w' ⟨rfl, g1, g2⟩
  exact ⟨by rw [← e.1]; rfl, RW.step h2 h3 h4 h5 g1 g2 e.2.1 e.2.2, g2⟩
theorem EU32 (h : RWr W b o w) : Calls Try.prog 28 #[.pointer (some ⟨b, 0, none⟩)] w fun e w' => e = .returned (.int .u32 (gk o 4 : Nat)) ∧ RWr W b (nk o 4) w' ∧ Kept [b] w w' := by
  obtain ⟨G, h1, h2, h3, h4, h5⟩ := h
  have e := tkr_o o 4
  refine (rRU32_any w b G _ _ h1 (by omega)).mono ?_
  rintro en w' ⟨rfl, g1, g2⟩
  exact ⟨by rw [← e.1]; rfl, RW.step h2 h3 h4 h5 g1 g2 e.2.1 e.2.2, g2⟩
theorem EEnd (h : RWr W b o w) : Calls Try.prog 30 #[.pointer (some ⟨b, 0, none⟩)] w fun e w' => e = .returned (.int .i64 (endOf (o.getD []) (erO o))) ∧ w = w' := by
  obtain ⟨G, h1, h2, h3, h4, h5⟩ := h
  exact rEnd_any w b G _ _ h1
end
theorem gad_nat (o : Option (List UInt8)) : ((UInt32.ofNat (gk o 4)).toNat : Nat) = gk o 4 := by
  have := gk_lt o 4
  rw [UInt32.toNat_ofNat', Nat.mod_eq_of_lt (by omega)]

end Go.Proofs.Ytflbeipnnmeiaaa
