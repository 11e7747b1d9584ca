
/-
  Contracts of octet.Reader's functions, on.
-/
import Derived.Test.YtoibecclilmllaaOctR
namespace Go.Proofs.Ytoibecclilmllaa
open Go.RowKit
set_option linter.unusedVariables false

theorem RdB.at {w : World} {G : List Nat} {A : Option Addr} {m c : Nat} {bs : List UInt8} (h : RdB w G (.slice A m c) bs) {k : Nat} (hk : k < m) :
    ∃ g o, A = some ⟨g, o, none⟩ ∧ w.cell? ⟨g, o + k, none⟩ = some (.int .u8 ((bs[k]?.getD 0).toNat : Int)) := by
  obtain ⟨A', m', c', e, h2, h3, h4, h5, h6, h7⟩ := h
  injection e with e1 e2 e3
  subst e1 e2 e3
  obtain ⟨g, o, rfl, hc⟩ := h5 (by intro h0; rw [u8s_nil h0] at h2; simp at h2; omega)
  refine ⟨g, o, rfl, hc k _ ?_⟩
  simp [u8s, List.getElem?_eq_getElem (show k < bs.length by omega)]

/-- bytes as a number, the highest first -/
def num (bs : List UInt8) : Nat := bs.foldl (fun n b => n * 256 + b.toNat) 0
theorem num_snoc (bs : List UInt8) (b : UInt8) : num (bs ++ [b]) = num bs * 256 + b.toNat := by simp [num]
theorem num_lt (bs : List UInt8) : num bs < 256 ^ bs.length := by
  have h : ∀ l : List UInt8, num l.reverse < 256 ^ l.length := by
    intro l
    induction l with
    | nil => simp [num]
    | cons b l ih =>
      rw [List.reverse_cons, num_snoc, List.length_cons, Nat.pow_succ]
      have := b.toNat_lt
      have h : (num l.reverse + 1) * 256 ≤ 256 ^ l.length * 256 := Nat.mul_le_mul_right _ ih
      omega
  simpa using h bs.reverse
theorem num_take (cs : List UInt8) (k : Nat) (h : k < cs.length) : num (cs.take (k + 1)) = num (cs.take k) * 256 + (cs[k]?.getD 0).toNat := by
  rw [List.take_succ_eq_append_getElem h, num_snoc, List.getElem?_eq_getElem h]; rfl
theorem or_step (y : Nat) (c : UInt8) (hy : y * 256 < 18446744073709551616) : bits .or .u64 (IntKind.u64.wrap ((y : Int) * 256)) (IntKind.u64.wrap (c.toNat : Int)) = ((y * 256 + c.toNat : Nat) : Int) := by
  have hc := c.toNat_lt
  rw [show (IntKind.u64.wrap ((y : Int) * 256)) = ((y * 256 : Nat) : Int) by rw [IntKind.wrap_u64]; omega, show IntKind.u64.wrap (c.toNat : Int) = (c.toNat : Int) by rw [IntKind.wrap_u64]; omega, u64_or_nat _ _ hy (by omega), nat_join 8 _ _ (by omega) (by simpa using hc)]
theorem pow256_le {k : Nat} (h : k ≤ 7) : 256 ^ k * 256 ≤ 18446744073709551616 := by
  rw [← Nat.pow_succ]; exact Nat.le_trans (Nat.pow_le_pow_right (by omega) (show k + 1 ≤ 8 by omega)) (by decide)
theorem tk_len (bs : List UInt8) (e : Int) (n : Nat) : (tk bs e n).1.length ≤ n := by
  unfold tk; split; simp; split; simp; simp; omega

/-- what End says -/
def endOf (bs : List UInt8) (e : Int) : Int := if e = 0 ∧ bs ≠ [] then 3 else e
end Go.Proofs.Ytoibecclilmllaa
