
/-
  The arguments of the disk's laws.
-/
import Derived.Test.YthdjdfdefibepaaDkN
namespace Go.Proofs.Ythdjdfdefibepaa
open Go.RowKit Go.ChangeShapes Go.WideShapes Go.ChangeAt Go.Deep Go.MapKept
set_option linter.unusedVariables false
section
variable {H : Type} {enc : TypeId × Value → H} {w : World} {v : Value} {d : DataW H} {p : List MemPlace} {base : Nat}
set_option maxRecDepth 100000 in
theorem open_bytesD (hv : Value.okWide Try.prog w .any base 28 v) (h : DataW.Trod enc Try.prog w 0 (fun _ => true) true 28 v d p) :
    ∃ (A : Option Addr) (m c : Nat) (bs : List UInt8), v = .slice A m c ∧ RdB w (old w) (.slice A m c) bs := by
  obtain ⟨a0, len, cap, rfl⟩ := okWide_slice Try.underlying28 hv
  obtain ⟨fuel, hf⟩ := h
  obtain ⟨v, bs, e, hb, hbk, _⟩ := open_bytes Try.underlying28 hf
  have e : v = .slice a0 len cap := by simpa [Value.cells] using e.symm
  subst e
  exact ⟨a0, len, cap, bs, rfl, hb⟩
set_option maxRecDepth 100000 in
theorem open_u8D (hv : Value.okWide Try.prog w .any base 5 v) (h : DataW.Trod enc Try.prog w 0 (fun _ => true) true 5 v d p) : ∃ x : UInt8, v = .int .u8 x.toNat := by
  obtain ⟨n, rfl, rfl, rfl, hw⟩ := open_int Try.underlying5 hv h
  simp [Lit.wf, IntKind.min, IntKind.max, IntKind.signed, IntKind.bits] at hw
  refine ⟨UInt8.ofNat n.toNat, ?_⟩
  congr 1
  simp only [UInt8.toNat_ofNat']
  omega
set_option maxRecDepth 100000 in
theorem open_i64D (hv : Value.okWide Try.prog w .any base 3 v) (h : DataW.Trod enc Try.prog w 0 (fun _ => true) true 3 v d p) : ∃ x : Int, v = .int .i64 x ∧ -9223372036854775808 ≤ x ∧ x ≤ 9223372036854775807 := by
  obtain ⟨n, rfl, rfl, rfl, hw⟩ := open_int Try.underlying3 hv h
  simp [Lit.wf, IntKind.min, IntKind.max, IntKind.signed, IntKind.bits] at hw
  exact ⟨n, rfl, by omega, by omega⟩
end
theorem ReadNK {w0 w : World} {p : Nat} {D : DkD} (h : DkG w0 w p D) {x : Bs} (he : reaD D x = none) {s : ByteArray} (hs : strOf x = s) : Calls Try.prog 25 #[.pointer (some ⟨p, 0, none⟩), .string s] w fun r w' => r = .returned (.tuple #[.slice none 0 0, .bool false]) ∧ Kept [] w w' ∧ DkG w0 w' p D := by
  subst hs
  refine (ReadS h.1 h.2 x).mono ?_
  rintro r w' ⟨hk, hd, ⟨h1, rfl⟩ | ⟨b', A2, m2, c2, h1, rfl, hn⟩⟩
  · exact ⟨rfl, hk, hd, h.2⟩
  · rw [he] at h1; cases h1
end Go.Proofs.Ythdjdfdefibepaa
