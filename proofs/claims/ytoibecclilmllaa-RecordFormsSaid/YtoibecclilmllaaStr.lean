
/-
  Bytes turned into a string.
-/
import Derived.Test.YtoibecclilmllaaOctR
import Derived.Laws.BytesArg
namespace Go.Proofs.Ytoibecclilmllaa
open Go.RowKit
set_option linter.unusedVariables false

def strOf (bs : List UInt8) : ByteArray := ⟨bs.toArray⟩
theorem strOf_inj {a b : List UInt8} (h : strOf a = strOf b) : a = b := by
  have := congrArg (fun s : ByteArray => s.data.toList) h
  simpa [strOf] using this
theorem strOf_toList (l : List UInt8) : (strOf l).toList = l := by rw [ByteArray.toList_eq]; simp [strOf]
set_option maxRecDepth 100000 in
theorem run_str {w : World} {G : List Nat} {A : Option Addr} {m c : Nat} {bs : List UInt8} (h : RdB w G (.slice A m c) bs) :
    (convert 37 9 (.slice A m c)).run Try.prog w = .ok (.string (strOf bs)) w := by
  obtain ⟨A', m', c', e, h2, h3, h4, h5, h6, h7⟩ := h
  injection e with e1 e2 e3
  subst e1 e2 e3
  by_cases hb : bs = []
  · subst hb
    obtain rfl : m = 0 := by simpa using h2.symm
    cases A with
    | none => exact run_convert_bytes_nil w _ _ Try.underlying37 Try.underlying5 0 c _ Try.underlying9
    | some a =>
      rw [run_convert_bytes_string w _ _ _ _ 0 c Try.underlying37 Try.underlying5 Try.underlying9]
      have := run_bytesToString (P := Try.prog) w a 0 c [] (by simp [loadCells, loadCellsFrom])
      simpa [strOf] using this.trans (by rfl)
  · obtain ⟨g, o, rfl, hc⟩ := h5 (by intro h0; exact hb (u8s_nil h0))
    have := run_convert_bytes_arg w 37 5 Try.underlying37 Try.underlying5 g o m c (bs.map fun b => (b.toNat : Int)) (by simp [h2]) (fun i hi => by
      have hib : i < bs.length := by omega
      rw [hc i (u8v bs[i]) (by simp [u8s, hib])]
      simp [List.getD, hib]) _ Try.underlying9
    rw [this]
    congr 2
    unfold strOf strOfNums
    congr 1
    simp only [List.map_map]
    congr 1
    have : ((fun n : Int => UInt8.ofNat n.toNat) ∘ fun b : UInt8 => (b.toNat : Int)) = id := by funext b; simp
    rw [this, List.map_id]
end Go.Proofs.Ytoibecclilmllaa
