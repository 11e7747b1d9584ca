
/-
  Contracts of octet's functions.
-/
import Derived.Test.YtdabbkkjmmbigaaBase
import Derived.Test.YtdabbkkjmmbigaaRows
import Derived.Deep.RegionHeld3
import Derived.Deep.RegionLaw
import Derived.Deep.LoopGhost
import Derived.Outline
namespace Go.Proofs.Ytdabbkkjmmbigaa
open Go.RowKit
set_option linter.unusedVariables false

abbrev u8v (b : UInt8) : Value := .int .u8 (b.toNat : Int)
def u8s (bs : List UInt8) : List Value := bs.map u8v
theorem u8s_len (bs : List UInt8) : (u8s bs).length = bs.length := by simp [u8s]
theorem u8s_app (a b : List UInt8) : u8s (a ++ b) = u8s a ++ u8s b := by simp [u8s]
theorem u8s_one (bs : List UInt8) : ∀ u ∈ u8s bs, u.oneCell' = true := by
  intro u hu; obtain ⟨_, _, rfl⟩ := List.mem_map.1 hu; rfl
theorem info_u8 : (Try.prog.info? 5).map (fun i => (i.zero, i.size, i.bytes)) = some (some (.int .u8 0), 1, 1) := by kernel_rfl

theorem wrap_u8 (n : Nat) : IntKind.u8.wrap (n : Int) = ((UInt8.ofNat n).toNat : Int) := by
  rw [IntKind.wrap_u8]; simp
theorem shr_u8 (x width k : Nat) (h : k < width) : IntKind.u8.wrap ((x : Int) / 2 ^ (8 * ((width : Int) - 1 - k)).toNat) = ((UInt8.ofNat (x / 2 ^ (8 * (width - 1 - k)))).toNat : Int) := by
  rw [show (8 * ((width : Int) - 1 - k)).toNat = 8 * (width - 1 - k) by omega, ← wrap_u8]; congr 1
/-- the first k of the bytes of x as a number of so many bytes -/
def beK (x width k : Nat) : List UInt8 := (List.range k).map fun i => UInt8.ofNat (x / 2 ^ (8 * (width - 1 - i)))
theorem beK_succ (x width k : Nat) : beK x width (k + 1) = beK x width k ++ [UInt8.ofNat (x / 2 ^ (8 * (width - 1 - k)))] := by simp [beK, List.range_succ]
theorem beK_len (x width k : Nat) : (beK x width k).length = k := by simp [beK]
end Go.Proofs.Ytdabbkkjmmbigaa
