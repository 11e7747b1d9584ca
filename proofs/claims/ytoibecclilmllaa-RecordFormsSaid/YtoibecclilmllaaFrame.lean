
/-
  Contracts of frame's functions and of the reference's: Put, Same.
-/
import Derived.Test.YtoibecclilmllaaWv
import Derived.Test.YtoibecclilmllaaCrc
import Derived.Test.YtoibecclilmllaaRef1
import Derived.Test.YtoibecclilmllaaStr
import Derived.Lib.SlBytesConst
namespace Go.Proofs.Ytoibecclilmllaa
open Go.RowKit
set_option linter.unusedVariables false

/-- a frame -/
structure FrameD where
  kind : Int
  ver : Int
  body : List UInt8
instance : Inhabited FrameD := ⟨⟨0, 0, []⟩⟩
/-- the bytes that the first sum is of -/
def head8 (f : FrameD) : List UInt8 := [103, 111, 105, 116] ++ beK (nat64 f.kind) 1 1 ++ beK (nat64 f.ver) 1 1 ++ beK (nat64 f.body.length) 2 2
def putB (f : FrameD) : List UInt8 := head8 f ++ beK (crc (head8 f)) 4 4 ++ beK (crc f.body) 4 4 ++ f.body
def putE (f : FrameD) : Int := if f.kind < 0 ∨ 255 < f.kind ∨ f.ver < 0 ∨ 255 < f.ver then 1 else if 4096 < f.body.length then 4 else 0
def putF (f : FrameD) : List UInt8 := if putE f = 0 then putB f else []
theorem head8_len (f : FrameD) : (head8 f).length = 8 := by simp [head8, beK_len]
theorem putB_len (f : FrameD) : (putB f).length = 16 + f.body.length := by simp [putB, head8_len, beK_len]; omega

theorem RdB.litf (w : World) (fr : Nat × Nat) (cs : List UInt8) (n : Nat) (h : cs.length = n) (hn : n ≤ maxLen) : RdB (w.alloc (.cells (u8s cs).toArray 5 fr)) [w.heap.size] (.slice (some ⟨w.heap.size, 0, none⟩) n n) cs :=
  ⟨_, n, n, rfl, h, Nat.le_refl _, hn, fun _ => ⟨_, _, rfl, fun j u hu => by rw [Nat.zero_add, cell_of_row _ _ j _ _ fr (heap_alloc_new w _)]; simpa using hu⟩, by simp [addrOf], by simp⟩
theorem RdB.lit (w : World) (cs : List UInt8) (n : Nat) (h : cs.length = n) (hn : n ≤ maxLen) : RdB (w.alloc (.cells (u8s cs).toArray 5)) [w.heap.size] (.slice (some ⟨w.heap.size, 0, none⟩) n n) cs :=
  ⟨_, n, n, rfl, h, Nat.le_refl _, hn, by simpa using Rd.new w (u8s cs).toArray 5, by simp [addrOf], by simp⟩

theorem WV.start1 (w : World) (o : Obj) : WV w (w.heap.size + 1) [] ((w.alloc o).alloc (.cells #[.slice none 0 0] 54)) := by
  have h := WV.start ((Kept.refl [] w).alloc o)
  rwa [World.size_alloc] at h
end Go.Proofs.Ytoibecclilmllaa
